/- For OfficeNone. -/
import Derived.Test.YtogaibncbkhjlaaGreatDoorPo8
noncomputable section
section
set_option maxRecDepth 100000
set_option maxHeartbeats 4000000
namespace Go.Proofs.YtogaibncbkhjlaaGreatDoor
open Go.Dec Go.Proofs.Tryz Go.Shelf Go.RowKit Go.Maps Go.Sort
section
variable{O:Option Nat}{β:Type}{P:Program}{ops:Array Oper}{l0:List Oper}{ks:List Kt}{Q:Exit->Act->World->Prop}{m:Option β}{r:β}{n:Nat}{D:List Deferred}{S:List (Nat×Value)}{F:Fz}{hs:List HP}{L:QA}
theorem _root_.Go.Dec.GL.dJ(k:GL O P ops l0 ks Q (Hd n D S F (CI::hs)) m r):GL O P ops l0 ks Q (Hd n D S F hs) m r:=GG.ins (λ_=>trivial) k
theorem _root_.Go.Dec.GL.bn{v:Value}(i:Nat)(hi:hs[i]? =some (yQ F L v))(k:∀q:QL,UD 109 Kc F q.1 L.rules->v= .agg (Cw L q).toArray->GL O P ops l0 ks Q (Hd n D S F (jw F L q++hs.eraseIdx i)) m r):GL O P ops l0 ks Q (Hd n D S F hs) m r:=GG.xZ i hi λq h=>k q h.1 h.2
theorem _root_.Go.Dec.GL.dq{U:JW}(i:Nat)(hi:hs[i]? =some (Jl U F L))(k:∀q:QL,UD 109 Kc F q.1 L.rules->GL O P ops l0 ks Q (Hd n D S F ([pc U.g31 (Cw L q) 31,ET 8 (Ex QM) F 67 q.2.1 q.2.2.1 L.casks,ET 6 (Ex QO) F 70 q.2.2.2.1 q.2.2.2.2.1 L.duties,ET 4 (Ex QP) F 93 q.2.2.2.2.2.1 q.2.2.2.2.2.2.1 L.stamps,QU Sh kp F q.2.2.2.2.2.2.2.1 L.batches,QU Sh ko F q.2.2.2.2.2.2.2.2 L.pure]++hs.eraseIdx i)) m r):GL O P ops l0 ks Q (Hd n D S F hs) m r:=GG.xZ i hi λq h=>k q h
end
theorem Ig{w:World}{F F0:Fz}{b4 b5:Nat}{c4 c5:List Value}{U:JW}{A:List Zb}{R:HP}(le:F0<=F)(h:SH w F (Qj [pc b4 c4 9,pc b5 c5 35,Bi U F0 A,R])):SH w F (star (Qj [Bi U F A]) R):=
 have h1:=SH.push (k:=2) rfl ((h.pull (k:=2) rfl).xT (Gh U) le)
 h1.mono λ_ hm=>W0 (Y6 (Y2 (ks:=[2,2]) hm))
def WY(A:List Zb)(i:Nat)(x:Zb)(word:List UInt8)(n:List Int)(d:QW):Option (List UInt8×Int×List Zb):=
 (Vu d.form (n.length:Int)).bind λok=>Qy (ZZ ok 8) (λq=>some ([],q.e,A)) λ_=>
 (if(!x.ledgers.rules.isNone) then some true else some (word==([100,97,121]:List UInt8))).bind λa=>(if a then some true else some (word==([114,117,108,101,115]:List UInt8))).bind λz2=>
 Qy (ZZ z2 6) (λq=>some ([],q.e,A)) λ_=>(J5 x.ledgers).bind λL=>Qy (d.do_ (L,(),n)) (λq=>some ([],q.e,A)) λs=>some (s.1,0,A.set i {x with ledgers:=s.2})
def X8(A:List Zb)(o:ON)(line:List UInt8):Option (List UInt8×Int×List Zb):=
 (if o.isNone then some true else(o.bind λi=>(A[i]?).bind λx=>some (!x.open_))).bind λz=>if z then some ([],13,A) else
 if decide ((line.length:Int) > 1000) then some ([],3,A) else
 o.bind λi=>(A[i]?).bind λx=>Qy (VM (Zf.mk line) ()) (λq=>some ([],q.e,A)) λw=>
 WX.bind λD=>match Qc D w.1 with
  | none=>some ([],8,A)
  | some d=>WY A i x w.1 w.2.1 d
theorem Lz(F0:Fz)(hT:XQ F0)(U:JW)(A:List Zb)(o:ON)(p:Option Addr)(k:Unit)(h:ZL U.g33 F0 p o)(line:List UInt8):
  Xe Tryz.prog 5 [.pointer p,.string (bs line)].toArray F0 [Bi U F0 A] (X8 A o line) (λr _ v=>v= .tuple #[.string (bs r.1),vI r.2.1]) (λr F' =>[Bi U F' r.2.2]):=by
 refine Xe.bD func5 J ntmps5 J λr R=> ?_;refine .o (Sub.refl _) (J:_=[Bi U F0 A,R]) ?_;unfold X8;refine .q (.g (.l (cs:=[.string (bs [])]) J Tryz.zeroValue9 J (λj=>.l (cs:=[vI 0]) J vf J (λu=>.n (.c (.q (.k (.q (.g (.m J J (.xH h J vW J J (.m J J (.orM (b:=o.isNone) 6 20 (λC aq=> ?_) (λE=> ?_) (λz F1 a=> ?_))))))))))))))
 ·refine .uk C J J (.m J J (.uk C J J (.d (λi e=> ?_))));obtain⟨bo,hbo,hpo⟩:=h.at e;refine .J hpo J J (.uk C J J (.f J qa J W4 J (.uk C J J (.d (λx ex=>.um (Φ:=λv=>v=(.bool x.open_)) 2 J Fz.r hbo ex J V4 J (λvs ⟨P,q1,W,X,Y,Z,q6,q7,q8,q9,aD,aV,h,Q,r1,r2,r3,r4,r5⟩=>⟨_,by subst h;exact J,J⟩) (λv hv=> ?_))))));subst hv;refine .uk C J J (.not J J (.uo C J J J ?_));exact .w5 6 J J (by kernel_rfl) Fz.r
 ·refine .I E J J J (.I E J J J (.I E J J J (.I E J J J (.I E J J J (.ui E J J J ?_)))));exact .fin 6 J J (by kernel_rfl) Fz.r
 refine .s J J (.n (.c (.i J (λhz=> ?_) (λhz=> ?_))))
 ·refine .q (.g (.store (cs' :=[.string (bs [])]) W9 J J J J (i:=1) J (JJ J) J J (.store (cs' :=[vI 13]) Mv J J J J (i:=0) J (JJ J) J J (.n (.c (.u3 2 (Gh U) a J ?_))))));exact .wN (Xp (U:=()) [2,2] results5 (.cell J V9 (i:=1) J J (.cell J RM (i:=0) J J .nil)) J a J)
 refine .q (.g (.m J J (.wZ J J U9 J (.gtr J J J (.s J J (.n (.c (.i J (λhl=> ?_) (λhl=> ?_)))))))))
 ·refine .q (.g (.store (cs' :=[.string (bs [])]) W9 J J J J (i:=1) J (JJ J) J J (.store (cs' :=[vI 3]) Mv J J J J (i:=0) J (JJ J) J J (.n (.c (.u3 2 (Gh U) a J ?_))))));exact .wN (Xp (U:=()) [2,2] results5 (.cell J V9 (i:=1) J J (.cell J RM (i:=0) J J .nil)) J a J)
 refine .skip (.d λi e=> ?_);obtain⟨bo,hbo,hpo⟩:=h.at e;refine .d (λx ex=>.k (.c (.q (.g (.makeFunc J J (.defer J (.n (.c (.q (.g (.m J J (.build (cs:=(UZ (Zf.mk line)).toArray) J vm Tryz.zeroValue51 (PL _ vm) J J (by kernel_rfl) (.box (cs:=UZ (Zf.mk line)) J J J (λb=>.fG (U:={U with g51:=b}) (L:=Zf.mk line) [0] J ?_))))))))))))));refine .ur [0] J call12 J J J J (BW _ (hT.mono a) {U with g51:=b} (Zf.mk line) ()) ?_ (λq F2 _ l2=>GA (U:=()) call11 (YJ _ j [] u 0) [1,0] J results5 (λ_ _=>.cell J V9 (i:=0) J J (.cell J RM (i:=1) J J .nil)) (Fz.t a l2) (λF'' w le hw=>Ig (Fz.t a (Fz.t l2 le)) hw) (λ_=>J));rintro⟨word,n,rd⟩ F2 _ - l2 ⟨p7,k7,rfl,h7⟩;refine .pick [1,1,1,1] (J:_=[pc u [vI 0] 35,pc j [.string (bs [])] 9,Bi U F0 A,R]) (.m J J (.x J J J (.x J J J (.s J J (.s J J (.n (.c (.q (.g ?_)))))))));refine .uw J call13 J J J (P7 _ (hT.mono (Fz.t a l2))) ?_;rintro D F3 _ - F ⟨pm,km,rfl,hm⟩;have h7' :=h7.mono F;show GL _ _ _ _ _ _ _ (match Qc D word with | none=>some ([],8,A) | some d=>WY A i x word n d) r;cases hg:Qc D word with
 | none=>
  refine .m J J (.gO hm J RN (.str U9) Tf J J (λ_=> ?_) (λx v hx=>by rw[hg] at hx;cases hx));refine .m J J (.x J J J (.x J J J (.l (cs:=[.int .i64 0,.int .i64 0,.nilFunc]) J Tf J (λG=> ?_))));refine .store (cs' :=[.int .i64 0,.int .i64 0,.nilFunc]) Tryz.sizeOf57 J J J J (i:=0) J (JJ J) J J (.s J J (.n (.c (.q (.g (.m J J (.m J J (.off J J J J (.off J J J J (.off J J J J (.off J J J J (.off J J J J (.wi J J J ?_)))))))))))));exact .gC (he:=(J:ZZ false 8=some (.pan (Qm.mk 8)))) [] J call14 J J J J (Ke _ false 8) (λF4 B=>GA (U:=()) call11 (YJ _ j [] u 0) [2,1] J results5 (λ_ _=>.cell J V9 (i:=0) J J (.cell J RM (i:=1) J J .nil)) (Fz.t a (Fz.t l2 (Fz.t F B))) (λF'' w le hw=>Ig (Fz.t a (Fz.t l2 (Fz.t F (Fz.t B le)))) (SH.wP [0,0,1,1] J hw)) (λ_=>J))
 | some d=>
  refine .m J J (.gO hm J RN (.str U9) Tf J J (λh0=>by rw[hg] at h0;cases h0) (λx0 v hx hv=> ?_));rw[hg] at hx
  obtain rfl:=Option.some.inj hx;obtain⟨fd,kd,rfl,hfd⟩:=hv;show GL _ _ _ _ _ _ _ (WY A i x word n d) r;unfold WY;refine .m J J (.x J J J (.x J J J (.l (cs:=[.int .i64 0,.int .i64 0,.nilFunc]) J Tf J (λG=> ?_))));refine .store (cs' :=Ze d fd kd) Tryz.sizeOf57 J J J J (i:=0) J (JJ J) J (Qa (by rfl)) (.s J J (.n (.c (.q (.g (.m J J (.m J J (.on J J (.f J FB J Tryz.sizeOf54 J (.on J J (.ux J Tryz.isAgg54 Tryz.sizeOf54 J (i:=0) J (vs:=Zw d.form) (by kernel_rfl) J (.on J J (.m J J (.on J J (.wI J J V2 J (.on J J (.uw J call15 J J J (Cy _ d.form (n.length:Int)) ?_)))))))))))))))));rintro ok F4 _ - B rfl;refine .xY J J J (.ur [] J call14 J J J J (Ke _ ok 8) ?_ (λq F5 _ S=>GA (U:=()) call11 (YJ _ j [] u 0) [2,1] J results5 (λ_ _=>.cell J V9 (i:=0) J J (.cell J RM (i:=1) J J .nil)) (Fz.t a (Fz.t l2 (Fz.t F (Fz.t B S)))) (λF'' w le hw=>Ig (Fz.t a (Fz.t l2 (Fz.t F (Fz.t B (Fz.t S le))))) (SH.wP [0,0,1,1] J hw)) (λ_=>J)));rintro _ F5 _ - S rfl;refine .pick [0,0,0,0,0] (J:_=[pc G (Ze d fd kd) 57,pc u [vI 0] 35,pc j [.string (bs [])] 9,Bi U F0 A,R]) (.n (.c (.q (.ug (.p [0,4,5,6,7,8] J) (.g (.m J J (.J hpo J J (.f J qa J kX J (.f J X4 J yx J ?_)))))))));have lA:F0<=F5:=Fz.t a (Fz.t l2 (Fz.t F (Fz.t B S)));refine .um (Φ:=λv=>∃p,v= .pointer p/\UD 109 Kc F5 p x.ledgers.rules) 3 J lA (hbo.mono lA) ex J vl J (λvs ⟨P,q1,W,X,Y,Z,q6,q7,q8,q9,aD,aV,h,Q,r1,r2,r3,r4,r5⟩=>⟨_,by subst h;exact J,P,J,Q⟩) (λv hv=> ?_);obtain⟨pr,rfl,hpr⟩:=hv;refine .fe hpr J uV J J (.m J J (.orM (b:=(!x.ledgers.rules.isNone)) 3 57 (λhb z=> ?_) (λhb=> ?_) (λz1 F6 l6=> ?_)))
  ·refine .uk hb J J (.m J J (.uk hb J J (.fj J U9 J J (.uo hb J J J ?_))));exact .w5 3 J J (by kernel_rfl) Fz.r
  ·refine .I hb J J J (.I hb J J J (.ui hb J J J ?_));exact .fin 3 J J (by kernel_rfl) Fz.r
  refine .m J J (.orM (b:=z1) 3 61 (λhb z=> ?_) (λhb=> ?_) (λz2 F7 l7=> ?_))
  ·refine .uk hb J J (.m J J (.uk hb J J (.fj J U9 J J (.uo hb J J J ?_))));exact .w5 3 J J (by kernel_rfl) Fz.r
  ·refine .I hb J J J (.I hb J J J (.ui hb J J J ?_));exact .fin 3 J J (by kernel_rfl) Fz.r
  have lB:F0<=F7:=Fz.t lA (Fz.t l6 l7);refine .ur [] J call14 J J J J (Ke _ z2 6) ?_ (λq y _ T=>GA (U:=()) call11 (YJ _ j [] u 0) [2,1] J results5 (λ_ _=>.cell J V9 (i:=0) J J (.cell J RM (i:=1) J J .nil)) (Fz.t lB T) (λF'' w le hw=>Ig (Fz.t lB (Fz.t T le)) (SH.wP [0,0,1,1] J hw)) (λ_=>J));rintro _ y _ - T rfl;have lC:F0<=y:=Fz.t lB T;refine .pick [0,0,0,0,0] (J:_=[pc G (Ze d fd kd) 57,pc u [vI 0] 35,pc j [.string (bs [])] 9,Bi U F0 A,R]) (.n (.c (.q (.ug (.p [0,4,5,6,7,8] J) (.g (.m J J (.J hpo J J (.f J qa J kX J ?_))))))));refine .wy (Φ:=λus=>∃p0 p1 k1 p2 k2 p3 k3 p4 p5,us=Qg x.ledgers p0 () p1 k1 p2 k2 p3 k3 p4 () p5 ()/\UD 109 Kc y p0 x.ledgers.rules/\QH 8 (Ex QM) y p1 k1 x.ledgers.casks/\QH 6 (Ex QO) y p2 k2 x.ledgers.duties/\QH 4 (Ex QP) y p3 k3 x.ledgers.stamps/\Uf Sh kp y p4 x.ledgers.batches/\Uf Sh ko y p5 x.ledgers.pure) 3 J lC (hbo.mono lC) ex J Tryz.isAgg31 kX J (λvs ⟨P,q1,W,X,Y,Z,q6,q7,q8,q9,aD,aV,h,Q,r1,r2,r3,r4,r5⟩=>⟨_,by subst h;rfl,J,P,W,X,Y,Z,q6,q7,q8,aD,J,Q,r1,r2,r3,r4,r5⟩) (λus hus=> ?_);obtain⟨p0,p1,k1,p2,k2,p3,k3,p4,p5,rfl,g0,g1,g2,g3,g4,g5⟩:=hus;refine .dJ (.xD J call16 J J J (i:=0) J (Fa _ x.ledgers p0 p1 k1 p2 k2 p3 k3 p4 p5 g0 g1 g2 g3 g4 g5) (λL F9 v _ l9 _=>.bn 0 J (λq aY hv=> ?_)));subst hv;refine .l (cs:=zL) J vu J (λV=>.store (cs' :=Cw L q) kX J J J J (i:=0) J (JJ J) J (Qa (by rfl)) (.wG (U:={U with g31:=V}) (L:=L) [0,0,0,0,0,0] aY Fz.r Fz.r Fz.r Fz.r Fz.r J ?_));have lD:F0<=F9:=Fz.t lC l9;have lE:F3<=F9:=Fz.t B (Fz.t S (Fz.t l6 (Fz.t l7 (Fz.t T l9))));refine .pick [0,0,0,0,0,0] (J:_=[Qu {U with g31:=V} F9 L,pc G (Ze d fd kd) 57,pc u [vI 0] 35,pc j [.string (bs [])] 9,Bi U F0 A,R]) (.n (.c (.q (.ug (.p [0,4,5,7,8,10] J) (.g (.f J FB J Tryz.sizeOf55 J (.j J Tryz.isAgg55 J (i:=1) J J (.m J J ?_))))))));refine .fw [0] J ((hfd.mono lE) {U with g31:=V}) J J ⟨p7,k7,J,h7'.mono lE⟩ J J ?_ (λq aZ _ l10=>GA (U:=()) call11 (YJ _ j [] u 0) [2,1] J results5 (λ_ _=>.cell J V9 (i:=0) J J (.cell J RM (i:=1) J J .nil)) (Fz.t lD l10) (λF'' w le hw=>Ig (Fz.t lD (Fz.t l10 le)) (SH.wP [0,0,1,1] J hw)) (λ_=>J));rintro⟨rep,L'⟩ aZ _ - l10 rfl;have lF:F0<=aZ:=Fz.t lD l10;refine .pick [0,0,0,0,0,0] (J:_=[Jl {U with g31:=V} aZ L',pc G (Ze d fd kd) 57,pc u [vI 0] 35,pc j [.string (bs [])] 9,Bi U F0 A,R]) (.store (cs' :=[.string (bs rep)]) W9 J J J J (i:=3) J (JJ J) J J (.n (.c (.q (.ug (.p [0,4,5,10] J) (.g (.m J J (.dq 0 J (λq aY=> ?_)))))))));refine .ux J Tryz.isAgg31 kX J (i:=0) J (vs:=Cw L' q) (by kernel_rfl) J (.xQ 1 J Fz.r (λaw H f1=>.xQ 1 J H (λax I f2=>.xQ 1 J (Fz.t H I) (λay K f3=>.wU 1 J (Fz.t H (Fz.t I K)) (λaz M f4=>.wU 1 J (Fz.t H (Fz.t I (Fz.t K M))) (λao N f5=> ?_))))));have lG:F0<=ao:=Fz.t lF (Fz.t H (Fz.t I (Fz.t K (Fz.t M N))));have f0:=aY.mono (Fz.t H (Fz.t I (Fz.t K (Fz.t M N))));have f1' :=f1.mono (Fz.t I (Fz.t K (Fz.t M N)));have f2' :=f2.mono (Fz.t K (Fz.t M N));have f3' :=f3.mono (Fz.t M N);have f4' :=f4.mono N;refine .pick [0,0,0,0,0,0] (J:_=[pc V (Cw L' q) 31,pc G (Ze d fd kd) 57,pc u [vI 0] 35,pc j [.string (bs rep)] 9,Bi U F0 A,R]) (.J hpo J J (.f J qa J kX J ?_));refine .u7 (xs' :=A.set i {x with ledgers:=L'}) (x' :={x with ledgers:=L'}) (us:=Cw L' q) 4 J lG Fz.r y5 kX (hbo.mono lG) ex J J J J J J (λF' vs le ⟨P,q1,W,X,Y,Z,q6,q7,q8,q9,aD,aV,h,Q,r1,r2,r3,r4,r5⟩=>⟨q.1,(),q.2.1,q.2.2.1,q.2.2.2.1,q.2.2.2.2.1,q.2.2.2.2.2.1,q.2.2.2.2.2.2.1,some q.2.2.2.2.2.2.2.1,(),some q.2.2.2.2.2.2.2.2,(),by subst h;exact J,f0.mono le,f1'.mono le,f2'.mono le,f3'.mono le,f4'.mono le,f5.mono le⟩) J (.n (.c (.q (.g (.j J V9 J (i:=3) J J (.store (cs' :=[.string (bs rep)]) W9 J J J J (i:=3) J (JJ J) J J (.store (cs' :=[vI 0]) Mv J J J J (i:=2) J (JJ J) J J (.n (.c ?_)))))))));exact .wN (S4 (U:=()) [3,2] call11 (YJ _ j rep u 0) J [4,4] results5 (.cell J V9 (i:=0) J J (.cell J RM (i:=1) J J .nil)) J lG J)
end Go.Proofs.YtogaibncbkhjlaaGreatDoor
end
section
set_option maxRecDepth 100000
set_option maxHeartbeats 4000000
namespace Go.Proofs.YtogaibncbkhjlaaGreatDoor
open Go.Dec Go.Proofs.Tryz Go.Shelf Go.RowKit Go.Maps Go.Sort
abbrev Mj:List UInt8->Fz->List Value->Prop:=fun(x:List UInt8) _ vs=>vs=[.string (bs x)]
def Kz{σ:Type}(y:List UInt8->σ->Option (σ×Bool))(s:List UInt8×σ):Option (Vb (List UInt8×σ) (σ ⊕ σ)):=
 if decide ((s.1.length:Int) > 0) then(Ve s.1 10).bind λi=>
  if decide (i≥0) then(ZW s.1 0 (ZF (i+1))).bind λu=>(ZW s.1 (ZF (i+1)) s.1.length).bind λv=>(y u s.2).bind λp=>if(!p.2) then some (.done (.inr p.1)) else some (.next (v,p.1))
  else(y s.1 s.2).bind λp=>if(!p.2) then some (.done (.inr p.1)) else some (.next ([],p.1))
 else some (.done (.inl s.2))
def XD{σ:Type}(y:List UInt8->σ->Option (σ×Bool))(s:List UInt8)(a:σ):Option σ:=(ZV (Kz y) (s,a)).bind λo=>match o with | .inl z=>some z | .inr z=>some z
theorem Sn(F0:Fz)(σ:Type)(ly:Nat)(Y:σ->Fz->HP)(y:List UInt8->σ->Option (σ×Bool))(hy:Vk Tryz.prog ly F0 Mj Y y)(s:List UInt8)(b:Nat)(A:σ):
  Xe Tryz.prog 76 [.func (.yield ly) #[] #[],vP b 0].toArray F0 [pc b [.string (bs s)] 9,Y A F0] (XD y s A) (λ_ _ _=>True) (λs' F' =>[Y s' F']):=by
 refine Xe.enter func76 J ntmps76 J λr R=> ?_;unfold XD;refine .k (.loop (fun(s:List UInt8×σ) a w=>∃f,F0<=f/\Hd 25 [] [(0,.func (.yield ly) #[] #[]),(1,vP b 0)] f [pc b [.string (bs s.1)] 9,Y s.2 f,R] a w) (λo e a w=>match o with | .inl z=>e= .exit 0/\∃f c,F0<=f/\Hd 25 [] [] f [pc b c 9,Y z f,R] a w | .inr z=>e= .ret/\∃f c,F0<=f/\Hd 25 [] [] f [pc b c 9,Y z f,R] a w) ?_ ?_ ?_)
 ·exact λa w h=>⟨F0,Fz.r,h.1.sub (.k J),h.2⟩
 ·rintro⟨s,st⟩ ctl;refine GC.ex (λa w ⟨f,j,hA⟩=>⟨_,hA,?_⟩);unfold Kz;refine .q (.q (.g (.j J V9 J (i:=0) J J (.wZ J J U9 J (.gtr J J J (.n (.c (.i J (λhb=> ?_) (λhb=> ?_)))))))))
  ·refine .skip (.c (.k (.q (.g (.s J J (.n (.c (.q (.q (.g (.j J V9 J (i:=0) J J (.uw J call77 J J J (CJ _ s 10) ?_))))))))))));rintro i B _ - l2 rfl;refine .s J J (.n (.c (.q (.g (.m J J (.geq J J J (.n (.c (.i J (λhi=> ?_) (λhi=> ?_))))))))))
   ·refine .d λu hu=>.d λv hv=> ?_;refine .ug (.p [0,1,4] J) (.uz 9 Qb (by kernel_rfl) (.j J V9 J (i:=0) J J (.m J J (.add J J J (.fq hu J U9 J J (.j J V9 J (i:=0) J J (.m J J (.add J J J (.fR hv J U9 J J (.s J J (.wC (.store (cs' :=[.string (bs v)]) W9 J J J J (i:=0) J (JJ J) J J (.n (.c (.q (.g (.m J J (.m J J (.xp J hy J J J (i:=1) J j l2 (λp l _ x=>.not J J (.n (.c (.i J (λhq=> ?_) (λhq=> ?_))))))))))))))))))))))))
    ·exact .wN (Q9.ret λa w h=>⟨J,l,_,Fz.t j (Fz.t l2 x),h.1.sub (.k J),h.2⟩)
    ·refine .skip (.k ?_);exact .n (Q9.norm λa w h=>⟨l,Fz.t j (Fz.t l2 x),h.1.sub (.k J),h.2⟩)
   ·refine .ug (.p [0,1,4] J) (.g (.j J V9 J (i:=0) J J (.s J J (.store (cs' :=[.string (bs [])]) W9 J J J J (i:=0) J (JJ J) J J (.n (.c (.q (.g (.m J J (.m J J (.xp J hy J J J (i:=1) J j l2 (λp l _ x=>.not J J (.n (.c (.i J (λhq=> ?_) (λhq=> ?_))))))))))))))))
    ·exact .wN (Q9.ret λa w h=>⟨J,l,_,Fz.t j (Fz.t l2 x),h.1.sub (.k J),h.2⟩)
    ·refine .skip (.k ?_);exact .n (Q9.norm λa w h=>⟨l,Fz.t j (Fz.t l2 x),h.1.sub (.k J),h.2⟩)
  ·exact .uy J (Q9.exit λa w h=>⟨J,f,_,j,h.1.sub (.k J),h.2⟩)
 ·intro o C hk e a w hD;rcases o with z | z
  ·obtain⟨rfl,f,c,j,hA⟩:=hD;refine ZK J (GE.app ?_ hk a w hA);exact .xi [1,1] results76 .n J j trivial
  ·obtain⟨rfl,f,c,j,hA⟩:=hD;exact YY ((FH [1,1] results76 .n J j trivial) hk a w hA)
def DA:Nat->List UInt8->List (List UInt8)
 | 0,_=>[]
 | k+1,s=>if s=[] then[] else if 0<=Go.Lib.indexByte s 10 then s.take ((Go.Lib.indexByte s 10).toNat+1)::DA k (s.drop ((Go.Lib.indexByte s 10).toNat+1)) else[s]
theorem SV:∀(s:List UInt8) (c:UInt8), -1<=Go.Lib.indexByte s c/\Go.Lib.indexByte s c < (s.length:Int)
 | [],c=>by simp[Go.Lib.indexByte]
 | b::l,c=>by
  have ih:=SV l c;simp only[Go.Lib.indexByte,List.length_cons];split
  ·omega
  ·split
   ·omega
   ·omega
theorem Na{σ:Type}{y:List UInt8->σ->Option (σ×Bool)}:∀(k:Nat) (s:List UInt8) (st r:σ),s.length<=k->s.length<=1000000000000->V0 y (DA k s) st=some r->ZV (Kz y) (s,st)=some (.inl r)∨ZV (Kz y) (s,st)=some (.inr r)
 | 0,s,st,r,hk,_,h=>by
  obtain rfl:s=[]:=List.eq_nil_of_length_eq_zero (by omega);simp only[DA,V0,Option.some.injEq] at h
  subst h;left;rw[ZR];simp[Kz]
 | k+1,s,st,r,hk,hl,h=>by
  by_cases h0:s=[]
  ·subst h0;simp only[DA,if_true,V0,Option.some.injEq] at h
   subst h;left;rw[ZR];simp[Kz]
  ·have hpos:0 < s.length:=by cases s with | nil=>exact absurd rfl h0 | cons=>simp
   obtain⟨i1,i2⟩:=SV s 10;simp only[DA,if_neg h0] at h
   have ec:((10:Int).toNat.toUInt8)=10:=by decide
   rw[ZR];by_cases hi:0<=Go.Lib.indexByte s 10
   ·rw[if_pos hi] at h
    simp only[V0] at h
    have hw:ZF (Go.Lib.indexByte s 10+1)=Go.Lib.indexByte s 10+1:=Qs (by omega) (by omega)
    have s1:ZW s 0 (ZF (Go.Lib.indexByte s 10+1))=some (s.take ((Go.Lib.indexByte s 10).toNat+1)):=by
     rw[hw];unfold ZW;rw[if_pos (by omega)];congr 1;simp only[Int.toNat_zero,List.drop_zero,Nat.sub_zero];congr 1;omega
    have s2:ZW s (ZF (Go.Lib.indexByte s 10+1)) s.length=some (s.drop ((Go.Lib.indexByte s 10).toNat+1)):=by
     rw[hw];unfold ZW;rw[if_pos (by omega)];congr 1;rw[List.take_of_length_le (by simp;skip)];congr 1;omega
    have hb:Kz y (s,st)=(y (s.take ((Go.Lib.indexByte s 10).toNat+1)) st).bind λp=>if(!p.2) then some (.done (.inr p.1)) else some (.next (s.drop ((Go.Lib.indexByte s 10).toNat+1),p.1)):=by
     unfold Kz Ve;rw[if_pos (by simpa using hpos),ec];show(if decide (Go.Lib.indexByte s 10≥0) then _ else _)=_;rw[if_pos (by simpa using hi),s1,s2];rfl
    rw[hb];cases hy:y (s.take ((Go.Lib.indexByte s 10).toNat+1)) st with
    | none=>rw[hy] at h;cases h
    | some p=>
     rw[hy] at h
     simp only[Option.bind_some] at h ⊢
     by_cases hp:p.2=true
     ·rw[if_pos hp] at h
      have:=Na k (s.drop ((Go.Lib.indexByte s 10).toNat+1)) p.1 r (by simp;omega) (by simp;omega) h;simpa[hp] using this
     ·rw[if_neg hp] at h
      simp only[Option.some.injEq] at h
      right;simp[hp,h]
   ·rw[if_neg hi] at h
    simp only[V0] at h
    have hb:Kz y (s,st)=(y s st).bind λp=>if(!p.2) then some (.done (.inr p.1)) else some (.next ([],p.1)):=by
     unfold Kz Ve;rw[if_pos (by simpa using hpos),ec];show(if decide (Go.Lib.indexByte s 10≥0) then _ else _)=_;rw[if_neg (by simpa using hi)]
    rw[hb];cases hy:y s st with
    | none=>rw[hy] at h;cases h
    | some p=>
     rw[hy] at h
     simp only[Option.bind_some] at h ⊢
     by_cases hp:p.2=true
     ·rw[if_pos hp] at h
      simp only[Option.some.injEq] at h
      left;simp only[hp,Bool.not_true,Bool.false_eq_true,if_false];rw[ZR];simp[Kz,h]
     ·rw[if_neg hp] at h
      simp only[Option.some.injEq] at h
      right;simp[hp,h]
def MP(s:List UInt8):List (List UInt8):=DA s.length s
theorem AG{σ:Type}{y:List UInt8->σ->Option (σ×Bool)}{s:List UInt8}{st r:σ}(hl:s.length<=1000000000000)(h:V0 y (MP s) st=some r):XD y s st=some r:=by
 unfold XD;rcases Na s.length s st r (Nat.le_refl _) hl h with e | e
 ·rw[e];rfl
 ·rw[e];rfl
theorem Ey(F:Fz)(s:List UInt8)(b:Nat)(hl:s.length<=1000000000000):yC Tryz.prog F 76 [vP b 0] Mj [pc b [.string (bs s)] 9] (MP s):=
 ⟨call76,λσ ly Y y F1 _ hy s0 r hr=>Sn F1 σ ly Y y hy s b s0 r (AG hl hr)⟩
theorem TK(F0:Fz)(s:List UInt8):CT Tryz.prog 53 [.string (bs s)].toArray F0 CI (some ()) (λ_ _ _=>True) (λ_ _ v=>zk (λb=>v= .func (.func 76) #[] #[vP b 0]) (λb=>[pc b [.string (bs s)] 9])):=by
 refine CT.enter func53 J ntmps53 J λr R=> ?_;refine .q (.g (.box (cs:=[.string (bs s)]) J J J (λb=>.s J J (.n (.c (.q (.g (.makeFunc J J (.s J J (.n (.c ?_)))))))))));refine .gq (Φ:=λb' =>(.func (.func 76) #[] #[vP b 0]:Value)= .func (.func 76) #[] #[vP b' 0]) (l:=λb=>[pc b [.string (bs s)] 9]) [0] b J J ?_;exact .fX results53 (.tmp J .nil) (i:=0) J (j:=1) J Fz.r trivial
def Xb{σ:Type}(y:List UInt8->σ->Option (σ×Bool))(line:List UInt8)(s:σ):Option (Vb σ σ):=
 (VK line [10]).bind λu=>(y u s).bind λp=>if(!p.2) then some (.done p.1) else some (.next p.1)
def BH{σ:Type}(y:List UInt8->σ->Option (σ×Bool))(script:List UInt8)(a:σ):Option σ:=
 (Cm (Xb y) (MP script) a).bind λc=>match c with | .next s=>some s | .done s=>some s
theorem AS(F0:Fz)(σ:Type)(ly:Nat)(Y:σ->Fz->HP)(y:List UInt8->σ->Option (σ×Bool))(hy:Vk Tryz.prog ly F0 Mj Y y)(script:List UInt8)(hl:script.length<=1000000000000)(b:Nat)(hb:F0.mem b=some (.cells #[.string (bs script)] 9))(w:σ):
  Xe Tryz.prog 52 [.func (.yield ly) #[] #[],vP b 0].toArray F0 [Y w F0] (BH y script w) (λ_ _ _=>True) (λs' F' =>[Y s' F']):=by
 refine Xe.xC func52 J ntmps52 J λr R=> ?_;unfold BH;refine .q (.g (.box (cs:=[.func (.yield ly) #[] #[]]) J J J (λf=>.n (.c (.q (.g (.R J V9 J hb J (.dJ (.gv J call53 J J J (i:=0) J (TK _ script) (λC v e=>.xZ 0 J (λbL hv=> ?_)))))))))));subst hv;refine .n (.c (.k (.ug (.p [1,2,5] J) (.pick [0,0,0,0] (J:_=[pc bL [.string (bs script)] 9,pc f [.func (.yield ly) #[] #[]] 101,Y w F0,R]) ?_))));refine .bH 2 hy J Fz.r e (.fM [pc bL [.string (bs script)] 9] [0] (λs F hs=>hs=[pc f [.func (.yield ly) #[] #[]] 101,Y s F,R]) (λs F hs=>hs=[pc f [.func (.yield ly) #[] #[]] 101,Y s F,R]) J (Ey C script bL hl) J (λ_ _ _ h=>by rw[h];rfl) J J ?_ ?_ ?_)
 ·rintro l L j B x vs s ctl R' hs' l2 a rfl rfl;unfold Xb;refine .d λu hu=>.g (.s J J (.n ?_));refine GE.begin 0 J (.k (.q (.ug (.p [2,3] J) ?_)));refine .dG 3 0 (λ_=>[vT (.func (.yield ly) #[] #[]),vT (.string (bs x)),vT (.string (bs u))]) (λ_ _=>[pt l (UO L),R',pc f [.func (.yield ly) #[] #[]] 101,Y s j,R]) Qb (by kernel_rfl) (λ_=>J) (λ_=>J) ?_ (λenv G z hphi=> ?_)
  ·refine .b (λ_ _ _ _=>.j J Tryz.isAgg101 J (i:=2) J J (.U J J Fz.r)) (.b (λ_ _ _ _=>.m J J (.U J J Fz.r)) (.b (λ_ _ D A=>.wa hu J call54 J J J (BS _ x [10]) (λH v E hv=>by subst hv;exact .U J J E)) .nil))
  refine .o (.p [7,9] J) (J:_=[pt l (UO L),R',pc f [.func (.yield ly) #[] #[]] 101,Y s j,R]) (.xp J hy J J J (i:=3) J (Fz.t e l2) (Fz.t a z) (λp D _ A=>.not J J (.n (.c (.i J (λhq=> ?_) (λhq=> ?_))))))
  ·exact .wN (RP.ret (Fz.t z A) J J)
  ·refine .skip (.k ?_);exact .n (RP.norm (Fz.t z A) J J)
 ·rintro q j B s hs' l2 a he rfl;refine .k (.bH 2 hy J (Fz.t e l2) a ?_);exact .dh [2,2] [(0,q)] results52 ⟨J,trivial⟩ .n J (Fz.t e (Fz.t l2 a)) trivial
 ·rintro q j B s hs' l2 a he rfl;refine .bH 2 hy J (Fz.t e l2) a ?_;exact .bR [2,2] [(0,q)] results52 ⟨J,trivial⟩ .n J (Fz.t e (Fz.t l2 a)) trivial
end Go.Proofs.YtogaibncbkhjlaaGreatDoor
end
section
set_option maxRecDepth 100000
set_option maxHeartbeats 4000000
namespace Go.Proofs.YtogaibncbkhjlaaGreatDoor
open Go.Dec Go.Proofs.Tryz Go.Shelf Go.RowKit Go.Maps Go.Sort
def A6(x:List UInt8):Bool:=x.getLast? ==some 10
def M0(x:List UInt8):List UInt8:=if A6 x then x.dropLast else x
theorem SX(x:List UInt8)(h:x.length<=1000000000000):Jk x [10]=some (A6 x):=by
 unfold Jk Zk A6;cases hx:x.reverse with
 | nil=>
  obtain rfl:x=[]:=by simpa using hx
  rfl
 | cons c l=>
  obtain rfl:x=l.reverse++[c]:=by have:=congrArg List.reverse hx;simpa using this
  have h1:(l.reverse++[c]).length=l.length+1:=by simp
  rw[h1] at h ⊢
  have hw:ZF (((l.length+1:Nat):Int) - (([10]:List UInt8).length:Int))=(l.length:Int):=by
   show ZF (((l.length+1:Nat):Int) - (1:Int))=_;rw[Qs (by omega) (by omega)];omega
  have hs:ZW (l.reverse++[c]) (l.length:Int) ((l.length+1:Nat):Int)=some [c]:=by
   unfold ZW;rw[if_pos (by simp;omega)];congr 1;simp only[Int.toNat_natCast];rw[List.drop_append_of_le_length (by simp),List.drop_of_length_le (by simp)];simp
  rw[if_pos (by simp;omega),hw,hs];show some ([c]==([10]:List UInt8))=some ((l.reverse++[c]).getLast? ==some 10);rw[List.getLast?_concat];have:([c]==([10]:List UInt8))=(some c==some 10):=by by_cases h:c=10<;>simp[h]
  rw[this]
theorem RQ(x:List UInt8)(h:x.length<=1000000000000):VK x [10]=some (M0 x):=by
 have h0:=SX x h;unfold Jk at h0
 unfold VK K3 M0
 have h1:Zk x [10]=some (A6 x):=by
  cases e:Zk x [10] with
  | none=>rw[e] at h0;cases h0
  | some b=>rw[e] at h0;exact h0
 rw[h1];simp only[Option.bind_some];cases he:A6 x with
 | false=>rfl
 | true=>
  have hne:0 < x.length:=by
   cases x with
   | nil=>simp[A6] at he
   | cons=>simp
  have hw:ZF ((x.length:Int) - (([10]:List UInt8).length:Int))=((x.length - 1:Nat):Int):=by
   show ZF ((x.length:Int) - (1:Int))=_;rw[Qs (by omega) (by omega)];omega
  rw[hw]
  have hs:ZW x 0 ((x.length - 1:Nat):Int)=some x.dropLast:=by
   unfold ZW;rw[if_pos (by omega)];congr 1;simp only[Int.toNat_zero,List.drop_zero,Nat.sub_zero,Int.toNat_natCast];rw[List.dropLast_eq_take]
  rw[hs];rfl
def Pe(s:List UInt8):List (List UInt8):=(MP s).map M0
theorem Pf:∀(k:Nat) (s:List UInt8),∀x∈DA k s,x.length<=s.length
 | 0,_,_,h=>by simp[DA] at h
 | k+1,s,x,h=>by
  unfold DA at h
  split at h
  ·simp at h
  ·split at h
   ·simp only[List.mem_cons] at h
    rcases h with rfl | h
    ·simp;omega
    ·have:=Pf k _ x h;simp at this;omega
   ·simp only[List.mem_singleton] at h
    subst h;exact Nat.le_refl _
theorem A5{σ:Type}{y:List UInt8->σ->Option (σ×Bool)}:∀(l:List (List UInt8)) (s r:σ),(∀x∈l,x.length<=1000000000000)->V0 y (l.map M0) s=some r->(Cm (Xb y) l s).bind (λc=>match c with | .next s=>some s | .done s=>some s)=some r
 | [],s,r,_,h=>h
 | x::l,s,r,hx,h=>by
  simp only[List.map_cons,V0] at h
  simp only[Cm,Xb,RQ x (hx x (List.mem_cons_self ..)),Option.bind_some];cases hy:y (M0 x) s with
  | none=>rw[hy] at h;cases h
  | some p=>
   rw[hy] at h
   simp only[Option.bind_some] at h ⊢
   by_cases hp:p.2=true
   ·rw[if_pos hp] at h
    have:=A5 l p.1 r (λz hz=>hx z (List.mem_cons_of_mem _ hz)) h;simpa[hp] using this
   ·rw[if_neg hp] at h
    simpa[hp] using h
theorem Xe.bj{β:Type}{P:Program}{f:FuncId}{args:Array Value}{F:Fz}{H:HP}{m:Option β}{ρ:β->Fz->Value->Prop}{H' :β->Fz->HP}(h:Xe P f args F [H] m ρ (λr F=>[H' r F])):CT P f args F H m ρ (λr F _=>H' r F):=λr hm w R hw=>
 (h r hm w R (hw.mono λm hm=>QX (λ_ h=>Y5 h) hm)).mono (by rintro e w' ⟨F',v,le,he,hρ,hs⟩;exact⟨F',v,le,he,hρ,hs.mono λ_ hm=>Us hm⟩)
theorem Ew(F:Fz)(script:List UInt8)(b:Nat)(hl:script.length<=1000000000000)(hb:F.mem b=some (.cells #[.string (bs script)] 9)):Sy Tryz.prog F 52 [vP b 0] Mj (Pe script):=
 ⟨call52,λσ ly Y y F1 le hy s r hr=>Xe.bj (AS F1 σ ly Y y hy script hl b (le.mem _ _ hb) s) r (A5 _ s r (λx hx=>Nat.le_trans (Pf _ _ x hx) hl) hr)⟩
theorem P6(F0:Fz)(script:List UInt8):KE Tryz.prog 21 [.string (bs script)].toArray F0 (some ()) (λ_ F v=>∃b,v= .func (.func 52) #[] [vP b 0].toArray/\F.mem b=some (.cells #[.string (bs script)] 9)):=by
 refine KE.enter func21 J ntmps21 J λr R=> ?_;refine .q (.g (.u6 (cs:=[.string (bs script)]) J J J (λb d a hb=>.s J J (.n (.c (.q (.g (.makeFunc J J (.s J J (.n (.c ?_)))))))))));exact .uq results21 (.tmp J .nil) (i:=0) J a ⟨b,J,hb⟩
abbrev EL:List UInt8:=[101,114,114,111,114]
def WD(A:List Zb)(s u:List UInt8):Option (List Zb×List UInt8):=(BR s u).bind λv=>(BR v [10]).bind λw=>some (A,w)
def X3(o:ON)(line:List UInt8)(s:List Zb×List UInt8):Option (List Zb×List UInt8):=
 (X8 s.1 o line).bind λt=>if(t.2.1 != 0) then(JP EL [t.2.1]).bind λu=>WD t.2.2 s.2 u else WD t.2.2 s.2 t.1
def W6(script:List UInt8):Option (List UInt8×Int):=
 if decide ((script.length:Int) > 262144) then some ([],3) else
 (if(!(script==([]:List UInt8))) then(Jk script [10]).bind λh=>some (!h) else some false).bind λz=>if z then some ([],8) else
 (Fw []).bind λo=>(YI (X3 o.1) (Pe script) (o.2,[])).bind λs=>some (s.2,0)
theorem Rm(F0:Fz)(hT:XQ F0)(script:List UInt8):KE Tryz.prog 10 [.string (bs script)].toArray F0 (W6 script) (λr _ v=>v= .tuple #[.string (bs r.1),vI r.2]):=by
 refine KE.xC func10 J ntmps10 J λr R=> ?_;unfold W6;refine .q (.g (.s J J (.s J J (.n (.c (.q (.k (.q (.g (.m J J (.wZ J J U9 J (.gtr J J J (.s J J (.n (.c (.i J (λhb=> ?_) (λhb=> ?_)))))))))))))))))
 ·refine .q (.g (.s J J (.s J J (.n (.c ?_)))));exact .gH [] results10 trivial (.tmp J (.tmp J .nil)) (i:=0) J Fz.r J
 have hlen:script.length<=1000000000000:=by simp at hb;omega
 refine .q (.g (.m J J (.dv J U9 J J (.m J J (.andM (b:=(!(script==([]:List UInt8)))) 4 20 (λhs z=> ?_) (λhs=> ?_) (λz Y B=> ?_))))))
 ·refine .uk hs J J (.m J J (.uk hs J J (.uw J call19 J J J (CK _ script [10]) ?_)));rintro hh E _ - l2 rfl;refine .uk hs J J (.not J J (.ui hs J J J ?_));exact .w5 4 J J (by kernel_rfl) l2
 ·refine .I hs J J J (.I hs J J J (.I hs J J J (.uo hs J J J ?_)));exact .fin 4 J J (by kernel_rfl) Fz.r
 refine .s J J (.n (.c (.i J (λhz=> ?_) (λhz=> ?_))))
 ·refine .q (.g (.s J J (.s J J (.n (.c ?_)))));exact .gH [] results10 trivial (.tmp J (.tmp J .nil)) (i:=0) J B J
 refine .skip (.k (.c (.q (.wv (λg E l2=>.xk (vo (JW.mk 0 0 0 g 0 0 0 0 0)) 0 J ?_)))));refine .pick [0,0] (J:_=[Qw (JW.mk 0 0 0 g 0 0 0 0 0).g33 (vo (JW.mk 0 0 0 g 0 0 0 0 0)) E [],R]) ?_;generalize JW.mk 0 0 0 g 0 0 0 0 0=U;refine(.g (.wE [0] J call20 J J J J (Mg _ U []) ?_));rintro⟨o,A⟩ Z _ - G ⟨p,_,rfl,hp⟩;refine .l (cs:=[.pointer none]) J Tryz.zeroValue23 J (λC=>.store (cs' :=[.pointer p]) Tryz.sizeOf23 J J J J (i:=0) J (JJ J) J J (.n (.c (.q (.g (.l (cs:=[.pointer none,.slice none 0 0]) J Tryz.zeroValue76 J (λbB=>.fx 0 5 J (.n (.c (.q (.q (.g (.m J J (.uv J call21 J J J (P6 _ script) ?_))))))))))))));rintro H _ y ⟨bS,rfl,hbS⟩;refine .n (.c (.k (.ug (.p [4,5,23] J) (.u3 2 (Gh U) y J (.pick [0,0,0,0] (J:_=[Ga 76 5 bB [],pc C [.pointer p] 23,Bi U H A,R]) ?_)))));have I:=hT.mono (Fz.t B (Fz.t l2 (Fz.t G y)));refine .xg (τ:=List Zb×List UInt8) (λs F hs=>hs=[Ga 76 5 bB s.2,pc C [.pointer p] 23,Bi U F s.1,R]) J (Ew H script bS hlen hbS) J (λ_ _ _ h=>by rw[h];rfl) J ?_ ?_
 ·rintro l L N P x vs ⟨A',s⟩ ctl R' hs' d a rfl rfl;unfold X3;refine .g (.s J J (.n (GE.begin 0 J (.k (.q (.ug (.p [4,5,6] J) (.u3 4 (Gh U) a J (.g (.j J Tryz.isAgg23 J (i:=3) J J (.m J J (.wE [4] J call5 J J J J (Lz _ (I.mono (Fz.t d a)) U A' o p () (hp.mono (Fz.t y (Fz.t d a))) x) ?_)))))))))));rintro⟨rep,e,Q⟩ K _ - f rfl;refine .pick [1,1,1,1,0,0] (J:_=[pt l (UO L),R',Ga 76 5 bB s,pc C [.pointer p] 23,Bi U K Q,R]) (.m J J (.x J J J (.x J J J (.s J J (.s J J (.n (.c (.q (.q (.g (.m J J (.neq J J J (.n (.c (.i J (λhb=> ?_) (λhb=> ?_))))))))))))))))
  ·refine .g (.m J J (.wA (cs:=[vI e]) (zc:=[vI 0]) J V2 W3 Y3 J J J (by kernel_rfl) (by kernel_rfl) (λS T D V=> ?_)));have hrep:QH 1 (Ex (KI .i64)) T (some ⟨S,0,none⟩) 1 [e]:=QH.ofRow V (.cons Gl.mono J .nil) J J;refine .uw J call22 J J J (Up _ (I.mono (Fz.t d (Fz.t a (Fz.t f D)))) EL [e] _ _ hrep) ?_;rintro u F9 _ - M rfl;unfold WD;refine .s J J (.n (.c (.q (.g (.m J J (.xD J call23 J J J (i:=2) J (X2 _ bB s u) (λv W _ _ l10 _=>.n (.c (.g (.xD J call24 J J J (i:=2) J (Bh _ bB v 10) (λw X _ _ j _=>.n (.k ?_))))))))))));refine .u3 4 (Gh U) (Fz.t D (Fz.t M (Fz.t l10 j))) J ?_;exact .n (RP.xn (Fz.t f (Fz.t D (Fz.t M (Fz.t l10 j)))) J J)
  ·unfold WD;refine .skip (.c (.q (.g (.m J J (.xD J call23 J J J (i:=2) J (X2 _ bB s rep) (λv W _ _ l10 _=>.n (.c (.g (.xD J call24 J J J (i:=2) J (Bh _ bB v 10) (λw X _ _ j _=>.n (.k ?_)))))))))));refine .u3 4 (Gh U) (Fz.t l10 j) J ?_;exact .n (RP.xn (Fz.t f (Fz.t l10 j)) J J)
 ·rintro q N P ⟨A',s⟩ hs' d a he rfl;refine .k (.c (.q (.g (.xD (e:=some s) (g:=λs=>some (s,0)) J call25 J J J (i:=1) J (L3 _ bB s) ?_))));rintro s' K _ e7 f rfl;refine .s J J (.s J J (.n (.c ?_)));exact .gH [(0,q)] results10 ⟨J,trivial⟩ (.tmp J (.tmp J .nil)) (i:=4) J (Fz.t B (Fz.t l2 (Fz.t G (Fz.t y (Fz.t d (Fz.t a f)))))) J
end Go.Proofs.YtogaibncbkhjlaaGreatDoor
end
section
set_option maxRecDepth 100000
set_option maxHeartbeats 4000000
namespace Go.Proofs.YtogaibncbkhjlaaGreatDoor
open Go.Dec Go.Proofs.Tryz Go.Shelf Go.RowKit Go.Maps Go.Sort
def Uj:Option Bool:=(W6 JC.1).bind λr=>(if(r.1==JC.2) then some (r.2==0) else some false).bind λz=>some z
theorem BZ(F0:Fz)(hT:XQ F0):KE Tryz.prog 4 [].toArray F0 Uj (λr _ v=>v= .bool r):=by
 refine KE.enter func4 J ntmps4 J λr R=> ?_;unfold Uj;refine .q (.g (.s J J (.n (.c (.q (.g (.uv J call9 J J J (Dp _) ?_)))))));rintro f _ a rfl;refine .m J J (.x J J J (.x J J J (.s J J (.s J J (.n (.c (.q (.g (.m J J (.uw J call10 J J J (Rm _ (hT.mono a) JC.1) ?_))))))))));rintro⟨s,e⟩ h _ - l2 rfl;refine .m J J (.x J J J (.x J J J (.s J J (.s J J (.n (.c (.q (.g (.m J J (.m J J (.fj J U9 J J (.m J J (.andM (b:=(s==JC.2)) 3 20 (λhs z=> ?_) (λhs=> ?_) (λz j d=> ?_))))))))))))))
 ·refine .uk hs J J (.m J J (.uk hs J J (.eql J J J (.ui hs J J J ?_))));exact .w5 3 J J (by kernel_rfl) Fz.r
 ·refine .I hs J J J (.I hs J J J (.uo hs J J J ?_));exact .fin 3 J J (by kernel_rfl) Fz.r
 refine .s J J (.n (.c ?_));exact .uq results4 (.tmp J .nil) (i:=0) J (Fz.t a (Fz.t l2 d)) J
def Ht(F:Fz)(p:Option Addr):Prop:=p=none∨∃(b:Nat) (cs:List Value),p=some ⟨b,0,none⟩/\F.mem b=some (.cells (List.toArray cs) 33)/\cs[8]? =some (.bool false)
theorem Ht.mono{F F' :Fz}{p:Option Addr}(h:Ht F p)(le:F<=F'):Ht F' p:=h.imp id fun⟨b,cs,h1,h2,h3⟩=>⟨b,cs,h1,le.mem _ _ h2,h3⟩
theorem vB(F0:Fz)(p:Option Addr)(h:Ht F0 p)(line:List UInt8):KE Tryz.prog 5 [.pointer p,.string (bs line)].toArray F0 (some ()) (λ_ _ v=>v= .tuple #[.string (bs []),vI 13]):=by
 refine KE.enter func5 J ntmps5 J λr R=> ?_;refine .q (.g (.l (cs:=[.string (bs [])]) J Tryz.zeroValue9 J (λb4=>.l (cs:=[vI 0]) J vf J (λb5=>.n (.c (.q (.k (.q (.g (.m J J (.gS J vW J J (.m J J ?_))))))))))));rcases h with rfl | ⟨b,cs,rfl,hb,hc⟩
 ·refine .off J J J J (.off J J J J (.off J J J J (.off J J J J (.off J J J J (.xY J J J (.s J J (.n (.c (.wR J (.q (.g ?_)))))))))));refine .store (cs' :=[.string (bs [])]) W9 J J J J (i:=1) J (JJ J) J J (.store (cs' :=[vI 13]) Mv J J J J (i:=0) J (JJ J) J J (.n (.c ?_)));exact .uq results5 (.cell J V9 (i:=1) J J (.cell J RM (i:=0) J J .nil)) (i:=2) J Fz.r J
 ·refine .on J J (.m J J (.on J J (.nilCheck J J (.on J J (.f J qa J W4 J (.on J J (.R J V4 J hb hc (.on J J (.not J J (.wi J J J (.s J J (.n (.c (.wR J (.q (.g ?_))))))))))))))));refine .store (cs' :=[.string (bs [])]) W9 J J J J (i:=1) J (JJ J) J J (.store (cs' :=[vI 13]) Mv J J J J (i:=0) J (JJ J) J J (.n (.c ?_)));exact .uq results5 (.cell J V9 (i:=1) J J (.cell J RM (i:=0) J J .nil)) (i:=2) J Fz.r J
theorem kC(F0:Fz)(p:Option Addr)(h:Ht F0 p):KE Tryz.prog 6 [.pointer p].toArray F0 (some ()) (λ_ _ v=>v= .slice none 0 0):=by
 refine KE.enter func6 J ntmps6 J λr R=> ?_;refine .q (.g (.s J J (.n (.c (.q (.q (.g (.m J J (.gS J vW J J (.m J J ?_))))))))));rcases h with rfl | ⟨b,cs,rfl,hb,hc⟩
 ·refine .off J J J J (.off J J J J (.off J J J J (.off J J J J (.off J J J J (.xY J J J (.n (.c (.wR J (.q (.g (.s J J (.n (.c ?_)))))))))))));exact .uq results6 (.tmp J .nil) (i:=0) J Fz.r J
 ·refine .on J J (.m J J (.on J J (.nilCheck J J (.on J J (.f J qa J W4 J (.on J J (.R J V4 J hb hc (.on J J (.not J J (.wi J J J (.n (.c (.wR J (.q (.g (.s J J (.n (.c ?_))))))))))))))))));exact .uq results6 (.tmp J .nil) (i:=0) J Fz.r J
theorem qC(F0:Fz)(p:Option Addr)(h:Ht F0 p):KE Tryz.prog 7 [.pointer p].toArray F0 (some ()) (λ_ _ v=>v= .slice none 0 0):=by
 refine KE.enter func7 J ntmps7 J λr R=> ?_;refine .q (.g (.s J J (.n (.c (.q (.q (.g (.m J J (.gS J vW J J (.m J J ?_))))))))));rcases h with rfl | ⟨b,cs,rfl,hb,hc⟩
 ·refine .off J J J J (.off J J J J (.off J J J J (.off J J J J (.off J J J J (.xY J J J (.n (.c (.wR J (.q (.g (.s J J (.n (.c ?_)))))))))))));exact .uq results7 (.tmp J .nil) (i:=0) J Fz.r J
 ·refine .on J J (.m J J (.on J J (.nilCheck J J (.on J J (.f J qa J W4 J (.on J J (.R J V4 J hb hc (.on J J (.not J J (.wi J J J (.n (.c (.wR J (.q (.g (.s J J (.n (.c ?_))))))))))))))))));exact .uq results7 (.tmp J .nil) (i:=0) J Fz.r J
theorem jW(F0:Fz)(p:Option Addr)(h:Ht F0 p)(k:Int):KE Tryz.prog 8 [.pointer p,vI k].toArray F0 (some ()) (λ_ _ v=>v=vI 0):=by
 refine KE.enter func8 J ntmps8 J λr R=> ?_;refine .q (.g (.s J J (.n (.c (.q (.q (.g (.m J J (.gS J vW J J (.m J J ?_))))))))));rcases h with rfl | ⟨b,cs,rfl,hb,hc⟩
 ·refine .off J J J J (.off J J J J (.off J J J J (.off J J J J (.off J J J J (.xY J J J (.n (.c (.wR J (.q (.g (.s J J (.n (.c ?_)))))))))))));exact .uq results8 (.tmp J .nil) (i:=0) J Fz.r J
 ·refine .on J J (.m J J (.on J J (.nilCheck J J (.on J J (.f J qa J W4 J (.on J J (.R J V4 J hb hc (.on J J (.not J J (.wi J J J (.n (.c (.wR J (.q (.g (.s J J (.n (.c ?_))))))))))))))))));exact .uq results8 (.tmp J .nil) (i:=0) J Fz.r J
abbrev zO:List Value:=[.int .i64 0,.pointer none,.slice none 0 0,.slice none 0 0,.slice none 0 0,.map none,.map none,.int .i64 0,.bool false]
def Vo(i:Int):Option (Vb Int Unit):=if decide (i < 2) then some (.next (ZF (i+1))) else some (.done ())
def Yp(line:List UInt8)(_cask:Int):Option Bool:=
 if decide ((line.length:Int) > 2000) then Uj.bind λz=>some z else(ZV Vo 0).bind λ_=>Uj.bind λz=>some z
theorem GV(F0:Fz)(hT:XQ F0)(line:List UInt8)(cask:Int):KE Tryz.prog 3 [.string (bs line),vI cask].toArray F0 (Yp line cask) (λr _ v=>v= .bool r):=by
 refine KE.enter func3 J ntmps3 J λr R=> ?_;unfold Yp;refine .q (.g (.s J J (.n (.c (.q (.q (.g (.m J J (.wZ J J U9 J (.gtr J J J (.n (.c (.i J (λhb=> ?_) (λhb=> ?_))))))))))))))
 ·refine .q (.g (.uw J call4 J J J (BZ _ hT) ?_));rintro z M _ - A rfl;refine .s J J (.n (.c ?_));exact .uq results3 (.tmp J .nil) (i:=0) J A J
 refine .skip (.c (.q (.g (.s J J (.n (.c (.q (.g (.m J J (.build (cs:=zO.toArray) J qa uU (D9 _ qa) J J (by kernel_rfl) (.u6 (cs:=zO) J J J (λb M A C=>.wA (cs:=[.pointer none,vP b 0]) (zc:=[.pointer none,.pointer none]) J Tryz.underlying34 Tryz.sizeOf23 Tryz.zeroValue23 J J J (by kernel_rfl) (by kernel_rfl) (λD l l2 E=> ?_)))))))))))));have hrep:QH 1 (Ex (λp:Option Addr=>[Value.pointer p])) l (some ⟨D,0,none⟩) 2 [none,some ⟨b,0,none⟩]:=QH.ofRow E (.cons (λ_ _ _ _ _ h=>h) J (.cons (λ_ _ _ _ _ h=>h) J .nil)) J J;have hcl:Ht l (some ⟨b,0,none⟩):=.inr ⟨b,zO,J,l2.mem _ _ C,J⟩
 clear C E
 refine .s J J (.n (.c (.q (.q (.g (.s J J (.n (.c (.k ?_)))))))));refine .loop (fun(i:Int) a w=>∃f,l<=f/\(i=0∨i=1∨i=2)/\Hd 65 [] [(0,.string (bs line)),(1,vI cask),(6,.slice (some ⟨D,0,none⟩) 2 2),(7,vI i)] f [R] a w) (fun(_:Unit) e a w=>e= .exit 0/\∃f,l<=f/\Hd 65 [] [] f [R] a w) ?_ ?_ ?_
 ·exact λa w h=>⟨l,Fz.r,.inl J,h.1.sub (.k J),h.2⟩
 ·intro i ctl;refine GC.ex (λa w ⟨f,d,F,hA⟩=>⟨_,hA,?_⟩);unfold Vo;refine .q (.q (.g (.m J J (.lss J J J (.n (.c (.i J (λhb=> ?_) (λhb=> ?_))))))))
  ·have hlt:i < 2:=by simpa using hb
   obtain⟨z,hz,hcz⟩:∃z,Zc [none,some (⟨b,0,none⟩:Addr)] i=some z/\Ht f z:=by
    rcases F with rfl | rfl | rfl
    ·exact⟨none,rfl,.inl rfl⟩
    ·exact⟨_,rfl,hcl.mono d⟩
    ·omega
   refine .skip (.c (.q (.k (.q (.g (.m J J (.m J J (.gj J Tryz.underlying34 Tryz.sizeOf23 (hrep.mono d) J J hz (λV W X Y Z N P=>.R J Tryz.isAgg23 J N (QI (k:=0) P J) (.m J J (.uv J call5 J J J (vB _ z hcz line) ?_)))))))))));rintro Q _ j rfl;refine .m J J (.x J J J (.x J J J (.s J J (.s J J (.n (.c (.q (.ug (.p [0,1,6,7,8,9] J) (.g (.m J J (.dv J U9 J J (.m J J (.on J J (.m J J (.on J J (.neq J J J (.wi J J J (.m J J ?_))))))))))))))))));refine .on J J (.m J J (.on J J (.m J J (.on J J (.gj J Tryz.underlying34 Tryz.sizeOf23 (hrep.mono (Fz.t d j)) J J hz (λG H I K L o u=>.on J J (.R J Tryz.isAgg23 J o (QI (k:=0) u J) (.on J J (.uv J call6 J J J (kC _ z (hcz.mono j)) ?_)))))))));rintro F5 _ y rfl;refine .on J J (.wI (len:=0) J J qd J (.on J J (.gtr J J J (.wi J J J (.m J J ?_)))));refine .on J J (.m J J (.on J J (.m J J (.on J J (.gj J Tryz.underlying34 Tryz.sizeOf23 (hrep.mono (Fz.t d (Fz.t j y))) J J hz (λG H I K L o u=>.on J J (.R J Tryz.isAgg23 J o (QI (k:=0) u J) (.on J J (.uv J call7 J J J (qC _ z (hcz.mono (Fz.t j y))) ?_)))))))));rintro F6 _ B rfl;refine .on J J (.wI (len:=0) J J qc J (.on J J (.gtr J J J (.wi J J J (.m J J ?_)))));refine .on J J (.m J J (.on J J (.m J J (.on J J (.gj J Tryz.underlying34 Tryz.sizeOf23 (hrep.mono (Fz.t d (Fz.t j (Fz.t y B)))) J J hz (λG H I K L o u=>.on J J (.R J Tryz.isAgg23 J o (QI (k:=0) u J) (.on J J (.m J J (.on J J (.uv J call8 J J J (jW _ z (hcz.mono (Fz.t j (Fz.t y B))) cask) ?_)))))))))));rintro S _ T rfl;refine .on J J (.neq J J J (.wi J J J (.n (.c (.wY J (.skip (.k (.c (.g (.m J J (.add J J J (.s J J (.n ?_)))))))))))));exact .n (Q9.norm λa w h=>⟨S,Fz.t d (Fz.t j (Fz.t y (Fz.t B T))),by rcases F with rfl | rfl | rfl;exact .inr (.inl J);exact .inr (.inr J);omega,h.1.sub (.k J),h.2⟩)
  ·exact .uy J (Q9.exit λa w h=>⟨J,f,d,h.1.sub (.k J),h.2⟩)
 ·intro _ aC hk e a w hD;obtain⟨rfl,f,d,hA⟩:=hD;refine ZK J (GE.app ?_ hk a w hA);refine .c (.q (.g (.uw J call4 J J J (BZ _ (hT.mono (Fz.t A (Fz.t l2 d)))) ?_)));rintro z Q _ - j rfl;refine .s J J (.n (.c ?_));exact .uq results3 (.tmp J .nil) (i:=0) J (Fz.t A (Fz.t l2 (Fz.t d j))) J
end Go.Proofs.YtogaibncbkhjlaaGreatDoor
end
namespace Go.Proofs.YtogaibncbkhjlaaGreatDoor.Ca
section
open Go.Dec
structure Zr where
 C:ZO
 Fills:List Int
abbrev Ev:=QG
abbrev zN:Nat->Int:=λ_=>0
def WL(n a b:Int):Bool:=decide (n≥a)&&decide (n<=b)
def XR(x:Ev):Bool:=
 WL x.Day 0 65536&&WL x.Cask 0 1073741824&&
 (if x.Kind==0 then WL x.Other 0 7&&WL x.Where 0 7&&WL x.Amount 1 1099511627776&&WL x.Person 0 1073741824
  else if x.Kind==1||x.Kind==3 then WL x.Amount 1 1099511627776
  else if x.Kind==2 then WL x.Other 0 1073741824&&WL x.Amount 1 1099511627776
  else if x.Kind==4 then WL x.Where 0 7
  else if x.Kind==5||x.Kind==6 then WL x.Person 0 1073741824&&WL x.To 0 1073741824
  else if x.Kind==7 then WL x.Person 0 1073741824
  else if x.Kind==8 then WL x.Where 0 7 else false)
def Vs(n:Int)(h:Zr):Zr:=
 if 0 < h.C.Amount then{h with C:={h.C with Age:=h.C.Age+n,Woods:=ZI h.C.Woods h.C.Wood.toNat (h.C.Woods h.C.Wood.toNat+n),Places:=ZI h.C.Places h.C.Place.toNat (h.C.Places h.C.Place.toNat+n)}} else h
def Uo:List Zr->Int->Option Nat
 | [],_=>none
 | h::l,n=>if h.C.Number==n then some 0 else(Uo l n).map (·+1)
def DD(x:Int):List Int->List Int
 | []=>[x]
 | y::l=>if x < y then x::y::l else if x==y then y::l else y::DD x l
def My(a b:List Int):List Int:=a.foldr DD b
def S8(f g:Nat->Int):Nat->Int:=λk=>if k < 8 then JT (f k) (g k) else f k
def W1(h s:Zr)(n:Int):Zr:=
 if h.C.Amount==0 then{C:={h.C with Age:=s.C.Age,Woods:=s.C.Woods,Places:=s.C.Places,Amount:=h.C.Amount+n},Fills:=s.Fills}
 else{C:={h.C with Age:=JT h.C.Age s.C.Age,Woods:=S8 h.C.Woods s.C.Woods,Places:=S8 h.C.Places s.C.Places,Amount:=h.C.Amount+n},Fills:=My h.Fills s.Fills}
def XY(h:Zr)(n:Int):Zr:=
 if h.C.Amount - n==0 then{C:={h.C with Age:=0,Woods:=zN,Places:=zN,Amount:=0},Fills:=[]} else{h with C:={h.C with Amount:=h.C.Amount - n}}
def yK(x:Ev):Zr:=⟨⟨x.Cask,x.Other,x.Where,x.Amount,x.Person, -1,0,0,zN,zN⟩,[]⟩
def Sc(n:Int):Zr:=⟨⟨0,0,0,0,0,0,0,0,zN,zN⟩,[n]⟩
def Pq(l:List Zr)(i:Nat)(c:Zr)(x:Ev)(num:Int):List Zr ⊕ Int:=
 if c.C.Amount+x.Amount > c.C.Room then .inr 9 else .inl (l.set i (W1 c (Sc num) x.Amount))
def MB(l:List Zr)(i k:Nat)(c o:Zr)(x:Ev):List Zr ⊕ Int:=
 if i==k then .inr 5
 else if c.C.Owner != o.C.Owner||decide (c.C.Creditor≥0)||decide (o.C.Creditor≥0) then .inr 11
 else if c.C.Amount < x.Amount then .inr 10
 else if o.C.Amount+x.Amount > o.C.Room then .inr 9
 else .inl ((l.set k (W1 o c x.Amount)).set i (XY c x.Amount))
def PG(l:List Zr)(i:Nat)(c:Zr)(x:Ev):List Zr ⊕ Int:=
 match Uo l x.Other with
 | none=>.inr 4
 | some k=>match l[k]? with
  | none=>.inr 4
  | some o=>MB l i k c o x
def AP(l:List Zr)(i:Nat)(c:Zr)(x:Ev):List Zr ⊕ Int:=
 if c.C.Creditor≥0 then .inr 11 else if c.C.Amount < x.Amount then .inr 10 else .inl (l.set i (XY c x.Amount))
def OC(l:List Zr)(i:Nat)(c:Zr)(x:Ev):List Zr ⊕ Int:=.inl (l.set i {c with C:={c.C with Place:=x.Where}})
def LB(l:List Zr)(i:Nat)(c:Zr)(x:Ev):List Zr ⊕ Int:=
 if c.C.Owner != x.Person||decide (c.C.Creditor≥0) then .inr 11 else if x.To==c.C.Owner then .inr 5 else .inl (l.set i {c with C:={c.C with Owner:=x.To}})
def SP(l:List Zr)(i:Nat)(c:Zr)(x:Ev):List Zr ⊕ Int:=
 if c.C.Owner != x.Person then .inr 11 else if c.C.Creditor≥0 then .inr 5 else .inl (l.set i {c with C:={c.C with Creditor:=x.To}})
def Lk(l:List Zr)(i:Nat)(c:Zr)(x:Ev):List Zr ⊕ Int:=
 if c.C.Creditor != x.Person then .inr 11 else .inl (l.set i {c with C:={c.C with Creditor:= -1}})
def Lx(l:List Zr)(i:Nat)(c:Zr)(x:Ev):List Zr ⊕ Int:=
 if c.C.Amount > 0 then .inr 6 else .inl (l.set i {c with C:={c.C with Wood:=x.Where}})
def HJ(l:List Zr)(i:Nat)(c:Zr)(x:Ev)(num:Int):List Zr ⊕ Int:=
 if x.Kind==1 then Pq l i c x num
 else if x.Kind==2 then PG l i c x
 else if x.Kind==3 then AP l i c x
 else if x.Kind==4 then OC l i c x
 else if x.Kind==5 then LB l i c x
 else if x.Kind==6 then SP l i c x
 else if x.Kind==7 then Lk l i c x
 else if x.Kind==8 then Lx l i c x
 else .inl l
def Og(l:List Zr)(x:Ev):List Zr ⊕ Int:=
 if(Uo l x.Cask).isSome then .inr 5 else if 256<=l.length then .inr 9 else .inl (l++[yK x])
def FX(l:List Zr)(x:Ev)(num:Int):List Zr ⊕ Int:=
 if x.Kind==0 then Og l x
 else match Uo l x.Cask with
  | none=>.inr 4
  | some i=>match l[i]? with
   | none=>.inr 4
   | some c=>HJ l i c x num
structure TP where
 all:List Zr
 last:Int
def Wz(n:Nat)(s:TP)(x:Ev):TP ⊕ Int:=
 if !XR x then .inr 1 else if x.Day < s.last then .inr 7
 else match FX (s.all.map (Vs (x.Day - s.last))) x n with
  | .inl all=>.inl ⟨all,x.Day⟩
  | .inr e=>.inr e
def Po(day:Int):List Ev->Nat->TP->(TP ⊕ Int)×Nat
 | [],n,s=>(.inl s,n)
 | x::l,n,s=>if x.Day<=day then match Wz n s x with
   | .inl s' =>Po day l (n+1) s'
   | .inr e=>(.inr e,n)
  else(.inl s,n)
def uc(day:Int)(s:TP):List Zr:=s.all.map (Vs (day - s.last))
def EX(day:Int)(l:List Ev)(n:Nat)(s:TP):(List Zr ⊕ Int)×Nat:=match Po day l n s with
 | (.inl s',k)=>(.inl (uc day s'),k)
 | (.inr e,k)=>(.inr e,k)
def Ws(l:List Ev)(day:Int):(List Zr ⊕ Int)×Nat:=
 if l.length > 4096 then(.inr 3,0) else if !WL day 0 65536 then(.inr 2,0) else EX day l 0 ⟨[],0⟩
def qq(f:Nat->Int):Int:=f 0+f 1+f 2+f 3+f 4+f 5+f 6+f 7
structure Rx(age:Int)(f:Nat->Int):Prop where
 pos:∀k,0<=f k
 out:∀k,8<=k->f k=0
 sum:qq f<=age
theorem Rx.le{a:Int}{f:Nat->Int}(h:Rx a f)(k:Nat):0<=f k/\f k<=a:=by
 refine⟨h.pos k,?_⟩;have h0:=h.pos 0;have h1:=h.pos 1;have h2:=h.pos 2;have h3:=h.pos 3;have h4:=h.pos 4;have h5:=h.pos 5;have h6:=h.pos 6;have h7:=h.pos 7;have hs:=h.sum;unfold qq at hs
 match k with
 | 0=>omega
 | 1=>omega
 | 2=>omega
 | 3=>omega
 | 4=>omega
 | 5=>omega
 | 6=>omega
 | 7=>omega
 | k+8=>have:=h.out (k+8) (by omega);omega
theorem Rx.zero{a:Int}(h:0<=a):Rx a zN:=⟨λ_=>Int.le_refl 0,λ_ _=>rfl,by simpa[qq] using h⟩
theorem Ug{f:Nat->Int}{j:Nat}{v:Int}:ZI f j v j=v:=by simp[ZI]
theorem Wn{f:Nat->Int}{j k:Nat}{v:Int}(h:k≠j):ZI f j v k=f k:=by
 unfold ZI
 have:Nat.beq k j=false:=by
  cases hb:Nat.beq k j with
  | false=>rfl
  | true=>exact absurd (Nat.eq_of_beq_eq_true hb) h
 rw[this]
theorem Rx.bq{a n:Int}{f:Nat->Int}{j:Nat}(h:Rx a f)(hj:j < 8)(hn:0<=n):Rx (a+n) (ZI f j (f j+n)):=by
 refine⟨λk=> ?_,λk hk=> ?_,?_⟩
 ·by_cases e:k=j
  ·subst e;rw[Ug];have:=h.pos k;omega
  ·rw[Wn e];exact h.pos k
 ·rw[Wn (by omega)];exact h.out k hk
 ·have hs:=h.sum;unfold qq at hs ⊢
  match j,hj with
  | 0,_=>simp[ZI];omega
  | 1,_=>simp[ZI];omega
  | 2,_=>simp[ZI];omega
  | 3,_=>simp[ZI];omega
  | 4,_=>simp[ZI];omega
  | 5,_=>simp[ZI];omega
  | 6,_=>simp[ZI];omega
  | 7,_=>simp[ZI];omega
theorem Ta{a b:Int}:JT a b<=a/\JT a b<=b/\(JT a b=a∨JT a b=b):=by unfold JT;split<;>omega
theorem Rx.min{a b:Int}{f g:Nat->Int}(h:Rx a f)(h' :Rx b g):Rx (JT a b) (S8 f g):=by
 refine⟨λk=> ?_,λk hk=> ?_,?_⟩
 ·unfold S8;have:=h.pos k;have:=h'.pos k;split
  ·have:=Ta (a:=f k) (b:=g k);omega
  ·exact h.pos k
 ·unfold S8;rw[if_neg (by omega)];exact h.out k hk
 ·have hs:=h.sum;have hs' :=h'.sum;unfold qq at hs hs' ⊢
  have e:∀k,k < 8->S8 f g k<=f k/\S8 f g k<=g k:=λk hk=>by
   unfold S8;rw[if_pos hk];have:=Ta (a:=f k) (b:=g k);omega
  have e0:=e 0 (by decide);have e1:=e 1 (by decide);have e2:=e 2 (by decide);have e3:=e 3 (by decide);have e4:=e 4 (by decide);have e5:=e 5 (by decide);have e6:=e 6 (by decide);have e7:=e 7 (by decide);have:=Ta (a:=a) (b:=b);omega
structure Mt(last:Int)(n:Nat)(h:Zr):Prop where
 num:0<=h.C.Number/\h.C.Number<=1073741824
 wood:0<=h.C.Wood/\h.C.Wood<=7
 place:0<=h.C.Place/\h.C.Place<=7
 room:1<=h.C.Room/\h.C.Room<=1099511627776
 owner:0<=h.C.Owner/\h.C.Owner<=1073741824
 cred: -1<=h.C.Creditor/\h.C.Creditor<=1073741824
 amt:0<=h.C.Amount/\h.C.Amount<=h.C.Room
 age:0<=h.C.Age/\h.C.Age<=last
 woods:Rx h.C.Age h.C.Woods
 places:Rx h.C.Age h.C.Places
 empty:h.C.Amount=0->h.C.Age=0/\h.C.Woods=zN/\h.C.Places=zN/\h.Fills=[]
 fills:h.Fills.Pairwise (·< ·)/\∀f∈h.Fills,0<=f/\f < n
 some:0 < h.C.Amount->h.Fills≠[]
structure SE(last:Int)(n:Nat)(l:List Zr):Prop where
 each:∀h∈l,Mt last n h
 nums:(l.map (·.C.Number)).Nodup
 few:l.length<=256
structure Xy(n:Nat)(s:TP):Prop where
 day:0<=s.last/\s.last<=65536
 ok:SE s.last n s.all
theorem YN{n a b:Int}:WL n a b=true↔a<=n/\n<=b:=by simp[WL]
theorem LU{last n:Int}{m:Nat}{h:Zr}(ho:Mt last m h)(hn:0<=n):Mt (last+n) m (Vs n h):=by
 unfold Vs;split
 ·rename_i hp;refine⟨ho.num,ho.wood,ho.place,ho.room,ho.owner,ho.cred,ho.amt,⟨by have:=ho.age;simp;omega,by have:=ho.age;simp;omega⟩,ho.woods.bq (by have:=ho.wood;omega) hn,ho.places.bq (by have:=ho.place;omega) hn,λe=> ?_,ho.fills,ho.some⟩;have:h.C.Amount=0:=e;omega
 ·exact⟨ho.num,ho.wood,ho.place,ho.room,ho.owner,ho.cred,ho.amt,⟨ho.age.1,by have:=ho.age.2;omega⟩,ho.woods,ho.places,ho.empty,ho.fills,ho.some⟩
theorem NR{n:Int}{h:Zr}:(Vs n h).C.Number=h.C.Number:=by unfold Vs;split<;>rfl
theorem S6{last n:Int}{m:Nat}{l:List Zr}(ho:SE last m l)(hn:0<=n):SE (last+n) m (l.map (Vs n)):=by
 refine⟨λh hh=> ?_,?_,by simpa using ho.few⟩
 ·obtain⟨h0,h1,rfl⟩:=List.mem_map.1 hh;exact LU (ho.each h0 h1) hn
 ·rw[List.map_map];have:((λx:Zr=>x.C.Number)∘Vs n)=λx=>x.C.Number:=funext λx=>NR;rw[this];exact ho.nums
theorem Ii{a b:Int}{h:Zr}:Vs b (Vs a h)=Vs (a+b) h:=by
 unfold Vs;by_cases hp:0 < h.C.Amount
 ·simp only[hp,if_true]
  have e:∀(f:Nat->Int) (j:Nat),ZI (ZI f j (f j+a)) j (ZI f j (f j+a) j+b)=ZI f j (f j+(a+b)):=λf j=>by
   funext k;unfold ZI;cases hk:Nat.beq k j with
   | true=>simp;omega
   | false=>simp
  simp only[e];congr 2;omega
 ·simp only[hp,if_false]
end
section
open Go.Dec
theorem Pb{x y:Int}:∀{l:List Int},y∈DD x l↔y=x∨y∈l
 | []=>by simp[DD]
 | z::l=>by
  simp only[DD];split
  ·simp
  ·split
   ·rename_i h;have:=(beq_iff_eq.1 h:x=z);subst this;simp
   ·simp only[List.mem_cons,Pb (l:=l)];constructor
    ·rintro(h | h | h)
     ·exact .inr (.inl h)
     ·exact .inl h
     ·exact .inr (.inr h)
    ·rintro(h | h | h)
     ·exact .inr (.inl h)
     ·exact .inl h
     ·exact .inr (.inr h)
theorem GF{x:Int}:∀{l:List Int},l.Pairwise (·< ·)->(DD x l).Pairwise (·< ·)
 | [],_=>by simp[DD]
 | z::l,h=>by
  have hz:=List.pairwise_cons.1 h;simp only[DD];split
  ·rename_i hlt;refine List.pairwise_cons.2 ⟨λa ha=> ?_,h⟩;rcases List.mem_cons.1 ha with rfl | ha
   ·exact hlt
   ·have:=hz.1 a ha;omega
  ·split
   ·exact h
   ·rename_i h1 h2;have hne:x≠z:=λe=>h2 (by simp[e]);refine List.pairwise_cons.2 ⟨λa ha=> ?_,GF hz.2⟩;rcases Pb.1 ha with rfl | ha
    ·omega
    ·exact hz.1 a ha
theorem PZ{a b:List Int}{y:Int}:y∈My a b↔y∈a∨y∈b:=by
 unfold My
 induction a with
 | nil=>simp
 | cons x a ih=>simp only[List.foldr_cons,Pb,ih,List.mem_cons,or_assoc]
theorem EM{a b:List Int}(h:b.Pairwise (·< ·)):(My a b).Pairwise (·< ·):=by
 unfold My
 induction a with
 | nil=>exact h
 | cons x a ih=>exact GF ih
theorem Fs:∀{a b:List Int},a.Pairwise (·< ·)->b.Pairwise (·< ·)->(∀x,x∈a↔x∈b)->a=b
 | [],[],_,_,_=>rfl
 | [],y::b,_,_,h=>by have:=(h y).2 (by simp);simp at this
 | x::a,[],_,_,h=>by have:=(h x).1 (by simp);simp at this
 | x::a,y::b,ha,hb,h=>by
  have ha' :=List.pairwise_cons.1 ha;have hb' :=List.pairwise_cons.1 hb
  have exy:x=y:=by
   have h1:=(h x).1 (by simp);have h2:=(h y).2 (by simp);rcases List.mem_cons.1 h1 with e | h1
   ·exact e
   ·rcases List.mem_cons.1 h2 with e | h2
    ·exact e.symm
    ·have:=hb'.1 x h1;have:=ha'.1 y h2;omega
  subst exy;congr 1;refine Fs ha'.2 hb'.2 λz=> ?_;constructor
  ·intro hz;have:=(h z).1 (List.mem_cons_of_mem _ hz);rcases List.mem_cons.1 this with rfl | this
   ·have:=ha'.1 z hz;omega
   ·exact this
  ·intro hz;have:=(h z).2 (List.mem_cons_of_mem _ hz);rcases List.mem_cons.1 this with rfl | this
   ·have:=hb'.1 z hz;omega
   ·exact this
theorem CB{n:Int}:∀{l:List Zr} {i:Nat},Uo l n=some i->∃h,l[i]? =some h/\h.C.Number=n
 | [],_,h=>by cases h
 | h::l,i,e=>by
  simp only[Uo] at e
  split at e
  ·rename_i hb;cases e;exact⟨h,rfl,beq_iff_eq.1 hb⟩
  ·cases hf:Uo l n with
   | none=>rw[hf] at e;cases e
   | some j=>
    rw[hf] at e
    simp only[Option.map_some,Option.some.injEq] at e
    subst e;obtain⟨h',h1,h2⟩:=CB hf;exact⟨h',by simpa using h1,h2⟩
theorem CC{n:Int}:∀{l:List Zr},Uo l n=none->∀h∈l,h.C.Number≠n
 | [],_,_,h=>by cases h
 | h::l,e,h',hm=>by
  simp only[Uo] at e
  split at e
  ·cases e
  ·rename_i hb;cases hf:Uo l n with
   | some j=>rw[hf] at e;cases e
   | none=>
    rcases List.mem_cons.1 hm with rfl | hm
    ·intro e';exact hb (by simp[e'])
    ·exact CC hf h' hm
theorem Mt.up{last:Int}{n:Nat}{h:Zr}(ho:Mt last n h):Mt last (n+1) h:=
 {ho with fills:=⟨ho.fills.1,λf hf=>by have:=ho.fills.2 f hf;omega⟩}
theorem SE.set{last:Int}{n:Nat}{l:List Zr}{i:Nat}{h h' :Zr}(ho:SE last n l)(hi:l[i]? =some h)(hh:Mt last n h')(hn:h'.C.Number=h.C.Number):SE last n (l.set i h'):=by
 refine⟨λx hx=> ?_,?_,by simpa using ho.few⟩
 ·rcases List.mem_or_eq_of_mem_set hx with h1 | h1
  ·exact ho.each x h1
  ·rw[h1];exact hh
 ·have:(l.set i h').map (·.C.Number)=l.map (·.C.Number):=by
   apply List.ext_getElem?;intro j;simp only[List.getElem?_map,List.getElem?_set];by_cases e:i=j
   ·subst e;have hlt:=(List.getElem?_eq_some_iff.1 hi).1;have hh:=(List.getElem?_eq_some_iff.1 hi).2;simp[hlt,hn,hh]
   ·simp[e]
  rw[this];exact ho.nums
theorem SE.up{last:Int}{n:Nat}{l:List Zr}(ho:SE last n l):SE last (n+1) l:=⟨λh hh=>(ho.each h hh).up,ho.nums,ho.few⟩
theorem OU{last:Int}{m:Nat}{h s:Zr}{n:Int}(ho:Mt last m h)(hn:1<=n)(hr:h.C.Amount+n<=h.C.Room)(ha:0<=s.C.Age/\s.C.Age<=last)(hw:Rx s.C.Age s.C.Woods)(hp:Rx s.C.Age s.C.Places)(hf:s.Fills.Pairwise (·< ·)/\∀f∈s.Fills,0<=f/\f < m)(hne:s.Fills≠[]):Mt last m (W1 h s n):=by
 unfold W1;split
 ·rename_i h0;have h0' :h.C.Amount=0:=beq_iff_eq.1 h0;refine⟨ho.num,ho.wood,ho.place,ho.room,ho.owner,ho.cred,⟨by show 0<=h.C.Amount+n;omega,hr⟩,ha,hw,hp,λe=> ?_,hf,λ_=>hne⟩;have:h.C.Amount+n=0:=e;omega
 ·rename_i h0
  have hpos:0 < h.C.Amount:=by
   have:=ho.amt.1;have:h.C.Amount≠0:=λe=>h0 (by simp[e]);omega
  refine⟨ho.num,ho.wood,ho.place,ho.room,ho.owner,ho.cred,⟨by show 0<=h.C.Amount+n;omega,hr⟩,?_,ho.woods.min hw,ho.places.min hp,λe=> ?_,?_,λ_=> ?_⟩
  ·have:=ho.age;have:=Ta (a:=h.C.Age) (b:=s.C.Age);show 0<=JT _ _/\JT _ _<=last;omega
  ·have:h.C.Amount+n=0:=e;omega
  ·refine⟨EM hf.1,λf h1=> ?_⟩;rcases PZ.1 h1 with h1 | h1
   ·exact ho.fills.2 f h1
   ·exact hf.2 f h1
  ·intro e;have h1:=ho.some hpos;cases hh:h.Fills with
   | nil=>exact h1 hh
   | cons a t=>
    have:a∈My h.Fills s.Fills:=PZ.2 (.inl (by rw[hh];simp));have e' :My h.Fills s.Fills=[]:=e;rw[e'] at this;cases this
theorem MQ{last:Int}{m:Nat}{h:Zr}{n:Int}(ho:Mt last m h)(hn:1<=n)(hr:n<=h.C.Amount)(hl:0<=last):Mt last m (XY h n):=by
 unfold XY;split
 ·have hroom:=ho.room;exact⟨ho.num,ho.wood,ho.place,ho.room,ho.owner,ho.cred,⟨Int.le_refl 0,by show(0:Int)<=h.C.Room;omega⟩,⟨Int.le_refl 0,hl⟩,Rx.zero (Int.le_refl 0),Rx.zero (Int.le_refl 0),λ_=>⟨rfl,rfl,rfl,rfl⟩,⟨List.Pairwise.nil,λ_ h=>by cases h⟩,λh=>by have h' :(0:Int) < 0:=h;omega⟩
 ·rename_i h0;have hne:h.C.Amount - n≠0:=λe=>h0 (by simp[e]);have ha:=ho.amt;refine⟨ho.num,ho.wood,ho.place,ho.room,ho.owner,ho.cred,⟨by show 0<=h.C.Amount - n;omega,by show h.C.Amount - n<=h.C.Room;omega⟩,ho.age,ho.woods,ho.places,λe=>absurd e hne,ho.fills,λ_=>ho.some (by omega)⟩
theorem Ps{x:Ev}(h:XR x=true):(0<=x.Day/\x.Day<=65536)/\(0<=x.Cask/\x.Cask<=1073741824):=by
 simp only[XR,Bool.and_eq_true,YN] at h
 exact⟨h.1.1,h.1.2⟩
theorem ub{x:Ev}(h:XR x=true)(k:x.Kind=0):(0<=x.Other/\x.Other<=7)/\(0<=x.Where/\x.Where<=7)/\(1<=x.Amount/\x.Amount<=1099511627776)/\(0<=x.Person/\x.Person<=1073741824):=by
 simp only[XR,Bool.and_eq_true,YN,k,BEq.rfl,if_true] at h
 obtain⟨_,⟨⟨⟨h1,h2⟩,h3⟩,h4⟩⟩:=h;exact⟨h1,h2,h3,h4⟩
theorem MX{x:Ev}(h:XR x=true):(if x.Kind==0 then WL x.Other 0 7&&WL x.Where 0 7&&WL x.Amount 1 1099511627776&&WL x.Person 0 1073741824
 else if x.Kind==1||x.Kind==3 then WL x.Amount 1 1099511627776
 else if x.Kind==2 then WL x.Other 0 1073741824&&WL x.Amount 1 1099511627776
 else if x.Kind==4 then WL x.Where 0 7
 else if x.Kind==5||x.Kind==6 then WL x.Person 0 1073741824&&WL x.To 0 1073741824
 else if x.Kind==7 then WL x.Person 0 1073741824
 else if x.Kind==8 then WL x.Where 0 7 else false)=true:=((Bool.and_eq_true _ _).mp h).2
theorem Nn{x:Ev}(h:XR x=true)(k:x.Kind=1∨x.Kind=2∨x.Kind=3):1<=x.Amount/\x.Amount<=1099511627776:=by
 have h:=MX h;rcases k with k | k | k<;>rw[k] at h
 ·exact YN.1 h
 ·exact YN.1 ((Bool.and_eq_true _ _).mp h).2
 ·exact YN.1 h
theorem vc{x:Ev}(h:XR x=true)(k:x.Kind=4∨x.Kind=8):0<=x.Where/\x.Where<=7:=by
 have h:=MX h;rcases k with k | k<;>rw[k] at h
 ·exact YN.1 h
 ·exact YN.1 h
theorem vb{x:Ev}(h:XR x=true)(k:x.Kind=5∨x.Kind=6):0<=x.To/\x.To<=1073741824:=by
 have h:=MX h;rcases k with k | k<;>rw[k] at h
 ·exact YN.1 ((Bool.and_eq_true _ _).mp h).2
 ·exact YN.1 ((Bool.and_eq_true _ _).mp h).2
theorem kinds{x:Ev}(h:XR x=true):x.Kind=0∨x.Kind=1∨x.Kind=2∨x.Kind=3∨x.Kind=4∨x.Kind=5∨x.Kind=6∨x.Kind=7∨x.Kind=8:=by
 have h:=MX h;by_cases k0:x.Kind=0
 ·exact .inl k0
 rw[if_neg (by simpa using k0)] at h
 by_cases k1:x.Kind=1
 ·exact .inr (.inl k1)
 by_cases k3:x.Kind=3
 ·exact .inr (.inr (.inr (.inl k3)))
 rw[if_neg (by simp[k1,k3])] at h
 by_cases k2:x.Kind=2
 ·exact .inr (.inr (.inl k2))
 rw[if_neg (by simpa using k2)] at h
 by_cases k4:x.Kind=4
 ·exact .inr (.inr (.inr (.inr (.inl k4))))
 rw[if_neg (by simpa using k4)] at h
 by_cases k5:x.Kind=5
 ·exact .inr (.inr (.inr (.inr (.inr (.inl k5)))))
 by_cases k6:x.Kind=6
 ·exact .inr (.inr (.inr (.inr (.inr (.inr (.inl k6))))))
 rw[if_neg (by simp[k5,k6])] at h
 by_cases k7:x.Kind=7
 ·exact .inr (.inr (.inr (.inr (.inr (.inr (.inr (.inl k7)))))))
 rw[if_neg (by simpa using k7)] at h
 by_cases k8:x.Kind=8
 ·exact .inr (.inr (.inr (.inr (.inr (.inr (.inr (.inr k8)))))))
 rw[if_neg (by simpa using k8)] at h
 cases h
section
variable{last:Int}{m:Nat}{l l' :List Zr}{x:Ev}{i:Nat}{c:Zr}
theorem Oe(ho:SE last m l)(hl:0<=last)(hv:XR x=true)(hk:x.Kind=0)(h:Og l x= .inl l'):SE last (m+1) l' :=by
 unfold Og at h
 split at h
 ·cases h
 ·rename_i hf;split at h
  ·cases h
  ·rename_i hlen;cases h;obtain⟨e1,e2,e3,e4⟩:=ub hv hk;have e0:=(Ps hv).2;refine⟨λy hy=> ?_,?_,by simp;omega⟩
   ·rcases List.mem_append.1 hy with hy | hy
    ·exact(ho.each y hy).up
    ·simp only[List.mem_singleton] at hy
     subst hy;exact⟨e0,e1,e2,e3,e4,by simp[yK],⟨Int.le_refl 0,by show(0:Int)<=x.Amount;omega⟩,⟨Int.le_refl 0,hl⟩,Rx.zero (Int.le_refl 0),Rx.zero (Int.le_refl 0),λ_=>⟨rfl,rfl,rfl,rfl⟩,⟨List.Pairwise.nil,λ_ h=>by cases h⟩,λh=>by have h' :(0:Int) < 0:=h;omega⟩
   ·rw[List.map_append,List.nodup_append];refine⟨ho.nums,by simp,λa ha b hb=> ?_⟩;simp only[List.map_cons,List.map_nil,List.mem_singleton] at hb
    obtain⟨y,hy,rfl⟩:=List.mem_map.1 ha;subst hb;have hf' :Uo l x.Cask=none:=by simpa using hf
    exact CC hf' y hy
theorem Ot(ho:SE last m l)(hl:0<=last)(hc:l[i]? =some c)(ha:1<=x.Amount)(h:Pq l i c x m= .inl l'):SE last (m+1) l' :=by
 have hcm:=ho.each c (List.mem_of_getElem? hc);unfold Pq at h
 split at h
 ·cases h
 ·rename_i hroom;cases h;refine(ho.up).set hc (OU hcm.up ha (by omega) ⟨Int.le_refl 0,hl⟩ (Rx.zero (Int.le_refl 0)) (Rx.zero (Int.le_refl 0)) ⟨by simp[Sc],λf hf=> ?_⟩ (by simp[Sc])) ?_
  ·simp only[Sc,List.mem_singleton] at hf
   subst hf;omega
  ·unfold W1;split<;>rfl
theorem OT(ho:SE last m l)(hl:0<=last)(hc:l[i]? =some c)(ha:1<=x.Amount)(h:PG l i c x= .inl l'):SE last (m+1) l' :=by
 have hcm:=ho.each c (List.mem_of_getElem? hc);unfold PG at h
 split at h
 ·cases h
 ·rename_i k hfk;split at h
  ·cases h
  ·rename_i o hko;have hom:=ho.each o (List.mem_of_getElem? hko);unfold MB at h
   split at h
   ·cases h
   ·rename_i hik;have hik' :i≠k:=λe=>hik (by simp[e]);split at h
    ·cases h
    ·split at h
     ·cases h
     ·split at h
      ·cases h
      ·rename_i hsh hfu;cases h;have hpos:0 < c.C.Amount:=by omega
       have h1:=(ho.up).set hko (OU (s:=c) hom.up ha (by omega) hcm.age hcm.woods hcm.places hcm.up.fills (hcm.some hpos)) (by unfold W1;split<;>rfl);refine h1.set (h:=c) ?_ (MQ hcm.up ha (by omega) hl) (by unfold XY;split<;>rfl);rw[List.getElem?_set_ne (λe=>hik' e.symm)];exact hc
theorem zt(ho:SE last m l)(hl:0<=last)(hc:l[i]? =some c)(ha:1<=x.Amount)(h:AP l i c x= .inl l'):SE last (m+1) l' :=by
 have hcm:=ho.each c (List.mem_of_getElem? hc);unfold AP at h
 split at h
 ·cases h
 ·split at h
  ·cases h
  ·cases h;exact(ho.up).set hc (MQ hcm.up ha (by omega) hl) (by unfold XY;split<;>rfl)
theorem yf(ho:SE last m l)(hl:0<=last)(hv:XR x=true)(h0:x.Kind≠0)(hc:l[i]? =some c)(h:HJ l i c x m= .inl l'):SE last (m+1) l' :=by
 have hcm:=ho.each c (List.mem_of_getElem? hc);rcases kinds hv with k | k | k | k | k | k | k | k | k
 ·exact absurd k h0
 ·have h:Pq l i c x m= .inl l' :=by rw[<-h];unfold HJ;rw[k];rfl
  exact Ot ho hl hc (Nn hv (.inl k)).1 h
 ·have h:PG l i c x= .inl l' :=by rw[<-h];unfold HJ;rw[k];rfl
  exact OT ho hl hc (Nn hv (.inr (.inl k))).1 h
 ·have h:AP l i c x= .inl l' :=by rw[<-h];unfold HJ;rw[k];rfl
  exact zt ho hl hc (Nn hv (.inr (.inr k))).1 h
 ·have h:OC l i c x= .inl l' :=by rw[<-h];unfold HJ;rw[k];rfl
  cases h;exact(ho.up).set hc {hcm.up with place:=vc hv (.inl k)} rfl
 ·have h:LB l i c x= .inl l' :=by rw[<-h];unfold HJ;rw[k];rfl
  unfold LB at h
  split at h
  ·cases h
  ·split at h
   ·cases h
   ·cases h;exact(ho.up).set hc {hcm.up with owner:=vb hv (.inl k)} rfl
 ·have h:SP l i c x= .inl l' :=by rw[<-h];unfold HJ;rw[k];rfl
  unfold SP at h
  split at h
  ·cases h
  ·split at h
   ·cases h
   ·cases h;have:=vb hv (.inr k);exact(ho.up).set hc {hcm.up with cred:=⟨by show -1<=x.To;omega,this.2⟩} rfl
 ·have h:Lk l i c x= .inl l' :=by rw[<-h];unfold HJ;rw[k];rfl
  unfold Lk at h
  split at h
  ·cases h
  ·cases h;exact(ho.up).set hc {hcm.up with cred:=⟨Int.le_refl _,by show(-1:Int)<=_;omega⟩} rfl
 ·have h:Lx l i c x= .inl l' :=by rw[<-h];unfold HJ;rw[k];rfl
  unfold Lx at h
  split at h
  ·cases h
  ·cases h;exact(ho.up).set hc {hcm.up with wood:=vc hv (.inr k)} rfl
theorem zu(ho:SE last m l)(hl:0<=last)(hv:XR x=true)(h:FX l x m= .inl l'):SE last (m+1) l' :=by
 unfold FX at h
 split at h
 ·rename_i hk;exact Oe ho hl hv (beq_iff_eq.1 hk) h
 ·rename_i hk;split at h
  ·cases h
  ·split at h
   ·cases h
   ·rename_i c hc;exact yf ho hl hv (λe=>hk (by simp[e])) hc h
end
theorem SK{n:Nat}{s s' :TP}{x:Ev}(ho:Xy n s)(h:Wz n s x= .inl s'):Xy (n+1) s'/\XR x=true/\s.last<=x.Day/\s'.last=x.Day:=by
 unfold Wz at h
 split at h
 ·cases h
 ·rename_i hv;have hv:XR x=true:=by simpa using hv
  split at h
  ·cases h
  ·rename_i hd;split at h
   ·rename_i all hall;cases h;have hb:=(Ps hv).1;have h1:=S6 ho.ok (n:=x.Day - s.last) (by omega);have e:s.last+(x.Day - s.last)=x.Day:=by omega
    rw[e] at h1
    exact⟨⟨hb,zu h1 hb.1 hv hall⟩,hv,by omega,rfl⟩
   ·cases h
theorem Xy.start:Xy 0 ⟨[],0⟩:=⟨⟨Int.le_refl 0,by decide⟩,⟨λ_ h=>(by cases h),List.nodup_nil,by simp⟩⟩
end
section
open Go.Dec
theorem Tx{n:Int}:∀{l:List Int} (a:Int),l.Pairwise (·< ·)->(∀f∈l,a<=f/\f < n)->a<=n->(l.length:Int)<=n - a
 | [],a,_,_,h=>by simp;omega
 | x::l,a,h,hb,_=>by
  have h' :=List.pairwise_cons.1 h;have hx:=hb x (by simp);have:=Tx (l:=l) (x+1) h'.2 (λf hf=>⟨by have:=h'.1 f hf;omega,(hb f (List.mem_cons_of_mem _ hf)).2⟩) (by omega);simp only[List.length_cons];omega
def TG(i:Nat)(f g:Nat->Int):Nat->Int:=λk=>if k < i then JT (f k) (g k) else f k
theorem NW{i:Nat}{f g:Nat->Int}:ZI (TG i f g) i (JT (f i) (g i))=TG (i+1) f g:=by
 funext k;by_cases e:k=i
 ·subst e;rw[Ug];unfold TG;rw[if_pos (by omega)]
 ·rw[Wn e];unfold TG;by_cases h:k < i
  ·rw[if_pos h,if_pos (by omega)]
  ·rw[if_neg h,if_neg (by omega)]
theorem zW{f g:Nat->Int}:TG 0 f g=f:=by funext k;unfold TG;rw[if_neg (by omega)]
theorem ua{x:Ev}(h:XR x=true):0<=x.Day/\x.Day<=65536:=(Ps h).1
theorem Ni{day:Int}:∀(l:List Ev) (n:Nat) (s s' :TP) (k:Nat),Xy n s->s.last<=day->Po day l n s=(.inl s',k)->Xy k s'/\s'.last<=day/\n<=k/\k<=n+l.length
 | [],n,s,s',k,ho,hd,h=>by
  simp only[Po,Prod.mk.injEq,Sum.inl.injEq] at h
  obtain⟨rfl,rfl⟩:=h;exact⟨ho,hd,Nat.le_refl _,by simp⟩
 | x::l,n,s,s',k,ho,hd,h=>by
  simp only[Po] at h
  by_cases hx:x.Day<=day
  ·rw[if_pos hx] at h
   cases hs:Wz n s x with
   | inl s1=>
    rw[hs] at h
    obtain⟨h1,_,_,h4⟩:=SK ho hs;obtain⟨g1,g2,g3,g4⟩:=Ni l (n+1) s1 s' k h1 (by omega) h;exact⟨g1,g2,by omega,by simp;omega⟩
   | inr e=>rw[hs] at h;cases h
  ·rw[if_neg hx] at h
   simp only[Prod.mk.injEq,Sum.inl.injEq] at h
   obtain⟨rfl,rfl⟩:=h;exact⟨ho,hd,Nat.le_refl _,by simp⟩
end
section
open Go.Dec
abbrev FM:=List (List (Int×Bool))
def Vc(c:QF)(F:List Int):Zr:=⟨⟨c.number,c.wood,c.place,c.room,c.owner,c.creditor,c.amount,c.times.age,c.times.woods,c.times.places⟩,F⟩
def FR(A3:FM)(p:Option Nat)(F:List Int):Prop:=match p with
 | none=>F=[]
 | some j=>∃l,A3[j]? =some l/\(l.map Prod.fst).Nodup/\∀x,x∈F↔x∈l.map Prod.fst
structure CR(t:Int)(n:Nat)(A3:FM)(c:QF)(h:Zr):Prop where
 since:0<=c.since/\c.since<=t
 ok:Mt c.since n (Vc c h.Fills)
 eq:h=Vs (t - c.since) (Vc c h.Fills)
 fills:FR A3 c.fills h.Fills
structure PR(t:Int)(n:Nat)(all:List Zr)(A1:List QF)(A3:FM)(m:List (Int×Option Nat)):Prop where
 len:A1.length=all.length
 each:∀(k:Nat) (c:QF) (h:Zr),A1[k]? =some c->all[k]? =some h->CR t n A3 c h
 map:m=A1.mapIdx (λk c=>(c.number,some k))
 apart:∀(i j:Nat) (ci cj:QF) (q:Nat),A1[i]? =some ci->A1[j]? =some cj->ci.fills=some q->cj.fills=some q->i=j
theorem BD{n:Int}{h:Zr}:(Vs n h).Fills=h.Fills:=by unfold Vs;split<;>rfl
theorem TW{h:Zr}:Vs 0 h=h:=by
 unfold Vs;split
 ·have e:∀(f:Nat->Int) (j:Nat),ZI f j (f j)=f:=λf j=>by
   funext k;by_cases e:k=j
   ·subst e;rw[Ug]
   ·rw[Wn e]
  simp only[Int.add_zero,e]
 ·rfl
theorem CR.number{t:Int}{n:Nat}{A3:FM}{c:QF}{h:Zr}(r:CR t n A3 c h):h.C.Number=c.number:=by rw[r.eq,NR];rfl
theorem CR.shift{t t' :Int}{n:Nat}{A3:FM}{c:QF}{h:Zr}(r:CR t n A3 c h)(le:t<=t'):CR t' n A3 c (Vs (t' - t) h):=by
 refine⟨⟨r.since.1,by have:=r.since.2;omega⟩,?_,?_,?_⟩
 ·rw[BD];exact r.ok
 ·rw[BD]
  conv=>lhs;rw[r.eq]
  rw[Ii];congr 1;omega
 ·rw[BD];exact r.fills
theorem PR.shift{t t' :Int}{n:Nat}{all:List Zr}{A1:List QF}{A3:FM}{m:List (Int×Option Nat)}(r:PR t n all A1 A3 m)(le:t<=t'):PR t' n (all.map (Vs (t' - t))) A1 A3 m:=by
 refine⟨by simpa using r.len,λk c h hc hh=> ?_,r.map,r.apart⟩;rw[List.getElem?_map] at hh
 cases h0:all[k]? with
 | none=>rw[h0] at hh;cases hh
 | some h1=>
  rw[h0] at hh
  simp only[Option.map_some,Option.some.injEq] at hh
  subst hh;exact(r.each k c h1 hc h0).shift le
def WT(t:Int)(c:QF):QF:=
 if 0 < c.amount then{c with since:=t,times:=⟨c.times.age+(t - c.since),ZI c.times.woods c.wood.toNat (c.times.woods c.wood.toNat+(t - c.since)),ZI c.times.places c.place.toNat (c.times.places c.place.toNat+(t - c.since))⟩} else{c with since:=t}
theorem LI{t:Int}{c:QF}{F:List Int}:Vc (WT t c) F=Vs (t - c.since) (Vc c F):=by
 unfold WT Vs;by_cases h:0 < c.amount
 ·rw[if_pos h,if_pos (show 0 < (Vc c F).C.Amount from h)];rfl
 ·rw[if_neg h,if_neg (show ¬0 < (Vc c F).C.Amount from h)];rfl
theorem WS{t:Int}{c:QF}:(WT t c).since=t:=by unfold WT;split<;>rfl
theorem Ar{t:Int}{c:QF}:(WT t c).number=c.number:=by unfold WT;split<;>rfl
theorem D6{t:Int}{c:QF}:(WT t c).fills=c.fills:=by unfold WT;split<;>rfl
theorem CR.rest{t:Int}{n:Nat}{A3:FM}{c:QF}{h:Zr}(r:CR t n A3 c h):CR t n A3 (WT t c) h:=by
 refine⟨⟨by rw[WS];have:=r.since;omega,by rw[WS];exact Int.le_refl t⟩,?_,?_,by rw[D6];exact r.fills⟩
 ·rw[LI,WS];have:=LU r.ok (n:=t - c.since) (by have:=r.since;omega);have e:c.since+(t - c.since)=t:=by omega
  rwa[e] at this
 ·rw[LI,WS,Int.sub_self,TW];exact r.eq
theorem ND{A1:List QF}{k:Nat}{c:QF}{t:Int}{n:Nat}{F:List Int}(hc:A1[k]? =some c)(ho:Mt c.since n (Vc c F))(_h0:0<=c.since)(h1:c.since<=t)(ht:t<=1000000):
  Vp A1 (some k) t=some (A1.set k (WT t c)):=by
 have hk:k < A1.length:=(List.getElem?_eq_some_iff.1 hc).1;have hage:=ho.age;have hwood:=ho.wood;have hplace:=ho.place;have ew:YP 8 c.wood=some c.wood.toNat:=by unfold YP;rw[if_pos (by have:0<=c.wood/\c.wood<=7:=hwood;omega)]
 have ep:YP 8 c.place=some c.place.toNat:=by unfold YP;rw[if_pos (by have:0<=c.place/\c.place<=7:=hplace;omega)]
 have w1:0<=c.times.woods c.wood.toNat/\c.times.woods c.wood.toNat<=c.times.age:=ho.woods.le _;have p1:0<=c.times.places c.place.toNat/\c.times.places c.place.toNat<=c.times.age:=ho.places.le _;have ha:0<=c.times.age/\c.times.age<=c.since:=hage;unfold Vp;simp only[Option.bind_some,hc,QV];rw[Qs (n:=t - c.since) (by omega) (by omega)];by_cases hp:0 < c.amount
 ·rw[if_pos (by simpa using hp)];simp only[ew,ep,Option.bind_some,List.set_set];rw[Qs (n:=c.times.age+(t - c.since)) (by omega) (by omega),Qs (n:=c.times.woods c.wood.toNat+(t - c.since)) (by omega) (by omega),Qs (n:=c.times.places c.place.toNat+(t - c.since)) (by omega) (by omega)];simp only[WT,hp,if_true]
 ·rw[if_neg (by simpa using hp)];simp only[WT,hp,if_false]
theorem Pd{num:Int}:∀(A1:List QF) (all:List Zr) (k0:Nat),A1.length=all.length->(∀(k:Nat) (c:QF) (h:Zr),A1[k]? =some c->all[k]? =some h->h.C.Number=c.number)->
  (Qc (A1.mapIdx (λk c=>(c.number,some (k0+k)))) num).getD none=(Uo all num).map (k0+ ·)
 | [],[],_,_,_=>rfl
 | [],_::_,_,h,_=>by simp at h
 | _::_,[],_,h,_=>by simp at h
 | c::A1,h::all,k0,hl,hn=>by
  have h0:=hn 0 c h rfl rfl;rw[List.mapIdx_cons];simp only[Qc,Uo];by_cases e:num=c.number
  ·have e1:(num==c.number)=true:=by simpa using e
   have e2:(h.C.Number==num)=true:=by simp[h0,e]
   simp[e1,e2]
  ·have e1:(num==c.number)=false:=by simpa using e
   have e2:(h.C.Number==num)=false:=by simp[h0];exact λe' =>e e'.symm
   have ih:=Pd (num:=num) A1 all (k0+1) (by simpa using hl) (λk c h h1 h2=>hn (k+1) c h (by simpa using h1) (by simpa using h2));simp only[e1,e2,Bool.false_eq_true,if_false];have e3:(fun(i:Nat) (a:QF)=>(a.number,some (k0+(i+1))))=λk c=>(c.number,some (k0+1+k)):=by funext i a;rw[show k0+(i+1)=k0+1+i by omega]
   rw[e3,ih];cases Uo all num with
   | none=>rfl
   | some j=>simp;omega
theorem PR.get{t:Int}{n:Nat}{all:List Zr}{A1:List QF}{A3:FM}{m:List (Int×Option Nat)}(r:PR t n all A1 A3 m)(num:Int):(Qc m num).getD none=Uo all num:=by
 have:=Pd (num:=num) A1 all 0 r.len (λk c h h1 h2=>(r.each k c h h1 h2).number);rw[r.map];simpa using this
end
section
open Go.Dec
theorem CR.up{t:Int}{n:Nat}{A3:FM}{c:QF}{h:Zr}(r:CR t n A3 c h):CR t (n+1) A3 c h:=⟨r.since,r.ok.up,r.eq,r.fills⟩
theorem FR.ug{A3 A3' :FM}{p:Option Nat}{F:List Int}(r:FR A3 p F)(h:∀q,p=some q->A3'[q]? =A3[q]?):FR A3' p F:=by
 cases p with
 | none=>exact r
 | some q=>obtain⟨l,h1,h2⟩:=r;exact⟨l,by rw[h q rfl];exact h1,h2⟩
theorem mapIdx_set{A1:List QF}{k:Nat}{c c' :QF}(hc:A1[k]? =some c)(hn:c'.number=c.number):(A1.set k c').mapIdx (λk c=>(c.number,some k))=A1.mapIdx (λk (c:QF)=>(c.number,some k)):=by
 apply List.ext_getElem?;intro i;simp only[List.getElem?_mapIdx,List.getElem?_set];by_cases e:k=i
 ·subst e;have hlt:=(List.getElem?_eq_some_iff.1 hc).1;have hx:=(List.getElem?_eq_some_iff.1 hc).2;simp[hlt,hn,hx]
 ·simp[e]
section
variable{t:Int}{n n' :Nat}{all:List Zr}{A1:List QF}{A3 A3' :FM}{m:List (Int×Option Nat)}{k:Nat}{c c' :QF}{h h' :Zr}
theorem PR.set(r:PR t n all A1 A3 m)(hc:A1[k]? =some c)(hh:all[k]? =some h)(hn' :c'.number=c.number)(hcr:CR t n' A3' c' h')(hother:∀(i:Nat) (ci:QF) (hi:Zr),i≠k->A1[i]? =some ci->all[i]? =some hi->CR t n' A3' ci hi)
  (hap:∀(i:Nat) (ci:QF) (q:Nat),i≠k->A1[i]? =some ci->ci.fills=some q->c'.fills≠some q):PR t n' (all.set k h') (A1.set k c') A3' m:=by
 have hk:=(List.getElem?_eq_some_iff.1 hc).1;have hk2:=(List.getElem?_eq_some_iff.1 hh).1;refine⟨by simpa using r.len,λi ci hi h1 h2=> ?_,by rw[mapIdx_set hc hn'];exact r.map,λi j ci cj q h1 h2 h3 h4=> ?_⟩
 ·by_cases e:k=i
  ·subst e;rw[List.getElem?_set_self hk] at h1
   rw[List.getElem?_set_self hk2] at h2
   cases h1;cases h2;exact hcr
  ·rw[List.getElem?_set_ne e] at h1 h2
   exact hother i ci hi (λe' =>e e'.symm) h1 h2
 ·by_cases e:k=i
  ·by_cases e2:k=j
   ·rw[<-e,<-e2]
   ·subst e;rw[List.getElem?_set_self hk] at h1
    rw[List.getElem?_set_ne e2] at h2
    cases h1;exact absurd h3 (hap j cj q (λe' =>e2 e'.symm) h2 h4)
  ·rw[List.getElem?_set_ne e] at h1
   by_cases e2:k=j
   ·subst e2;rw[List.getElem?_set_self hk] at h2
    cases h2;exact absurd h4 (hap i ci q (λe' =>e e'.symm) h1 h3)
   ·rw[List.getElem?_set_ne e2] at h2
    exact r.apart i j ci cj q h1 h2 h3 h4
theorem PR.bO(r:PR t n all A1 A3 m)(hc:A1[k]? =some c)(hh:all[k]? =some h)(hn' :c'.number=c.number)(hcr:CR t (n+1) A3 c' h')(hf:c'.fills=c.fills∨c'.fills=none):PR t (n+1) (all.set k h') (A1.set k c') A3 m:=
 r.set hc hh hn' hcr (λi ci hi _ h1 h2=>(r.each i ci hi h1 h2).up) (λi ci q hi h1 h2 h3=>by
  rcases hf with hf | hf
  ·rw[hf] at h3;exact hi (r.apart i k ci c q h1 hc h2 h3)
  ·rw[hf] at h3;cases h3)
theorem PR.rest(r:PR t n all A1 A3 m)(hc:A1[k]? =some c):PR t n all (A1.set k (WT t c)) A3 m:=by
 have hk:=(List.getElem?_eq_some_iff.1 hc).1;have hk2:k < all.length:=by rw[<-r.len];exact hk
 have hh:all[k]? =some all[k]:=List.getElem?_eq_getElem hk2
 have:=r.set (n' :=n) (A3' :=A3) (c' :=WT t c) (h' :=all[k]) hc hh Ar (r.each k c _ hc hh).rest (λi ci hi _ h1 h2=>r.each i ci hi h1 h2) (λi ci q hi h1 h2 h3=>by
  rw[D6] at h3;exact hi (r.apart i k ci c q h1 hc h2 h3))
 rwa[List.set_getElem_self] at this
theorem Wr{x20:Qh}{num:Int}(r:PR t n all A1 A3 m)(ht:t<=1000000)(hb:x20.casks=some 0):
  (Uo all num=none/\Z0 A1 [x20] [m] (some 0) num t=some (.pan ⟨4⟩))∨
  (∃k h c,Uo all num=some k/\all[k]? =some h/\h.C.Number=num/\PR t n all (A1.set k c) A3 m/\(A1.set k c)[k]? =some c/\c.since=t/\h=Vc c h.Fills/\Mt t n h/\Z0 A1 [x20] [m] (some 0) num t=some (.ok (some k,A1.set k c))):=by
 have hget:=r.get num;unfold Z0;simp only[Option.bind_some,List.getElem?_cons_zero,hb,hget];cases hf:Uo all num with
 | none=>
  left;exact⟨rfl,rfl⟩
 | some k=>
  right;obtain⟨h,hh,hnum⟩:=CB hf;have hk2:=(List.getElem?_eq_some_iff.1 hh).1;have hk:k < A1.length:=by rw[r.len];exact hk2
  have hc:A1[k]? =some A1[k]:=List.getElem?_eq_getElem hk;have hcr:=r.each k _ h hc hh;have hcr2:=hcr.rest
  have hraw:h=Vc (WT t A1[k]) h.Fills:=by
   have:=hcr2.eq;rw[WS,Int.sub_self,TW] at this
   exact this
  have hok:Mt t n h:=by
   have:=hcr2.ok;rw[WS,<-hraw] at this
   exact this
  refine⟨k,h,WT t A1[k],rfl,hh,hnum,r.rest hc,List.getElem?_set_self hk,WS,hraw,hok,?_⟩;show Qy (ZU true 4) _ _=_;have e1:ZU true 4=some (.ok ()):=rfl;rw[e1];simp only[Qy];rw[ND hc hcr.ok hcr.since.1 hcr.since.2 ht];rfl
end
def Ww(t:Int)(n:Nat)(r:List Zr ⊕ Int)(o:Option (Out Zg (List QF×FM×List (List (Int×Option Nat))))):Prop:=match r with
 | .inl all' =>∃A1' A3' m',o=some (.ok (A1',A3',[m']))/\PR t (n+1) all' A1' A3' m'
 | .inr e=>o=some (.pan ⟨e⟩)/\e≠0
section
variable{t:Int}{n:Nat}{all:List Zr}{A1:List QF}{A3:FM}{m:List (Int×Option Nat)}{b:Qh}{x:Ev}
theorem CR.xV{c:QF}{F:List Int}(h0:0<=t)(hs:c.since=t)(ho:Mt t n (Vc c F))(hf:FR A3 c.fills F):CR t n A3 c (Vc c F):=
 ⟨by omega,by rw[hs];exact ho,by rw[hs,Int.sub_self,TW];rfl,hf⟩
theorem OB(r:PR t n all A1 A3 m)(h0:0<=t)(ht:t<=65536)(hb:b.casks=some 0)(hv:XR x=true)(hk:x.Kind=4)(hd:x.Day=t):Ww t n (FX all x n) (YT A1 [b] A3 [m] (some 0) x):=by
 unfold YT FX;rw[if_neg (by rw[hk];decide),hd];rcases Wr (num:=x.Cask) r (by omega) hb with⟨hf,hm⟩ | ⟨k,h,c,hf,hh,hnum,hr,hc,hs,hraw,hok,hm⟩
 ·rw[hf,hm];exact⟨rfl,by decide⟩
 ·rw[hf,hm];simp only[hh,Qy,Option.bind_some,hc,QV,List.set_set];have hact:HJ all k h x n=OC all k h x:=by unfold HJ;rw[hk];rfl
  rw[hact];refine⟨_,_,_,rfl,?_⟩;have hcr:=hr.each k c h hc hh
  have h2:PR t (n+1) (all.set k (Vc {c with place:=x.Where} h.Fills)) ((A1.set k c).set k {c with place:=x.Where}) A3 m:=hr.bO hc hh rfl (CR.xV h0 hs (by
   have:=hok.up;rw[hraw] at this
   exact{this with place:=vc hv (.inl hk)}) hcr.fills) (.inl rfl)
  rw[List.set_set] at h2
  have e:Vc {c with place:=x.Where} h.Fills={h with C:={h.C with Place:=x.Where}}:=by
   conv=>rhs;rw[hraw]
   rfl
  rw[e] at h2
  exact h2
theorem Mz{k:Nat}{h h' :Zr}{c c' :QF}{r:List Zr ⊕ Int}(hr:PR t n all (A1.set k c) A3 m)(hh:all[k]? =some h)(hc:(A1.set k c)[k]? =some c)(h0:0<=t)(hs:c'.since=t)(hn:c'.number=c.number)(hf:c'.fills=c.fills∨c'.fills=none){F:List Int}(he:h' =Vc c' F)(ho:Mt t (n+1) h')(hfr:FR A3 c'.fills F)(hres:r= .inl (all.set k h')):Ww t n r (some (.ok (A1.set k c',A3,[m]))):=by
 subst hres;subst he;refine⟨_,_,_,rfl,?_⟩;have h2:=hr.bO hc hh hn (CR.xV h0 hs ho hfr) hf
 rwa[List.set_set] at h2
theorem zy{a:Int}(h: -1<=a):(a==(-1))= !decide (a≥0):=by
 by_cases e:a= -1
 ·subst e;rfl
 ·have h1:(a==(-1))=false:=by simpa using e
  rw[h1,decide_eq_true (show a≥0 by omega)];rfl
theorem IM(r:PR t n all A1 A3 m)(h0:0<=t)(ht:t<=65536)(hb:b.casks=some 0)(hv:XR x=true)(hk:x.Kind=5)(hd:x.Day=t):Ww t n (FX all x n) (Y9 A1 [b] A3 [m] (some 0) x):=by
 unfold Y9 FX;rw[if_neg (by rw[hk];decide),hd];rcases Wr (num:=x.Cask) r (by omega) hb with⟨hf,hm⟩ | ⟨k,h,c,hf,hh,hnum,hr,hc,hs,hraw,hok,hm⟩
 ·rw[hf,hm];exact⟨rfl,by decide⟩
 ·rw[hf,hm];simp only[hh,Qy,Option.bind_some,hc,QV,List.set_set];have hact:HJ all k h x n=LB all k h x:=by unfold HJ;rw[hk];rfl
  rw[hact];have hcr:=hr.each k c h hc hh;have ho:h.C.Owner=c.owner:=by rw[hraw];rfl
  have hcd:h.C.Creditor=c.creditor:=by rw[hraw];rfl
  have hcred:=hok.cred;rw[hcd] at hcred
  unfold LB;rw[ho,hcd];by_cases h1:c.owner=x.Person
  ·have e1:(c.owner==x.Person)=true:=by simpa using h1
   have e2:(c.owner != x.Person)=false:=by simpa using h1
   simp only[e1,e2,if_true,Bool.false_or,zy hcred.1];by_cases h2:c.creditor≥0
   ·simp only[h2,decide_true,Bool.not_true,if_true];exact⟨rfl,by decide⟩
   ·simp only[h2,decide_false,Bool.not_false,Bool.false_eq_true,if_false];by_cases h3:x.To=c.owner
    ·have e3:(x.To==c.owner)=true:=by simpa using h3
     have e4:(x.To != c.owner)=false:=by simpa using h3
     simp only[e3,e4,if_true];exact⟨rfl,by decide⟩
    ·have e3:(x.To==c.owner)=false:=by simpa using h3
     have e4:(x.To != c.owner)=true:=by simpa using h3
     simp only[e3,e4,Bool.false_eq_true,if_false];exact Mz (h' :={h with C:={h.C with Owner:=x.To}}) (c' :={c with owner:=x.To}) (F:=h.Fills) hr hh hc h0 hs rfl (.inl rfl) (congrArg (λz:Zr=>{z with C:={z.C with Owner:=x.To}}) hraw) {hok.up with owner:=vb hv (.inl hk)} hcr.fills rfl
  ·have e1:(c.owner==x.Person)=false:=by simpa using h1
   have e2:(c.owner != x.Person)=true:=by simpa using h1
   simp only[e1,e2,Bool.true_or,if_true,Bool.false_eq_true,if_false];exact⟨rfl,by decide⟩
theorem LL(r:PR t n all A1 A3 m)(h0:0<=t)(ht:t<=65536)(hb:b.casks=some 0)(hv:XR x=true)(hk:x.Kind=6)(hd:x.Day=t):Ww t n (FX all x n) (J1 A1 [b] A3 [m] (some 0) x):=by
 unfold J1 FX;rw[if_neg (by rw[hk];decide),hd];rcases Wr (num:=x.Cask) r (by omega) hb with⟨hf,hm⟩ | ⟨k,h,c,hf,hh,hnum,hr,hc,hs,hraw,hok,hm⟩
 ·rw[hf,hm];exact⟨rfl,by decide⟩
 ·rw[hf,hm];simp only[hh,Qy,Option.bind_some,hc,QV,List.set_set];have hact:HJ all k h x n=SP all k h x:=by unfold HJ;rw[hk];rfl
  rw[hact];have hcr:=hr.each k c h hc hh;have ho:h.C.Owner=c.owner:=by rw[hraw];rfl
  have hcd:h.C.Creditor=c.creditor:=by rw[hraw];rfl
  have hcred:=hok.cred;rw[hcd] at hcred
  unfold SP;rw[ho,hcd];by_cases h1:c.owner=x.Person
  ·have e1:(c.owner==x.Person)=true:=by simpa using h1
   have e2:(c.owner != x.Person)=false:=by simpa using h1
   simp only[e1,e2,Bool.false_eq_true,if_false,zy hcred.1];by_cases h2:c.creditor≥0
   ·simp only[h2,decide_true,Bool.not_true,if_true];exact⟨rfl,by decide⟩
   ·simp only[h2,decide_false,Bool.not_false,if_false];have:=vb hv (.inr hk);exact Mz (h' :={h with C:={h.C with Creditor:=x.To}}) (c' :={c with creditor:=x.To}) (F:=h.Fills) hr hh hc h0 hs rfl (.inl rfl) (congrArg (λz:Zr=>{z with C:={z.C with Creditor:=x.To}}) hraw) {hok.up with cred:=⟨by show -1<=x.To;omega,this.2⟩} hcr.fills rfl
  ·have e1:(c.owner==x.Person)=false:=by simpa using h1
   have e2:(c.owner != x.Person)=true:=by simpa using h1
   simp only[e1,e2,if_true];exact⟨rfl,by decide⟩
theorem Iy(r:PR t n all A1 A3 m)(h0:0<=t)(ht:t<=65536)(hb:b.casks=some 0)(_hv:XR x=true)(hk:x.Kind=7)(hd:x.Day=t):Ww t n (FX all x n) (VB A1 [b] A3 [m] (some 0) x):=by
 unfold VB FX;rw[if_neg (by rw[hk];decide),hd];rcases Wr (num:=x.Cask) r (by omega) hb with⟨hf,hm⟩ | ⟨k,h,c,hf,hh,hnum,hr,hc,hs,hraw,hok,hm⟩
 ·rw[hf,hm];exact⟨rfl,by decide⟩
 ·rw[hf,hm];simp only[hh,Qy,Option.bind_some,hc,QV,List.set_set];have hact:HJ all k h x n=Lk all k h x:=by unfold HJ;rw[hk];rfl
  rw[hact];have hcr:=hr.each k c h hc hh;have hcd:h.C.Creditor=c.creditor:=by rw[hraw];rfl
  unfold Lk;rw[hcd];by_cases h1:c.creditor=x.Person
  ·have e1:(c.creditor==x.Person)=true:=by simpa using h1
   have e2:(c.creditor != x.Person)=false:=by simpa using h1
   simp only[e1,e2,Bool.false_eq_true,if_false];exact Mz (h' :={h with C:={h.C with Creditor:= -1}}) (c' :={c with creditor:= -1}) (F:=h.Fills) hr hh hc h0 hs rfl (.inl rfl) (congrArg (λz:Zr=>{z with C:={z.C with Creditor:= -1}}) hraw) {hok.up with cred:=⟨Int.le_refl _,by show(-1:Int)<=_;omega⟩} hcr.fills rfl
  ·have e1:(c.creditor==x.Person)=false:=by simpa using h1
   have e2:(c.creditor != x.Person)=true:=by simpa using h1
   simp only[e1,e2,if_true];exact⟨rfl,by decide⟩
theorem qA(r:PR t n all A1 A3 m)(h0:0<=t)(ht:t<=65536)(hb:b.casks=some 0)(hv:XR x=true)(hk:x.Kind=8)(hd:x.Day=t):Ww t n (FX all x n) (VD A1 [b] A3 [m] (some 0) x):=by
 unfold VD FX;rw[if_neg (by rw[hk];decide),hd];rcases Wr (num:=x.Cask) r (by omega) hb with⟨hf,hm⟩ | ⟨k,h,c,hf,hh,hnum,hr,hc,hs,hraw,hok,hm⟩
 ·rw[hf,hm];exact⟨rfl,by decide⟩
 ·rw[hf,hm];simp only[hh,Qy,Option.bind_some,hc,QV,List.set_set];have hact:HJ all k h x n=Lx all k h x:=by unfold HJ;rw[hk];rfl
  rw[hact];have hcr:=hr.each k c h hc hh;have hca:h.C.Amount=c.amount:=by rw[hraw];rfl
  have hamt:=hok.amt;rw[hca] at hamt
  unfold Lx;rw[hca];by_cases h1:c.amount=0
  ·have e1:(c.amount==0)=true:=by simpa using h1
   have e2:¬c.amount > 0:=by omega
   simp only[e1,e2,if_false];exact Mz (h' :={h with C:={h.C with Wood:=x.Where}}) (c' :={c with wood:=x.Where}) (F:=h.Fills) hr hh hc h0 hs rfl (.inl rfl) (congrArg (λz:Zr=>{z with C:={z.C with Wood:=x.Where}}) hraw) {hok.up with wood:=vc hv (.inr hk)} hcr.fills rfl
  ·have e1:(c.amount==0)=false:=by simpa using h1
   have e2:c.amount > 0:=by omega
   simp only[e1,e2,if_true];exact⟨rfl,by decide⟩
end
end
section
open Go.Dec
def HV(c:QF)(n:Int):QF:=if c.amount - n==0 then{c with amount:=0,times:=⟨0,zN,zN⟩,fills:=none} else{c with amount:=c.amount - n}
theorem LJ{c:QF}{n:Int}{F:List Int}:XY (Vc c F) n=Vc (HV c n) (XY (Vc c F) n).Fills:=by
 unfold XY HV;by_cases e:(c.amount - n==0)=true
 ·rw[if_pos e,if_pos (show((Vc c F).C.Amount - n==0)=true from e)];rfl
 ·rw[if_neg e,if_neg (show ¬((Vc c F).C.Amount - n==0)=true from e)];rfl
theorem Pv{c:QF}{n:Int}:(HV c n).fills=c.fills∨(HV c n).fills=none:=by
 unfold HV;split
 ·exact .inr rfl
 ·exact .inl rfl
theorem Pu{c:QF}{n:Int}:(HV c n).since=c.since:=by unfold HV;split<;>rfl
theorem A7{c:QF}{n:Int}:(HV c n).number=c.number:=by unfold HV;split<;>rfl
theorem Ox{A3:FM}{c:QF}{n:Int}{F:List Int}(h:FR A3 c.fills F):FR A3 (HV c n).fills (XY (Vc c F) n).Fills:=by
 unfold XY HV;by_cases e:(c.amount - n==0)=true
 ·rw[if_pos e,if_pos (show((Vc c F).C.Amount - n==0)=true from e)];rfl
 ·rw[if_neg e,if_neg (show ¬((Vc c F).C.Amount - n==0)=true from e)];exact h
theorem Hy{A1:List QF}{k:Nat}{c:QF}{n:Int}(hc:A1[k]? =some c)(h1:0<=c.amount/\c.amount<=1099511627776)(h2:0<=n/\n<=1099511627776):Y8 A1 (some k) n=some (A1.set k (HV c n)):=by
 unfold Y8;simp only[Option.bind_some,hc,QV,List.set_set];rw[Qs (n:=c.amount - n) (by omega) (by omega)];unfold HV;by_cases e:(c.amount - n==0)=true
 ·have e0:c.amount - n=0:=beq_iff_eq.1 e;rw[if_pos e,if_pos e];simp only[e0]
 ·rw[if_neg e,if_neg e]
section
variable{t:Int}{n:Nat}{all:List Zr}{A1:List QF}{A3:FM}{m:List (Int×Option Nat)}{b:Qh}{x:Ev}
theorem E6(r:PR t n all A1 A3 m)(h0:0<=t)(ht:t<=65536)(hb:b.casks=some 0)(hv:XR x=true)(hk:x.Kind=3)(hd:x.Day=t):Ww t n (FX all x n) (YS A1 [b] A3 [m] (some 0) x):=by
 unfold YS FX;rw[if_neg (by rw[hk];decide),hd];rcases Wr (num:=x.Cask) r (by omega) hb with⟨hf,hm⟩ | ⟨k,h,c,hf,hh,hnum,hr,hc,hs,hraw,hok,hm⟩
 ·rw[hf,hm];exact⟨rfl,by decide⟩
 ·rw[hf,hm];simp only[hh,Qy,Option.bind_some,hc];have hact:HJ all k h x n=AP all k h x:=by unfold HJ;rw[hk];rfl
  rw[hact];have hcr:=hr.each k c h hc hh;have hca:h.C.Amount=c.amount:=by rw[hraw];rfl
  have hcd:h.C.Creditor=c.creditor:=by rw[hraw];rfl
  have hcred:=hok.cred;have hamt:=hok.amt;have hroom:=hok.room;rw[hca] at hamt
  rw[hcd] at hcred
  have ha:=Nn hv (.inr (.inr hk));unfold AP;rw[hca,hcd,zy hcred.1];by_cases h1:c.creditor≥0
  ·simp only[h1,decide_true,Bool.not_true,if_true];exact⟨rfl,by decide⟩
  ·simp only[h1,decide_false,Bool.not_false,if_false];by_cases h2:c.amount < x.Amount
   ·have e2:decide (c.amount≥x.Amount)=false:=decide_eq_false (by omega);simp only[h2,e2,if_true];exact⟨rfl,by decide⟩
   ·have e2:decide (c.amount≥x.Amount)=true:=decide_eq_true (by omega);simp only[h2,e2,if_false];show Ww t n _ ((Y8 (A1.set k c) (some k) x.Amount).bind λr_60=>some (.ok (r_60,A3,[m])));rw[Hy hc (by omega) (by omega),Option.bind_some,List.set_set];have hls:XY h x.Amount=Vc (HV c x.Amount) (XY (Vc c h.Fills) x.Amount).Fills:=by rw[<-LJ,<-hraw]
    exact Mz (h' :=XY h x.Amount) (c' :=HV c x.Amount) hr hh hc h0 (by rw[Pu];exact hs) A7 Pv hls (MQ hok.up ha.1 (by omega) h0) (Ox hcr.fills) rfl
theorem Pc{num:Int}{v:Option Nat}:∀(A1:List QF) (k0:Nat),(∀c∈A1,c.number≠num)->Qv (A1.mapIdx (λk c=>(c.number,some (k0+k)))) num v=A1.mapIdx (λk c=>(c.number,some (k0+k)))++[(num,v)]
 | [],_,_=>rfl
 | c::A1,k0,h=>by
  rw[List.mapIdx_cons];have e1:(num==c.number)=false:=by simpa using(λe=>h c (by simp) e.symm)
  have e3:(fun(i:Nat) (a:QF)=>(a.number,some (k0+(i+1))))=λk c=>(c.number,some (k0+1+k)):=by funext i a;rw[show k0+(i+1)=k0+1+i by omega]
  simp only[Qv,e1,Bool.false_eq_true,if_false,e3,List.cons_append];rw[Pc A1 (k0+1) (λc hc=>h c (List.mem_cons_of_mem _ hc))]
def yL(x:Ev):QF:=⟨x.Cask,x.Other,x.Where,x.Amount,x.Person, -1,0,x.Day,⟨0,zN,zN⟩,none⟩
theorem OD(r:PR t n all A1 A3 m)(ho:SE t n all)(h0:0<=t)(hb:b.casks=some 0)(hv:XR x=true)(hk:x.Kind=0)(hd:x.Day=t):Ww t n (FX all x n) (YU A1 [b] A3 [m] (some 0) x):=by
 have hmk:=λl' h=>Oe (l' :=l') ho h0 hv hk h;have hml:m.length=all.length:=by rw[r.map,List.length_mapIdx,r.len]
 unfold YU FX;rw[if_pos (by rw[hk];rfl)];simp only[Option.bind_some,List.getElem?_cons_zero,hb,r.get];unfold Og at hmk ⊢
 cases hf:Uo all x.Cask with
 | some k=>
  simp only[Option.isSome_some,if_true];exact⟨rfl,by decide⟩
 | none=>
  rw[hf] at hmk
  simp only[Option.isSome_none,Bool.false_eq_true,if_false] at hmk ⊢
  by_cases hfull:256<=all.length
  ·have e:decide ((m.length:Int) < 256)=false:=decide_eq_false (by omega);simp only[hfull,e,if_true];exact⟨rfl,by decide⟩
  ·have e:decide ((m.length:Int) < 256)=true:=decide_eq_true (by omega);simp only[hfull,e,if_false] at hmk ⊢
   have hnew:=hmk _ rfl;have hokn:Mt t (n+1) (yK x):=hnew.each _ (by simp);refine⟨A1++[yL x],A3,Qv m x.Cask (some A1.length),?_,?_⟩
   ·rfl
   ·refine⟨by simp[r.len],λk c h hc hh=> ?_,?_,λi j ci cj q h1 h2 h3 h4=> ?_⟩
    ·by_cases e:k < A1.length
     ·rw[List.getElem?_append_left e] at hc
      rw[List.getElem?_append_left (by rw[<-r.len];exact e)] at hh
      exact(r.each k c h hc hh).up
     ·have hk1:=(List.getElem?_eq_some_iff.1 hc).1;have ek:k=A1.length:=by simp at hk1;omega
      rw[ek,List.getElem?_append_right (Nat.le_refl _)] at hc
      rw[ek,r.len,List.getElem?_append_right (Nat.le_refl _)] at hh
      simp only[Nat.sub_self,List.getElem?_cons_zero,Option.some.injEq] at hc hh
      subst hc;subst hh;exact CR.xV (c:=yL x) (F:=[]) h0 hd hokn rfl
    ·rw[r.map]
     have h1:∀c∈A1,c.number≠x.Cask:=λc hc=>by
      obtain⟨k,hk⟩:=List.getElem?_of_mem hc;have hk1:=(List.getElem?_eq_some_iff.1 hk).1;have hk2:all[k]? =some (all[k]'(by rw[<-r.len];exact hk1)):=List.getElem?_eq_getElem _;have:=CC hf _ (List.mem_of_getElem? hk2);rw[(r.each k c _ hk hk2).number] at this
      exact this
     have h2:=Pc (num:=x.Cask) (v:=some A1.length) A1 0 h1;simp only[Nat.zero_add] at h2
     rw[h2];apply List.ext_getElem?;intro i;simp only[List.getElem?_mapIdx,List.getElem?_append,List.length_mapIdx];by_cases e:i < A1.length
     ·simp[e]
     ·simp only[e,if_false];by_cases e2:i=A1.length
      ·subst e2;simp[yL]
      ·have:∃d,i - A1.length=d+1:=⟨i - A1.length - 1,by omega⟩;obtain⟨d,hd'⟩:=this;rw[hd'];simp
    ·by_cases e:i < A1.length
     ·rw[List.getElem?_append_left e] at h1
      by_cases e2:j < A1.length
      ·rw[List.getElem?_append_left e2] at h2
       exact r.apart i j ci cj q h1 h2 h3 h4
      ·have hj1:=(List.getElem?_eq_some_iff.1 h2).1;have ek:j=A1.length:=by simp at hj1;omega
       rw[ek,List.getElem?_append_right (Nat.le_refl _)] at h2
       simp only[Nat.sub_self,List.getElem?_cons_zero,Option.some.injEq] at h2
       subst h2;cases h4
     ·have hj1:=(List.getElem?_eq_some_iff.1 h1).1;have ek:i=A1.length:=by simp at hj1;omega
      rw[ek,List.getElem?_append_right (Nat.le_refl _)] at h1
      simp only[Nat.sub_self,List.getElem?_cons_zero,Option.some.injEq] at h1
      subst h1;cases h3
end
end
section
open Go.Dec
section
variable{V:Type}
theorem Pa{x k:Int}{v:V}:∀{l:List (Int×V)},x∈(Qv l k v).map Prod.fst↔x=k∨x∈l.map Prod.fst
 | []=>by simp[Qv]
 | y::l=>by
  simp only[Qv];by_cases e:k=y.1
  ·have e1:(k==y.1)=true:=by simpa using e
   rw[if_pos e1];simp[e]
  ·have e1:(k==y.1)=false:=by simpa using e
   rw[e1];simp only[Bool.false_eq_true,if_false,List.map_cons,List.mem_cons,Pa (l:=l)];constructor
   ·rintro(h | h | h)
    ·exact .inr (.inl h)
    ·exact .inl h
    ·exact .inr (.inr h)
   ·rintro(h | h | h)
    ·exact .inr (.inl h)
    ·exact .inl h
    ·exact .inr (.inr h)
def HW(a l:List (Int×V)):List (Int×V):=l.foldl (λa x=>Qv a x.1 x.2) a
theorem P0:∀{l a:List (Int×V)},(a.map Prod.fst).Nodup->((HW a l).map Prod.fst).Nodup
 | [],_,h=>h
 | x::l,a,h=>P0 (l:=l) (a:=Qv a x.1 x.2) (JE h)
theorem LY{x:Int}:∀{l a:List (Int×V)},x∈(HW a l).map Prod.fst↔x∈a.map Prod.fst∨x∈l.map Prod.fst
 | [],a=>by simp[HW]
 | y::l,a=>by
  have:=LY (x:=x) (l:=l) (a:=Qv a y.1 y.2);have e:HW a (y::l)=HW (Qv a y.1 y.2) l:=rfl;rw[e,this,Pa];simp only[List.map_cons,List.mem_cons];constructor
  ·rintro((h | h) | h)
   ·exact .inr (.inl h)
   ·exact .inl h
   ·exact .inr (.inr h)
  ·rintro(h | h | h)
   ·exact .inl (.inr h)
   ·exact .inl (.inl h)
   ·exact .inr h
theorem Nq:∀{l a a' :List (Int×V)},a'.Perm a->(a.map Prod.fst).Nodup->(HW a' l).Perm (HW a l)
 | [],_,_,h,_=>h
 | _x::l,_a,_a',h,hn=>Nq (l:=l) (X7 h hn) (JE hn)
theorem LZ{a:List (Int×V)}{x y:Int}{u v:V}(hn:(a.map Prod.fst).Nodup)(h:x≠y):(Qv (Qv a x u) y v).Perm (Qv (Qv a y v) x u):=by
 have h1:(Qv (Qv a x u) y v).Perm ((y,v)::(x,u)::(a.filter (λz=> !(x==z.1))).filter (λz=> !(y==z.1))):=by
  refine(JX (JE hn)).trans (.cons _ ?_);refine((JX hn).filter _).trans (.of_eq ?_);rw[List.filter_cons,if_pos (by simpa using h.symm)]
 have h2:(Qv (Qv a y v) x u).Perm ((x,u)::(y,v)::(a.filter (λz=> !(y==z.1))).filter (λz=> !(x==z.1))):=by
  refine(JX (JE hn)).trans (.cons _ ?_);refine((JX hn).filter _).trans (.of_eq ?_);rw[List.filter_cons,if_pos (by simpa using h)]
 refine h1.trans ((List.Perm.swap _ _ _).trans ?_);refine List.Perm.trans (.of_eq ?_) h2.symm;congr 2;rw[List.filter_filter,List.filter_filter];exact List.filter_congr λz _=>Bool.and_comm _ _
theorem I7{l l' :List (Int×V)}(h:l'.Perm l):∀{a:List (Int×V)},(a.map Prod.fst).Nodup->(l.map Prod.fst).Nodup->(HW a l').Perm (HW a l):=by
 induction h with
 | nil=>intro a _ _;exact .refl _
 | cons x _ ih=>
  intro a ha hl;simp only[List.map_cons,List.nodup_cons] at hl
  exact ih (JE ha) hl.2
 | swap x y l=>
  intro a ha hl;simp only[List.map_cons,List.nodup_cons,List.mem_cons,not_or] at hl
  exact Nq (LZ ha (λe=>hl.1.1 e.symm)) (JE (JE ha))
 | trans h1 h2 ih1 ih2=>
  intro a ha hl;exact(ih1 ha ((h2.map Prod.fst).nodup_iff.2 hl)).trans (ih2 ha hl)
end
theorem AI{q j:Nat}(hq:q≠j):∀(l:List (Int×Bool)) (s:FM) (lq:List (Int×Bool)),s[q]? =some lq->YI (J2 (some q) j) l s=some (s.set q (HW lq l))
 | [],s,lq,h=>by
  have:=D5 h;simp only[YI,HW,List.foldl_nil];rw[<-this]
 | x::l,s,lq,h=>by
  have hlt:=(List.getElem?_eq_some_iff.1 h).1
  have e:J2 (some q) j x s=some (s.set q (Qv lq x.1 x.2)):=by
   unfold J2 va;simp only[Option.bind_some,if_neg hq,h,QV]
  simp only[YI,e,Option.bind_some];rw[AI hq l _ (Qv lq x.1 x.2) (List.getElem?_set_self hlt),List.set_set];rfl
theorem I6{A:FM}{q j:Nat}{lq lj:List (Int×Bool)}(hq:q≠j)(h1:A[q]? =some lq)(h2:A[j]? =some lj)(hn:(lq.map Prod.fst).Nodup)(hn2:(lj.map Prod.fst).Nodup):Uk A (some q) (some j)=some (A.set q (HW lq lj)):=by
 unfold Uk;simp only[Option.bind_some,h2]
 have hp:Dd Sz (J2 (some q) j) lj A=some (A.set q (HW lq lj)):=by
  refine LQ (AI hq lj A lq h1) λl' hl' =>⟨_,AI hq l' A lq h1,by simp,λi x y hx hy=> ?_⟩;have hlt:=(List.getElem?_eq_some_iff.1 h1).1;by_cases e:q=i
  ·subst e;rw[List.getElem?_set_self hlt] at hx hy
   cases hx;cases hy;exact I7 hl' hn hn2
  ·rw[List.getElem?_set_ne e] at hx hy
   rw[hx] at hy;cases hy;exact .refl _
 rw[hp,Option.bind_some];have:(A.set q (HW lq lj))[j]? =some lj:=by rw[List.getElem?_set_ne hq];exact h2
 rw[<-D5 this]
theorem Ip(a u:ZC):Vv a u=some ⟨JT a.age u.age,S8 a.woods u.woods,S8 a.places u.places⟩:=by
 obtain⟨t1,ht1,hl1⟩:=Xt (body:=YL u) (λi (t:ZC)=>((i:Int),t)) (λt=>t) (λi t=>t={a with age:=JT a.age u.age,woods:=TG i a.woods u.woods}) 8
  (λi t hi ht=>by
   have hw:ZF ((i:Int)+1)=((i+1:Nat):Int):=by rw[Qs (by omega) (by omega)];rfl
   have hm:(TG i a.woods u.woods) i=a.woods i:=by unfold TG;rw[if_neg (by omega)]
   refine⟨_,?_,rfl⟩;unfold YL;rw[if_pos (by simp;omega),HA hi];simp only[Option.bind_some,QV,hw,ht,hm];rw[NW])
  (λt ht=>by
   unfold YL;rw[if_neg (by simp)]) 8 0 {a with age:=JT a.age u.age} rfl (by rw[zW])
 obtain⟨t2,ht2,hl2⟩:=Xt (body:=YK u) (λi (t:ZC)=>((i:Int),t)) (λt=>t) (λi t=>t={a with age:=JT a.age u.age,woods:=S8 a.woods u.woods,places:=TG i a.places u.places}) 8
  (λi t hi ht=>by
   have hw:ZF ((i:Int)+1)=((i+1:Nat):Int):=by rw[Qs (by omega) (by omega)];rfl
   have hm:(TG i a.places u.places) i=a.places i:=by unfold TG;rw[if_neg (by omega)]
   refine⟨_,?_,rfl⟩;unfold YK;rw[if_pos (by simp;omega),HA hi];simp only[Option.bind_some,QV,hw,ht,hm];rw[NW])
  (λt ht=>by
   unfold YK;rw[if_neg (by simp)]) 8 0 t1 rfl (by rw[ht1,zW];rfl)
 unfold Vv;simp only[QV];have h1:ZV (YL u) (0,{a with age:=JT a.age u.age})=some t1:=hl1;have h2:ZV (YK u) (0,t1)=some t2:=hl2;refine ZN h1 (ZN h2 ?_);rw[ht2];rfl
end
section
open Go.Dec
theorem NL{A1:List QF}{A3:FM}{k j:Nat}{c:QF}{h so:Zr}{lj:List (Int×Bool)}{tm:ZC}{n:Int}(hc:A1[k]? =some c)(hraw:h=Vc c h.Fills)(hamt:0<=c.amount/\c.amount<=1099511627776)(hn:0<=n/\n<=1099511627776)(hfr:FR A3 c.fills h.Fills)(hne:0 < c.amount->h.Fills≠[])
  (hj:A3[j]? =some lj) (hjn:(lj.map Prod.fst).Nodup) (hjF:∀x,x∈so.Fills↔x∈lj.map Prod.fst) (hq:c.fills≠some j) (ht:so.C.Age=tm.age/\so.C.Woods=tm.woods/\so.C.Places=tm.places):
  ∃c' A3',YB A1 A3 (some k) tm (some j) n=some (A1.set k c',A3')/\c'.number=c.number/\c'.since=c.since/\W1 h so n=Vc c' (W1 h so n).Fills/\FR A3' c'.fills (W1 h so n).Fills/\
   (∀(q:Nat) lq,A3[q]? =some lq->c.fills≠some q->A3'[q]? =some lq)/\(c'.fills=c.fills∨c'.fills=some A3.length):=by
 have hk:=(List.getElem?_eq_some_iff.1 hc).1;have hca:h.C.Amount=c.amount:=by rw[hraw];rfl
 have hw:ZF (c.amount+n)=c.amount+n:=Qs (by omega) (by omega);unfold YB;simp only[Option.bind_some,hc];by_cases e:(c.amount==0)=true
 ·have e' :(h.C.Amount==0)=true:=by rw[hca];exact e
  refine⟨{c with times:=tm,fills:=some A3.length,amount:=c.amount+n},A3++[lj],?_,rfl,rfl,?_,?_,λq lq h1 _=> ?_,.inr rfl⟩
  ·simp only[e,if_true,XW,P2,hj,Option.bind_some,QV,List.set_set,List.getElem?_set_self hk,hw]
  ·unfold W1;rw[if_pos e'];rw[hraw];simp only[ht.1,ht.2.1,ht.2.2];rfl
  ·unfold W1;rw[if_pos e'];exact⟨lj,by simp,hjn,hjF⟩
  ·have:=(List.getElem?_eq_some_iff.1 h1).1;rw[List.getElem?_append_left this];exact h1
 ·have hpos:0 < c.amount:=by
   have:c.amount≠0:=λe0=>e (by simp[e0]);omega
  have e' :¬(h.C.Amount==0)=true:=by rw[hca];exact e
  cases hf:c.fills with
  | none=>rw[hf] at hfr;exact absurd hfr (hne hpos)
  | some q=>
   rw[hf] at hfr
   obtain⟨lq,hlq,hqn,hqF⟩:=hfr;have hqj:q≠j:=λe0=>hq (by rw[hf,e0]);have hql:=(List.getElem?_eq_some_iff.1 hlq).1;refine⟨{c with times:=⟨JT c.times.age tm.age,S8 c.times.woods tm.woods,S8 c.times.places tm.places⟩,amount:=c.amount+n},A3.set q (HW lq lj),?_,rfl,rfl,?_,?_,λq' lq' h1 h2=> ?_,.inl hf⟩
   ·simp only[e,if_false,Bool.false_eq_true,Ip,Option.bind_some,QV,hf,I6 hqj hlq hj hqn hjn,List.getElem?_set_self hk,List.set_set,hw]
   ·unfold W1;rw[if_neg e'];have h1:h.C.Age=c.times.age:=by rw[hraw];rfl
    have h2:h.C.Woods=c.times.woods:=by rw[hraw];rfl
    have h3:h.C.Places=c.times.places:=by rw[hraw];rfl
    simp only[ht.1,ht.2.1,ht.2.2,h1,h2,h3]
    conv=>lhs;rw[hraw]
    rfl
   ·unfold W1;rw[if_neg e'];show FR _ c.fills (My h.Fills so.Fills);rw[hf];refine⟨HW lq lj,List.getElem?_set_self hql,P0 hqn,λx=> ?_⟩;rw[PZ,LY,hqF,hjF]
   ·rw[List.getElem?_set_ne (λe0=>h2 (by rw[e0]))];exact h1
section
variable{t:Int}{n:Nat}{all:List Zr}{A1:List QF}{A3:FM}{m:List (Int×Option Nat)}{b:Qh}{x:Ev}
theorem zi{A3:FM}{q:Nat}{F:List Int}(h:FR A3 (some q) F):q < A3.length:=by
 obtain⟨l,h1,_⟩:=h;exact(List.getElem?_eq_some_iff.1 h1).1
theorem AK(r:PR t n all A1 A3 m)(ho:SE t n all)(h0:0<=t)(ht:t<=65536)(hb:b.casks=some 0)(hbe:b.event=n)(hv:XR x=true)(hk:x.Kind=1)(hd:x.Day=t):Ww t n (FX all x n) (VC A1 [b] A3 [m] (some 0) x):=by
 unfold VC FX;rw[if_neg (by rw[hk];decide),hd];rcases Wr (num:=x.Cask) r (by omega) hb with⟨hf,hm⟩ | ⟨k,h,c,hf,hh,hnum,hr,hc,hs,hraw,hok,hm⟩
 ·rw[hf,hm];exact⟨rfl,by decide⟩
 ·rw[hf,hm];simp only[hh,Qy,Option.bind_some,hc,QV];have hact:HJ all k h x n=Pq all k h x n:=by unfold HJ;rw[hk];rfl
  rw[hact];have hcr:=hr.each k c h hc hh;have hca:h.C.Amount=c.amount:=by rw[hraw];rfl
  have hcro:h.C.Room=c.room:=by rw[hraw];rfl
  have hamt:=hok.amt;have hroom:=hok.room;rw[hca,hcro] at hamt
  rw[hcro] at hroom
  have ha:=Nn hv (.inl hk);have hw:ZF (c.amount+x.Amount)=c.amount+x.Amount:=Qs (by omega) (by omega);have hokd:=λl' (hl' :Pq all k h x n= .inl l')=>Ot ho h0 hh ha.1 hl';unfold Pq at hokd ⊢
  rw[hca,hcro] at hokd ⊢
  rw[hw];by_cases h1:c.amount+x.Amount > c.room
  ·have e:decide (c.amount+x.Amount<=c.room)=false:=decide_eq_false (by omega);simp only[h1,e,if_true];exact⟨rfl,by decide⟩
  ·have e:decide (c.amount+x.Amount<=c.room)=true:=decide_eq_true (by omega);simp only[h1,if_false] at hokd
   simp only[h1,e,if_false];have hnew:=hokd _ rfl;have hql:∀q,c.fills=some q->q < A3.length:=λq hq=>zi (by rw[<-hq];exact hcr.fills);have hfr' :FR (A3++[[((n:Int),true)]]) c.fills h.Fills:=hcr.fills.ug λq hq=>List.getElem?_append_left (hql q hq)
   obtain⟨c',A3',hp,hp1,hp2,hp3,hp4,hp5,hp6⟩:=NL (A3:=A3++[[((n:Int),true)]]) (j:=A3.length) (lj:=[((n:Int),true)]) (so:=Sc n) (tm:=⟨0,zN,zN⟩) (n:=x.Amount) hc hraw (by omega) (by omega) hfr' (λhp=>by rw[<-hca] at hp;exact hok.some hp)
    (by simp) (by simp) (λy=>by simp[Sc]) (λe=>by have:=hql _ e;omega) ⟨rfl,rfl,rfl⟩
   have hmod:YB (A1.set k c) (A3++[Qv [] b.event true]) (some k) (ZC.mk 0 (λ_=>0) (λ_=>0)) (some A3.length) x.Amount=some ((A1.set k c).set k c',A3'):=by rw[hbe];exact hp
   have hmem:W1 h (Sc n) x.Amount∈all.set k (W1 h (Sc n) x.Amount):=List.mem_of_getElem? (List.getElem?_set_self (List.getElem?_eq_some_iff.1 hh).1);have hho:=hnew.each _ hmem
   have hres:Ww t n (.inl (all.set k (W1 h (Sc n) x.Amount))) (some (.ok ((A1.set k c).set k c',A3',[m]))):=by
    refine⟨_,_,_,rfl,?_⟩;refine hr.set hc hh hp1 ?_ (λi ci hi hne h1 h2=> ?_) (λi ci q hne h1 h2 h3=> ?_)
    ·rw[hp3];refine CR.xV h0 (by rw[hp2];exact hs) (by rw[<-hp3];exact hho) ?_;exact hp4
    ·have hci:=(hr.each i ci hi h1 h2).up;refine⟨hci.since,hci.ok,hci.eq,hci.fills.ug λq hq=> ?_⟩;have hq2:=hci.fills;rw[hq] at hq2
     obtain⟨lq,g1,_⟩:=hq2;have hql2:=(List.getElem?_eq_some_iff.1 g1).1;rw[g1];exact hp5 q lq (by rw[List.getElem?_append_left hql2];exact g1) (λe=>hne (hr.apart i k ci c q h1 hc hq e))
    ·have hci:=(hr.each i ci _ h1 (List.getElem?_eq_getElem (show i < all.length by rw[<-hr.len];exact(List.getElem?_eq_some_iff.1 h1).1))).fills;rw[h2] at hci
     have:=zi hci;rcases hp6 with hp6 | hp6
     ·rw[hp6] at h3;exact hne (hr.apart i k ci c q h1 hc h2 h3)
     ·rw[hp6] at h3
      simp only[Option.some.injEq,List.length_append,List.length_cons,List.length_nil] at h3
      omega
   show Ww t n _ ((YB (A1.set k c) (A3++[Qv [] b.event true]) (some k) (ZC.mk 0 (λ_=>0) (λ_=>0)) (some A3.length) x.Amount).bind λr_106=>some (.ok (r_106.1,r_106.2,[m])));rw[hmod,Option.bind_some];exact hres
theorem IY(r:PR t n all A1 A3 m)(ho:SE t n all)(h0:0<=t)(ht:t<=65536)(hb:b.casks=some 0)(hv:XR x=true)(hk:x.Kind=2)(hd:x.Day=t):Ww t n (FX all x n) (VA A1 [b] A3 [m] (some 0) x):=by
 unfold VA FX;rw[if_neg (by rw[hk];decide),hd];rcases Wr (num:=x.Cask) r (by omega) hb with⟨hf,hm⟩ | ⟨i,h,c,hf,hh,hnum,hr,hc,hs,hraw,hok,hm⟩
 ·rw[hf,hm];exact⟨rfl,by decide⟩
 ·rw[hf,hm];have hact:HJ all i h x n=PG all i h x:=by unfold HJ;rw[hk];rfl
  simp only[hh,hact];have hokd:=λl' (ha:1<=x.Amount) (hl' :PG all i h x= .inl l')=>OT ho h0 hh ha hl';have ha:=Nn hv (.inr (.inl hk));have hokd:=λl' =>hokd l' ha.1;unfold PG at hokd ⊢
  simp only[Qy];rcases Wr (num:=x.Other) hr (by omega) hb with⟨hf2,hm2⟩ | ⟨k,ho2,o,hf2,hho,hnum2,hr2,hoc,hos,horaw,hook,hm2⟩
  ·rw[hf2,hm2];exact⟨rfl,by decide⟩
  ·rw[hf2,hm2];rw[hf2] at hokd
   simp only[hho] at hokd ⊢
   have hil:i < A1.length:=by have:=(List.getElem?_eq_some_iff.1 hc).1;simpa using this
   by_cases hik:i=k
   ·
     subst hik;have hc2:((A1.set i c).set i o)[i]? =some o:=hoc;simp only[Option.bind_some,hc2];have e1:(i != i)=false:=by simp
     have e2:(i==i)=true:=by simp
     unfold MB;simp only[e1,e2,if_true];exact⟨rfl,by decide⟩
   · have hc2:((A1.set i c).set k o)[i]? =some c:=by rw[List.getElem?_set_ne (λe=>hik e.symm)];exact hc
     simp only[Option.bind_some,hc2,hoc];have e1:(i != k)=true:=by simpa using hik
     have e2:(i==k)=false:=by simpa using hik
     have hcr:=hr2.each i c h hc2 hh;have hor:=hr2.each k o ho2 hoc hho;have a1:h.C.Owner=c.owner:=by rw[hraw];rfl
     have a2:h.C.Creditor=c.creditor:=by rw[hraw];rfl
     have a3:h.C.Amount=c.amount:=by rw[hraw];rfl
     have b1:ho2.C.Owner=o.owner:=by rw[horaw];rfl
     have b2:ho2.C.Creditor=o.creditor:=by rw[horaw];rfl
     have b3:ho2.C.Amount=o.amount:=by rw[horaw];rfl
     have b4:ho2.C.Room=o.room:=by rw[horaw];rfl
     have camt:=hok.amt;have croom:=hok.room;have ccred:=hok.cred;have oamt:=hook.amt;have oroom:=hook.room;have ocred:=hook.cred;rw[a2] at ccred;rw[b2] at ocred;rw[b3,b4] at oamt;rw[b4] at oroom;rw[a3] at camt
     unfold MB at hokd ⊢
     rw[a1,a2,a3,b1,b2,b3,b4] at hokd ⊢
     simp only[e1,e2,Bool.false_eq_true,if_false,zy ccred.1,zy ocred.1] at hokd ⊢
     have n11:ZU false 11=some (.pan ⟨11⟩):=rfl;have n0:∀e,ZU true e=some (.ok ()):=λ_=>rfl;have nf:∀e,ZU false e=some (.pan ⟨e⟩):=λ_=>rfl;by_cases c1:c.owner=o.owner
     ·have f1:(c.owner==o.owner)=true:=by simpa using c1
      have f2:(c.owner != o.owner)=false:=by simpa using c1
      simp only[f1,f2,if_true,Bool.false_or,n0] at hokd ⊢
      by_cases c2:c.creditor≥0
      ·simp only[c2,decide_true,Bool.not_true,Bool.true_or,if_true,Bool.false_eq_true,if_false,nf,Option.bind_some];exact⟨rfl,by decide⟩
      ·simp only[c2,decide_false,Bool.not_false,Bool.false_or,if_true] at hokd ⊢
       by_cases c3:o.creditor≥0
       ·simp only[c3,decide_true,Bool.not_true,if_true,nf,Option.bind_some];exact⟨rfl,by decide⟩
       ·simp only[c3,decide_false,Bool.not_false,n0,Option.bind_some,Bool.false_eq_true,if_false] at hokd ⊢
        by_cases c4:c.amount < x.Amount
        ·have g1:decide (c.amount≥x.Amount)=false:=decide_eq_false (by omega);simp only[c4,g1,if_true,nf];exact⟨rfl,by decide⟩
        ·have g1:decide (c.amount≥x.Amount)=true:=decide_eq_true (by omega);simp only[c4,g1,if_false,n0] at hokd ⊢
         have hw:ZF (o.amount+x.Amount)=o.amount+x.Amount:=Qs (by omega) (by omega);rw[hw];by_cases c5:o.amount+x.Amount > o.room
         ·have g2:decide (o.amount+x.Amount<=o.room)=false:=decide_eq_false (by omega);simp only[c5,g2,if_true,nf];exact⟨rfl,by decide⟩
         ·have g2:decide (o.amount+x.Amount<=o.room)=true:=decide_eq_true (by omega);simp only[c5,g2,if_false,n0] at hokd ⊢
          have hnew:=hokd _ rfl;have hcf:=hcr.fills;cases hfc:c.fills with
          | none=>
           rw[hfc] at hcf
           exact absurd hcf (hok.some (by rw[a3];omega))
          | some j=>
           rw[hfc] at hcf
           obtain⟨lj,hj,hjn,hjF⟩:=hcf
           obtain⟨o',A3',hp,hp1,hp2,hp3,hp4,hp5,hp6⟩:=NL (A3:=A3) (j:=j) (lj:=lj) (so:=h) (tm:=c.times) (n:=x.Amount) hoc horaw (by omega) (by omega) hor.fills (λhp=>by rw[<-b3] at hp;exact hook.some hp)
            hj hjn hjF (λe=>hik (hr2.apart i k c o j hc2 hoc hfc e)) ⟨by rw[hraw];rfl,by rw[hraw];rfl,by rw[hraw];rfl⟩
           have hc3:(((A1.set i c).set k o).set k o')[i]? =some c:=by rw[List.getElem?_set_ne (λe=>hik e.symm)];exact hc2
           rw[hp,Option.bind_some];simp only;rw[Hy hc3 (by omega) (by omega),Option.bind_some];have hjl:j < A3.length:=(List.getElem?_eq_some_iff.1 hj).1;have hkall:=(List.getElem?_eq_some_iff.1 hho).1;have hmem:W1 ho2 h x.Amount∈(all.set k (W1 ho2 h x.Amount)).set i (XY h x.Amount):=List.mem_of_getElem? (i:=k) (by rw[List.getElem?_set_ne hik];exact List.getElem?_set_self hkall);have hho' :=hnew.each _ hmem;have hlmem:XY h x.Amount∈(all.set k (W1 ho2 h x.Amount)).set i (XY h x.Amount):=List.mem_of_getElem? (i:=i) (List.getElem?_set_self (by simpa using(List.getElem?_eq_some_iff.1 hh).1));have hlok:=hnew.each _ hlmem
           have hpr:PR t (n+1) (all.set k (W1 ho2 h x.Amount)) (((A1.set i c).set k o).set k o') A3' m:=by
            refine hr2.set hoc hho hp1 ?_ (λi' ci hi hne h1 h2=> ?_) (λi' ci q hne h1 h2 h3=> ?_)
            ·rw[hp3];refine CR.xV h0 (by rw[hp2];exact hos) (by rw[<-hp3];exact hho') ?_;exact hp4
            ·have hci:=(hr2.each i' ci hi h1 h2).up;refine⟨hci.since,hci.ok,hci.eq,hci.fills.ug λq hq=> ?_⟩;have hq2:=hci.fills;rw[hq] at hq2
             obtain⟨lq,g1',_⟩:=hq2;rw[g1'];exact hp5 q lq g1' (λe=>hne (hr2.apart i' k ci o q h1 hoc hq e))
            ·have hci:=(hr2.each i' ci _ h1 (List.getElem?_eq_getElem (show i' < all.length by rw[<-hr2.len];exact(List.getElem?_eq_some_iff.1 h1).1))).fills;rw[h2] at hci
             have hlt:=zi hci;rcases hp6 with hp6 | hp6
             ·rw[hp6] at h3;exact hne (hr2.apart i' k ci o q h1 hoc h2 h3)
             ·rw[hp6] at h3
              simp only[Option.some.injEq] at h3
              omega
           refine⟨_,_,_,rfl,?_⟩;have hh3:(all.set k (W1 ho2 h x.Amount))[i]? =some h:=by rw[List.getElem?_set_ne (λe=>hik e.symm)];exact hh
           have hcr3:=hpr.each i c h hc3 hh3;have hls:XY h x.Amount=Vc (HV c x.Amount) (XY (Vc c h.Fills) x.Amount).Fills:=by rw[<-LJ,<-hraw]
           refine hpr.set hc3 hh3 A7 ?_ (λi' ci hi _ h1 h2=>hpr.each i' ci hi h1 h2) (λi' ci q hne h1 h2 h3=> ?_)
           ·rw[hls];refine CR.xV h0 (by rw[Pu];exact hs) (by rw[<-hls];exact hlok) (Ox hcr3.fills)
           ·rcases Pv (c:=c) (n:=x.Amount) with e | e
            ·rw[e] at h3;exact hne (hpr.apart i' i ci c q h1 hc3 h2 h3)
            ·rw[e] at h3;cases h3
     ·have f1:(c.owner==o.owner)=false:=by simpa using c1
      have f2:(c.owner != o.owner)=true:=by simpa using c1
      simp only[f1,f2,if_true,Bool.true_or,Bool.false_eq_true,if_false,n0,nf,Option.bind_some];exact⟨rfl,by decide⟩
end
end
section
open Go.Dec
theorem OQ(x:Ev):Wa x=some (XR x):=by
 have e:∀n a b,Ju n a b=WL n a b:=λ_ _ _=>rfl;unfold Wa UI UU Vw Yl Jz XR;simp only[e];cases h1:WL x.Day 0 65536 with
 | false=>simp
 | true=>
  cases h2:WL x.Cask 0 1073741824 with
  | false=>simp
  | true=>
   simp only[Bool.not_true,Bool.or_self,Bool.false_eq_true,if_false,Bool.true_and];by_cases k0:(x.Kind==0)=true
   ·rw[if_pos k0,if_pos k0]
   ·rw[if_neg k0,if_neg k0];by_cases k1:(x.Kind==1)=true
    ·simp[k1]
    ·simp only[Bool.not_eq_true] at k1
     by_cases k3:(x.Kind==3)=true
     ·simp[k1,k3]
     ·simp only[Bool.not_eq_true] at k3
      simp only[k1,k3,Bool.or_self,Bool.false_eq_true,if_false,Option.bind_some];by_cases k2:(x.Kind==2)=true
      ·rw[if_pos k2,if_pos k2]
      ·rw[if_neg k2,if_neg k2];by_cases k4:(x.Kind==4)=true
       ·rw[if_pos k4,if_pos k4]
       ·rw[if_neg k4,if_neg k4];by_cases k5:(x.Kind==5)=true
        ·simp[k5]
        ·simp only[Bool.not_eq_true] at k5
         by_cases k6:(x.Kind==6)=true
         ·simp[k5,k6]
         ·simp only[Bool.not_eq_true] at k6
          simp only[k5,k6,Bool.or_self,Bool.false_eq_true,if_false,Option.bind_some];by_cases k7:(x.Kind==7)=true
          ·rw[if_pos k7,if_pos k7]
          ·rw[if_neg k7,if_neg k7];by_cases k8:(x.Kind==8)=true
           ·rw[if_pos k8,if_pos k8]
           ·rw[if_neg k8,if_neg k8]
abbrev qV:=((List QF)×(List Qh)×FM×(List (List (Int×(Option Nat))))×(Option Nat)×Ev)->Option (Out Zg ((List QF)×FM×(List (List (Int×(Option Nat))))))
theorem Cv:∃D:List (Int×qV),Hh=some D/\∀(x:Ev),XR x=true->∃f,Qc D x.Kind=some f/\
  ∀{t:Int} {n:Nat} {all:List Zr} {A1:List QF} {A3:FM} {m:List (Int×Option Nat)} {b:Qh},PR t n all A1 A3 m->SE t n all->0<=t->t<=65536->b.casks=some 0->b.event=n->x.Day=t->Ww t n (FX all x n) (f (A1,[b],A3,[m],some 0,x)):=by
 refine⟨_,rfl,λx hv=> ?_⟩;rcases kinds hv with k | k | k | k | k | k | k | k | k<;>rw[k]
 ·exact⟨_,rfl,λr ho h0 ht hb _ hd=>OD r ho h0 hb hv k hd⟩
 ·exact⟨_,rfl,λr ho h0 ht hb hbe hd=>AK r ho h0 ht hb hbe hv k hd⟩
 ·exact⟨_,rfl,λr ho h0 ht hb _ hd=>IY r ho h0 ht hb hv k hd⟩
 ·exact⟨_,rfl,λr _ h0 ht hb _ hd=>E6 r h0 ht hb hv k hd⟩
 ·exact⟨_,rfl,λr _ h0 ht hb _ hd=>OB r h0 ht hb hv k hd⟩
 ·exact⟨_,rfl,λr _ h0 ht hb _ hd=>IM r h0 ht hb hv k hd⟩
 ·exact⟨_,rfl,λr _ h0 ht hb _ hd=>LL r h0 ht hb hv k hd⟩
 ·exact⟨_,rfl,λr _ h0 ht hb _ hd=>Iy r h0 ht hb hv k hd⟩
 ·exact⟨_,rfl,λr _ h0 ht hb _ hd=>qA r h0 ht hb hv k hd⟩
section
variable{D:List (Int×qV)}
def O9(D:List (Int×qV)):Prop:=∀(x:Ev),XR x=true->∃f,Qc D x.Kind=some f/\
 ∀{t:Int} {n:Nat} {all:List Zr} {A1:List QF} {A3:FM} {m:List (Int×Option Nat)} {b:Qh},PR t n all A1 A3 m->SE t n all->0<=t->t<=65536->b.casks=some 0->b.event=n->x.Day=t->Ww t n (FX all x n) (f (A1,[b],A3,[m],some 0,x))
theorem II(hD:O9 D){l:List Ev}{day:Int}{n:Nat}{s:TP}{x:Ev}{A1:List QF}{A3:FM}{m:List (Int×Option Nat)}{b:Qh}(hx:l[n]? =some x)(hn:n<=4096)(ho:Xy n s)(hr:PR s.last n s.all A1 A3 m)(hb:b.casks=some 0)(hd:x.Day<=day):
  match Wz n s x with
  | .inl s' =>∃A1' A3' m',Jx l day D ((n:Int),s.last,A1,[b],A3,[m])=some (.next (((n+1:Nat):Int),s'.last,A1',[⟨some 0,n⟩],A3',[m']))/\PR s'.last (n+1) s'.all A1' A3' m'
  | .inr e=>Jx l day D ((n:Int),s.last,A1,[b],A3,[m])=some (.done (.inr (⟨e⟩,(n:Int),0,some 0)))/\e≠0:=by
 have hnl:n < l.length:=(List.getElem?_eq_some_iff.1 hx).1;have hw:ZF ((n:Int)+1)=((n+1:Nat):Int):=by rw[Qs (by omega) (by omega)];rfl
 have h1:decide ((n:Int) < (l.length:Int))=true:=decide_eq_true (by omega);have nt:∀e,ZU true e=some (.ok ()):=λ_=>rfl;have nf:∀e,ZU false e=some (.pan ⟨e⟩):=λ_=>rfl;unfold Jx Wz;simp only[h1,if_true,Kg,hx,Option.bind_some,hd,decide_true,OQ];cases hv:XR x with
 | false=>
  simp only[Bool.not_false,if_true,nf,Qy];exact⟨trivial,by decide⟩
 | true=>
  simp only[Bool.not_true,Bool.false_eq_true,if_false,nt,Qy];by_cases hlt:x.Day < s.last
  ·have e:decide (x.Day≥s.last)=false:=decide_eq_false (by omega);simp only[hlt,e,if_true,nf];exact⟨trivial,by decide⟩
  ·have e:decide (x.Day≥s.last)=true:=decide_eq_true (by omega);simp only[hlt,e,if_false,nt];have hday:=ua hv;have hsd:=ho.day;obtain⟨f,hf,hdo⟩:=hD x hv;have hok:=S6 ho.ok (n:=x.Day - s.last) (by omega);have e0:s.last+(x.Day - s.last)=x.Day:=by omega
   rw[e0] at hok
   have hdoes:=hdo (b:=⟨some 0,(n:Int)⟩) (hr.shift (t' :=x.Day) (by omega)) hok hday.1 hday.2 rfl rfl rfl;have hbk:({b with event:=(n:Int)}:Qh)=⟨some 0,n⟩:=by rw[<-hb]
   simp only[List.getElem?_cons_zero,Option.bind_some,QV,List.set_cons_zero,hbk,hf];cases hds:FX (s.all.map (Vs (x.Day - s.last))) x n with
   | inl all' =>
    rw[hds] at hdoes
    obtain⟨A1',A3',m',h2,h3⟩:=hdoes;rw[h2];simp only[hw];exact⟨A1',A3',m',rfl,h3⟩
   | inr er=>
    rw[hds] at hdoes
    obtain⟨h2,h3⟩:=hdoes;rw[h2];exact⟨rfl,h3⟩
theorem R5{l:List Ev}{day:Int}{n:Nat}{last:Int}{A1:List QF}{A2:List Qh}{A3:FM}{A4:List (List (Int×Option Nat))}(h:∀x,l[n]? =some x->¬x.Day<=day)(hn:n<=l.length):
  Jx l day D ((n:Int),last,A1,A2,A3,A4)=some (.done (.inl ((n:Int),A1,A2,A3,A4))):=by
 unfold Jx;cases hx:l[n]? with
 | none=>
  have:¬(n:Int) < (l.length:Int):=by
   have:=List.getElem?_eq_none_iff.1 hx;omega
  simp[this]
 | some x=>
  have hnl:n < l.length:=(List.getElem?_eq_some_iff.1 hx).1;have h1:decide ((n:Int) < (l.length:Int))=true:=decide_eq_true (by omega);have h2:decide (x.Day<=day)=false:=decide_eq_false (h x hx);simp only[h1,if_true,Kg,hx,Option.bind_some,h2,Bool.false_eq_true,if_false]
theorem NY(hD:O9 D){l:List Ev}{day:Int}(hl:l.length<=4096):∀(post pre:List Ev) (s:TP) (A1:List QF) (A3:FM) (m:List (Int×Option Nat)) (b:Qh),l=pre++post->Xy pre.length s->PR s.last pre.length s.all A1 A3 m->b.casks=some 0->
  match Po day post pre.length s with
  | (.inl s',k)=>∃A1' A3' m' b',ZV (Jx l day D) ((pre.length:Int),s.last,A1,[b],A3,[m])=some (.inl ((k:Int),A1',[b'],A3',[m']))/\PR s'.last k s'.all A1' A3' m'/\b'.casks=some 0
  | (.inr e,k)=>ZV (Jx l day D) ((pre.length:Int),s.last,A1,[b],A3,[m])=some (.inr (⟨e⟩,(k:Int),0,some 0))/\e≠0
 | [],pre,s,A1,A3,m,b,e,ho,hr,hb=>by
  simp only[Po];refine⟨A1,A3,m,b,?_,hr,hb⟩;rw[ZR,R5 (λx hx=>by rw[e] at hx;simp at hx) (by rw[e];simp)]
 | x::post,pre,s,A1,A3,m,b,e,ho,hr,hb=>by
  have hx:l[pre.length]? =some x:=XN e;have hn:pre.length<=4096:=by have:=Fx e;omega
  rw[ZR];by_cases hd:x.Day<=day
  ·have hst:=II hD hx hn ho hr hb hd;simp only[Po,hd,if_true];cases hs:Wz pre.length s x with
   | inl s' =>
    rw[hs] at hst
    obtain⟨A1',A3',m',h1,h2⟩:=hst;rw[h1];have ih:=NY hD (day:=day) hl post (pre++[x]) s' A1' A3' m' ⟨some 0,(pre.length:Int)⟩ (by rw[e];simp) (by simpa using(SK ho hs).1) (by simpa using h2) rfl;simpa using ih
   | inr er=>
    rw[hs] at hst
    rw[hst.1];exact⟨rfl,hst.2⟩
  ·rw[R5 (λy hy=>by rw[hx] at hy;cases hy;exact hd) (by have:=Fx e;omega)];simp only[Po,hd,if_false];exact⟨A1,A3,m,b,rfl,hr,hb⟩
end
end
section
open Go.Dec
section
variable{t day:Int}{n:Nat}{all:List Zr}{A1:List QF}{A3:FM}{m:List (Int×Option Nat)}
theorem Nj(hday:day<=1000000)(hok:∀(k:Nat) (c:QF),A1[k]? =some c->0<=c.since/\c.since<=day/\∃F,Mt c.since n (Vc c F)):∀(L:List (Int×Option Nat)) (s:List QF),(∀e∈L,∃k,e.2=some k/\k < A1.length)->(L.map Prod.snd).Nodup->s.length=A1.length->(∀k,some k∈L.map Prod.snd->s[k]? =A1[k]?)->
  ∃s',YI (Ua day) L s=some s'/\s'.length=A1.length/\∀i:Nat,s'[i]? =if some i∈L.map Prod.snd then(A1[i]?).map (WT day) else s[i]?
 | [],s,_,_,hl,_=>⟨s,rfl,hl,λi=>by simp⟩
 | e::L,s,hE,hN,hl,hs=>by
  obtain⟨k,hk,hkl⟩:=hE e (by simp)
  have hN' :some k∉L.map Prod.snd/\(L.map Prod.snd).Nodup:=by
   have:=List.nodup_cons.1 hN;rw[hk] at this;exact this
  have hc:A1[k]? =some A1[k]:=List.getElem?_eq_getElem hkl;have hsk:s[k]? =some A1[k]:=by rw[hs k (by simp[hk])];exact hc
  obtain⟨h0,h1,F,hF⟩:=hok k _ hc
  have hb:Ua day e s=some (s.set k (WT day A1[k])):=by
   unfold Ua;rw[hk,ND hsk hF h0 h1 hday];rfl
  obtain⟨s',g1,g2,g3⟩:=Nj hday hok L (s.set k (WT day A1[k])) (λe' he' =>hE e' (List.mem_cons_of_mem _ he')) hN'.2 (by simpa using hl) (λk' hk' =>by
   have hne:k≠k' :=λe' =>hN'.1 (by rw[e'];exact hk');rw[List.getElem?_set_ne hne];exact hs k' (by rw[List.map_cons];exact List.mem_cons_of_mem _ hk'))
  refine⟨s',by simp only[YI,hb,Option.bind_some];exact g1,g2,λi=> ?_⟩;rw[g3 i];by_cases hi:some i∈L.map Prod.snd
  ·rw[if_pos hi,if_pos (by rw[List.map_cons];exact List.mem_cons_of_mem _ hi)]
  ·rw[if_neg hi];by_cases e' :k=i
   ·subst e';rw[List.getElem?_set_self (by rw[hl];exact hkl),if_pos (by simp[hk]),hc];rfl
   ·rw[List.getElem?_set_ne e',if_neg];rw[List.map_cons,List.mem_cons,hk];rintro(h | h)
    ·exact e' (by simpa using h.symm)
    ·exact hi h
theorem zE(r:PR t n all A1 A3 m)(hd:t<=day)(hday:day<=65536):BA (Ua day) m A1=some (A1.map (WT day))/\PR day n (all.map (Vs (day - t))) (A1.map (WT day)) A3 m/\∀c∈A1.map (WT day),c.since=day:=by
 have hlook:∀(k:Nat) (c:QF),A1[k]? =some c->∃h,all[k]? =some h/\CR t n A3 c h:=λk c hc=>by
  have hk:k < all.length:=by rw[<-r.len];exact(List.getElem?_eq_some_iff.1 hc).1
  exact⟨all[k],List.getElem?_eq_getElem hk,r.each k c _ hc (List.getElem?_eq_getElem hk)⟩
 have hsnd:m.map Prod.snd=(List.range A1.length).map some:=by
  rw[r.map];apply List.ext_getElem?;intro i;simp only[List.getElem?_map,List.getElem?_mapIdx];by_cases h:i < A1.length
  ·simp[h]
  ·simp[h]
 refine⟨LP λl' hl' => ?_,⟨by simp[r.len],λk c h hc hh=> ?_,?_,λi j ci cj q h1 h2 h3 h4=> ?_⟩,λc hc=> ?_⟩
 ·have hp:=hl'.map Prod.snd
  have hmem:∀o,o∈l'.map Prod.snd↔∃i,i < A1.length/\o=some i:=λo=>by
   rw[hp.mem_iff,hsnd];simp only[List.mem_map,List.mem_range];exact⟨fun⟨i,h1,h2⟩=>⟨i,h1,h2.symm⟩,fun⟨i,h1,h2⟩=>⟨i,h1,h2.symm⟩⟩
  obtain⟨s',g1,g2,g3⟩:=Nj (day:=day) (A1:=A1) (n:=n) (by omega) (λk c hc=>by
   obtain⟨h,_,hcr⟩:=hlook k c hc
   exact⟨hcr.since.1,by have:=hcr.since.2;omega,_,hcr.ok⟩) l' A1 (λe he=>by
    obtain⟨i,h1,h2⟩:=(hmem e.2).1 (List.mem_map_of_mem he);exact⟨i,h2,h1⟩) (hp.nodup_iff.2 (by rw[hsnd];exact List.nodup_range.map _ (λa b hab e=>hab (by simpa using e)))) rfl (λ_ _=>rfl)
  rw[g1];congr 1;apply List.ext_getElem?;intro i;rw[g3 i,List.getElem?_map];by_cases h:i < A1.length
  ·rw[if_pos ((hmem _).2 ⟨i,h,rfl⟩)]
  ·rw[if_neg (λh' =>by
    obtain⟨i',h1,h2⟩:=(hmem _).1 h';simp only[Option.some.injEq] at h2
    omega),List.getElem?_eq_none (by omega)]
   rfl
 ·rw[List.getElem?_map] at hc hh
  cases h1:A1[k]? with
  | none=>rw[h1] at hc;cases hc
  | some c0=>
   obtain⟨h0,h2,hcr⟩:=hlook k c0 h1;rw[h1] at hc;rw[h2] at hh
   simp only[Option.map_some,Option.some.injEq] at hc hh
   subst hc;subst hh;exact(hcr.shift hd).rest
 ·rw[r.map];apply List.ext_getElem?;intro i;simp only[List.getElem?_mapIdx,List.getElem?_map];cases A1[i]? with
  | none=>rfl
  | some c=>simp[Ar]
 ·rw[List.getElem?_map] at h1 h2
  cases g1:A1[i]? with
  | none=>rw[g1] at h1;cases h1
  | some c1=>
   cases g2:A1[j]? with
   | none=>rw[g2] at h2;cases h2
   | some c2=>
    rw[g1] at h1;rw[g2] at h2
    simp only[Option.map_some,Option.some.injEq] at h1 h2
    subst h1;subst h2;rw[D6] at h3 h4
    exact r.apart i j c1 c2 q g1 g2 h3 h4
 ·obtain⟨c0,_,rfl⟩:=List.mem_map.1 hc;exact WS
end
theorem PR.start:PR 0 0 [] [] [] []:=⟨rfl,λ_ _ _ h=>by simp at h,rfl,λ_ _ _ _ _ h=>by simp at h⟩
def Ms(day:Int)(r:(List Zr ⊕ Int)×Nat)(o:Option ((Option Nat)×Int×Int×(List QF)×(List Qh)×FM×(List (List (Int×Option Nat))))):Prop:=match r with
 | (.inl all,k)=>∃A1 b A3 m,o=some (some 0,(k:Int),0,A1,[b],A3,[m])/\b.casks=some 0/\PR day k all A1 A3 m/\(∀c∈A1,c.since=day)/\SE day k all/\k<=4096/\0<=day/\day<=65536
 | (.inr e,k)=>o=some (none,(k:Int),e,[],[],[],[])/\e≠0
theorem Xq(l:List Ev)(day:Int):Ms day (Ws l day) (WZ l day):=by
 obtain⟨D,hD,hOK⟩:=Cv;unfold WZ Ws;by_cases hl:l.length > 4096
 ·have:decide ((l.length:Int) > 4096)=true:=decide_eq_true (by omega);simp only[this,hl,if_true];exact⟨rfl,by decide⟩
 ·have:decide ((l.length:Int) > 4096)=false:=decide_eq_false (by omega);simp only[this,hl,if_false,Bool.false_eq_true];have e:Ju day 0 65536=WL day 0 65536:=rfl;rw[e];cases hb:WL day 0 65536 with
  | false=>exact⟨rfl,by decide⟩
  | true=>
   have hday:=YN.1 hb;simp only[Bool.not_true,Bool.false_eq_true,if_false,QV,hD,Option.bind_some,List.nil_append];have hloop:=NY (D:=D) hOK (l:=l) (day:=day) (by omega) l [] ⟨[],0⟩ [] [] [] ⟨some 0,0⟩ rfl Xy.start PR.start rfl;unfold EX;cases hg:Po day l 0 ⟨[],0⟩ with
   | mk r k=>
    have hg' :Po day l ([]:List Ev).length ⟨[],0⟩=(r,k):=hg;rw[hg'] at hloop
    cases r with
    | inl s' =>
     obtain⟨A1',A3',m',b',h1,h2,h3⟩:=hloop;obtain⟨g1,g2,g3,g4⟩:=Ni l 0 ⟨[],0⟩ s' k Xy.start (by show(0:Int)<=day;omega) hg;have h1' :ZV (Jx l day D) (0,0,[],[⟨some 0,0⟩],[],[[]])=_:=h1;obtain⟨p1,p2,p3⟩:=zE h2 g2 hday.2;have hok:=S6 g1.ok (n:=day - s'.last) (by omega);rw[show s'.last+(day - s'.last)=day by omega] at hok
     refine⟨A1'.map (WT day),b',A3',m',?_,h3,p2,p3,hok,by omega,hday.1,hday.2⟩;rw[h1',Option.bind_some];simp only[List.getElem?_cons_zero,Option.bind_some,h3,p1]
    | inr er=>
     have h1' :ZV (Jx l day D) (0,0,[],[⟨some 0,0⟩],[],[[]])=_:=hloop.1;refine⟨?_,hloop.2⟩;rw[h1',Option.bind_some]
end
section
open Go.Dec
def zC:ZO:=⟨0,0,0,0,0,0,0,0,zN,zN⟩
def Sa(all:List Zr)(num:Int):Option Zr:=(Uo all num).bind λi=>all[i]?
def qo(l:List Ev)(num day:Int):ZO×Int:=match(Ws l day).1 with
 | .inr e=>(zC,e)
 | .inl all=>match Sa all num with
  | none=>(zC,4)
  | some h=>(h.C,0)
def qu(l:List Ev)(num day:Int):List Int×Int:=match(Ws l day).1 with
 | .inr e=>([],e)
 | .inl all=>match Sa all num with
  | none=>([],4)
  | some h=>(h.Fills,0)
theorem NM{l:List Ev}{day e:Int}{k:Nat}(h:Ws l day=(.inr e,k)):e≠0:=by
 have:=Xq l day;rw[h] at this
 exact this.2
theorem LM{l:List Ev}{day:Int}{all:List Zr}{k:Nat}(h:Ws l day=(.inl all,k)):SE day k all/\k<=4096/\0<=day/\day<=65536:=by
 have:=Xq l day;rw[h] at this
 obtain⟨_,_,_,_,_,_,_,_,h1,h2,h3,h4⟩:=this;exact⟨h1,h2,h3,h4⟩
theorem CR.now{t:Int}{n:Nat}{A3:FM}{c:QF}{h:Zr}(r:CR t n A3 c h)(hs:c.since=t):h=Vc c h.Fills:=by
 have:=r.eq;rw[hs,Int.sub_self,TW] at this
 exact this
theorem AJ{all:List Zr}{num:Int}{i:Nat}(h:Uo all num=some i):∃hh,all[i]? =some hh/\Sa all num=some hh:=by
 obtain⟨hh,h1,_⟩:=CB h;exact⟨hh,h1,by simp[Sa,h,h1]⟩
theorem PR.look{t:Int}{n:Nat}{all:List Zr}{A1:List QF}{A3:FM}{m:List (Int×Option Nat)}(r:PR t n all A1 A3 m)(hs:∀c∈A1,c.since=t){i:Nat}{h:Zr}(hh:all[i]? =some h):∃c,A1[i]? =some c/\h=Vc c h.Fills/\FR A3 c.fills h.Fills:=by
 have hi:i < A1.length:=by rw[r.len];exact(List.getElem?_eq_some_iff.1 hh).1
 have hc:A1[i]? =some A1[i]:=List.getElem?_eq_getElem hi;have hcr:=r.each i _ h hc hh;exact⟨_,hc,hcr.now (hs _ (List.getElem_mem _)),hcr.fills⟩
theorem jq(l:List Ev)(num day:Int):FL l num day=some (qo l num day):=by
 have hp:=Xq l day;unfold FL qo;cases hpl:Ws l day with
 | mk r k=>
  rw[hpl] at hp
  cases r with
  | inr e=>
   rw[hp.1,Option.bind_some];have:(e != 0)=true:=by simpa using hp.2
   simp only[this,if_true];rfl
  | inl all=>
   obtain⟨A1,b,A3,m,h1,hb,hr,hs,_⟩:=hp;rw[h1,Option.bind_some];have e0:((0:Int) != 0)=false:=rfl;simp only[e0,Bool.false_eq_true,if_false,Option.bind_some,List.getElem?_cons_zero,hb,hr.get];cases hf:Uo all num with
   | none=>simp[Sa,hf];rfl
   | some i=>
    obtain⟨h,hh,hfh⟩:=AJ hf;obtain⟨c,hc,hraw,_⟩:=hr.look hs hh;simp only[Option.isNone_some,Bool.false_eq_true,if_false,hfh];unfold YR;simp only[Option.bind_some,hc];have:h.C=(Vc c h.Fills).C:=by rw[<-hraw]
    rw[this];rfl
end
section
open Go.Dec
def NT(all:List Zr):List Int:=(all.map (·.C.Number)).mergeSort (λa b=>decide (a<=b))
def vr(all:List Zr):List Zr:=(NT all).filterMap (Sa all)
theorem NS(all:List Zr):(NT all).Perm (all.map (·.C.Number)):=List.mergeSort_perm _ _
theorem jP{all:List Zr}{num:Int}(h:num∈all.map (·.C.Number)):∃i hh,Uo all num=some i/\all[i]? =some hh/\Sa all num=some hh/\hh.C.Number=num:=by
 cases hf:Uo all num with
 | none=>
  obtain⟨x,hx,e⟩:=List.mem_map.1 h;exact absurd e (CC hf x hx)
 | some i=>
  obtain⟨hh,h1,h2⟩:=AJ hf;obtain⟨h',h3,h4⟩:=CB hf;rw[h1] at h3;cases h3
  exact⟨i,hh,rfl,h1,h2,h4⟩
section
variable{t:Int}{n:Nat}{all:List Zr}{A1:List QF}{A3:FM}{m:List (Int×Option Nat)}{b:Qh}
theorem jJ(r:PR t n all A1 A3 m)(ho:SE t n all):HU m=some (NT all):=by
 have hk:m.map Prod.fst=all.map (·.C.Number):=by
  rw[r.map];apply List.ext_getElem?;intro i;simp only[List.getElem?_map,List.getElem?_mapIdx];by_cases h:i < A1.length
  ·have h2:i < all.length:=by rw[<-r.len];exact h
   rw[List.getElem?_eq_getElem h,List.getElem?_eq_getElem h2];simp only[Option.map_some];rw[(r.each i _ _ (List.getElem?_eq_getElem h) (List.getElem?_eq_getElem h2)).number]
  ·rw[List.getElem?_eq_none (by omega),List.getElem?_eq_none (by rw[<-r.len];omega)];rfl
 have hl:m.length=all.length:=by rw[<-List.length_map (f:=Prod.fst),hk,List.length_map]
 have hall:m.all (λx=>decide (-9223372036854775808<=x.1/\x.1<=9223372036854775807))=true:=List.all_eq_true.2 λx hx=>by
  have h1:x.1∈all.map (·.C.Number):=by rw[<-hk];exact List.mem_map_of_mem hx
  obtain⟨h,hh,e⟩:=List.mem_map.1 h1;have:=(ho.each h hh).num;simp only[decide_eq_true_eq];omega
 unfold HU;rw[if_pos ⟨hall,by have:=ho.few;omega⟩,hk];rfl
theorem MI(r:PR t n all A1 A3 m)(ho:SE t n all)(hb:b.casks=some 0):Yz [b] [m] (some 0)=some ((NT all).map (Uo all)):=by
 unfold Yz;simp only[Option.bind_some,List.getElem?_cons_zero,hb,jJ r ho];congr 1;exact List.map_congr_left λk _=>r.get k
theorem Nk(hs:∀c∈A1,c.since=t)(r:PR t n all A1 A3 m):∀(ks:List Int) (out:List ZO),(∀k∈ks,k∈all.map (·.C.Number))->out.length+ks.length<=1000000->
  YI XC (ks.map (Uo all)) (out,A1)=some (out++(ks.filterMap (Sa all)).map (·.C),A1)
 | [],out,_,_=>by simp[YI]
 | k::ks,out,hk,hl=>by
  obtain⟨i,h,h1,h2,h3,h4⟩:=jP (hk k (by simp));obtain⟨c,hc,hraw,_⟩:=r.look hs h2
  have hsh:YR A1 (some i)=some h.C:=by
   unfold YR;simp only[Option.bind_some,hc];have:h.C=(Vc c h.Fills).C:=by rw[<-hraw]
   rw[this];rfl
  have hb:XC (some i) (out,A1)=some (out++[h.C],A1):=by
   unfold XC;rw[hsh,Option.bind_some];simp only[List.length_cons] at hl
   rw[C8 (by simp;omega)];rfl
  simp only[List.map_cons,YI,h1,hb,Option.bind_some];rw[Nk hs r ks (out++[h.C]) (λk' hk' =>hk k' (List.mem_cons_of_mem _ hk')) (by simp at hl ⊢;omega)];rw[List.filterMap_cons,h3];simp
end
def O5(l:List Ev)(day:Int):List ZO×Int×Int:=match Ws l day with
 | (.inr e,k)=>([],(k:Int),e)
 | (.inl all,k)=>((vr all).map (·.C),(k:Int),0)
theorem CH(l:List Ev)(day:Int):X9 l day=some (O5 l day):=by
 have hp:=Xq l day;unfold X9 O5;cases hpl:Ws l day with
 | mk r k=>
  rw[hpl] at hp
  cases r with
  | inr e=>
   rw[hp.1,Option.bind_some];have:(e != 0)=true:=by simpa using hp.2
   simp only[this,if_true]
  | inl all=>
   obtain⟨A1,b,A3,m,h1,hb,hr,hs,hok,hk,_⟩:=hp;rw[h1,Option.bind_some];have e0:((0:Int) != 0)=false:=rfl;simp only[e0,Bool.false_eq_true,if_false,Option.bind_some];rw[MI hr hok hb,Option.bind_some];have hlen:(NT all).length=all.length:=by rw[(NS all).length_eq];simp
   rw[Nk hs hr (NT all) [] (λk hk=>(NS all).mem_iff.1 hk) (by have:=hok.few;simp;omega),Option.bind_some];rfl
end
section
open Go.Dec
theorem RR{A3:FM}{p:Option Nat}{F:List Int}{n:Nat}(h:FR A3 p F)(hF:F.Pairwise (·< ·)/\∀f∈F,0<=f/\f < n)(hn:n<=4096):VU A3 p=some F:=by
 cases p with
 | none=>have:F=[]:=h;subst this;rfl
 | some j=>
  obtain⟨l,h1,h2,h3⟩:=h;have hFn:F.Nodup:=hF.1.imp λh=>Int.ne_of_lt h;have hperm:(l.map Prod.fst).Perm F:=(List.perm_ext_iff_of_nodup h2 hFn).2 λx=>(h3 x).symm;have hlen:l.length=F.length:=by rw[<-hperm.length_eq];simp
  have hfl:=Tx 0 hF.1 (n:=n) hF.2 (by omega)
  have hall:l.all (λx=>decide (-9223372036854775808<=x.1/\x.1<=9223372036854775807))=true:=List.all_eq_true.2 λx hx=>by
   have:=hF.2 x.1 ((h3 x.1).2 (List.mem_map_of_mem hx));simp only[decide_eq_true_eq];omega
  have hk:HU l=some ((l.map Prod.fst).mergeSort (λa b=>decide (a<=b))):=by
   unfold HU;rw[if_pos ⟨hall,by omega⟩]
  have e:VU A3 (some j)=HU l:=by simp[VU,h1]
  rw[e,hk,OS hperm];congr 1;exact List.mergeSort_of_pairwise (hF.1.imp λh=>by simpa using Int.le_of_lt h)
theorem Mr(l:List Ev)(num day:Int):Wb l num day=some (qu l num day):=by
 have hp:=Xq l day;unfold Wb qu;cases hpl:Ws l day with
 | mk r k=>
  rw[hpl] at hp
  cases r with
  | inr e=>
   rw[hp.1,Option.bind_some];have:(e != 0)=true:=by simpa using hp.2
   simp only[this,if_true]
  | inl all=>
   obtain⟨A1,b,A3,m,h1,hb,hr,hs,hok,hk,_⟩:=hp;rw[h1,Option.bind_some];have e0:((0:Int) != 0)=false:=rfl;simp only[e0,Bool.false_eq_true,if_false,Option.bind_some,List.getElem?_cons_zero,hb,hr.get];cases hf:Uo all num with
   | none=>simp[Sa,hf]
   | some i=>
    obtain⟨h,hh,hfh⟩:=AJ hf;obtain⟨c,hc,hraw,hfr⟩:=hr.look hs hh;have hho:=hok.each h (List.mem_of_getElem? hh);simp only[Option.isNone_some,Bool.false_eq_true,if_false,hfh,Option.bind_some,hc];rw[RR hfr hho.fills hk];rfl
end
end Go.Proofs.YtogaibncbkhjlaaGreatDoor.Ca
namespace Go.Proofs.YtogaibncbkhjlaaGreatDoor.Ex
section
open Go.Dec
structure Acc where
 B:ZP
 Ids:List Int
 Sums:Nat->Int
abbrev Ev:=QS
abbrev Hb:=Q8
abbrev Bk:=ZP
abbrev zN:Nat->Int:=λ_=>0
def WL(n a b:Int):Bool:=decide (n≥a)&&decide (n<=b)
def Hg:Int->List Zx->Bool
 | _,[]=>true
 | last,x::l=>WL x.From 0 65536&&decide (last < x.From)&&WL x.Rate 0 1048576&&Hg x.From l
def MW:List Zx->Bool
 | x::_=>x.From==0
 | []=>false
def H7(r:Hb):Bool:=
 WL r.Rates.length 1 64&&MW r.Rates&&WL r.Transit 0 65536&&WL r.Loss 0 10000&&WL r.Share 0 1000&&Hg (-1) r.Rates
def Gk(l:List Zx)(day:Int):Int:=l.foldl (λown x=>if x.From<=day then x.Rate else own) 0
def U6(r:Hb)(amount day:Int):Int:=amount*Gk r.Rates day / 1000
def Dk(n:Int):Bool:=WL n 0 15
def XR(x:Ev):Bool:=
 WL x.Day 0 65536&&
 (if x.Kind==0||x.Kind==3||x.Kind==4 then Dk x.Bond&&WL x.Amount 1 17179869184
  else if x.Kind==1 then Dk x.Bond&&Dk x.To&&WL x.Id 0 1073741824&&WL x.Amount 1 17179869184
  else if x.Kind==2 then Dk x.Bond&&WL x.Id 0 1073741824&&WL x.Amount 0 17179869184
  else if x.Kind==5 then Dk x.Bond&&WL x.Amount 0 17179869184
  else if x.Kind==6 then WL x.Amount 1 72057594037927936 else false)
def ZH(r:Hb)(p:QE):Int:=p.Sent+r.Transit+1
def YO(f:QE->Int):List QE->Int
 | []=>0
 | p::l=>f p+YO f l
def WV(r:Hb)(t d:Int)(s:Acc):Acc:=
 {s with
  B:={s.B with
   Moving:=s.B.Moving.filter (λp=>decide (d < ZH r p)),
   Used:=s.B.Used+YO QE.Amount (s.B.Moving.filter (λp=> !decide (d < ZH r p))),
   Due:=s.B.Due+YO (λp=>U6 r p.Amount (ZH r p)) (s.B.Moving.filter (λp=> !decide (d < ZH r p)))},
  Sums:=λi=>if i < 16 then s.Sums i+s.B.Bonds i*(d - t) else s.Sums i}
def De(r:Hb)(day lost allowed:Int)(s:Acc):Acc:=
 {s with B:={s.B with Lost:=s.B.Lost+JT lost allowed,Charged:=s.B.Charged+(lost - JT lost allowed),Due:=s.B.Due+U6 r (lost - JT lost allowed) day}}
def UE(s:Acc)(x:Ev)(n:Int):Acc:={s with B:={s.B with Bonds:=ZI s.B.Bonds x.Bond.toNat n}}
def N0(r:Hb)(amount day:Int)(s:Acc):Acc:={s with B:={s.B with Used:=s.B.Used+amount,Due:=s.B.Due+U6 r amount day}}
def Zo(s:Acc)(x:Ev):Int:=s.B.Bonds x.Bond.toNat
def DD(p:QE):List QE->List QE
 | []=>[p]
 | q::l=>if q.Id < p.Id then q::DD p l else p::q::l
def Eh(x:Ev):QE:=⟨x.Id,x.Bond,x.To,x.Day,x.Amount⟩
def CF(s:Acc)(x:Ev):Acc ⊕ Int:=
 if Zo s x+x.Amount > 17179869184 then .inr 12 else .inl {UE s x (Zo s x+x.Amount) with B:={(UE s x (Zo s x+x.Amount)).B with Made:=s.B.Made+x.Amount}}
def R8(s:Acc)(x:Ev):Acc ⊕ Int:=
 if x.Bond==x.To then .inr 11 else if s.Ids.contains x.Id then .inr 5 else if Zo s x < x.Amount then .inr 10
 else .inl {UE s x (Zo s x - x.Amount) with B:={(UE s x (Zo s x - x.Amount)).B with Moving:=DD (Eh x) s.B.Moving},Ids:=s.Ids++[x.Id]}
def Li(r:Hb)(s:Acc)(x:Ev)(p:QE):Acc:=
 De r x.Day (imax 0 (p.Amount - x.Amount)) (p.Amount*r.Loss / 10000)
  {UE s x (Zo s x+x.Amount) with B:={(UE s x (Zo s x+x.Amount)).B with Moving:=s.B.Moving.filter (λq=> !(q.Id==x.Id)),Found:=s.B.Found+imax 0 (x.Amount - p.Amount)}}
def D8(r:Hb)(s:Acc)(x:Ev):Acc ⊕ Int:=
 match s.B.Moving.find? (λq=>q.Id==x.Id) with
 | none=>.inr 4
 | some p=>if p.To != x.Bond then .inr 11 else if Zo s x+x.Amount > 17179869184 then .inr 12 else .inl (Li r s x p)
def FJ(r:Hb)(s:Acc)(x:Ev):Acc ⊕ Int:=
 if Zo s x < x.Amount then .inr 10 else .inl (N0 r x.Amount x.Day (UE s x (Zo s x - x.Amount)))
def CE(s:Acc)(x:Ev):Acc ⊕ Int:=
 if Zo s x < x.Amount then .inr 10 else .inl {UE s x (Zo s x - x.Amount) with B:={(UE s x (Zo s x - x.Amount)).B with Exported:=s.B.Exported+x.Amount}}
def Ao(r:Hb)(s:Acc)(x:Ev):Acc:=
 De r x.Day (imax 0 (Zo s x - x.Amount)) (s.Sums x.Bond.toNat*r.Share / 3650000)
  {UE s x x.Amount with B:={(UE s x x.Amount).B with Found:=s.B.Found+imax 0 (x.Amount - Zo s x)},Sums:=ZI s.Sums x.Bond.toNat 0}
def Ib(s:Acc)(x:Ev):Acc ⊕ Int:=
 if x.Amount > s.B.Due - s.B.Paid then .inr 11 else .inl {s with B:={s.B with Paid:=s.B.Paid+x.Amount}}
def FX(r:Hb)(s:Acc)(x:Ev):Acc ⊕ Int:=
 if x.Kind==0 then CF s x else if x.Kind==1 then R8 s x else if x.Kind==2 then D8 r s x else if x.Kind==3 then FJ r s x
 else if x.Kind==4 then CE s x else if x.Kind==5 then .inl (Ao r s x) else if x.Kind==6 then Ib s x else .inl s
structure TP where
 acc:Acc
 day:Int
def Wz(r:Hb)(s:TP)(x:Ev):TP ⊕ Int:=
 if !XR x then .inr 1 else if x.Day < s.day then .inr 7
 else match FX r (WV r s.day x.Day s.acc) x with
  | .inl a=>.inl ⟨a,x.Day⟩
  | .inr e=>.inr e
def Po(r:Hb)(day:Int):List Ev->Nat->TP->(TP ⊕ Int)×Nat
 | [],n,s=>(.inl s,n)
 | x::l,n,s=>if x.Day<=day then match Wz r s x with
   | .inl s' =>Po r day l (n+1) s'
   | .inr e=>(.inr e,n)
  else(.inl s,n)
def Dz:Acc:=⟨⟨zN,[],0,0,0,0,0,0,0,0⟩,[],zN⟩
def Mf:TP:=⟨Dz,0⟩
def EX(r:Hb)(day:Int)(l:List Ev)(n:Nat)(s:TP):(Acc ⊕ Int)×Nat:=match Po r day l n s with
 | (.inl s',k)=>(.inl (WV r s'.day day s'.acc),k)
 | (.inr e,k)=>(.inr e,k)
def Ws(r:Hb)(l:List Ev)(day:Int):(Acc ⊕ Int)×Nat:=
 if !H7 r then(.inr 1,0) else if l.length > 4096 then(.inr 3,0) else if !WL day 0 65536 then(.inr 2,0) else EX r day l 0 Mf
theorem YN{n a b:Int}:WL n a b=true↔a<=n/\n<=b:=by simp[WL]
theorem Ug{f:Nat->Int}{j:Nat}{v:Int}:ZI f j v j=v:=by simp[ZI]
theorem Wn{f:Nat->Int}{j k:Nat}{v:Int}(h:k≠j):ZI f j v k=f k:=by
 unfold ZI
 have:Nat.beq k j=false:=by
  cases hb:Nat.beq k j with
  | false=>rfl
  | true=>exact absurd (Nat.eq_of_beq_eq_true hb) h
 rw[this]
def Tn(f:Nat->Int):Nat->Int
 | 0=>0
 | n+1=>Tn f n+f n
theorem SJ{f:Nat->Int}{j:Nat}{v:Int}:∀{n:Nat},n<=j->Tn (ZI f j v) n=Tn f n
 | 0,_=>rfl
 | n+1,h=>by simp only[Tn];rw[SJ (by omega),Wn (by omega)]
theorem H2{f:Nat->Int}{j:Nat}{v:Int}:∀{n:Nat},j < n->Tn (ZI f j v) n=Tn f n+v - f j
 | n+1,h=>by
  simp only[Tn];by_cases e:n=j
  ·subst e;rw[SJ (Nat.le_refl _),Ug];omega
  ·rw[H2 (by omega),Wn e];omega
theorem M2{f:Nat->Int}:∀{n:Nat},(∀i,i < n->0<=f i)->0<=Tn f n
 | 0,_=>Int.le_refl _
 | n+1,h=>by have:=M2 (n:=n) (λi hi=>h i (by omega));have:=h n (by omega);simp only[Tn];omega
theorem H4{f:QE->Int}:∀{l:List QE},(∀p∈l,0<=f p)->0<=YO f l
 | [],_=>Int.le_refl _
 | p::l,h=>by have:=H4 (l:=l) (λq hq=>h q (List.mem_cons_of_mem _ hq));have:=h p (List.mem_cons_self ..);simp only[YO];omega
theorem N2{f g:QE->Int}:∀{l:List QE},(∀p∈l,f p<=g p)->YO f l<=YO g l
 | [],_=>Int.le_refl _
 | p::l,h=>by have:=N2 (l:=l) (λq hq=>h q (List.mem_cons_of_mem _ hq));have:=h p (List.mem_cons_self ..);simp only[YO];omega
theorem Tr{f:QE->Int}{k:Int}:∀{l:List QE},YO (λp=>k*f p) l=k*YO f l
 | []=>by simp[YO]
 | p::l=>by simp only[YO,Tr (l:=l),Int.mul_add]
theorem H3{f:QE->Int}{c:QE->Bool}:∀{l:List QE},YO f (l.filter c)+YO f (l.filter (λp=> !c p))=YO f l
 | []=>rfl
 | p::l=>by
  have:=H3 (f:=f) (c:=c) (l:=l);cases h:c p<;>simp only[List.filter_cons,h,Bool.not_true,Bool.not_false,if_true,Bool.false_eq_true,if_false,YO]<;>omega
theorem FD{f:QE->Int}{l k:List QE}(h:l.Perm k):YO f l=YO f k:=by
 induction h with
 | nil=>rfl
 | cons x _ ih=>simp only[YO,ih]
 | swap x y l=>simp only[YO];omega
 | trans _ _ h1 h2=>exact h1.trans h2
structure Yy(r:Hb):Prop where
 rates:∀x∈r.Rates,0<=x.From/\x.From<=65536/\0<=x.Rate/\x.Rate<=1048576
 sorted:r.Rates.Pairwise (λx y=>x.From < y.From)
 first:∃x l,r.Rates=x::l/\x.From=0
 len:r.Rates.length<=64
 transit:0<=r.Transit/\r.Transit<=65536
 loss:0<=r.Loss/\r.Loss<=10000
 share:0<=r.Share/\r.Share<=1000
theorem Av:∀{last:Int} {l:List Zx},Hg last l=true↔(∀x∈l,0<=x.From/\x.From<=65536/\0<=x.Rate/\x.Rate<=1048576)/\l.Pairwise (λx y=>x.From < y.From)/\∀x∈l,last < x.From
 | last,[]=>by simp[Hg]
 | last,x::l=>by
  simp only[Hg,Bool.and_eq_true,YN,decide_eq_true_eq,Av (last:=x.From) (l:=l),List.pairwise_cons,List.forall_mem_cons];constructor
  ·rintro⟨⟨⟨h1,h2⟩,h3⟩,h4,h5,h6⟩;exact⟨⟨⟨h1.1,h1.2,h3.1,h3.2⟩,h4⟩,⟨h6,h5⟩,h2,λy hy=>by have:=h6 y hy;omega⟩
  ·rintro⟨⟨⟨h1,h2,h3,h4⟩,h5⟩,⟨h6,h7⟩,h8,_⟩;exact⟨⟨⟨⟨h1,h2⟩,h8⟩,h3,h4⟩,h5,h7,h6⟩
theorem S3{r:Hb}:H7 r=true↔Yy r:=by
 unfold H7;simp only[Bool.and_eq_true,YN,Av];constructor
 ·rintro⟨⟨⟨⟨⟨h1,h2⟩,h3⟩,h4⟩,h5⟩,h6,h7,h8⟩;refine⟨h6,h7,?_,by omega,h3,h4,h5⟩;cases e:r.Rates with
  | nil=>rw[e] at h2;cases h2
  | cons x l=>rw[e] at h2;exact⟨x,l,rfl,by simpa[MW] using h2⟩
 ·intro h;obtain⟨x,l,e,e0⟩:=h.first;refine⟨⟨⟨⟨⟨⟨?_,?_⟩,?_⟩,h.transit⟩,h.loss⟩,h.share⟩,h.rates,h.sorted,λy hy=> ?_⟩
  ·rw[e];simp;omega
  ·have:=h.len;omega
  ·rw[e];simp[MW,e0]
  ·have:=(h.rates y hy).1;omega
theorem LK{l:List Zx}{day:Int}(h:∀x∈l,0<=x.Rate/\x.Rate<=1048576):0<=Gk l day/\Gk l day<=1048576:=by
 have:∀(l:List Zx) (a:Int),(∀x∈l,0<=x.Rate/\x.Rate<=1048576)->0<=a/\a<=1048576->0<=l.foldl (λown x=>if x.From<=day then x.Rate else own) a/\l.foldl (λown x=>if x.From<=day then x.Rate else own) a<=1048576:=by
  intro l
  induction l with
  | nil=>intro a _ h;exact h
  | cons x l ih=>
   intro a hl ha;refine ih _ (λy hy=>hl y (List.mem_cons_of_mem _ hy)) ?_;have:=hl x (List.mem_cons_self ..);show 0<=(if x.From<=day then x.Rate else a)/\(if x.From<=day then x.Rate else a)<=1048576;split
   ·exact this
   ·exact ha
 exact this l 0 h (by omega)
theorem Yy.bT{r:Hb}(h:Yy r)(day:Int):0<=Gk r.Rates day/\Gk r.Rates day<=1048576:=LK λx hx=>⟨(h.rates x hx).2.2.1,(h.rates x hx).2.2.2⟩
theorem Yy.xm{r:Hb}(h:Yy r){a d:Int}(ha:0<=a):0<=U6 r a d/\U6 r a d<=1049*a:=by
 have h1:=h.bT d;unfold U6;have h2:0<=a*Gk r.Rates d:=Int.mul_nonneg ha h1.1;have h3:a*Gk r.Rates d<=a*1048576:=Int.mul_le_mul_of_nonneg_left h1.2 ha;constructor<;>omega
theorem Yy.fo{r:Hb}(h:Yy r){a d:Int}(ha:0<=a)(hb:a<=17179869184):0<=a*Gk r.Rates d/\a*Gk r.Rates d<=18014398509481984:=by
 have h1:=h.bT d;have h3:a*Gk r.Rates d<=a*1048576:=Int.mul_le_mul_of_nonneg_left h1.2 ha;exact⟨Int.mul_nonneg ha h1.1,by omega⟩
end
section
open Go.Dec
structure ue(r:Hb)(t:Int)(p:QE):Prop where
 amount:1<=p.Amount/\p.Amount<=17179869184
 id:0<=p.Id/\p.Id<=1073741824
 fro:0<=p.From/\p.From<=15
 tow:0<=p.To/\p.To<=15
 ne:p.From≠p.To
 sent:0<=p.Sent/\p.Sent<=t
 late:t < ZH r p
structure Xy(r:Hb)(n:Nat)(t:Int)(s:Acc):Prop where
 bonds:∀i,i < 16->0<=s.B.Bonds i/\s.B.Bonds i<=17179869184
 sums:∀i,i < 16->0<=s.Sums i/\s.Sums i<=t*17179869184
 sorted:s.B.Moving.Pairwise (λp q=>p.Id < q.Id)
 mov:∀p∈s.B.Moving,ue r t p
 known:∀p∈s.B.Moving,p.Id∈s.Ids
 ids:∀i∈s.Ids,0<=i/\i<=1073741824
 mlen:s.B.Moving.length<=n
 ilen:s.Ids.length<=n
 pos:0<=s.B.Made/\0<=s.B.Found/\0<=s.B.Used/\0<=s.B.Exported/\0<=s.B.Lost/\0<=s.B.Charged/\0<=s.B.Paid/\s.B.Paid<=s.B.Due
 made:s.B.Made+s.B.Found<=n*17179869184
 whole:s.B.Used+s.B.Exported+s.B.Lost+s.B.Charged+Tn s.B.Bonds 16+YO QE.Amount s.B.Moving=s.B.Made+s.B.Found
 due:s.B.Due<=1049*(s.B.Used+s.B.Charged)
 out:∀i,16<=i->s.B.Bonds i=0
variable{r:Hb}{n:Nat}{t d:Int}{s:Acc}{x:Ev}{p:QE}
theorem Mk(r:Hb):Xy r 0 0 Dz where
 bonds:=λi _=>by simp[Dz]
 sums:=λi _=>by simp[Dz]
 sorted:=List.Pairwise.nil
 mov:=λ_ h=>by cases h
 known:=λ_ h=>by cases h
 ids:=λ_ h=>by cases h
 mlen:=Nat.le_refl _
 ilen:=Nat.le_refl _
 pos:=by simp[Dz]
 made:=by simp[Dz]
 whole:=by simp[Dz,Tn,YO]
 due:=by simp[Dz]
 out:=λi _=>rfl
theorem Xy.lim(h:Xy r n t s):s.B.Used<=n*17179869184/\s.B.Exported<=n*17179869184/\s.B.Lost<=n*17179869184/\s.B.Charged<=n*17179869184/\s.B.Used+s.B.Charged+YO QE.Amount s.B.Moving<=n*17179869184/\s.B.Made<=n*17179869184/\s.B.Found<=n*17179869184/\0<=YO QE.Amount s.B.Moving:=by
 have h1:=h.pos;have h2:=h.made;have h3:=h.whole;have h4:=M2 (n:=16) (λi hi=>(h.bonds i hi).1);have h5:0<=YO QE.Amount s.B.Moving:=H4 λp hp=>by have:=(h.mov p hp).amount.1;omega
 refine⟨?_,?_,?_,?_,?_,?_,?_,?_⟩<;>omega
theorem MF(hr:Yy r)(h:Xy r n t s)(le:t<=d):Xy r n d (WV r t d s) where
 bonds:=h.bonds
 sums:=λi hi=>by
  have h1:=h.sums i hi;have h2:=h.bonds i hi;simp only[WV,hi,if_true];have h3:0<=s.B.Bonds i*(d - t):=Int.mul_nonneg h2.1 (by omega);have h4:s.B.Bonds i*(d - t)<=17179869184*(d - t):=Int.mul_le_mul_of_nonneg_right h2.2 (by omega);constructor
  ·omega
  ·omega
 sorted:=h.sorted.filter _
 mov:=λp hp=>by
  have h1:=List.mem_filter.1 hp;have h2:=h.mov p h1.1;exact⟨h2.amount,h2.id,h2.fro,h2.tow,h2.ne,⟨h2.sent.1,by have:=h2.sent.2;omega⟩,by simpa using h1.2⟩
 known:=λp hp=>h.known p (List.mem_filter.1 hp).1
 ids:=h.ids
 mlen:=Nat.le_trans (List.length_filter_le _ _) h.mlen
 ilen:=h.ilen
 pos:=by
  have h1:=h.pos;have h2:0<=YO QE.Amount (s.B.Moving.filter (λp=> !decide (d < ZH r p))):=H4 λp hp=>by have:=(h.mov p (List.mem_filter.1 hp).1).amount.1;omega
  have h3:0<=YO (λp=>U6 r p.Amount (ZH r p)) (s.B.Moving.filter (λp=> !decide (d < ZH r p))):=H4 λp hp=>by have:=(h.mov p (List.mem_filter.1 hp).1).amount.1;exact(hr.xm (by omega)).1
  simp only[WV];refine⟨?_,?_,?_,?_,?_,?_,?_,?_⟩<;>omega
 made:=h.made
 whole:=by
  have h1:=h.whole;have h2:=H3 (f:=QE.Amount) (c:=λp=>decide (d < ZH r p)) (l:=s.B.Moving);simp only[WV];omega
 due:=by
  have h1:=h.due;have h3:YO (λp=>U6 r p.Amount (ZH r p)) (s.B.Moving.filter (λp=> !decide (d < ZH r p)))<=YO (λp=>1049*p.Amount) (s.B.Moving.filter (λp=> !decide (d < ZH r p))):=N2 λp hp=>by have:=(h.mov p (List.mem_filter.1 hp).1).amount.1;exact(hr.xm (by omega)).2
  rw[Tr] at h3
  simp only[WV];omega
 out:=h.out
theorem Ic{u:Int}(h2:u<=d):WV r u d (WV r t u s)=WV r t d s:=by
 have e1:(s.B.Moving.filter (λp=>decide (u < ZH r p))).filter (λp=>decide (d < ZH r p))=s.B.Moving.filter (λp=>decide (d < ZH r p)):=by
  rw[List.filter_filter];refine List.filter_congr λp _=> ?_;by_cases h:d < ZH r p
  ·simp[h];omega
  ·simp[h]
 have e2 (f:QE->Int):YO f (s.B.Moving.filter (λp=> !decide (u < ZH r p)))+YO f ((s.B.Moving.filter (λp=>decide (u < ZH r p))).filter (λp=> !decide (d < ZH r p)))=YO f (s.B.Moving.filter (λp=> !decide (d < ZH r p))):=by
  have:=H3 (f:=f) (c:=λp=>decide (u < ZH r p)) (l:=s.B.Moving.filter (λp=> !decide (d < ZH r p)));rw[List.filter_filter,List.filter_filter] at this
  rw[List.filter_filter,<-this]
  have a1:s.B.Moving.filter (λp=> !decide (u < ZH r p))=s.B.Moving.filter (λp=>(!decide (u < ZH r p))&& !decide (d < ZH r p)):=List.filter_congr λp _=>by
   by_cases h:u < ZH r p
   ·simp[h]
   ·simp[h];omega
  have a2:s.B.Moving.filter (λp=>(!decide (d < ZH r p))&&decide (u < ZH r p))=s.B.Moving.filter (λp=>decide (u < ZH r p)&& !decide (d < ZH r p)):=List.filter_congr λp _=>Bool.and_comm _ _;rw[<-a1,a2];omega
 have e3:(λi=>if i < 16 then(if i < 16 then s.Sums i+s.B.Bonds i*(u - t) else s.Sums i)+s.B.Bonds i*(d - u) else(if i < 16 then s.Sums i+s.B.Bonds i*(u - t) else s.Sums i))=(λi=>if i < 16 then s.Sums i+s.B.Bonds i*(d - t) else s.Sums i):=by
  funext i;by_cases h:i < 16
  ·simp only[h,if_true];have:s.B.Bonds i*(d - t)=s.B.Bonds i*(u - t)+s.B.Bonds i*(d - u):=by rw[<-Int.mul_add];congr 1;omega
   omega
  ·simp only[h,if_false]
 have e4:=e2 QE.Amount;have e5:=e2 (λp=>U6 r p.Amount (ZH r p));simp only[WV,e1];rw[e3,Int.add_assoc,e4,Int.add_assoc,e5]
theorem zm(h:XR x=true):0<=x.Day/\x.Day<=65536:=by
 unfold XR at h;simp only[Bool.and_eq_true,YN] at h;exact h.1
theorem FT(h:XR x=true)(hk:x.Kind=0∨x.Kind=3∨x.Kind=4):(0<=x.Bond/\x.Bond<=15)/\1<=x.Amount/\x.Amount<=17179869184:=by
 unfold XR at h
 have:(x.Kind==0||x.Kind==3||x.Kind==4)=true:=by rcases hk with e | e | e<;>simp[e]
 rw[this] at h
 simpa[YN,Dk] using(Bool.and_eq_true_iff.1 h).2
theorem Ov(h:XR x=true)(hk:x.Kind=1):(0<=x.Bond/\x.Bond<=15)/\(0<=x.To/\x.To<=15)/\(0<=x.Id/\x.Id<=1073741824)/\1<=x.Amount/\x.Amount<=17179869184:=by
 unfold XR at h
 simp only[hk] at h
 simpa[YN,Dk,and_assoc] using(Bool.and_eq_true_iff.1 h).2
theorem Pr(h:XR x=true)(hk:x.Kind=2):(0<=x.Bond/\x.Bond<=15)/\(0<=x.Id/\x.Id<=1073741824)/\0<=x.Amount/\x.Amount<=17179869184:=by
 unfold XR at h
 simp only[hk] at h
 simpa[YN,Dk,and_assoc] using(Bool.and_eq_true_iff.1 h).2
theorem Ou(h:XR x=true)(hk:x.Kind=5):(0<=x.Bond/\x.Bond<=15)/\0<=x.Amount/\x.Amount<=17179869184:=by
 unfold XR at h
 simp only[hk] at h
 simpa[YN,Dk,and_assoc] using(Bool.and_eq_true_iff.1 h).2
theorem zl(h:XR x=true)(hk:x.Kind=6):1<=x.Amount/\x.Amount<=72057594037927936:=by
 unfold XR at h
 simp only[hk] at h
 simpa[YN,Dk,and_assoc] using(Bool.and_eq_true_iff.1 h).2
theorem Lr(h:XR x=true):x.Kind=0∨x.Kind=1∨x.Kind=2∨x.Kind=3∨x.Kind=4∨x.Kind=5∨x.Kind=6:=by
 unfold XR at h
 have h2:=(Bool.and_eq_true_iff.1 h).2;by_cases h0:x.Kind=0
 ·exact .inl h0
 by_cases h1:x.Kind=1
 ·exact .inr (.inl h1)
 by_cases h3:x.Kind=2
 ·exact .inr (.inr (.inl h3))
 by_cases h4:x.Kind=3
 ·exact .inr (.inr (.inr (.inl h4)))
 by_cases h5:x.Kind=4
 ·exact .inr (.inr (.inr (.inr (.inl h5))))
 by_cases h6:x.Kind=5
 ·exact .inr (.inr (.inr (.inr (.inr (.inl h6)))))
 by_cases h7:x.Kind=6
 ·exact .inr (.inr (.inr (.inr (.inr (.inr h7)))))
 ·simp[h0,h1,h3,h4,h5,h6,h7] at h2
theorem BI{q:QE}:∀{l:List QE},(DD q l).Perm (q::l)
 | []=>.refl _
 | y::l=>by
  simp only[DD];split
  ·exact(BI.cons y).trans (.swap _ _ _)
  ·exact .refl _
theorem MR{q y:QE}{l:List QE}:y∈DD q l↔y=q∨y∈l:=by
 rw[BI.mem_iff,List.mem_cons]
theorem GF{q:QE}:∀{l:List QE},l.Pairwise (λp q=>p.Id < q.Id)->(∀p∈l,p.Id≠q.Id)->(DD q l).Pairwise (λp q=>p.Id < q.Id)
 | [],_,_=>by simp[DD]
 | y::l,h,hn=>by
  have hy:=List.pairwise_cons.1 h;simp only[DD];split
  ·rename_i hlt;refine List.pairwise_cons.2 ⟨λa ha=> ?_,GF hy.2 λp hp=>hn p (List.mem_cons_of_mem _ hp)⟩;rcases MR.1 ha with rfl | ha
   ·exact hlt
   ·exact hy.1 a ha
  ·rename_i hlt;have:=hn y (List.mem_cons_self ..);refine List.pairwise_cons.2 ⟨λa ha=> ?_,h⟩;rcases List.mem_cons.1 ha with rfl | ha
   ·omega
   ·have:=hy.1 a ha;omega
theorem jL{l:List QE}(h:l.Pairwise (λp q=>p.Id < q.Id)){p q:QE}(hp:p∈l)(hq:q∈l)(e:p.Id=q.Id):p=q:=by
 induction l with
 | nil=>cases hp
 | cons y l ih=>
  have hy:=List.pairwise_cons.1 h;rcases List.mem_cons.1 hp with rfl | hp1<;>rcases List.mem_cons.1 hq with rfl | hq1
  ·rfl
  ·have:=hy.1 q hq1;omega
  ·have:=hy.1 p hp1;omega
  ·exact ih hy.2 hp1 hq1
theorem LS{l:List QE}{i:Int}{p:QE}(h:l.Pairwise (λp q=>p.Id < q.Id))(hf:l.find? (λq=>q.Id==i)=some p):p∈l/\p.Id=i/\l.Perm (p::l.filter (λq=> !(q.Id==i))):=by
 have hm:=List.mem_of_find?_eq_some hf;have hi:p.Id=i:=by simpa using List.find?_some hf
 refine⟨hm,hi,?_⟩
 induction l with
 | nil=>cases hm
 | cons y l ih=>
  have hy:=List.pairwise_cons.1 h;rw[List.find?_cons] at hf
  by_cases e:y.Id=i
  ·have:(y.Id==i)=true:=by simpa using e
   rw[this] at hf;simp only[Option.some.injEq] at hf;subst hf
   have:l.filter (λq=> !(q.Id==i))=l:=List.filter_eq_self.2 λq hq=>by have:=hy.1 q hq;simp;omega
   rw[List.filter_cons,this];simp[e]
  ·have e' :(y.Id==i)=false:=by simpa using e
   rw[e'] at hf
   have hm' :=List.mem_of_find?_eq_some hf;rw[List.filter_cons,e'];simp only[Bool.not_false,if_true];exact((ih hy.2 hf hm').cons y).trans (.swap _ _ _)
end
section
open Go.Dec
variable{r:Hb}{n:Nat}{t d:Int}{s s' :Acc}{x:Ev}{p:QE}
theorem Xx{f:Nat->Int}{j:Nat}{v M:Int}(h:∀i,i < 16->0<=f i/\f i<=M)(hv:0<=v/\v<=M):∀i,i < 16->0<=ZI f j v i/\ZI f j v i<=M:=λi hi=>by
 by_cases e:i=j
 ·subst e;rw[Ug];exact hv
 ·rw[Wn e];exact h i hi
theorem Bz{f:Nat->Int}{j:Nat}{v:Int}(h:∀i,16<=i->f i=0)(hj:j < 16):∀i,16<=i->ZI f j v i=0:=λi hi=>by
 rw[Wn (by omega)];exact h i hi
theorem Gs(h:0<=x.Bond/\x.Bond<=15):x.Bond.toNat < 16:=by omega
theorem AH{a b:Int}:(JT a b=a/\a<=b)∨(JT a b=b/\b<=a):=by unfold JT;split<;>omega
theorem Hw{a b:Int}:(imax a b=a/\b<=a)∨(imax a b=b/\a<=b):=by unfold imax;split<;>omega
theorem I2(h:Xy r n t s)(hb:0<=x.Bond/\x.Bond<=15)(ha:1<=x.Amount/\x.Amount<=17179869184)(hd:CF s x= .inl s'):Xy r (n+1) t s' :=by
 unfold CF at hd
 split at hd
 ·cases hd
 ·rename_i hlim;simp only[Sum.inl.injEq] at hd
  subst hd;have hj:=Gs hb;have h0:=h.bonds _ hj;have hs:=H2 (f:=s.B.Bonds) (v:=Zo s x+x.Amount) hj;unfold Zo at hlim hs
  have hp:=h.pos;have hm:=h.made;have hw:=h.whole;have hdu:=h.due;have h1:=h.mlen;have h2:=h.ilen
  exact{
   bonds:=Xx h.bonds (by unfold Zo;omega),sums:=h.sums,sorted:=h.sorted,mov:=h.mov,known:=h.known,ids:=h.ids
   mlen:=by show s.B.Moving.length<=_;omega
   ilen:=by show s.Ids.length<=_;omega
   pos:=by simp only[UE];omega
   made:=by simp only[UE];omega
   whole:=by simp only[UE,Zo];omega
   due:=hdu
   out:=Bz h.out hj}
theorem kj(h:Xy r n t s)(hb:0<=x.Bond/\x.Bond<=15)(hto:0<=x.To/\x.To<=15)(hid:0<=x.Id/\x.Id<=1073741824)(ha:1<=x.Amount/\x.Amount<=17179869184)(hr:Yy r)(hday:x.Day=t)(h0t:0<=t)(hd:R8 s x= .inl s'):Xy r (n+1) t s' :=by
 unfold R8 at hd
 split at hd
 ·cases hd
 ·rename_i hne;split at hd
  ·cases hd
  ·rename_i hid';split at hd
   ·cases hd
   ·rename_i hlim;simp only[Sum.inl.injEq] at hd
    subst hd;have hne' :x.Bond≠x.To:=by simpa using hne
    have hnew:x.Id∉s.Ids:=by simpa using hid'
    have hj:=Gs hb;have h0:=h.bonds _ hj;have hs:=H2 (f:=s.B.Bonds) (v:=Zo s x - x.Amount) hj;unfold Zo at hlim hs
    have hp:=h.pos;have hm:=h.made;have hw:=h.whole;have hdu:=h.due;have h1:=h.mlen;have h2:=h.ilen;have hf:YO QE.Amount (DD (Eh x) s.B.Moving)=x.Amount+YO QE.Amount s.B.Moving:=(FD BI).trans rfl;have hl:(DD (Eh x) s.B.Moving).length=s.B.Moving.length+1:=BI.length_eq;have ht:=hr.transit
    exact{
     bonds:=Xx h.bonds (by unfold Zo;omega),sums:=h.sums
     sorted:=GF h.sorted λp hp e=>hnew (by have:=h.known p hp;rw[e] at this;exact this)
     mov:=λp hp=>by
      rcases MR.1 hp with rfl | hp
      ·exact⟨ha,hid,hb,hto,hne',⟨by show 0<=x.Day;omega,by show x.Day<=t;omega⟩,by show t < x.Day+r.Transit+1;omega⟩
      ·exact h.mov p hp
     known:=λp hp=>by
      show p.Id∈s.Ids++[x.Id];rcases MR.1 hp with rfl | hp
      ·simp[Eh]
      ·exact List.mem_append_left _ (h.known p hp)
     ids:=λi hi=>by
      have hi:i∈s.Ids++[x.Id]:=hi;rcases List.mem_append.1 hi with hi | hi
      ·exact h.ids i hi
      ·simp only[List.mem_singleton] at hi;subst hi;exact hid
     mlen:=by simp only;omega
     ilen:=by simp only[List.length_append,List.length_singleton];omega
     pos:=by simp only[UE];omega
     made:=by simp only[UE];omega
     whole:=by simp only[UE,Zo];omega
     due:=hdu
     out:=Bz h.out hj}
theorem yU(h:Xy r n t s)(hb:0<=x.Bond/\x.Bond<=15)(ha:0<=x.Amount/\x.Amount<=17179869184)(hr:Yy r)(hp:s.B.Moving.find? (λq=>q.Id==x.Id)=some p)(hlim:¬Zo s x+x.Amount > 17179869184):Xy r (n+1) t (Li r s x p):=by
 obtain⟨hmem,hid,hperm⟩:=LS h.sorted hp;have hpk:=h.mov p hmem;have hj:=Gs hb;have h0:=h.bonds _ hj;have hs:=H2 (f:=s.B.Bonds) (v:=Zo s x+x.Amount) hj;unfold Zo at hlim hs
 have hpo:=h.pos;have hm:=h.made;have hw:=h.whole;have hdu:=h.due;have h1:=h.mlen;have h2:=h.ilen;have hf:YO QE.Amount s.B.Moving=p.Amount+YO QE.Amount (s.B.Moving.filter (λq=> !(q.Id==x.Id))):=(FD hperm).trans rfl;have hal:0<=p.Amount*r.Loss / 10000:=Int.ediv_nonneg (Int.mul_nonneg (by have:=hpk.amount;omega) hr.loss.1) (by omega);have e1:=Hw (a:=0) (b:=p.Amount - x.Amount);have e2:=Hw (a:=0) (b:=x.Amount - p.Amount);have e3:=AH (a:=imax 0 (p.Amount - x.Amount)) (b:=p.Amount*r.Loss / 10000);have hpa:=hpk.amount;have hdt:=hr.xm (a:=imax 0 (p.Amount - x.Amount) - JT (imax 0 (p.Amount - x.Amount)) (p.Amount*r.Loss / 10000)) (d:=x.Day) (by omega)
 exact{
  bonds:=Xx h.bonds (by unfold Zo;omega),sums:=h.sums
  sorted:=h.sorted.filter _
  mov:=λp hp=>h.mov p (List.mem_filter.1 hp).1
  known:=λp hp=>h.known p (List.mem_filter.1 hp).1
  ids:=h.ids
  mlen:=by
   have:=List.length_filter_le (λq:QE=> !(q.Id==x.Id)) s.B.Moving;simp only[Li,De,UE];omega
  ilen:=by show s.Ids.length<=_;omega
  pos:=by simp only[Li,De,UE];omega
  made:=by simp only[Li,De,UE];omega
  whole:=by simp only[Li,De,UE,Zo];omega
  due:=by simp only[Li,De,UE];omega
  out:=Bz h.out hj}
theorem kc(h:Xy r n t s)(hb:0<=x.Bond/\x.Bond<=15)(ha:0<=x.Amount/\x.Amount<=17179869184)(hr:Yy r)(h0t:0<=t):Xy r (n+1) t (Ao r s x):=by
 have hj:=Gs hb;have h0:=h.bonds _ hj;have hs:=H2 (f:=s.B.Bonds) (v:=x.Amount) hj;have hpo:=h.pos;have hm:=h.made;have hw:=h.whole;have hdu:=h.due;have h1:=h.mlen;have h2:=h.ilen;have hal:0<=s.Sums x.Bond.toNat*r.Share / 3650000:=Int.ediv_nonneg (Int.mul_nonneg (h.sums _ hj).1 hr.share.1) (by omega);have e1:=Hw (a:=0) (b:=Zo s x - x.Amount);have e2:=Hw (a:=0) (b:=x.Amount - Zo s x);have e3:=AH (a:=imax 0 (Zo s x - x.Amount)) (b:=s.Sums x.Bond.toNat*r.Share / 3650000);have hdt:=hr.xm (a:=imax 0 (Zo s x - x.Amount) - JT (imax 0 (Zo s x - x.Amount)) (s.Sums x.Bond.toNat*r.Share / 3650000)) (d:=x.Day) (by omega);have hh:Zo s x=s.B.Bonds x.Bond.toNat:=rfl
 exact{
  bonds:=Xx h.bonds (by omega)
  sums:=Xx h.sums ⟨Int.le_refl _,Int.mul_nonneg h0t (by omega)⟩
  sorted:=h.sorted
  mov:=h.mov
  known:=h.known
  ids:=h.ids
  mlen:=by show s.B.Moving.length<=_;omega
  ilen:=by show s.Ids.length<=_;omega
  pos:=by simp only[Ao,De,UE];omega
  made:=by simp only[Ao,De,UE];omega
  whole:=by simp only[Ao,De,UE];omega
  due:=by simp only[Ao,De,UE];omega
  out:=Bz h.out hj}
theorem Ea(h:Xy r n t s)(hb:0<=x.Bond/\x.Bond<=15)(ha:1<=x.Amount/\x.Amount<=17179869184)(hr:Yy r)(hd:FJ r s x= .inl s'):Xy r (n+1) t s' :=by
 unfold FJ at hd
 split at hd
 ·cases hd
 ·rename_i hlim;simp only[Sum.inl.injEq] at hd
  subst hd;have hj:=Gs hb;have h0:=h.bonds _ hj;have hs:=H2 (f:=s.B.Bonds) (v:=Zo s x - x.Amount) hj;unfold Zo at hlim hs
  have hp:=h.pos;have hm:=h.made;have hw:=h.whole;have hdu:=h.due;have h1:=h.mlen;have h2:=h.ilen;have hdt:=hr.xm (a:=x.Amount) (d:=x.Day) (by omega)
  exact{
   bonds:=Xx h.bonds (by unfold Zo;omega),sums:=h.sums,sorted:=h.sorted,mov:=h.mov,known:=h.known,ids:=h.ids
   mlen:=by show s.B.Moving.length<=_;omega
   ilen:=by show s.Ids.length<=_;omega
   pos:=by simp only[N0,UE];omega
   made:=by simp only[N0,UE];omega
   whole:=by simp only[N0,UE,Zo];omega
   due:=by simp only[N0,UE];omega
   out:=Bz h.out hj}
theorem I0(h:Xy r n t s)(hb:0<=x.Bond/\x.Bond<=15)(ha:1<=x.Amount/\x.Amount<=17179869184)(hd:CE s x= .inl s'):Xy r (n+1) t s' :=by
 unfold CE at hd
 split at hd
 ·cases hd
 ·rename_i hlim;simp only[Sum.inl.injEq] at hd
  subst hd;have hj:=Gs hb;have h0:=h.bonds _ hj;have hs:=H2 (f:=s.B.Bonds) (v:=Zo s x - x.Amount) hj;unfold Zo at hlim hs
  have hp:=h.pos;have hm:=h.made;have hw:=h.whole;have hdu:=h.due;have h1:=h.mlen;have h2:=h.ilen
  exact{
   bonds:=Xx h.bonds (by unfold Zo;omega),sums:=h.sums,sorted:=h.sorted,mov:=h.mov,known:=h.known,ids:=h.ids
   mlen:=by show s.B.Moving.length<=_;omega
   ilen:=by show s.Ids.length<=_;omega
   pos:=by simp only[UE];omega
   made:=by simp only[UE];omega
   whole:=by simp only[UE,Zo];omega
   due:=hdu
   out:=Bz h.out hj}
theorem yG(h:Xy r n t s)(ha:1<=x.Amount)(hd:Ib s x= .inl s'):Xy r (n+1) t s' :=by
 unfold Ib at hd
 split at hd
 ·cases hd
 ·rename_i hlim;simp only[Sum.inl.injEq] at hd
  subst hd;have hp:=h.pos;have hm:=h.made;have h1:=h.mlen;have h2:=h.ilen
  exact{
   bonds:=h.bonds,sums:=h.sums,sorted:=h.sorted,mov:=h.mov,known:=h.known,ids:=h.ids
   mlen:=by show s.B.Moving.length<=_;omega
   ilen:=by show s.Ids.length<=_;omega
   pos:=by simp only[];omega
   made:=by simp only[];omega
   whole:=h.whole
   due:=h.due
   out:=h.out}
theorem zu(hr:Yy r)(h:Xy r n t s)(h0t:0<=t)(he:XR x=true)(hday:x.Day=t)(hd:FX r s x= .inl s'):Xy r (n+1) t s' :=by
 unfold FX at hd
 rcases Lr he with k | k | k | k | k | k | k<;>simp only[k,beq_iff_eq,Int.reduceEq,if_true,if_false] at hd
 ·have e:=FT he (.inl k);exact I2 h e.1 e.2 hd
 ·have e:=Ov he k;exact kj h e.1 e.2.1 e.2.2.1 e.2.2.2 hr hday h0t hd
 ·have e:=Pr he k;unfold D8 at hd
  split at hd
  ·cases hd
  ·rename_i p hp;split at hd
   ·cases hd
   ·split at hd
    ·cases hd
    ·rename_i hlim;simp only[Sum.inl.injEq] at hd;subst hd;exact yU h e.1 e.2.2 hr hp hlim
 ·have e:=FT he (.inr (.inl k));exact Ea h e.1 e.2 hr hd
 ·have e:=FT he (.inr (.inr k));exact I0 h e.1 e.2 hd
 ·have e:=Ou he k;simp only[Sum.inl.injEq] at hd;subst hd;exact kc h e.1 e.2 hr h0t
 ·have e:=zl he k;exact yG h e.1 hd
theorem SK{c c' :TP}(hr:Yy r)(h:Xy r n c.day c.acc)(_h0:0<=c.day)(hs:Wz r c x= .inl c'):Xy r (n+1) c'.day c'.acc/\c.day<=c'.day/\c'.day=x.Day/\XR x=true:=by
 unfold Wz at hs
 split at hs
 ·cases hs
 ·rename_i he;split at hs
  ·cases hs
  ·rename_i hlt;split at hs
   ·rename_i a ha;simp only[Sum.inl.injEq] at hs
    subst hs;have he' :XR x=true:=by simpa using he
    exact⟨zu hr (MF hr h (show c.day<=x.Day by omega)) (by have:=(zm he').1;exact this) he' rfl ha,by show c.day<=x.Day;omega,rfl,he'⟩
   ·cases hs
end
section
open Go.Dec
variable{r:Hb}{n:Nat}{t d:Int}{s s' :Acc}{x:Ev}{p:QE}
theorem SI{i:Nat}(h:i<=4294967296):ZF ((i:Int)+1)=((i+1:Nat):Int):=by rw[Qs (by omega) (by omega)];rfl
theorem zr(hr:Yy r){a:Int}(ha:0<=a)(hb:a<=17179869184)(day:Int):ZF (Int.tdiv (ZF (a*Gk r.Rates day)) 1000)=U6 r a day:=by
 have h:=hr.fo (d:=day) ha hb;rw[Qs (n:=a*Gk r.Rates day) (by omega) (by omega),Int.tdiv_eq_ediv_of_nonneg h.1];unfold U6;rw[Qs (by omega) (by omega)]
end
section
open Go.Dec
variable{r:Hb}{n:Nat}{t d:Int}{s s' :Acc}{x:Ev}{p:QE}
theorem Ts{f g:QE->Int}:∀{l:List QE},(∀p∈l,f p=g p)->YO f l=YO g l
 | [],_=>rfl
 | p::l,h=>by simp only[YO];rw[h p (List.mem_cons_self ..),Ts (l:=l) λq hq=>h q (List.mem_cons_of_mem _ hq)]
def MO(r:Hb)(next:Int)(s:Acc)(pre post:List QE):Acc:=
 {s with B:={s.B with Moving:=pre++post.filter (λp=> !(ZH r p==next)),Used:=s.B.Used+YO QE.Amount (post.filter (λp=>ZH r p==next)),Due:=s.B.Due+YO (λp=>U6 r p.Amount next) (post.filter (λp=>ZH r p==next))}}
end
section
open Go.Dec
variable{r:Hb}{n:Nat}{t d:Int}{s s' :Acc}{x:Ev}{p:QE}
def Ig(s:Acc):Acc ⊕ Int->Acc×Int
 | .inl a=>(a,0)
 | .inr e=>(s,e)
theorem BJ(h:0<=x.Bond/\x.Bond<=15):YP 16 x.Bond=some x.Bond.toNat:=by unfold YP;rw[if_pos (by omega)]
theorem XF(h:Xy r n t s)(hb:0<=x.Bond/\x.Bond<=15):0<=Zo s x/\Zo s x<=17179869184:=h.bonds _ (Gs hb)
end
section
open Go.Dec
variable{r:Hb}{n:Nat}{t d:Int}{s s' :Acc}{x:Ev}{p:QE}
theorem Hx(n a b:Int):ZJ n a b=WL n a b:=by unfold ZJ WL;exact rfl
theorem AL(n:Int):KY n=WL n 0 65536:=by unfold KY;exact Hx ..
theorem jR(n:Int):Zh n=Dk n:=by unfold Zh Dk;exact Hx ..
theorem Cj(r:Hb)(hl:r.Rates.length<=1000000):∀(k i:Nat) (last:Int),i+k=r.Rates.length->
  ZV (Jn r) (last,(i:Int))=some (if Hg last (r.Rates.drop i) then .inl () else .inr false)
 | 0,i,last,hi=>by
  have:Jn r (last,(i:Int))=some (.done (.inl ())):=by unfold Jn;rw[if_neg (by simp;omega)]
  rw[ZR,List.drop_eq_nil_of_le (by omega),this];rfl
 | k+1,i,last,hi=>by
  have hil:i < r.Rates.length:=by omega
  have hx:r.Rates[i]? =some r.Rates[i]:=by simp[hil]
  have step:Jn r (last,(i:Int))=some (if WL r.Rates[i].From 0 65536&&decide (last < r.Rates[i].From)&&WL r.Rates[i].Rate 0 1048576 then .next (r.Rates[i].From,((i+1:Nat):Int)) else .done (.inr false)):=by
   unfold Jn;rw[if_pos (by simp;omega)];simp only[Kg,hx,Option.bind_some,Hx,AL,SI (by omega:i<=4294967296)];by_cases c1:WL r.Rates[i].From 0 65536=true
   case neg=>simp only[Bool.not_eq_true] at c1;simp[c1]
   case pos=>
    by_cases c2:WL r.Rates[i].Rate 0 1048576=true
    case neg=>simp only[Bool.not_eq_true] at c2;simp[c1,c2]
    case pos=>
     by_cases c3:r.Rates[i].From<=last
     ·have:decide (last < r.Rates[i].From)=false:=by simp;omega
      simp[c1,c2,c3,this]
     ·have:decide (last < r.Rates[i].From)=true:=by simp;omega
      simp[c1,c2,c3,this]
  rw[ZR,List.drop_eq_getElem_cons hil,step];by_cases hc:(WL r.Rates[i].From 0 65536&&decide (last < r.Rates[i].From)&&WL r.Rates[i].Rate 0 1048576)=true
  case neg=>simp only[Bool.not_eq_true] at hc;simp[Hg,hc]
  case pos=>
   simp only[Hg,hc,if_true,Bool.true_and];exact Cj r hl k (i+1) r.Rates[i].From (by omega)
theorem Ci(hl:r.Rates.length<=1000000):VW r=some (H7 r):=by
 unfold VW H7;have hloop:=Cj r hl r.Rates.length 0 (-1) (by omega);simp only[Int.natCast_zero,List.drop_zero] at hloop
 simp only[QV,Hx,AL];refine ZN hloop ?_;by_cases ho:Hg (-1) r.Rates=true
 case neg=>simp only[Bool.not_eq_true] at ho;simp[ho]
 case pos=>
  simp only[ho,if_true,Bool.and_true];by_cases h1:WL (r.Rates.length:Int) 1 64=true
  case neg=>simp only[Bool.not_eq_true] at h1;simp[h1]
  case pos=>
   have hl1:=YN.1 h1
   obtain⟨y,l,e⟩:∃y l,r.Rates=y::l:=by
    cases hr:r.Rates with
    | nil=>rw[hr] at hl1;simp at hl1
    | cons y l=>exact⟨y,l,rfl⟩
   have hx:Zc r.Rates 0=some y:=by
    have:=Kg r.Rates 0;rw[e] at this ⊢;exact this
   have hm:MW r.Rates=(y.From==0):=by rw[e];rfl
   simp only[h1,if_true,hx,Option.bind_some,hm,Bool.true_and]
theorem DC(x:Ev):Ul x=some (XR x):=by
 unfold Ul XR;simp only[Hx,AL,jR,QV]
 have h0:(WL x.Amount 1 17179869184||x.Amount==0)=WL x.Amount 0 17179869184:=by
  rw[Bool.eq_iff_iff];simp[WL];omega
 rw[h0];by_cases h1:WL x.Day 0 65536=true
 case neg=>simp only[Bool.not_eq_true] at h1;simp[h1]
 case pos=>
  simp only[h1,Bool.not_true,Bool.false_eq_true,if_false,Bool.true_and];by_cases k0:(x.Kind==0)=true
  ·simp[k0]
  ·simp only[Bool.not_eq_true] at k0
   by_cases k3:(x.Kind==3)=true
   ·simp[k0,k3]
   ·simp only[Bool.not_eq_true] at k3
    by_cases k4:(x.Kind==4)=true
    ·simp[k0,k3,k4]
    ·simp only[Bool.not_eq_true] at k4
     simp only[k0,k3,k4,Bool.or_self,Bool.false_eq_true,if_false,Option.bind_some];by_cases k1:(x.Kind==1)=true
     ·rw[if_pos k1,if_pos k1]
     ·rw[if_neg k1,if_neg k1];by_cases k2:(x.Kind==2)=true
      ·rw[if_pos k2,if_pos k2]
      ·rw[if_neg k2,if_neg k2];by_cases k5:(x.Kind==5)=true
       ·rw[if_pos k5,if_pos k5]
       ·rw[if_neg k5,if_neg k5];by_cases k6:(x.Kind==6)=true
        ·rw[if_pos k6,if_pos k6]
        ·rw[if_neg k6,if_neg k6]
theorem zh{m:Int}(h0:0<=m)(h1:m<=2000000):ZF (IJ .u64 (IntKind.u64.wrap (ZF m)) 1)=m / 2:=by
 rw[Qs (n:=m) (by omega) (by omega)];have e:IntKind.u64.bits=64:=rfl
 have hw:IntKind.u64.wrap m=m:=by
  simp only[IntKind.wrap,e];simp[IntKind.signed];omega
 rw[hw]
 have hs:IJ .u64 m 1=m / 2:=by
  unfold IJ;have:(2:Int)^(min (Int.toNat 1) IntKind.u64.bits)=2:=by decide
  rw[this,Int.fdiv_eq_ediv_of_nonneg _ (by omega)]
 rw[hs,Qs (by omega) (by omega)]
def Uh(l:List Zx)(day:Int):Nat:=(l.takeWhile (λx=>decide (x.From<=day))).length
theorem FK{day:Int}:∀{l:List Zx},l.Pairwise (λx y=>x.From < y.From)->Uh l day<=l.length/\(∀i x,l[i]? =some x->(x.From<=day↔i < Uh l day))
 | [],_=>⟨Nat.le_refl _,λi x h=>by simp at h⟩
 | y::l,h=>by
  have hy:=List.pairwise_cons.1 h;have ih:=FK (day:=day) hy.2;unfold Uh at ih ⊢
  rw[List.takeWhile_cons];by_cases hc:y.From<=day
  ·simp only[hc,decide_true,if_true,List.length_cons];refine⟨by omega,λi x hx=> ?_⟩;cases i with
   | zero=>simp at hx;subst hx;simp[hc]
   | succ i=>
    simp only[List.getElem?_cons_succ] at hx
    have:=ih.2 i x hx;omega
  ·simp only[hc,decide_false,Bool.false_eq_true,if_false,List.length_nil];refine⟨Nat.zero_le _,λi x hx=> ?_⟩;cases i with
   | zero=>simp at hx;subst hx;omega
   | succ i=>
    simp only[List.getElem?_cons_succ] at hx
    have:=hy.1 x (List.mem_of_getElem? hx);omega
theorem NH{day:Int}:∀{l:List Zx} (a:Int),l.Pairwise (λx y=>x.From < y.From)->l.foldl (λown x=>if x.From<=day then x.Rate else own) a=if Uh l day=0 then a else match l[Uh l day - 1]? with | some x=>x.Rate | none=>a
 | [],a,_=>rfl
 | y::l,a,h=>by
  have hy:=List.pairwise_cons.1 h;have hsp:=FK (day:=day) h;rw[List.foldl_cons,NH _ hy.2];have hrl:=(FK (day:=day) hy.2).1;by_cases hc:y.From<=day
  ·have e:Uh (y::l) day=Uh l day+1:=by unfold Uh;rw[List.takeWhile_cons];simp[hc]
   rw[e];simp only[hc,if_true,Nat.add_one_ne_zero,if_false,Nat.add_sub_cancel];by_cases h0:Uh l day=0
   ·rw[if_pos h0,h0];rfl
   ·rw[if_neg h0];have:Uh l day=(Uh l day - 1)+1:=by omega
    conv=>rhs;rw[this,List.getElem?_cons_succ]
    have hlt:Uh l day - 1 < l.length:=by omega
    rw[List.getElem?_eq_getElem hlt]
  ·have e:Uh (y::l) day=0:=by unfold Uh;rw[List.takeWhile_cons];simp[hc]
   have e2:Uh l day=0:=by
    cases hl:l with
    | nil=>rfl
    | cons z l' =>
     unfold Uh;rw[List.takeWhile_cons];have:=hy.1 z (by rw[hl];simp);have:¬z.From<=day:=by omega
     simp[this]
   rw[if_pos e2,if_pos e,if_neg hc]
theorem LC(hr:Yy r){day:Int}:W2 (r.Rates.length:Int) (λx=>Jy x r day)=some (Uh r.Rates day:Int):=by
 have hsp:=FK (day:=day) hr.sorted;have hlen:=hr.len
 have key:=La (body:=UL (λx=>Jy x r day)) (λs:Int×Int=>0<=s.1/\s.1<=Uh r.Rates day/\(Uh r.Rates day:Int)<=s.2/\s.2<=r.Rates.length) (λs=>(s.2 - s.1).toNat) (λb=>b=(Uh r.Rates day:Int)) (λs hs=>by
  obtain⟨i,j⟩:=s;obtain⟨h1,h2,h3,h4⟩:=hs;simp only at h1 h2 h3 h4
  by_cases hc:i < j
  ·left;have hh:=zh (m:=i+j) (by omega) (by omega);have hm0:i<=(i+j) / 2:=by omega
   have hm1:(i+j) / 2 < j:=by omega
   obtain⟨y,hy1,hy2⟩:=jK (l:=r.Rates) (i:=(i+j) / 2) (by omega) (by omega);have hf:Jy ((i+j) / 2) r day=some (decide (y.From > day)):=by unfold Jy;rw[hy1];rfl
   have hiff:=hsp.2 _ y hy2;by_cases hg:y.From > day
   ·refine⟨(i,(i+j) / 2),?_,⟨by simp only;omega,by simp only;omega,?_,by simp only;omega⟩,by simp only;omega⟩
    ·unfold UL;rw[if_pos (by simpa using hc)];simp only[hh,QV,hf,Option.bind_some,hg,decide_true,Bool.not_true,Bool.false_eq_true,if_false]
    ·simp only;omega
   ·refine⟨((i+j) / 2+1,j),?_,⟨by simp only;omega,?_,by simp only;omega,by simp only;omega⟩,by simp only;omega⟩
    ·unfold UL;rw[if_pos (by simpa using hc)];simp only[hh,QV,hf,Option.bind_some,hg,decide_false,Bool.not_false,if_true];rw[Qs (n:=(i+j) / 2+1) (by omega) (by omega)]
    ·simp only;omega
  ·right;refine⟨i,?_,by omega⟩;unfold UL;rw[if_neg (by simpa using hc)])
 obtain⟨b,hb,hq⟩:=key r.Rates.length (0,(r.Rates.length:Int)) (by simp) ⟨by simp,by simp,by simp;exact hsp.1,by simp⟩;unfold W2;rw[hb,hq];rfl
theorem AO(hr:Yy r){a day:Int}(ha:0<=a)(hb:a<=17179869184)(hd:0<=day):UT r a day=some (U6 r a day):=by
 have hsp:=FK (day:=day) hr.sorted;have hlen:=hr.len;obtain⟨y,l,e,e0⟩:=hr.first;have h1:0 < Uh r.Rates day:=(hsp.2 0 y (by rw[e];rfl)).1 (by omega);have hlt:Uh r.Rates day - 1 < r.Rates.length:=by omega
 have hx:r.Rates[Uh r.Rates day - 1]? =some r.Rates[Uh r.Rates day - 1]:=List.getElem?_eq_getElem hlt
 have hrate:Gk r.Rates day=r.Rates[Uh r.Rates day - 1].Rate:=by
  unfold Gk;rw[NH _ hr.sorted,if_neg (by omega),hx]
 unfold UT;refine ZN (LC hr) ?_;have hw:ZF ((Uh r.Rates day:Int) - 1)=((Uh r.Rates day - 1:Nat):Int):=by rw[Qs (by omega) (by omega)];omega
 simp only[QV,hw,Kg,hx,Option.bind_some,<-hrate];rw[zr hr ha hb]
end
section
open Go.Dec
variable{r:Hb}{n:Nat}{t d:Int}{s s' :Acc}{x:Ev}{p:QE}
abbrev PM:=List (List (Int×QE))
abbrev KM:=List (List (Int×Bool))
def GD(p:QE):Int×QE:=(p.Id,p)
def Kq(r:Hb)(t:Int)(s:Acc):QD:=⟨r,{s.B with Moving:=[]},some 0,some 0,s.Sums,t⟩
structure PR(r:Hb)(t:Int)(s:Acc)(A1:List QD)(A2:PM)(A3:KM):Prop where
 o:A1=[Kq r t s]
 m:∃m,A2=[m]/\m.Perm (s.B.Moving.map GD)
 k:∃k rest,A3=k::rest/\(k.map Prod.fst).Nodup/\∀i,(Qc k i).getD false=s.Ids.contains i
theorem GB{l:List QE}(h:l.Pairwise (λp q=>p.Id < q.Id)):((l.map GD).map Prod.fst).Nodup:=by
 have:(l.map GD).map Prod.fst=l.map QE.Id:=by rw[List.map_map];rfl
 rw[this];rw[List.Nodup,List.pairwise_map];exact h.imp λh=>Int.ne_of_lt h
theorem Ol{i:Int}:∀{l:List QE},Qc (l.map GD) i=l.find? (λq=>q.Id==i)
 | []=>rfl
 | q::l=>by
  simp only[List.map_cons,GD,Qc,List.find?_cons];by_cases h:i=q.Id
  ·subst h;simp
  ·have h1:(i==q.Id)=false:=by simpa using h
   have h2:(q.Id==i)=false:=by simpa using Ne.symm h
   simp only[h1,h2,Bool.false_eq_true,if_false];exact Ol
theorem Lj{m:List (Int×QE)}{l:List QE}{i:Int}(hs:l.Pairwise (λp q=>p.Id < q.Id))(h:m.Perm (l.map GD)):Qc m i=l.find? (λq=>q.Id==i):=by
 rw[Vn h (GB hs),Ol]
theorem E1{i:Int}{l:List QE}:(l.map GD).filter (λx=> !(i==x.1))=(l.filter (λq=> !(q.Id==i))).map GD:=by
 rw[List.filter_map];congr 1;refine List.filter_congr λq _=> ?_;show(!(i==q.Id))= !(q.Id==i);rw[Bool.beq_comm]
theorem zw{m:List (Int×QE)}{l:List QE}{i:Int}(hs:l.Pairwise (λp q=>p.Id < q.Id))(h:m.Perm (l.map GD)):(Jj m i).Perm ((l.filter (λq=> !(q.Id==i))).map GD):=by
 have h1:=BG (k:=i) h (GB hs)
 rwa[WE (GB hs),E1] at h1
abbrev vX:=Out Zl (List QD×PM×KM)
def Ww(r:Hb)(t:Int)(out:Acc ⊕ Int)(q:Option vX):Prop:=match out with
 | .inl s' =>∃A1 A2 A3,q=some (.ok (A1,A2,A3))/\PR r t s' A1 A2 A3
 | .inr e=>q=some (.pan ⟨e⟩)
theorem BF(e:Int):K6 true e=some (.ok ()):=rfl
theorem S7(e:Int):K6 false e=some (.pan ⟨e⟩):=rfl
theorem UQ{ε α β:Type}{e:Option (Out ε α)}{gp:ε->Option β}{g:α->Option β}{x:α}(h:e=some (.ok x)):Qy e gp g=g x:=by rw[h];rfl
theorem UK{ε α β:Type}{e:Option (Out ε α)}{gp:ε->Option β}{g:α->Option β}{x:ε}(h:e=some (.pan x)):Qy e gp g=gp x:=by rw[h];rfl
variable{A1:List QD}{A2:PM}{A3:KM}
theorem NB(h:Xy r n t s)(hp:PR r t s A1 A2 A3)(hb:0<=x.Bond/\x.Bond<=15)(ha:0<=x.Amount/\x.Amount<=17179869184):
  J8 A1 (some 0) x=if Zo s x+x.Amount > 17179869184 then some (.pan ⟨12⟩) else some (.ok ()):=by
 have hh:=XF h hb;have e:(Kq r t s).book.Bonds x.Bond.toNat=Zo s x:=rfl;unfold J8;rw[hp.o];simp only[Option.bind_some,BJ hb,List.getElem?_cons_zero];rw[e,Qs (n:=Zo s x+x.Amount) (by omega) (by omega)];by_cases hlim:Zo s x+x.Amount > 17179869184
 ·have e1:decide (Zo s x+x.Amount<=17179869184)=false:=by simp;omega
  rw[e1,if_pos hlim];rfl
 ·have e1:decide (Zo s x+x.Amount<=17179869184)=true:=by simp;omega
  rw[e1,if_neg hlim];rfl
theorem Hy(h:Xy r n t s)(hp:PR r t s A1 A2 A3)(hb:0<=x.Bond/\x.Bond<=15)(ha:1<=x.Amount/\x.Amount<=17179869184):
  JR A1 (some 0) x=if Zo s x < x.Amount then some (.pan ⟨10⟩) else some (.ok [Kq r t (UE s x (Zo s x - x.Amount))]):=by
 have hh:=XF h hb;have e:(Kq r t s).book.Bonds x.Bond.toNat=Zo s x:=rfl;unfold JR;rw[hp.o];simp only[Option.bind_some,BJ hb,List.getElem?_cons_zero];rw[e];by_cases hlim:Zo s x < x.Amount
 ·have e1:decide (Zo s x≥x.Amount)=false:=by simp;omega
  rw[e1,if_pos hlim];rfl
 ·have e1:decide (Zo s x≥x.Amount)=true:=by simp;omega
  rw[e1,if_neg hlim,Qs (n:=Zo s x - x.Amount) (by omega) (by omega)];rfl
theorem Lw(h:Xy r n t s)(hn:n<=1000)(hp:PR r t s A1 A2 A3)(he:XR x=true)(k:x.Kind=0):Ww r t (CF s x) (JZ A1 A2 A3 (some 0) x):=by
 obtain⟨hb,ha⟩:=FT he (.inl k);have hh:=XF h hb;have hl:=h.lim;have hpo:=h.pos;have hr:=NB h hp hb (by omega);unfold JZ CF Ww;by_cases hlim:Zo s x+x.Amount > 17179869184
 ·rw[if_pos hlim] at hr ⊢
  rw[UK hr]
 ·rw[if_neg hlim] at hr ⊢
  rw[UQ hr];refine⟨[Kq r t {UE s x (Zo s x+x.Amount) with B:={(UE s x (Zo s x+x.Amount)).B with Made:=s.B.Made+x.Amount}}],A2,A3,?_,rfl,hp.m,hp.k⟩;rw[hp.o];have e:(Kq r t s).book.Bonds x.Bond.toNat=Zo s x:=rfl;have e2:(Kq r t s).book.Made=s.B.Made:=rfl;simp only[Option.bind_some,BJ hb,List.getElem?_cons_zero,QV,e,e2];rw[Qs (n:=Zo s x+x.Amount) (by omega) (by omega),Qs (n:=s.B.Made+x.Amount) (by omega) (by omega)];rfl
theorem Ir{k:List (Int×Bool)}{ids:List Int}{id:Int}(hn:(k.map Prod.fst).Nodup)(h:∀i,(Qc k i).getD false=ids.contains i)(i:Int):(Qc (Qv k id true) i).getD false=(ids++[id]).contains i:=by
 have hp:=JX (l:=k) (k:=id) (v:=true) hn;have hnd:(((id,true)::k.filter (λx=> !(id==x.1))).map Prod.fst).Nodup:=(hp.map Prod.fst).nodup_iff.1 (JE hn);rw[Vn hp hnd];simp only[Qc];by_cases e:i=id
 ·subst e;simp
 ·have e1:(i==id)=false:=by simpa using e
  rw[e1];simp only[Bool.false_eq_true,if_false]
  have e2:Qc (k.filter (λx=> !(id==x.1))) i=Qc k i:=by
   clear hn h hp hnd
   induction k with
   | nil=>rfl
   | cons y k ih=>
    rw[List.filter_cons];by_cases h1:id=y.1
    ·have h2:(id==y.1)=true:=by simpa using h1
     have h3:(i==y.1)=false:=by simp;intro h;exact e (h.trans h1.symm)
     simp only[h2,Bool.not_true,Bool.false_eq_true,if_false,Qc,h3,ih]
    ·have h2:(id==y.1)=false:=by simpa using h1
     simp only[h2,Bool.not_false,if_true,Qc,ih]
  rw[e2,h];simp[e]
theorem IL(h:Xy r n t s)(hp:PR r t s A1 A2 A3)(he:XR x=true)(k:x.Kind=1):Ww r t (R8 s x) (J7 A1 A2 A3 (some 0) x):=by
 obtain⟨hb,hto,hid,ha⟩:=Ov he k;have hh:=XF h hb;have hdr:=Hy h hp hb ha;obtain⟨m,hm,hmp⟩:=hp.m;obtain⟨kk,rest,hk,hkn,hkg⟩:=hp.k;unfold J7 R8 Ww;by_cases hne:(x.Bond==x.To)=true
 ·have e1:(x.Bond != x.To)=false:=by simp[bne,hne]
  rw[e1,if_pos hne,UK (S7 11)]
 ·have e1:(x.Bond != x.To)=true:=by simp only[bne];simp only[Bool.not_eq_true] at hne;rw[hne];rfl
  rw[e1,if_neg hne,UQ (BF 11)];have o1:(A1[0]?)=some (Kq r t s):=by rw[hp.o];rfl
  have k0:(A3[0]?)=some kk:=by rw[hk];rfl
  have kn:(Kq r t s).known=some 0:=rfl;simp only[Option.bind_some,o1,kn,k0,hkg];by_cases hc:s.Ids.contains x.Id=true
  ·rw[if_pos hc,hc];rw[Bool.not_true,UK (S7 5)]
  ·have hc' :s.Ids.contains x.Id=false:=by simpa using hc
   rw[if_neg hc,hc',Bool.not_false,UQ (BF 5)];by_cases hlim:Zo s x < x.Amount
   ·rw[if_pos hlim] at hdr ⊢
    rw[UK hdr]
   ·rw[if_neg hlim] at hdr ⊢
    rw[UQ hdr];have m0:(A2[0]?)=some m:=by rw[hm];rfl
    have mo:(Kq r t (UE s x (Zo s x - x.Amount))).moving=some 0:=rfl;have kn2:(Kq r t (UE s x (Zo s x - x.Amount))).known=some 0:=rfl;refine⟨_,_,_,by simp only[List.getElem?_cons_zero,Option.bind_some,kn2,k0,mo,m0,QV];rfl,rfl,⟨Qv m x.Id (Eh x),by rw[hm];rfl,?_⟩,⟨Qv kk x.Id true,rest,by rw[hk];rfl,JE hkn,Ir hkn hkg⟩⟩
    have hnew:∀q∈s.B.Moving,q.Id≠x.Id:=λq hq e=>by
     have:=h.known q hq;rw[e] at this
     rw[<-Bool.not_eq_true,List.contains_iff_mem] at hc';exact hc' this
    have h1:=JX (l:=m) (k:=x.Id) (v:=Eh x) ((hmp.map Prod.fst).nodup_iff.2 (GB h.sorted))
    have h2:m.filter (λe=> !(x.Id==e.1))=m:=List.filter_eq_self.2 λe he=>by
     obtain⟨q,hq,rfl⟩:=List.mem_map.1 (hmp.mem_iff.1 he);have:=hnew q hq;simp[GD];exact Ne.symm this
    rw[h2] at h1
    refine h1.trans ?_;refine(hmp.cons _).trans ?_;have h3:=(BI (q:=Eh x) (l:=s.B.Moving)).symm.map GD;exact h3
theorem M9(hr:Yy r)(h:Xy r n t s)(hn:n<=1000)(h0:0<=t){u:Acc}(hu:u.B.Bonds x.Bond.toNat=0∨u.B.Bonds x.Bond.toNat=Zo s x)(hb:0<=x.Bond/\x.Bond<=15){was is allowed:Int}(hwas:0<=was/\was<=17179869184)(his:0<=is/\is<=17179869184)(hal:0<=allowed/\allowed<=4611686018427387904)
  (hF:u.B.Found=s.B.Found) (hL:u.B.Lost=s.B.Lost) (hC:u.B.Charged=s.B.Charged) (hD:u.B.Due=s.B.Due):
  Yh [Kq r t u] (some 0) x.Bond was is allowed=some [Kq r t (De r t (imax 0 (was - is)) allowed {UE u x (u.B.Bonds x.Bond.toNat+is) with B:={(UE u x (u.B.Bonds x.Bond.toNat+is)).B with Found:=u.B.Found+imax 0 (is - was)}})]:=by
 have hh:=XF h hb;have hl:=h.lim;have hpo:=h.pos;have hdu:=h.due;have e1:=Hw (a:=0) (b:=was - is);have e2:=Hw (a:=0) (b:=is - was);have e3:=AH (a:=imax 0 (was - is)) (b:=allowed);have hd:=hr.xm (a:=imax 0 (was - is) - JT (imax 0 (was - is)) allowed) (d:=t) (by omega);unfold Yh;simp only[Option.bind_some,BJ hb,List.getElem?_cons_zero,QV];rw[Qs (n:=is - was) (by omega) (by omega),Qs (n:=was - is) (by omega) (by omega),Qs (n:=imax 0 (was - is) - JT (imax 0 (was - is)) allowed) (by omega) (by omega)];refine ZN (AO hr (by omega) (by omega) h0) ?_;simp only[Kq,List.set_cons_zero];rw[Qs (n:=u.B.Bonds x.Bond.toNat+is) (by omega) (by omega),Qs (n:=u.B.Found+imax 0 (is - was)) (by omega) (by omega),Qs (n:=u.B.Lost+JT (imax 0 (was - is)) allowed) (by omega) (by omega),Qs (n:=u.B.Charged+(imax 0 (was - is) - JT (imax 0 (was - is)) allowed)) (by omega) (by omega),Qs (n:=u.B.Due+U6 r (imax 0 (was - is) - JT (imax 0 (was - is)) allowed) t) (by omega) (by omega)];rfl
theorem MA(hr:Yy r)(h:Xy r n t s)(hn:n<=1000)(h0:0<=t)(hp:PR r t s A1 A2 A3)(he:XR x=true)(k:x.Kind=2)(hday:x.Day=t):Ww r t (D8 r s x) (JM A1 A2 A3 (some 0) x):=by
 obtain⟨hb,hid,ha⟩:=Pr he k;have hh:=XF h hb;have hro:=NB h hp hb ha;obtain⟨m,hm,hmp⟩:=hp.m;have o1:(A1[0]?)=some (Kq r t s):=by rw[hp.o];rfl
 have m0:(A2[0]?)=some m:=by rw[hm];rfl
 have mo:(Kq r t s).moving=some 0:=rfl;unfold JM D8 Ww;simp only[Option.bind_some,o1,mo,m0,QV,Lj h.sorted hmp];cases hq:s.B.Moving.find? (λq=>q.Id==x.Id) with
 | none=>rfl
 | some p=>
  obtain⟨hmem,hpid,_⟩:=LS h.sorted hq;have hpk:=h.mov p hmem;have hpa:=hpk.amount;simp only[Option.isSome_some,Option.getD_some];rw[UQ (BF 4)];by_cases hto:(p.To != x.Bond)=true
  ·have e1:(p.To==x.Bond)=false:=by simpa[bne] using hto
   rw[e1,UK (S7 11),if_pos hto]
  ·have e1:(p.To==x.Bond)=true:=by simpa[bne] using hto
   rw[e1,UQ (BF 11),if_neg hto];by_cases hlim:Zo s x+x.Amount > 17179869184
   ·rw[if_pos hlim] at hro ⊢
    rw[UK hro]
   ·rw[if_neg hlim] at hro ⊢
    rw[UQ hro];have hlo:=hr.loss;have hal0:0<=p.Amount*r.Loss:=Int.mul_nonneg (by omega) hlo.1;have hal1:p.Amount*r.Loss<=17179869184*10000:=Int.mul_le_mul hpa.2 hlo.2 hlo.1 (by omega);have hru:(Kq r t s).rules.Loss=r.Loss:=rfl;have hset:=M9 (x:=x) hr h hn h0 (u:=s) (.inr rfl) hb (was:=p.Amount) (is:=x.Amount) (allowed:=p.Amount*r.Loss / 10000) (by omega) ha (by omega) rfl rfl rfl rfl;simp only[hru];rw[Qs (n:=p.Amount*r.Loss) (by omega) (by omega),Int.tdiv_eq_ediv_of_nonneg hal0,Qs (n:=p.Amount*r.Loss / 10000) (by omega) (by omega)];refine⟨_,_,_,ZN (by rw[hp.o];exact hset) rfl,?_,⟨Jj m x.Id,by rw[hm];rfl,zw h.sorted hmp⟩,hp.k⟩;unfold Li;rw[hday];rfl
theorem Mx(hr:Yy r){u:Acc}{a day:Int}(ha:0<=a/\a<=17179869184)(hd:0<=day)(hU:0<=u.B.Used/\u.B.Used<=4611686018427387904)(hD:0<=u.B.Due/\u.B.Due<=4611686018427387904):
  Yg [Kq r t u] (some 0) a day=some [Kq r t (N0 r a day u)]:=by
 have hdu:=hr.xm (a:=a) (d:=day) (by omega);unfold Yg;simp only[Option.bind_some,List.getElem?_cons_zero,QV];refine ZN (AO hr ha.1 ha.2 hd) ?_;simp only[Kq,List.set_cons_zero];rw[Qs (n:=u.B.Used+a) (by omega) (by omega),Qs (n:=u.B.Due+U6 r a day) (by omega) (by omega)];rfl
theorem N9(hr:Yy r)(h:Xy r n t s)(hn:n<=1000)(hp:PR r t s A1 A2 A3)(he:XR x=true)(k:x.Kind=3):Ww r t (FJ r s x) (JL A1 A2 A3 (some 0) x):=by
 obtain⟨hb,ha⟩:=FT he (.inr (.inl k));have hdr:=Hy h hp hb ha;have hl:=h.lim;have hpo:=h.pos;have hdu:=h.due;unfold JL FJ Ww;by_cases hlim:Zo s x < x.Amount
 ·rw[if_pos hlim] at hdr ⊢
  rw[UK hdr]
 ·rw[if_neg hlim] at hdr ⊢
  rw[UQ hdr];exact⟨_,_,_,ZN (Mx hr (by omega) (zm he).1 ⟨by show 0<=s.B.Used;omega,by show s.B.Used<=_;omega⟩ ⟨by show 0<=s.B.Due;omega,by show s.B.Due<=_;omega⟩) rfl,rfl,hp.m,hp.k⟩
theorem Lq(h:Xy r n t s)(hn:n<=1000)(hp:PR r t s A1 A2 A3)(he:XR x=true)(k:x.Kind=4):Ww r t (CE s x) (JY A1 A2 A3 (some 0) x):=by
 obtain⟨hb,ha⟩:=FT he (.inr (.inr k));have hdr:=Hy h hp hb ha;have hl:=h.lim;have hpo:=h.pos;unfold JY CE Ww;by_cases hlim:Zo s x < x.Amount
 ·rw[if_pos hlim] at hdr ⊢
  rw[UK hdr]
 ·rw[if_neg hlim] at hdr ⊢
  rw[UQ hdr];have e:(Kq r t (UE s x (Zo s x - x.Amount))).book.Exported=s.B.Exported:=rfl;refine⟨[Kq r t {UE s x (Zo s x - x.Amount) with B:={(UE s x (Zo s x - x.Amount)).B with Exported:=s.B.Exported+x.Amount}}],A2,A3,?_,rfl,hp.m,hp.k⟩;simp only[Option.bind_some,List.getElem?_cons_zero,QV,e];rw[Qs (n:=s.B.Exported+x.Amount) (by omega) (by omega)];rfl
theorem IG(hr:Yy r)(h:Xy r n t s)(hn:n<=1000)(h0:0<=t)(ht:t<=65536)(hp:PR r t s A1 A2 A3)(he:XR x=true)(k:x.Kind=5)(hday:x.Day=t):Ww r t (.inl (Ao r s x)) (J6 A1 A2 A3 (some 0) x):=by
 obtain⟨hb,ha⟩:=Ou he k;have hh:=XF h hb;have hsu:=h.sums _ (Gs hb);have hsh:=hr.share;have hal0:0<=s.Sums x.Bond.toNat*r.Share:=Int.mul_nonneg hsu.1 hsh.1;have hal1:s.Sums x.Bond.toNat*r.Share<=65536*17179869184*1000:=Int.mul_le_mul (by omega) hsh.2 hsh.1 (by omega);have e1:(Kq r t s).sums x.Bond.toNat=s.Sums x.Bond.toNat:=rfl;have e2:(Kq r t s).rules.Share=r.Share:=rfl;have e3:(Kq r t s).book.Bonds x.Bond.toNat=Zo s x:=rfl;have hset:=M9 (x:=x) hr h hn h0 (u:={UE s x 0 with Sums:=ZI s.Sums x.Bond.toNat 0}) (.inl Ug) hb (was:=Zo s x) (is:=x.Amount) (allowed:=s.Sums x.Bond.toNat*r.Share / 3650000) hh ha (by omega) rfl rfl rfl rfl;unfold J6 Ww;rw[hp.o];simp only[Option.bind_some,BJ hb,List.getElem?_cons_zero,QV,e1,e2,e3,List.set_cons_zero];rw[Qs (n:=s.Sums x.Bond.toNat*r.Share) (by omega) (by omega),Int.tdiv_eq_ediv_of_nonneg hal0,Qs (n:=s.Sums x.Bond.toNat*r.Share / 3650000) (by omega) (by omega)];refine⟨_,_,_,ZN hset rfl,?_,hp.m,hp.k⟩
 have e4:ZI (ZI s.B.Bonds x.Bond.toNat 0) x.Bond.toNat (ZI s.B.Bonds x.Bond.toNat 0 x.Bond.toNat+x.Amount)=ZI s.B.Bonds x.Bond.toNat x.Amount:=by
  funext i;by_cases e:i=x.Bond.toNat
  ·subst e;rw[Ug,Ug,Ug];omega
  ·rw[Wn e,Wn e,Wn e]
 unfold Ao;rw[hday];simp only[UE,e4]
theorem zK(h:Xy r n t s)(hn:n<=1000)(hp:PR r t s A1 A2 A3)(he:XR x=true)(k:x.Kind=6):Ww r t (Ib s x) (Yi A1 A2 A3 (some 0) x):=by
 have ha:=zl he k;have hl:=h.lim;have hpo:=h.pos;have hdu:=h.due;have e1:(Kq r t s).book.Due=s.B.Due:=rfl;have e2:(Kq r t s).book.Paid=s.B.Paid:=rfl;unfold Yi Ib Ww;rw[hp.o];simp only[Option.bind_some,List.getElem?_cons_zero,QV,e1,e2];rw[Qs (n:=s.B.Due - s.B.Paid) (by omega) (by omega)];by_cases hlim:x.Amount > s.B.Due - s.B.Paid
 ·have e3:decide (x.Amount<=s.B.Due - s.B.Paid)=false:=by simp;omega
  rw[e3,if_pos hlim,UK (S7 11)]
 ·have e3:decide (x.Amount<=s.B.Due - s.B.Paid)=true:=by simp;omega
  rw[e3,if_neg hlim,UQ (BF 11),Qs (n:=s.B.Paid+x.Amount) (by omega) (by omega)];exact⟨_,_,_,rfl,rfl,hp.m,hp.k⟩
end
section
open Go.Dec
variable{r:Hb}{n:Nat}{t d day:Int}{s u:Acc}{x:Ev}{p:QE}{A1:List QD}{A2:PM}{A3:KM}
def HI(r:Hb)(d:Int)(s:Acc):Acc:={s with B:=(WV r 0 d s).B}
structure yy(r:Hb)(u:Acc):Prop where
 sorted:u.B.Moving.Pairwise (λp q=>p.Id < q.Id)
 mov:∀p∈u.B.Moving,(1<=p.Amount/\p.Amount<=17179869184)/\0<=p.Sent/\p.Sent<=65536
 used:0<=u.B.Used/\u.B.Used+YO QE.Amount u.B.Moving<=4611686018427387904
 due:0<=u.B.Due/\u.B.Due+1049*YO QE.Amount u.B.Moving<=4611686018427387904
theorem Xy.bt(h:Xy r n t s)(hn:n<=1000)(ht:t<=65536):yy r s where
 sorted:=h.sorted
 mov:=λp hp=>⟨(h.mov p hp).amount,(h.mov p hp).sent.1,by have:=(h.mov p hp).sent.2;omega⟩
 used:=by have:=h.lim;have:=h.pos;omega
 due:=by have:=h.lim;have:=h.pos;have:=h.due;omega
theorem za(hr:Yy r)(h:0<=p.Sent/\p.Sent<=65536):ZF (ZF (p.Sent+r.Transit)+1)=ZH r p:=by
 have:=hr.transit;rw[Qs (n:=p.Sent+r.Transit) (by omega) (by omega),Qs (by omega) (by omega)];rfl
theorem AE(hr:Yy r)(h:0<=p.Sent/\p.Sent<=65536):YA [Kq r t u] (some 0) p=some (ZH r p):=by
 unfold YA;simp only[Option.bind_some,List.getElem?_cons_zero,Kq];rw[za hr h]
def Wt(r:Hb)(day:Int)(D:List (Int×Bool))(l:List (Int×QE)):List (Int×Bool):=l.foldl (λD e=>if ZH r e.2<=day then Qv D (ZH r e.2) true else D) D
theorem mem_set{D:List (Int×Bool)}{k:Int}(hn:(D.map Prod.fst).Nodup)(ht:∀y∈D,y.2=true)(y:Int×Bool):y∈Qv D k true↔y=(k,true)∨y∈D:=by
 rw[(JX hn).mem_iff,List.mem_cons,List.mem_filter];constructor
 ·rintro(h | ⟨h,_⟩)
  ·exact .inl h
  ·exact .inr h
 ·rintro(h | h)
  ·exact .inl h
  ·by_cases e:k=y.1
   ·left;have:=ht y h;rw[e,<-this]
   ·exact .inr ⟨h,by simpa using e⟩
theorem Xv:∀{l:List (Int×QE)} {D:List (Int×Bool)},(D.map Prod.fst).Nodup->(∀y∈D,y.2=true)->
  ((Wt r day D l).map Prod.fst).Nodup/\(Wt r day D l).length<=D.length+l.length/\∀y,y∈Wt r day D l↔y∈D∨∃e∈l,ZH r e.2<=day/\y=(ZH r e.2,true)
 | [],D,hn,ht=>⟨hn,by simp[Wt],λy=>by simp[Wt]⟩
 | e::l,D,hn,ht=>by
  unfold Wt;rw[List.foldl_cons];by_cases hc:ZH r e.2<=day
  ·rw[if_pos hc]
   have ht2:∀y∈Qv D (ZH r e.2) true,y.2=true:=λy hy=>by
    rcases(mem_set hn ht y).1 hy with rfl | hy
    ·rfl
    ·exact ht y hy
   have hlen:(Qv D (ZH r e.2) true).length<=D.length+1:=by
    have:=(JX (k:=ZH r e.2) (v:=true) hn).length_eq;have h2:=List.length_filter_le (λx:Int×Bool=> !(ZH r e.2==x.1)) D;simp only[List.length_cons] at this;omega
   obtain⟨h1,h2,h3⟩:=Xv (l:=l) (JE (k:=ZH r e.2) (v:=true) hn) ht2;refine⟨h1,by simp only[List.length_cons];unfold Wt at h2;omega,λy=> ?_⟩;rw[show(List.foldl (λD e=>if ZH r e.2<=day then Qv D (ZH r e.2) true else D) (Qv D (ZH r e.2) true) l)=Wt r day (Qv D (ZH r e.2) true) l from rfl,h3,mem_set hn ht];simp only[List.mem_cons,exists_eq_or_imp];constructor
   ·rintro((h | h) | h)
    ·exact .inr (.inl ⟨hc,h⟩)
    ·exact .inl h
    ·exact .inr (.inr h)
   ·rintro(h | (h | h))
    ·exact .inl (.inr h)
    ·exact .inl (.inl h.2)
    ·exact .inr h
  ·rw[if_neg hc];obtain⟨h1,h2,h3⟩:=Xv (l:=l) hn ht;refine⟨h1,by simp only[List.length_cons];unfold Wt at h2;omega,λy=> ?_⟩;rw[show(List.foldl (λD e=>if ZH r e.2<=day then Qv D (ZH r e.2) true else D) D l)=Wt r day D l from rfl,h3];simp only[List.mem_cons,exists_eq_or_imp];constructor
   ·rintro(h | h)
    ·exact .inl h
    ·exact .inr (.inr h)
   ·rintro(h | (h | h))
    ·exact .inl h
    ·exact absurd h.1 hc
    ·exact .inr h
theorem I3{l l' :List (Int×QE)}(hp:l'.Perm l):(Wt r day [] l').Perm (Wt r day [] l):=by
 have a:=Xv (r:=r) (day:=day) (l:=l') (D:=[]) (by simp) (by simp);have b:=Xv (r:=r) (day:=day) (l:=l) (D:=[]) (by simp) (by simp)
 have nd:∀{L:List (Int×Bool)},(L.map Prod.fst).Nodup->L.Nodup:=fun{L} h=>by
  rw[List.Nodup,List.pairwise_map] at h
  exact h.imp λh e=>h (by rw[e])
 refine(List.perm_ext_iff_of_nodup (nd a.1) (nd b.1)).2 λy=> ?_;rw[a.2.2,b.2.2];constructor
 ·rintro(h | ⟨e,he,h⟩)
  ·exact .inl h
  ·exact .inr ⟨e,hp.mem_iff.1 he,h⟩
 ·rintro(h | ⟨e,he,h⟩)
  ·exact .inl h
  ·exact .inr ⟨e,hp.mem_iff.2 he,h⟩
theorem qw{α:Type}{A:List α}{x y:α}:List.set (A++[x]) A.length y=A++[y]:=by simp
theorem AR(hr:Yy r):∀{l:List (Int×QE)} {D:List (Int×Bool)},(∀e∈l,0<=e.2.Sent/\e.2.Sent<=65536)->
  YI (Z7 [Kq r t u] A3 (some 0) day) l (A3++[D])=some (A3++[Wt r day D l])
 | [],D,_=>rfl
 | e::l,D,h=>by
  have he:=h e (List.mem_cons_self ..)
  have step:Z7 [Kq r t u] A3 (some 0) day e (A3++[D])=some (A3++[if ZH r e.2<=day then Qv D (ZH r e.2) true else D]):=by
   unfold Z7;rw[AE hr he];simp only[Option.bind_some];by_cases hc:ZH r e.2<=day
   ·have hg:(A3++[D])[A3.length]? =some D:=by simp
    simp only[hc,decide_true,if_true,hg,Option.bind_some,QV,qw]
   ·simp only[hc,decide_false,Bool.false_eq_true,if_false,Option.bind_some]
  simp only[YI,step,Option.bind_some];exact AR hr λq hq=>h q (List.mem_cons_of_mem _ hq)
theorem E8(hr:Yy r){l:List (Int×QE)}(h:∀e∈l,0<=e.2.Sent/\e.2.Sent<=65536):
  Dd Sz (Z7 [Kq r t u] A3 (some 0) day) l (A3++[[]])=some (A3++[Wt r day [] l]):=by
 refine LQ (AR hr h) λl' hl' =>⟨_,AR hr (λe he=>h e (hl'.mem_iff.1 he)),by simp,λi x y hx hy=> ?_⟩;by_cases hi:i < A3.length
 ·rw[List.getElem?_append_left hi] at hx hy
  rw[hx] at hy;simp only[Option.some.injEq] at hy;subst hy;exact .refl _
 ·rw[List.getElem?_append_right (by omega)] at hx hy
  cases hk:i - A3.length with
  | zero=>
   rw[hk] at hx hy
   simp only[List.getElem?_cons_zero,Option.some.injEq] at hx hy
   subst hx;subst hy;exact I3 hl'
  | succ k=>rw[hk] at hx;simp at hx
def jz(r:Hb)(day:Int)(l:List (Int×QE)):List Int:=((Wt r day [] l).map Prod.fst).mergeSort (λa b=>decide (a<=b))
theorem Iq{l:List (Int×QE)}:(jz r day l).Pairwise (·< ·):=by
 have hn:=(Xv (r:=r) (day:=day) (l:=l) (D:=[]) (by simp) (by simp)).1;have h1:(jz r day l).Pairwise (λa b=>decide (a<=b)=true):=List.pairwise_mergeSort (λa b c h1 h2=>by simp only[decide_eq_true_eq] at*;omega) (λa b=>by simp only[Bool.or_eq_true,decide_eq_true_eq];omega) _;have h2:(jz r day l).Nodup:=(List.mergeSort_perm _ _).nodup_iff.2 hn;exact(h1.and h2).imp λh=>by have:=h.1;have:=h.2;simp only[decide_eq_true_eq] at*;omega
theorem zd{l:List (Int×QE)}{d:Int}:d∈jz r day l↔d<=day/\∃e∈l,ZH r e.2=d:=by
 unfold jz;rw[(List.mergeSort_perm _ _).mem_iff,List.mem_map];have h:=(Xv (r:=r) (day:=day) (l:=l) (D:=[]) (by simp) (by simp)).2.2;constructor
 ·rintro⟨y,hy,rfl⟩;rcases(h y).1 hy with hy | ⟨e,he,hl,rfl⟩
  ·cases hy
  ·exact⟨hl,e,he,rfl⟩
 ·rintro⟨hd,e,he,rfl⟩;exact⟨(ZH r e.2,true),(h _).2 (.inr ⟨e,he,hd,rfl⟩),rfl⟩
theorem jI(hr:Yy r)(hA1:A1=[Kq r t u]){m:List (Int×QE)}(hA2:A2=[m])(hm:m.length<=1000)(hs:∀e∈m,0<=e.2.Sent/\e.2.Sent<=65536):
  YM A1 A2 A3 (some 0) day=some ((A1,A2,A3++[Wt r day [] m]),jz r day m):=by
 subst hA1;subst hA2;have hsp:=Xv (r:=r) (day:=day) (l:=m) (D:=[]) (by simp) (by simp);have ht:=hr.transit
 have hk:VU (A3++[Wt r day [] m]) (some A3.length)=some (jz r day m):=by
  have hg:(A3++[Wt r day [] m])[A3.length]? =some (Wt r day [] m):=by simp
  simp only[VU,hg,Option.bind_some,HU];rw[if_pos]
  ·rfl
  ·refine⟨List.all_eq_true.2 λy hy=> ?_,by have:=hsp.2.1;simp at this;omega⟩;rcases(hsp.2.2 y).1 hy with hy | ⟨e,he,hl,rfl⟩
   ·cases hy
   ·have:=hs e he;simp only[decide_eq_true_eq];unfold ZH;omega
 unfold YM;simp only[Option.bind_some,List.getElem?_cons_zero,Kq];have h1:=E8 (t:=t) (u:=u) (A3:=A3) (day:=day) hr hs;simp only[Kq] at h1
 rw[h1];simp only[Option.bind_some,hk]
theorem yy.book(hr:Yy r)(h:yy r u):yy r (HI r d u) where
 sorted:=h.sorted.filter _
 mov:=λp hp=>h.mov p (List.mem_filter.1 hp).1
 used:=by
  have h1:=h.used;have h2:=H3 (f:=QE.Amount) (c:=λp=>decide (d < ZH r p)) (l:=u.B.Moving);have h3:0<=YO QE.Amount (u.B.Moving.filter (λp=> !decide (d < ZH r p))):=H4 λp hp=>by have:=(h.mov p (List.mem_filter.1 hp).1).1.1;omega
  simp only[HI,WV];omega
 due:=by
  have h1:=h.due;have h2:=H3 (f:=QE.Amount) (c:=λp=>decide (d < ZH r p)) (l:=u.B.Moving);have h3:0<=YO (λp=>U6 r p.Amount (ZH r p)) (u.B.Moving.filter (λp=> !decide (d < ZH r p))):=H4 λp hp=>by have:=(h.mov p (List.mem_filter.1 hp).1).1.1;exact(hr.xm (by omega)).1
  have h4:YO (λp=>U6 r p.Amount (ZH r p)) (u.B.Moving.filter (λp=> !decide (d < ZH r p)))<=YO (λp=>1049*p.Amount) (u.B.Moving.filter (λp=> !decide (d < ZH r p))):=N2 λp hp=>by have:=(h.mov p (List.mem_filter.1 hp).1).1.1;exact(hr.xm (by omega)).2
  rw[Tr] at h4
  simp only[HI,WV];omega
theorem qF{d0:Int}(h:d0<=d):HI r d (HI r d0 s)=HI r d s:=by
 have e:=Ic (r:=r) (s:=s) (t:=0) (u:=d0) (d:=d) h;have h1:(WV r 0 d (HI r d0 s)).B=(WV r d0 d (WV r 0 d0 s)).B:=rfl;unfold HI at h1 ⊢
 simp only[h1,e]
theorem qE(h:∀p∈s.B.Moving,d < ZH r p):HI r d s=s:=by
 have e1:s.B.Moving.filter (λp=>decide (d < ZH r p))=s.B.Moving:=List.filter_eq_self.2 λp hp=>by simpa using h p hp
 have e2:s.B.Moving.filter (λp=> !decide (d < ZH r p))=[]:=List.filter_eq_nil_iff.2 λp hp=>by simpa using h p hp
 simp only[HI,WV,e1,e2,YO,Int.add_zero]
theorem Es(h:∀p∈s.B.Moving,d<=ZH r p):MO r d s [] s.B.Moving=HI r d s:=by
 have e1:s.B.Moving.filter (λp=> !(ZH r p==d))=s.B.Moving.filter (λp=>decide (d < ZH r p)):=List.filter_congr λp hp=>by
  have:=h p hp;by_cases e:ZH r p=d
  ·simp[e]
  ·have e2:d < ZH r p:=by omega
   simp[e,e2]
 have e2:s.B.Moving.filter (λp=>ZH r p==d)=s.B.Moving.filter (λp=> !decide (d < ZH r p)):=List.filter_congr λp hp=>by
  have:=h p hp;by_cases e:ZH r p=d
  ·simp[e]
  ·have e2:d < ZH r p:=by omega
   simp[e,e2]
 have e3:YO (λp=>U6 r p.Amount d) (s.B.Moving.filter (λp=> !decide (d < ZH r p)))=YO (λp=>U6 r p.Amount (ZH r p)) (s.B.Moving.filter (λp=> !decide (d < ZH r p))):=Ts λp hp=>by
  have h1:=List.mem_filter.1 hp;have h2:=h p h1.1;have h3:¬d < ZH r p:=by simpa using h1.2
  have:ZH r p=d:=by omega
  rw[this]
 simp only[MO,HI,WV,List.nil_append,e1,e2,e3]
def Tj(r:Hb)(d:Int)(u:Acc)(l:List QE):Acc:={u with B:={u.B with Used:=u.B.Used+YO QE.Amount (l.filter (λp=>ZH r p==d)),Due:=u.B.Due+YO (λp=>U6 r p.Amount d) (l.filter (λp=>ZH r p==d))}}
def BN(r:Hb)(d:Int)(M l:List (Int×QE)):List (Int×QE):=l.foldl (λM e=>if ZH r e.2==d then Jj M e.1 else M) M
theorem AF(hr:Yy r)(hd:0<=d):∀{l:List (Int×QE)} {u:Acc} {M:List (Int×QE)},(∀e∈l,(1<=e.2.Amount/\e.2.Amount<=17179869184)/\0<=e.2.Sent/\e.2.Sent<=65536)->
  0<=u.B.Used->u.B.Used+YO QE.Amount (l.map Prod.snd)<=4611686018427387904->0<=u.B.Due->u.B.Due+1049*YO QE.Amount (l.map Prod.snd)<=4611686018427387904->
  YI (KD (some 0) d 0 0) l ([Kq r t u],[M])=some ([Kq r t (Tj r d u (l.map Prod.snd))],[BN r d M l])
 | [],u,M,_,_,_,_,_=>by simp[YI,Tj,BN,YO]
 | e::l,u,M,h,u0,u1,d0,d1=>by
  have he:=h e (List.mem_cons_self ..)
  have hs:=H4 (f:=QE.Amount) (l:=l.map Prod.snd) λq hq=>by
   obtain⟨y,hy,rfl⟩:=List.mem_map.1 hq;have:=(h y (List.mem_cons_of_mem _ hy)).1.1;omega
  simp only[List.map_cons,YO] at u1 d1
  have hdu:=hr.xm (a:=e.2.Amount) (d:=d) (by omega);by_cases hc:ZH r e.2=d
  ·have hb:(ZH r e.2==d)=true:=by simpa using hc
   have step:KD (some 0) d 0 0 e ([Kq r t u],[M])=some ([Kq r t (N0 r e.2.Amount d u)],[Jj M e.1]):=by
    unfold KD;simp only[];rw[AE hr he.2];have hmo:(Kq r t u).moving=some 0:=rfl;simp only[Option.bind_some,hb,if_true,List.getElem?_cons_zero,hmo,vd,QV,List.set_cons_zero];rw[Mx hr (by omega) hd (by omega) (by omega)];rfl
   simp only[YI,step,Option.bind_some];have ih:=AF hr hd (l:=l) (u:=N0 r e.2.Amount d u) (M:=Jj M e.1) (λq hq=>h q (List.mem_cons_of_mem _ hq)) (by show 0<=u.B.Used+e.2.Amount;omega) (by show u.B.Used+e.2.Amount+_<=_;omega) (by show 0<=u.B.Due+U6 r e.2.Amount d;omega) (by show u.B.Due+U6 r e.2.Amount d+_<=_;omega);rw[ih];simp only[Tj,N0,BN,List.map_cons,List.filter_cons,hb,if_true,YO,List.foldl_cons,Int.add_assoc]
  ·have hb:(ZH r e.2==d)=false:=by simpa using hc
   have step:KD (some 0) d 0 0 e ([Kq r t u],[M])=some ([Kq r t u],[M]):=by
    unfold KD;simp only[];rw[AE hr he.2];simp only[Option.bind_some,hb,Bool.false_eq_true,if_false]
   simp only[YI,step,Option.bind_some];have ih:=AF hr hd (l:=l) (u:=u) (M:=M) (λq hq=>h q (List.mem_cons_of_mem _ hq)) u0 (by omega) d0 (by omega);rw[ih];simp only[Tj,BN,List.map_cons,List.filter_cons,hb,Bool.false_eq_true,if_false,List.foldl_cons]
theorem Gz:∀{l M:List (Int×QE)},(M.map Prod.fst).Nodup->BN r d M l=M.filter (λe=> !(l.any (λy=>ZH r y.2==d&&y.1==e.1)))
 | [],M,_=>by
  have:M.filter (λe=> !(([]:List (Int×QE)).any (λy=>ZH r y.2==d&&y.1==e.1)))=M:=List.filter_eq_self.2 λ_ _=>rfl;rw[this];rfl
 | y::l,M,hn=>by
  unfold BN;rw[List.foldl_cons];by_cases hc:(ZH r y.2==d)=true
  ·rw[if_pos hc];have:=Gz (l:=l) (M:=Jj M y.1) (Fv hn);unfold BN at this
   rw[this,WE hn,List.filter_filter];refine List.filter_congr λe _=> ?_;simp only[List.any_cons,hc,Bool.true_and,Bool.not_or,Bool.and_comm]
  ·simp only[Bool.not_eq_true] at hc
   rw[if_neg (by simp[hc])];have:=Gz (l:=l) (M:=M) hn;unfold BN at this
   rw[this];refine List.filter_congr λe _=> ?_;simp only[List.any_cons,hc,Bool.false_and,Bool.false_or]
theorem zb(hr:Yy r)(hd:0<=d)(h:yy r u){m:List (Int×QE)}(hm:m.Perm (u.B.Moving.map GD)):
  BA (KD (some 0) d 0 0) m ([Kq r t u],[m])=some ([Kq r t (MO r d u [] u.B.Moving)],[m.filter (λe=> !(ZH r e.2==d))]):=by
 have hn:(m.map Prod.fst).Nodup:=(hm.map Prod.fst).nodup_iff.2 (GB h.sorted);refine LP λl' hl' => ?_
 have hsnd:(l'.map Prod.snd).Perm u.B.Moving:=by
  have h1:=(hl'.trans hm).map Prod.snd;have h2:(u.B.Moving.map GD).map Prod.snd=u.B.Moving:=by rw[List.map_map];exact List.map_id _
  rwa[h2] at h1
 have hs:=FD (f:=QE.Amount) hsnd;have hall:∀e∈l',(1<=e.2.Amount/\e.2.Amount<=17179869184)/\0<=e.2.Sent/\e.2.Sent<=65536:=λe he=>h.mov e.2 (hsnd.mem_iff.1 (List.mem_map_of_mem he));rw[AF hr hd hall h.used.1 (by rw[hs];exact h.used.2) h.due.1 (by rw[hs];exact h.due.2),Gz hn]
 have e1:m.filter (λe=> !(l'.any (λy=>ZH r y.2==d&&y.1==e.1)))=m.filter (λe=> !(ZH r e.2==d)):=List.filter_congr λe he=>by
  congr 1;rw[Bool.eq_iff_iff,List.any_eq_true];simp only[Bool.and_eq_true,beq_iff_eq];constructor
  ·rintro⟨y,hy,h1,h2⟩;have:=Pl hn (hl'.mem_iff.1 hy) he h2;rw[<-this];exact h1
  ·intro h1;exact⟨e,hl'.mem_iff.2 he,h1,rfl⟩
 rw[e1];have e2:YO QE.Amount ((l'.map Prod.snd).filter (λp=>ZH r p==d))=YO QE.Amount (u.B.Moving.filter (λp=>ZH r p==d)):=FD (hsnd.filter _);have e3:YO (λp=>U6 r p.Amount d) ((l'.map Prod.snd).filter (λp=>ZH r p==d))=YO (λp=>U6 r p.Amount d) (u.B.Moving.filter (λp=>ZH r p==d)):=FD (hsnd.filter _);simp only[Tj,MO,Kq,e2,e3]
theorem Pk(hr:Yy r)(h0:0<=day){R:KM}:∀{ks:List Int} {u:Acc} {m:List (Int×QE)},ks.Pairwise (·< ·)->(∀d∈ks,0<=d/\d<=day)->yy r u->(∀p∈u.B.Moving,ZH r p<=day->ZH r p∈ks)->m.Perm (u.B.Moving.map GD)->
  ∃m',YI (Yb (some 0)) ks ([Kq r t u],[m],R)=some ([Kq r t (HI r day u)],[m'],R)/\m'.Perm ((HI r day u).B.Moving.map GD)
 | [],u,m,_,_,h,hk,hm=>by
  have e:=qE (r:=r) (d:=day) (s:=u) λp hp=>by
   have:=hk p hp;simp only[List.not_mem_nil,imp_false] at this;omega
  rw[e];exact⟨m,rfl,hm⟩
 | d::ks,u,m,hs,hd,h,hk,hm=>by
  have hs' :=List.pairwise_cons.1 hs;have hdd:=hd d (List.mem_cons_self ..)
  have hge:∀p∈u.B.Moving,d<=ZH r p:=λp hp=>by
   by_cases hc:ZH r p<=day
   ·rcases List.mem_cons.1 (hk p hp hc) with e | e
    ·omega
    ·have:=hs'.1 _ e;omega
   ·omega
  have hpm:=zb (t:=t) hr hdd.1 h hm;rw[Es hge] at hpm
  have hmo:(Kq r t u).moving=some 0:=rfl
  have step:Yb (some 0) d ([Kq r t u],[m],R)=some ([Kq r t (HI r d u)],[m.filter (λe=> !(ZH r e.2==d))],R):=by
   unfold Yb;simp only[Option.bind_some,List.getElem?_cons_zero,hmo,hpm]
  have hm2:(m.filter (λe=> !(ZH r e.2==d))).Perm ((HI r d u).B.Moving.map GD):=by
   refine(hm.filter _).trans (.of_eq ?_);rw[List.filter_map];show(u.B.Moving.filter (λp=> !(ZH r p==d))).map GD=(u.B.Moving.filter (λp=>decide (d < ZH r p))).map GD;congr 1;refine List.filter_congr λp hp=> ?_;have:=hge p hp;by_cases e:ZH r p=d
   ·simp[e]
   ·have e2:d < ZH r p:=by omega
    simp[e,e2]
  obtain⟨m',g1,g2⟩:=Pk hr h0 (R:=R) hs'.2 (λq hq=>hd q (List.mem_cons_of_mem _ hq)) (h.book hr (d:=d)) (λp hp hl=>by
   have hp' :=List.mem_filter.1 hp;rcases List.mem_cons.1 (hk p hp'.1 hl) with e | e
   ·have:=hp'.2;simp only[decide_eq_true_eq] at this;omega
   ·exact e) hm2
  rw[qF hdd.2] at g1 g2
  exact⟨m',by simp only[YI,step,Option.bind_some];exact g1,g2⟩
theorem IH(h:Xy r n t s)(hday:t<=day)(h0:0<=t)(hd:day<=65536){u:Acc}(hu:u.B.Bonds=s.B.Bonds)(hu2:u.Sums=s.Sums):
  ZV (Kv day 0 (Kq r t u)) (0,[Kq r t u])=some [Kq r t {u with Sums:=λi=>if i < 16 then s.Sums i+s.B.Bonds i*(day - t) else s.Sums i}]:=by
 obtain⟨f,hf,hloop⟩:=Xt (body:=Kv day 0 (Kq r t u)) (λi (f:Nat->Int)=>((i:Int),[Kq r t {u with Sums:=f}])) (λf=>[Kq r t {u with Sums:=f}]) (λi f=>f=λk=>if k < i then s.Sums k+s.B.Bonds k*(day - t) else s.Sums k) 16
  (λi f hi hf=>by
   have e:YP 16 ((i:Nat):Int)=some i:=HA hi;have h1:=h.sums i hi;have h2:=h.bonds i hi;have hfi:f i=s.Sums i:=by rw[hf];simp
   have hm0:0<=s.B.Bonds i*(day - t):=Int.mul_nonneg h2.1 (by omega);have hm1:s.B.Bonds i*(day - t)<=17179869184*(day - t):=Int.mul_le_mul_of_nonneg_right h2.2 (by omega);have eb:(Kq r t u).book.Bonds i=s.B.Bonds i:=by show u.B.Bonds i=_;rw[hu]
   have ed:(Kq r t {u with Sums:=f}).day=t:=rfl;have es:(Kq r t {u with Sums:=f}).sums i=s.Sums i:=hfi;refine⟨ZI f i (s.Sums i+s.B.Bonds i*(day - t)),?_,?_⟩
   ·unfold Kv;rw[if_pos (by simp;omega)];simp only[e,Option.bind_some,QV,eb,List.getElem?_cons_zero,ed,es,List.set_cons_zero,SI (by omega:i<=4294967296)];rw[Qs (n:=day - t) (by omega) (by omega),Qs (n:=s.B.Bonds i*(day - t)) (by omega) (by omega),Qs (n:=s.Sums i+s.B.Bonds i*(day - t)) (by omega) (by omega)];rfl
   ·funext k;by_cases hk:k=i
    ·subst hk;rw[Ug,if_pos (by omega)]
    ·rw[Wn hk,hf];by_cases hlt:k < i
     ·simp only[hlt,if_true];rw[if_pos (by omega)]
     ·simp only[hlt,if_false];rw[if_neg (by omega)])
  (λf hf=>by unfold Kv;rw[if_neg (by simp)]) 16 0 u.Sums rfl (by rw[hu2];funext k;simp)
 have h0' :ZV (Kv day 0 (Kq r t u)) (0,[Kq r t u])=some [Kq r t {u with Sums:=f}]:=hloop;rw[h0',hf]
theorem NN(hr:Yy r)(h:Xy r n t s)(hn:n<=1000)(h0:0<=t)(hday:t<=day)(hd:day<=65536)(hp:PR r t s A1 A2 A3):
  ∃A1' A2' A3',J9 A1 A2 A3 (some 0) day=some (A1',A2',A3')/\PR r day (WV r t day s) A1' A2' A3' :=by
 obtain⟨m,hm,hmp⟩:=hp.m;obtain⟨kk,rest,hk,hkn,hkg⟩:=hp.k;have hu:=h.bt hn (by omega)
 have hmem:∀e∈m,e.2∈s.B.Moving:=λe he=>by
  obtain⟨q,hq,rfl⟩:=List.mem_map.1 (hmp.mem_iff.1 he);exact hq
 have hL:=jI (A3:=A3) (day:=day) hr hp.o hm (by have:=hmp.length_eq;have:=h.mlen;simp at*;omega) λe he=>(hu.mov e.2 (hmem e he)).2
 obtain⟨m',hlo,hm'⟩:=Pk (t:=t) hr (by omega:0<=day) (R:=A3++[Wt r day [] m]) (ks:=jz r day m) (u:=s) (m:=m) Iq (λd hd=>by
   obtain⟨h1,e,he,h2⟩:=zd.1 hd;have:=(hu.mov e.2 (hmem e he)).2;have:=hr.transit;unfold ZH at h2;omega) hu (λp hp hl=>zd.2 ⟨hl,GD p,hmp.mem_iff.2 (List.mem_map_of_mem hp),rfl⟩) hmp
 have hsu:=IH h hday h0 hd (u:=HI r day s) rfl rfl;unfold J9;rw[Option.bind_some];refine⟨[Kq r day (WV r t day s)],[m'],A3++[Wt r day [] m],ZN hL (ZN (by rw[hp.o,hm];exact hlo) ?_),rfl,⟨m',rfl,hm'⟩,⟨kk,rest++[Wt r day [] m],by rw[hk];rfl,hkn,hkg⟩⟩;simp only[Option.bind_some,List.getElem?_cons_zero];refine ZN hsu ?_;simp only[Option.bind_some,List.getElem?_cons_zero,QV,List.set_cons_zero];rfl
end
section
open Go.Dec
variable{r:Hb}{n:Nat}{t d:Int}{s s' :Acc}{x:Ev}{p:QE}
abbrev uR:Bk:=ZP.mk (λ_=>0) ([]) 0 0 0 0 0 0 0 0
def yI:(Acc ⊕ Int)×Nat->Bk×Int×Int
 | (.inl a,k)=>(a.B,(k:Int),0)
 | (.inr e,k)=>(uR,(k:Int),e)
theorem yW{e:Int}(h:FX r s x= .inr e):e=4∨e=5∨e=10∨e=11∨e=12:=by
 unfold FX CF R8 D8 FJ CE Ib at h
 repeat' split at h
 all_goals first | (cases h;done) | (simp only[Sum.inr.injEq] at h;subst h;simp)
theorem qt{c:TP}{e:Int}(h:Wz r c x= .inr e):e=1∨e=7∨e=4∨e=5∨e=10∨e=11∨e=12:=by
 unfold Wz at h
 split at h
 ·simp only[Sum.inr.injEq] at h;omega
 ·split at h
  ·simp only[Sum.inr.injEq] at h;omega
  ·split at h
   ·cases h
   ·rename_i e' he;simp only[Sum.inr.injEq] at h
    subst h;have:=yW he;omega
theorem Ni(hr:Yy r){day:Int}:∀{l:List Ev} {n:Nat} {c c' :TP} {k:Nat},Xy r n c.day c.acc->0<=c.day->c.day<=day->Po r day l n c=(.inl c',k)->Xy r k c'.day c'.acc/\0<=c'.day/\c'.day<=day/\n<=k/\k<=n+l.length
 | [],n,c,c',k,h,h0,h1,hg=>by
  simp only[Po,Prod.mk.injEq,Sum.inl.injEq] at hg
  obtain⟨rfl,rfl⟩:=hg;exact⟨h,h0,h1,Nat.le_refl _,by simp⟩
 | x::l,n,c,c',k,h,h0,h1,hg=>by
  rw[Po] at hg
  split at hg
  ·rename_i hx;split at hg
   ·rename_i c1 hs;obtain⟨g1,g2,g3,_⟩:=SK hr h h0 hs;obtain⟨a1,a2,a3,a4,a5⟩:=Ni hr g1 (by omega) (by omega) hg;exact⟨a1,a2,a3,by omega,by simp only[List.length_cons];omega⟩
   ·simp only[Prod.mk.injEq,reduceCtorEq,false_and] at hg
  ·simp only[Prod.mk.injEq,Sum.inl.injEq] at hg
   obtain⟨rfl,rfl⟩:=hg;exact⟨h,h0,h1,Nat.le_refl _,by simp⟩
def MH:(TP ⊕ Int)×Nat->(Int×Int×Acc) ⊕ (Bk×Int×Int)
 | (.inl c,k)=>.inl (c.day,(k:Int),c.acc)
 | (.inr e,k)=>.inr (uR,(k:Int),e)
end
section
open Go.Dec
variable{r:Hb}{n:Nat}{t d day:Int}{s:Acc}{x:Ev}{p:QE}{A1:List QD}{A2:PM}{A3:KM}
abbrev qV:=(List QD×PM×KM×Ev)->Option vX
theorem Cv:∃D:Nat->qV,V8 (some 0)=some D/\∀(x:Ev),XR x=true->∃j,YP 7 x.Kind=some j/\
  ∀{r:Hb} {n:Nat} {t:Int} {s:Acc} {A1:List QD} {A2:PM} {A3:KM},Yy r->Xy r n t s->n<=1000->0<=t->t<=65536->PR r t s A1 A2 A3->x.Day=t->Ww r t (FX r s x) (D j (A1,A2,A3,x)):=by
 refine⟨_,rfl,λx he=> ?_⟩;have ix:∀{k:Nat},k < 7->x.Kind=(k:Int)->YP 7 x.Kind=some k:=λhk e=>by rw[e];exact HA hk
 rcases Lr he with k | k | k | k | k | k | k
 ·refine⟨0,ix (by omega) k,λhr h hn h0 ht hp hday=> ?_⟩;have:=Lw h hn hp he k;unfold FX;rw[k];exact this
 ·refine⟨1,ix (by omega) k,λhr h hn h0 ht hp hday=> ?_⟩;have:=IL h hp he k;unfold FX;rw[k];exact this
 ·refine⟨2,ix (by omega) k,λhr h hn h0 ht hp hday=> ?_⟩;have:=MA hr h hn h0 hp he k hday;unfold FX;rw[k];exact this
 ·refine⟨3,ix (by omega) k,λhr h hn h0 ht hp hday=> ?_⟩;have:=N9 hr h hn hp he k;unfold FX;rw[k];exact this
 ·refine⟨4,ix (by omega) k,λhr h hn h0 ht hp hday=> ?_⟩;have:=Lq h hn hp he k;unfold FX;rw[k];exact this
 ·refine⟨5,ix (by omega) k,λhr h hn h0 ht hp hday=> ?_⟩;have:=IG hr h hn h0 ht hp he k hday;unfold FX;rw[k];exact this
 ·refine⟨6,ix (by omega) k,λhr h hn h0 ht hp hday=> ?_⟩;have:=zK h hn hp he k;unfold FX;rw[k];exact this
def vY(r:Hb)(out:(TP ⊕ Int)×Nat)(q:Option ((Int×List QD×PM×KM) ⊕ (Zl×Int×Int×Option Nat))):Prop:=match out with
 | (.inl c,k)=>∃A1 A2 A3,q=some (.inl ((k:Int),A1,A2,A3))/\PR r c.day c.acc A1 A2 A3
 | (.inr e,k)=>q=some (.inr (⟨e⟩,(k:Int),0,some 0))
theorem PK(hr:Yy r){l:List Ev}(hd:day<=65536)(hl:l.length<=1000){D:Nat->qV}(hD:∀(x:Ev),XR x=true->∃j,YP 7 x.Kind=some j/\
  ∀{r:Hb} {n:Nat} {t:Int} {s:Acc} {A1:List QD} {A2:PM} {A3:KM},Yy r->Xy r n t s->n<=1000->0<=t->t<=65536->PR r t s A1 A2 A3->x.Day=t->Ww r t (FX r s x) (D j (A1,A2,A3,x)))
  {r33:Option Nat×List QD×PM×KM} (h33:r33.1=some 0):∀(post:List Ev) (n:Nat) (c:TP) (A1:List QD) (A2:PM) (A3:KM),l.drop n=post->n<=l.length->Xy r n c.day c.acc->0<=c.day->c.day<=day->PR r c.day c.acc A1 A2 A3->
  vY r (Po r day post n c) (ZV (Z2 l day r33 D) ((n:Int),A1,A2,A3))
 | [],n,c,A1,A2,A3,hp,hn,h,h0,h1,hP=>by
  have e:n=l.length:=by have:=List.drop_eq_nil_iff.1 hp;omega
  have:Z2 l day r33 D ((n:Int),A1,A2,A3)=some (.done (.inl ((n:Int),A1,A2,A3))):=by
   unfold Z2;rw[if_neg (by simp[e])];rfl
  rw[ZR,this];exact⟨A1,A2,A3,rfl,hP⟩
 | x::post,n,c,A1,A2,A3,hp,hn,h,h0,h1,hP=>by
  have hlt:n < l.length:=by
   rcases Nat.lt_or_ge n l.length with h | h
   ·exact h
   ·rw[List.drop_eq_nil_of_le h] at hp;cases hp
  have hx:l[n]? =some x:=by rw[<-List.head?_drop,hp];rfl
  have hp' :l.drop (n+1)=post:=by rw[<-List.tail_drop,hp];rfl
  have o1:(A1[0]?)=some (Kq r c.day c.acc):=by rw[hP.o];rfl
  have od:(Kq r c.day c.acc).day=c.day:=rfl;rw[Po];by_cases hle:x.Day<=day
  ·rw[if_pos hle];by_cases he:XR x=true
   ·by_cases hlt2:x.Day < c.day
    ·have:Z2 l day r33 D ((n:Int),A1,A2,A3)=some (.done (.inr (⟨7⟩,(n:Int),0,some 0))):=by
      unfold Z2;rw[if_pos (by simp;omega)];simp only[Kg,hx,Option.bind_some,hle,decide_true,if_true,DC,he];rw[UQ (BF 1),h33];have e1:decide (x.Day≥c.day)=false:=by simp;omega
      simp only[Option.bind_some,o1,od,e1];rw[UK (S7 7)]
     have hs:Wz r c x= .inr 7:=by unfold Wz;simp only[he,Bool.not_true,Bool.false_eq_true,if_false,hlt2,if_true]
     rw[ZR,this,hs];rfl
    ·obtain⟨B1,B2,B3,hpass,hPR⟩:=NN hr h (by omega) h0 (show c.day<=x.Day by omega) (by omega) hP;obtain⟨j,hj,hdo⟩:=hD x he;have hpk:=MF hr h (show c.day<=x.Day by omega);have hdo:=hdo hr hpk (by omega) (by omega) (by omega) hPR rfl
     have hb:Z2 l day r33 D ((n:Int),A1,A2,A3)=Qy (D j (B1,B2,B3,x)) (λq136=>some (.done (.inr (q136,(n:Int),0,some 0)))) λr_130=>some (.next (((n+1:Nat):Int),r_130.1,r_130.2.1,r_130.2.2)):=by
      unfold Z2;rw[if_pos (by simp;omega)];simp only[Kg,hx,Option.bind_some,hle,decide_true,if_true,DC,he];rw[UQ (BF 1),h33];have e1:decide (x.Day≥c.day)=true:=by simp;omega
      simp only[Option.bind_some,o1,od,e1];rw[UQ (BF 7),hpass];simp only[Option.bind_some,hj,QV,SI (by omega:n<=4294967296)]
     have hs:Wz r c x=match FX r (WV r c.day x.Day c.acc) x with | .inl a=>.inl ⟨a,x.Day⟩ | .inr e=>.inr e:=by unfold Wz;simp only[he,Bool.not_true,Bool.false_eq_true,if_false,hlt2]<;>rfl
     unfold Ww at hdo
     cases hq:FX r (WV r c.day x.Day c.acc) x with
     | inl a=>
      rw[hq] at hdo
      obtain⟨C1,C2,C3,hC,hPC⟩:=hdo;rw[UQ hC] at hb
      rw[hq] at hs
      have hs:Wz r c x= .inl ⟨a,x.Day⟩:=hs;obtain⟨g1,g2,g3,_⟩:=SK hr h h0 hs;rw[ZR,hb,hs];exact PK hr hd hl hD h33 post (n+1) ⟨a,x.Day⟩ C1 C2 C3 hp' hlt g1 (by omega) hle hPC
     | inr e=>
      rw[hq] at hdo
      rw[UK hdo] at hb
      rw[hq] at hs
      have hs:Wz r c x= .inr e:=hs;rw[ZR,hb,hs];rfl
   ·simp only[Bool.not_eq_true] at he
    have:Z2 l day r33 D ((n:Int),A1,A2,A3)=some (.done (.inr (⟨1⟩,(n:Int),0,some 0))):=by
     unfold Z2;rw[if_pos (by simp;omega)];simp only[Kg,hx,Option.bind_some,hle,decide_true,if_true,DC,he];rw[UK (S7 1),h33]
    have hs:Wz r c x= .inr 1:=by unfold Wz;simp only[he,Bool.not_false,if_true]
    rw[ZR,this,hs];rfl
  ·have:Z2 l day r33 D ((n:Int),A1,A2,A3)=some (.done (.inl ((n:Int),A1,A2,A3))):=by
    unfold Z2;rw[if_pos (by simp;omega)];simp only[Kg,hx,Option.bind_some,hle,decide_false,Bool.false_eq_true,if_false]
   rw[ZR,this,if_neg hle];exact⟨A1,A2,A3,rfl,hP⟩
def Ms(r:Hb)(day:Int)(out:(Acc ⊕ Int)×Nat)(q:Option (Option Nat×Int×Int×List QD×PM×KM)):Prop:=match out with
 | (.inl a,k)=>∃A1 A2 A3,q=some (some 0,(k:Int),0,A1,A2,A3)/\PR r day a A1 A2 A3
 | (.inr e,k)=>q=some (none,(k:Int),e,[],[],[])
theorem uZ(r:Hb):PR r 0 Dz [Kq r 0 Dz] [[]] [[]]:=⟨rfl,⟨[],rfl,by simp[Dz]⟩,⟨[],[],rfl,by simp,λi=>by simp[Qc,Dz]⟩⟩
theorem Xq{l:List Ev}(hlr:r.Rates.length<=1000000)(hl:l.length<=1000∨4096 < l.length):Ms r day (Ws r l day) (WG r l day):=by
 unfold WG Ws;rw[Ci hlr,Option.bind_some];by_cases h1:H7 r=true
 ·simp only[h1,Bool.not_true,Bool.false_eq_true,if_false];by_cases h2:l.length > 4096
  ·have e2:decide ((l.length:Int) > 4096)=true:=by simp;omega
   rw[if_pos h2,if_pos e2];rfl
  ·have e2:¬decide ((l.length:Int) > 4096)=true:=by simp;omega
   rw[if_neg h2,if_neg e2];by_cases h3:WL day 0 65536=true
   ·simp only[AL,h3,Bool.not_true,Bool.false_eq_true,if_false];have hr:=S3.1 h1;have hd:=YN.1 h3;obtain⟨D,hD,hDD⟩:=Cv;have hno:Ut [] [] [] r=some (some 0,[Kq r 0 Dz],[[]],[[]]):=rfl;have hloop:=PK hr hd.2 (by omega:l.length<=1000) hDD (r33:=(some 0,[Kq r 0 Dz],[[]],[[]])) rfl l 0 Mf _ _ _ (List.drop_zero ..) (Nat.zero_le _) (Mk r) (by simp[Mf]) (by simp[Mf];omega) (uZ r);rw[hno,Option.bind_some,hD,Option.bind_some];unfold vY at hloop
    unfold EX;cases hg:Po r day l 0 Mf with
    | mk q k=>
     rw[hg] at hloop
     cases q with
     | inr e=>
      have hloop:ZV (Z2 l day (some 0,[Kq r 0 Dz],[[]],[[]]) D) (0,[Kq r 0 Dz],[[]],[[]])=_:=hloop;rw[hloop];rfl
     | inl c=>
      obtain⟨A1,A2,A3,hq,hP⟩:=hloop;have hq:ZV (Z2 l day (some 0,[Kq r 0 Dz],[[]],[[]]) D) (0,[Kq r 0 Dz],[[]],[[]])=_:=hq;obtain⟨a1,a2,a3,a4,a5⟩:=Ni hr (Mk r) (by simp[Mf]) (by simp[Mf];omega) hg;obtain⟨B1,B2,B3,hpass,hPR⟩:=NN hr a1 (by omega) a2 a3 hd.2 hP;rw[hq,Option.bind_some];exact⟨B1,B2,B3,ZN hpass rfl,hPR⟩
   ·simp only[Bool.not_eq_true] at h3
    simp only[AL,h3,Bool.not_false,if_true];rfl
 ·simp only[Bool.not_eq_true] at h1
  simp only[h1,Bool.not_false,if_true];rfl
theorem LM{l:List Ev}{a:Acc}{k:Nat}(h:Ws r l day=(.inl a,k)):Yy r/\Xy r k day a/\(0<=day/\day<=65536)/\k<=l.length:=by
 unfold Ws at h
 split at h
 ·simp at h
 ·rename_i h1;split at h
  ·simp at h
  ·split at h
   ·simp at h
   ·rename_i h3;have hr:=S3.1 (by simpa using h1:H7 r=true);have hd:=YN.1 (by simpa using h3:WL day 0 65536=true);unfold EX at h
    split at h
    ·rename_i c k' hg;simp only[Prod.mk.injEq,Sum.inl.injEq] at h
     obtain⟨rfl,rfl⟩:=h;obtain⟨a1,a2,a3,a4,a5⟩:=Ni hr (Mk r) (by simp[Mf]) (by simp[Mf];omega) hg;exact⟨hr,MF hr a1 a3,hd,by omega⟩
    ·simp at h
theorem yV{l:List Ev}:∀{n:Nat} {c:TP} {e:Int} {k:Nat},Po r day l n c=(.inr e,k)->(e=1∨e=7∨e=4∨e=5∨e=10∨e=11∨e=12)/\n<=k/\k < n+l.length:=by
 induction l with
 | nil=>intro n c e k h;simp[Po] at h
 | cons x l ih=>
  intro n c e k h;rw[Po] at h
  split at h
  ·split at h
   ·have:=ih h;simp only[List.length_cons];exact⟨this.1,by omega,by omega⟩
   ·rename_i e' hs;simp only[Prod.mk.injEq,Sum.inr.injEq] at h
    obtain⟨rfl,rfl⟩:=h;simp only[List.length_cons];exact⟨qt hs,by omega,by omega⟩
  ·simp at h
theorem NM{l:List Ev}{e:Int}{k:Nat}(h:Ws r l day=(.inr e,k)):e≠0:=by
 unfold Ws at h
 split at h
 ·simp at h;omega
 ·split at h
  ·simp at h;omega
  ·split at h
   ·simp at h;omega
   ·unfold EX at h
    split at h
    ·simp at h
    ·rename_i e' k' hg;simp only[Prod.mk.injEq,Sum.inr.injEq] at h
     obtain⟨rfl,rfl⟩:=h;have:=yV hg;omega
end
section
open Go.Dec
variable{r:Hb}{n:Nat}{t d day:Int}{s a:Acc}{x:Ev}{p:QE}{l:List Ev}
theorem Fs:∀{a b:List Int},a.Pairwise (·< ·)->b.Pairwise (·< ·)->(∀x,x∈a↔x∈b)->a=b
 | [],[],_,_,_=>rfl
 | [],y::b,_,_,h=>by have:=(h y).2 (by simp);simp at this
 | x::a,[],_,_,h=>by have:=(h x).1 (by simp);simp at this
 | x::a,y::b,ha,hb,h=>by
  have ha' :=List.pairwise_cons.1 ha;have hb' :=List.pairwise_cons.1 hb
  have exy:x=y:=by
   have h1:=(h x).1 (by simp);have h2:=(h y).2 (by simp);rcases List.mem_cons.1 h1 with e | h1
   ·exact e
   ·rcases List.mem_cons.1 h2 with e | h2
    ·exact e.symm
    ·have:=hb'.1 x h1;have:=ha'.1 y h2;omega
  subst exy;congr 1;refine Fs ha'.2 hb'.2 λz=> ?_;constructor
  ·intro hz;have:=(h z).1 (List.mem_cons_of_mem _ hz);rcases List.mem_cons.1 this with rfl | this
   ·have:=ha'.1 z hz;omega
   ·exact this
  ·intro hz;have:=(h z).2 (List.mem_cons_of_mem _ hz);rcases List.mem_cons.1 this with rfl | this
   ·have:=hb'.1 z hz;omega
   ·exact this
theorem Lg{l:List QE}(h:l.Pairwise (λp q=>p.Id < q.Id)):(l.map QE.Id).Pairwise (·< ·):=List.pairwise_map.2 h
theorem zf{m:List (Int×QE)}{l:List QE}(hs:l.Pairwise (λp q=>p.Id < q.Id))(hm:m.Perm (l.map GD))(hr:∀p∈l,0<=p.Id/\p.Id<=1073741824)(hl:l.length<=1000000):HU m=some (l.map QE.Id):=by
 have hmp:(m.map Prod.fst).Perm (l.map QE.Id):=by
  have:=hm.map Prod.fst;have e:(l.map GD).map Prod.fst=l.map QE.Id:=by rw[List.map_map];rfl
  rwa[e] at this
 unfold HU;rw[if_pos]
 ·congr 1;have h1:((m.map Prod.fst).mergeSort (λa b=>decide (a<=b))).Pairwise (λa b=>decide (a<=b)=true):=List.pairwise_mergeSort (λa b c h1 h2=>by simp only[decide_eq_true_eq] at*;omega) (λa b=>by simp only[Bool.or_eq_true,decide_eq_true_eq];omega) _;have hp:=(List.mergeSort_perm (m.map Prod.fst) (λa b=>decide (a<=b))).trans hmp;have hnd:(l.map QE.Id).Nodup:=(Lg hs).imp λh=>Int.ne_of_lt h;have h2:((m.map Prod.fst).mergeSort (λa b=>decide (a<=b))).Nodup:=hp.nodup_iff.2 hnd;exact Fs ((h1.and h2).imp λh=>by have:=h.1;have:=h.2;simp only[decide_eq_true_eq] at*;omega) (Lg hs) λx=>hp.mem_iff
 ·refine⟨List.all_eq_true.2 λy hy=> ?_,by have:=hm.length_eq;simp at this;omega⟩;obtain⟨q,hq,rfl⟩:=List.mem_map.1 (hm.mem_iff.1 hy);have:=hr q hq;exact decide_eq_true (show -9223372036854775808<=q.Id/\q.Id<=9223372036854775807 by omega)
theorem zj{l:List QE}(hs:l.Pairwise (λp q=>p.Id < q.Id)){p:QE}(hp:p∈l):l.find? (λq=>q.Id==p.Id)=some p:=by
 cases h:l.find? (λq=>q.Id==p.Id) with
 | none=>have:=List.find?_eq_none.1 h p hp;simp at this
 | some q=>
  have hq:=List.mem_of_find?_eq_some h;have e:q.Id=p.Id:=by simpa using List.find?_some h
  rw[jL hs hq hp e]
theorem qU{amount:Int}(hlr:r.Rates.length<=1000000):W7 r amount day=some (if !H7 r then(0,1) else if !WL amount 0 17179869184|| !WL day 0 65536 then(0,2) else(U6 r amount day,0)):=by
 unfold W7;rw[Ci hlr,Option.bind_some];simp only[Hx,AL];by_cases h1:H7 r=true
 ·simp only[h1,Bool.not_true,Bool.false_eq_true,if_false];by_cases h2:(!WL amount 0 17179869184|| !WL day 0 65536)=true
  ·rw[if_pos h2,if_pos h2]
  ·rw[if_neg h2,if_neg h2];simp only[Bool.or_eq_true,Bool.not_eq_true',not_or,Bool.not_eq_false] at h2
   have ha:=YN.1 h2.1;have hd:=YN.1 h2.2;exact ZN (AO (S3.1 h1) ha.1 ha.2 hd.1) rfl
 ·simp only[Bool.not_eq_true] at h1
  simp only[h1,Bool.not_false,if_true]
theorem Ia{a:Acc}{k:Nat}(h:Ws r l day=(.inl a,k)):l.length<=4096:=by
 rcases Nat.lt_or_ge 4096 l.length with h1 | h1
 ·unfold Ws at h
  split at h
  ·simp at h
  ·simp at h
 ·exact h1
theorem LX{A1:List QD}{m:List (Int×QE)}{k e:Int}{o:Option Nat}{A3:KM}(hs:a.B.Moving.Pairwise (λp q=>p.Id < q.Id))(hm:m.Perm (a.B.Moving.map GD))(hl:a.B.Moving.length<=1000000):
  ZV (Va (o,k,e,A1,[m],A3) (Kq r day a) (a.B.Moving.map QE.Id)) (0,(Kq r day a).book)=some a.B:=by
 obtain⟨b,hb,hloop⟩:=Hv (body:=Va (o,k,e,A1,[m],A3) (Kq r day a) (a.B.Moving.map QE.Id)) (λi (b:Bk)=>((i:Int),b)) (λb=>b) (λpre b=>b={a.B with Moving:=pre}) a.B.Moving
  (λpre q post b hl' hb=>by
   have hil:pre.length < a.B.Moving.length:=by rw[hl'];simp
   have hx:(a.B.Moving.map QE.Id)[pre.length]? =some q.Id:=by rw[hl'];simp
   have hmo:(Kq r day a).moving=some 0:=rfl;have hq:Qc m q.Id=some q:=by rw[Lj hs hm];exact zj hs (by rw[hl'];simp)
   refine⟨{a.B with Moving:=pre++[q]},?_,rfl⟩;subst hb;unfold Va;rw[if_pos (by simp;omega)];simp only[Kg,hx,Option.bind_some,hmo,List.getElem?_cons_zero,hq,Option.getD_some];refine ZN (C8 (by simp;omega)) ?_;simp only[QV,SI (by omega:pre.length<=4294967296)])
  (λb hb=>by
   unfold Va;rw[if_neg (by simp)]) a.B.Moving [] {a.B with Moving:=[]} rfl rfl
 have h0:ZV (Va (o,k,e,A1,[m],A3) (Kq r day a) (a.B.Moving.map QE.Id)) (0,(Kq r day a).book)=some b:=hloop;rw[h0,hb]
theorem CH(hlr:r.Rates.length<=1000000)(hl:l.length<=1000∨4096 < l.length):WH r l day=some (yI (Ws r l day)):=by
 have hp:=Xq (day:=day) hlr hl;unfold Ms at hp
 unfold WH;cases h:Ws r l day with
 | mk q k=>
  rw[h] at hp
  cases q with
  | inr e=>
   have he:=NM h;have hp:WG r l day=some (none,(k:Int),e,[],[],[]):=hp;have hne:(e != 0)=true:=by simpa using he
   rw[hp];simp only[Option.bind_some,hne,if_true,yI]
  | inl a=>
   obtain⟨A1,A2,A3,hq,hP⟩:=hp;obtain⟨hr,hok,hd,hk⟩:=LM h;obtain⟨m,hm,hmp⟩:=hP.m;have hml:a.B.Moving.length<=1000000:=by have:=Ia h;have:=hok.mlen;omega
   have ho:A1[0]? =some (Kq r day a):=by rw[hP.o];rfl
   have hks:VU A2 (some 0)=some (a.B.Moving.map QE.Id):=by
    rw[hm];simp only[VU,List.getElem?_cons_zero,Option.bind_some];exact zf hok.sorted hmp (λp hp=>(hok.mov p hp).id) hml
   rw[hq];simp only[Option.bind_some,bne_self_eq_false,Bool.false_eq_true,if_false,ho];have hno:yJ (Kq r day a).book.Moving=some ():=rfl;have hmo:(Kq r day a).moving=some 0:=rfl;rw[hno,Option.bind_some,hmo,hks,Option.bind_some,hm];exact ZN (LX hok.sorted hmp hml) rfl
end
end Go.Proofs.YtogaibncbkhjlaaGreatDoor.Ex
end
