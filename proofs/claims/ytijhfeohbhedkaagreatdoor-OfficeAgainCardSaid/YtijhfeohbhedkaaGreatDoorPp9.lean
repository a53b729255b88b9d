/- For OfficeAgain. -/
import Derived.Test.YtijhfeohbhedkaaGreatDoorPp8
noncomputable section
namespace Go.Dec
abbrev IN:=@List.getElem?_cons_zero
abbrev tO:=@List.pairwise_cons
abbrev pQ:=@Bool.not_eq_true
abbrev pR:=@List.getElem?_set_self
abbrev pV:=@List.getElem?_set_ne
abbrev pX:=@Int.natCast_zero
abbrev pf:=@Int.le_refl
abbrev pn:=@decide_true
abbrev po:=@decide_false
abbrev py:=@Sum.inr.injEq
abbrev rB:=@decide_eq_true
abbrev rC:=@decide_eq_false
abbrev rE:=@Sum.inl.injEq
abbrev rT:=@List.set_set
abbrev rZ:=@List.mem_of_find?_eq_some
abbrev rf:=@Int.mul_nonneg
abbrev rn:=@List.set_cons_zero
abbrev rp:=@List.filter_filter
abbrev ru:=@List.length_singleton
abbrev ry:=@Classical.byContradiction
abbrev nB:=@Bool.and_eq_true_iff
abbrev nN:=@List.getElem?_mapIdx
abbrev nR:=@List.takeWhile_cons
abbrev nV:=@Int.natCast_add
abbrev nW:=@Bool.eq_iff_iff
abbrev nj:=@Bool.false_and
abbrev nr:=@List.foldl_cons
abbrev nu:=@List.mergeSort_perm
abbrev nv:=@Bool.or_self
abbrev nx:=@ge_iff_le
abbrev ny:=@Option.isNone_some
abbrev mD:=@Int.mul_le_mul
abbrev mK:=@bne_self_eq_false
abbrev mV:=@Int.sub_self
abbrev mY:=@List.length_filter_le
abbrev mu:=@List.findIdx?_eq_some_iff_getElem
abbrev mz:=@List.pairwise_map
abbrev lO:=@List.not_mem_nil
abbrev lX:=@List.perm_ext_iff_of_nodup
abbrev la:=@List.findIdx?_eq_none_iff
abbrev ld:=@List.any_cons
abbrev lg:=@Int.add_assoc
abbrev lk:=@Bool.and_comm
abbrev ll:=@and_assoc
abbrev ln:=@List.pairwise_mergeSort
abbrev lx:=@Nat.sub_self
abbrev eA:=@Int.ne_of_lt
abbrev eB:=@List.set_getElem_self
abbrev eG:=@List.map_id
abbrev eI:=@Int.mul_add
abbrev eP:=@List.length_mapIdx
abbrev eX:=@List.flatten_cons
end Go.Dec
section
set_option maxRecDepth 100000
set_option maxHeartbeats 4000000
namespace Go.Proofs.YtijhfeohbhedkaaGreatDoor
open Go.Dec Go.Proofs.Tryz Go.Shelf Go.RowKit Go.Maps Go.Sort
abbrev Em:UV So->Fz->UV Do->Prop:=fun(x:UV So) _ vs=>vs=[.string<|bs x]
def K8{σ:Type}(y:UV So->σ->H1 (σ×Bool))(s:UV So×σ):H1 (UE (UV So×σ)<|σ ⊕ σ):=
 if decide ((s.1.length:Int) > 0) then(Vz s.1 10).bind λi=>
  if decide (i≥0) then(ZW s.1 0<|ZA<|i+1).bind λu=>(ZW s.1 (ZA<|i+1) s.1.length).bind λv=>(y u s.2).bind λp=>if(!p.2) then some (.done<|.inr p.1) else some (.next (v,p.1))
  else(y s.1 s.2).bind λp=>if(!p.2) then some (.done<|.inr p.1) else some (.next ([],p.1))
 else some (.done<|.inl s.2)
def Xj{σ:Type}(y:UV So->σ->H1 (σ×Bool))(s:UV So)(a:σ):H1 σ:=(ZR (K8 y) (s,a)).bind λo=>match o with | .inl z=>some z | .inr z=>some z
theorem TA(F0:Fz)(σ:Type)(ly:Nat)(Y:σ->Fz->HP)(y:UV So->σ->H1 (σ×Bool))(hy:UY Tryz.prog ly F0 Em Y y)(s:UV So)(b:Nat)(q:σ):Xz Tryz.prog 85 [.func (.yield ly) #[] #[],vP b 0].toArray F0 [pc b [.string<|bs s] 9,Y q F0] (Xj y s q) (λ_ _ _=>True) (λs' F' =>[Y s' F']):=by
 refine Xz.enter func85 J ntmps85 J λr R=> ?_;unfold Xj;refine .k (.loop (fun(s:UV So×σ) a w=>∃f,F0<=f/\Hd 25 [] [(0,.func (.yield ly) #[] #[]),(1,vP b 0)] f [pc b [.string<|bs s.1] 9,Y s.2 f,R] a w) (λo e a w=>match o with | .inl z=>e= .exit 0/\∃f c,F0<=f/\Hd 25 [] [] f [pc b c 9,Y z f,R] a w | .inr z=>e= .ret/\∃f c,F0<=f/\Hd 25 [] [] f [pc b c 9,Y z f,R] a w) ?_ ?_ ?_)
 ·exact λa w h=>⟨F0,Fz.r,h.1.sub<|.k J,h.2⟩
 ·rintro⟨s,st⟩ ctl;refine GC.ex λa w ⟨f,j,hA⟩=>⟨_,hA,?_⟩;unfold K8;refine .w 3<|.fM J V9 J (i:=0) J J<|.dD J J U9 J<|.w 3<|.i J (λhb=> ?_) λhb=> ?_
  ·refine .w 11<|.fM J V9 J (i:=0) J J<|.fX J call86 J J J (SK _ s 10) ?_;rintro i x _ - l2 rfl;refine .w 9<|.i J (λhi=> ?_) λhi=> ?_
   ·refine .d λu hu=>.d λv hv=> ?_;refine .fN (.p [0,1,4] J)<|.fc 9 Qc (by kernel_rfl)<|.fM J V9 J (i:=0) J J<|.w 2<|.aH hu J U9 J J<|.fM J V9 J (i:=0) J J<|.w 2<|.sd hv J U9 J J<|.s J J<|.fp<|.store (cs' :=[.string<|bs v]) W9 J J J J (i:=0) J (Jb J) J J<|.w 6<|.cq J hy J J J (i:=1) J j l2 λp l _ m=>.w 3<|.i J (λhq=> ?_) λhq=> ?_
    ·exact .dC<|Q5.ret λa w h=>⟨J,l,_,Fz.t j<|Fz.t l2 m,h.1.sub<|.k J,h.2⟩
    ·refine .w 2 ?_;exact .n<|Q5.norm λa w h=>⟨l,Fz.t j<|Fz.t l2 m,h.1.sub<|.k J,h.2⟩
   ·refine .fN (.p [0,1,4] J)<|.g<|.fM J V9 J (i:=0) J J<|.s J J<|.store (cs' :=[.string<|bs []]) W9 J J J J (i:=0) J (Jb J) J J<|.w 6<|.cq J hy J J J (i:=1) J j l2 λp l _ m=>.w 3<|.i J (λhq=> ?_) λhq=> ?_
    ·exact .dC<|Q5.ret λa w h=>⟨J,l,_,Fz.t j<|Fz.t l2 m,h.1.sub<|.k J,h.2⟩
    ·refine .w 2 ?_;exact .n<|Q5.norm λa w h=>⟨l,Fz.t j<|Fz.t l2 m,h.1.sub<|.k J,h.2⟩
  ·exact .fZ J<|Q5.exit λa w h=>⟨J,f,_,j,h.1.sub<|.k J,h.2⟩
 ·intro o A hk e a w hD;rcases o with z | z
  ·obtain⟨rfl,f,c,j,hA⟩:=hD;refine ZC J<|GE.app ?_ hk a w hA;exact .br [1,1] results85 .n J j trivial
  ·obtain⟨rfl,f,c,j,hA⟩:=hD;exact Jx<|(Gh [1,1] results85 .n J j trivial) hk a w hA
def H6:Nat->UV So->UV (UV So)
 | 0,_=>[]
 | k+1,s=>if s=[] then[] else if 0<=Go.Lib.indexByte s 10 then s.take ((Go.Lib.indexByte s 10).toNat+1)::H6 k (s.drop<|(Go.Lib.indexByte s 10).toNat+1) else[s]
theorem As:∀(s:UV So) (c:So), -1<=Go.Lib.indexByte s c/\Go.Lib.indexByte s c < (s.length:Int)
 | [],c=>by simp[Go.Lib.indexByte]
 | b::l,c=>by
  have ih:=As l c;simp only[Go.Lib.indexByte,s5];split
  ·omega
  ·split
   ·omega
   ·omega
theorem LL{σ:Type}{y:UV So->σ->H1 (σ×Bool)}:∀(k:Nat) (s:UV So) (st r:σ),s.length<=k->s.length<=1000000000000->Un y (H6 k s) st=some r->ZR (K8 y) (s,st)=some (.inl r)∨ZR (K8 y) (s,st)=some (.inr r)
 | 0,s,st,r,hk,_,h=>by
  obtain rfl:s=[]:=x6 (by omega);simp only[H6,Un,BY] at h
  subst h;left;rw[ZI];simp[K8]
 | k+1,s,st,r,hk,hl,h=>by
  by_cases h0:s=[]
  ·subst h0;simp only[H6,Nm,Un,BY] at h
   subst h;left;rw[ZI];simp[K8]
  ·have hpos:0 < s.length:=by cases s with | nil=>exact absurd rfl h0 | cons=>simp
   obtain⟨i1,i2⟩:=As s 10;simp only[H6,RW h0] at h
   have ec:((10:Int).toNat.toUInt8)=10:=by decide
   rw[ZI];by_cases hi:0<=Go.Lib.indexByte s 10
   ·rw[AT hi] at h
    simp only[Un] at h
    have hw:ZA (Go.Lib.indexByte s 10+1)=Go.Lib.indexByte s 10+1:=Qp (by omega)<|by omega
    have s1:ZW s 0 (ZA<|Go.Lib.indexByte s 10+1)=some (s.take<|(Go.Lib.indexByte s 10).toNat+1):=by
     rw[hw];unfold ZW;rw[AT<|by omega];congr 1;simp only[mf,mB,mR];congr 1;omega
    have s2:ZW s (ZA<|Go.Lib.indexByte s 10+1) s.length=some (s.drop<|(Go.Lib.indexByte s 10).toNat+1):=by
     rw[hw];unfold ZW;rw[AT<|by omega];congr 1;rw[s4 (by simp;skip)];congr 1;omega
    have hb:K8 y (s,st)=(y (s.take<|(Go.Lib.indexByte s 10).toNat+1) st).bind λp=>if(!p.2) then some (.done<|.inr p.1) else some (.next (s.drop<|(Go.Lib.indexByte s 10).toNat+1,p.1)):=by
     unfold K8 Vz;rw[AT (by simpa using hpos),ec];show(if decide (Go.Lib.indexByte s 10≥0) then _ else _)=_;rw[AT (by simpa using hi),s1,s2];rfl
    rw[hb];cases hy:y (s.take<|(Go.Lib.indexByte s 10).toNat+1) st with
    | none=>rw[hy] at h;cases h
    | some p=>
     rw[hy] at h
     simp only[DO] at h ⊢
     by_cases hp:p.2=true
     ·rw[AT hp] at h
      have:=LL k (s.drop<|(Go.Lib.indexByte s 10).toNat+1) p.1 r (by simp;omega) (by simp;omega) h;simpa[hp] using this
     ·rw[RW hp] at h
      simp only[BY] at h
      right;simp[hp,h]
   ·rw[RW hi] at h
    simp only[Un] at h
    have hb:K8 y (s,st)=(y s st).bind λp=>if(!p.2) then some (.done<|.inr p.1) else some (.next ([],p.1)):=by
     unfold K8 Vz;rw[AT (by simpa using hpos),ec];show(if decide (Go.Lib.indexByte s 10≥0) then _ else _)=_;rw[RW<|by simpa using hi]
    rw[hb];cases hy:y s st with
    | none=>rw[hy] at h;cases h
    | some p=>
     rw[hy] at h
     simp only[DO] at h ⊢
     by_cases hp:p.2=true
     ·rw[AT hp] at h
      simp only[BY] at h
      left;simp only[hp,x7,By,RK];rw[ZI];simp[K8,h]
     ·rw[RW hp] at h
      simp only[BY] at h
      right;simp[hp,h]
def NH(s:UV So):UV (UV So):=H6 s.length s
theorem Tl{σ:Type}{y:UV So->σ->H1 (σ×Bool)}{s:UV So}{st r:σ}(hl:s.length<=1000000000000)(h:Un y (NH s) st=some r):Xj y s st=some r:=by
 unfold Xj;rcases LL s.length s st r (IR _) hl h with e | e
 ·rw[e];rfl
 ·rw[e];rfl
theorem qO(F:Fz)(s:UV So)(b:Nat)(hl:s.length<=1000000000000):wJ Tryz.prog F 85 [vP b 0] Em [pc b [.string<|bs s] 9] (NH s):=⟨call85,λσ ly Y y F1 _ hy s0 r hr=>TA F1 σ ly Y y hy s b s0 r<|Tl hl hr⟩
theorem Px(F0:Fz)(s:UV So):CT Tryz.prog 62 [.string<|bs s].toArray F0 SI (some ()) (λ_ _ _=>True) (λ_ _ v=>yf (λb=>v= .func (.func 85) #[] #[vP b 0]) λb=>[pc b [.string<|bs s] 9]):=by
 refine CT.enter func62 J ntmps62 J λr R=> ?_;refine .w 2<|.box (cs:=[.string<|bs s]) J J J λb=>.w 5<|.makeFunc J J<|.w 3 ?_;refine .sB (Φ:=λb' =>(.func (.func 85) #[] #[vP b 0]:Do)= .func (.func 85) #[] #[vP b' 0]) (l:=λb=>[pc b [.string<|bs s] 9]) [0] b J J ?_;exact .sl results62 (.tmp J .nil) (i:=0) J (j:=1) J Fz.r trivial
def HC{σ:Type}(y:UV So->σ->H1 (σ×Bool))(line:UV So)(s:σ):H1 (UE σ σ):=(Vb line [10]).bind λu=>(y u s).bind λp=>if(!p.2) then some (.done p.1) else some (.next p.1)
def CI{σ:Type}(y:UV So->σ->H1 (σ×Bool))(script:UV So)(a:σ):H1 σ:=(Sx (HC y) (NH script) a).bind λc=>match c with | .next s=>some s | .done s=>some s
theorem Tz(F0:Fz)(σ:Type)(ly:Nat)(Y:σ->Fz->HP)(y:UV So->σ->H1 (σ×Bool))(hy:UY Tryz.prog ly F0 Em Y y)(script:UV So)(hl:script.length<=1000000000000)(b:Nat)(hb:F0.mem b=some (.cells #[.string<|bs script] 9))(g:σ):Xz Tryz.prog 61 [.func (.yield ly) #[] #[],vP b 0].toArray F0 [Y g F0] (CI y script g) (λ_ _ _=>True) (λs' F' =>[Y s' F']):=by
 refine Xz.bN func61 J ntmps61 J λr R=> ?_;unfold CI;refine .w 2<|.box (cs:=[.func (.yield ly) #[] #[]]) J J J λe=>.w 4<|.U J V9 J hb J<|.aX<|.sE J call62 J J J (i:=0) J (Px _ script) λA v c=>.be 0 J λbL hv=> ?_;subst hv;refine .w 3<|.fN (.p [1,2,5] J)<|.pick [0,0,0,0] (J:_=[pc bL [.string<|bs script] 9,pc e [.func (.yield ly) #[] #[]] 116,Y g F0,R]) ?_;refine .tM 2 hy J Fz.r c<|.sX [pc bL [.string<|bs script] 9] [0] (λs F hs=>hs=[pc e [.func (.yield ly) #[] #[]] 116,Y s F,R]) (λs F hs=>hs=[pc e [.func (.yield ly) #[] #[]] 116,Y s F,R]) J (qO A script bL hl) J (λ_ _ _ h=>by rw[h];rfl) J J ?_ ?_ ?_
 ·rintro l L f z x vs s ctl R' hs' l2 a rfl rfl;unfold HC;refine .d λu hu=>.w 3 ?_;refine GE.begin 0 J<|.w 2<|.fN (.p [2,3] J) ?_;refine .dG 3 0 (λ_=>[vT<|.func (.yield ly) #[] #[],vT<|.string<|bs x,vT<|.string<|bs u]) (λ_ _=>[pt l<|Vo L,R',pc e [.func (.yield ly) #[] #[]] 116,Y s f,R]) Qc (by kernel_rfl) (λ_=>J) (λ_=>J) ?_ λenv E j hphi=> ?_
  ·refine .B (.fM J Tryz.isAgg116 J (i:=2) J J<|.fv J)<|.V 1 (λ_ _=>⟨J,J⟩)<|.b (λ_ _ C m=>.dQ hu J call63 J J J (CX _ x [10]) λG v D hv=>by subst hv;exact .dt J J D) .nil
  refine .o (.p [7,9] J) (J:_=[pt l<|Vo L,R',pc e [.func (.yield ly) #[] #[]] 116,Y s f,R])<|.cq J hy J J J (i:=3) J (Fz.t c l2) (Fz.t a j) λp C _ m=>.w 3<|.i J (λhq=> ?_) λhq=> ?_
  ·exact .dC<|RP.ret (Fz.t j m) J J
  ·refine .w 2 ?_;exact .n<|RP.norm (Fz.t j m) J J
 ·rintro q f z s hs' l2 a he rfl;refine .k<|.tM 2 hy J (Fz.t c l2) a ?_;exact .ar [2,2] [(0,q)] results61 ⟨J,trivial⟩ .n J (Fz.t c<|Fz.t l2 a) trivial
 ·rintro q f z s hs' l2 a he rfl;refine .tM 2 hy J (Fz.t c l2) a ?_;exact .tW [2,2] [(0,q)] results61 ⟨J,trivial⟩ .n J (Fz.t c<|Fz.t l2 a) trivial
end Go.Proofs.YtijhfeohbhedkaaGreatDoor
end
section
set_option maxRecDepth 100000
set_option maxHeartbeats 4000000
namespace Go.Proofs.YtijhfeohbhedkaaGreatDoor
open Go.Dec Go.Proofs.Tryz Go.Shelf Go.RowKit Go.Maps Go.Sort
def Dc(x:UV So):Bool:=x.getLast? ==some 10
def PN(x:UV So):UV So:=if Dc x then x.dropLast else x
theorem Au(x:UV So)(h:x.length<=1000000000000):Jv x [10]=some (Dc x):=by
 unfold Jv Zm Dc;cases hx:x.reverse with
 | nil=>
  obtain rfl:x=[]:=by simpa using hx
  rfl
 | cons c l=>
  obtain rfl:x=l.reverse++[c]:=by have:=congrArg List.reverse hx;simpa using this
  have h1:(l.reverse++[c]).length=l.length+1:=by simp
  rw[h1] at h ⊢
  have hw:ZA (((l.length+1:Nat):Int) - (([10]:UV So).length:Int))=(l.length:Int):=by
   show ZA (((l.length+1:Nat):Int) - (1:Int))=_;rw[Qp (by omega)<|by omega];omega
  have hs:ZW (l.reverse++[c]) (l.length:Int) ((l.length+1:Nat):Int)=some [c]:=by
   unfold ZW;rw[AT (by simp;omega)];congr 1;simp only[ph];rw[nF (by simp),nc<|by simp];simp
  rw[AT (by simp;omega),hw,hs];show some ([c]==([10]:UV So))=some ((l.reverse++[c]).getLast? ==some 10);rw[List.getLast?_concat];have:([c]==([10]:UV So))=(some c==some 10):=by by_cases h:c=10<;>simp[h]
  rw[this]
theorem N2(x:UV So)(h:x.length<=1000000000000):Vb x [10]=some (PN x):=by
 have h0:=Au x h;unfold Jv at h0
 unfold Vb JA PN
 have h1:Zm x [10]=some (Dc x):=by
  cases e:Zm x [10] with
  | none=>rw[e] at h0;cases h0
  | some b=>rw[e] at h0;exact h0
 rw[h1];simp only[DO];cases he:Dc x with
 | false=>rfl
 | true=>
  have hne:0 < x.length:=by
   cases x with
   | nil=>simp[Dc] at he
   | cons=>simp
  have hw:ZA ((x.length:Int) - (([10]:UV So).length:Int))=((x.length - 1:Nat):Int):=by
   show ZA ((x.length:Int) - (1:Int))=_;rw[Qp (by omega)<|by omega];omega
  rw[hw]
  have hs:ZW x 0 ((x.length - 1:Nat):Int)=some x.dropLast:=by
   unfold ZW;rw[AT<|by omega];congr 1;simp only[mf,mB,mR,ph];rw[List.dropLast_eq_take]
  rw[hs];rfl
def S6(s:UV So):UV (UV So):=(NH s).map PN
theorem NG:∀(k:Nat) (s:UV So),∀x∈H6 k s,x.length<=s.length
 | 0,_,_,h=>by simp[H6] at h
 | k+1,s,x,h=>by
  unfold H6 at h
  split at h
  ·simp at h
  ·split at h
   ·simp only[y1] at h
    rcases h with rfl | h
    ·simp;omega
    ·have:=NG k _ x h;simp at this;omega
   ·simp only[rA] at h
    subst h;exact IR _
theorem Pf{σ:Type}{y:UV So->σ->H1 (σ×Bool)}:∀(l:UV (UV So)) (s r:σ),(∀x∈l,x.length<=1000000000000)->Un y (l.map PN) s=some r->(Sx (HC y) l s).bind (λc=>match c with | .next s=>some s | .done s=>some s)=some r
 | [],s,r,_,h=>h
 | x::l,s,r,hx,h=>by
  simp only[s6,Un] at h
  simp only[Sx,HC,N2 x<|hx x<|pd ..,DO];cases hy:y (PN x) s with
  | none=>rw[hy] at h;cases h
  | some p=>
   rw[hy] at h
   simp only[DO] at h ⊢
   by_cases hp:p.2=true
   ·rw[AT hp] at h
    have:=Pf l p.1 r (λz hz=>hx z<|bY _ hz) h;simpa[hp] using this
   ·rw[RW hp] at h
    simpa[hp] using h
theorem Xz.tv{β:Type}{P:PP}{f:x4}{args:OF Do}{F:Fz}{H:HP}{m:H1 β}{ρ:β->Fz->Do->Prop}{H' :β->Fz->HP}(h:Xz P f args F [H] m ρ (λr F=>[H' r F])):CT P f args F H m ρ (λr F _=>H' r F):=λr hm w R hw=>
 (h r hm w R<|hw.mono λm hm=>QQ (λ_ h=>J1 h) hm).mono (by rintro e w' ⟨F',v,le,he,hρ,hs⟩;exact⟨F',v,le,he,hρ,hs.mono λ_ hm=>WM hm⟩)
theorem qN(F:Fz)(script:UV So)(b:Nat)(hl:script.length<=1000000000000)(hb:F.mem b=some (.cells #[.string<|bs script] 9)):RE Tryz.prog F 61 [vP b 0] Em (S6 script):=⟨call61,λσ ly Y y F1 le hy s r hr=>Xz.tv (Tz F1 σ ly Y y hy script hl b (le.mem _ _ hb) s) r<|Pf _ s r (λx hx=>re (NG _ _ x hx) hl) hr⟩
theorem Ni(F0:Fz)(script:UV So):KE Tryz.prog 26 [.string<|bs script].toArray F0 (some ()) (λ_ F v=>∃b,v= .func (.func 61) #[] [vP b 0].toArray/\F.mem b=some (.cells #[.string<|bs script] 9)):=by
 refine KE.enter func26 J ntmps26 J λr R=> ?_;refine .w 2<|.fh (cs:=[.string<|bs script]) J J J λb c a hb=>.w 5<|.makeFunc J J<|.w 3 ?_;exact .fV results26 (.tmp J .nil) (i:=0) J a ⟨b,J,hb⟩
abbrev TR:UV So:=[101,114,114,111,114]
def We(A:UV Qw)(s u:UV So):H1 (UV Qw×UV So):=(CV s u).bind λv=>(CV v [10]).bind λw=>some (A,w)
def Hf(o:ON)(line:UV So)(s:UV Qw×UV So):H1 (UV Qw×UV So):=(W1 s.1 o line).bind λt=>if(t.2.1 != 0) then(JX TR [t.2.1]).bind λu=>We t.2.2 s.2 u else We t.2.2 s.2 t.1
def J7(script:UV So):H1 (UV So×Int):=
 if decide ((script.length:Int) > 262144) then some ([],3) else
 (if(!(script==([]:UV So))) then(Jv script [10]).bind λh=>some (!h) else some false).bind λz=>if z then some ([],8) else
 (X7 []).bind λo=>(Ys (Hf o.1) (S6 script) (o.2,[])).bind λs=>some (s.2,0)
theorem Xf(F0:Fz)(hT:Xh F0)(script:UV So):KE Tryz.prog 11 [.string<|bs script].toArray F0 (J7 script) (λr _ v=>v= .tuple #[.string<|bs r.1,vI r.2]):=by
 refine KE.bN func11 J ntmps11 J λr R=> ?_;unfold J7;refine .w 11<|.dD J J U9 J<|.w 4<|.i J (λhb=> ?_) λhb=> ?_
 ·refine .w 6 ?_;exact .cU [] results11 trivial (.tmp J<|.tmp J .nil) (i:=0) J Fz.r J
 have hlen:script.length<=1000000000000:=by simp at hb;omega
 refine .w 3<|.sw J U9 J J<|.m J J<|.andM (b:=(!(script==([]:UV So)))) 4 20 (λhs z=> ?_) (λhs=> ?_) λz W k=> ?_
 ·refine .fQ hs J J<|.m J J<|.fQ hs J J<|.fX J call25 J J J (SL _ script [10]) ?_;rintro hh C _ - l2 rfl;refine .fQ hs J J<|.not J J<|.fO hs J J J ?_;exact .df 4 J J (by kernel_rfl) l2
 ·refine .fL hs J J J<|.fL hs J J J<|.fL hs J J J<|.fP hs J J J ?_;exact .fin 4 J J (by kernel_rfl) Fz.r
 refine .w 3<|.i J (λhz=> ?_) λhz=> ?_
 ·refine .w 6 ?_;exact .cU [] results11 trivial (.tmp J<|.tmp J .nil) (i:=0) J k J
 refine .w 4<|.de λg C l2=>.bx (xv<|Jt.mk 0 0 0 g 0 0 0 0 0) 0 J ?_;refine .pick [0,0] (J:_=[Qy (Jt.mk 0 0 0 g 0 0 0 0 0).g57 (xv<|Jt.mk 0 0 0 g 0 0 0 0 0) C [],R]) ?_;generalize Jt.mk 0 0 0 g 0 0 0 0 0=U;refine(.g<|.fq [0] J call8 J J J J (TB _ U []) ?_);rintro⟨o,A⟩ X _ - D ⟨p,_,rfl,hp⟩;refine .l (cs:=[.pointer none]) J Tryz.zeroValue25 J λy=>.store (cs' :=[.pointer p]) Tryz.sizeOf25 J J J J (i:=0) J (Jb J) J J<|.w 4<|.l (cs:=[.pointer none,.slice none 0 0]) J Tryz.zeroValue82 J λbB=>.aL 0 5 J<|.w 6<|.fY J call26 J J J (Ni _ script) ?_;rintro E _ j ⟨bS,rfl,hbS⟩;refine .w 3<|.fN (.p [4,5,23] J)<|.fb 2 (U6 U) j J<|.pick [0,0,0,0] (J:_=[FX 82 5 bB [],pc y [.pointer p] 25,Xq U E A,R]) ?_;have G:=hT.mono<|Fz.t k<|Fz.t l2<|Fz.t D j;refine .bP (τ:=UV Qw×UV So) (λs F hs=>hs=[FX 82 5 bB s.2,pc y [.pointer p] 25,Xq U F s.1,R]) J (qN E script bS hlen hbS) J (λ_ _ _ h=>by rw[h];rfl) J ?_ ?_
 ·rintro l L K M x vs ⟨A',s⟩ ctl R' hs' c a rfl rfl;unfold Hf;refine .w 2<|.n<|GE.begin 0 J<|.w 2<|.fN (.p [4,5,6] J)<|.fb 4 (U6 U) a J<|.g<|.fM J Tryz.isAgg25 J (i:=3) J J<|.m J J<|.fq [4] J call9 J J J J (Pk _ (G.mono<|Fz.t c a) U A' o p () (hp.mono<|Fz.t j<|Fz.t c a) x) ?_;rintro⟨rep,e,N⟩ H _ - d rfl;refine .pick [1,1,1,1,0,0] (J:_=[pt l<|Vo L,R',FX 82 5 bB s,pc y [.pointer p] 25,Xq U H N,R])<|.w 14<|.i J (λhb=> ?_) λhb=> ?_
  ·refine .w 2 (.fj (cs:=[vI e]) (zc:=[vI 0]) J UQ W3 Y3 J J J (by kernel_rfl) (by kernel_rfl) λP Q B S=> ?_);have hrep:QG 1 (Ex<|KJ .i64) Q (some ⟨P,0,none⟩) 1 [e]:=QG.ofRow S (.cons Fj.mono J .nil) J J;refine .fX J call27 J J J (WJ _ (G.mono<|Fz.t c<|Fz.t a<|Fz.t d B) TR [e] _ _ hrep) ?_;rintro u Y _ - I rfl;unfold We;refine .w 6<|.bC J call28 J J J (i:=2) J (He _ bB s u) λv T _ _ l10 _=>.w 3<|.bC J call29 J J J (i:=2) J (Ck _ bB v 10) λw V _ _ f _=>.w 2 ?_;refine .fb 4 (U6 U) (Fz.t B<|Fz.t I<|Fz.t l10 f) J ?_;exact .n<|RP.cX (Fz.t d<|Fz.t B<|Fz.t I<|Fz.t l10 f) J J
  ·unfold We;refine .w 5<|.bC J call28 J J J (i:=2) J (He _ bB s rep) λv T _ _ l10 _=>.w 3<|.bC J call29 J J J (i:=2) J (Ck _ bB v 10) λw V _ _ f _=>.w 2 ?_;refine .fb 4 (U6 U) (Fz.t l10 f) J ?_;exact .n<|RP.cX (Fz.t d<|Fz.t l10 f) J J
 ·rintro q K M ⟨A',s⟩ hs' c a he rfl;refine .w 4<|.bC (e:=some s) (g:=λs=>some (s,0)) J call30 J J J (i:=1) J (IS _ bB s) ?_;rintro s' H _ Z d rfl;refine .w 4 ?_;exact .cU [(0,q)] results11 ⟨J,trivial⟩ (.tmp J<|.tmp J .nil) (i:=4) J (Fz.t k<|Fz.t l2<|Fz.t D<|Fz.t j<|Fz.t c<|Fz.t a d) J
end Go.Proofs.YtijhfeohbhedkaaGreatDoor
end
section
set_option maxRecDepth 100000
set_option maxHeartbeats 4000000
namespace Go.Proofs.YtijhfeohbhedkaaGreatDoor
open Go.Dec Go.Proofs.Tryz Go.Shelf Go.RowKit Go.Maps Go.Sort
def UI:H1 Bool:=(J7 JJ.1).bind λr=>(if(r.1==JJ.2) then some (r.2==0) else some false).bind λz=>some z
theorem FJ(F0:Fz)(hT:Xh F0):KE Tryz.prog 7 [].toArray F0 UI (λr _ v=>v= .bool r):=by
 refine KE.enter func7 J ntmps7 J λr R=> ?_;unfold UI;refine .w 7<|.fY J call18 J J J (Bj _) ?_;rintro d _ a rfl;refine .w 10<|.fX J call11 J J J (Xf _ (hT.mono a) JJ.1) ?_;rintro⟨s,e⟩ f _ - l2 rfl;refine .w 11<|.aD J U9 J J<|.m J J<|.andM (b:=(s==JJ.2)) 3 20 (λhs z=> ?_) (λhs=> ?_) λz g c=> ?_
 ·refine .fQ hs J J<|.m J J<|.fQ hs J J<|.eql J J J<|.fO hs J J J ?_;exact .df 3 J J (by kernel_rfl) Fz.r
 ·refine .fL hs J J J<|.fL hs J J J<|.fP hs J J J ?_;exact .fin 3 J J (by kernel_rfl) Fz.r
 refine .w 3 ?_;exact .fV results7 (.tmp J .nil) (i:=0) J (Fz.t a<|Fz.t l2 c) J
end Go.Proofs.YtijhfeohbhedkaaGreatDoor
end
namespace Go.Proofs.YtijhfeohbhedkaaGreatDoor.Ca
section
open Go.Dec
variable{f:Nat->Int}{a n b:Int}{j:Nat}
structure Zh where
 C:ZQ
 Fills:List Int
variable{h:Zh}
abbrev Ev:=QF
abbrev zN:Nat->Int:=λ_=>0
def Wm(n a b:Int):Bool:=decide (n≥a)&&decide (n<=b)
def XT(x:Ev):Bool:=
 Wm x.Day 0 65536&&Wm x.Cask 0 1073741824&&
 (if x.Kind==0 then Wm x.Other 0 7&&Wm x.Where 0 7&&Wm x.Amount 1 1099511627776&&Wm x.Person 0 1073741824
  else if x.Kind==1||x.Kind==3 then Wm x.Amount 1 1099511627776
  else if x.Kind==2 then Wm x.Other 0 1073741824&&Wm x.Amount 1 1099511627776
  else if x.Kind==4 then Wm x.Where 0 7
  else if x.Kind==5||x.Kind==6 then Wm x.Person 0 1073741824&&Wm x.To 0 1073741824
  else if x.Kind==7 then Wm x.Person 0 1073741824
  else if x.Kind==8 then Wm x.Where 0 7 else false)
def Vt(n:Int)(h:Zh):Zh:=if 0 < h.C.Amount then{h with C:={h.C with Age:=h.C.Age+n,Woods:=ZL h.C.Woods h.C.Wood.toNat<|h.C.Woods h.C.Wood.toNat+n,Places:=ZL h.C.Places h.C.Place.toNat (h.C.Places h.C.Place.toNat+n)}} else h
def YY:UV Zh->Int->H1 Nat
 | [],_=>none
 | h::l,n=>if h.C.Number==n then some 0 else(YY l n).map (·+1)
def D6(x:Int):UV Int->UV Int
 | []=>[x]
 | y::l=>if x < y then x::y::l else if x==y then y::l else y::D6 x l
def E7(a b:UV Int):UV Int:=a.foldr D6 b
def Td(f g:Nat->Int):Nat->Int:=λk=>if k < 8 then Jc (f k) (g k) else f k
def Wv(h s:Zh)(n:Int):Zh:=
 if h.C.Amount==0 then{C:={h.C with Age:=s.C.Age,Woods:=s.C.Woods,Places:=s.C.Places,Amount:=h.C.Amount+n},Fills:=s.Fills}
 else{C:={h.C with Age:=Jc h.C.Age s.C.Age,Woods:=Td h.C.Woods s.C.Woods,Places:=Td h.C.Places s.C.Places,Amount:=h.C.Amount+n},Fills:=E7 h.Fills s.Fills}
def Xc(h:Zh)(n:Int):Zh:=if h.C.Amount - n==0 then{C:={h.C with Age:=0,Woods:=zN,Places:=zN,Amount:=0},Fills:=[]} else{h with C:={h.C with Amount:=h.C.Amount - n}}
def uC(x:Ev):Zh:=⟨⟨x.Cask,x.Other,x.Where,x.Amount,x.Person, -1,0,0,zN,zN⟩,[]⟩
def Sf(n:Int):Zh:=⟨⟨0,0,0,0,0,0,0,0,zN,zN⟩,[n]⟩
def Sg(l:UV Zh)(i:Nat)(c:Zh)(x:Ev)(num:Int):UV Zh ⊕ Int:=if c.C.Amount+x.Amount > c.C.Room then .inr 9 else .inl (l.set i<|Wv c (Sf num) x.Amount)
def TY(l:UV Zh)(i k:Nat)(c o:Zh)(x:Ev):UV Zh ⊕ Int:=
 if i==k then .inr 5
 else if c.C.Owner != o.C.Owner||decide (c.C.Creditor≥0)||decide (o.C.Creditor≥0) then .inr 11
 else if c.C.Amount < x.Amount then .inr 10
 else if o.C.Amount+x.Amount > o.C.Room then .inr 9
 else .inl ((l.set k<|Wv o c x.Amount).set i<|Xc c x.Amount)
def SX(l:UV Zh)(i:Nat)(c:Zh)(x:Ev):UV Zh ⊕ Int:=
 match YY l x.Other with
 | none=>.inr 4
 | some k=>match l[k]? with
  | none=>.inr 4
  | some o=>TY l i k c o x
def BA(l:UV Zh)(i:Nat)(c:Zh)(x:Ev):UV Zh ⊕ Int:=if c.C.Creditor≥0 then .inr 11 else if c.C.Amount < x.Amount then .inr 10 else .inl (l.set i<|Xc c x.Amount)
def Eh(l:UV Zh)(i:Nat)(c:Zh)(x:Ev):UV Zh ⊕ Int:=.inl<|l.set i {c with C:={c.C with Place:=x.Where}}
def PT(l:UV Zh)(i:Nat)(c:Zh)(x:Ev):UV Zh ⊕ Int:=if c.C.Owner != x.Person||decide (c.C.Creditor≥0) then .inr 11 else if x.To==c.C.Owner then .inr 5 else .inl (l.set i {c with C:={c.C with Owner:=x.To}})
def Fi(l:UV Zh)(i:Nat)(c:Zh)(x:Ev):UV Zh ⊕ Int:=if c.C.Owner != x.Person then .inr 11 else if c.C.Creditor≥0 then .inr 5 else .inl (l.set i {c with C:={c.C with Creditor:=x.To}})
def Pe(l:UV Zh)(i:Nat)(c:Zh)(x:Ev):UV Zh ⊕ Int:=if c.C.Creditor != x.Person then .inr 11 else .inl (l.set i {c with C:={c.C with Creditor:= -1}})
def Pj(l:UV Zh)(i:Nat)(c:Zh)(x:Ev):UV Zh ⊕ Int:=if c.C.Amount > 0 then .inr 6 else .inl (l.set i {c with C:={c.C with Wood:=x.Where}})
def Wn(l:UV Zh)(i:Nat)(c:Zh)(x:Ev)(num:Int):UV Zh ⊕ Int:=
 if x.Kind==1 then Sg l i c x num
 else if x.Kind==2 then SX l i c x
 else if x.Kind==3 then BA l i c x
 else if x.Kind==4 then Eh l i c x
 else if x.Kind==5 then PT l i c x
 else if x.Kind==6 then Fi l i c x
 else if x.Kind==7 then Pe l i c x
 else if x.Kind==8 then Pj l i c x
 else .inl l
def LI(l:UV Zh)(x:Ev):UV Zh ⊕ Int:=if(YY l x.Cask).isSome then .inr 5 else if 256<=l.length then .inr 9 else .inl (l++[uC x])
def FP(l:UV Zh)(x:Ev)(num:Int):UV Zh ⊕ Int:=
 if x.Kind==0 then LI l x
 else match YY l x.Cask with
  | none=>.inr 4
  | some i=>match l[i]? with
   | none=>.inr 4
   | some c=>Wn l i c x num
structure AU where
 all:List Zh
 last:Int
def Uk(n:Nat)(s:AU)(x:Ev):AU ⊕ Int:=
 if !XT x then .inr 1 else if x.Day < s.last then .inr 7
 else match FP (s.all.map<|Vt<|x.Day - s.last) x n with
  | .inl all=>.inl ⟨all,x.Day⟩
  | .inr e=>.inr e
def Bi(day:Int):UV Ev->Nat->AU->(AU ⊕ Int)×Nat
 | [],n,s=>(.inl s,n)
 | x::l,n,s=>if x.Day<=day then match Uk n s x with
   | .inl s' =>Bi day l (n+1) s'
   | .inr e=>(.inr e,n)
  else(.inl s,n)
def hZ(day:Int)(s:AU):UV Zh:=s.all.map<|Vt<|day - s.last
def Pp(day:Int)(l:UV Ev)(n:Nat)(s:AU):(UV Zh ⊕ Int)×Nat:=match Bi day l n s with
 | (.inl s',k)=>(.inl<|hZ day s',k)
 | (.inr e,k)=>(.inr e,k)
def Yf(l:UV Ev)(day:Int):(UV Zh ⊕ Int)×Nat:=if l.length > 4096 then(.inr 3,0) else if !Wm day 0 65536 then(.inr 2,0) else Pp day l 0 ⟨[],0⟩
def jn(f:Nat->Int):Int:=f 0+f 1+f 2+f 3+f 4+f 5+f 6+f 7
structure Mc(age:Int)(f:Nat->Int):Prop where
 pos:∀k,0<=f k
 out:∀k,8<=k->f k=0
 sum:jn f<=age
theorem Mc.le(h:Mc a f)(k:Nat):0<=f k/\f k<=a:=by
 refine⟨h.pos k,?_⟩;have h0:=h.pos 0;have h1:=h.pos 1;have h2:=h.pos 2;have h3:=h.pos 3;have h4:=h.pos 4;have h5:=h.pos 5;have h6:=h.pos 6;have h7:=h.pos 7;have hs:=h.sum;unfold jn at hs
 match k with
 | 0=>omega
 | 1=>omega
 | 2=>omega
 | 3=>omega
 | 4=>omega
 | 5=>omega
 | 6=>omega
 | 7=>omega
 | k+8=>have:=h.out (k+8) (by omega);omega
theorem Mc.zero(h:0<=a):Mc a zN:=⟨λ_=>pf 0,λ_ _=>rfl,by simpa[jn] using h⟩
theorem WB{v:Int}:ZL f j v j=v:=by simp[ZL]
theorem XJ{k:Nat}{v:Int}(h:k≠j):ZL f j v k=f k:=by
 unfold ZL
 have:Nat.beq k j=false:=by
  cases hb:Nat.beq k j with
  | false=>rfl
  | true=>exact absurd (pH hb) h
 rw[this]
theorem Mc.pB(h:Mc a f)(hj:j < 8)(hn:0<=n):Mc (a+n) (ZL f j<|f j+n):=by
 refine⟨λk=> ?_,λk hk=> ?_,?_⟩
 ·by_cases e:k=j
  ·subst e;rw[WB];have:=h.pos k;omega
  ·rw[XJ e];exact h.pos k
 ·rw[XJ<|by omega];exact h.out k hk
 ·have hs:=h.sum;unfold jn at hs ⊢
  match j,hj with
  | 0,_=>simp[ZL];omega
  | 1,_=>simp[ZL];omega
  | 2,_=>simp[ZL];omega
  | 3,_=>simp[ZL];omega
  | 4,_=>simp[ZL];omega
  | 5,_=>simp[ZL];omega
  | 6,_=>simp[ZL];omega
  | 7,_=>simp[ZL];omega
theorem P9:Jc a b<=a/\Jc a b<=b/\(Jc a b=a∨Jc a b=b):=by unfold Jc;split<;>omega
theorem Mc.min{g:Nat->Int}(h:Mc a f)(h' :Mc b g):Mc (Jc a b) (Td f g):=by
 refine⟨λk=> ?_,λk hk=> ?_,?_⟩
 ·unfold Td;have:=h.pos k;have:=h'.pos k;split
  ·have:=P9 (a:=f k) (b:=g k);omega
  ·exact h.pos k
 ·unfold Td;rw[RW<|by omega];exact h.out k hk
 ·have hs:=h.sum;have hs' :=h'.sum;unfold jn at hs hs' ⊢
  have e:∀k,k < 8->Td f g k<=f k/\Td f g k<=g k:=λk hk=>by
   unfold Td;rw[AT hk];have:=P9 (a:=f k) (b:=g k);omega
  have e0:=e 0 (by decide);have e1:=e 1 (by decide);have e2:=e 2 (by decide);have e3:=e 3 (by decide);have e4:=e 4 (by decide);have e5:=e 5 (by decide);have e6:=e 6 (by decide);have e7:=e 7 (by decide);have:=P9 (a:=a) (b:=b);omega
structure Ln(last:Int)(n:Nat)(h:Zh):Prop where
 num:0<=h.C.Number/\h.C.Number<=1073741824
 wood:0<=h.C.Wood/\h.C.Wood<=7
 place:0<=h.C.Place/\h.C.Place<=7
 room:1<=h.C.Room/\h.C.Room<=1099511627776
 owner:0<=h.C.Owner/\h.C.Owner<=1073741824
 cred: -1<=h.C.Creditor/\h.C.Creditor<=1073741824
 amt:0<=h.C.Amount/\h.C.Amount<=h.C.Room
 age:0<=h.C.Age/\h.C.Age<=last
 woods:Mc h.C.Age h.C.Woods
 places:Mc h.C.Age h.C.Places
 empty:h.C.Amount=0->h.C.Age=0/\h.C.Woods=zN/\h.C.Places=zN/\h.Fills=[]
 fills:h.Fills.Pairwise (·< ·)/\∀f∈h.Fills,0<=f/\f < n
 some:0 < h.C.Amount->h.Fills≠[]
structure AW(last:Int)(n:Nat)(l:List Zh):Prop where
 each:∀h∈l,Ln last n h
 nums:(l.map (·.C.Number)).Nodup
 few:l.length<=256
structure HO(n:Nat)(s:AU):Prop where
 day:0<=s.last/\s.last<=65536
 ok:AW s.last n s.all
theorem Yd:Wm n a b=true↔a<=n/\n<=b:=by simp[Wm]
theorem Oh{last:Int}{m:Nat}(ho:Ln last m h)(hn:0<=n):Ln (last+n) m (Vt n h):=by
 unfold Vt;split
 ·rename_i hp;refine⟨ho.num,ho.wood,ho.place,ho.room,ho.owner,ho.cred,ho.amt,⟨by have:=ho.age;simp;omega,by have:=ho.age;simp;omega⟩,ho.woods.pB (by have:=ho.wood;omega) hn,ho.places.pB (by have:=ho.place;omega) hn,λe=> ?_,ho.fills,ho.some⟩;have:h.C.Amount=0:=e;omega
 ·exact⟨ho.num,ho.wood,ho.place,ho.room,ho.owner,ho.cred,ho.amt,⟨ho.age.1,by have:=ho.age.2;omega⟩,ho.woods,ho.places,ho.empty,ho.fills,ho.some⟩
theorem LA:(Vt n h).C.Number=h.C.Number:=by unfold Vt;split<;>rfl
theorem Ta{last:Int}{m:Nat}{l:UV Zh}(ho:AW last m l)(hn:0<=n):AW (last+n) m (l.map<|Vt n):=by
 refine⟨λh hh=> ?_,?_,by simpa using ho.few⟩
 ·obtain⟨h0,h1,rfl⟩:=rG.1 hh;exact Oh (ho.each h0 h1) hn
 ·rw[nY];have:((λx:Zh=>x.C.Number)∘Vt n)=λx=>x.C.Number:=funext λx=>LA;rw[this];exact ho.nums
theorem kR:Vt b (Vt a h)=Vt (a+b) h:=by
 unfold Vt;by_cases hp:0 < h.C.Amount
 ·simp only[hp,Nm]
  have e:∀(f:Nat->Int) (j:Nat),ZL (ZL f j<|f j+a) j (ZL f j (f j+a) j+b)=ZL f j (f j+(a+b)):=λf j=>by
   funext k;unfold ZL;cases hk:Nat.beq k j with
   | true=>simp;omega
   | false=>simp
  simp only[e];congr 2;omega
 ·simp only[hp,RK]
end
section
open Go.Dec
variable{last n:Int}{x:Ev}{l:UV Zh}{h:Zh}{m:Nat}
theorem NC{x y:Int}:∀{l:UV Int},y∈D6 x l↔y=x∨y∈l
 | []=>by simp[D6]
 | z::l=>by
  simp only[D6];split
  ·simp
  ·split
   ·rename_i h;have:=(rb.1 h:x=z);subst this;simp
   ·simp only[y1,NC (l:=l)];constructor
    ·rintro(h | h | h)
     ·exact .inr<|.inl h
     ·exact .inl h
     ·exact .inr<|.inr h
    ·rintro(h | h | h)
     ·exact .inr<|.inl h
     ·exact .inl h
     ·exact .inr<|.inr h
theorem G8{x:Int}:∀{l:UV Int},l.Pairwise (·< ·)->(D6 x l).Pairwise (·< ·)
 | [],_=>by simp[D6]
 | z::l,h=>by
  have hz:=tO.1 h;simp only[D6];split
  ·rename_i hlt;refine tO.2 ⟨λa ha=> ?_,h⟩;rcases y1.1 ha with rfl | ha
   ·exact hlt
   ·have:=hz.1 a ha;omega
  ·split
   ·exact h
   ·rename_i h1 h2;have hne:x≠z:=λe=>h2 (by simp[e]);refine tO.2 ⟨λa ha=> ?_,G8 hz.2⟩;rcases NC.1 ha with rfl | ha
    ·omega
    ·exact hz.1 a ha
theorem NA{a b:UV Int}{y:Int}:y∈E7 a b↔y∈a∨y∈b:=by
 unfold E7
 induction a with
 | nil=>simp
 | cons x a ih=>simp only[List.foldr_cons,NC,ih,y1,or_assoc]
theorem Ip{a b:UV Int}(h:b.Pairwise (·< ·)):(E7 a b).Pairwise (·< ·):=by
 unfold E7
 induction a with
 | nil=>exact h
 | cons x a ih=>exact G8 ih
theorem Dv:∀{a b:UV Int},a.Pairwise (·< ·)->b.Pairwise (·< ·)->(∀x,x∈a↔x∈b)->a=b
 | [],[],_,_,_=>rfl
 | [],y::b,_,_,h=>by have:=(h y).2 (by simp);simp at this
 | x::a,[],_,_,h=>by have:=(h x).1 (by simp);simp at this
 | x::a,y::b,ha,hb,h=>by
  have ha' :=tO.1 ha;have hb' :=tO.1 hb
  have exy:x=y:=by
   have h1:=(h x).1 (by simp);have h2:=(h y).2 (by simp);rcases y1.1 h1 with e | h1
   ·exact e
   ·rcases y1.1 h2 with e | h2
    ·exact e.symm
    ·have:=hb'.1 x h1;have:=ha'.1 y h2;omega
  subst exy;congr 1;refine Dv ha'.2 hb'.2 λz=> ?_;constructor
  ·intro hz;have:=(h z).1<|bY _ hz;rcases y1.1 this with rfl | this
   ·have:=ha'.1 z hz;omega
   ·exact this
  ·intro hz;have:=(h z).2<|bY _ hz;rcases y1.1 this with rfl | this
   ·have:=hb'.1 z hz;omega
   ·exact this
theorem SC:∀{l:UV Zh} {i:Nat},YY l n=some i->∃h,l[i]? =some h/\h.C.Number=n
 | [],_,h=>by cases h
 | h::l,i,e=>by
  simp only[YY] at e
  split at e
  ·rename_i hb;cases e;exact⟨h,rfl,rb.1 hb⟩
  ·cases hf:YY l n with
   | none=>rw[hf] at e;cases e
   | some j=>
    rw[hf] at e
    simp only[dO,BY] at e
    subst e;obtain⟨h',h1,h2⟩:=SC hf;exact⟨h',by simpa using h1,h2⟩
theorem SD:∀{l:UV Zh},YY l n=none->∀h∈l,h.C.Number≠n
 | [],_,_,h=>by cases h
 | h::l,e,h',hm=>by
  simp only[YY] at e
  split at e
  ·cases e
  ·rename_i hb;cases hf:YY l n with
   | some j=>rw[hf] at e;cases e
   | none=>
    rcases y1.1 hm with rfl | hm
    ·intro e';exact hb<|by simp[e']
    ·exact SD hf h' hm
theorem Ln.up{n:Nat}(ho:Ln last n h):Ln last (n+1) h:={ho with fills:=⟨ho.fills.1,λf hf=>by have:=ho.fills.2 f hf;omega⟩}
theorem AW.set{n:Nat}{i:Nat}{h':Zh}(ho:AW last n l)(hi:l[i]? =some h)(hh:Ln last n h')(hn:h'.C.Number=h.C.Number):AW last n (l.set i h'):=by
 refine⟨λx hx=> ?_,?_,by simpa using ho.few⟩
 ·rcases List.mem_or_eq_of_mem_set hx with h1 | h1
  ·exact ho.each x h1
  ·rw[h1];exact hh
 ·have:(l.set i h').map (·.C.Number)=l.map (·.C.Number):=by
   apply rH;intro j;simp only[pb,rU];by_cases e:i=j
   ·subst e;have hlt:=(AC.1 hi).1;have hh:=(AC.1 hi).2;simp[hlt,hn,hh]
   ·simp[e]
  rw[this];exact ho.nums
theorem AW.up{n:Nat}(ho:AW last n l):AW last (n+1) l:=⟨λh hh=>(ho.each h hh).up,ho.nums,ho.few⟩
theorem qz{s:Zh}(ho:Ln last m h)(hn:1<=n)(hr:h.C.Amount+n<=h.C.Room)(ha:0<=s.C.Age/\s.C.Age<=last)(hw:Mc s.C.Age s.C.Woods)(hp:Mc s.C.Age s.C.Places)(hf:s.Fills.Pairwise (·< ·)/\∀f∈s.Fills,0<=f/\f < m)(hne:s.Fills≠[]):Ln last m (Wv h s n):=by
 unfold Wv;split
 ·rename_i h0;have h0' :h.C.Amount=0:=rb.1 h0;refine⟨ho.num,ho.wood,ho.place,ho.room,ho.owner,ho.cred,⟨by show 0<=h.C.Amount+n;omega,hr⟩,ha,hw,hp,λe=> ?_,hf,λ_=>hne⟩;have:h.C.Amount+n=0:=e;omega
 ·rename_i h0
  have hpos:0 < h.C.Amount:=by
   have:=ho.amt.1;have:h.C.Amount≠0:=λe=>h0 (by simp[e]);omega
  refine⟨ho.num,ho.wood,ho.place,ho.room,ho.owner,ho.cred,⟨by show 0<=h.C.Amount+n;omega,hr⟩,?_,ho.woods.min hw,ho.places.min hp,λe=> ?_,?_,λ_=> ?_⟩
  ·have:=ho.age;have:=P9 (a:=h.C.Age) (b:=s.C.Age);show 0<=Jc _ _/\Jc _ _<=last;omega
  ·have:h.C.Amount+n=0:=e;omega
  ·refine⟨Ip hf.1,λf h1=> ?_⟩;rcases NA.1 h1 with h1 | h1
   ·exact ho.fills.2 f h1
   ·exact hf.2 f h1
  ·intro e;have h1:=ho.some hpos;cases hh:h.Fills with
   | nil=>exact h1 hh
   | cons a t=>
    have:a∈E7 h.Fills s.Fills:=NA.2 (.inl (by rw[hh];simp));have e' :E7 h.Fills s.Fills=[]:=e;rw[e'] at this;cases this
theorem ET(ho:Ln last m h)(hn:1<=n)(hr:n<=h.C.Amount)(hl:0<=last):Ln last m (Xc h n):=by
 unfold Xc;split
 ·have hroom:=ho.room;exact⟨ho.num,ho.wood,ho.place,ho.room,ho.owner,ho.cred,⟨pf 0,by show(0:Int)<=h.C.Room;omega⟩,⟨pf 0,hl⟩,Mc.zero<|pf 0,Mc.zero<|pf 0,λ_=>⟨rfl,rfl,rfl,rfl⟩,⟨List.Pairwise.nil,λ_ h=>by cases h⟩,λh=>by have h' :(0:Int) < 0:=h;omega⟩
 ·rename_i h0;have hne:h.C.Amount - n≠0:=λe=>h0 (by simp[e]);have ha:=ho.amt;refine⟨ho.num,ho.wood,ho.place,ho.room,ho.owner,ho.cred,⟨by show 0<=h.C.Amount - n;omega,by show h.C.Amount - n<=h.C.Room;omega⟩,ho.age,ho.woods,ho.places,λe=>absurd e hne,ho.fills,λ_=>ho.some<|by omega⟩
theorem NQ(h:XT x=true):(0<=x.Day/\x.Day<=65536)/\(0<=x.Cask/\x.Cask<=1073741824):=by
 simp only[XT,T2,Yd] at h
 exact⟨h.1.1,h.1.2⟩
theorem fE(h:XT x=true)(k:x.Kind=0):(0<=x.Other/\x.Other<=7)/\(0<=x.Where/\x.Where<=7)/\(1<=x.Amount/\x.Amount<=1099511627776)/\(0<=x.Person/\x.Person<=1073741824):=by
 simp only[XT,T2,Yd,k,BEq.rfl,Nm] at h
 obtain⟨_,⟨⟨⟨h1,h2⟩,h3⟩,h4⟩⟩:=h;exact⟨h1,h2,h3,h4⟩
theorem Eb(h:XT x=true):(if x.Kind==0 then Wm x.Other 0 7&&Wm x.Where 0 7&&Wm x.Amount 1 1099511627776&&Wm x.Person 0 1073741824
 else if x.Kind==1||x.Kind==3 then Wm x.Amount 1 1099511627776
 else if x.Kind==2 then Wm x.Other 0 1073741824&&Wm x.Amount 1 1099511627776
 else if x.Kind==4 then Wm x.Where 0 7
 else if x.Kind==5||x.Kind==6 then Wm x.Person 0 1073741824&&Wm x.To 0 1073741824
 else if x.Kind==7 then Wm x.Person 0 1073741824
 else if x.Kind==8 then Wm x.Where 0 7 else false)=true:=((T2 _ _).mp h).2
theorem NR(h:XT x=true)(k:x.Kind=1∨x.Kind=2∨x.Kind=3):1<=x.Amount/\x.Amount<=1099511627776:=by
 have h:=Eb h;rcases k with k | k | k<;>rw[k] at h
 ·exact Yd.1 h
 ·exact Yd.1 ((T2 _ _).mp h).2
 ·exact Yd.1 h
theorem xz(h:XT x=true)(k:x.Kind=4∨x.Kind=8):0<=x.Where/\x.Where<=7:=by
 have h:=Eb h;rcases k with k | k<;>rw[k] at h
 ·exact Yd.1 h
 ·exact Yd.1 h
theorem xy(h:XT x=true)(k:x.Kind=5∨x.Kind=6):0<=x.To/\x.To<=1073741824:=by
 have h:=Eb h;rcases k with k | k<;>rw[k] at h
 ·exact Yd.1 ((T2 _ _).mp h).2
 ·exact Yd.1 ((T2 _ _).mp h).2
theorem kinds(h:XT x=true):x.Kind=0∨x.Kind=1∨x.Kind=2∨x.Kind=3∨x.Kind=4∨x.Kind=5∨x.Kind=6∨x.Kind=7∨x.Kind=8:=by
 have h:=Eb h;by_cases k0:x.Kind=0
 ·exact .inl k0
 rw[RW<|by simpa using k0] at h
 by_cases k1:x.Kind=1
 ·exact .inr<|.inl k1
 by_cases k3:x.Kind=3
 ·exact .inr<|.inr<|.inr<|.inl k3
 rw[RW<|by simp[k1,k3]] at h
 by_cases k2:x.Kind=2
 ·exact .inr<|.inr<|.inl k2
 rw[RW<|by simpa using k2] at h
 by_cases k4:x.Kind=4
 ·exact .inr<|.inr<|.inr<|.inr<|.inl k4
 rw[RW<|by simpa using k4] at h
 by_cases k5:x.Kind=5
 ·exact .inr<|.inr<|.inr<|.inr<|.inr<|.inl k5
 by_cases k6:x.Kind=6
 ·exact .inr<|.inr<|.inr<|.inr<|.inr<|.inr<|.inl k6
 rw[RW<|by simp[k5,k6]] at h
 by_cases k7:x.Kind=7
 ·exact .inr<|.inr<|.inr<|.inr<|.inr<|.inr<|.inr<|.inl k7
 rw[RW<|by simpa using k7] at h
 by_cases k8:x.Kind=8
 ·exact .inr<|.inr<|.inr<|.inr<|.inr<|.inr<|.inr<|.inr k8
 rw[RW<|by simpa using k8] at h
 cases h
section
variable{last:Int}{m:Nat}{l l' :UV Zh}{x:Ev}{i:Nat}{c:Zh}
theorem zJ(ho:AW last m l)(hl:0<=last)(hv:XT x=true)(hk:x.Kind=0)(h:LI l x= .inl l'):AW last (m+1) l' :=by
 unfold LI at h
 split at h
 ·cases h
 ·rename_i hf;split at h
  ·cases h
  ·rename_i hlen;cases h;obtain⟨e1,e2,e3,e4⟩:=fE hv hk;have e0:=(NQ hv).2;refine⟨λy hy=> ?_,?_,by simp;omega⟩
   ·rcases rK.1 hy with hy | hy
    ·exact(ho.each y hy).up
    ·simp only[rA] at hy
     subst hy;exact⟨e0,e1,e2,e3,e4,by simp[uC],⟨pf 0,by show(0:Int)<=x.Amount;omega⟩,⟨pf 0,hl⟩,Mc.zero<|pf 0,Mc.zero<|pf 0,λ_=>⟨rfl,rfl,rfl,rfl⟩,⟨List.Pairwise.nil,λ_ h=>by cases h⟩,λh=>by have h' :(0:Int) < 0:=h;omega⟩
   ·rw[List.map_append,List.nodup_append];refine⟨ho.nums,by simp,λa ha b hb=> ?_⟩;simp only[s6,lH,rA] at hb
    obtain⟨y,hy,rfl⟩:=rG.1 ha;subst hb;have hf' :YY l x.Cask=none:=by simpa using hf
    exact SD hf' y hy
theorem zV(ho:AW last m l)(hl:0<=last)(hc:l[i]? =some c)(ha:1<=x.Amount)(h:Sg l i c x m= .inl l'):AW last (m+1) l' :=by
 have hcm:=ho.each c<|s7 hc;unfold Sg at h
 split at h
 ·cases h
 ·rename_i hroom;cases h;refine(ho.up).set hc (qz hcm.up ha (by omega) ⟨pf 0,hl⟩ (Mc.zero<|pf 0) (Mc.zero<|pf 0) ⟨by simp[Sf],λf hf=> ?_⟩<|by simp[Sf]) ?_
  ·simp only[Sf,rA] at hf
   subst hf;omega
  ·unfold Wv;split<;>rfl
theorem qy(ho:AW last m l)(hl:0<=last)(hc:l[i]? =some c)(ha:1<=x.Amount)(h:SX l i c x= .inl l'):AW last (m+1) l' :=by
 have hcm:=ho.each c<|s7 hc;unfold SX at h
 split at h
 ·cases h
 ·rename_i k hfk;split at h
  ·cases h
  ·rename_i o hko;have hom:=ho.each o<|s7 hko;unfold TY at h
   split at h
   ·cases h
   ·rename_i hik;have hik' :i≠k:=λe=>hik (by simp[e]);split at h
    ·cases h
    ·split at h
     ·cases h
     ·split at h
      ·cases h
      ·rename_i hsh hfu;cases h;have hpos:0 < c.C.Amount:=by omega
       have h1:=(ho.up).set hko (qz (s:=c) hom.up ha (by omega) hcm.age hcm.woods hcm.places hcm.up.fills<|hcm.some hpos) (by unfold Wv;split<;>rfl);refine h1.set (h:=c) ?_ (ET hcm.up ha (by omega) hl) (by unfold Xc;split<;>rfl);rw[pV λe=>hik' e.symm];exact hc
theorem yn(ho:AW last m l)(hl:0<=last)(hc:l[i]? =some c)(ha:1<=x.Amount)(h:BA l i c x= .inl l'):AW last (m+1) l' :=by
 have hcm:=ho.each c<|s7 hc;unfold BA at h
 split at h
 ·cases h
 ·split at h
  ·cases h
  ·cases h;exact(ho.up).set hc (ET hcm.up ha (by omega) hl) (by unfold Xc;split<;>rfl)
theorem w4(ho:AW last m l)(hl:0<=last)(hv:XT x=true)(h0:x.Kind≠0)(hc:l[i]? =some c)(h:Wn l i c x m= .inl l'):AW last (m+1) l' :=by
 have hcm:=ho.each c<|s7 hc;rcases kinds hv with k | k | k | k | k | k | k | k | k
 ·exact absurd k h0
 ·have h:Sg l i c x m= .inl l' :=by rw[<-h];unfold Wn;rw[k];rfl
  exact zV ho hl hc (NR hv<|.inl k).1 h
 ·have h:SX l i c x= .inl l' :=by rw[<-h];unfold Wn;rw[k];rfl
  exact qy ho hl hc (NR hv<|.inr<|.inl k).1 h
 ·have h:BA l i c x= .inl l' :=by rw[<-h];unfold Wn;rw[k];rfl
  exact yn ho hl hc (NR hv<|.inr<|.inr k).1 h
 ·have h:Eh l i c x= .inl l' :=by rw[<-h];unfold Wn;rw[k];rfl
  cases h;exact(ho.up).set hc {hcm.up with place:=xz hv (.inl k)} rfl
 ·have h:PT l i c x= .inl l' :=by rw[<-h];unfold Wn;rw[k];rfl
  unfold PT at h
  split at h
  ·cases h
  ·split at h
   ·cases h
   ·cases h;exact(ho.up).set hc {hcm.up with owner:=xy hv (.inl k)} rfl
 ·have h:Fi l i c x= .inl l' :=by rw[<-h];unfold Wn;rw[k];rfl
  unfold Fi at h
  split at h
  ·cases h
  ·split at h
   ·cases h
   ·cases h;have:=xy hv<|.inr k;exact(ho.up).set hc {hcm.up with cred:=⟨by show -1<=x.To;omega,this.2⟩} rfl
 ·have h:Pe l i c x= .inl l' :=by rw[<-h];unfold Wn;rw[k];rfl
  unfold Pe at h
  split at h
  ·cases h
  ·cases h;exact(ho.up).set hc {hcm.up with cred:=⟨pf _,by show(-1:Int)<=_;omega⟩} rfl
 ·have h:Pj l i c x= .inl l' :=by rw[<-h];unfold Wn;rw[k];rfl
  unfold Pj at h
  split at h
  ·cases h
  ·cases h;exact(ho.up).set hc {hcm.up with wood:=xz hv (.inr k)} rfl
theorem yo(ho:AW last m l)(hl:0<=last)(hv:XT x=true)(h:FP l x m= .inl l'):AW last (m+1) l' :=by
 unfold FP at h
 split at h
 ·rename_i hk;exact zJ ho hl hv (rb.1 hk) h
 ·rename_i hk;split at h
  ·cases h
  ·split at h
   ·cases h
   ·rename_i c hc;exact w4 ho hl hv (λe=>hk<|by simp[e]) hc h
end
theorem Ad{n:Nat}{s s' :AU}(ho:HO n s)(h:Uk n s x= .inl s'):HO (n+1) s'/\XT x=true/\s.last<=x.Day/\s'.last=x.Day:=by
 unfold Uk at h
 split at h
 ·cases h
 ·rename_i hv;have hv:XT x=true:=by simpa using hv
  split at h
  ·cases h
  ·rename_i hd;split at h
   ·rename_i all hall;cases h;have hb:=(NQ hv).1;have h1:=Ta ho.ok (n:=x.Day - s.last) (by omega);have e:s.last+(x.Day - s.last)=x.Day:=by omega
    rw[e] at h1
    exact⟨⟨hb,yo h1 hb.1 hv hall⟩,hv,by omega,rfl⟩
   ·cases h
theorem HO.start:HO 0 ⟨[],0⟩:=⟨⟨pf 0,by decide⟩,⟨λ_ h=>(by cases h),List.nodup_nil,by simp⟩⟩
end
section
open Go.Dec
theorem Su{n:Int}:∀{l:UV Int} (a:Int),l.Pairwise (·< ·)->(∀f∈l,a<=f/\f < n)->a<=n->(l.length:Int)<=n - a
 | [],a,_,_,h=>by simp;omega
 | x::l,a,h,hb,_=>by
  have h' :=tO.1 h;have hx:=hb x (by simp);have:=Su (l:=l) (x+1) h'.2 (λf hf=>⟨by have:=h'.1 f hf;omega,(hb f<|bY _ hf).2⟩) (by omega);simp only[s5];omega
def Ps(i:Nat)(f g:Nat->Int):Nat->Int:=λk=>if k < i then Jc (f k) (g k) else f k
theorem LG{i:Nat}{f g:Nat->Int}:ZL (Ps i f g) i (Jc (f i)<|g i)=Ps (i+1) f g:=by
 funext k;by_cases e:k=i
 ·subst e;rw[WB];unfold Ps;rw[AT<|by omega]
 ·rw[XJ e];unfold Ps;by_cases h:k < i
  ·rw[AT h,AT<|by omega]
  ·rw[RW h,RW<|by omega]
theorem yG{f g:Nat->Int}:Ps 0 f g=f:=by funext k;unfold Ps;rw[RW<|by omega]
theorem fD{x:Ev}(h:XT x=true):0<=x.Day/\x.Day<=65536:=(NQ h).1
theorem LS{day:Int}:∀(l:UV Ev) (n:Nat) (s s' :AU) (k:Nat),HO n s->s.last<=day->Bi day l n s=(.inl s',k)->HO k s'/\s'.last<=day/\n<=k/\k<=n+l.length
 | [],n,s,s',k,ho,hd,h=>by
  simp only[Bi,pN,rE] at h
  obtain⟨rfl,rfl⟩:=h;exact⟨ho,hd,IR _,by simp⟩
 | x::l,n,s,s',k,ho,hd,h=>by
  simp only[Bi] at h
  by_cases hx:x.Day<=day
  ·rw[AT hx] at h
   cases hs:Uk n s x with
   | inl s1=>
    rw[hs] at h
    obtain⟨h1,_,_,h4⟩:=Ad ho hs;obtain⟨g1,g2,g3,g4⟩:=LS l (n+1) s1 s' k h1 (by omega) h;exact⟨g1,g2,by omega,by simp;omega⟩
   | inr e=>rw[hs] at h;cases h
  ·rw[RW hx] at h
   simp only[pN,rE] at h
   obtain⟨rfl,rfl⟩:=h;exact⟨ho,hd,IR _,by simp⟩
end
section
open Go.Dec
variable{c:QK}{t:Int}{A1:UV QK}{n:Nat}{h:Zh}
abbrev FM:=UV<|UV<|Int×Bool
variable{A3:FM}
def Vw(c:QK)(F:UV Int):Zh:=⟨⟨c.number,c.wood,c.place,c.room,c.owner,c.creditor,c.amount,c.times.age,c.times.woods,c.times.places⟩,F⟩
def FR(A3:FM)(p:H1 Nat)(F:UV Int):Prop:=match p with
 | none=>F=[]
 | some j=>∃l,A3[j]? =some l/\(l.map Prod.fst).Nodup/\∀x,x∈F↔x∈l.map Prod.fst
structure CR(t:Int)(n:Nat)(A3:FM)(c:QK)(h:Zh):Prop where
 since:0<=c.since/\c.since<=t
 ok:Ln c.since n (Vw c h.Fills)
 eq:h=Vt (t - c.since) (Vw c h.Fills)
 fills:FR A3 c.fills h.Fills
structure PR(t:Int)(n:Nat)(all:List Zh)(A1:List QK)(A3:FM)(m:List (Int×Option Nat)):Prop where
 len:A1.length=all.length
 each:∀(k:Nat) (c:QK) (h:Zh),A1[k]? =some c->all[k]? =some h->CR t n A3 c h
 map:m=A1.mapIdx (λk c=>(c.number,some k))
 apart:∀(i j:Nat) (ci cj:QK) (q:Nat),A1[i]? =some ci->A1[j]? =some cj->ci.fills=some q->cj.fills=some q->i=j
theorem CE{n:Int}:(Vt n h).Fills=h.Fills:=by unfold Vt;split<;>rfl
theorem An:Vt 0 h=h:=by
 unfold Vt;split
 ·have e:∀(f:Nat->Int) (j:Nat),ZL f j (f j)=f:=λf j=>by
   funext k;by_cases e:k=j
   ·subst e;rw[WB]
   ·rw[XJ e]
  simp only[Int.add_zero,e]
 ·rfl
theorem CR.number(r:CR t n A3 c h):h.C.Number=c.number:=by rw[r.eq,LA];rfl
theorem CR.shift{t':Int}(r:CR t n A3 c h)(le:t<=t'):CR t' n A3 c (Vt (t' - t) h):=by
 refine⟨⟨r.since.1,by have:=r.since.2;omega⟩,?_,?_,?_⟩
 ·rw[CE];exact r.ok
 ·rw[CE]
  conv=>lhs;rw[r.eq]
  rw[kR];congr 1;omega
 ·rw[CE];exact r.fills
theorem PR.shift{t':Int}{all:UV Zh}{m:UV (Int×H1 Nat)}(r:PR t n all A1 A3 m)(le:t<=t'):PR t' n (all.map<|Vt<|t' - t) A1 A3 m:=by
 refine⟨by simpa using r.len,λk c h hc hh=> ?_,r.map,r.apart⟩;rw[pb] at hh
 cases h0:all[k]? with
 | none=>rw[h0] at hh;cases hh
 | some h1=>
  rw[h0] at hh
  simp only[dO,BY] at hh
  subst hh;exact(r.each k c h1 hc h0).shift le
def Wu(t:Int)(c:QK):QK:=if 0 < c.amount then{c with since:=t,times:=⟨c.times.age+(t - c.since),ZL c.times.woods c.wood.toNat<|c.times.woods c.wood.toNat+(t - c.since),ZL c.times.places c.place.toNat<|c.times.places c.place.toNat+(t - c.since)⟩} else{c with since:=t}
theorem OU{F:UV Int}:Vw (Wu t c) F=Vt (t - c.since) (Vw c F):=by
 unfold Wu Vt;by_cases h:0 < c.amount
 ·rw[AT h,AT<|show 0 < (Vw c F).C.Amount from h];rfl
 ·rw[RW h,RW<|show ¬0 < (Vw c F).C.Amount from h];rfl
theorem Wt:(Wu t c).since=t:=by unfold Wu;split<;>rfl
theorem PU:(Wu t c).number=c.number:=by unfold Wu;split<;>rfl
theorem B8:(Wu t c).fills=c.fills:=by unfold Wu;split<;>rfl
theorem CR.rest(r:CR t n A3 c h):CR t n A3 (Wu t c) h:=by
 refine⟨⟨by rw[Wt];have:=r.since;omega,by rw[Wt];exact pf t⟩,?_,?_,by rw[B8];exact r.fills⟩
 ·rw[OU,Wt];have:=Oh r.ok (n:=t - c.since) (by have:=r.since;omega);have e:c.since+(t - c.since)=t:=by omega
  rwa[e] at this
 ·rw[OU,Wt,mV,An];exact r.eq
theorem Mw{k:Nat}{F:UV Int}(hc:A1[k]? =some c)(ho:Ln c.since n (Vw c F))(_h0:0<=c.since)(h1:c.since<=t)(ht:t<=1000000):UB A1 (some k) t=some (A1.set k<|Wu t c):=by
 have hk:k < A1.length:=(AC.1 hc).1;have hage:=ho.age;have hwood:=ho.wood;have hplace:=ho.place;have ew:Yg 8 c.wood=some c.wood.toNat:=by unfold Yg;rw[AT (by have:0<=c.wood/\c.wood<=7:=hwood;omega)]
 have ep:Yg 8 c.place=some c.place.toNat:=by unfold Yg;rw[AT (by have:0<=c.place/\c.place<=7:=hplace;omega)]
 have w1:0<=c.times.woods c.wood.toNat/\c.times.woods c.wood.toNat<=c.times.age:=ho.woods.le _;have p1:0<=c.times.places c.place.toNat/\c.times.places c.place.toNat<=c.times.age:=ho.places.le _;have ha:0<=c.times.age/\c.times.age<=c.since:=hage;unfold UB;simp only[DO,hc,QU];rw[Qp (n:=t - c.since) (by omega)<|by omega];by_cases hp:0 < c.amount
 ·rw[AT<|by simpa using hp];simp only[ew,ep,DO,rT];rw[Qp (n:=c.times.age+(t - c.since)) (by omega) (by omega),Qp (n:=c.times.woods c.wood.toNat+(t - c.since)) (by omega) (by omega),Qp (n:=c.times.places c.place.toNat+(t - c.since)) (by omega)<|by omega];simp only[Wu,hp,Nm]
 ·rw[RW<|by simpa using hp];simp only[Wu,hp,RK]
theorem NF{num:Int}:∀(A1:UV QK) (all:UV Zh) (k0:Nat),A1.length=all.length->(∀(k:Nat) (c:QK) (h:Zh),A1[k]? =some c->all[k]? =some h->h.C.Number=c.number)->
  (Qb (A1.mapIdx λk c=>(c.number,some<|k0+k)) num).getD none=(YY all num).map (k0+ ·)
 | [],[],_,_,_=>rfl
 | [],_::_,_,h,_=>by simp at h
 | _::_,[],_,h,_=>by simp at h
 | c::A1,h::all,k0,hl,hn=>by
  have h0:=hn 0 c h rfl rfl;rw[List.mapIdx_cons];simp only[Qb,YY];by_cases e:num=c.number
  ·have e1:(num==c.number)=true:=by simpa using e
   have e2:(h.C.Number==num)=true:=by simp[h0,e]
   simp[e1,e2]
  ·have e1:(num==c.number)=false:=by simpa using e
   have e2:(h.C.Number==num)=false:=by simp[h0];exact λe' =>e e'.symm
   have ih:=NF (num:=num) A1 all (k0+1) (by simpa using hl) (λk c h h1 h2=>hn (k+1) c h (by simpa using h1)<|by simpa using h2);simp only[e1,e2,By,RK];have e3:(fun(i:Nat) (a:QK)=>(a.number,some<|k0+(i+1)))=λk c=>(c.number,some<|k0+1+k):=by funext i a;rw[show k0+(i+1)=k0+1+i by omega]
   rw[e3,ih];cases YY all num with
   | none=>rfl
   | some j=>simp;omega
theorem PR.get{all:UV Zh}{m:UV (Int×H1 Nat)}(r:PR t n all A1 A3 m)(num:Int):(Qb m num).getD none=YY all num:=by
 have:=NF (num:=num) A1 all 0 r.len λk c h h1 h2=>(r.each k c h h1 h2).number;rw[r.map];simpa using this
end
section
open Go.Dec
variable{c c':QK}{A1:UV QK}{F:UV Int}{A3:FM}{h:Zh}{t:Int}{n k:Nat}
theorem CR.up(r:CR t n A3 c h):CR t (n+1) A3 c h:=⟨r.since,r.ok.up,r.eq,r.fills⟩
theorem FR.fN{A3':FM}{p:H1 Nat}(r:FR A3 p F)(h:∀q,p=some q->A3'[q]? =A3[q]?):FR A3' p F:=by
 cases p with
 | none=>exact r
 | some q=>obtain⟨l,h1,h2⟩:=r;exact⟨l,by rw[h q rfl];exact h1,h2⟩
theorem mapIdx_set(hc:A1[k]? =some c)(hn:c'.number=c.number):(A1.set k c').mapIdx (λk c=>(c.number,some k))=A1.mapIdx (λk (c:QK)=>(c.number,some k)):=by
 apply rH;intro i;simp only[nN,rU];by_cases e:k=i
 ·subst e;have hlt:=(AC.1 hc).1;have hx:=(AC.1 hc).2;simp[hlt,hn,hx]
 ·simp[e]
section
variable{t:Int}{n n' :Nat}{all:UV Zh}{A1:UV QK}{A3 A3' :FM}{m:UV (Int×H1 Nat)}{k:Nat}{c c' :QK}{h h' :Zh}
theorem PR.set(r:PR t n all A1 A3 m)(hc:A1[k]? =some c)(hh:all[k]? =some h)(hn' :c'.number=c.number)(hcr:CR t n' A3' c' h')(hother:∀(i:Nat) (ci:QK) (hi:Zh),i≠k->A1[i]? =some ci->all[i]? =some hi->CR t n' A3' ci hi)
  (hap:∀(i:Nat) (ci:QK) (q:Nat),i≠k->A1[i]? =some ci->ci.fills=some q->c'.fills≠some q):PR t n' (all.set k h') (A1.set k c') A3' m:=by
 have hk:=(AC.1 hc).1;have hk2:=(AC.1 hh).1;refine⟨by simpa using r.len,λi ci hi h1 h2=> ?_,by rw[mapIdx_set hc hn'];exact r.map,λi j ci cj q h1 h2 h3 h4=> ?_⟩
 ·by_cases e:k=i
  ·subst e;rw[pR hk] at h1
   rw[pR hk2] at h2
   cases h1;cases h2;exact hcr
  ·rw[pV e] at h1 h2
   exact hother i ci hi (λe' =>e e'.symm) h1 h2
 ·by_cases e:k=i
  ·by_cases e2:k=j
   ·rw[<-e,<-e2]
   ·subst e;rw[pR hk] at h1
    rw[pV e2] at h2
    cases h1;exact absurd h3<|hap j cj q (λe' =>e2 e'.symm) h2 h4
  ·rw[pV e] at h1
   by_cases e2:k=j
   ·subst e2;rw[pR hk] at h2
    cases h2;exact absurd h4<|hap i ci q (λe' =>e e'.symm) h1 h3
   ·rw[pV e2] at h2
    exact r.apart i j ci cj q h1 h2 h3 h4
theorem PR.tT(r:PR t n all A1 A3 m)(hc:A1[k]? =some c)(hh:all[k]? =some h)(hn' :c'.number=c.number)(hcr:CR t (n+1) A3 c' h')(hf:c'.fills=c.fills∨c'.fills=none):PR t (n+1) (all.set k h') (A1.set k c') A3 m:=
 r.set hc hh hn' hcr (λi ci hi _ h1 h2=>(r.each i ci hi h1 h2).up) (λi ci q hi h1 h2 h3=>by
  rcases hf with hf | hf
  ·rw[hf] at h3;exact hi<|r.apart i k ci c q h1 hc h2 h3
  ·rw[hf] at h3;cases h3)
theorem PR.rest(r:PR t n all A1 A3 m)(hc:A1[k]? =some c):PR t n all (A1.set k<|Wu t c) A3 m:=by
 have hk:=(AC.1 hc).1;have hk2:k < all.length:=by rw[<-r.len];exact hk
 have hh:all[k]? =some all[k]:=Rw hk2
 have:=r.set (n' :=n) (A3' :=A3) (c' :=Wu t c) (h' :=all[k]) hc hh PU (r.each k c _ hc hh).rest (λi ci hi _ h1 h2=>r.each i ci hi h1 h2) λi ci q hi h1 h2 h3=>by
  rw[B8] at h3;exact hi<|r.apart i k ci c q h1 hc h2 h3
 rwa[eB] at this
theorem XO{x20:Qi}{num:Int}(r:PR t n all A1 A3 m)(ht:t<=1000000)(hb:x20.casks=some 0):(YY all num=none/\Z2 A1 [x20] [m] (some 0) num t=some (.pan ⟨4⟩))∨
  (∃k h c,YY all num=some k/\all[k]? =some h/\h.C.Number=num/\PR t n all (A1.set k c) A3 m/\(A1.set k c)[k]? =some c/\c.since=t/\h=Vw c h.Fills/\Ln t n h/\Z2 A1 [x20] [m] (some 0) num t=some (.ok (some k,A1.set k c))):=by
 have hget:=r.get num;unfold Z2;simp only[DO,IN,hb,hget];cases hf:YY all num with
 | none=>
  left;exact⟨rfl,rfl⟩
 | some k=>
  right;obtain⟨h,hh,hnum⟩:=SC hf;have hk2:=(AC.1 hh).1;have hk:k < A1.length:=by rw[r.len];exact hk2
  have hc:A1[k]? =some A1[k]:=Rw hk;have hcr:=r.each k _ h hc hh;have hcr2:=hcr.rest
  have hraw:h=Vw (Wu t A1[k]) h.Fills:=by
   have:=hcr2.eq;rw[Wt,mV,An] at this
   exact this
  have hok:Ln t n h:=by
   have:=hcr2.ok;rw[Wt,<-hraw] at this
   exact this
  refine⟨k,h,Wu t A1[k],rfl,hh,hnum,r.rest hc,pR hk,Wt,hraw,hok,?_⟩;show Qt (ZY true 4) _ _=_;have e1:ZY true 4=some (.ok ()):=rfl;rw[e1];simp only[Qt];rw[Mw hc hcr.ok hcr.since.1 hcr.since.2 ht];rfl
end
def XV(t:Int)(n:Nat)(r:UV Zh ⊕ Int)(o:H1 (Out Zi<|UV QK×FM×UV (UV<|Int×H1 Nat))):Prop:=match r with
 | .inl all' =>∃A1' A3' m',o=some (.ok (A1',A3',[m']))/\PR t (n+1) all' A1' A3' m'
 | .inr e=>o=some (.pan ⟨e⟩)/\e≠0
section
variable{t:Int}{n:Nat}{all:UV Zh}{A1:UV QK}{A3:FM}{m:UV (Int×H1 Nat)}{b:Qi}{x:Ev}
theorem CR.ba(h0:0<=t)(hs:c.since=t)(ho:Ln t n (Vw c F))(hf:FR A3 c.fills F):CR t n A3 c (Vw c F):=⟨by omega,by rw[hs];exact ho,by rw[hs,mV,An];rfl,hf⟩
theorem qb(r:PR t n all A1 A3 m)(h0:0<=t)(ht:t<=65536)(hb:b.casks=some 0)(hv:XT x=true)(hk:x.Kind=4)(hd:x.Day=t):XV t n (FP all x n) (Ym A1 [b] A3 [m] (some 0) x):=by
 unfold Ym FP;rw[RW (by rw[hk];decide),hd];rcases XO (num:=x.Cask) r (by omega) hb with⟨hf,hm⟩ | ⟨k,h,c,hf,hh,hnum,hr,hc,hs,hraw,hok,hm⟩
 ·rw[hf,hm];exact⟨rfl,by decide⟩
 ·rw[hf,hm];simp only[hh,Qt,DO,hc,QU,rT];have hact:Wn all k h x n=Eh all k h x:=by unfold Wn;rw[hk];rfl
  rw[hact];refine⟨_,_,_,rfl,?_⟩;have hcr:=hr.each k c h hc hh
  have h2:PR t (n+1) (all.set k<|Vw {c with place:=x.Where} h.Fills) ((A1.set k c).set k {c with place:=x.Where}) A3 m:=hr.tT hc hh rfl (CR.ba h0 hs (by
   have:=hok.up;rw[hraw] at this
   exact{this with place:=xz hv (.inl hk)}) hcr.fills)<|.inl rfl
  rw[rT] at h2
  have e:Vw {c with place:=x.Where} h.Fills={h with C:={h.C with Place:=x.Where}}:=by
   conv=>rhs;rw[hraw]
   rfl
  rw[e] at h2
  exact h2
theorem E8{h':Zh}{r:UV Zh ⊕ Int}(hr:PR t n all (A1.set k c) A3 m)(hh:all[k]? =some h)(hc:(A1.set k c)[k]? =some c)(h0:0<=t)(hs:c'.since=t)(hn:c'.number=c.number)(hf:c'.fills=c.fills∨c'.fills=none)(he:h' =Vw c' F)(ho:Ln t (n+1) h')(hfr:FR A3 c'.fills F)(hres:r= .inl (all.set k h')):XV t n r (some<|.ok (A1.set k c',A3,[m])):=by
 subst hres;subst he;refine⟨_,_,_,rfl,?_⟩;have h2:=hr.tT hc hh hn (CR.ba h0 hs ho hfr) hf
 rwa[rT] at h2
theorem yu{a:Int}(h: -1<=a):(a==(-1))= !decide (a≥0):=by
 by_cases e:a= -1
 ·subst e;rfl
 ·have h1:(a==(-1))=false:=by simpa using e
  rw[h1,rB<|show a≥0 by omega];rfl
theorem kB(r:PR t n all A1 A3 m)(h0:0<=t)(ht:t<=65536)(hb:b.casks=some 0)(hv:XT x=true)(hk:x.Kind=5)(hd:x.Day=t):XV t n (FP all x n) (VR A1 [b] A3 [m] (some 0) x):=by
 unfold VR FP;rw[RW (by rw[hk];decide),hd];rcases XO (num:=x.Cask) r (by omega) hb with⟨hf,hm⟩ | ⟨k,h,c,hf,hh,hnum,hr,hc,hs,hraw,hok,hm⟩
 ·rw[hf,hm];exact⟨rfl,by decide⟩
 ·rw[hf,hm];simp only[hh,Qt,DO,hc,QU,rT];have hact:Wn all k h x n=PT all k h x:=by unfold Wn;rw[hk];rfl
  rw[hact];have hcr:=hr.each k c h hc hh;have ho:h.C.Owner=c.owner:=by rw[hraw];rfl
  have hcd:h.C.Creditor=c.creditor:=by rw[hraw];rfl
  have hcred:=hok.cred;rw[hcd] at hcred
  unfold PT;rw[ho,hcd];by_cases h1:c.owner=x.Person
  ·have e1:(c.owner==x.Person)=true:=by simpa using h1
   have e2:(c.owner != x.Person)=false:=by simpa using h1
   simp only[e1,e2,Nm,nC,yu hcred.1];by_cases h2:c.creditor≥0
   ·simp only[h2,pn,x7,Nm];exact⟨rfl,by decide⟩
   ·simp only[h2,po,pG,By,RK];by_cases h3:x.To=c.owner
    ·have e3:(x.To==c.owner)=true:=by simpa using h3
     have e4:(x.To != c.owner)=false:=by simpa using h3
     simp only[e3,e4,Nm];exact⟨rfl,by decide⟩
    ·have e3:(x.To==c.owner)=false:=by simpa using h3
     have e4:(x.To != c.owner)=true:=by simpa using h3
     simp only[e3,e4,By,RK];exact E8 (h' :={h with C:={h.C with Owner:=x.To}}) (c' :={c with owner:=x.To}) (F:=h.Fills) hr hh hc h0 hs rfl (.inl rfl) (congrArg (λz:Zh=>{z with C:={z.C with Owner:=x.To}}) hraw) {hok.up with owner:=xy hv (.inl hk)} hcr.fills rfl
  ·have e1:(c.owner==x.Person)=false:=by simpa using h1
   have e2:(c.owner != x.Person)=true:=by simpa using h1
   simp only[e1,e2,lK,Nm,By,RK];exact⟨rfl,by decide⟩
theorem OX(r:PR t n all A1 A3 m)(h0:0<=t)(ht:t<=65536)(hb:b.casks=some 0)(hv:XT x=true)(hk:x.Kind=6)(hd:x.Day=t):XV t n (FP all x n) (YF A1 [b] A3 [m] (some 0) x):=by
 unfold YF FP;rw[RW (by rw[hk];decide),hd];rcases XO (num:=x.Cask) r (by omega) hb with⟨hf,hm⟩ | ⟨k,h,c,hf,hh,hnum,hr,hc,hs,hraw,hok,hm⟩
 ·rw[hf,hm];exact⟨rfl,by decide⟩
 ·rw[hf,hm];simp only[hh,Qt,DO,hc,QU,rT];have hact:Wn all k h x n=Fi all k h x:=by unfold Wn;rw[hk];rfl
  rw[hact];have hcr:=hr.each k c h hc hh;have ho:h.C.Owner=c.owner:=by rw[hraw];rfl
  have hcd:h.C.Creditor=c.creditor:=by rw[hraw];rfl
  have hcred:=hok.cred;rw[hcd] at hcred
  unfold Fi;rw[ho,hcd];by_cases h1:c.owner=x.Person
  ·have e1:(c.owner==x.Person)=true:=by simpa using h1
   have e2:(c.owner != x.Person)=false:=by simpa using h1
   simp only[e1,e2,By,RK,yu hcred.1];by_cases h2:c.creditor≥0
   ·simp only[h2,pn,x7,Nm];exact⟨rfl,by decide⟩
   ·simp only[h2,po,pG,RK];have:=xy hv<|.inr hk;exact E8 (h' :={h with C:={h.C with Creditor:=x.To}}) (c' :={c with creditor:=x.To}) (F:=h.Fills) hr hh hc h0 hs rfl (.inl rfl) (congrArg (λz:Zh=>{z with C:={z.C with Creditor:=x.To}}) hraw) {hok.up with cred:=⟨by show -1<=x.To;omega,this.2⟩} hcr.fills rfl
  ·have e1:(c.owner==x.Person)=false:=by simpa using h1
   have e2:(c.owner != x.Person)=true:=by simpa using h1
   simp only[e1,e2,Nm];exact⟨rfl,by decide⟩
theorem kg(r:PR t n all A1 A3 m)(h0:0<=t)(ht:t<=65536)(hb:b.casks=some 0)(_hv:XT x=true)(hk:x.Kind=7)(hd:x.Day=t):XV t n (FP all x n) (VT A1 [b] A3 [m] (some 0) x):=by
 unfold VT FP;rw[RW (by rw[hk];decide),hd];rcases XO (num:=x.Cask) r (by omega) hb with⟨hf,hm⟩ | ⟨k,h,c,hf,hh,hnum,hr,hc,hs,hraw,hok,hm⟩
 ·rw[hf,hm];exact⟨rfl,by decide⟩
 ·rw[hf,hm];simp only[hh,Qt,DO,hc,QU,rT];have hact:Wn all k h x n=Pe all k h x:=by unfold Wn;rw[hk];rfl
  rw[hact];have hcr:=hr.each k c h hc hh;have hcd:h.C.Creditor=c.creditor:=by rw[hraw];rfl
  unfold Pe;rw[hcd];by_cases h1:c.creditor=x.Person
  ·have e1:(c.creditor==x.Person)=true:=by simpa using h1
   have e2:(c.creditor != x.Person)=false:=by simpa using h1
   simp only[e1,e2,By,RK];exact E8 (h' :={h with C:={h.C with Creditor:= -1}}) (c' :={c with creditor:= -1}) (F:=h.Fills) hr hh hc h0 hs rfl (.inl rfl) (congrArg (λz:Zh=>{z with C:={z.C with Creditor:= -1}}) hraw) {hok.up with cred:=⟨pf _,by show(-1:Int)<=_;omega⟩} hcr.fills rfl
  ·have e1:(c.creditor==x.Person)=false:=by simpa using h1
   have e2:(c.creditor != x.Person)=true:=by simpa using h1
   simp only[e1,e2,Nm];exact⟨rfl,by decide⟩
theorem k9(r:PR t n all A1 A3 m)(h0:0<=t)(ht:t<=65536)(hb:b.casks=some 0)(hv:XT x=true)(hk:x.Kind=8)(hd:x.Day=t):XV t n (FP all x n) (VV A1 [b] A3 [m] (some 0) x):=by
 unfold VV FP;rw[RW (by rw[hk];decide),hd];rcases XO (num:=x.Cask) r (by omega) hb with⟨hf,hm⟩ | ⟨k,h,c,hf,hh,hnum,hr,hc,hs,hraw,hok,hm⟩
 ·rw[hf,hm];exact⟨rfl,by decide⟩
 ·rw[hf,hm];simp only[hh,Qt,DO,hc,QU,rT];have hact:Wn all k h x n=Pj all k h x:=by unfold Wn;rw[hk];rfl
  rw[hact];have hcr:=hr.each k c h hc hh;have hca:h.C.Amount=c.amount:=by rw[hraw];rfl
  have hamt:=hok.amt;rw[hca] at hamt
  unfold Pj;rw[hca];by_cases h1:c.amount=0
  ·have e1:(c.amount==0)=true:=by simpa using h1
   have e2:¬c.amount > 0:=by omega
   simp only[e1,e2,RK];exact E8 (h' :={h with C:={h.C with Wood:=x.Where}}) (c' :={c with wood:=x.Where}) (F:=h.Fills) hr hh hc h0 hs rfl (.inl rfl) (congrArg (λz:Zh=>{z with C:={z.C with Wood:=x.Where}}) hraw) {hok.up with wood:=xz hv (.inr hk)} hcr.fills rfl
  ·have e1:(c.amount==0)=false:=by simpa using h1
   have e2:c.amount > 0:=by omega
   simp only[e1,e2,Nm];exact⟨rfl,by decide⟩
end
end
section
open Go.Dec
variable{c:QK}{n:Int}
def GI(c:QK)(n:Int):QK:=if c.amount - n==0 then{c with amount:=0,times:=⟨0,zN,zN⟩,fills:=none} else{c with amount:=c.amount - n}
theorem OV{F:UV Int}:Xc (Vw c F) n=Vw (GI c n) (Xc (Vw c F) n).Fills:=by
 unfold Xc GI;by_cases e:(c.amount - n==0)=true
 ·rw[AT e,AT<|show((Vw c F).C.Amount - n==0)=true from e];rfl
 ·rw[RW e,RW<|show ¬((Vw c F).C.Amount - n==0)=true from e];rfl
theorem NV:(GI c n).fills=c.fills∨(GI c n).fills=none:=by
 unfold GI;split
 ·exact .inr rfl
 ·exact .inl rfl
theorem NU:(GI c n).since=c.since:=by unfold GI;split<;>rfl
theorem Ph:(GI c n).number=c.number:=by unfold GI;split<;>rfl
theorem zb{A3:FM}{F:UV Int}(h:FR A3 c.fills F):FR A3 (GI c n).fills (Xc (Vw c F) n).Fills:=by
 unfold Xc GI;by_cases e:(c.amount - n==0)=true
 ·rw[AT e,AT<|show((Vw c F).C.Amount - n==0)=true from e];rfl
 ·rw[RW e,RW<|show ¬((Vw c F).C.Amount - n==0)=true from e];exact h
theorem Gl{A1:UV QK}{k:Nat}(hc:A1[k]? =some c)(h1:0<=c.amount/\c.amount<=1099511627776)(h2:0<=n/\n<=1099511627776):VQ A1 (some k) n=some (A1.set k<|GI c n):=by
 unfold VQ;simp only[DO,hc,QU,rT];rw[Qp (n:=c.amount - n) (by omega)<|by omega];unfold GI;by_cases e:(c.amount - n==0)=true
 ·have e0:c.amount - n=0:=rb.1 e;rw[AT e,AT e];simp only[e0]
 ·rw[RW e,RW e]
section
variable{t:Int}{n:Nat}{all:UV Zh}{A1:UV QK}{A3:FM}{m:UV (Int×H1 Nat)}{b:Qi}{x:Ev}
theorem qX(r:PR t n all A1 A3 m)(h0:0<=t)(ht:t<=65536)(hb:b.casks=some 0)(hv:XT x=true)(hk:x.Kind=3)(hd:x.Day=t):XV t n (FP all x n) (Yl A1 [b] A3 [m] (some 0) x):=by
 unfold Yl FP;rw[RW (by rw[hk];decide),hd];rcases XO (num:=x.Cask) r (by omega) hb with⟨hf,hm⟩ | ⟨k,h,c,hf,hh,hnum,hr,hc,hs,hraw,hok,hm⟩
 ·rw[hf,hm];exact⟨rfl,by decide⟩
 ·rw[hf,hm];simp only[hh,Qt,DO,hc];have hact:Wn all k h x n=BA all k h x:=by unfold Wn;rw[hk];rfl
  rw[hact];have hcr:=hr.each k c h hc hh;have hca:h.C.Amount=c.amount:=by rw[hraw];rfl
  have hcd:h.C.Creditor=c.creditor:=by rw[hraw];rfl
  have hcred:=hok.cred;have hamt:=hok.amt;have hroom:=hok.room;rw[hca] at hamt
  rw[hcd] at hcred
  have ha:=NR hv<|.inr<|.inr hk;unfold BA;rw[hca,hcd,yu hcred.1];by_cases h1:c.creditor≥0
  ·simp only[h1,pn,x7,Nm];exact⟨rfl,by decide⟩
  ·simp only[h1,po,pG,RK];by_cases h2:c.amount < x.Amount
   ·have e2:decide (c.amount≥x.Amount)=false:=rC (by omega);simp only[h2,e2,Nm];exact⟨rfl,by decide⟩
   ·have e2:decide (c.amount≥x.Amount)=true:=rB (by omega);simp only[h2,e2,RK];show XV t n _ ((VQ (A1.set k c) (some k) x.Amount).bind λr_60=>some<|.ok (r_60,A3,[m]));rw[Gl hc (by omega) (by omega),DO,rT];have hls:Xc h x.Amount=Vw (GI c x.Amount) (Xc (Vw c h.Fills) x.Amount).Fills:=by rw[<-OV,<-hraw]
    exact E8 (h' :=Xc h x.Amount) (c' :=GI c x.Amount) hr hh hc h0 (by rw[NU];exact hs) Ph NV hls (ET hok.up ha.1 (by omega) h0) (zb hcr.fills) rfl
theorem ND{num:Int}{v:H1 Nat}:∀(A1:UV QK) (k0:Nat),(∀c∈A1,c.number≠num)->Qv (A1.mapIdx λk c=>(c.number,some<|k0+k)) num v=A1.mapIdx (λk c=>(c.number,some<|k0+k))++[(num,v)]
 | [],_,_=>rfl
 | c::A1,k0,h=>by
  rw[List.mapIdx_cons];have e1:(num==c.number)=false:=by simpa using(λe=>h c (by simp) e.symm)
  have e3:(fun(i:Nat) (a:QK)=>(a.number,some<|k0+(i+1)))=λk c=>(c.number,some<|k0+1+k):=by funext i a;rw[show k0+(i+1)=k0+1+i by omega]
  simp only[Qv,e1,By,RK,e3,pw];rw[ND A1 (k0+1) λc hc=>h c<|bY _ hc]
def wW(x:Ev):QK:=⟨x.Cask,x.Other,x.Where,x.Amount,x.Person, -1,0,x.Day,⟨0,zN,zN⟩,none⟩
theorem qe(r:PR t n all A1 A3 m)(ho:AW t n all)(h0:0<=t)(hb:b.casks=some 0)(hv:XT x=true)(hk:x.Kind=0)(hd:x.Day=t):XV t n (FP all x n) (Yn A1 [b] A3 [m] (some 0) x):=by
 have hmk:=λl' h=>zJ (l' :=l') ho h0 hv hk h;have hml:m.length=all.length:=by rw[r.map,eP,r.len]
 unfold Yn FP;rw[AT (by rw[hk];rfl)];simp only[DO,IN,hb,r.get];unfold LI at hmk ⊢
 cases hf:YY all x.Cask with
 | some k=>
  simp only[nX,Nm];exact⟨rfl,by decide⟩
 | none=>
  rw[hf] at hmk
  simp only[nG,By,RK] at hmk ⊢
  by_cases hfull:256<=all.length
  ·have e:decide ((m.length:Int) < 256)=false:=rC (by omega);simp only[hfull,e,Nm];exact⟨rfl,by decide⟩
  ·have e:decide ((m.length:Int) < 256)=true:=rB (by omega);simp only[hfull,e,RK] at hmk ⊢
   have hnew:=hmk _ rfl;have hokn:Ln t (n+1) (uC x):=hnew.each _ (by simp);refine⟨A1++[wW x],A3,Qv m x.Cask<|some A1.length,?_,?_⟩
   ·rfl
   ·refine⟨by simp[r.len],λk c h hc hh=> ?_,?_,λi j ci cj q h1 h2 h3 h4=> ?_⟩
    ·by_cases e:k < A1.length
     ·rw[pS e] at hc
      rw[pS (by rw[<-r.len];exact e)] at hh
      exact(r.each k c h hc hh).up
     ·have hk1:=(AC.1 hc).1;have ek:k=A1.length:=by simp at hk1;omega
      rw[ek,pq<|IR _] at hc
      rw[ek,r.len,pq<|IR _] at hh
      simp only[lx,IN,BY] at hc hh
      subst hc;subst hh;exact CR.ba (c:=wW x) (F:=[]) h0 hd hokn rfl
    ·rw[r.map]
     have h1:∀c∈A1,c.number≠x.Cask:=λc hc=>by
      obtain⟨k,hk⟩:=List.getElem?_of_mem hc;have hk1:=(AC.1 hk).1;have hk2:all[k]? =some (all[k]'(by rw[<-r.len];exact hk1)):=Rw _;have:=SD hf _<|s7 hk2;rw[(r.each k c _ hk hk2).number] at this
      exact this
     have h2:=ND (num:=x.Cask) (v:=some A1.length) A1 0 h1;simp only[pz] at h2
     rw[h2];apply rH;intro i;simp only[nN,List.getElem?_append,eP];by_cases e:i < A1.length
     ·simp[e]
     ·simp only[e,RK];by_cases e2:i=A1.length
      ·subst e2;simp[wW]
      ·have:∃d,i - A1.length=d+1:=⟨i - A1.length - 1,by omega⟩;obtain⟨d,hd'⟩:=this;rw[hd'];simp
    ·by_cases e:i < A1.length
     ·rw[pS e] at h1
      by_cases e2:j < A1.length
      ·rw[pS e2] at h2
       exact r.apart i j ci cj q h1 h2 h3 h4
      ·have hj1:=(AC.1 h2).1;have ek:j=A1.length:=by simp at hj1;omega
       rw[ek,pq<|IR _] at h2
       simp only[lx,IN,BY] at h2
       subst h2;cases h4
     ·have hj1:=(AC.1 h1).1;have ek:i=A1.length:=by simp at hj1;omega
      rw[ek,pq<|IR _] at h1
      simp only[lx,IN,BY] at h1
      subst h1;cases h3
end
end
section
open Go.Dec
variable{x:Int}
section
variable{V:Type}
theorem NB{k:Int}{v:V}:∀{l:UV (Int×V)},x∈(Qv l k v).map Prod.fst↔x=k∨x∈l.map Prod.fst
 | []=>by simp[Qv]
 | y::l=>by
  simp only[Qv];by_cases e:k=y.1
  ·have e1:(k==y.1)=true:=by simpa using e
   rw[AT e1];simp[e]
  ·have e1:(k==y.1)=false:=by simpa using e
   rw[e1];simp only[By,RK,s6,y1,NB (l:=l)];constructor
   ·rintro(h | h | h)
    ·exact .inr<|.inl h
    ·exact .inl h
    ·exact .inr<|.inr h
   ·rintro(h | h | h)
    ·exact .inr<|.inl h
    ·exact .inl h
    ·exact .inr<|.inr h
def GJ(a l:UV (Int×V)):UV (Int×V):=l.foldl (λa x=>Qv a x.1 x.2) a
theorem Na:∀{l a:UV (Int×V)},(a.map Prod.fst).Nodup->((GJ a l).map Prod.fst).Nodup
 | [],_,h=>h
 | x::l,a,h=>Na (l:=l) (a:=Qv a x.1 x.2)<|JL h
theorem Oo{x:Int}:∀{l a:UV (Int×V)},x∈(GJ a l).map Prod.fst↔x∈a.map Prod.fst∨x∈l.map Prod.fst
 | [],a=>by simp[GJ]
 | y::l,a=>by
  have:=Oo (x:=x) (l:=l) (a:=Qv a y.1 y.2);have e:GJ a (y::l)=GJ (Qv a y.1 y.2) l:=rfl;rw[e,this,NB];simp only[s6,y1];constructor
  ·rintro((h | h) | h)
   ·exact .inr<|.inl h
   ·exact .inl h
   ·exact .inr<|.inr h
  ·rintro(h | h | h)
   ·exact .inl<|.inr h
   ·exact .inl<|.inl h
   ·exact .inr h
theorem Lc:∀{l a a' :UV (Int×V)},a'.Perm a->(a.map Prod.fst).Nodup->(GJ a' l).Perm (GJ a l)
 | [],_,_,h,_=>h
 | _x::l,_a,_a',h,hn=>Lc (l:=l) (Hj h hn)<|JL hn
theorem Oq{a:UV (Int×V)}{y:Int}{u v:V}(hn:(a.map Prod.fst).Nodup)(h:x≠y):(Qv (Qv a x u) y v).Perm (Qv (Qv a y v) x u):=by
 have h1:(Qv (Qv a x u) y v).Perm ((y,v)::(x,u)::(a.filter λz=> !(x==z.1)).filter (λz=> !(y==z.1))):=by
  refine(Jh<|JL hn).trans<|.cons _ ?_;refine((Jh hn).filter _).trans<|.of_eq ?_;rw[pv,AT<|by simpa using h.symm]
 have h2:(Qv (Qv a y v) x u).Perm ((x,u)::(y,v)::(a.filter λz=> !(y==z.1)).filter (λz=> !(x==z.1))):=by
  refine(Jh<|JL hn).trans<|.cons _ ?_;refine((Jh hn).filter _).trans<|.of_eq ?_;rw[pv,AT<|by simpa using h]
 refine h1.trans<|(List.Perm.swap _ _ _).trans ?_;refine List.Perm.trans (.of_eq ?_) h2.symm;congr 2;rw[rp,rp];exact pZ λz _=>lk _ _
theorem kv{l l' :UV (Int×V)}(h:l'.Perm l):∀{a:UV (Int×V)},(a.map Prod.fst).Nodup->(l.map Prod.fst).Nodup->(GJ a l').Perm (GJ a l):=by
 induction h with
 | nil=>intro a _ _;exact .refl _
 | cons x _ ih=>
  intro a ha hl;simp only[s6,rP] at hl
  exact ih (JL ha) hl.2
 | swap x y l=>
  intro a ha hl;simp only[s6,rP,y1,not_or] at hl
  exact Lc (Oq ha λe=>hl.1.1 e.symm) (JL<|JL ha)
 | trans h1 h2 ih1 ih2=>
  intro a ha hl;exact(ih1 ha<|(h2.map Prod.fst).nodup_iff.2 hl).trans<|ih2 ha hl
end
theorem Tn{q j:Nat}(hq:q≠j):∀(l:UV (Int×Bool)) (s:FM) (lq:UV (Int×Bool)),s[q]? =some lq->Ys (YG (some q) j) l s=some (s.set q<|GJ lq l)
 | [],s,lq,h=>by
  have:=B6 h;simp only[Ys,GJ,List.foldl_nil];rw[<-this]
 | x::l,s,lq,h=>by
  have hlt:=(AC.1 h).1
  have e:YG (some q) j x s=some (s.set q<|Qv lq x.1 x.2):=by
   unfold YG xx;simp only[DO,RW hq,h,QU]
  simp only[Ys,e,DO];rw[Tn hq l _ (Qv lq x.1 x.2)<|pR hlt,rT];rfl
theorem ku{A:FM}{q j:Nat}{lq lj:UV (Int×Bool)}(hq:q≠j)(h1:A[q]? =some lq)(h2:A[j]? =some lj)(hn:(lq.map Prod.fst).Nodup)(hn2:(lj.map Prod.fst).Nodup):WG A (some q) (some j)=some (A.set q<|GJ lq lj):=by
 unfold WG;simp only[DO,h2]
 have hp:BZ TP (YG (some q) j) lj A=some (A.set q<|GJ lq lj):=by
  refine Oc (Tn hq lj A lq h1) λl' hl' =>⟨_,Tn hq l' A lq h1,by simp,λi x y hx hy=> ?_⟩;have hlt:=(AC.1 h1).1;by_cases e:q=i
  ·subst e;rw[pR hlt] at hx hy
   cases hx;cases hy;exact kv hl' hn hn2
  ·rw[pV e] at hx hy
   rw[hx] at hy;cases hy;exact .refl _
 rw[hp,DO];have:(A.set q<|GJ lq lj)[j]? =some lj:=by rw[pV hq];exact h2
 rw[<-B6 this]
theorem kW(a u:ZF):UJ a u=some ⟨Jc a.age u.age,Td a.woods u.woods,Td a.places u.places⟩:=by
 obtain⟨t1,ht1,hl1⟩:=HW (body:=Yb u) (λi (t:ZF)=>((i:Int),t)) (λt=>t) (λi t=>t={a with age:=Jc a.age u.age,woods:=Ps i a.woods u.woods}) 8
  (λi t hi ht=>by
   have hw:ZA ((i:Int)+1)=((i+1:Nat):Int):=by rw[Qp (by omega)<|by omega];rfl
   have hm:(Ps i a.woods u.woods) i=a.woods i:=by unfold Ps;rw[RW<|by omega]
   refine⟨_,?_,rfl⟩;unfold Yb;rw[AT (by simp;omega),Hl hi];simp only[DO,QU,hw,ht,hm];rw[LG])
  (λt ht=>by
   unfold Yb;rw[RW<|by simp]) 8 0 {a with age:=Jc a.age u.age} rfl (by rw[yG])
 obtain⟨t2,ht2,hl2⟩:=HW (body:=Ya u) (λi (t:ZF)=>((i:Int),t)) (λt=>t) (λi t=>t={a with age:=Jc a.age u.age,woods:=Td a.woods u.woods,places:=Ps i a.places u.places}) 8
  (λi t hi ht=>by
   have hw:ZA ((i:Int)+1)=((i+1:Nat):Int):=by rw[Qp (by omega)<|by omega];rfl
   have hm:(Ps i a.places u.places) i=a.places i:=by unfold Ps;rw[RW<|by omega]
   refine⟨_,?_,rfl⟩;unfold Ya;rw[AT (by simp;omega),Hl hi];simp only[DO,QU,hw,ht,hm];rw[LG])
  (λt ht=>by
   unfold Ya;rw[RW<|by simp]) 8 0 t1 rfl (by rw[ht1,yG];rfl)
 unfold UJ;simp only[QU];have h1:ZR (Yb u) (0,{a with age:=Jc a.age u.age})=some t1:=hl1;have h2:ZR (Ya u) (0,t1)=some t2:=hl2;refine ZO h1<|ZO h2 ?_;rw[ht2];rfl
end
section
open Go.Dec
variable{A3:FM}
theorem M2{A1:UV QK}{k j:Nat}{c:QK}{h so:Zh}{lj:UV (Int×Bool)}{tm:ZF}{n:Int}(hc:A1[k]? =some c)(hraw:h=Vw c h.Fills)(hamt:0<=c.amount/\c.amount<=1099511627776)(hn:0<=n/\n<=1099511627776)(hfr:FR A3 c.fills h.Fills)(hne:0 < c.amount->h.Fills≠[])
  (hj:A3[j]? =some lj) (hjn:(lj.map Prod.fst).Nodup) (hjF:∀x,x∈so.Fills↔x∈lj.map Prod.fst) (hq:c.fills≠some j) (ht:so.C.Age=tm.age/\so.C.Woods=tm.woods/\so.C.Places=tm.places):∃c' A3',YR A1 A3 (some k) tm (some j) n=some (A1.set k c',A3')/\c'.number=c.number/\c'.since=c.since/\Wv h so n=Vw c' (Wv h so n).Fills/\FR A3' c'.fills (Wv h so n).Fills/\
   (∀(q:Nat) lq,A3[q]? =some lq->c.fills≠some q->A3'[q]? =some lq)/\(c'.fills=c.fills∨c'.fills=some A3.length):=by
 have hk:=(AC.1 hc).1;have hca:h.C.Amount=c.amount:=by rw[hraw];rfl
 have hw:ZA (c.amount+n)=c.amount+n:=Qp (by omega) (by omega);unfold YR;simp only[DO,hc];by_cases e:(c.amount==0)=true
 ·have e' :(h.C.Amount==0)=true:=by rw[hca];exact e
  refine⟨{c with times:=tm,fills:=some A3.length,amount:=c.amount+n},A3++[lj],?_,rfl,rfl,?_,?_,λq lq h1 _=> ?_,.inr rfl⟩
  ·simp only[e,Nm,X8,Nc,hj,DO,QU,rT,pR hk,hw]
  ·unfold Wv;rw[AT e'];rw[hraw];simp only[ht.1,ht.2.1,ht.2.2];rfl
  ·unfold Wv;rw[AT e'];exact⟨lj,by simp,hjn,hjF⟩
  ·have:=(AC.1 h1).1;rw[pS this];exact h1
 ·have hpos:0 < c.amount:=by
   have:c.amount≠0:=λe0=>e (by simp[e0]);omega
  have e' :¬(h.C.Amount==0)=true:=by rw[hca];exact e
  cases hf:c.fills with
  | none=>rw[hf] at hfr;exact absurd hfr (hne hpos)
  | some q=>
   rw[hf] at hfr
   obtain⟨lq,hlq,hqn,hqF⟩:=hfr;have hqj:q≠j:=λe0=>hq (by rw[hf,e0]);have hql:=(AC.1 hlq).1;refine⟨{c with times:=⟨Jc c.times.age tm.age,Td c.times.woods tm.woods,Td c.times.places tm.places⟩,amount:=c.amount+n},A3.set q<|GJ lq lj,?_,rfl,rfl,?_,?_,λq' lq' h1 h2=> ?_,.inl hf⟩
   ·simp only[e,RK,By,kW,DO,QU,hf,ku hqj hlq hj hqn hjn,pR hk,rT,hw]
   ·unfold Wv;rw[RW e'];have h1:h.C.Age=c.times.age:=by rw[hraw];rfl
    have h2:h.C.Woods=c.times.woods:=by rw[hraw];rfl
    have h3:h.C.Places=c.times.places:=by rw[hraw];rfl
    simp only[ht.1,ht.2.1,ht.2.2,h1,h2,h3]
    conv=>lhs;rw[hraw]
    rfl
   ·unfold Wv;rw[RW e'];show FR _ c.fills (E7 h.Fills so.Fills);rw[hf];refine⟨GJ lq lj,pR hql,Na hqn,λx=> ?_⟩;rw[NA,Oo,hqF,hjF]
   ·rw[pV λe0=>h2<|by rw[e0]];exact h1
section
variable{t:Int}{n:Nat}{all:UV Zh}{A1:UV QK}{A3:FM}{m:UV (Int×H1 Nat)}{b:Qi}{x:Ev}
theorem ya{q:Nat}{F:UV Int}(h:FR A3 (some q) F):q < A3.length:=by
 obtain⟨l,h1,_⟩:=h;exact(AC.1 h1).1
theorem Tq(r:PR t n all A1 A3 m)(ho:AW t n all)(h0:0<=t)(ht:t<=65536)(hb:b.casks=some 0)(hbe:b.event=n)(hv:XT x=true)(hk:x.Kind=1)(hd:x.Day=t):XV t n (FP all x n) (VU A1 [b] A3 [m] (some 0) x):=by
 unfold VU FP;rw[RW (by rw[hk];decide),hd];rcases XO (num:=x.Cask) r (by omega) hb with⟨hf,hm⟩ | ⟨k,h,c,hf,hh,hnum,hr,hc,hs,hraw,hok,hm⟩
 ·rw[hf,hm];exact⟨rfl,by decide⟩
 ·rw[hf,hm];simp only[hh,Qt,DO,hc,QU];have hact:Wn all k h x n=Sg all k h x n:=by unfold Wn;rw[hk];rfl
  rw[hact];have hcr:=hr.each k c h hc hh;have hca:h.C.Amount=c.amount:=by rw[hraw];rfl
  have hcro:h.C.Room=c.room:=by rw[hraw];rfl
  have hamt:=hok.amt;have hroom:=hok.room;rw[hca,hcro] at hamt
  rw[hcro] at hroom
  have ha:=NR hv<|.inl hk;have hw:ZA (c.amount+x.Amount)=c.amount+x.Amount:=Qp (by omega) (by omega);have hokd:=λl' (hl' :Sg all k h x n= .inl l')=>zV ho h0 hh ha.1 hl';unfold Sg at hokd ⊢
  rw[hca,hcro] at hokd ⊢
  rw[hw];by_cases h1:c.amount+x.Amount > c.room
  ·have e:decide (c.amount+x.Amount<=c.room)=false:=rC (by omega);simp only[h1,e,Nm];exact⟨rfl,by decide⟩
  ·have e:decide (c.amount+x.Amount<=c.room)=true:=rB (by omega);simp only[h1,RK] at hokd
   simp only[h1,e,RK];have hnew:=hokd _ rfl;have hql:∀q,c.fills=some q->q < A3.length:=λq hq=>ya (by rw[<-hq];exact hcr.fills);have hfr' :FR (A3++[[((n:Int),true)]]) c.fills h.Fills:=hcr.fills.fN λq hq=>pS<|hql q hq
   obtain⟨c',A3',hp,hp1,hp2,hp3,hp4,hp5,hp6⟩:=M2 (A3:=A3++[[((n:Int),true)]]) (j:=A3.length) (lj:=[((n:Int),true)]) (so:=Sf n) (tm:=⟨0,zN,zN⟩) (n:=x.Amount) hc hraw (by omega) (by omega) hfr' (λhp=>by rw[<-hca] at hp;exact hok.some hp)
    (by simp) (by simp) (λy=>by simp[Sf]) (λe=>by have:=hql _ e;omega) ⟨rfl,rfl,rfl⟩
   have hmod:YR (A1.set k c) (A3++[Qv [] b.event true]) (some k) (ZF.mk 0 (λ_=>0) λ_=>0) (some A3.length) x.Amount=some ((A1.set k c).set k c',A3'):=by rw[hbe];exact hp
   have hmem:Wv h (Sf n) x.Amount∈all.set k (Wv h (Sf n) x.Amount):=s7<|pR (AC.1 hh).1;have hho:=hnew.each _ hmem
   have hres:XV t n (.inl<|all.set k<|Wv h (Sf n) x.Amount) (some<|.ok ((A1.set k c).set k c',A3',[m])):=by
    refine⟨_,_,_,rfl,?_⟩;refine hr.set hc hh hp1 ?_ (λi ci hi hne h1 h2=> ?_) λi ci q hne h1 h2 h3=> ?_
    ·rw[hp3];refine CR.ba h0 (by rw[hp2];exact hs) (by rw[<-hp3];exact hho) ?_;exact hp4
    ·have hci:=(hr.each i ci hi h1 h2).up;refine⟨hci.since,hci.ok,hci.eq,hci.fills.fN λq hq=> ?_⟩;have hq2:=hci.fills;rw[hq] at hq2
     obtain⟨lq,g1,_⟩:=hq2;have hql2:=(AC.1 g1).1;rw[g1];exact hp5 q lq (by rw[pS hql2];exact g1) λe=>hne<|hr.apart i k ci c q h1 hc hq e
    ·have hci:=(hr.each i ci _ h1<|Rw (show i < all.length by rw[<-hr.len];exact(AC.1 h1).1)).fills;rw[h2] at hci
     have:=ya hci;rcases hp6 with hp6 | hp6
     ·rw[hp6] at h3;exact hne<|hr.apart i k ci c q h1 hc h2 h3
     ·rw[hp6] at h3
      simp only[BY,pP,s5,pO] at h3
      omega
   show XV t n _ ((YR (A1.set k c) (A3++[Qv [] b.event true]) (some k) (ZF.mk 0 (λ_=>0) λ_=>0) (some A3.length) x.Amount).bind λr_106=>some<|.ok (r_106.1,r_106.2,[m]));rw[hmod,DO];exact hres
theorem kJ(r:PR t n all A1 A3 m)(ho:AW t n all)(h0:0<=t)(ht:t<=65536)(hb:b.casks=some 0)(hv:XT x=true)(hk:x.Kind=2)(hd:x.Day=t):XV t n (FP all x n) (VS A1 [b] A3 [m] (some 0) x):=by
 unfold VS FP;rw[RW (by rw[hk];decide),hd];rcases XO (num:=x.Cask) r (by omega) hb with⟨hf,hm⟩ | ⟨i,h,c,hf,hh,hnum,hr,hc,hs,hraw,hok,hm⟩
 ·rw[hf,hm];exact⟨rfl,by decide⟩
 ·rw[hf,hm];have hact:Wn all i h x n=SX all i h x:=by unfold Wn;rw[hk];rfl
  simp only[hh,hact];have hokd:=λl' (ha:1<=x.Amount) (hl' :SX all i h x= .inl l')=>qy ho h0 hh ha hl';have ha:=NR hv<|.inr<|.inl hk;have hokd:=λl' =>hokd l' ha.1;unfold SX at hokd ⊢
  simp only[Qt];rcases XO (num:=x.Other) hr (by omega) hb with⟨hf2,hm2⟩ | ⟨k,ho2,o,hf2,hho,hnum2,hr2,hoc,hos,horaw,hook,hm2⟩
  ·rw[hf2,hm2];exact⟨rfl,by decide⟩
  ·rw[hf2,hm2];rw[hf2] at hokd
   simp only[hho] at hokd ⊢
   have hil:i < A1.length:=by have:=(AC.1 hc).1;simpa using this
   by_cases hik:i=k
   ·
     subst hik;have hc2:((A1.set i c).set i o)[i]? =some o:=hoc;simp only[DO,hc2];have e1:(i != i)=false:=by simp
     have e2:(i==i)=true:=by simp
     unfold TY;simp only[e1,e2,Nm];exact⟨rfl,by decide⟩
   · have hc2:((A1.set i c).set k o)[i]? =some c:=by rw[pV λe=>hik e.symm];exact hc
     simp only[DO,hc2,hoc];have e1:(i != k)=true:=by simpa using hik
     have e2:(i==k)=false:=by simpa using hik
     have hcr:=hr2.each i c h hc2 hh;have hor:=hr2.each k o ho2 hoc hho;have a1:h.C.Owner=c.owner:=by rw[hraw];rfl
     have a2:h.C.Creditor=c.creditor:=by rw[hraw];rfl
     have a3:h.C.Amount=c.amount:=by rw[hraw];rfl
     have b1:ho2.C.Owner=o.owner:=by rw[horaw];rfl
     have b2:ho2.C.Creditor=o.creditor:=by rw[horaw];rfl
     have b3:ho2.C.Amount=o.amount:=by rw[horaw];rfl
     have b4:ho2.C.Room=o.room:=by rw[horaw];rfl
     have camt:=hok.amt;have croom:=hok.room;have ccred:=hok.cred;have oamt:=hook.amt;have oroom:=hook.room;have ocred:=hook.cred;rw[a2] at ccred;rw[b2] at ocred;rw[b3,b4] at oamt;rw[b4] at oroom;rw[a3] at camt
     unfold TY at hokd ⊢
     rw[a1,a2,a3,b1,b2,b3,b4] at hokd ⊢
     simp only[e1,e2,By,RK,yu ccred.1,yu ocred.1] at hokd ⊢
     have n11:ZY false 11=some (.pan ⟨11⟩):=rfl;have n0:∀e,ZY true e=some (.ok ()):=λ_=>rfl;have nf:∀e,ZY false e=some (.pan ⟨e⟩):=λ_=>rfl;by_cases c1:c.owner=o.owner
     ·have f1:(c.owner==o.owner)=true:=by simpa using c1
      have f2:(c.owner != o.owner)=false:=by simpa using c1
      simp only[f1,f2,Nm,nC,n0] at hokd ⊢
      by_cases c2:c.creditor≥0
      ·simp only[c2,pn,x7,lK,Nm,By,RK,nf,DO];exact⟨rfl,by decide⟩
      ·simp only[c2,po,pG,nC,Nm] at hokd ⊢
       by_cases c3:o.creditor≥0
       ·simp only[c3,pn,x7,Nm,nf,DO];exact⟨rfl,by decide⟩
       ·simp only[c3,po,pG,n0,DO,By,RK] at hokd ⊢
        by_cases c4:c.amount < x.Amount
        ·have g1:decide (c.amount≥x.Amount)=false:=rC (by omega);simp only[c4,g1,Nm,nf];exact⟨rfl,by decide⟩
        ·have g1:decide (c.amount≥x.Amount)=true:=rB (by omega);simp only[c4,g1,RK,n0] at hokd ⊢
         have hw:ZA (o.amount+x.Amount)=o.amount+x.Amount:=Qp (by omega) (by omega);rw[hw];by_cases c5:o.amount+x.Amount > o.room
         ·have g2:decide (o.amount+x.Amount<=o.room)=false:=rC (by omega);simp only[c5,g2,Nm,nf];exact⟨rfl,by decide⟩
         ·have g2:decide (o.amount+x.Amount<=o.room)=true:=rB (by omega);simp only[c5,g2,RK,n0] at hokd ⊢
          have hnew:=hokd _ rfl;have hcf:=hcr.fills;cases hfc:c.fills with
          | none=>
           rw[hfc] at hcf
           exact absurd hcf (hok.some (by rw[a3];omega))
          | some j=>
           rw[hfc] at hcf
           obtain⟨lj,hj,hjn,hjF⟩:=hcf
           obtain⟨o',A3',hp,hp1,hp2,hp3,hp4,hp5,hp6⟩:=M2 (A3:=A3) (j:=j) (lj:=lj) (so:=h) (tm:=c.times) (n:=x.Amount) hoc horaw (by omega) (by omega) hor.fills λhp=>by rw[<-b3] at hp;exact hook.some hp
            hj hjn hjF (λe=>hik<|hr2.apart i k c o j hc2 hoc hfc e) ⟨by rw[hraw];rfl,by rw[hraw];rfl,by rw[hraw];rfl⟩
           have hc3:(((A1.set i c).set k o).set k o')[i]? =some c:=by rw[pV λe=>hik e.symm];exact hc2
           rw[hp,DO];simp only;rw[Gl hc3 (by omega) (by omega),DO];have hjl:j < A3.length:=(AC.1 hj).1;have hkall:=(AC.1 hho).1;have hmem:Wv ho2 h x.Amount∈(all.set k<|Wv ho2 h x.Amount).set i (Xc h x.Amount):=s7 (i:=k) (by rw[pV hik];exact pR hkall);have hho' :=hnew.each _ hmem;have hlmem:Xc h x.Amount∈(all.set k<|Wv ho2 h x.Amount).set i (Xc h x.Amount):=s7 (i:=i) (pR<|by simpa using(AC.1 hh).1);have hlok:=hnew.each _ hlmem
           have hpr:PR t (n+1) (all.set k<|Wv ho2 h x.Amount) (((A1.set i c).set k o).set k o') A3' m:=by
            refine hr2.set hoc hho hp1 ?_ (λi' ci hi hne h1 h2=> ?_) λi' ci q hne h1 h2 h3=> ?_
            ·rw[hp3];refine CR.ba h0 (by rw[hp2];exact hos) (by rw[<-hp3];exact hho') ?_;exact hp4
            ·have hci:=(hr2.each i' ci hi h1 h2).up;refine⟨hci.since,hci.ok,hci.eq,hci.fills.fN λq hq=> ?_⟩;have hq2:=hci.fills;rw[hq] at hq2
             obtain⟨lq,g1',_⟩:=hq2;rw[g1'];exact hp5 q lq g1' λe=>hne<|hr2.apart i' k ci o q h1 hoc hq e
            ·have hci:=(hr2.each i' ci _ h1<|Rw (show i' < all.length by rw[<-hr2.len];exact(AC.1 h1).1)).fills;rw[h2] at hci
             have hlt:=ya hci;rcases hp6 with hp6 | hp6
             ·rw[hp6] at h3;exact hne<|hr2.apart i' k ci o q h1 hoc h2 h3
             ·rw[hp6] at h3
              simp only[BY] at h3
              omega
           refine⟨_,_,_,rfl,?_⟩;have hh3:(all.set k<|Wv ho2 h x.Amount)[i]? =some h:=by rw[pV λe=>hik e.symm];exact hh
           have hcr3:=hpr.each i c h hc3 hh3;have hls:Xc h x.Amount=Vw (GI c x.Amount) (Xc (Vw c h.Fills) x.Amount).Fills:=by rw[<-OV,<-hraw]
           refine hpr.set hc3 hh3 Ph ?_ (λi' ci hi _ h1 h2=>hpr.each i' ci hi h1 h2) λi' ci q hne h1 h2 h3=> ?_
           ·rw[hls];refine CR.ba h0 (by rw[NU];exact hs) (by rw[<-hls];exact hlok)<|zb hcr3.fills
           ·rcases NV (c:=c) (n:=x.Amount) with e | e
            ·rw[e] at h3;exact hne<|hpr.apart i' i ci c q h1 hc3 h2 h3
            ·rw[e] at h3;cases h3
     ·have f1:(c.owner==o.owner)=false:=by simpa using c1
      have f2:(c.owner != o.owner)=true:=by simpa using c1
      simp only[f1,f2,Nm,lK,By,RK,n0,nf,DO];exact⟨rfl,by decide⟩
end
end
section
open Go.Dec
variable{l:UV Ev}{day:Int}
theorem qt(x:Ev):W6 x=some (XT x):=by
 have e:∀n a b,J8 n a b=Wm n a b:=λ_ _ _=>rfl;unfold W6 Ug Ut UK Y7 YD XT;simp only[e];cases h1:Wm x.Day 0 65536 with
 | false=>simp
 | true=>
  cases h2:Wm x.Cask 0 1073741824 with
  | false=>simp
  | true=>
   simp only[x7,nv,By,RK,rM];by_cases k0:(x.Kind==0)=true
   ·rw[AT k0,AT k0]
   ·rw[RW k0,RW k0];by_cases k1:(x.Kind==1)=true
    ·simp[k1]
    ·simp only[pQ] at k1
     by_cases k3:(x.Kind==3)=true
     ·simp[k1,k3]
     ·simp only[pQ] at k3
      simp only[k1,k3,nv,By,RK,DO];by_cases k2:(x.Kind==2)=true
      ·rw[AT k2,AT k2]
      ·rw[RW k2,RW k2];by_cases k4:(x.Kind==4)=true
       ·rw[AT k4,AT k4]
       ·rw[RW k4,RW k4];by_cases k5:(x.Kind==5)=true
        ·simp[k5]
        ·simp only[pQ] at k5
         by_cases k6:(x.Kind==6)=true
         ·simp[k5,k6]
         ·simp only[pQ] at k6
          simp only[k5,k6,nv,By,RK,DO];by_cases k7:(x.Kind==7)=true
          ·rw[AT k7,AT k7]
          ·rw[RW k7,RW k7];by_cases k8:(x.Kind==8)=true
           ·rw[AT k8,AT k8]
           ·rw[RW k8,RW k8]
abbrev jX:=((UV QK)×(UV Qi)×FM×(UV<|UV<|Int×(H1 Nat))×(H1 Nat)×Ev)->H1 (Out Zi<|(UV QK)×FM×(UV<|UV<|Int×(H1 Nat)))
theorem AB:∃D:UV (Int×jX),GW=some D/\∀(x:Ev),XT x=true->∃f,Qb D x.Kind=some f/\
  ∀{t:Int} {n:Nat} {all:UV Zh} {A1:UV QK} {A3:FM} {m:UV (Int×H1 Nat)} {b:Qi},PR t n all A1 A3 m->AW t n all->0<=t->t<=65536->b.casks=some 0->b.event=n->x.Day=t->XV t n (FP all x n) (f (A1,[b],A3,[m],some 0,x)):=by
 refine⟨_,rfl,λx hv=> ?_⟩;rcases kinds hv with k | k | k | k | k | k | k | k | k<;>rw[k]
 ·exact⟨_,rfl,λr ho h0 ht hb _ hd=>qe r ho h0 hb hv k hd⟩
 ·exact⟨_,rfl,λr ho h0 ht hb hbe hd=>Tq r ho h0 ht hb hbe hv k hd⟩
 ·exact⟨_,rfl,λr ho h0 ht hb _ hd=>kJ r ho h0 ht hb hv k hd⟩
 ·exact⟨_,rfl,λr _ h0 ht hb _ hd=>qX r h0 ht hb hv k hd⟩
 ·exact⟨_,rfl,λr _ h0 ht hb _ hd=>qb r h0 ht hb hv k hd⟩
 ·exact⟨_,rfl,λr _ h0 ht hb _ hd=>kB r h0 ht hb hv k hd⟩
 ·exact⟨_,rfl,λr _ h0 ht hb _ hd=>OX r h0 ht hb hv k hd⟩
 ·exact⟨_,rfl,λr _ h0 ht hb _ hd=>kg r h0 ht hb hv k hd⟩
 ·exact⟨_,rfl,λr _ h0 ht hb _ hd=>k9 r h0 ht hb hv k hd⟩
section
variable{D:UV (Int×jX)}
def zn(D:UV (Int×jX)):Prop:=∀(x:Ev),XT x=true->∃f,Qb D x.Kind=some f/\
 ∀{t:Int} {n:Nat} {all:UV Zh} {A1:UV QK} {A3:FM} {m:UV (Int×H1 Nat)} {b:Qi},PR t n all A1 A3 m->AW t n all->0<=t->t<=65536->b.casks=some 0->b.event=n->x.Day=t->XV t n (FP all x n) (f (A1,[b],A3,[m],some 0,x))
theorem zz(hD:zn D){n:Nat}{s:AU}{x:Ev}{A1:UV QK}{A3:FM}{m:UV (Int×H1 Nat)}{b:Qi}(hx:l[n]? =some x)(hn:n<=4096)(ho:HO n s)(hr:PR s.last n s.all A1 A3 m)(hb:b.casks=some 0)(hd:x.Day<=day):match Uk n s x with
  | .inl s' =>∃A1' A3' m',YB l day D ((n:Int),s.last,A1,[b],A3,[m])=some (.next (((n+1:Nat):Int),s'.last,A1',[⟨some 0,n⟩],A3',[m']))/\PR s'.last (n+1) s'.all A1' A3' m'
  | .inr e=>YB l day D ((n:Int),s.last,A1,[b],A3,[m])=some (.done<|.inr (⟨e⟩,(n:Int),0,some 0))/\e≠0:=by
 have hnl:n < l.length:=(AC.1 hx).1;have hw:ZA ((n:Int)+1)=((n+1:Nat):Int):=by rw[Qp (by omega)<|by omega];rfl
 have h1:decide ((n:Int) < (l.length:Int))=true:=rB (by omega);have nt:∀e,ZY true e=some (.ok ()):=λ_=>rfl;have nf:∀e,ZY false e=some (.pan ⟨e⟩):=λ_=>rfl;unfold YB Uk;simp only[h1,Nm,KH,hx,DO,hd,pn,qt];cases hv:XT x with
 | false=>
  simp only[pG,Nm,nf,Qt];exact⟨trivial,by decide⟩
 | true=>
  simp only[x7,By,RK,nt,Qt];by_cases hlt:x.Day < s.last
  ·have e:decide (x.Day≥s.last)=false:=rC (by omega);simp only[hlt,e,Nm,nf];exact⟨trivial,by decide⟩
  ·have e:decide (x.Day≥s.last)=true:=rB (by omega);simp only[hlt,e,RK,nt];have hday:=fD hv;have hsd:=ho.day;obtain⟨f,hf,hdo⟩:=hD x hv;have hok:=Ta ho.ok (n:=x.Day - s.last) (by omega);have e0:s.last+(x.Day - s.last)=x.Day:=by omega
   rw[e0] at hok
   have hdoes:=hdo (b:=⟨some 0,(n:Int)⟩) (hr.shift (t' :=x.Day)<|by omega) hok hday.1 hday.2 rfl rfl rfl;have hbk:({b with event:=(n:Int)}:Qi)=⟨some 0,n⟩:=by rw[<-hb]
   simp only[IN,DO,QU,rn,hbk,hf];cases hds:FP (s.all.map<|Vt<|x.Day - s.last) x n with
   | inl all' =>
    rw[hds] at hdoes
    obtain⟨A1',A3',m',h2,h3⟩:=hdoes;rw[h2];simp only[hw];exact⟨A1',A3',m',rfl,h3⟩
   | inr er=>
    rw[hds] at hdoes
    obtain⟨h2,h3⟩:=hdoes;rw[h2];exact⟨rfl,h3⟩
theorem Mm{n:Nat}{last:Int}{A1:UV QK}{A2:UV Qi}{A3:FM}{A4:UV (UV<|Int×H1 Nat)}(h:∀x,l[n]? =some x->¬x.Day<=day)(hn:n<=l.length):YB l day D ((n:Int),last,A1,A2,A3,A4)=some (.done<|.inl ((n:Int),A1,A2,A3,A4)):=by
 unfold YB;cases hx:l[n]? with
 | none=>
  have:¬(n:Int) < (l.length:Int):=by
   have:=mG.1 hx;omega
  simp[this]
 | some x=>
  have hnl:n < l.length:=(AC.1 hx).1;have h1:decide ((n:Int) < (l.length:Int))=true:=rB (by omega);have h2:decide (x.Day<=day)=false:=rC<|h x hx;simp only[h1,Nm,KH,hx,DO,h2,By,RK]
theorem LJ(hD:zn D){l:UV Ev}{day:Int}(hl:l.length<=4096):∀(post pre:UV Ev) (s:AU) (A1:UV QK) (A3:FM) (m:UV (Int×H1 Nat)) (b:Qi),l=pre++post->HO pre.length s->PR s.last pre.length s.all A1 A3 m->b.casks=some 0->
  match Bi day post pre.length s with
  | (.inl s',k)=>∃A1' A3' m' b',ZR (YB l day D) ((pre.length:Int),s.last,A1,[b],A3,[m])=some (.inl ((k:Int),A1',[b'],A3',[m']))/\PR s'.last k s'.all A1' A3' m'/\b'.casks=some 0
  | (.inr e,k)=>ZR (YB l day D) ((pre.length:Int),s.last,A1,[b],A3,[m])=some (.inr (⟨e⟩,(k:Int),0,some 0))/\e≠0
 | [],pre,s,A1,A3,m,b,e,ho,hr,hb=>by
  simp only[Bi];refine⟨A1,A3,m,b,?_,hr,hb⟩;rw[ZI,Mm (λx hx=>by rw[e] at hx;simp at hx) (by rw[e];simp)]
 | x::post,pre,s,A1,A3,m,b,e,ho,hr,hb=>by
  have hx:l[pre.length]? =some x:=Wi e;have hn:pre.length<=4096:=by have:=G5 e;omega
  rw[ZI];by_cases hd:x.Day<=day
  ·have hst:=zz hD hx hn ho hr hb hd;simp only[Bi,hd,Nm];cases hs:Uk pre.length s x with
   | inl s' =>
    rw[hs] at hst
    obtain⟨A1',A3',m',h1,h2⟩:=hst;rw[h1];have ih:=LJ hD (day:=day) hl post (pre++[x]) s' A1' A3' m' ⟨some 0,(pre.length:Int)⟩ (by rw[e];simp) (by simpa using(Ad ho hs).1) (by simpa using h2) rfl;simpa using ih
   | inr er=>
    rw[hs] at hst
    rw[hst.1];exact⟨rfl,hst.2⟩
  ·rw[Mm (λy hy=>by rw[hx] at hy;cases hy;exact hd) (by have:=G5 e;omega)];simp only[Bi,hd,RK];exact⟨A1,A3,m,b,rfl,hr,hb⟩
end
end
section
open Go.Dec
section
variable{t day:Int}{n:Nat}{all:UV Zh}{A1:UV QK}{A3:FM}{m:UV (Int×H1 Nat)}
theorem LU(hday:day<=1000000)(hok:∀(k:Nat) (c:QK),A1[k]? =some c->0<=c.since/\c.since<=day/\∃F,Ln c.since n<|Vw c F):∀(L:UV (Int×H1 Nat)) (s:UV QK),(∀e∈L,∃k,e.2=some k/\k < A1.length)->(L.map Prod.snd).Nodup->s.length=A1.length->(∀k,some k∈L.map Prod.snd->s[k]? =A1[k]?)->
  ∃s',Ys (Uy day) L s=some s'/\s'.length=A1.length/\∀i:Nat,s'[i]? =if some i∈L.map Prod.snd then(A1[i]?).map (Wu day) else s[i]?
 | [],s,_,_,hl,_=>⟨s,rfl,hl,λi=>by simp⟩
 | e::L,s,hE,hN,hl,hs=>by
  obtain⟨k,hk,hkl⟩:=hE e<|by simp
  have hN' :some k∉L.map Prod.snd/\(L.map Prod.snd).Nodup:=by
   have:=rP.1 hN;rw[hk] at this;exact this
  have hc:A1[k]? =some A1[k]:=Rw hkl;have hsk:s[k]? =some A1[k]:=by rw[hs k<|by simp[hk]];exact hc
  obtain⟨h0,h1,F,hF⟩:=hok k _ hc
  have hb:Uy day e s=some (s.set k<|Wu day A1[k]):=by
   unfold Uy;rw[hk,Mw hsk hF h0 h1 hday];rfl
  obtain⟨s',g1,g2,g3⟩:=LU hday hok L (s.set k<|Wu day A1[k]) (λe' he' =>hE e'<|bY _ he') hN'.2 (by simpa using hl) λk' hk' =>by
   have hne:k≠k' :=λe' =>hN'.1 (by rw[e'];exact hk');rw[pV hne];exact hs k' (by rw[s6];exact bY _ hk')
  refine⟨s',by simp only[Ys,hb,DO];exact g1,g2,λi=> ?_⟩;rw[g3 i];by_cases hi:some i∈L.map Prod.snd
  ·rw[AT hi,AT (by rw[s6];exact bY _ hi)]
  ·rw[RW hi];by_cases e' :k=i
   ·subst e';rw[pR (by rw[hl];exact hkl),AT (by simp[hk]),hc];rfl
   ·rw[pV e',RW];rw[s6,y1,hk];rintro(h | h)
    ·exact e'<|by simpa using h.symm
    ·exact hi h
theorem jy(r:PR t n all A1 A3 m)(hd:t<=day)(hday:day<=65536):CC (Uy day) m A1=some (A1.map<|Wu day)/\PR day n (all.map<|Vt<|day - t) (A1.map<|Wu day) A3 m/\∀c∈A1.map (Wu day),c.since=day:=by
 have hlook:∀(k:Nat) (c:QK),A1[k]? =some c->∃h,all[k]? =some h/\CR t n A3 c h:=λk c hc=>by
  have hk:k < all.length:=by rw[<-r.len];exact(AC.1 hc).1
  exact⟨all[k],Rw hk,r.each k c _ hc<|Rw hk⟩
 have hsnd:m.map Prod.snd=(List.range A1.length).map some:=by
  rw[r.map];apply rH;intro i;simp only[pb,nN];by_cases h:i < A1.length
  ·simp[h]
  ·simp[h]
 refine⟨Ob λl' hl' => ?_,⟨by simp[r.len],λk c h hc hh=> ?_,?_,λi j ci cj q h1 h2 h3 h4=> ?_⟩,λc hc=> ?_⟩
 ·have hp:=hl'.map Prod.snd
  have hmem:∀o,o∈l'.map Prod.snd↔∃i,i < A1.length/\o=some i:=λo=>by
   rw[hp.mem_iff,hsnd];simp only[rG,rO];exact⟨fun⟨i,h1,h2⟩=>⟨i,h1,h2.symm⟩,fun⟨i,h1,h2⟩=>⟨i,h1,h2.symm⟩⟩
  obtain⟨s',g1,g2,g3⟩:=LU (day:=day) (A1:=A1) (n:=n) (by omega) (λk c hc=>by
   obtain⟨h,_,hcr⟩:=hlook k c hc
   exact⟨hcr.since.1,by have:=hcr.since.2;omega,_,hcr.ok⟩) l' A1 (λe he=>by
    obtain⟨i,h1,h2⟩:=(hmem e.2).1<|pK he;exact⟨i,h2,h1⟩) (hp.nodup_iff.2 (by rw[hsnd];exact List.nodup_range.map _ λa b hab e=>hab<|by simpa using e)) rfl λ_ _=>rfl
  rw[g1];congr 1;apply rH;intro i;rw[g3 i,pb];by_cases h:i < A1.length
  ·rw[AT<|(hmem _).2 ⟨i,h,rfl⟩]
  ·rw[RW (λh' =>by
    obtain⟨i',h1,h2⟩:=(hmem _).1 h';simp only[BY] at h2
    omega),rF<|by omega]
   rfl
 ·rw[pb] at hc hh
  cases h1:A1[k]? with
  | none=>rw[h1] at hc;cases hc
  | some c0=>
   obtain⟨h0,h2,hcr⟩:=hlook k c0 h1;rw[h1] at hc;rw[h2] at hh
   simp only[dO,BY] at hc hh
   subst hc;subst hh;exact(hcr.shift hd).rest
 ·rw[r.map];apply rH;intro i;simp only[nN,pb];cases A1[i]? with
  | none=>rfl
  | some c=>simp[PU]
 ·rw[pb] at h1 h2
  cases g1:A1[i]? with
  | none=>rw[g1] at h1;cases h1
  | some c1=>
   cases g2:A1[j]? with
   | none=>rw[g2] at h2;cases h2
   | some c2=>
    rw[g1] at h1;rw[g2] at h2
    simp only[dO,BY] at h1 h2
    subst h1;subst h2;rw[B8] at h3 h4
    exact r.apart i j c1 c2 q g1 g2 h3 h4
 ·obtain⟨c0,_,rfl⟩:=rG.1 hc;exact Wt
end
theorem PR.start:PR 0 0 [] [] [] []:=⟨rfl,λ_ _ _ h=>by simp at h,rfl,λ_ _ _ _ _ h=>by simp at h⟩
def E2(day:Int)(r:(UV Zh ⊕ Int)×Nat)(o:H1 ((H1 Nat)×Int×Int×(UV QK)×(UV Qi)×FM×(UV<|UV<|Int×H1 Nat))):Prop:=match r with
 | (.inl all,k)=>∃A1 b A3 m,o=some (some 0,(k:Int),0,A1,[b],A3,[m])/\b.casks=some 0/\PR day k all A1 A3 m/\(∀c∈A1,c.since=day)/\AW day k all/\k<=4096/\0<=day/\day<=65536
 | (.inr e,k)=>o=some (none,(k:Int),e,[],[],[],[])/\e≠0
theorem HU(l:UV Ev)(day:Int):E2 day (Yf l day) (W2 l day):=by
 obtain⟨D,hD,hOK⟩:=AB;unfold W2 Yf;by_cases hl:l.length > 4096
 ·have:decide ((l.length:Int) > 4096)=true:=rB (by omega);simp only[this,hl,Nm];exact⟨rfl,by decide⟩
 ·have:decide ((l.length:Int) > 4096)=false:=rC (by omega);simp only[this,hl,RK,By];have e:J8 day 0 65536=Wm day 0 65536:=rfl;rw[e];cases hb:Wm day 0 65536 with
  | false=>exact⟨rfl,by decide⟩
  | true=>
   have hday:=Yd.1 hb;simp only[x7,By,RK,QU,hD,DO,rY];have hloop:=LJ (D:=D) hOK (l:=l) (day:=day) (by omega) l [] ⟨[],0⟩ [] [] [] ⟨some 0,0⟩ rfl HO.start PR.start rfl;unfold Pp;cases hg:Bi day l 0 ⟨[],0⟩ with
   | mk r k=>
    have hg' :Bi day l ([]:UV Ev).length ⟨[],0⟩=(r,k):=hg;rw[hg'] at hloop
    cases r with
    | inl s' =>
     obtain⟨A1',A3',m',b',h1,h2,h3⟩:=hloop;obtain⟨g1,g2,g3,g4⟩:=LS l 0 ⟨[],0⟩ s' k HO.start (by show(0:Int)<=day;omega) hg;have h1' :ZR (YB l day D) (0,0,[],[⟨some 0,0⟩],[],[[]])=_:=h1;obtain⟨p1,p2,p3⟩:=jy h2 g2 hday.2;have hok:=Ta g1.ok (n:=day - s'.last) (by omega);rw[show s'.last+(day - s'.last)=day by omega] at hok
     refine⟨A1'.map<|Wu day,b',A3',m',?_,h3,p2,p3,hok,by omega,hday.1,hday.2⟩;rw[h1',DO];simp only[IN,DO,h3,p1]
    | inr er=>
     have h1' :ZR (YB l day D) (0,0,[],[⟨some 0,0⟩],[],[[]])=_:=hloop.1;refine⟨?_,hloop.2⟩;rw[h1',DO]
end
section
open Go.Dec
variable{all:UV Zh}
def zC:ZQ:=⟨0,0,0,0,0,0,0,0,zN,zN⟩
def GH(all:UV Zh)(num:Int):H1 Zh:=(YY all num).bind λi=>all[i]?
def B4(l:UV Ev)(num day:Int):ZQ×Int:=match(Yf l day).1 with
 | .inr e=>(zC,e)
 | .inl all=>match GH all num with
  | none=>(zC,4)
  | some h=>(h.C,0)
def Re(l:UV Ev)(num day:Int):UV Int×Int:=match(Yf l day).1 with
 | .inr e=>([],e)
 | .inl all=>match GH all num with
  | none=>([],4)
  | some h=>(h.Fills,0)
theorem Cx{l:UV Ev}{day e:Int}{k:Nat}(h:Yf l day=(.inr e,k)):e≠0:=by
 have:=HU l day;rw[h] at this
 exact this.2
theorem CB{l:UV Ev}{day:Int}{k:Nat}(h:Yf l day=(.inl all,k)):AW day k all/\k<=4096/\0<=day/\day<=65536:=by
 have:=HU l day;rw[h] at this
 obtain⟨_,_,_,_,_,_,_,_,h1,h2,h3,h4⟩:=this;exact⟨h1,h2,h3,h4⟩
theorem CR.now{t:Int}{n:Nat}{A3:FM}{c:QK}{h:Zh}(r:CR t n A3 c h)(hs:c.since=t):h=Vw c h.Fills:=by
 have:=r.eq;rw[hs,mV,An] at this
 exact this
theorem Tp{num:Int}{i:Nat}(h:YY all num=some i):∃hh,all[i]? =some hh/\GH all num=some hh:=by
 obtain⟨hh,h1,_⟩:=SC h;exact⟨hh,h1,by simp[GH,h,h1]⟩
theorem PR.look{t:Int}{n:Nat}{A1:UV QK}{A3:FM}{m:UV (Int×H1 Nat)}(r:PR t n all A1 A3 m)(hs:∀c∈A1,c.since=t){i:Nat}{h:Zh}(hh:all[i]? =some h):∃c,A1[i]? =some c/\h=Vw c h.Fills/\FR A3 c.fills h.Fills:=by
 have hi:i < A1.length:=by rw[r.len];exact(AC.1 hh).1
 have hc:A1[i]? =some A1[i]:=Rw hi;have hcr:=r.each i _ h hc hh;exact⟨_,hc,hcr.now<|hs _<|lP _,hcr.fills⟩
theorem uy(l:UV Ev)(num day:Int):DU l num day=some (B4 l num day):=by
 have hp:=HU l day;unfold DU B4;cases hpl:Yf l day with
 | mk r k=>
  rw[hpl] at hp
  cases r with
  | inr e=>
   rw[hp.1,DO];have:(e != 0)=true:=by simpa using hp.2
   simp only[this,Nm];rfl
  | inl all=>
   obtain⟨A1,b,A3,m,h1,hb,hr,hs,_⟩:=hp;rw[h1,DO];have e0:((0:Int) != 0)=false:=rfl;simp only[e0,By,RK,DO,IN,hb,hr.get];cases hf:YY all num with
   | none=>simp[GH,hf];rfl
   | some i=>
    obtain⟨h,hh,hfh⟩:=Tp hf;obtain⟨c,hc,hraw,_⟩:=hr.look hs hh;simp only[ny,By,RK,hfh];unfold Yk;simp only[DO,hc];have:h.C=(Vw c h.Fills).C:=by rw[<-hraw]
    rw[this];rfl
end
section
open Go.Dec
def LC(all:UV Zh):UV Int:=(all.map (·.C.Number)).mergeSort λa b=>decide<|a<=b
def gK(all:UV Zh):UV Zh:=(LC all).filterMap<|GH all
theorem LB(all:UV Zh):(LC all).Perm (all.map (·.C.Number)):=nu _ _
theorem uP{all:UV Zh}{num:Int}(h:num∈all.map (·.C.Number)):∃i hh,YY all num=some i/\all[i]? =some hh/\GH all num=some hh/\hh.C.Number=num:=by
 cases hf:YY all num with
 | none=>
  obtain⟨x,hx,e⟩:=rG.1 h;exact absurd e (SD hf x hx)
 | some i=>
  obtain⟨hh,h1,h2⟩:=Tp hf;obtain⟨h',h3,h4⟩:=SC hf;rw[h1] at h3;cases h3
  exact⟨i,hh,rfl,h1,h2,h4⟩
section
variable{t:Int}{n:Nat}{all:UV Zh}{A1:UV QK}{A3:FM}{m:UV (Int×H1 Nat)}{b:Qi}
theorem uI(r:PR t n all A1 A3 m)(ho:AW t n all):GF m=some (LC all):=by
 have hk:m.map Prod.fst=all.map (·.C.Number):=by
  rw[r.map];apply rH;intro i;simp only[pb,nN];by_cases h:i < A1.length
  ·have h2:i < all.length:=by rw[<-r.len];exact h
   rw[Rw h,Rw h2];simp only[dO];rw[(r.each i _ _ (Rw h)<|Rw h2).number]
  ·rw[rF (by omega),rF (by rw[<-r.len];omega)];rfl
 have hl:m.length=all.length:=by rw[<-nq (f:=Prod.fst),hk,nq]
 have hall:m.all (λx=>decide<|-9223372036854775808<=x.1/\x.1<=9223372036854775807)=true:=s8.2 λx hx=>by
  have h1:x.1∈all.map (·.C.Number):=by rw[<-hk];exact pK hx
  obtain⟨h,hh,e⟩:=rG.1 h1;have:=(ho.each h hh).num;simp only[wt];omega
 unfold GF;rw[AT ⟨hall,by have:=ho.few;omega⟩,hk];rfl
theorem EJ(r:PR t n all A1 A3 m)(ho:AW t n all)(hb:b.casks=some 0):VK [b] [m] (some 0)=some ((LC all).map<|YY all):=by
 unfold VK;simp only[DO,IN,hb,uI r ho];congr 1;exact List.map_congr_left λk _=>r.get k
theorem LV(hs:∀c∈A1,c.since=t)(r:PR t n all A1 A3 m):∀(ks:UV Int) (out:UV ZQ),(∀k∈ks,k∈all.map (·.C.Number))->out.length+ks.length<=1000000->
  Ys Xg (ks.map<|YY all) (out,A1)=some (out++(ks.filterMap<|GH all).map (·.C),A1)
 | [],out,_,_=>by simp[Ys]
 | k::ks,out,hk,hl=>by
  obtain⟨i,h,h1,h2,h3,h4⟩:=uP (hk k<|by simp);obtain⟨c,hc,hraw,_⟩:=r.look hs h2
  have hsh:Yk A1 (some i)=some h.C:=by
   unfold Yk;simp only[DO,hc];have:h.C=(Vw c h.Fills).C:=by rw[<-hraw]
   rw[this];rfl
  have hb:Xg (some i) (out,A1)=some (out++[h.C],A1):=by
   unfold Xg;rw[hsh,DO];simp only[s5] at hl
   rw[AO (by simp;omega)];rfl
  simp only[s6,Ys,h1,hb,DO];rw[LV hs r ks (out++[h.C]) (λk' hk' =>hk k'<|bY _ hk') (by simp at hl ⊢;omega)];rw[List.filterMap_cons,h3];simp
end
def TJ(l:UV Ev)(day:Int):UV ZQ×Int×Int:=match Yf l day with
 | (.inr e,k)=>([],(k:Int),e)
 | (.inl all,k)=>((gK all).map (·.C),(k:Int),0)
theorem SG(l:UV Ev)(day:Int):Hk l day=some (TJ l day):=by
 have hp:=HU l day;unfold Hk TJ;cases hpl:Yf l day with
 | mk r k=>
  rw[hpl] at hp
  cases r with
  | inr e=>
   rw[hp.1,DO];have:(e != 0)=true:=by simpa using hp.2
   simp only[this,Nm]
  | inl all=>
   obtain⟨A1,b,A3,m,h1,hb,hr,hs,hok,hk,_⟩:=hp;rw[h1,DO];have e0:((0:Int) != 0)=false:=rfl;simp only[e0,By,RK,DO];rw[EJ hr hok hb,DO];have hlen:(LC all).length=all.length:=by rw[(LB all).length_eq];simp
   rw[LV hs hr (LC all) [] (λk hk=>(LB all).mem_iff.1 hk) (by have:=hok.few;simp;omega),DO];rfl
end
section
open Go.Dec
theorem N3{A3:FM}{p:H1 Nat}{F:UV Int}{n:Nat}(h:FR A3 p F)(hF:F.Pairwise (·< ·)/\∀f∈F,0<=f/\f < n)(hn:n<=4096):Vl A3 p=some F:=by
 cases p with
 | none=>have:F=[]:=h;subst this;rfl
 | some j=>
  obtain⟨l,h1,h2,h3⟩:=h;have hFn:F.Nodup:=hF.1.imp λh=>eA h;have hperm:(l.map Prod.fst).Perm F:=(lX h2 hFn).2 λx=>(h3 x).symm;have hlen:l.length=F.length:=by rw[<-hperm.length_eq];simp
  have hfl:=Su 0 hF.1 (n:=n) hF.2<|by omega
  have hall:l.all (λx=>decide<|-9223372036854775808<=x.1/\x.1<=9223372036854775807)=true:=s8.2 λx hx=>by
   have:=hF.2 x.1<|(h3 x.1).2<|pK hx;simp only[wt];omega
  have hk:GF l=some ((l.map Prod.fst).mergeSort λa b=>decide<|a<=b):=by
   unfold GF;rw[AT ⟨hall,by omega⟩]
  have e:Vl A3 (some j)=GF l:=by simp[Vl,h1]
  rw[e,hk,qx hperm];congr 1;exact List.mergeSort_of_pairwise<|hF.1.imp λh=>by simpa using Int.le_of_lt h
theorem E0(l:UV Ev)(num day:Int):W7 l num day=some (Re l num day):=by
 have hp:=HU l day;unfold W7 Re;cases hpl:Yf l day with
 | mk r k=>
  rw[hpl] at hp
  cases r with
  | inr e=>
   rw[hp.1,DO];have:(e != 0)=true:=by simpa using hp.2
   simp only[this,Nm]
  | inl all=>
   obtain⟨A1,b,A3,m,h1,hb,hr,hs,hok,hk,_⟩:=hp;rw[h1,DO];have e0:((0:Int) != 0)=false:=rfl;simp only[e0,By,RK,DO,IN,hb,hr.get];cases hf:YY all num with
   | none=>simp[GH,hf]
   | some i=>
    obtain⟨h,hh,hfh⟩:=Tp hf;obtain⟨c,hc,hraw,hfr⟩:=hr.look hs hh;have hho:=hok.each h<|s7 hh;simp only[ny,By,RK,hfh,DO,hc];rw[N3 hfr hho.fills hk];rfl
end
end Go.Proofs.YtijhfeohbhedkaaGreatDoor.Ca
namespace Go.Proofs.YtijhfeohbhedkaaGreatDoor.Ex
section
open Go.Dec
variable{f:QE->Int}{j:Nat}{v a:Int}
structure Acc where
 B:ZS
 Ids:List Int
 Sums:Nat->Int
abbrev Ev:=QP
abbrev Gm:=Qz
variable{r:Gm}
abbrev Bk:=ZS
abbrev zN:Nat->Int:=λ_=>0
def Wm(n a b:Int):Bool:=decide (n≥a)&&decide (n<=b)
def GV:Int->UV Zz->Bool
 | _,[]=>true
 | last,x::l=>Wm x.From 0 65536&&decide (last < x.From)&&Wm x.Rate 0 1048576&&GV x.From l
def Ea:UV Zz->Bool
 | x::_=>x.From==0
 | []=>false
def Gx(r:Gm):Bool:=Wm r.Rates.length 1 64&&Ea r.Rates&&Wm r.Transit 0 65536&&Wm r.Loss 0 10000&&Wm r.Share 0 1000&&GV (-1) r.Rates
def Fh(l:UV Zz)(day:Int):Int:=l.foldl (λown x=>if x.From<=day then x.Rate else own) 0
def WY(r:Gm)(amount day:Int):Int:=amount*Fh r.Rates day / 1000
def Bg(n:Int):Bool:=Wm n 0 15
def XT(x:Ev):Bool:=
 Wm x.Day 0 65536&&
 (if x.Kind==0||x.Kind==3||x.Kind==4 then Bg x.Bond&&Wm x.Amount 1 17179869184
  else if x.Kind==1 then Bg x.Bond&&Bg x.To&&Wm x.Id 0 1073741824&&Wm x.Amount 1 17179869184
  else if x.Kind==2 then Bg x.Bond&&Wm x.Id 0 1073741824&&Wm x.Amount 0 17179869184
  else if x.Kind==5 then Bg x.Bond&&Wm x.Amount 0 17179869184
  else if x.Kind==6 then Wm x.Amount 1 72057594037927936 else false)
def ZK(r:Gm)(p:QE):Int:=p.Sent+r.Transit+1
def Ye(f:QE->Int):UV QE->Int
 | []=>0
 | p::l=>f p+Ye f l
def Wx(r:Gm)(t d:Int)(s:Acc):Acc:=
 {s with
  B:={s.B with
   Moving:=s.B.Moving.filter λp=>decide<|d < ZK r p,
   Used:=s.B.Used+Ye QE.Amount (s.B.Moving.filter λp=> !decide (d < ZK r p)),
   Due:=s.B.Due+Ye (λp=>WY r p.Amount<|ZK r p) (s.B.Moving.filter λp=> !decide (d < ZK r p))},
  Sums:=λi=>if i < 16 then s.Sums i+s.B.Bonds i*(d - t) else s.Sums i}
def Ba(r:Gm)(day lost allowed:Int)(s:Acc):Acc:={s with B:={s.B with Lost:=s.B.Lost+Jc lost allowed,Charged:=s.B.Charged+(lost - Jc lost allowed),Due:=s.B.Due+WY r (lost - Jc lost allowed) day}}
def Ub(s:Acc)(x:Ev)(n:Int):Acc:={s with B:={s.B with Bonds:=ZL s.B.Bonds x.Bond.toNat n}}
def Lv(r:Gm)(amount day:Int)(s:Acc):Acc:={s with B:={s.B with Used:=s.B.Used+amount,Due:=s.B.Due+WY r amount day}}
def Zq(s:Acc)(x:Ev):Int:=s.B.Bonds x.Bond.toNat
def D6(p:QE):UV QE->UV QE
 | []=>[p]
 | q::l=>if q.Id < p.Id then q::D6 p l else p::q::l
def I9(x:Ev):QE:=⟨x.Id,x.Bond,x.To,x.Day,x.Amount⟩
def SF(s:Acc)(x:Ev):Acc ⊕ Int:=if Zq s x+x.Amount > 17179869184 then .inr 12 else .inl {Ub s x (Zq s x+x.Amount) with B:={(Ub s x<|Zq s x+x.Amount).B with Made:=s.B.Made+x.Amount}}
def Mo(s:Acc)(x:Ev):Acc ⊕ Int:=
 if x.Bond==x.To then .inr 11 else if s.Ids.contains x.Id then .inr 5 else if Zq s x < x.Amount then .inr 10
 else .inl {Ub s x (Zq s x - x.Amount) with B:={(Ub s x<|Zq s x - x.Amount).B with Moving:=D6 (I9 x) s.B.Moving},Ids:=s.Ids++[x.Id]}
def O2(r:Gm)(s:Acc)(x:Ev)(p:QE):Acc:=
 Ba r x.Day (imax 0<|p.Amount - x.Amount) (p.Amount*r.Loss / 10000)
  {Ub s x (Zq s x+x.Amount) with B:={(Ub s x<|Zq s x+x.Amount).B with Moving:=s.B.Moving.filter λq=> !(q.Id==x.Id),Found:=s.B.Found+imax 0 (x.Amount - p.Amount)}}
def CA(r:Gm)(s:Acc)(x:Ev):Acc ⊕ Int:=
 match s.B.Moving.find? (λq=>q.Id==x.Id) with
 | none=>.inr 4
 | some p=>if p.To != x.Bond then .inr 11 else if Zq s x+x.Amount > 17179869184 then .inr 12 else .inl (O2 r s x p)
def DS(r:Gm)(s:Acc)(x:Ev):Acc ⊕ Int:=if Zq s x < x.Amount then .inr 10 else .inl (Lv r x.Amount x.Day<|Ub s x<|Zq s x - x.Amount)
def SE(s:Acc)(x:Ev):Acc ⊕ Int:=if Zq s x < x.Amount then .inr 10 else .inl {Ub s x (Zq s x - x.Amount) with B:={(Ub s x<|Zq s x - x.Amount).B with Exported:=s.B.Exported+x.Amount}}
def PO(r:Gm)(s:Acc)(x:Ev):Acc:=
 Ba r x.Day (imax 0<|Zq s x - x.Amount) (s.Sums x.Bond.toNat*r.Share / 3650000)
  {Ub s x x.Amount with B:={(Ub s x x.Amount).B with Found:=s.B.Found+imax 0 (x.Amount - Zq s x)},Sums:=ZL s.Sums x.Bond.toNat 0}
def kL(s:Acc)(x:Ev):Acc ⊕ Int:=if x.Amount > s.B.Due - s.B.Paid then .inr 11 else .inl {s with B:={s.B with Paid:=s.B.Paid+x.Amount}}
def FP(r:Gm)(s:Acc)(x:Ev):Acc ⊕ Int:=
 if x.Kind==0 then SF s x else if x.Kind==1 then Mo s x else if x.Kind==2 then CA r s x else if x.Kind==3 then DS r s x
 else if x.Kind==4 then SE s x else if x.Kind==5 then .inl (PO r s x) else if x.Kind==6 then kL s x else .inl s
structure AU where
 acc:Acc
 day:Int
def Uk(r:Gm)(s:AU)(x:Ev):AU ⊕ Int:=
 if !XT x then .inr 1 else if x.Day < s.day then .inr 7
 else match FP r (Wx r s.day x.Day s.acc) x with
  | .inl a=>.inl ⟨a,x.Day⟩
  | .inr e=>.inr e
def Bi(r:Gm)(day:Int):UV Ev->Nat->AU->(AU ⊕ Int)×Nat
 | [],n,s=>(.inl s,n)
 | x::l,n,s=>if x.Day<=day then match Uk r s x with
   | .inl s' =>Bi r day l (n+1) s'
   | .inr e=>(.inr e,n)
  else(.inl s,n)
def Bx:Acc:=⟨⟨zN,[],0,0,0,0,0,0,0,0⟩,[],zN⟩
def NY:AU:=⟨Bx,0⟩
def Pp(r:Gm)(day:Int)(l:UV Ev)(n:Nat)(s:AU):(Acc ⊕ Int)×Nat:=match Bi r day l n s with
 | (.inl s',k)=>(.inl<|Wx r s'.day day s'.acc,k)
 | (.inr e,k)=>(.inr e,k)
def Yf(r:Gm)(l:UV Ev)(day:Int):(Acc ⊕ Int)×Nat:=if !Gx r then(.inr 1,0) else if l.length > 4096 then(.inr 3,0) else if !Wm day 0 65536 then(.inr 2,0) else Pp r day l 0 NY
theorem Yd{n b:Int}:Wm n a b=true↔a<=n/\n<=b:=by simp[Wm]
theorem WB{f:Nat->Int}:ZL f j v j=v:=by simp[ZL]
theorem XJ{f:Nat->Int}{k:Nat}(h:k≠j):ZL f j v k=f k:=by
 unfold ZL
 have:Nat.beq k j=false:=by
  cases hb:Nat.beq k j with
  | false=>rfl
  | true=>exact absurd (pH hb) h
 rw[this]
def RS(f:Nat->Int):Nat->Int
 | 0=>0
 | n+1=>RS f n+f n
theorem Ac{f:Nat->Int}:∀{n:Nat},n<=j->RS (ZL f j v) n=RS f n
 | 0,_=>rfl
 | n+1,h=>by simp only[RS];rw[Ac (by omega),XJ<|by omega]
theorem Gq{f:Nat->Int}:∀{n:Nat},j < n->RS (ZL f j v) n=RS f n+v - f j
 | n+1,h=>by
  simp only[RS];by_cases e:n=j
  ·subst e;rw[Ac<|IR _,WB];omega
  ·rw[Gq (by omega),XJ e];omega
theorem OB{f:Nat->Int}:∀{n:Nat},(∀i,i < n->0<=f i)->0<=RS f n
 | 0,_=>pf _
 | n+1,h=>by have:=OB (n:=n) (λi hi=>h i<|by omega);have:=h n (by omega);simp only[RS];omega
theorem Gs:∀{l:UV QE},(∀p∈l,0<=f p)->0<=Ye f l
 | [],_=>pf _
 | p::l,h=>by have:=Gs (l:=l) λq hq=>h q<|bY _ hq;have:=h p<|pd ..;simp only[Ye];omega
theorem Lw{g:QE->Int}:∀{l:UV QE},(∀p∈l,f p<=g p)->Ye f l<=Ye g l
 | [],_=>pf _
 | p::l,h=>by have:=Lw (l:=l) λq hq=>h q<|bY _ hq;have:=h p<|pd ..;simp only[Ye];omega
theorem RV{k:Int}:∀{l:UV QE},Ye (λp=>k*f p) l=k*Ye f l
 | []=>by simp[Ye]
 | p::l=>by simp only[Ye,RV (l:=l),eI]
theorem Gr{f:QE->Int}{c:QE->Bool}:∀{l:UV QE},Ye f (l.filter c)+Ye f (l.filter λp=> !c p)=Ye f l
 | []=>rfl
 | p::l=>by
  have:=Gr (f:=f) (c:=c) (l:=l);cases h:c p<;>simp only[pv,h,x7,pG,Nm,By,RK,Ye]<;>omega
theorem DJ{l k:UV QE}(h:l.Perm k):Ye f l=Ye f k:=by
 induction h with
 | nil=>rfl
 | cons x _ ih=>simp only[Ye,ih]
 | swap x y l=>simp only[Ye];omega
 | trans _ _ h1 h2=>exact h1.trans h2
structure VJ(r:Gm):Prop where
 rates:∀x∈r.Rates,0<=x.From/\x.From<=65536/\0<=x.Rate/\x.Rate<=1048576
 sorted:r.Rates.Pairwise (λx y=>x.From < y.From)
 first:∃x l,r.Rates=x::l/\x.From=0
 len:r.Rates.length<=64
 transit:0<=r.Transit/\r.Transit<=65536
 loss:0<=r.Loss/\r.Loss<=10000
 share:0<=r.Share/\r.Share<=1000
theorem PY:∀{last:Int} {l:UV Zz},GV last l=true↔(∀x∈l,0<=x.From/\x.From<=65536/\0<=x.Rate/\x.Rate<=1048576)/\l.Pairwise (λx y=>x.From < y.From)/\∀x∈l,last < x.From
 | last,[]=>by simp[GV]
 | last,x::l=>by
  simp only[GV,T2,Yd,wt,PY (last:=x.From) (l:=l),tO,List.forall_mem_cons];constructor
  ·rintro⟨⟨⟨h1,h2⟩,h3⟩,h4,h5,h6⟩;exact⟨⟨⟨h1.1,h1.2,h3.1,h3.2⟩,h4⟩,⟨h6,h5⟩,h2,λy hy=>by have:=h6 y hy;omega⟩
  ·rintro⟨⟨⟨h1,h2,h3,h4⟩,h5⟩,⟨h6,h7⟩,h8,_⟩;exact⟨⟨⟨⟨h1,h2⟩,h8⟩,h3,h4⟩,h5,h7,h6⟩
theorem TW:Gx r=true↔VJ r:=by
 unfold Gx;simp only[T2,Yd,PY];constructor
 ·rintro⟨⟨⟨⟨⟨h1,h2⟩,h3⟩,h4⟩,h5⟩,h6,h7,h8⟩;refine⟨h6,h7,?_,by omega,h3,h4,h5⟩;cases e:r.Rates with
  | nil=>rw[e] at h2;cases h2
  | cons x l=>rw[e] at h2;exact⟨x,l,rfl,by simpa[Ea] using h2⟩
 ·intro h;obtain⟨x,l,e,e0⟩:=h.first;refine⟨⟨⟨⟨⟨⟨?_,?_⟩,?_⟩,h.transit⟩,h.loss⟩,h.share⟩,h.rates,h.sorted,λy hy=> ?_⟩
  ·rw[e];simp;omega
  ·have:=h.len;omega
  ·rw[e];simp[Ea,e0]
  ·have:=(h.rates y hy).1;omega
theorem OW{l:UV Zz}{day:Int}(h:∀x∈l,0<=x.Rate/\x.Rate<=1048576):0<=Fh l day/\Fh l day<=1048576:=by
 have:∀(l:UV Zz) (a:Int),(∀x∈l,0<=x.Rate/\x.Rate<=1048576)->0<=a/\a<=1048576->0<=l.foldl (λown x=>if x.From<=day then x.Rate else own) a/\l.foldl (λown x=>if x.From<=day then x.Rate else own) a<=1048576:=by
  intro l
  induction l with
  | nil=>intro a _ h;exact h
  | cons x l ih=>
   intro a hl ha;refine ih _ (λy hy=>hl y<|bY _ hy) ?_;have:=hl x<|pd ..;show 0<=(if x.From<=day then x.Rate else a)/\(if x.From<=day then x.Rate else a)<=1048576;split
   ·exact this
   ·exact ha
 exact this l 0 h<|by omega
theorem VJ.tX(h:VJ r)(day:Int):0<=Fh r.Rates day/\Fh r.Rates day<=1048576:=OW λx hx=>⟨(h.rates x hx).2.2.1,(h.rates x hx).2.2.2⟩
theorem VJ.bA(h:VJ r){d:Int}(ha:0<=a):0<=WY r a d/\WY r a d<=1049*a:=by
 have h1:=h.tX d;unfold WY;have h2:0<=a*Fh r.Rates d:=rf ha h1.1;have h3:a*Fh r.Rates d<=a*1048576:=rN h1.2 ha;constructor<;>omega
theorem VJ.aF(h:VJ r){d:Int}(ha:0<=a)(hb:a<=17179869184):0<=a*Fh r.Rates d/\a*Fh r.Rates d<=18014398509481984:=by
 have h1:=h.tX d;have h3:a*Fh r.Rates d<=a*1048576:=rN h1.2 ha;exact⟨rf ha h1.1,by omega⟩
end
section
open Go.Dec
variable{q p:QE}{l:UV QE}
structure fI(r:Gm)(t:Int)(p:QE):Prop where
 amount:1<=p.Amount/\p.Amount<=17179869184
 id:0<=p.Id/\p.Id<=1073741824
 fro:0<=p.From/\p.From<=15
 tow:0<=p.To/\p.To<=15
 ne:p.From≠p.To
 sent:0<=p.Sent/\p.Sent<=t
 late:t < ZK r p
structure HO(r:Gm)(n:Nat)(t:Int)(s:Acc):Prop where
 bonds:∀i,i < 16->0<=s.B.Bonds i/\s.B.Bonds i<=17179869184
 sums:∀i,i < 16->0<=s.Sums i/\s.Sums i<=t*17179869184
 sorted:s.B.Moving.Pairwise (λp q=>p.Id < q.Id)
 mov:∀p∈s.B.Moving,fI r t p
 known:∀p∈s.B.Moving,p.Id∈s.Ids
 ids:∀i∈s.Ids,0<=i/\i<=1073741824
 mlen:s.B.Moving.length<=n
 ilen:s.Ids.length<=n
 pos:0<=s.B.Made/\0<=s.B.Found/\0<=s.B.Used/\0<=s.B.Exported/\0<=s.B.Lost/\0<=s.B.Charged/\0<=s.B.Paid/\s.B.Paid<=s.B.Due
 made:s.B.Made+s.B.Found<=n*17179869184
 whole:s.B.Used+s.B.Exported+s.B.Lost+s.B.Charged+RS s.B.Bonds 16+Ye QE.Amount s.B.Moving=s.B.Made+s.B.Found
 due:s.B.Due<=1049*(s.B.Used+s.B.Charged)
 out:∀i,16<=i->s.B.Bonds i=0
variable{r:Gm}{n:Nat}{t d:Int}{s:Acc}{x:Ev}{p:QE}
theorem En(r:Gm):HO r 0 0 Bx where
 bonds:=λi _=>by simp[Bx]
 sums:=λi _=>by simp[Bx]
 sorted:=List.Pairwise.nil
 mov:=λ_ h=>by cases h
 known:=λ_ h=>by cases h
 ids:=λ_ h=>by cases h
 mlen:=IR _
 ilen:=IR _
 pos:=by simp[Bx]
 made:=by simp[Bx]
 whole:=by simp[Bx,RS,Ye]
 due:=by simp[Bx]
 out:=λi _=>rfl
theorem HO.lim(h:HO r n t s):s.B.Used<=n*17179869184/\s.B.Exported<=n*17179869184/\s.B.Lost<=n*17179869184/\s.B.Charged<=n*17179869184/\s.B.Used+s.B.Charged+Ye QE.Amount s.B.Moving<=n*17179869184/\s.B.Made<=n*17179869184/\s.B.Found<=n*17179869184/\0<=Ye QE.Amount s.B.Moving:=by
 have h1:=h.pos;have h2:=h.made;have h3:=h.whole;have h4:=OB (n:=16) λi hi=>(h.bonds i hi).1;have h5:0<=Ye QE.Amount s.B.Moving:=Gs λp hp=>by have:=(h.mov p hp).amount.1;omega
 refine⟨?_,?_,?_,?_,?_,?_,?_,?_⟩<;>omega
theorem EG(hr:VJ r)(h:HO r n t s)(le:t<=d):HO r n d (Wx r t d s) where
 bonds:=h.bonds
 sums:=λi hi=>by
  have h1:=h.sums i hi;have h2:=h.bonds i hi;simp only[Wx,hi,Nm];have h3:0<=s.B.Bonds i*(d - t):=rf h2.1 (by omega);have h4:s.B.Bonds i*(d - t)<=17179869184*(d - t):=nm h2.2 (by omega);constructor
  ·omega
  ·omega
 sorted:=h.sorted.filter _
 mov:=λp hp=>by
  have h1:=pa.1 hp;have h2:=h.mov p h1.1;exact⟨h2.amount,h2.id,h2.fro,h2.tow,h2.ne,⟨h2.sent.1,by have:=h2.sent.2;omega⟩,by simpa using h1.2⟩
 known:=λp hp=>h.known p (pa.1 hp).1
 ids:=h.ids
 mlen:=re (mY _ _) h.mlen
 ilen:=h.ilen
 pos:=by
  have h1:=h.pos;have h2:0<=Ye QE.Amount (s.B.Moving.filter λp=> !decide (d < ZK r p)):=Gs λp hp=>by have:=(h.mov p (pa.1 hp).1).amount.1;omega
  have h3:0<=Ye (λp=>WY r p.Amount<|ZK r p) (s.B.Moving.filter λp=> !decide (d < ZK r p)):=Gs λp hp=>by have:=(h.mov p (pa.1 hp).1).amount.1;exact(hr.bA<|by omega).1
  simp only[Wx];refine⟨?_,?_,?_,?_,?_,?_,?_,?_⟩<;>omega
 made:=h.made
 whole:=by
  have h1:=h.whole;have h2:=Gr (f:=QE.Amount) (c:=λp=>decide<|d < ZK r p) (l:=s.B.Moving);simp only[Wx];omega
 due:=by
  have h1:=h.due;have h3:Ye (λp=>WY r p.Amount<|ZK r p) (s.B.Moving.filter λp=> !decide (d < ZK r p))<=Ye (λp=>1049*p.Amount) (s.B.Moving.filter λp=> !decide (d < ZK r p)):=Lw λp hp=>by have:=(h.mov p (pa.1 hp).1).amount.1;exact(hr.bA<|by omega).2
  rw[RV] at h3
  simp only[Wx];omega
 out:=h.out
theorem kM{u:Int}(h2:u<=d):Wx r u d (Wx r t u s)=Wx r t d s:=by
 have e1:(s.B.Moving.filter λp=>decide<|u < ZK r p).filter (λp=>decide<|d < ZK r p)=s.B.Moving.filter (λp=>decide<|d < ZK r p):=by
  rw[rp];refine pZ λp _=> ?_;by_cases h:d < ZK r p
  ·simp[h];omega
  ·simp[h]
 have e2 (f:QE->Int):Ye f (s.B.Moving.filter λp=> !decide (u < ZK r p))+Ye f ((s.B.Moving.filter λp=>decide<|u < ZK r p).filter λp=> !decide (d < ZK r p))=Ye f (s.B.Moving.filter λp=> !decide (d < ZK r p)):=by
  have:=Gr (f:=f) (c:=λp=>decide<|u < ZK r p) (l:=s.B.Moving.filter λp=> !decide (d < ZK r p));rw[rp,rp] at this
  rw[rp,<-this]
  have a1:s.B.Moving.filter (λp=> !decide (u < ZK r p))=s.B.Moving.filter (λp=>(!decide (u < ZK r p))&& !decide (d < ZK r p)):=pZ λp _=>by
   by_cases h:u < ZK r p
   ·simp[h]
   ·simp[h];omega
  have a2:s.B.Moving.filter (λp=>(!decide (d < ZK r p))&&decide (u < ZK r p))=s.B.Moving.filter (λp=>decide (u < ZK r p)&& !decide (d < ZK r p)):=pZ λp _=>lk _ _;rw[<-a1,a2];omega
 have e3:(λi=>if i < 16 then(if i < 16 then s.Sums i+s.B.Bonds i*(u - t) else s.Sums i)+s.B.Bonds i*(d - u) else(if i < 16 then s.Sums i+s.B.Bonds i*(u - t) else s.Sums i))=(λi=>if i < 16 then s.Sums i+s.B.Bonds i*(d - t) else s.Sums i):=by
  funext i;by_cases h:i < 16
  ·simp only[h,Nm];have:s.B.Bonds i*(d - t)=s.B.Bonds i*(u - t)+s.B.Bonds i*(d - u):=by rw[<-eI];congr 1;omega
   omega
  ·simp only[h,RK]
 have e4:=e2 QE.Amount;have e5:=e2 λp=>WY r p.Amount<|ZK r p;simp only[Wx,e1];rw[e3,lg,e4,lg,e5]
theorem yh(h:XT x=true):0<=x.Day/\x.Day<=65536:=by
 unfold XT at h;simp only[T2,Yd] at h;exact h.1
theorem Da(h:XT x=true)(hk:x.Kind=0∨x.Kind=3∨x.Kind=4):(0<=x.Bond/\x.Bond<=15)/\1<=x.Amount/\x.Amount<=17179869184:=by
 unfold XT at h
 have:(x.Kind==0||x.Kind==3||x.Kind==4)=true:=by rcases hk with e | e | e<;>simp[e]
 rw[this] at h
 simpa[Yd,Bg] using(nB.1 h).2
theorem zX(h:XT x=true)(hk:x.Kind=1):(0<=x.Bond/\x.Bond<=15)/\(0<=x.To/\x.To<=15)/\(0<=x.Id/\x.Id<=1073741824)/\1<=x.Amount/\x.Amount<=17179869184:=by
 unfold XT at h
 simp only[hk] at h
 simpa[Yd,Bg,ll] using(nB.1 h).2
theorem NP(h:XT x=true)(hk:x.Kind=2):(0<=x.Bond/\x.Bond<=15)/\(0<=x.Id/\x.Id<=1073741824)/\0<=x.Amount/\x.Amount<=17179869184:=by
 unfold XT at h
 simp only[hk] at h
 simpa[Yd,Bg,ll] using(nB.1 h).2
theorem zW(h:XT x=true)(hk:x.Kind=5):(0<=x.Bond/\x.Bond<=15)/\0<=x.Amount/\x.Amount<=17179869184:=by
 unfold XT at h
 simp only[hk] at h
 simpa[Yd,Bg,ll] using(nB.1 h).2
theorem yg(h:XT x=true)(hk:x.Kind=6):1<=x.Amount/\x.Amount<=72057594037927936:=by
 unfold XT at h
 simp only[hk] at h
 simpa[Yd,Bg,ll] using(nB.1 h).2
theorem IA(h:XT x=true):x.Kind=0∨x.Kind=1∨x.Kind=2∨x.Kind=3∨x.Kind=4∨x.Kind=5∨x.Kind=6:=by
 unfold XT at h
 have h2:=(nB.1 h).2;by_cases h0:x.Kind=0
 ·exact .inl h0
 by_cases h1:x.Kind=1
 ·exact .inr<|.inl h1
 by_cases h3:x.Kind=2
 ·exact .inr<|.inr<|.inl h3
 by_cases h4:x.Kind=3
 ·exact .inr<|.inr<|.inr<|.inl h4
 by_cases h5:x.Kind=4
 ·exact .inr<|.inr<|.inr<|.inr<|.inl h5
 by_cases h6:x.Kind=5
 ·exact .inr<|.inr<|.inr<|.inr<|.inr<|.inl h6
 by_cases h7:x.Kind=6
 ·exact .inr<|.inr<|.inr<|.inr<|.inr<|.inr h7
 ·simp[h0,h1,h3,h4,h5,h6,h7] at h2
theorem CJ:∀{l:UV QE},(D6 q l).Perm (q::l)
 | []=>.refl _
 | y::l=>by
  simp only[D6];split
  ·exact(CJ.cons y).trans<|.swap _ _ _
  ·exact .refl _
theorem EU{y:QE}:y∈D6 q l↔y=q∨y∈l:=by
 rw[CJ.mem_iff,y1]
theorem G8:∀{l:UV QE},l.Pairwise (λp q=>p.Id < q.Id)->(∀p∈l,p.Id≠q.Id)->(D6 q l).Pairwise (λp q=>p.Id < q.Id)
 | [],_,_=>by simp[D6]
 | y::l,h,hn=>by
  have hy:=tO.1 h;simp only[D6];split
  ·rename_i hlt;refine tO.2 ⟨λa ha=> ?_,G8 hy.2 λp hp=>hn p<|bY _ hp⟩;rcases EU.1 ha with rfl | ha
   ·exact hlt
   ·exact hy.1 a ha
  ·rename_i hlt;have:=hn y<|pd ..;refine tO.2 ⟨λa ha=> ?_,h⟩;rcases y1.1 ha with rfl | ha
   ·omega
   ·have:=hy.1 a ha;omega
theorem uL(h:l.Pairwise (λp q=>p.Id < q.Id))(hp:p∈l)(hq:q∈l)(e:p.Id=q.Id):p=q:=by
 induction l with
 | nil=>cases hp
 | cons y l ih=>
  have hy:=tO.1 h;rcases y1.1 hp with rfl | hp1<;>rcases y1.1 hq with rfl | hq1
  ·rfl
  ·have:=hy.1 q hq1;omega
  ·have:=hy.1 p hp1;omega
  ·exact ih hy.2 hp1 hq1
theorem Og{i:Int}(h:l.Pairwise (λp q=>p.Id < q.Id))(hf:l.find? (λq=>q.Id==i)=some p):p∈l/\p.Id=i/\l.Perm (p::l.filter (λq=> !(q.Id==i))):=by
 have hm:=rZ hf;have hi:p.Id=i:=by simpa using List.find?_some hf
 refine⟨hm,hi,?_⟩
 induction l with
 | nil=>cases hm
 | cons y l ih=>
  have hy:=tO.1 h;rw[ri] at hf
  by_cases e:y.Id=i
  ·have:(y.Id==i)=true:=by simpa using e
   rw[this] at hf;simp only[BY] at hf;subst hf
   have:l.filter (λq=> !(q.Id==i))=l:=rX.2 λq hq=>by have:=hy.1 q hq;simp;omega
   rw[pv,this];simp[e]
  ·have e' :(y.Id==i)=false:=by simpa using e
   rw[e'] at hf
   have hm' :=rZ hf;rw[pv,e'];simp only[pG,Nm];exact((ih hy.2 hf hm').cons y).trans<|.swap _ _ _
end
section
open Go.Dec
variable{r:Gm}{n:Nat}{t d:Int}{s s' :Acc}{x:Ev}{p:QE}
theorem HZ{f:Nat->Int}{j:Nat}{v M:Int}(h:∀i,i < 16->0<=f i/\f i<=M)(hv:0<=v/\v<=M):∀i,i < 16->0<=ZL f j v i/\ZL f j v i<=M:=λi hi=>by
 by_cases e:i=j
 ·subst e;rw[WB];exact hv
 ·rw[XJ e];exact h i hi
theorem Cz{f:Nat->Int}{j:Nat}{v:Int}(h:∀i,16<=i->f i=0)(hj:j < 16):∀i,16<=i->ZL f j v i=0:=λi hi=>by
 rw[XJ<|by omega];exact h i hi
theorem Fq(h:0<=x.Bond/\x.Bond<=15):x.Bond.toNat < 16:=by omega
theorem Tm{a b:Int}:(Jc a b=a/\a<=b)∨(Jc a b=b/\b<=a):=by unfold Jc;split<;>omega
theorem Gj{a b:Int}:(imax a b=a/\b<=a)∨(imax a b=b/\a<=b):=by unfold imax;split<;>omega
theorem kl(h:HO r n t s)(hb:0<=x.Bond/\x.Bond<=15)(ha:1<=x.Amount/\x.Amount<=17179869184)(hd:SF s x= .inl s'):HO r (n+1) t s' :=by
 unfold SF at hd
 split at hd
 ·cases hd
 ·rename_i hlim;simp only[rE] at hd
  subst hd;have hj:=Fq hb;have h0:=h.bonds _ hj;have hs:=Gq (f:=s.B.Bonds) (v:=Zq s x+x.Amount) hj;unfold Zq at hlim hs
  have hp:=h.pos;have hm:=h.made;have hw:=h.whole;have hdu:=h.due;have h1:=h.mlen;have h2:=h.ilen
  exact{
   bonds:=HZ h.bonds (by unfold Zq;omega),sums:=h.sums,sorted:=h.sorted,mov:=h.mov,known:=h.known,ids:=h.ids
   mlen:=by show s.B.Moving.length<=_;omega
   ilen:=by show s.Ids.length<=_;omega
   pos:=by simp only[Ub];omega
   made:=by simp only[Ub];omega
   whole:=by simp only[Ub,Zq];omega
   due:=hdu
   out:=Cz h.out hj}
theorem vk(h:HO r n t s)(hb:0<=x.Bond/\x.Bond<=15)(hto:0<=x.To/\x.To<=15)(hid:0<=x.Id/\x.Id<=1073741824)(ha:1<=x.Amount/\x.Amount<=17179869184)(hr:VJ r)(hday:x.Day=t)(h0t:0<=t)(hd:Mo s x= .inl s'):HO r (n+1) t s' :=by
 unfold Mo at hd
 split at hd
 ·cases hd
 ·rename_i hne;split at hd
  ·cases hd
  ·rename_i hid';split at hd
   ·cases hd
   ·rename_i hlim;simp only[rE] at hd
    subst hd;have hne' :x.Bond≠x.To:=by simpa using hne
    have hnew:x.Id∉s.Ids:=by simpa using hid'
    have hj:=Fq hb;have h0:=h.bonds _ hj;have hs:=Gq (f:=s.B.Bonds) (v:=Zq s x - x.Amount) hj;unfold Zq at hlim hs
    have hp:=h.pos;have hm:=h.made;have hw:=h.whole;have hdu:=h.due;have h1:=h.mlen;have h2:=h.ilen;have hf:Ye QE.Amount (D6 (I9 x) s.B.Moving)=x.Amount+Ye QE.Amount s.B.Moving:=(DJ CJ).trans rfl;have hl:(D6 (I9 x) s.B.Moving).length=s.B.Moving.length+1:=CJ.length_eq;have ht:=hr.transit
    exact{
     bonds:=HZ h.bonds (by unfold Zq;omega),sums:=h.sums
     sorted:=G8 h.sorted λp hp e=>hnew (by have:=h.known p hp;rw[e] at this;exact this)
     mov:=λp hp=>by
      rcases EU.1 hp with rfl | hp
      ·exact⟨ha,hid,hb,hto,hne',⟨by show 0<=x.Day;omega,by show x.Day<=t;omega⟩,by show t < x.Day+r.Transit+1;omega⟩
      ·exact h.mov p hp
     known:=λp hp=>by
      show p.Id∈s.Ids++[x.Id];rcases EU.1 hp with rfl | hp
      ·simp[I9]
      ·exact eF _<|h.known p hp
     ids:=λi hi=>by
      have hi:i∈s.Ids++[x.Id]:=hi;rcases rK.1 hi with hi | hi
      ·exact h.ids i hi
      ·simp only[rA] at hi;subst hi;exact hid
     mlen:=by simp only;omega
     ilen:=by simp only[pP,ru];omega
     pos:=by simp only[Ub];omega
     made:=by simp only[Ub];omega
     whole:=by simp only[Ub,Zq];omega
     due:=hdu
     out:=Cz h.out hj}
theorem wg(h:HO r n t s)(hb:0<=x.Bond/\x.Bond<=15)(ha:0<=x.Amount/\x.Amount<=17179869184)(hr:VJ r)(hp:s.B.Moving.find? (λq=>q.Id==x.Id)=some p)(hlim:¬Zq s x+x.Amount > 17179869184):HO r (n+1) t (O2 r s x p):=by
 obtain⟨hmem,hid,hperm⟩:=Og h.sorted hp;have hpk:=h.mov p hmem;have hj:=Fq hb;have h0:=h.bonds _ hj;have hs:=Gq (f:=s.B.Bonds) (v:=Zq s x+x.Amount) hj;unfold Zq at hlim hs
 have hpo:=h.pos;have hm:=h.made;have hw:=h.whole;have hdu:=h.due;have h1:=h.mlen;have h2:=h.ilen;have hf:Ye QE.Amount s.B.Moving=p.Amount+Ye QE.Amount (s.B.Moving.filter λq=> !(q.Id==x.Id)):=(DJ hperm).trans rfl;have hal:0<=p.Amount*r.Loss / 10000:=lV (rf (by have:=hpk.amount;omega) hr.loss.1) (by omega);have e1:=Gj (a:=0) (b:=p.Amount - x.Amount);have e2:=Gj (a:=0) (b:=x.Amount - p.Amount);have e3:=Tm (a:=imax 0<|p.Amount - x.Amount) (b:=p.Amount*r.Loss / 10000);have hpa:=hpk.amount;have hdt:=hr.bA (a:=imax 0 (p.Amount - x.Amount) - Jc (imax 0<|p.Amount - x.Amount) (p.Amount*r.Loss / 10000)) (d:=x.Day)<|by omega
 exact{
  bonds:=HZ h.bonds (by unfold Zq;omega),sums:=h.sums
  sorted:=h.sorted.filter _
  mov:=λp hp=>h.mov p (pa.1 hp).1
  known:=λp hp=>h.known p (pa.1 hp).1
  ids:=h.ids
  mlen:=by
   have:=mY (λq:QE=> !(q.Id==x.Id)) s.B.Moving;simp only[O2,Ba,Ub];omega
  ilen:=by show s.Ids.length<=_;omega
  pos:=by simp only[O2,Ba,Ub];omega
  made:=by simp only[O2,Ba,Ub];omega
  whole:=by simp only[O2,Ba,Ub,Zq];omega
  due:=by simp only[O2,Ba,Ub];omega
  out:=Cz h.out hj}
theorem vb(h:HO r n t s)(hb:0<=x.Bond/\x.Bond<=15)(ha:0<=x.Amount/\x.Amount<=17179869184)(hr:VJ r)(h0t:0<=t):HO r (n+1) t (PO r s x):=by
 have hj:=Fq hb;have h0:=h.bonds _ hj;have hs:=Gq (f:=s.B.Bonds) (v:=x.Amount) hj;have hpo:=h.pos;have hm:=h.made;have hw:=h.whole;have hdu:=h.due;have h1:=h.mlen;have h2:=h.ilen;have hal:0<=s.Sums x.Bond.toNat*r.Share / 3650000:=lV (rf (h.sums _ hj).1 hr.share.1) (by omega);have e1:=Gj (a:=0) (b:=Zq s x - x.Amount);have e2:=Gj (a:=0) (b:=x.Amount - Zq s x);have e3:=Tm (a:=imax 0<|Zq s x - x.Amount) (b:=s.Sums x.Bond.toNat*r.Share / 3650000);have hdt:=hr.bA (a:=imax 0 (Zq s x - x.Amount) - Jc (imax 0<|Zq s x - x.Amount) (s.Sums x.Bond.toNat*r.Share / 3650000)) (d:=x.Day) (by omega);have hh:Zq s x=s.B.Bonds x.Bond.toNat:=rfl
 exact{
  bonds:=HZ h.bonds<|by omega
  sums:=HZ h.sums ⟨pf _,rf h0t<|by omega⟩
  sorted:=h.sorted
  mov:=h.mov
  known:=h.known
  ids:=h.ids
  mlen:=by show s.B.Moving.length<=_;omega
  ilen:=by show s.Ids.length<=_;omega
  pos:=by simp only[PO,Ba,Ub];omega
  made:=by simp only[PO,Ba,Ub];omega
  whole:=by simp only[PO,Ba,Ub];omega
  due:=by simp only[PO,Ba,Ub];omega
  out:=Cz h.out hj}
theorem I2(h:HO r n t s)(hb:0<=x.Bond/\x.Bond<=15)(ha:1<=x.Amount/\x.Amount<=17179869184)(hr:VJ r)(hd:DS r s x= .inl s'):HO r (n+1) t s' :=by
 unfold DS at hd
 split at hd
 ·cases hd
 ·rename_i hlim;simp only[rE] at hd
  subst hd;have hj:=Fq hb;have h0:=h.bonds _ hj;have hs:=Gq (f:=s.B.Bonds) (v:=Zq s x - x.Amount) hj;unfold Zq at hlim hs
  have hp:=h.pos;have hm:=h.made;have hw:=h.whole;have hdu:=h.due;have h1:=h.mlen;have h2:=h.ilen;have hdt:=hr.bA (a:=x.Amount) (d:=x.Day)<|by omega
  exact{
   bonds:=HZ h.bonds (by unfold Zq;omega),sums:=h.sums,sorted:=h.sorted,mov:=h.mov,known:=h.known,ids:=h.ids
   mlen:=by show s.B.Moving.length<=_;omega
   ilen:=by show s.Ids.length<=_;omega
   pos:=by simp only[Lv,Ub];omega
   made:=by simp only[Lv,Ub];omega
   whole:=by simp only[Lv,Ub,Zq];omega
   due:=by simp only[Lv,Ub];omega
   out:=Cz h.out hj}
theorem ki(h:HO r n t s)(hb:0<=x.Bond/\x.Bond<=15)(ha:1<=x.Amount/\x.Amount<=17179869184)(hd:SE s x= .inl s'):HO r (n+1) t s' :=by
 unfold SE at hd
 split at hd
 ·cases hd
 ·rename_i hlim;simp only[rE] at hd
  subst hd;have hj:=Fq hb;have h0:=h.bonds _ hj;have hs:=Gq (f:=s.B.Bonds) (v:=Zq s x - x.Amount) hj;unfold Zq at hlim hs
  have hp:=h.pos;have hm:=h.made;have hw:=h.whole;have hdu:=h.due;have h1:=h.mlen;have h2:=h.ilen
  exact{
   bonds:=HZ h.bonds (by unfold Zq;omega),sums:=h.sums,sorted:=h.sorted,mov:=h.mov,known:=h.known,ids:=h.ids
   mlen:=by show s.B.Moving.length<=_;omega
   ilen:=by show s.Ids.length<=_;omega
   pos:=by simp only[Ub];omega
   made:=by simp only[Ub];omega
   whole:=by simp only[Ub,Zq];omega
   due:=hdu
   out:=Cz h.out hj}
theorem wR(h:HO r n t s)(ha:1<=x.Amount)(hd:kL s x= .inl s'):HO r (n+1) t s' :=by
 unfold kL at hd
 split at hd
 ·cases hd
 ·rename_i hlim;simp only[rE] at hd
  subst hd;have hp:=h.pos;have hm:=h.made;have h1:=h.mlen;have h2:=h.ilen
  exact{
   bonds:=h.bonds,sums:=h.sums,sorted:=h.sorted,mov:=h.mov,known:=h.known,ids:=h.ids
   mlen:=by show s.B.Moving.length<=_;omega
   ilen:=by show s.Ids.length<=_;omega
   pos:=by simp only[];omega
   made:=by simp only[];omega
   whole:=h.whole
   due:=h.due
   out:=h.out}
theorem yo(hr:VJ r)(h:HO r n t s)(h0t:0<=t)(he:XT x=true)(hday:x.Day=t)(hd:FP r s x= .inl s'):HO r (n+1) t s' :=by
 unfold FP at hd
 rcases IA he with k | k | k | k | k | k | k<;>simp only[k,rb,Int.reduceEq,Nm,RK] at hd
 ·have e:=Da he<|.inl k;exact kl h e.1 e.2 hd
 ·have e:=zX he k;exact vk h e.1 e.2.1 e.2.2.1 e.2.2.2 hr hday h0t hd
 ·have e:=NP he k;unfold CA at hd
  split at hd
  ·cases hd
  ·rename_i p hp;split at hd
   ·cases hd
   ·split at hd
    ·cases hd
    ·rename_i hlim;simp only[rE] at hd;subst hd;exact wg h e.1 e.2.2 hr hp hlim
 ·have e:=Da he<|.inr<|.inl k;exact I2 h e.1 e.2 hr hd
 ·have e:=Da he<|.inr<|.inr k;exact ki h e.1 e.2 hd
 ·have e:=zW he k;simp only[rE] at hd;subst hd;exact vb h e.1 e.2 hr h0t
 ·have e:=yg he k;exact wR h e.1 hd
theorem Ad{c c' :AU}(hr:VJ r)(h:HO r n c.day c.acc)(_h0:0<=c.day)(hs:Uk r c x= .inl c'):HO r (n+1) c'.day c'.acc/\c.day<=c'.day/\c'.day=x.Day/\XT x=true:=by
 unfold Uk at hs
 split at hs
 ·cases hs
 ·rename_i he;split at hs
  ·cases hs
  ·rename_i hlt;split at hs
   ·rename_i a ha;simp only[rE] at hs
    subst hs;have he' :XT x=true:=by simpa using he
    exact⟨yo hr (EG hr h<|show c.day<=x.Day by omega) (by have:=(yh he').1;exact this) he' rfl ha,by show c.day<=x.Day;omega,rfl,he'⟩
   ·cases hs
end
section
open Go.Dec
variable{r:Gm}{n:Nat}{t d:Int}{s s' :Acc}{x:Ev}{p:QE}
theorem Ab{i:Nat}(h:i<=4294967296):ZA ((i:Int)+1)=((i+1:Nat):Int):=by rw[Qp (by omega)<|by omega];rfl
theorem yl(hr:VJ r){a:Int}(ha:0<=a)(hb:a<=17179869184)(day:Int):ZA (Int.tdiv (ZA<|a*Fh r.Rates day) 1000)=WY r a day:=by
 have h:=hr.aF (d:=day) ha hb;rw[Qp (n:=a*Fh r.Rates day) (by omega) (by omega),rV h.1];unfold WY;rw[Qp (by omega)<|by omega]
end
section
open Go.Dec
variable{r:Gm}{n:Nat}{t d:Int}{s s' :Acc}{x:Ev}{p:QE}
theorem RX{f g:QE->Int}:∀{l:UV QE},(∀p∈l,f p=g p)->Ye f l=Ye g l
 | [],_=>rfl
 | p::l,h=>by simp only[Ye];rw[h p<|pd ..,RX (l:=l) λq hq=>h q<|bY _ hq]
def ES(r:Gm)(next:Int)(s:Acc)(pre post:UV QE):Acc:={s with B:={s.B with Moving:=pre++post.filter (λp=> !(ZK r p==next)),Used:=s.B.Used+Ye QE.Amount (post.filter λp=>ZK r p==next),Due:=s.B.Due+Ye (λp=>WY r p.Amount next) (post.filter λp=>ZK r p==next)}}
end
section
open Go.Dec
variable{r:Gm}{n:Nat}{t d:Int}{s s' :Acc}{x:Ev}{p:QE}
def kP(s:Acc):Acc ⊕ Int->Acc×Int
 | .inl a=>(a,0)
 | .inr e=>(s,e)
theorem CK(h:0<=x.Bond/\x.Bond<=15):Yg 16 x.Bond=some x.Bond.toNat:=by unfold Yg;rw[AT<|by omega]
theorem Xn(h:HO r n t s)(hb:0<=x.Bond/\x.Bond<=15):0<=Zq s x/\Zq s x<=17179869184:=h.bonds _<|Fq hb
end
section
open Go.Dec
variable{day:Int}
variable{r:Gm}{n:Nat}{t d:Int}{s s' :Acc}{x:Ev}{p:QE}
theorem Gk(n a b:Int):ZM n a b=Wm n a b:=by unfold ZM Wm;exact rfl
theorem Tr(n:Int):Kc n=Wm n 0 65536:=by unfold Kc;exact Gk ..
theorem uR(n:Int):Zj n=Bg n:=by unfold Zj Bg;exact Gk ..
theorem Sp(r:Gm)(hl:r.Rates.length<=1000000):∀(k i:Nat) (last:Int),i+k=r.Rates.length->
  ZR (Jz r) (last,(i:Int))=some (if GV last (r.Rates.drop i) then .inl () else .inr false)
 | 0,i,last,hi=>by
  have:Jz r (last,(i:Int))=some (.done<|.inl ()):=by unfold Jz;rw[RW (by simp;omega)]
  rw[ZI,pL (by omega),this];rfl
 | k+1,i,last,hi=>by
  have hil:i < r.Rates.length:=by omega
  have hx:r.Rates[i]? =some r.Rates[i]:=by simp[hil]
  have step:Jz r (last,(i:Int))=some (if Wm r.Rates[i].From 0 65536&&decide (last < r.Rates[i].From)&&Wm r.Rates[i].Rate 0 1048576 then .next (r.Rates[i].From,((i+1:Nat):Int)) else .done (.inr false)):=by
   unfold Jz;rw[AT (by simp;omega)];simp only[KH,hx,DO,Gk,Tr,Ab (by omega:i<=4294967296)];by_cases c1:Wm r.Rates[i].From 0 65536=true
   case neg=>simp only[pQ] at c1;simp[c1]
   case pos=>
    by_cases c2:Wm r.Rates[i].Rate 0 1048576=true
    case neg=>simp only[pQ] at c2;simp[c1,c2]
    case pos=>
     by_cases c3:r.Rates[i].From<=last
     ·have:decide (last < r.Rates[i].From)=false:=by simp;omega
      simp[c1,c2,c3,this]
     ·have:decide (last < r.Rates[i].From)=true:=by simp;omega
      simp[c1,c2,c3,this]
  rw[ZI,pM hil,step];by_cases hc:(Wm r.Rates[i].From 0 65536&&decide (last < r.Rates[i].From)&&Wm r.Rates[i].Rate 0 1048576)=true
  case neg=>simp only[pQ] at hc;simp[GV,hc]
  case pos=>
   simp only[GV,hc,Nm,rM];exact Sp r hl k (i+1) r.Rates[i].From<|by omega
theorem Sn(hl:r.Rates.length<=1000000):Vn r=some (Gx r):=by
 unfold Vn Gx;have hloop:=Sp r hl r.Rates.length 0 (-1) (by omega);simp only[pX,mB] at hloop
 simp only[QU,Gk,Tr];refine ZO hloop ?_;by_cases ho:GV (-1) r.Rates=true
 case neg=>simp only[pQ] at ho;simp[ho]
 case pos=>
  simp only[ho,Nm,nJ];by_cases h1:Wm (r.Rates.length:Int) 1 64=true
  case neg=>simp only[pQ] at h1;simp[h1]
  case pos=>
   have hl1:=Yd.1 h1
   obtain⟨y,l,e⟩:∃y l,r.Rates=y::l:=by
    cases hr:r.Rates with
    | nil=>rw[hr] at hl1;simp at hl1
    | cons y l=>exact⟨y,l,rfl⟩
   have hx:ZZ r.Rates 0=some y:=by
    have:=KH r.Rates 0;rw[e] at this ⊢;exact this
   have hm:Ea r.Rates=(y.From==0):=by rw[e];rfl
   simp only[h1,Nm,hx,DO,hm,rM]
theorem D5(x:Ev):WH x=some (XT x):=by
 unfold WH XT;simp only[Gk,Tr,uR,QU]
 have h0:(Wm x.Amount 1 17179869184||x.Amount==0)=Wm x.Amount 0 17179869184:=by
  rw[nW];simp[Wm];omega
 rw[h0];by_cases h1:Wm x.Day 0 65536=true
 case neg=>simp only[pQ] at h1;simp[h1]
 case pos=>
  simp only[h1,x7,By,RK,rM];by_cases k0:(x.Kind==0)=true
  ·simp[k0]
  ·simp only[pQ] at k0
   by_cases k3:(x.Kind==3)=true
   ·simp[k0,k3]
   ·simp only[pQ] at k3
    by_cases k4:(x.Kind==4)=true
    ·simp[k0,k3,k4]
    ·simp only[pQ] at k4
     simp only[k0,k3,k4,nv,By,RK,DO];by_cases k1:(x.Kind==1)=true
     ·rw[AT k1,AT k1]
     ·rw[RW k1,RW k1];by_cases k2:(x.Kind==2)=true
      ·rw[AT k2,AT k2]
      ·rw[RW k2,RW k2];by_cases k5:(x.Kind==5)=true
       ·rw[AT k5,AT k5]
       ·rw[RW k5,RW k5];by_cases k6:(x.Kind==6)=true
        ·rw[AT k6,AT k6]
        ·rw[RW k6,RW k6]
theorem yV{m:Int}(h0:0<=m)(h1:m<=2000000):ZA (z7 .u64 (IntKind.u64.wrap<|ZA m) 1)=m / 2:=by
 rw[Qp (n:=m) (by omega)<|by omega];have e:IntKind.u64.bits=64:=rfl
 have hw:IntKind.u64.wrap m=m:=by
  simp only[IntKind.wrap,e];simp[IntKind.signed];omega
 rw[hw]
 have hs:z7 .u64 m 1=m / 2:=by
  unfold z7;have:(2:Int)^(min (Int.toNat 1) IntKind.u64.bits)=2:=by decide
  rw[this,Int.fdiv_eq_ediv_of_nonneg _<|by omega]
 rw[hs,Qp (by omega)<|by omega]
def WC(l:UV Zz)(day:Int):Nat:=(l.takeWhile λx=>decide<|x.From<=day).length
theorem DT{day:Int}:∀{l:UV Zz},l.Pairwise (λx y=>x.From < y.From)->WC l day<=l.length/\(∀i x,l[i]? =some x->(x.From<=day↔i < WC l day))
 | [],_=>⟨IR _,λi x h=>by simp at h⟩
 | y::l,h=>by
  have hy:=tO.1 h;have ih:=DT (day:=day) hy.2;unfold WC at ih ⊢
  rw[nR];by_cases hc:y.From<=day
  ·simp only[hc,pn,Nm,s5];refine⟨by omega,λi x hx=> ?_⟩;cases i with
   | zero=>simp at hx;subst hx;simp[hc]
   | succ i=>
    simp only[rI] at hx
    have:=ih.2 i x hx;omega
  ·simp only[hc,po,By,RK,pO];refine⟨mL _,λi x hx=> ?_⟩;cases i with
   | zero=>simp at hx;subst hx;omega
   | succ i=>
    simp only[rI] at hx
    have:=hy.1 x<|s7 hx;omega
theorem My:∀{l:UV Zz} (a:Int),l.Pairwise (λx y=>x.From < y.From)->l.foldl (λown x=>if x.From<=day then x.Rate else own) a=if WC l day=0 then a else match l[WC l day - 1]? with | some x=>x.Rate | none=>a
 | [],a,_=>rfl
 | y::l,a,h=>by
  have hy:=tO.1 h;have hsp:=DT (day:=day) h;rw[nr,My _ hy.2];have hrl:=(DT (day:=day) hy.2).1;by_cases hc:y.From<=day
  ·have e:WC (y::l) day=WC l day+1:=by unfold WC;rw[nR];simp[hc]
   rw[e];simp only[hc,Nm,Nat.add_one_ne_zero,RK,Nat.add_sub_cancel];by_cases h0:WC l day=0
   ·rw[AT h0,h0];rfl
   ·rw[RW h0];have:WC l day=(WC l day - 1)+1:=by omega
    conv=>rhs;rw[this,rI]
    have hlt:WC l day - 1 < l.length:=by omega
    rw[Rw hlt]
  ·have e:WC (y::l) day=0:=by unfold WC;rw[nR];simp[hc]
   have e2:WC l day=0:=by
    cases hl:l with
    | nil=>rfl
    | cons z l' =>
     unfold WC;rw[nR];have:=hy.1 z (by rw[hl];simp);have:¬z.From<=day:=by omega
     simp[this]
   rw[AT e2,AT e,RW hc]
theorem OL(hr:VJ r):XZ (r.Rates.length:Int) (λx=>YC x r day)=some (WC r.Rates day:Int):=by
 have hsp:=DT (day:=day) hr.sorted;have hlen:=hr.len
 have key:=Ou (body:=Uj λx=>YC x r day) (λs:Int×Int=>0<=s.1/\s.1<=WC r.Rates day/\(WC r.Rates day:Int)<=s.2/\s.2<=r.Rates.length) (λs=>(s.2 - s.1).toNat) (λb=>b=(WC r.Rates day:Int)) λs hs=>by
  obtain⟨i,j⟩:=s;obtain⟨h1,h2,h3,h4⟩:=hs;simp only at h1 h2 h3 h4
  by_cases hc:i < j
  ·left;have hh:=yV (m:=i+j) (by omega) (by omega);have hm0:i<=(i+j) / 2:=by omega
   have hm1:(i+j) / 2 < j:=by omega
   obtain⟨y,hy1,hy2⟩:=uK (l:=r.Rates) (i:=(i+j) / 2) (by omega) (by omega);have hf:YC ((i+j) / 2) r day=some (decide<|y.From > day):=by unfold YC;rw[hy1];rfl
   have hiff:=hsp.2 _ y hy2;by_cases hg:y.From > day
   ·refine⟨(i,(i+j) / 2),?_,⟨by simp only;omega,by simp only;omega,?_,by simp only;omega⟩,by simp only;omega⟩
    ·unfold Uj;rw[AT<|by simpa using hc];simp only[hh,QU,hf,DO,hg,pn,x7,By,RK]
    ·simp only;omega
   ·refine⟨((i+j) / 2+1,j),?_,⟨by simp only;omega,?_,by simp only;omega,by simp only;omega⟩,by simp only;omega⟩
    ·unfold Uj;rw[AT<|by simpa using hc];simp only[hh,QU,hf,DO,hg,po,pG,Nm];rw[Qp (n:=(i+j) / 2+1) (by omega)<|by omega]
    ·simp only;omega
  ·right;refine⟨i,?_,by omega⟩;unfold Uj;rw[RW<|by simpa using hc]
 obtain⟨b,hb,hq⟩:=key r.Rates.length (0,(r.Rates.length:Int)) (by simp) ⟨by simp,by simp,by simp;exact hsp.1,by simp⟩;unfold XZ;rw[hb,hq];rfl
theorem Tu(hr:VJ r){a:Int}(ha:0<=a)(hb:a<=17179869184)(hd:0<=day):Us r a day=some (WY r a day):=by
 have hsp:=DT (day:=day) hr.sorted;have hlen:=hr.len;obtain⟨y,l,e,e0⟩:=hr.first;have h1:0 < WC r.Rates day:=(hsp.2 0 y (by rw[e];rfl)).1 (by omega);have hlt:WC r.Rates day - 1 < r.Rates.length:=by omega
 have hx:r.Rates[WC r.Rates day - 1]? =some r.Rates[WC r.Rates day - 1]:=Rw hlt
 have hrate:Fh r.Rates day=r.Rates[WC r.Rates day - 1].Rate:=by
  unfold Fh;rw[My _ hr.sorted,RW (by omega),hx]
 unfold Us;refine ZO (OL hr) ?_;have hw:ZA ((WC r.Rates day:Int) - 1)=((WC r.Rates day - 1:Nat):Int):=by rw[Qp (by omega)<|by omega];omega
 simp only[QU,hw,KH,hx,DO,<-hrate];rw[yl hr ha hb]
end
section
open Go.Dec
variable{l:UV QE}{i:Int}
variable{r:Gm}{n:Nat}{t d:Int}{s s' :Acc}{x:Ev}{p:QE}
abbrev PM:=UV<|UV<|Int×QE
abbrev KM:=UV<|UV<|Int×Bool
def G7(p:QE):Int×QE:=(p.Id,p)
def Kv(r:Gm)(t:Int)(s:Acc):QD:=⟨r,{s.B with Moving:=[]},some 0,some 0,s.Sums,t⟩
structure PR(r:Gm)(t:Int)(s:Acc)(A1:List QD)(A2:PM)(A3:KM):Prop where
 o:A1=[Kv r t s]
 m:∃m,A2=[m]/\m.Perm (s.B.Moving.map G7)
 k:∃k rest,A3=k::rest/\(k.map Prod.fst).Nodup/\∀i,(Qb k i).getD false=s.Ids.contains i
theorem G6(h:l.Pairwise (λp q=>p.Id < q.Id)):((l.map G7).map Prod.fst).Nodup:=by
 have:(l.map G7).map Prod.fst=l.map QE.Id:=by rw[nY];rfl
 rw[this];rw[List.Nodup,mz];exact h.imp λh=>eA h
theorem zR:∀{l:UV QE},Qb (l.map G7) i=l.find? (λq=>q.Id==i)
 | []=>rfl
 | q::l=>by
  simp only[s6,G7,Qb,ri];by_cases h:i=q.Id
  ·subst h;simp
  ·have h1:(i==q.Id)=false:=by simpa using h
   have h2:(q.Id==i)=false:=by simpa using Ne.symm h
   simp only[h1,h2,By,RK];exact zR
theorem O3{m:UV (Int×QE)}(hs:l.Pairwise (λp q=>p.Id < q.Id))(h:m.Perm (l.map G7)):Qb m i=l.find? (λq=>q.Id==i):=by
 rw[UA h<|G6 hs,zR]
theorem qS:(l.map G7).filter (λx=> !(i==x.1))=(l.filter λq=> !(q.Id==i)).map G7:=by
 rw[lU];congr 1;refine pZ λq _=> ?_;show(!(i==q.Id))= !(q.Id==i);rw[Bool.beq_comm]
theorem yq{m:UV (Int×QE)}(hs:l.Pairwise (λp q=>p.Id < q.Id))(h:m.Perm (l.map G7)):(Ju m i).Perm ((l.filter λq=> !(q.Id==i)).map G7):=by
 have h1:=CH (k:=i) h<|G6 hs
 rwa[Wf<|G6 hs,qS] at h1
abbrev xp:=Out Zn<|UV QD×PM×KM
def XV(r:Gm)(t:Int)(out:Acc ⊕ Int)(q:H1 xp):Prop:=match out with
 | .inl s' =>∃A1 A2 A3,q=some (.ok (A1,A2,A3))/\PR r t s' A1 A2 A3
 | .inr e=>q=some (.pan ⟨e⟩)
theorem CG(e:Int):JD true e=some (.ok ()):=rfl
theorem Tb(e:Int):JD false e=some (.pan ⟨e⟩):=rfl
theorem Up{ε α β:Type}{e:H1 (Out ε α)}{gp:ε->H1 β}{g:α->H1 β}{x:α}(h:e=some (.ok x)):Qt e gp g=g x:=by rw[h];rfl
theorem Ui{ε α β:Type}{e:H1 (Out ε α)}{gp:ε->H1 β}{g:α->H1 β}{x:ε}(h:e=some (.pan x)):Qt e gp g=gp x:=by rw[h];rfl
variable{A1:UV QD}{A2:PM}{A3:KM}
theorem Mt(h:HO r n t s)(hp:PR r t s A1 A2 A3)(hb:0<=x.Bond/\x.Bond<=15)(ha:0<=x.Amount/\x.Amount<=17179869184):YN A1 (some 0) x=if Zq s x+x.Amount > 17179869184 then some (.pan ⟨12⟩) else some (.ok ()):=by
 have hh:=Xn h hb;have e:(Kv r t s).book.Bonds x.Bond.toNat=Zq s x:=rfl;unfold YN;rw[hp.o];simp only[DO,CK hb,IN];rw[e,Qp (n:=Zq s x+x.Amount) (by omega)<|by omega];by_cases hlim:Zq s x+x.Amount > 17179869184
 ·have e1:decide (Zq s x+x.Amount<=17179869184)=false:=by simp;omega
  rw[e1,AT hlim];rfl
 ·have e1:decide (Zq s x+x.Amount<=17179869184)=true:=by simp;omega
  rw[e1,RW hlim];rfl
theorem Gl(h:HO r n t s)(hp:PR r t s A1 A2 A3)(hb:0<=x.Bond/\x.Bond<=15)(ha:1<=x.Amount/\x.Amount<=17179869184):JZ A1 (some 0) x=if Zq s x < x.Amount then some (.pan ⟨10⟩) else some (.ok [Kv r t<|Ub s x<|Zq s x - x.Amount]):=by
 have hh:=Xn h hb;have e:(Kv r t s).book.Bonds x.Bond.toNat=Zq s x:=rfl;unfold JZ;rw[hp.o];simp only[DO,CK hb,IN];rw[e];by_cases hlim:Zq s x < x.Amount
 ·have e1:decide (Zq s x≥x.Amount)=false:=by simp;omega
  rw[e1,AT hlim];rfl
 ·have e1:decide (Zq s x≥x.Amount)=true:=by simp;omega
  rw[e1,RW hlim,Qp (n:=Zq s x - x.Amount) (by omega)<|by omega];rfl
theorem IJ(h:HO r n t s)(hn:n<=4096)(hp:PR r t s A1 A2 A3)(he:XT x=true)(k:x.Kind=0):XV r t (SF s x) (Jk A1 A2 A3 (some 0) x):=by
 obtain⟨hb,ha⟩:=Da he<|.inl k;have hh:=Xn h hb;have hl:=h.lim;have hpo:=h.pos;have hr:=Mt h hp hb (by omega);unfold Jk SF XV;by_cases hlim:Zq s x+x.Amount > 17179869184
 ·rw[AT hlim] at hr ⊢
  rw[Ui hr]
 ·rw[RW hlim] at hr ⊢
  rw[Up hr];refine⟨[Kv r t {Ub s x (Zq s x+x.Amount) with B:={(Ub s x<|Zq s x+x.Amount).B with Made:=s.B.Made+x.Amount}}],A2,A3,?_,rfl,hp.m,hp.k⟩;rw[hp.o];have e:(Kv r t s).book.Bonds x.Bond.toNat=Zq s x:=rfl;have e2:(Kv r t s).book.Made=s.B.Made:=rfl;simp only[DO,CK hb,IN,QU,e,e2];rw[Qp (n:=Zq s x+x.Amount) (by omega) (by omega),Qp (n:=s.B.Made+x.Amount) (by omega)<|by omega];rfl
theorem kY{k:UV (Int×Bool)}{ids:UV Int}{id:Int}(hn:(k.map Prod.fst).Nodup)(h:∀i,(Qb k i).getD false=ids.contains i)(i:Int):(Qb (Qv k id true) i).getD false=(ids++[id]).contains i:=by
 have hp:=Jh (l:=k) (k:=id) (v:=true) hn;have hnd:(((id,true)::k.filter (λx=> !(id==x.1))).map Prod.fst).Nodup:=(hp.map Prod.fst).nodup_iff.1<|JL hn;rw[UA hp hnd];simp only[Qb];by_cases e:i=id
 ·subst e;simp
 ·have e1:(i==id)=false:=by simpa using e
  rw[e1];simp only[By,RK]
  have e2:Qb (k.filter λx=> !(id==x.1)) i=Qb k i:=by
   clear hn h hp hnd
   induction k with
   | nil=>rfl
   | cons y k ih=>
    rw[pv];by_cases h1:id=y.1
    ·have h2:(id==y.1)=true:=by simpa using h1
     have h3:(i==y.1)=false:=by simp;intro h;exact e<|h.trans h1.symm
     simp only[h2,x7,By,RK,Qb,h3,ih]
    ·have h2:(id==y.1)=false:=by simpa using h1
     simp only[h2,pG,Nm,Qb,ih]
  rw[e2,h];simp[e]
theorem kA(h:HO r n t s)(hp:PR r t s A1 A2 A3)(he:XT x=true)(k:x.Kind=1):XV r t (Mo s x) (YM A1 A2 A3 (some 0) x):=by
 obtain⟨hb,hto,hid,ha⟩:=zX he k;have hh:=Xn h hb;have hdr:=Gl h hp hb ha;obtain⟨m,hm,hmp⟩:=hp.m;obtain⟨kk,rest,hk,hkn,hkg⟩:=hp.k;unfold YM Mo XV;by_cases hne:(x.Bond==x.To)=true
 ·have e1:(x.Bond != x.To)=false:=by simp[bne,hne]
  rw[e1,AT hne,Ui<|Tb 11]
 ·have e1:(x.Bond != x.To)=true:=by simp only[bne];simp only[pQ] at hne;rw[hne];rfl
  rw[e1,RW hne,Up<|CG 11];have o1:(A1[0]?)=some (Kv r t s):=by rw[hp.o];rfl
  have k0:(A3[0]?)=some kk:=by rw[hk];rfl
  have kn:(Kv r t s).known=some 0:=rfl;simp only[DO,o1,kn,k0,hkg];by_cases hc:s.Ids.contains x.Id=true
  ·rw[AT hc,hc];rw[x7,Ui<|Tb 5]
  ·have hc' :s.Ids.contains x.Id=false:=by simpa using hc
   rw[RW hc,hc',pG,Up<|CG 5];by_cases hlim:Zq s x < x.Amount
   ·rw[AT hlim] at hdr ⊢
    rw[Ui hdr]
   ·rw[RW hlim] at hdr ⊢
    rw[Up hdr];have m0:(A2[0]?)=some m:=by rw[hm];rfl
    have mo:(Kv r t<|Ub s x<|Zq s x - x.Amount).moving=some 0:=rfl;have kn2:(Kv r t<|Ub s x<|Zq s x - x.Amount).known=some 0:=rfl;refine⟨_,_,_,by simp only[IN,DO,kn2,k0,mo,m0,QU];rfl,rfl,⟨Qv m x.Id<|I9 x,by rw[hm];rfl,?_⟩,⟨Qv kk x.Id true,rest,by rw[hk];rfl,JL hkn,kY hkn hkg⟩⟩
    have hnew:∀q∈s.B.Moving,q.Id≠x.Id:=λq hq e=>by
     have:=h.known q hq;rw[e] at this
     rw[<-pQ,List.contains_iff_mem] at hc';exact hc' this
    have h1:=Jh (l:=m) (k:=x.Id) (v:=I9 x)<|(hmp.map Prod.fst).nodup_iff.2<|G6 h.sorted
    have h2:m.filter (λe=> !(x.Id==e.1))=m:=rX.2 λe he=>by
     obtain⟨q,hq,rfl⟩:=rG.1<|hmp.mem_iff.1 he;have:=hnew q hq;simp[G7];exact eU this
    rw[h2] at h1
    refine h1.trans ?_;refine(hmp.cons _).trans ?_;have h3:=(CJ (q:=I9 x) (l:=s.B.Moving)).symm.map G7;exact h3
theorem OJ(hr:VJ r)(h:HO r n t s)(hn:n<=4096)(h0:0<=t){u:Acc}(hu:u.B.Bonds x.Bond.toNat=0∨u.B.Bonds x.Bond.toNat=Zq s x)(hb:0<=x.Bond/\x.Bond<=15){was is allowed:Int}(hwas:0<=was/\was<=17179869184)(his:0<=is/\is<=17179869184)(hal:0<=allowed/\allowed<=4611686018427387904)
  (hF:u.B.Found=s.B.Found) (hL:u.B.Lost=s.B.Lost) (hC:u.B.Charged=s.B.Charged) (hD:u.B.Due=s.B.Due):Y1 [Kv r t u] (some 0) x.Bond was is allowed=some [Kv r t<|Ba r t (imax 0<|was - is) allowed {Ub u x (u.B.Bonds x.Bond.toNat+is) with B:={(Ub u x<|u.B.Bonds x.Bond.toNat+is).B with Found:=u.B.Found+imax 0 (is - was)}}]:=by
 have hh:=Xn h hb;have hl:=h.lim;have hpo:=h.pos;have hdu:=h.due;have e1:=Gj (a:=0) (b:=was - is);have e2:=Gj (a:=0) (b:=is - was);have e3:=Tm (a:=imax 0<|was - is) (b:=allowed);have hd:=hr.bA (a:=imax 0 (was - is) - Jc (imax 0<|was - is) allowed) (d:=t) (by omega);unfold Y1;simp only[DO,CK hb,IN,QU];rw[Qp (n:=is - was) (by omega) (by omega),Qp (n:=was - is) (by omega) (by omega),Qp (n:=imax 0 (was - is) - Jc (imax 0<|was - is) allowed) (by omega)<|by omega];refine ZO (Tu hr (by omega) (by omega) h0) ?_;simp only[Kv,rn];rw[Qp (n:=u.B.Bonds x.Bond.toNat+is) (by omega) (by omega),Qp (n:=u.B.Found+imax 0 (is - was)) (by omega) (by omega),Qp (n:=u.B.Lost+Jc (imax 0<|was - is) allowed) (by omega) (by omega),Qp (n:=u.B.Charged+(imax 0 (was - is) - Jc (imax 0<|was - is) allowed)) (by omega) (by omega),Qp (n:=u.B.Due+WY r (imax 0 (was - is) - Jc (imax 0<|was - is) allowed) t) (by omega)<|by omega];rfl
theorem EA(hr:VJ r)(h:HO r n t s)(hn:n<=4096)(h0:0<=t)(hp:PR r t s A1 A2 A3)(he:XT x=true)(k:x.Kind=2)(hday:x.Day=t):XV r t (CA r s x) (JU A1 A2 A3 (some 0) x):=by
 obtain⟨hb,hid,ha⟩:=NP he k;have hh:=Xn h hb;have hro:=Mt h hp hb ha;obtain⟨m,hm,hmp⟩:=hp.m;have o1:(A1[0]?)=some (Kv r t s):=by rw[hp.o];rfl
 have m0:(A2[0]?)=some m:=by rw[hm];rfl
 have mo:(Kv r t s).moving=some 0:=rfl;unfold JU CA XV;simp only[DO,o1,mo,m0,QU,O3 h.sorted hmp];cases hq:s.B.Moving.find? (λq=>q.Id==x.Id) with
 | none=>rfl
 | some p=>
  obtain⟨hmem,hpid,_⟩:=Og h.sorted hq;have hpk:=h.mov p hmem;have hpa:=hpk.amount;simp only[nX,nO];rw[Up<|CG 4];by_cases hto:(p.To != x.Bond)=true
  ·have e1:(p.To==x.Bond)=false:=by simpa[bne] using hto
   rw[e1,Ui<|Tb 11,AT hto]
  ·have e1:(p.To==x.Bond)=true:=by simpa[bne] using hto
   rw[e1,Up<|CG 11,RW hto];by_cases hlim:Zq s x+x.Amount > 17179869184
   ·rw[AT hlim] at hro ⊢
    rw[Ui hro]
   ·rw[RW hlim] at hro ⊢
    rw[Up hro];have hlo:=hr.loss;have hal0:0<=p.Amount*r.Loss:=rf (by omega) hlo.1;have hal1:p.Amount*r.Loss<=17179869184*10000:=mD hpa.2 hlo.2 hlo.1 (by omega);have hru:(Kv r t s).rules.Loss=r.Loss:=rfl;have hset:=OJ (x:=x) hr h hn h0 (u:=s) (.inr rfl) hb (was:=p.Amount) (is:=x.Amount) (allowed:=p.Amount*r.Loss / 10000) (by omega) ha (by omega) rfl rfl rfl rfl;simp only[hru];rw[Qp (n:=p.Amount*r.Loss) (by omega) (by omega),rV hal0,Qp (n:=p.Amount*r.Loss / 10000) (by omega)<|by omega];refine⟨_,_,_,ZO (by rw[hp.o];exact hset) rfl,?_,⟨Ju m x.Id,by rw[hm];rfl,yq h.sorted hmp⟩,hp.k⟩;unfold O2;rw[hday];rfl
theorem E6(hr:VJ r){u:Acc}{a day:Int}(ha:0<=a/\a<=17179869184)(hd:0<=day)(hU:0<=u.B.Used/\u.B.Used<=4611686018427387904)(hD:0<=u.B.Due/\u.B.Due<=4611686018427387904):Y0 [Kv r t u] (some 0) a day=some [Kv r t<|Lv r a day u]:=by
 have hdu:=hr.bA (a:=a) (d:=day) (by omega);unfold Y0;simp only[DO,IN,QU];refine ZO (Tu hr ha.1 ha.2 hd) ?_;simp only[Kv,rn];rw[Qp (n:=u.B.Used+a) (by omega) (by omega),Qp (n:=u.B.Due+WY r a day) (by omega)<|by omega];rfl
theorem L9(hr:VJ r)(h:HO r n t s)(hn:n<=4096)(hp:PR r t s A1 A2 A3)(he:XT x=true)(k:x.Kind=3):XV r t (DS r s x) (JT A1 A2 A3 (some 0) x):=by
 obtain⟨hb,ha⟩:=Da he<|.inr<|.inl k;have hdr:=Gl h hp hb ha;have hl:=h.lim;have hpo:=h.pos;have hdu:=h.due;unfold JT DS XV;by_cases hlim:Zq s x < x.Amount
 ·rw[AT hlim] at hdr ⊢
  rw[Ui hdr]
 ·rw[RW hlim] at hdr ⊢
  rw[Up hdr];exact⟨_,_,_,ZO (E6 hr (by omega) (yh he).1 ⟨by show 0<=s.B.Used;omega,by show s.B.Used<=_;omega⟩ ⟨by show 0<=s.B.Due;omega,by show s.B.Due<=_;omega⟩) rfl,rfl,hp.m,hp.k⟩
theorem O9(h:HO r n t s)(hn:n<=4096)(hp:PR r t s A1 A2 A3)(he:XT x=true)(k:x.Kind=4):XV r t (SE s x) (Jj A1 A2 A3 (some 0) x):=by
 obtain⟨hb,ha⟩:=Da he<|.inr<|.inr k;have hdr:=Gl h hp hb ha;have hl:=h.lim;have hpo:=h.pos;unfold Jj SE XV;by_cases hlim:Zq s x < x.Amount
 ·rw[AT hlim] at hdr ⊢
  rw[Ui hdr]
 ·rw[RW hlim] at hdr ⊢
  rw[Up hdr];have e:(Kv r t<|Ub s x<|Zq s x - x.Amount).book.Exported=s.B.Exported:=rfl;refine⟨[Kv r t {Ub s x (Zq s x - x.Amount) with B:={(Ub s x<|Zq s x - x.Amount).B with Exported:=s.B.Exported+x.Amount}}],A2,A3,?_,rfl,hp.m,hp.k⟩;simp only[DO,IN,QU,e];rw[Qp (n:=s.B.Exported+x.Amount) (by omega)<|by omega];rfl
theorem zx(hr:VJ r)(h:HO r n t s)(hn:n<=4096)(h0:0<=t)(ht:t<=65536)(hp:PR r t s A1 A2 A3)(he:XT x=true)(k:x.Kind=5)(hday:x.Day=t):XV r t (.inl<|PO r s x) (YL A1 A2 A3 (some 0) x):=by
 obtain⟨hb,ha⟩:=zW he k;have hh:=Xn h hb;have hsu:=h.sums _<|Fq hb;have hsh:=hr.share;have hal0:0<=s.Sums x.Bond.toNat*r.Share:=rf hsu.1 hsh.1;have hal1:s.Sums x.Bond.toNat*r.Share<=65536*17179869184*1000:=mD (by omega) hsh.2 hsh.1 (by omega);have e1:(Kv r t s).sums x.Bond.toNat=s.Sums x.Bond.toNat:=rfl;have e2:(Kv r t s).rules.Share=r.Share:=rfl;have e3:(Kv r t s).book.Bonds x.Bond.toNat=Zq s x:=rfl;have hset:=OJ (x:=x) hr h hn h0 (u:={Ub s x 0 with Sums:=ZL s.Sums x.Bond.toNat 0}) (.inl WB) hb (was:=Zq s x) (is:=x.Amount) (allowed:=s.Sums x.Bond.toNat*r.Share / 3650000) hh ha (by omega) rfl rfl rfl rfl;unfold YL XV;rw[hp.o];simp only[DO,CK hb,IN,QU,e1,e2,e3,rn];rw[Qp (n:=s.Sums x.Bond.toNat*r.Share) (by omega) (by omega),rV hal0,Qp (n:=s.Sums x.Bond.toNat*r.Share / 3650000) (by omega)<|by omega];refine⟨_,_,_,ZO hset rfl,?_,hp.m,hp.k⟩
 have e4:ZL (ZL s.B.Bonds x.Bond.toNat 0) x.Bond.toNat (ZL s.B.Bonds x.Bond.toNat 0 x.Bond.toNat+x.Amount)=ZL s.B.Bonds x.Bond.toNat x.Amount:=by
  funext i;by_cases e:i=x.Bond.toNat
  ·subst e;rw[WB,WB,WB];omega
  ·rw[XJ e,XJ e,XJ e]
 unfold PO;rw[hday];simp only[Ub,e4]
theorem j7(h:HO r n t s)(hn:n<=4096)(hp:PR r t s A1 A2 A3)(he:XT x=true)(k:x.Kind=6):XV r t (kL s x) (Y2 A1 A2 A3 (some 0) x):=by
 have ha:=yg he k;have hl:=h.lim;have hpo:=h.pos;have hdu:=h.due;have e1:(Kv r t s).book.Due=s.B.Due:=rfl;have e2:(Kv r t s).book.Paid=s.B.Paid:=rfl;unfold Y2 kL XV;rw[hp.o];simp only[DO,IN,QU,e1,e2];rw[Qp (n:=s.B.Due - s.B.Paid) (by omega)<|by omega];by_cases hlim:x.Amount > s.B.Due - s.B.Paid
 ·have e3:decide (x.Amount<=s.B.Due - s.B.Paid)=false:=by simp;omega
  rw[e3,AT hlim,Ui<|Tb 11]
 ·have e3:decide (x.Amount<=s.B.Due - s.B.Paid)=true:=by simp;omega
  rw[e3,RW hlim,Up<|CG 11,Qp (n:=s.B.Paid+x.Amount) (by omega)<|by omega];exact⟨_,_,_,rfl,rfl,hp.m,hp.k⟩
end
section
open Go.Dec
variable{l:UV (Int×QE)}
variable{r:Gm}{n:Nat}{t d day:Int}{s u:Acc}{x:Ev}{p:QE}{A1:UV QD}{A2:PM}{A3:KM}
def Hw(r:Gm)(d:Int)(s:Acc):Acc:={s with B:=(Wx r 0 d s).B}
structure xL(r:Gm)(u:Acc):Prop where
 sorted:u.B.Moving.Pairwise (λp q=>p.Id < q.Id)
 mov:∀p∈u.B.Moving,(1<=p.Amount/\p.Amount<=17179869184)/\0<=p.Sent/\p.Sent<=65536
 used:0<=u.B.Used/\u.B.Used+Ye QE.Amount u.B.Moving<=4611686018427387904
 due:0<=u.B.Due/\u.B.Due+1049*Ye QE.Amount u.B.Moving<=4611686018427387904
theorem HO.pD(h:HO r n t s)(hn:n<=4096)(ht:t<=65536):xL r s where
 sorted:=h.sorted
 mov:=λp hp=>⟨(h.mov p hp).amount,(h.mov p hp).sent.1,by have:=(h.mov p hp).sent.2;omega⟩
 used:=by have:=h.lim;have:=h.pos;omega
 due:=by have:=h.lim;have:=h.pos;have:=h.due;omega
theorem yO(hr:VJ r)(h:0<=p.Sent/\p.Sent<=65536):ZA (ZA (p.Sent+r.Transit)+1)=ZK r p:=by
 have:=hr.transit;rw[Qp (n:=p.Sent+r.Transit) (by omega) (by omega),Qp (by omega)<|by omega];rfl
theorem Ti(hr:VJ r)(h:0<=p.Sent/\p.Sent<=65536):YQ [Kv r t u] (some 0) p=some (ZK r p):=by
 unfold YQ;simp only[DO,IN,Kv];rw[yO hr h]
def XP(r:Gm)(day:Int)(D:UV (Int×Bool))(l:UV (Int×QE)):UV (Int×Bool):=l.foldl (λD e=>if ZK r e.2<=day then Qv D (ZK r e.2) true else D) D
theorem mem_set{D:UV (Int×Bool)}{k:Int}(hn:(D.map Prod.fst).Nodup)(ht:∀y∈D,y.2=true)(y:Int×Bool):y∈Qv D k true↔y=(k,true)∨y∈D:=by
 rw[(Jh hn).mem_iff,y1,pa];constructor
 ·rintro(h | ⟨h,_⟩)
  ·exact .inl h
  ·exact .inr h
 ·rintro(h | h)
  ·exact .inl h
  ·by_cases e:k=y.1
   ·left;have:=ht y h;rw[e,<-this]
   ·exact .inr ⟨h,by simpa using e⟩
theorem HX:∀{l:UV (Int×QE)} {D:UV (Int×Bool)},(D.map Prod.fst).Nodup->(∀y∈D,y.2=true)->
  ((XP r day D l).map Prod.fst).Nodup/\(XP r day D l).length<=D.length+l.length/\∀y,y∈XP r day D l↔y∈D∨∃e∈l,ZK r e.2<=day/\y=(ZK r e.2,true)
 | [],D,hn,ht=>⟨hn,by simp[XP],λy=>by simp[XP]⟩
 | e::l,D,hn,ht=>by
  unfold XP;rw[nr];by_cases hc:ZK r e.2<=day
  ·rw[AT hc]
   have ht2:∀y∈Qv D (ZK r e.2) true,y.2=true:=λy hy=>by
    rcases(mem_set hn ht y).1 hy with rfl | hy
    ·rfl
    ·exact ht y hy
   have hlen:(Qv D (ZK r e.2) true).length<=D.length+1:=by
    have:=(Jh (k:=ZK r e.2) (v:=true) hn).length_eq;have h2:=mY (λx:Int×Bool=> !(ZK r e.2==x.1)) D;simp only[s5] at this;omega
   obtain⟨h1,h2,h3⟩:=HX (l:=l) (JL (k:=ZK r e.2) (v:=true) hn) ht2;refine⟨h1,by simp only[s5];unfold XP at h2;omega,λy=> ?_⟩;rw[show(List.foldl (λD e=>if ZK r e.2<=day then Qv D (ZK r e.2) true else D) (Qv D (ZK r e.2) true) l)=XP r day (Qv D (ZK r e.2) true) l from rfl,h3,mem_set hn ht];simp only[y1,exists_eq_or_imp];constructor
   ·rintro((h | h) | h)
    ·exact .inr<|.inl ⟨hc,h⟩
    ·exact .inl h
    ·exact .inr<|.inr h
   ·rintro(h | (h | h))
    ·exact .inl<|.inr h
    ·exact .inl<|.inl h.2
    ·exact .inr h
  ·rw[RW hc];obtain⟨h1,h2,h3⟩:=HX (l:=l) hn ht;refine⟨h1,by simp only[s5];unfold XP at h2;omega,λy=> ?_⟩;rw[show(List.foldl (λD e=>if ZK r e.2<=day then Qv D (ZK r e.2) true else D) D l)=XP r day D l from rfl,h3];simp only[y1,exists_eq_or_imp];constructor
   ·rintro(h | h)
    ·exact .inl h
    ·exact .inr<|.inr h
   ·rintro(h | (h | h))
    ·exact .inl h
    ·exact absurd h.1 hc
    ·exact .inr h
theorem ko{l':UV (Int×QE)}(hp:l'.Perm l):(XP r day [] l').Perm (XP r day [] l):=by
 have a:=HX (r:=r) (day:=day) (l:=l') (D:=[]) (by simp) (by simp);have b:=HX (r:=r) (day:=day) (l:=l) (D:=[]) (by simp)<|by simp
 have nd:∀{L:UV (Int×Bool)},(L.map Prod.fst).Nodup->L.Nodup:=fun{L} h=>by
  rw[List.Nodup,mz] at h
  exact h.imp λh e=>h<|by rw[e]
 refine(lX (nd a.1)<|nd b.1).2 λy=> ?_;rw[a.2.2,b.2.2];constructor
 ·rintro(h | ⟨e,he,h⟩)
  ·exact .inl h
  ·exact .inr ⟨e,hp.mem_iff.1 he,h⟩
 ·rintro(h | ⟨e,he,h⟩)
  ·exact .inl h
  ·exact .inr ⟨e,hp.mem_iff.2 he,h⟩
theorem jr{α:Type}{A:UV α}{x y:α}:List.set (A++[x]) A.length y=A++[y]:=by simp
theorem Tw(hr:VJ r):∀{l:UV (Int×QE)} {D:UV (Int×Bool)},(∀e∈l,0<=e.2.Sent/\e.2.Sent<=65536)->
  Ys (Z9 [Kv r t u] A3 (some 0) day) l (A3++[D])=some (A3++[XP r day D l])
 | [],D,_=>rfl
 | e::l,D,h=>by
  have he:=h e<|pd ..
  have step:Z9 [Kv r t u] A3 (some 0) day e (A3++[D])=some (A3++[if ZK r e.2<=day then Qv D (ZK r e.2) true else D]):=by
   unfold Z9;rw[Ti hr he];simp only[DO];by_cases hc:ZK r e.2<=day
   ·have hg:(A3++[D])[A3.length]? =some D:=by simp
    simp only[hc,pn,Nm,hg,DO,QU,jr]
   ·simp only[hc,po,By,RK,DO]
  simp only[Ys,step,DO];exact Tw hr λq hq=>h q<|bY _ hq
theorem qY(hr:VJ r)(h:∀e∈l,0<=e.2.Sent/\e.2.Sent<=65536):BZ TP (Z9 [Kv r t u] A3 (some 0) day) l (A3++[[]])=some (A3++[XP r day [] l]):=by
 refine Oc (Tw hr h) λl' hl' =>⟨_,Tw hr λe he=>h e<|hl'.mem_iff.1 he,by simp,λi x y hx hy=> ?_⟩;by_cases hi:i < A3.length
 ·rw[pS hi] at hx hy
  rw[hx] at hy;simp only[BY] at hy;subst hy;exact .refl _
 ·rw[pq<|by omega] at hx hy
  cases hk:i - A3.length with
  | zero=>
   rw[hk] at hx hy
   simp only[IN,BY] at hx hy
   subst hx;subst hy;exact ko hl'
  | succ k=>rw[hk] at hx;simp at hx
def u7(r:Gm)(day:Int)(l:UV (Int×QE)):UV Int:=((XP r day [] l).map Prod.fst).mergeSort λa b=>decide<|a<=b
theorem kX:(u7 r day l).Pairwise (·< ·):=by
 have hn:=(HX (r:=r) (day:=day) (l:=l) (D:=[]) (by simp)<|by simp).1;have h1:(u7 r day l).Pairwise (λa b=>decide (a<=b)=true):=ln (λa b c h1 h2=>by simp only[wt] at*;omega) (λa b=>by simp only[rD,wt];omega) _;have h2:(u7 r day l).Nodup:=(nu _ _).nodup_iff.2 hn;exact(h1.and h2).imp λh=>by have:=h.1;have:=h.2;simp only[wt] at*;omega
theorem yQ:d∈u7 r day l↔d<=day/\∃e∈l,ZK r e.2=d:=by
 unfold u7;rw[(nu _ _).mem_iff,rG];have h:=(HX (r:=r) (day:=day) (l:=l) (D:=[]) (by simp)<|by simp).2.2;constructor
 ·rintro⟨y,hy,rfl⟩;rcases(h y).1 hy with hy | ⟨e,he,hl,rfl⟩
  ·cases hy
  ·exact⟨hl,e,he,rfl⟩
 ·rintro⟨hd,e,he,rfl⟩;exact⟨(ZK r e.2,true),(h _).2<|.inr ⟨e,he,hd,rfl⟩,rfl⟩
theorem uH(hr:VJ r)(hA1:A1=[Kv r t u]){m:UV (Int×QE)}(hA2:A2=[m])(hm:m.length<=4096)(hs:∀e∈m,0<=e.2.Sent/\e.2.Sent<=65536):Yc A1 A2 A3 (some 0) day=some ((A1,A2,A3++[XP r day [] m]),u7 r day m):=by
 subst hA1;subst hA2;have hsp:=HX (r:=r) (day:=day) (l:=m) (D:=[]) (by simp) (by simp);have ht:=hr.transit
 have hk:Vl (A3++[XP r day [] m]) (some A3.length)=some (u7 r day m):=by
  have hg:(A3++[XP r day [] m])[A3.length]? =some (XP r day [] m):=by simp
  simp only[Vl,hg,DO,GF];rw[AT]
  ·rfl
  ·refine⟨s8.2 λy hy=> ?_,by have:=hsp.2.1;simp at this;omega⟩;rcases(hsp.2.2 y).1 hy with hy | ⟨e,he,hl,rfl⟩
   ·cases hy
   ·have:=hs e he;simp only[wt];unfold ZK;omega
 unfold Yc;simp only[DO,IN,Kv];have h1:=qY (t:=t) (u:=u) (A3:=A3) (day:=day) hr hs;simp only[Kv] at h1
 rw[h1];simp only[DO,hk]
theorem xL.book(hr:VJ r)(h:xL r u):xL r (Hw r d u) where
 sorted:=h.sorted.filter _
 mov:=λp hp=>h.mov p (pa.1 hp).1
 used:=by
  have h1:=h.used;have h2:=Gr (f:=QE.Amount) (c:=λp=>decide<|d < ZK r p) (l:=u.B.Moving);have h3:0<=Ye QE.Amount (u.B.Moving.filter λp=> !decide (d < ZK r p)):=Gs λp hp=>by have:=(h.mov p (pa.1 hp).1).1.1;omega
  simp only[Hw,Wx];omega
 due:=by
  have h1:=h.due;have h2:=Gr (f:=QE.Amount) (c:=λp=>decide<|d < ZK r p) (l:=u.B.Moving);have h3:0<=Ye (λp=>WY r p.Amount<|ZK r p) (u.B.Moving.filter λp=> !decide (d < ZK r p)):=Gs λp hp=>by have:=(h.mov p (pa.1 hp).1).1.1;exact(hr.bA<|by omega).1
  have h4:Ye (λp=>WY r p.Amount<|ZK r p) (u.B.Moving.filter λp=> !decide (d < ZK r p))<=Ye (λp=>1049*p.Amount) (u.B.Moving.filter λp=> !decide (d < ZK r p)):=Lw λp hp=>by have:=(h.mov p (pa.1 hp).1).1.1;exact(hr.bA<|by omega).2
  rw[RV] at h4
  simp only[Hw,Wx];omega
theorem jF{d0:Int}(h:d0<=d):Hw r d (Hw r d0 s)=Hw r d s:=by
 have e:=kM (r:=r) (s:=s) (t:=0) (u:=d0) (d:=d) h;have h1:(Wx r 0 d<|Hw r d0 s).B=(Wx r d0 d<|Wx r 0 d0 s).B:=rfl;unfold Hw at h1 ⊢
 simp only[h1,e]
theorem jE(h:∀p∈s.B.Moving,d < ZK r p):Hw r d s=s:=by
 have e1:s.B.Moving.filter (λp=>decide<|d < ZK r p)=s.B.Moving:=rX.2 λp hp=>by simpa using h p hp
 have e2:s.B.Moving.filter (λp=> !decide (d < ZK r p))=[]:=nZ.2 λp hp=>by simpa using h p hp
 simp only[Hw,Wx,e1,e2,Ye,Int.add_zero]
theorem qH(h:∀p∈s.B.Moving,d<=ZK r p):ES r d s [] s.B.Moving=Hw r d s:=by
 have e1:s.B.Moving.filter (λp=> !(ZK r p==d))=s.B.Moving.filter (λp=>decide<|d < ZK r p):=pZ λp hp=>by
  have:=h p hp;by_cases e:ZK r p=d
  ·simp[e]
  ·have e2:d < ZK r p:=by omega
   simp[e,e2]
 have e2:s.B.Moving.filter (λp=>ZK r p==d)=s.B.Moving.filter (λp=> !decide (d < ZK r p)):=pZ λp hp=>by
  have:=h p hp;by_cases e:ZK r p=d
  ·simp[e]
  ·have e2:d < ZK r p:=by omega
   simp[e,e2]
 have e3:Ye (λp=>WY r p.Amount d) (s.B.Moving.filter λp=> !decide (d < ZK r p))=Ye (λp=>WY r p.Amount<|ZK r p) (s.B.Moving.filter λp=> !decide (d < ZK r p)):=RX λp hp=>by
  have h1:=pa.1 hp;have h2:=h p h1.1;have h3:¬d < ZK r p:=by simpa using h1.2
  have:ZK r p=d:=by omega
  rw[this]
 simp only[ES,Hw,Wx,rY,e1,e2,e3]
def RJ(r:Gm)(d:Int)(u:Acc)(l:UV QE):Acc:={u with B:={u.B with Used:=u.B.Used+Ye QE.Amount (l.filter λp=>ZK r p==d),Due:=u.B.Due+Ye (λp=>WY r p.Amount d) (l.filter λp=>ZK r p==d)}}
def CQ(r:Gm)(d:Int)(M l:UV (Int×QE)):UV (Int×QE):=l.foldl (λM e=>if ZK r e.2==d then Ju M e.1 else M) M
theorem Tj(hr:VJ r)(hd:0<=d):∀{l:UV (Int×QE)} {u:Acc} {M:UV (Int×QE)},(∀e∈l,(1<=e.2.Amount/\e.2.Amount<=17179869184)/\0<=e.2.Sent/\e.2.Sent<=65536)->
  0<=u.B.Used->u.B.Used+Ye QE.Amount (l.map Prod.snd)<=4611686018427387904->0<=u.B.Due->u.B.Due+1049*Ye QE.Amount (l.map Prod.snd)<=4611686018427387904->
  Ys (KD (some 0) d 0 0) l ([Kv r t u],[M])=some ([Kv r t<|RJ r d u<|l.map Prod.snd],[CQ r d M l])
 | [],u,M,_,_,_,_,_=>by simp[Ys,RJ,CQ,Ye]
 | e::l,u,M,h,u0,u1,d0,d1=>by
  have he:=h e<|pd ..
  have hs:=Gs (f:=QE.Amount) (l:=l.map Prod.snd) λq hq=>by
   obtain⟨y,hy,rfl⟩:=rG.1 hq;have:=(h y<|bY _ hy).1.1;omega
  simp only[s6,Ye] at u1 d1
  have hdu:=hr.bA (a:=e.2.Amount) (d:=d) (by omega);by_cases hc:ZK r e.2=d
  ·have hb:(ZK r e.2==d)=true:=by simpa using hc
   have step:KD (some 0) d 0 0 e ([Kv r t u],[M])=some ([Kv r t<|Lv r e.2.Amount d u],[Ju M e.1]):=by
    unfold KD;simp only[];rw[Ti hr he.2];have hmo:(Kv r t u).moving=some 0:=rfl;simp only[DO,hb,Nm,IN,hmo,hO,QU,rn];rw[E6 hr (by omega) hd (by omega)<|by omega];rfl
   simp only[Ys,step,DO];have ih:=Tj hr hd (l:=l) (u:=Lv r e.2.Amount d u) (M:=Ju M e.1) (λq hq=>h q<|bY _ hq) (by show 0<=u.B.Used+e.2.Amount;omega) (by show u.B.Used+e.2.Amount+_<=_;omega) (by show 0<=u.B.Due+WY r e.2.Amount d;omega) (by show u.B.Due+WY r e.2.Amount d+_<=_;omega);rw[ih];simp only[RJ,Lv,CQ,s6,pv,hb,Nm,Ye,nr,lg]
  ·have hb:(ZK r e.2==d)=false:=by simpa using hc
   have step:KD (some 0) d 0 0 e ([Kv r t u],[M])=some ([Kv r t u],[M]):=by
    unfold KD;simp only[];rw[Ti hr he.2];simp only[DO,hb,By,RK]
   simp only[Ys,step,DO];have ih:=Tj hr hd (l:=l) (u:=u) (M:=M) (λq hq=>h q<|bY _ hq) u0 (by omega) d0 (by omega);rw[ih];simp only[RJ,CQ,s6,pv,hb,By,RK,nr]
theorem Fw:∀{l M:UV (Int×QE)},(M.map Prod.fst).Nodup->CQ r d M l=M.filter (λe=> !(l.any λy=>ZK r y.2==d&&y.1==e.1))
 | [],M,_=>by
  have:M.filter (λe=> !(([]:UV (Int×QE)).any λy=>ZK r y.2==d&&y.1==e.1))=M:=rX.2 λ_ _=>rfl;rw[this];rfl
 | y::l,M,hn=>by
  unfold CQ;rw[nr];by_cases hc:(ZK r y.2==d)=true
  ·rw[AT hc];have:=Fw (l:=l) (M:=Ju M y.1)<|D1 hn;unfold CQ at this
   rw[this,Wf hn,rp];refine pZ λe _=> ?_;simp only[ld,hc,rM,eJ,lk]
  ·simp only[pQ] at hc
   rw[RW<|by simp[hc]];have:=Fw (l:=l) (M:=M) hn;unfold CQ at this
   rw[this];refine pZ λe _=> ?_;simp only[ld,hc,nj,nC]
theorem yP(hr:VJ r)(hd:0<=d)(h:xL r u){m:UV (Int×QE)}(hm:m.Perm (u.B.Moving.map G7)):CC (KD (some 0) d 0 0) m ([Kv r t u],[m])=some ([Kv r t<|ES r d u [] u.B.Moving],[m.filter λe=> !(ZK r e.2==d)]):=by
 have hn:(m.map Prod.fst).Nodup:=(hm.map Prod.fst).nodup_iff.2<|G6 h.sorted;refine Ob λl' hl' => ?_
 have hsnd:(l'.map Prod.snd).Perm u.B.Moving:=by
  have h1:=(hl'.trans hm).map Prod.snd;have h2:(u.B.Moving.map G7).map Prod.snd=u.B.Moving:=by rw[nY];exact eG _
  rwa[h2] at h1
 have hs:=DJ (f:=QE.Amount) hsnd;have hall:∀e∈l',(1<=e.2.Amount/\e.2.Amount<=17179869184)/\0<=e.2.Sent/\e.2.Sent<=65536:=λe he=>h.mov e.2<|hsnd.mem_iff.1<|pK he;rw[Tj hr hd hall h.used.1 (by rw[hs];exact h.used.2) h.due.1 (by rw[hs];exact h.due.2),Fw hn]
 have e1:m.filter (λe=> !(l'.any λy=>ZK r y.2==d&&y.1==e.1))=m.filter (λe=> !(ZK r e.2==d)):=pZ λe he=>by
  congr 1;rw[nW,px];simp only[T2,rb];constructor
  ·rintro⟨y,hy,h1,h2⟩;have:=NL hn (hl'.mem_iff.1 hy) he h2;rw[<-this];exact h1
  ·intro h1;exact⟨e,hl'.mem_iff.2 he,h1,rfl⟩
 rw[e1];have e2:Ye QE.Amount ((l'.map Prod.snd).filter λp=>ZK r p==d)=Ye QE.Amount (u.B.Moving.filter λp=>ZK r p==d):=DJ<|hsnd.filter _;have e3:Ye (λp=>WY r p.Amount d) ((l'.map Prod.snd).filter λp=>ZK r p==d)=Ye (λp=>WY r p.Amount d) (u.B.Moving.filter λp=>ZK r p==d):=DJ<|hsnd.filter _;simp only[RJ,ES,Kv,e2,e3]
theorem NK(hr:VJ r)(h0:0<=day){R:KM}:∀{ks:UV Int} {u:Acc} {m:UV (Int×QE)},ks.Pairwise (·< ·)->(∀d∈ks,0<=d/\d<=day)->xL r u->(∀p∈u.B.Moving,ZK r p<=day->ZK r p∈ks)->m.Perm (u.B.Moving.map G7)->
  ∃m',Ys (Yv<|some 0) ks ([Kv r t u],[m],R)=some ([Kv r t<|Hw r day u],[m'],R)/\m'.Perm ((Hw r day u).B.Moving.map G7)
 | [],u,m,_,_,h,hk,hm=>by
  have e:=jE (r:=r) (d:=day) (s:=u) λp hp=>by
   have:=hk p hp;simp only[lO,imp_false] at this;omega
  rw[e];exact⟨m,rfl,hm⟩
 | d::ks,u,m,hs,hd,h,hk,hm=>by
  have hs' :=tO.1 hs;have hdd:=hd d<|pd ..
  have hge:∀p∈u.B.Moving,d<=ZK r p:=λp hp=>by
   by_cases hc:ZK r p<=day
   ·rcases y1.1 (hk p hp hc) with e | e
    ·omega
    ·have:=hs'.1 _ e;omega
   ·omega
  have hpm:=yP (t:=t) hr hdd.1 h hm;rw[qH hge] at hpm
  have hmo:(Kv r t u).moving=some 0:=rfl
  have step:Yv (some 0) d ([Kv r t u],[m],R)=some ([Kv r t<|Hw r d u],[m.filter λe=> !(ZK r e.2==d)],R):=by
   unfold Yv;simp only[DO,IN,hmo,hpm]
  have hm2:(m.filter λe=> !(ZK r e.2==d)).Perm ((Hw r d u).B.Moving.map G7):=by
   refine(hm.filter _).trans<|.of_eq ?_;rw[lU];show(u.B.Moving.filter λp=> !(ZK r p==d)).map G7=(u.B.Moving.filter λp=>decide<|d < ZK r p).map G7;congr 1;refine pZ λp hp=> ?_;have:=hge p hp;by_cases e:ZK r p=d
   ·simp[e]
   ·have e2:d < ZK r p:=by omega
    simp[e,e2]
  obtain⟨m',g1,g2⟩:=NK hr h0 (R:=R) hs'.2 (λq hq=>hd q<|bY _ hq) (h.book hr (d:=d)) (λp hp hl=>by
   have hp' :=pa.1 hp;rcases y1.1 (hk p hp'.1 hl) with e | e
   ·have:=hp'.2;simp only[wt] at this;omega
   ·exact e) hm2
  rw[jF hdd.2] at g1 g2
  exact⟨m',by simp only[Ys,step,DO];exact g1,g2⟩
theorem zy(h:HO r n t s)(hday:t<=day)(h0:0<=t)(hd:day<=65536)(hu:u.B.Bonds=s.B.Bonds)(hu2:u.Sums=s.Sums):ZR (K3 day 0<|Kv r t u) (0,[Kv r t u])=some [Kv r t {u with Sums:=λi=>if i < 16 then s.Sums i+s.B.Bonds i*(day - t) else s.Sums i}]:=by
 obtain⟨f,hf,hloop⟩:=HW (body:=K3 day 0<|Kv r t u) (λi (f:Nat->Int)=>((i:Int),[Kv r t {u with Sums:=f}])) (λf=>[Kv r t {u with Sums:=f}]) (λi f=>f=λk=>if k < i then s.Sums k+s.B.Bonds k*(day - t) else s.Sums k) 16
  (λi f hi hf=>by
   have e:Yg 16 ((i:Nat):Int)=some i:=Hl hi;have h1:=h.sums i hi;have h2:=h.bonds i hi;have hfi:f i=s.Sums i:=by rw[hf];simp
   have hm0:0<=s.B.Bonds i*(day - t):=rf h2.1 (by omega);have hm1:s.B.Bonds i*(day - t)<=17179869184*(day - t):=nm h2.2 (by omega);have eb:(Kv r t u).book.Bonds i=s.B.Bonds i:=by show u.B.Bonds i=_;rw[hu]
   have ed:(Kv r t {u with Sums:=f}).day=t:=rfl;have es:(Kv r t {u with Sums:=f}).sums i=s.Sums i:=hfi;refine⟨ZL f i<|s.Sums i+s.B.Bonds i*(day - t),?_,?_⟩
   ·unfold K3;rw[AT (by simp;omega)];simp only[e,DO,QU,eb,IN,ed,es,rn,Ab (by omega:i<=4294967296)];rw[Qp (n:=day - t) (by omega) (by omega),Qp (n:=s.B.Bonds i*(day - t)) (by omega) (by omega),Qp (n:=s.Sums i+s.B.Bonds i*(day - t)) (by omega)<|by omega];rfl
   ·funext k;by_cases hk:k=i
    ·subst hk;rw[WB,AT<|by omega]
    ·rw[XJ hk,hf];by_cases hlt:k < i
     ·simp only[hlt,Nm];rw[AT<|by omega]
     ·simp only[hlt,RK];rw[RW<|by omega])
  (λf hf=>by unfold K3;rw[RW<|by simp]) 16 0 u.Sums rfl (by rw[hu2];funext k;simp)
 have h0' :ZR (K3 day 0<|Kv r t u) (0,[Kv r t u])=some [Kv r t {u with Sums:=f}]:=hloop;rw[h0',hf]
theorem M4(hr:VJ r)(h:HO r n t s)(hn:n<=4096)(h0:0<=t)(hday:t<=day)(hd:day<=65536)(hp:PR r t s A1 A2 A3):∃A1' A2' A3',YO A1 A2 A3 (some 0) day=some (A1',A2',A3')/\PR r day (Wx r t day s) A1' A2' A3' :=by
 obtain⟨m,hm,hmp⟩:=hp.m;obtain⟨kk,rest,hk,hkn,hkg⟩:=hp.k;have hu:=h.pD hn<|by omega
 have hmem:∀e∈m,e.2∈s.B.Moving:=λe he=>by
  obtain⟨q,hq,rfl⟩:=rG.1<|hmp.mem_iff.1 he;exact hq
 have hL:=uH (A3:=A3) (day:=day) hr hp.o hm (by have:=hmp.length_eq;have:=h.mlen;simp at*;omega) λe he=>(hu.mov e.2<|hmem e he).2
 obtain⟨m',hlo,hm'⟩:=NK (t:=t) hr (by omega:0<=day) (R:=A3++[XP r day [] m]) (ks:=u7 r day m) (u:=s) (m:=m) kX (λd hd=>by
   obtain⟨h1,e,he,h2⟩:=yQ.1 hd;have:=(hu.mov e.2<|hmem e he).2;have:=hr.transit;unfold ZK at h2;omega) hu (λp hp hl=>yQ.2 ⟨hl,G7 p,hmp.mem_iff.2<|pK hp,rfl⟩) hmp
 have hsu:=zy h hday h0 hd (u:=Hw r day s) rfl rfl;unfold YO;rw[DO];refine⟨[Kv r day<|Wx r t day s],[m'],A3++[XP r day [] m],ZO hL (ZO (by rw[hp.o,hm];exact hlo) ?_),rfl,⟨m',rfl,hm'⟩,⟨kk,rest++[XP r day [] m],by rw[hk];rfl,hkn,hkg⟩⟩;simp only[DO,IN];refine ZO hsu ?_;simp only[DO,IN,QU,rn];rfl
end
section
open Go.Dec
variable{r:Gm}{n:Nat}{t d:Int}{s s' :Acc}{x:Ev}{p:QE}
abbrev gv:Bk:=ZS.mk (λ_=>0) ([]) 0 0 0 0 0 0 0 0
def wU:(Acc ⊕ Int)×Nat->Bk×Int×Int
 | (.inl a,k)=>(a.B,(k:Int),0)
 | (.inr e,k)=>(gv,(k:Int),e)
theorem wj{e:Int}(h:FP r s x= .inr e):e=4∨e=5∨e=10∨e=11∨e=12:=by
 unfold FP SF Mo CA DS SE kL at h
 repeat' split at h
 all_goals first | (cases h;done) | (simp only[py] at h;subst h;simp)
theorem jo{c:AU}{e:Int}(h:Uk r c x= .inr e):e=1∨e=7∨e=4∨e=5∨e=10∨e=11∨e=12:=by
 unfold Uk at h
 split at h
 ·simp only[py] at h;omega
 ·split at h
  ·simp only[py] at h;omega
  ·split at h
   ·cases h
   ·rename_i e' he;simp only[py] at h
    subst h;have:=wj he;omega
theorem LS(hr:VJ r){day:Int}:∀{l:UV Ev} {n:Nat} {c c' :AU} {k:Nat},HO r n c.day c.acc->0<=c.day->c.day<=day->Bi r day l n c=(.inl c',k)->HO r k c'.day c'.acc/\0<=c'.day/\c'.day<=day/\n<=k/\k<=n+l.length
 | [],n,c,c',k,h,h0,h1,hg=>by
  simp only[Bi,pN,rE] at hg
  obtain⟨rfl,rfl⟩:=hg;exact⟨h,h0,h1,IR _,by simp⟩
 | x::l,n,c,c',k,h,h0,h1,hg=>by
  rw[Bi] at hg
  split at hg
  ·rename_i hx;split at hg
   ·rename_i c1 hs;obtain⟨g1,g2,g3,_⟩:=Ad hr h h0 hs;obtain⟨a1,a2,a3,a4,a5⟩:=LS hr g1 (by omega) (by omega) hg;exact⟨a1,a2,a3,by omega,by simp only[s5];omega⟩
   ·simp only[pN,reduceCtorEq,false_and] at hg
  ·simp only[pN,rE] at hg
   obtain⟨rfl,rfl⟩:=hg;exact⟨h,h0,h1,IR _,by simp⟩
def EI:(AU ⊕ Int)×Nat->(Int×Int×Acc) ⊕ (Bk×Int×Int)
 | (.inl c,k)=>.inl (c.day,(k:Int),c.acc)
 | (.inr e,k)=>.inr (gv,(k:Int),e)
end
section
open Go.Dec
variable{l:UV Ev}
variable{r:Gm}{n:Nat}{t d day:Int}{s:Acc}{x:Ev}{p:QE}{A1:UV QD}{A2:PM}{A3:KM}
abbrev jX:=(UV QD×PM×KM×Ev)->H1 xp
theorem AB:∃D:Nat->jX,UU (some 0)=some D/\∀(x:Ev),XT x=true->∃j,Yg 7 x.Kind=some j/\
  ∀{r:Gm} {n:Nat} {t:Int} {s:Acc} {A1:UV QD} {A2:PM} {A3:KM},VJ r->HO r n t s->n<=4096->0<=t->t<=65536->PR r t s A1 A2 A3->x.Day=t->XV r t (FP r s x) (D j (A1,A2,A3,x)):=by
 refine⟨_,rfl,λx he=> ?_⟩;have ix:∀{k:Nat},k < 7->x.Kind=(k:Int)->Yg 7 x.Kind=some k:=λhk e=>by rw[e];exact Hl hk
 rcases IA he with k | k | k | k | k | k | k
 ·refine⟨0,ix (by omega) k,λhr h hn h0 ht hp hday=> ?_⟩;have:=IJ h hn hp he k;unfold FP;rw[k];exact this
 ·refine⟨1,ix (by omega) k,λhr h hn h0 ht hp hday=> ?_⟩;have:=kA h hp he k;unfold FP;rw[k];exact this
 ·refine⟨2,ix (by omega) k,λhr h hn h0 ht hp hday=> ?_⟩;have:=EA hr h hn h0 hp he k hday;unfold FP;rw[k];exact this
 ·refine⟨3,ix (by omega) k,λhr h hn h0 ht hp hday=> ?_⟩;have:=L9 hr h hn hp he k;unfold FP;rw[k];exact this
 ·refine⟨4,ix (by omega) k,λhr h hn h0 ht hp hday=> ?_⟩;have:=O9 h hn hp he k;unfold FP;rw[k];exact this
 ·refine⟨5,ix (by omega) k,λhr h hn h0 ht hp hday=> ?_⟩;have:=zx hr h hn h0 ht hp he k hday;unfold FP;rw[k];exact this
 ·refine⟨6,ix (by omega) k,λhr h hn h0 ht hp hday=> ?_⟩;have:=j7 h hn hp he k;unfold FP;rw[k];exact this
def xr(r:Gm)(out:(AU ⊕ Int)×Nat)(q:H1 ((Int×UV QD×PM×KM) ⊕ (Zn×Int×Int×H1 Nat))):Prop:=match out with
 | (.inl c,k)=>∃A1 A2 A3,q=some (.inl ((k:Int),A1,A2,A3))/\PR r c.day c.acc A1 A2 A3
 | (.inr e,k)=>q=some (.inr (⟨e⟩,(k:Int),0,some 0))
theorem Rv(hr:VJ r)(hd:day<=65536)(hl:l.length<=4096){D:Nat->jX}(hD:∀(x:Ev),XT x=true->∃j,Yg 7 x.Kind=some j/\
  ∀{r:Gm} {n:Nat} {t:Int} {s:Acc} {A1:UV QD} {A2:PM} {A3:KM},VJ r->HO r n t s->n<=4096->0<=t->t<=65536->PR r t s A1 A2 A3->x.Day=t->XV r t (FP r s x) (D j (A1,A2,A3,x)))
  {r33:H1 Nat×UV QD×PM×KM} (h33:r33.1=some 0):∀(post:UV Ev) (n:Nat) (c:AU) (A1:UV QD) (A2:PM) (A3:KM),l.drop n=post->n<=l.length->HO r n c.day c.acc->0<=c.day->c.day<=day->PR r c.day c.acc A1 A2 A3->
  xr r (Bi r day post n c) (ZR (Z4 l day r33 D) ((n:Int),A1,A2,A3))
 | [],n,c,A1,A2,A3,hp,hn,h,h0,h1,hP=>by
  have e:n=l.length:=by have:=List.drop_eq_nil_iff.1 hp;omega
  have:Z4 l day r33 D ((n:Int),A1,A2,A3)=some (.done<|.inl ((n:Int),A1,A2,A3)):=by
   unfold Z4;rw[RW<|by simp[e]];rfl
  rw[ZI,this];exact⟨A1,A2,A3,rfl,hP⟩
 | x::post,n,c,A1,A2,A3,hp,hn,h,h0,h1,hP=>by
  have hlt:n < l.length:=by
   rcases pJ n l.length with h | h
   ·exact h
   ·rw[pL h] at hp;cases hp
  have hx:l[n]? =some x:=by rw[<-lT,hp];rfl
  have hp' :l.drop (n+1)=post:=by rw[<-List.tail_drop,hp];rfl
  have o1:(A1[0]?)=some (Kv r c.day c.acc):=by rw[hP.o];rfl
  have od:(Kv r c.day c.acc).day=c.day:=rfl;rw[Bi];by_cases hle:x.Day<=day
  ·rw[AT hle];by_cases he:XT x=true
   ·by_cases hlt2:x.Day < c.day
    ·have:Z4 l day r33 D ((n:Int),A1,A2,A3)=some (.done<|.inr (⟨7⟩,(n:Int),0,some 0)):=by
      unfold Z4;rw[AT (by simp;omega)];simp only[KH,hx,DO,hle,pn,Nm,D5,he];rw[Up<|CG 1,h33];have e1:decide (x.Day≥c.day)=false:=by simp;omega
      simp only[DO,o1,od,e1];rw[Ui<|Tb 7]
     have hs:Uk r c x= .inr 7:=by unfold Uk;simp only[he,x7,By,RK,hlt2,Nm]
     rw[ZI,this,hs];rfl
    ·obtain⟨B1,B2,B3,hpass,hPR⟩:=M4 hr h (by omega) h0 (show c.day<=x.Day by omega) (by omega) hP;obtain⟨j,hj,hdo⟩:=hD x he;have hpk:=EG hr h (show c.day<=x.Day by omega);have hdo:=hdo hr hpk (by omega) (by omega) (by omega) hPR rfl
     have hb:Z4 l day r33 D ((n:Int),A1,A2,A3)=Qt (D j (B1,B2,B3,x)) (λq136=>some<|.done<|.inr (q136,(n:Int),0,some 0)) λr_130=>some (.next (((n+1:Nat):Int),r_130.1,r_130.2.1,r_130.2.2)):=by
      unfold Z4;rw[AT (by simp;omega)];simp only[KH,hx,DO,hle,pn,Nm,D5,he];rw[Up<|CG 1,h33];have e1:decide (x.Day≥c.day)=true:=by simp;omega
      simp only[DO,o1,od,e1];rw[Up<|CG 7,hpass];simp only[DO,hj,QU,Ab (by omega:n<=4294967296)]
     have hs:Uk r c x=match FP r (Wx r c.day x.Day c.acc) x with | .inl a=>.inl ⟨a,x.Day⟩ | .inr e=>.inr e:=by unfold Uk;simp only[he,x7,By,RK,hlt2]<;>rfl
     unfold XV at hdo
     cases hq:FP r (Wx r c.day x.Day c.acc) x with
     | inl a=>
      rw[hq] at hdo
      obtain⟨C1,C2,C3,hC,hPC⟩:=hdo;rw[Up hC] at hb
      rw[hq] at hs
      have hs:Uk r c x= .inl ⟨a,x.Day⟩:=hs;obtain⟨g1,g2,g3,_⟩:=Ad hr h h0 hs;rw[ZI,hb,hs];exact Rv hr hd hl hD h33 post (n+1) ⟨a,x.Day⟩ C1 C2 C3 hp' hlt g1 (by omega) hle hPC
     | inr e=>
      rw[hq] at hdo
      rw[Ui hdo] at hb
      rw[hq] at hs
      have hs:Uk r c x= .inr e:=hs;rw[ZI,hb,hs];rfl
   ·simp only[pQ] at he
    have:Z4 l day r33 D ((n:Int),A1,A2,A3)=some (.done<|.inr (⟨1⟩,(n:Int),0,some 0)):=by
     unfold Z4;rw[AT (by simp;omega)];simp only[KH,hx,DO,hle,pn,Nm,D5,he];rw[Ui<|Tb 1,h33]
    have hs:Uk r c x= .inr 1:=by unfold Uk;simp only[he,pG,Nm]
    rw[ZI,this,hs];rfl
  ·have:Z4 l day r33 D ((n:Int),A1,A2,A3)=some (.done<|.inl ((n:Int),A1,A2,A3)):=by
    unfold Z4;rw[AT (by simp;omega)];simp only[KH,hx,DO,hle,po,By,RK]
   rw[ZI,this,RW hle];exact⟨A1,A2,A3,rfl,hP⟩
def E2(r:Gm)(day:Int)(out:(Acc ⊕ Int)×Nat)(q:H1 (H1 Nat×Int×Int×UV QD×PM×KM)):Prop:=match out with
 | (.inl a,k)=>∃A1 A2 A3,q=some (some 0,(k:Int),0,A1,A2,A3)/\PR r day a A1 A2 A3
 | (.inr e,k)=>q=some (none,(k:Int),e,[],[],[])
theorem fC(r:Gm):PR r 0 Bx [Kv r 0 Bx] [[]] [[]]:=⟨rfl,⟨[],rfl,by simp[Bx]⟩,⟨[],[],rfl,by simp,λi=>by simp[Qb,Bx]⟩⟩
theorem HU(hlr:r.Rates.length<=1000000)(hl:l.length<=4096∨4096 < l.length):E2 r day (Yf r l day) (Wg r l day):=by
 unfold Wg Yf;rw[Sn hlr,DO];by_cases h1:Gx r=true
 ·simp only[h1,x7,By,RK];by_cases h2:l.length > 4096
  ·have e2:decide ((l.length:Int) > 4096)=true:=by simp;omega
   rw[AT h2,AT e2];rfl
  ·have e2:¬decide ((l.length:Int) > 4096)=true:=by simp;omega
   rw[RW h2,RW e2];by_cases h3:Wm day 0 65536=true
   ·simp only[Tr,h3,x7,By,RK];have hr:=TW.1 h1;have hd:=Yd.1 h3;obtain⟨D,hD,hDD⟩:=AB;have hno:WN [] [] [] r=some (some 0,[Kv r 0 Bx],[[]],[[]]):=rfl;have hloop:=Rv hr hd.2 (by omega:l.length<=4096) hDD (r33:=(some 0,[Kv r 0 Bx],[[]],[[]])) rfl l 0 NY _ _ _ (mB ..) (mL _) (En r) (by simp[NY]) (by simp[NY];omega)<|fC r;rw[hno,DO,hD,DO];unfold xr at hloop
    unfold Pp;cases hg:Bi r day l 0 NY with
    | mk q k=>
     rw[hg] at hloop
     cases q with
     | inr e=>
      have hloop:ZR (Z4 l day (some 0,[Kv r 0 Bx],[[]],[[]]) D) (0,[Kv r 0 Bx],[[]],[[]])=_:=hloop;rw[hloop];rfl
     | inl c=>
      obtain⟨A1,A2,A3,hq,hP⟩:=hloop;have hq:ZR (Z4 l day (some 0,[Kv r 0 Bx],[[]],[[]]) D) (0,[Kv r 0 Bx],[[]],[[]])=_:=hq;obtain⟨a1,a2,a3,a4,a5⟩:=LS hr (En r) (by simp[NY]) (by simp[NY];omega) hg;obtain⟨B1,B2,B3,hpass,hPR⟩:=M4 hr a1 (by omega) a2 a3 hd.2 hP;rw[hq,DO];exact⟨B1,B2,B3,ZO hpass rfl,hPR⟩
   ·simp only[pQ] at h3
    simp only[Tr,h3,pG,Nm];rfl
 ·simp only[pQ] at h1
  simp only[h1,pG,Nm];rfl
theorem CB{a:Acc}{k:Nat}(h:Yf r l day=(.inl a,k)):VJ r/\HO r k day a/\(0<=day/\day<=65536)/\k<=l.length:=by
 unfold Yf at h
 split at h
 ·simp at h
 ·rename_i h1;split at h
  ·simp at h
  ·split at h
   ·simp at h
   ·rename_i h3;have hr:=TW.1 (by simpa using h1:Gx r=true);have hd:=Yd.1 (by simpa using h3:Wm day 0 65536=true);unfold Pp at h
    split at h
    ·rename_i c k' hg;simp only[pN,rE] at h
     obtain⟨rfl,rfl⟩:=h;obtain⟨a1,a2,a3,a4,a5⟩:=LS hr (En r) (by simp[NY]) (by simp[NY];omega) hg;exact⟨hr,EG hr a1 a3,hd,by omega⟩
    ·simp at h
theorem yW:∀{n:Nat} {c:AU} {e:Int} {k:Nat},Bi r day l n c=(.inr e,k)->(e=1∨e=7∨e=4∨e=5∨e=10∨e=11∨e=12)/\n<=k/\k < n+l.length:=by
 induction l with
 | nil=>intro n c e k h;simp[Bi] at h
 | cons x l ih=>
  intro n c e k h;rw[Bi] at h
  split at h
  ·split at h
   ·have:=ih h;simp only[s5];exact⟨this.1,by omega,by omega⟩
   ·rename_i e' hs;simp only[pN,py] at h
    obtain⟨rfl,rfl⟩:=h;simp only[s5];exact⟨jo hs,by omega,by omega⟩
  ·simp at h
theorem Cx{e:Int}{k:Nat}(h:Yf r l day=(.inr e,k)):e≠0:=by
 unfold Yf at h
 split at h
 ·simp at h;omega
 ·split at h
  ·simp at h;omega
  ·split at h
   ·simp at h;omega
   ·unfold Pp at h
    split at h
    ·simp at h
    ·rename_i e' k' hg;simp only[pN,py] at h
     obtain⟨rfl,rfl⟩:=h;have:=yW hg;omega
end
section
open Go.Dec
variable{l:UV QE}
variable{r:Gm}{n:Nat}{t d day:Int}{s a:Acc}{x:Ev}{p:QE}{l:UV Ev}
theorem Dv:∀{a b:UV Int},a.Pairwise (·< ·)->b.Pairwise (·< ·)->(∀x,x∈a↔x∈b)->a=b
 | [],[],_,_,_=>rfl
 | [],y::b,_,_,h=>by have:=(h y).2 (by simp);simp at this
 | x::a,[],_,_,h=>by have:=(h x).1 (by simp);simp at this
 | x::a,y::b,ha,hb,h=>by
  have ha' :=tO.1 ha;have hb' :=tO.1 hb
  have exy:x=y:=by
   have h1:=(h x).1 (by simp);have h2:=(h y).2 (by simp);rcases y1.1 h1 with e | h1
   ·exact e
   ·rcases y1.1 h2 with e | h2
    ·exact e.symm
    ·have:=hb'.1 x h1;have:=ha'.1 y h2;omega
  subst exy;congr 1;refine Dv ha'.2 hb'.2 λz=> ?_;constructor
  ·intro hz;have:=(h z).1<|bY _ hz;rcases y1.1 this with rfl | this
   ·have:=ha'.1 z hz;omega
   ·exact this
  ·intro hz;have:=(h z).2<|bY _ hz;rcases y1.1 this with rfl | this
   ·have:=hb'.1 z hz;omega
   ·exact this
theorem O0{l:UV QE}(h:l.Pairwise (λp q=>p.Id < q.Id)):(l.map QE.Id).Pairwise (·< ·):=mz.2 h
theorem yT{m:UV (Int×QE)}{l:UV QE}(hs:l.Pairwise (λp q=>p.Id < q.Id))(hm:m.Perm (l.map G7))(hr:∀p∈l,0<=p.Id/\p.Id<=1073741824)(hl:l.length<=1000000):GF m=some (l.map QE.Id):=by
 have hmp:(m.map Prod.fst).Perm (l.map QE.Id):=by
  have:=hm.map Prod.fst;have e:(l.map G7).map Prod.fst=l.map QE.Id:=by rw[nY];rfl
  rwa[e] at this
 unfold GF;rw[AT]
 ·congr 1;have h1:((m.map Prod.fst).mergeSort λa b=>decide<|a<=b).Pairwise (λa b=>decide (a<=b)=true):=ln (λa b c h1 h2=>by simp only[wt] at*;omega) (λa b=>by simp only[rD,wt];omega) _;have hp:=(nu (m.map Prod.fst) λa b=>decide<|a<=b).trans hmp;have hnd:(l.map QE.Id).Nodup:=(O0 hs).imp λh=>eA h;have h2:((m.map Prod.fst).mergeSort λa b=>decide<|a<=b).Nodup:=hp.nodup_iff.2 hnd;exact Dv ((h1.and h2).imp λh=>by have:=h.1;have:=h.2;simp only[wt] at*;omega) (O0 hs) λx=>hp.mem_iff
 ·refine⟨s8.2 λy hy=> ?_,by have:=hm.length_eq;simp at this;omega⟩;obtain⟨q,hq,rfl⟩:=rG.1<|hm.mem_iff.1 hy;have:=hr q hq;exact rB<|show -9223372036854775808<=q.Id/\q.Id<=9223372036854775807 by omega
theorem yc{l:UV QE}(hs:l.Pairwise (λp q=>p.Id < q.Id))(hp:p∈l):l.find? (λq=>q.Id==p.Id)=some p:=by
 cases h:l.find? (λq=>q.Id==p.Id) with
 | none=>have:=List.find?_eq_none.1 h p hp;simp at this
 | some q=>
  have hq:=rZ h;have e:q.Id=p.Id:=by simpa using List.find?_some h
  rw[uL hs hq hp e]
theorem jW{amount:Int}(hlr:r.Rates.length<=1000000):Xa r amount day=some (if !Gx r then(0,1) else if !Wm amount 0 17179869184|| !Wm day 0 65536 then(0,2) else(WY r amount day,0)):=by
 unfold Xa;rw[Sn hlr,DO];simp only[Gk,Tr];by_cases h1:Gx r=true
 ·simp only[h1,x7,By,RK];by_cases h2:(!Wm amount 0 17179869184|| !Wm day 0 65536)=true
  ·rw[AT h2,AT h2]
  ·rw[RW h2,RW h2];simp only[rD,pj,not_or,Bool.not_eq_false] at h2
   have ha:=Yd.1 h2.1;have hd:=Yd.1 h2.2;exact ZO (Tu (TW.1 h1) ha.1 ha.2 hd.1) rfl
 ·simp only[pQ] at h1
  simp only[h1,pG,Nm]
theorem M3{k:Nat}(h:Yf r l day=(.inl a,k)):l.length<=4096:=by
 rcases pJ 4096 l.length with h1 | h1
 ·unfold Yf at h
  split at h
  ·simp at h
  ·simp at h
 ·exact h1
theorem Ol{A1:UV QD}{m:UV (Int×QE)}{k e:Int}{o:H1 Nat}{A3:KM}(hs:a.B.Moving.Pairwise (λp q=>p.Id < q.Id))(hm:m.Perm (a.B.Moving.map G7))(hl:a.B.Moving.length<=1000000):ZR (Vv (o,k,e,A1,[m],A3) (Kv r day a)<|a.B.Moving.map QE.Id) (0,(Kv r day a).book)=some a.B:=by
 obtain⟨b,hb,hloop⟩:=Gi (body:=Vv (o,k,e,A1,[m],A3) (Kv r day a)<|a.B.Moving.map QE.Id) (λi (b:Bk)=>((i:Int),b)) (λb=>b) (λpre b=>b={a.B with Moving:=pre}) a.B.Moving
  (λpre q post b hl' hb=>by
   have hil:pre.length < a.B.Moving.length:=by rw[hl'];simp
   have hx:(a.B.Moving.map QE.Id)[pre.length]? =some q.Id:=by rw[hl'];simp
   have hmo:(Kv r day a).moving=some 0:=rfl;have hq:Qb m q.Id=some q:=by rw[O3 hs hm];exact yc hs (by rw[hl'];simp)
   refine⟨{a.B with Moving:=pre++[q]},?_,rfl⟩;subst hb;unfold Vv;rw[AT (by simp;omega)];simp only[KH,hx,DO,hmo,IN,hq,nO];refine ZO (AO (by simp;omega)) ?_;simp only[QU,Ab (by omega:pre.length<=4294967296)])
  (λb hb=>by
   unfold Vv;rw[RW<|by simp]) a.B.Moving [] {a.B with Moving:=[]} rfl rfl
 have h0:ZR (Vv (o,k,e,A1,[m],A3) (Kv r day a)<|a.B.Moving.map QE.Id) (0,(Kv r day a).book)=some b:=hloop;rw[h0,hb]
theorem SG(hlr:r.Rates.length<=1000000)(hl:l.length<=4096∨4096 < l.length):Wh r l day=some (wU<|Yf r l day):=by
 have hp:=HU (day:=day) hlr hl;unfold E2 at hp
 unfold Wh;cases h:Yf r l day with
 | mk q k=>
  rw[h] at hp
  cases q with
  | inr e=>
   have he:=Cx h;have hp:Wg r l day=some (none,(k:Int),e,[],[],[]):=hp;have hne:(e != 0)=true:=by simpa using he
   rw[hp];simp only[DO,hne,Nm,wU]
  | inl a=>
   obtain⟨A1,A2,A3,hq,hP⟩:=hp;obtain⟨hr,hok,hd,hk⟩:=CB h;obtain⟨m,hm,hmp⟩:=hP.m;have hml:a.B.Moving.length<=1000000:=by have:=M3 h;have:=hok.mlen;omega
   have ho:A1[0]? =some (Kv r day a):=by rw[hP.o];rfl
   have hks:Vl A2 (some 0)=some (a.B.Moving.map QE.Id):=by
    rw[hm];simp only[Vl,IN,DO];exact yT hok.sorted hmp (λp hp=>(hok.mov p hp).id) hml
   rw[hq];simp only[DO,mK,By,RK,ho];have hno:wV (Kv r day a).book.Moving=some ():=rfl;have hmo:(Kv r day a).moving=some 0:=rfl;rw[hno,DO,hmo,hks,DO,hm];exact ZO (Ol hok.sorted hmp hml) rfl
end
section
open Go.Dec
variable{r:Gm}{n:Nat}{t d day:Int}{s a:Acc}{x:Ev}{p:QE}{l:UV Ev}
theorem uW{k:Nat}{b:Acc}(h:HO r k d b)(hk:k<=4096):(0<=b.B.Due/\b.B.Due<=4611686018427387904)/\0<=b.B.Paid/\b.B.Paid<=b.B.Due:=by
 have:=h.pos;have:=h.due;have:=h.lim;omega
end
end Go.Proofs.YtijhfeohbhedkaaGreatDoor.Ex
namespace Go.Proofs.YtijhfeohbhedkaaGreatDoor.Bo
section
open Go.Dec
variable{s:UV QB}{x:QB}
def P8(x:QB)(n:Int):Prop:=x.Lo<=n/\n<=x.Hi
def mem(s:UV QB)(n:Int):Prop:=∃y∈s,P8 y n
structure Wo(s:List QB):Prop where
 ok:∀y∈s,0<=y.Lo/\y.Lo<=y.Hi/\y.Hi<=1099511627776
 apart:s.Pairwise λa b=>a.Hi+1 < b.Lo
theorem C4(n:Int):¬mem [] n:=by simp[mem]
theorem mem_cons(y:QB)(s:UV QB)(n:Int):mem (y::s) n↔P8 y n∨mem s n:=by simp[mem]
theorem mem_append(s t:UV QB)(n:Int):mem (s++t) n↔mem s n∨mem t n:=by
 simp only[mem,rK];constructor
 ·rintro⟨y,h | h,k⟩
  ·exact .inl ⟨y,h,k⟩
  ·exact .inr ⟨y,h,k⟩
 ·rintro(⟨y,h,k⟩ | ⟨y,h,k⟩)
  ·exact⟨y,.inl h,k⟩
  ·exact⟨y,.inr h,k⟩
theorem Wo.nil:Wo []:=⟨by simp,by simp⟩
theorem Wo.tail{y:QB}(h:Wo (y::s)):Wo s:=⟨λz hz=>h.ok z (by simp[hz]),(tO.1 h.apart).2⟩
theorem Wo.cH{y:QB}(h:Wo s)(hy:0<=y.Lo/\y.Lo<=y.Hi/\y.Hi<=1099511627776)(hs:∀z∈s,y.Hi+1 < z.Lo):Wo (y::s):=by
 refine⟨λz hz=> ?_,tO.2 ⟨hs,h.apart⟩⟩;rcases y1.1 hz with rfl | hz
 ·exact hy
 ·exact h.ok z hz
theorem Wo.append{t:UV QB}(h:Wo s)(k:Wo t)(hst:∀a∈s,∀b∈t,a.Hi+1 < b.Lo):Wo (s++t):=by
 refine⟨λz hz=> ?_,me.2 ⟨h.apart,k.apart,hst⟩⟩;rcases rK.1 hz with hz | hz
 ·exact h.ok z hz
 ·exact k.ok z hz
theorem Wo.split{t:UV QB}(h:Wo (s++t)):Wo s/\Wo t/\∀a∈s,∀b∈t,a.Hi+1 < b.Lo:=by
 have:=me.1 h.apart;exact⟨⟨λz hz=>h.ok z (by simp[hz]),this.1⟩,⟨λz hz=>h.ok z (by simp[hz]),this.2.1⟩,this.2.2⟩
theorem Bc(s:UV QB)(f:QB->Bool)(hl:s.length<=1000000):JS s (λx=>some<|f x)=some (match s.findIdx? f with | some i=>(i:Int) | none=> -1):=by
 unfold JS
 have key:=DV (body:=Jr s λx=>some<|f x) (fun(_:Unit) i=>(i:Int)) (λ_ i x=>if f x then some (.done<|.inr (i:Int)) else some (.next ())) (λ_=>.inl ()) s
  (λt i x hx=>by
   have hi:=Zs hx;unfold Jr;simp only[KH,hx,DO];rw[Qp (by omega)<|by omega];simp only[show(decide<|(i:Int) < (s.length:Int))=true by simpa using hi,Nm];cases f x<;>simp[UE.cI])
  (λt=>by unfold Jr;simp) ()
 simp only[pX] at key
 rw[key]
 have gen:∀(l:UV QB) (i:Nat),RA (fun(_:Unit) i x=>if f x then some (.done<|.inr (i:Int)) else some (.next ())) (λ_=>(.inl ():Unit ⊕ Int)) l i ()=some (match l.findIdx? f with | some k=>.inr ((i+k:Nat):Int) | none=>.inl ()):=by
  intro l
  induction l with
  | nil=>intro i;simp[RA]
  | cons x l ih=>
   intro i;simp only[RA,List.findIdx?_cons];cases hf:f x with
   | true=>simp
   | false=>
    simp only[By,RK];rw[ih];cases l.findIdx? f with
    | none=>simp
    | some k=>simp;omega
 rw[gen];cases s.findIdx? f<;>simp
theorem A6(s:UV QB)(f:QB->Bool)(hl:s.length<=1000000):Kr s (λx=>some<|f x)=some (s.any f):=by
 unfold Kr;rw[Bc s f hl];simp only[DO,BY];cases h:s.findIdx? f with
 | none=>
  rw[la] at h
  simp only[show ¬((-1:Int)≥0) by omega,po]
  symm;simpa using h
 | some i=>
  rw[mu] at h
  obtain⟨hi,hf,_⟩:=h;simp only[nx,show(0:Int)<=(i:Int) by omega,pn]
  symm;rw[px];exact⟨_,lP hi,hf⟩
theorem Oe(hl:s.length<=1000000)(hn:Wo s)(hx:x.Lo<=x.Hi):∃b,YS s x=some b/\(b=true↔∃n,P8 x n/\mem s n):=by
 refine⟨_,by unfold YS;rw[A6 s _ hl];rfl,?_⟩;rw[px];simp only[Jo,T2,wt,mem,P8];constructor
 ·rintro⟨y,hy,h1,h2⟩;have:=hn.ok y hy;by_cases h:x.Lo<=y.Lo
  ·exact⟨y.Lo,by omega,y,hy,by omega⟩
  ·exact⟨x.Lo,by omega,y,hy,by omega⟩
 ·rintro⟨n,hn',y,hy,h⟩;exact⟨y,hy,by omega,by omega⟩
theorem NZ(hn:Wo s)(hx:x.Lo<=x.Hi):(∃y∈s,y.Lo<=x.Lo/\x.Hi<=y.Hi)↔∀n,P8 x n->mem s n:=by
 constructor
 ·rintro⟨y,hy,h1,h2⟩ n hn';exact⟨y,hy,by simp only[P8] at hn' ⊢;omega⟩
 ·intro h;obtain⟨y,hy,hm⟩:=h x.Lo ⟨by omega,hx⟩;refine⟨y,hy,hm.1,?_⟩;apply ry;intro hc;simp only[P8] at hm h
  obtain⟨z,hz,hm2⟩:=h (y.Hi+1) ⟨by omega,by omega⟩;simp only[P8] at hm2
  have hpw:=hn.apart;rw[mF] at hpw
  obtain⟨i,hi,ei⟩:=rW hy;obtain⟨j,hj,ej⟩:=rW hz;have oy:=hn.ok y hy;have oz:=hn.ok z hz;rcases mw i j with h' | h' | h'
  ·have:=hpw i j hi hj h';rw[ei,ej] at this;omega
  ·subst h';rw[ei] at ej;subst ej;omega
  ·have:=hpw j i hj hi h';rw[ei,ej] at this;omega
theorem kr(hl:s.length<=1000000)(hn:Wo s)(hx:x.Lo<=x.Hi):∃b,VE s x=some b/\(b=true↔∀n,P8 x n->mem s n):=by
 refine⟨_,by unfold VE;rw[A6 s _ hl];rfl,?_⟩;rw[px,<-NZ hn hx];simp only[YT,T2,wt]
end
section
open Go.Dec
theorem uM(n:Nat)(h:n<=1000000):UG (n:Int)=some []:=by
 unfold UG;have e0:ZA (0 - 0)=0:=by rw[Qp]<;>omega
 simp only[show ¬((n:Int) < 0) by omega,po,By,RK,DO,QU,e0];rw[show((n:Int) - 0)=n by omega,Qp (by omega)<|by omega];by_cases hn:(n:Int) > 0
 ·simp only[hn,pn,Nm];have:LH (n:Int)=some n:=by unfold LH;rw[AT<|by omega];simp
  rw[this];simp[ZW]
 ·simp only[hn,po,By,RK,DO]
theorem kz(ls:UV (UV QB))(h:ls.flatten.length<=1000000)(h2:ls.length<=1000):Vc ls=some ls.flatten:=by
 unfold Vc
 have k1:=DV (body:=Yu ls) (fun(t:Int) i=>(t,(i:Int))) (λt _ x=>if ZA (t+(x.length:Int)) < 0 then none else some (.next<|ZA<|t+(x.length:Int))) (λt=>t) ls
  (λt i x hx=>by
   have hi:=Zs hx;unfold Yu;simp only[KH,hx,DO,QU];rw[Qp (n:=(i:Int)+1) (by omega)<|by omega];simp only[show(decide<|(i:Int) < (ls.length:Int))=true by simpa using hi,Nm];by_cases hc:ZA (t+(x.length:Int)) < 0<;>simp[hc,UE.cI])
  (λt=>by unfold Yu;simp) 0
 have k2:=DV (body:=Yt ls) (fun(t:UV QB) i=>(t,(i:Int))) (λt _ x=>(Jf t x).map .next) (λt=>t) ls
  (λt i x hx=>by
   have hi:=Zs hx;unfold Yt;simp only[KH,hx,DO];rw[Qp (n:=(i:Int)+1) (by omega)<|by omega];simp only[show(decide<|(i:Int) < (ls.length:Int))=true by simpa using hi,Nm];cases Jf t x<;>simp[UE.cI])
  (λt=>by unfold Yt;simp) []
 simp only[pX] at k1 k2
 have g1:∀(l:UV (UV QB)) (i:Nat) (t:Int),0<=t->t+l.flatten.length<=1000000->RA (fun(t:Int) _ (x:UV QB)=>if ZA (t+(x.length:Int)) < 0 then none else some (.next<|ZA<|t+(x.length:Int))) (λt=>t) l i t=some (t+l.flatten.length):=by
  intro l
  induction l with
  | nil=>intro i t h0 h1;simp[RA]
  | cons x l ih=>
   intro i t h0 h1;simp only[eX,pP,nV] at h1
   have e:ZA (t+(x.length:Int))=t+x.length:=Qp (by omega) (by omega);simp only[RA,e,show ¬(t+(x.length:Int) < 0) by omega,RK];rw[ih _ _ (by omega)<|by omega];simp;omega
 have g2:∀(l:UV (UV QB)) (i:Nat) (t:UV QB),t.length+l.flatten.length<=1000000->RA (λt _ x=>(Jf t x).map .next) (λt=>t) l i t=some (t++l.flatten):=by
  intro l
  induction l with
  | nil=>intro i t h0;simp[RA]
  | cons x l ih=>
   intro i t h1;simp only[eX,pP] at h1
   have e:Jf t x=some (t++x):=by unfold Jf;rw[AT<|by omega]
   simp only[RA,e,dO];rw[ih _ _ (by rw[pP];omega)];simp
 rw[k1,g1 ls 0 0 (by omega)<|by omega];simp only[DO,Int.zero_add];rw[uM _ h];simp only[DO];rw[k2,g2 ls 0 []<|by simpa using h];simp
def qD(x:QB):Prop:=0<=x.Lo/\x.Lo<=x.Hi/\x.Hi<=1099511627776
def LF(t:QB)(i:Nat)(y:QB):H1 (UE QB<|Int×QB):=if y.Lo<=t.Hi+1 then some (.next<|QB.mk (Jc t.Lo y.Lo)<|imax t.Hi y.Hi) else some (.done ((i:Int),t))
theorem R9:∀(r:UV QB) (i:Nat) (x:QB),Wo r->qD x->(∀y∈r,x.Lo<=y.Hi+1)->
  ∃r1 r2 x',r=r1++r2/\RA LF (λt=>((i+r.length:Nat),t)) r i x=some (((i+r1.length:Nat):Int),x')/\qD x'/\(∀z∈r2,x'.Hi+1 < z.Lo)/\(∀n,P8 x' n↔P8 x n∨mem r1 n)/\(∀b,b < x.Lo->(∀y∈r,b < y.Lo)->b < x'.Lo)
 | [],i,x,_,hx,_=>⟨[],[],x,rfl,by simp[RA],hx,by simp,λn=>by simp[mem],λb hb _=>hb⟩
 | y::r,i,x,hr,hx,hy=>by
  have oy:=hr.ok y (by simp);have hy0:=hy y (by simp);have hap:=(tO.1 hr.apart).1;by_cases hc:y.Lo<=x.Hi+1
  ·have ox:qD (QB.mk (Jc x.Lo y.Lo)<|imax x.Hi y.Hi):=by
    simp only[qD,Jc,imax] at hx ⊢
    split<;>split<;>omega
   obtain⟨r1,r2,x',e,hg,h1,h2,h3,h4⟩:=R9 r (i+1) (QB.mk (Jc x.Lo y.Lo)<|imax x.Hi y.Hi) hr.tail ox λz hz=>by
    have:=hap z hz;have oz:=hr.ok z (by simp[hz]);have:=hy z (by simp[hz]);show Jc x.Lo y.Lo<=z.Hi+1;simp only[Jc];split<;>omega
   refine⟨y::r1,r2,x',by rw[e];rfl,?_,h1,h2,λn=> ?_,λb hb hbr=> ?_⟩
   ·simp only[RA,LF,hc,Nm];rw[show(i+(y::r).length)=(i+1+r.length) by simp;omega,show(i+(y::r1).length)=(i+1+r1.length) by simp;omega];exact hg
   ·rw[h3 n,mem_cons];simp only[qD] at hx
    simp only[P8,Jc,imax];constructor
    ·rintro(h | h)
     ·by_cases h5:x.Lo<=n/\n<=x.Hi
      ·exact .inl h5
      ·refine .inr<|.inl ?_;split at h<;>split at h<;>omega
     ·exact .inr<|.inr h
    ·rintro(h | h | h)
     ·left;split<;>split<;>omega
     ·left;split<;>split<;>omega
     ·exact .inr h
   ·apply h4
    ·have:=hbr y (by simp);show b < Jc x.Lo y.Lo;simp only[Jc];split<;>omega
    ·exact λz hz=>hbr z<|by simp[hz]
  ·refine⟨[],y::r,x,rfl,?_,hx,λz hz=> ?_,λn=>by simp[mem],λb hb _=>hb⟩
   ·simp only[RA,LF,hc,RK];simp
   ·rcases y1.1 hz with rfl | hz
    ·omega
    ·have:=hap z hz;omega
theorem RH(f:QB->Bool):∀(r:UV QB) (i:Nat),RA (fun(_:Unit) i x=>if f x then some (.next ()) else some (.done (i:Int))) (λ_=>((i+r.length:Nat):Int)) r i ()=some ((i+(r.takeWhile f).length:Nat):Int)
 | [],i=>by simp[RA]
 | x::r,i=>by
  cases hf:f x with
  | true=>
   simp only[RA,hf,Nm,nR,s5];have:=RH f r<|i+1;rw[show i+(r.length+1)=i+1+r.length by omega,show i+((r.takeWhile f).length+1)=i+1+(r.takeWhile f).length by omega];exact this
  | false=>simp[RA,hf]
theorem Me{s:UV QB}{x:QB}(hn:Wo s)(hl:s.length<=1000)(hx:qD x):∃s',Y5 s x=some s'/\Wo s'/\s'.length<=s.length+1/\∀n,mem s' n↔mem s n∨P8 x n:=by
 unfold Y5;have hx' :=hx;simp only[qD] at hx'
 have k1:=DV (body:=VH s x) (fun(_:Unit) i=>(i:Int)) (λ_ i y=>if decide (y.Hi < x.Lo - 1) then some (.next ()) else some (.done (i:Int))) (λ_=>((0+s.length:Nat):Int)) s
  (λt i y hy=>by
   have hi:=Zs hy;unfold VH;simp only[KH,hy,DO,QU];rw[Qp (n:=(i:Int)+1) (by omega) (by omega),Qp (n:=x.Lo - 1) (by omega)<|by omega];simp only[show(decide<|(i:Int) < (s.length:Int))=true by simpa using hi,Nm,DO];by_cases hc:y.Hi < x.Lo - 1<;>simp[hc,UE.cI])
  (λt=>by unfold VH;simp) ()
 simp only[pX] at k1
 rw[k1,RH];simp only[DO,pz];generalize hw:(λy:QB=>decide<|y.Hi < x.Lo - 1)=f;generalize hs1:s.takeWhile f=s1;generalize hs2:s.dropWhile f=s2;have hs:s=s1++s2:=by rw[<-hs1,<-hs2,List.takeWhile_append_dropWhile]
 have hsp:=hs▸hn;obtain⟨n1,n2,n12⟩:=hsp.split
 have h1:∀y∈s1,y.Hi < x.Lo - 1:=by
  intro y hy;rw[<-hs1] at hy
  have:=List.all_takeWhile (p:=f) (l:=s);rw[s8] at this
  have:=this y hy;rw[<-hw] at this
  simpa using this
 have h2:∀y∈s2,x.Lo<=y.Hi+1:=by
  intro y hy;cases h:s2 with
  | nil=>rw[h] at hy;cases hy
  | cons z r=>
   have hz:¬z.Hi < x.Lo - 1:=by
    have:=List.head?_dropWhile_not (p:=f) (l:=s);rw[hs2,h] at this
    simp at this
    rw[<-hw] at this
    simpa using this
   rw[h] at hy n2
   rcases y1.1 hy with rfl | hy
   ·omega
   ·have:=(tO.1 n2.apart).1 y hy;have oy:=n2.ok y (by simp[hy]);have oz:=n2.ok z (by simp);omega
 obtain⟨r1,r2,x',er,hg,hx1,hx2,hx3,hx4⟩:=R9 s2 s1.length x n2 hx h2
 have k2:=Sc (body:=VG s) (fun(t:QB) i=>((i:Int),t)) LF (λt=>(((s1.length+s2.length:Nat):Int),t)) s (λ_ t=>qD t)
  (λt i y hy ot=>by
   have hi:=Zs hy;have oy:qD y:=hn.ok y<|s7 hy;simp only[qD] at ot oy
   unfold VG LF;simp only[KH,hy,DO,QU];rw[Qp (n:=(i:Int)+1) (by omega) (by omega),Qp (n:=t.Hi+1) (by omega)<|by omega];simp only[show(decide<|(i:Int) < (s.length:Int))=true by simpa using hi,Nm,DO];by_cases hc:y.Lo<=t.Hi+1<;>simp[hc,UE.cI])
  (λt i y t' hy ot h=>by
   have oy:qD y:=hn.ok y<|s7 hy;unfold LF at h
   split at h
   ·simp only[BY,UE.next.injEq] at h
    subst h;simp only[qD,Jc,imax] at ot oy ⊢
    split<;>split<;>omega
   ·simp at h)
  (λt _=>by unfold VG;rw[hs];simp) s2.length s1.length x (by rw[hs];simp) hx
 have hd:s.drop s1.length=s2:=by rw[hs];simp
 rw[k2,hd,hg];simp only[DO];have hlen:s.length=s1.length+r1.length+r2.length:=by rw[hs,er];simp;omega
 have e1:ZW s 0 (s1.length:Int)=some s1:=by
  unfold ZW;rw[AT<|by omega];rw[hs];simp
 have e2:ZW s ((s1.length+r1.length:Nat):Int) (s.length:Int)=some r2:=by
  unfold ZW;rw[AT<|by omega];simp only[ph];rw[hs,er];congr 1;rw[<-lI,nF<|by simp];rw[nc (by simp),rY];apply s4;simp only[pP];omega
 rw[e1,e2];simp only[DO];rw[kz _ (by simp;omega)<|by simp];refine⟨s1++x' ::r2,by simp,?_,by simp;omega,λn=> ?_⟩
 ·rw[er] at n2 n12
  obtain⟨m1,m2,m12⟩:=n2.split;refine n1.append (m2.cH hx1 hx2) λa ha b hb=> ?_;rcases y1.1 hb with rfl | hb
  ·have oa:=n1.ok a ha;apply hx4
   ·have:=h1 a ha;omega
   ·intro y hy;rw[er] at hy
    exact n12 a ha y hy
  ·exact n12 a ha b<|by simp[hb]
 ·rw[mem_append,mem_cons,hx3,hs,er,mem_append,mem_append];constructor
  ·rintro(h | (h | h) | h)
   ·exact .inl<|.inl h
   ·exact .inr h
   ·exact .inl<|.inr<|.inl h
   ·exact .inl<|.inr<|.inr h
  ·rintro((h | h | h) | h)
   ·exact .inl h
   ·exact .inr<|.inl<|.inr h
   ·exact .inr<|.inr h
   ·exact .inr<|.inl<|.inl h
end
end Go.Proofs.YtijhfeohbhedkaaGreatDoor.Bo
end
