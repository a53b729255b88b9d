/- OfficeAgain is true whatever its inputs are: no condition but the row's own. -/
import Derived.Test.YtijhfeohbhedkaaGreatDoorPp9
import Derived.Test.YtijhfeohbhedkaaGreatDoorTie
import Derived.Test.YtijhfeohbhedkaaGreatDoorCards
import Derived.ChangeMaps5
noncomputable section
namespace Go.Dec
abbrev nQ:=@beq_eq_false_iff_ne
abbrev mC:=@Int.tmod_eq_emod_of_nonneg
abbrev mU:=@List.all_nil
abbrev mW:=@Int.natCast_one
abbrev mc:=@Nat.pow_le_pow_right
abbrev lW:=@bne_iff_ne
abbrev lY:=@MakeChecks.laidMetH_plain
abbrev lz:=@Nat.pow_succ
abbrev eD:=@or_false
abbrev eZ:=@Decidable.not_not
end Go.Dec
namespace Go.Proofs.YtijhfeohbhedkaaGreatDoor.Bo
section
open Go.Dec
theorem Dt{α:Type}{l k:UV α}(h:l.length+k.length<=4294967296):Jf l k=some (l++k):=by
 unfold Jf;rw[AT h]
theorem y7{α:Type}(x:α):Jf [] [x]=some [x]:=by
 unfold Jf;rw[AT<|by simp];rfl
theorem yF{n:Int}(h0:0<=n)(h:n<=4294967296):wX 0 n=some 0:=by
 unfold wX;rw[AT<|by omega];simp only[mf]
theorem Ls{s:UV QB}{x:QB}(hn:Wo s)(hl:s.length<=1000)(hx:qD x)(hc:∀n,P8 x n->mem s n):∃s',Yo s x=some s'/\Wo s'/\s'.length<=s.length+1/\∀n,mem s' n↔mem s n/\¬P8 x n:=by
 unfold Yo;have hx' :=hx;simp only[qD] at hx'
 obtain⟨y0,hy0,hy1⟩:=(NZ hn hx'.2.1).2 hc;generalize hf:(λy=>KG y x)=f;rw[show(λz=>some<|KG z x)=λz=>some (f z) by rw[<-hf]];rw[Bc s f<|by omega]
 have hex:∃i,s.findIdx? f=some i:=by
  cases h:s.findIdx? f with
  | some i=>exact⟨i,rfl⟩
  | none=>
   rw[la] at h
   have:=h y0 hy0;rw[<-hf] at this
   simp[KG] at this
   omega
 obtain⟨i,hi⟩:=hex;rw[hi];rw[mu] at hi
 obtain⟨hlt,hfi,_⟩:=hi;generalize hy:s[i]=y at hfi
 have hcov:y.Lo<=x.Lo/\x.Hi<=y.Hi:=by
  rw[<-hf] at hfi;simpa[KG] using hfi
 have hs:s=s.take i++y::s.drop (i+1):=by
  rw[<-hy,<-pM hlt,rr]
 have hget:s[i]? =some y:=by rw[<-hy];exact Rw hlt
 have oy:=hn.ok y<|s7 hget;simp only[DO,KH,hget];rw[Qp (n:=x.Lo - 1) (by omega) (by omega),Qp (n:=x.Hi+1) (by omega) (by omega),Qp (n:=(s.length:Int)+1) (by omega) (by omega),Qp (n:=(i:Int)+1) (by omega)<|by omega];have hm:wX 0 ((s.length:Int)+1)=some 0:=yF (by omega) (by omega);have hs0:ZW s 0 (i:Int)=some (s.take i):=by unfold ZW;rw[AT<|by omega];simp
 have hs1:ZW s ((i:Int)+1) (s.length:Int)=some (s.drop<|i+1):=by
  unfold ZW;rw[AT<|by omega];rw[show((i:Int)+1).toNat=i+1 by omega,s4<|by simp]
 have ht:(s.take i).length=i:=by simp;omega
 have hdl:(s.drop<|i+1).length=s.length - (i+1):=by simp
 generalize hta:s.take i=a at*
 generalize htb:s.drop (i+1)=b at*
 obtain⟨na,nyb,nab⟩:=(hs▸hn:Wo (a++y::b)).split;have nb:=nyb.tail;have yb:=(tO.1 nyb.apart).1;generalize hl1:(if x.Hi < y.Hi then[QB.mk (x.Hi+1) y.Hi] else[])=pr;generalize hl2:(if y.Lo < x.Lo then[QB.mk y.Lo<|x.Lo - 1] else[])=pl
 have run:((if decide (y.Lo < x.Lo)=true then(some y).bind λx46=>(Jf [] [QB.mk x46.Lo<|x.Lo - 1]).bind λl_62=>some l_62 else some []):H1 (UV QB))=some pl:=by
  rw[<-hl2];by_cases h:y.Lo < x.Lo
  ·simp only[h,pn,Nm,DO,y7]
  ·simp[h]
 have hpl:pl.length<=1:=by rw[<-hl2];split<;>simp
 have hpr:pr.length<=1:=by rw[<-hl1];split<;>simp
 have run2:((if decide (x.Hi < y.Hi)=true then(some y).bind λx140=>(Jf pl [QB.mk (x.Hi+1) x140.Hi]).bind λl_156=>some l_156 else some pl):H1 (UV QB))=some (pl++pr):=by
  rw[<-hl1];by_cases h:x.Hi < y.Hi
  ·simp only[h,pn,Nm,DO];rw[Dt (by simp only[s5,pO];omega)];simp only[DO]
  ·simp[h]
 simp only[DO] at run run2
 suffices hrun:∀z,z=a++(pl++pr)++b->∃s',some z=some s'/\Wo s'/\s'.length<=s.length+1/\∀n,mem s' n↔mem s n/\¬P8 x n by
  refine Exists.imp (λs' h=>⟨Eq.trans ?_ h.1,h.2⟩)<|hrun _ rfl;refine ZO run<|ZO run2<|ZO hm<|ZO hs0<|ZO (a:=a) ?_<|ZO (a:=a++(pl++pr)) ?_<|ZO hs1<|ZO (a:=a++(pl++pr)++b) ?_ rfl
  ·rw[List.replicate_zero,Dt (by simp only[pO];omega)];rfl
  ·exact Dt (by simp only[pP];omega)
  ·exact Dt (by simp only[pP];omega)
 intro z hz;subst hz
 have mpl:∀n,mem pl n↔y.Lo<=n/\n < x.Lo:=by
  intro n;rw[<-hl2];split
  ·simp only[mem_cons,C4,eD,P8];omega
  ·simp only[C4,false_iff];omega
 have mpr:∀n,mem pr n↔x.Hi < n/\n<=y.Hi:=by
  intro n;rw[<-hl1];split
  ·simp only[mem_cons,C4,eD,P8];omega
  ·simp only[C4,false_iff];omega
 have npl:Wo pl:=by
  rw[<-hl2];split
  ·exact Wo.nil.cH (by simp only;omega)<|by simp
  ·exact Wo.nil
 have npr:Wo pr:=by
  rw[<-hl1];split
  ·exact Wo.nil.cH (by simp only;omega)<|by simp
  ·exact Wo.nil
 have bpl:∀z∈pl,z.Lo=y.Lo/\z.Hi=x.Lo - 1:=by
  intro z hz;rw[<-hl2] at hz;split at hz
  ·simp at hz;subst hz;simp
  ·simp at hz
 have bpr:∀z∈pr,z.Lo=x.Hi+1/\z.Hi=y.Hi:=by
  intro z hz;rw[<-hl1] at hz;split at hz
  ·simp at hz;subst hz;simp
  ·simp at hz
 refine⟨_,rfl,?_,?_,λn=> ?_⟩
 ·refine((na.append (npl.append npr ?_) ?_).append nb ?_)
  ·intro p hp q hq;have:=bpl p hp;have:=bpr q hq;omega
  ·intro p hp q hq;have h1:=nab p hp y (by simp);rcases rK.1 hq with hq | hq
   ·have:=bpl q hq;omega
   ·have:=bpr q hq;omega
  ·intro p hp q hq;have h1:=yb q hq;rcases rK.1 hp with hp | hp
   ·exact nab p hp q<|by simp[hq]
   ·rcases rK.1 hp with hp | hp
    ·have:=bpl p hp;omega
    ·have:=bpr p hp;omega
 ·simp only[pP];omega
 ·rw[mem_append,mem_append,mem_append,mpl,mpr,hs,mem_append,mem_cons];simp only[P8];constructor
  ·rintro((h | h | h) | h)
   ·refine⟨.inl h,?_⟩;obtain⟨z,hz,hm⟩:=h;have:=nab z hz y (by simp);simp only[P8] at hm;omega
   ·exact⟨.inr (.inl<|by omega),by omega⟩
   ·exact⟨.inr (.inl<|by omega),by omega⟩
   ·refine⟨.inr<|.inr h,?_⟩;obtain⟨z,hz,hm⟩:=h;have:=yb z hz;simp only[P8] at hm;omega
  ·rintro⟨h | h | h,hno⟩
   ·exact .inl<|.inl h
   ·by_cases hlt:n < x.Lo
    ·exact .inl<|.inr<|.inl ⟨h.1,hlt⟩
    ·exact .inl<|.inr<|.inr ⟨by omega,h.2⟩
   ·exact .inr h
def has(e:QH)(n:Int):Prop:=e.First<=n/\n<=e.Last
instance(e:QH) (n:Int):Decidable (has e n):=by unfold has;infer_instance
def cur:UV QH->Int->H1 QH:=λl n=>l.foldl (λo e=>if has e n then some e else o) none
def hand(l:UV QH)(n:Int):Prop:=∃e,cur l n=some e/\e.Kind=0
theorem ze(n:Int):cur [] n=none:=rfl
theorem De(l:UV QH)(e:QH)(n:Int):cur (l++[e]) n=if has e n then some e else cur l n:=by simp[cur]
theorem LQ(l:UV QH)(e:QH)(n:Int):hand (l++[e]) n↔if has e n then e.Kind=0 else hand l n:=by
 unfold hand;rw[De];split<;>simp
def uA(x:QH):Bool:=UC x
theorem zG(x:QH):uA x=true↔(0<=x.Kind/\x.Kind<=3)/\(x.Kind=1->0<=x.Batch/\x.Batch<=1073741824)/\0<=x.First/\x.First<=x.Last/\x.Last<=1099511627776:=by
 simp only[uA,UC,QV,KU,T2,rD,wt,lW,ne_eq];constructor
 ·rintro⟨⟨h1,h2⟩,h3⟩;refine⟨by omega,λh=> ?_,by omega⟩;rcases h2 with h2 | h2
  ·exact absurd h h2
  ·omega
 ·rintro⟨h1,h2,h3⟩;refine⟨⟨by omega,?_⟩,by omega⟩;by_cases h:x.Kind=1
  ·right;have:=h2 h;omega
  ·left;exact h
open Classical in
def Vp(pre:UV QH)(x:QH):Int:=if uA x=false then 1 else if x.Kind=0/\∃n,has x n/\cur pre n≠none then 5 else if x.Kind≠0/\∃n,has x n/\¬hand pre n then 4 else 0
structure Inv(pre:List QH)(t:Q3×US×Int):Prop where
 ni:Wo t.2.1.issued
 nh:Wo t.2.1.hand
 li:t.2.1.issued.length<=pre.length
 lh:t.2.1.hand.length<=pre.length
 mi:∀n,mem t.2.1.issued n↔cur pre n≠none
 mh:∀n,mem t.2.1.hand n↔hand pre n
def amount(x:QH):Int:=ZA<|ZA (x.Last - x.First)+1
def jI(b:Q3)(x:QH):Q3:=if x.Kind=1 then{b with Stuck:=ZA (b.Stuck+amount x)} else if x.Kind=2 then{b with Spoiled:=ZA (b.Spoiled+amount x)} else if x.Kind=3 then{b with Returned:=ZA (b.Returned+amount x)} else b
def Is:UV QH->Q3:=λl=>l.foldl jI<|Q3.mk [] 0 0 0
theorem Cv(l:UV QH)(x:QH):Is (l++[x])=jI (Is l) x:=by simp[Is]
theorem OD{l pre post:UV QH}{x:QH}{t:Q3×US×Int}(hl:l=pre++x::post)(h256:l.length<=256)(hI:Inv pre t)(hB:t.1=Is pre):(Vp pre x≠0/\Yz l ((pre.length:Int),t)=some (.done<|.inr (Q3.mk [] 0 0 0,(pre.length:Int),Vp pre x)))∨
  (Vp pre x=0/\∃t',Yz l ((pre.length:Int),t)=some (.next (((pre.length+1:Nat):Int),t'))/\Inv (pre++[x]) t'/\t'.1=Is (pre++[x])):=by
 have hget:l[pre.length]? =some x:=by rw[hl];simp
 have hlen:pre.length < l.length:=by rw[hl];simp
 unfold Yz;simp only[KH,hget,DO,show(decide<|(pre.length:Int) < (l.length:Int))=true by simpa using hlen,Nm];by_cases hok:uA x=true
 ·have hok' :UC x=true:=hok;obtain⟨hk,_,hx0,hx1,hx2⟩:=(zG x).1 hok;have hxs:qD (QB.mk x.First x.Last):=⟨hx0,hx1,hx2⟩;have hin:∀n,P8 (QB.mk x.First x.Last) n↔has x n:=λn=>eY;have l1:=hI.li;have l2:=hI.lh;simp only[hok',x7,By,RK];rw[Qp (n:=(pre.length:Int)+1) (by omega)<|by omega];by_cases hk0:x.Kind=0
  ·
    obtain⟨bo,ho,hb⟩:=Oe (s:=t.2.1.issued) (x:=QB.mk x.First x.Last) (by omega) hI.ni hx1;simp only[hk0,rk,Nm,ho,DO];cases hbo:bo with
    | true=>
     left
     have:Vp pre x=5:=by
      unfold Vp;rw[RW (by simp[hok]),AT];refine⟨hk0,?_⟩;obtain⟨n,h1,h2⟩:=hb.1 hbo;exact⟨n,h1,(hI.mi n).1 h2⟩
     rw[this];simp
    | false=>
     right;have hno:¬∃n,P8 (QB.mk x.First x.Last) n/\mem t.2.1.issued n:=λh=>by have:=hb.2 h;rw[hbo] at this;cases this
     have herr:Vp pre x=0:=by
      unfold Vp;rw[RW (by simp[hok]),RW,RW<|by simp[hk0]];rintro⟨_,n,h1,h2⟩;exact hno ⟨n,h1,(hI.mi n).2 h2⟩
     obtain⟨s1,e1,n1,qL,m1⟩:=Me hI.ni (by omega) hxs;obtain⟨s2,e2,n2,qK,m2⟩:=Me hI.nh (by omega) hxs;simp only[By,RK,e1,e2,DO,QU];refine⟨herr,_,rfl,⟨n1,n2,by simp;omega,by simp;omega,λn=> ?_,λn=> ?_⟩,?_⟩
     ·rw[m1,De,hI.mi,hin];split<;>simp_all
     ·rw[m2,LQ,hI.mh,hin];split<;>simp_all
     ·rw[Cv];simp only[jI,hk0];simpa using hB
  ·
    have hkb:(x.Kind==0)=false:=by simpa using hk0
    simp only[hkb,By,RK,DO];obtain⟨bo,ho,hb⟩:=kr (s:=t.2.1.hand) (x:=QB.mk x.First x.Last) (by omega) hI.nh hx1;simp only[ho,DO];cases hbo:bo with
    | false=>
     left;have hno:¬∀n,P8 (QB.mk x.First x.Last) n->mem t.2.1.hand n:=λh=>by have:=hb.2 h;rw[hbo] at this;cases this
     have:Vp pre x=4:=by
      unfold Vp;rw[RW (by simp[hok]),RW (by simp[hk0]),AT];refine⟨hk0,?_⟩;obtain⟨n,hn⟩:=Classical.not_forall.1 hno;obtain⟨h1,h2⟩:=Classical.not_imp.1 hn;exact⟨n,h1,λh3=>h2<|(hI.mh n).2 h3⟩
     rw[this];simp
    | true=>
     right;have hall:=hb.1 hbo
     have herr:Vp pre x=0:=by
      unfold Vp;rw[RW (by simp[hok]),RW (by simp[hk0]),RW];rintro⟨_,n,h1,h2⟩;exact h2<|(hI.mh n).1<|hall n h1
     obtain⟨s2,e2,n2,qK,m2⟩:=Ls hI.nh (by omega) hxs hall;simp only[x7,By,RK,e2,DO,QU]
     have hcur:∀n,has x n->cur pre n≠none:=λn h=>by
      have:=(hI.mh n).1<|hall n h;obtain⟨e,he,_⟩:=this;rw[he];simp
     have inv' :∀(b:Q3) (z:Int),Inv (pre++[x]) (b,{t.2.1 with hand:=s2},z):=λb z=>by
      refine⟨hI.ni,n2,by simp;omega,by simp;omega,λn=> ?_,λn=> ?_⟩
      ·show mem t.2.1.issued n↔_;rw[De,hI.mi];split
       ·rename_i h;simp[hcur n h]
       ·rfl
      ·show mem s2 n↔_;rw[m2,LQ,hI.mh,hin];split
       ·rename_i h;simp[h,hk0]
       ·rename_i h;simp[h]
     have hcase:x.Kind=1∨x.Kind=2∨x.Kind=3:=by omega
     rcases hcase with hk1 | hk1 | hk1
     ·simp only[hk1,show Yg 4 1=some 1 from rfl,DO,show((1:Nat)==0)=false from rfl,By,RK,rk,Nm];exact⟨herr,_,rfl,inv' _ _,by rw[Cv,<-hB];simp[jI,hk1,amount]⟩
     ·simp only[hk1,show Yg 4 2=some 2 from rfl,DO,show((2:Nat)==0)=false from rfl,show((2:Nat)==1)=false from rfl,By,RK,rk,Nm];exact⟨herr,_,rfl,inv' _ _,by rw[Cv,<-hB];simp[jI,hk1,amount]⟩
     ·simp only[hk1,show Yg 4 3=some 3 from rfl,DO,show((3:Nat)==0)=false from rfl,show((3:Nat)==1)=false from rfl,show((3:Nat)==2)=false from rfl,By,RK];exact⟨herr,_,rfl,inv' _ _,by rw[Cv,<-hB];simp[jI,hk1,amount]⟩
 ·left;have hok' :UC x=false:=by simpa[uA] using hok
  have:Vp pre x=1:=by unfold Vp;rw[AT<|by simpa using hok]
  rw[this];simp[hok']
end
section
open Go.Dec
variable{l:UV QH}
def qG:Q3:=Q3.mk [] 0 0 0
theorem PQ(l:UV QH)(h:l.length<=256):(∃p x,Cu Vp l p x/\YE l=some (qG,(p.length:Int),Vp p x))∨
  (WL Vp l/\∃hd,Wo hd/\(∀n,mem hd n↔hand l n)/\hd.length<=l.length/\YE l=some ({Is l with Hand:=hd},(l.length:Int),0)):=by
 unfold YE;simp only[show ¬((l.length:Int) > 256) by omega,po,By,RK]
 have key:=GX (body:=Yz l) (λi (t:Q3×US×Int)=>((i:Int),t)) Vp (λi e=>.inr (qG,(i:Int),e)) (λt=>.inl (t.1,t.2.1,t.2.2)) (λpre t=>Inv pre t/\t.1=Is pre) l
  (λpre x post t hl _ ht=>by
   rcases OD hl h ht.1 ht.2 with⟨h1,h2⟩ | ⟨h1,t',h2,h3,h4⟩
   ·exact .inl ⟨h1,h2⟩
   ·exact .inr ⟨h1,t',h2,h3,h4⟩)
  (λt _ _=>by unfold Yz;simp)
  l [] (qG,US.mk [] [],0) rfl WL.nil ⟨⟨Wo.nil,Wo.nil,by simp,by simp,λn=>by simp[C4,ze],λn=>by simp[C4,hand,ze]⟩,rfl⟩
 simp only[pO,pX] at key
 rcases key with⟨p,x,hb,hr⟩ | ⟨ho,t,⟨hI,hB⟩,hr⟩
 ·refine .inl ⟨p,x,hb,?_⟩;refine ZO hr ?_;rfl
 ·refine .inr ⟨ho,t.2.1.hand,hI.nh,hI.mh,hI.lh,?_⟩;refine ZO hr ?_
  have hc:V0 t.2.1.hand=some t.2.1.hand:=by
   unfold V0;have:=hI.lh;rw[Dt (by simp only[pO];omega)];simp
  simp only[hc,DO,QU,hB]
theorem IB{pre:UV QH}{x:QH}(h:Vp pre x=0):uA x=true/\(x.Kind=0->∀n,has x n->cur pre n=none)/\(x.Kind≠0->∀n,has x n->hand pre n):=by
 unfold Vp at h
 split at h
 ·cases h
 ·rename_i h1;split at h
  ·cases h
  ·rename_i h2;split at h
   ·cases h
   ·rename_i h3;refine⟨by simpa using h1,λhk n hn=> ?_,λhk n hn=> ?_⟩
    ·apply ry;exact λhc=>h2 ⟨hk,n,hn,hc⟩
    ·apply ry;exact λhc=>h3 ⟨hk,n,hn,hc⟩
theorem v8{x:QH}(h:WL Vp (l++[x])):Vp l x=0:=h l x [] rfl
theorem E5(n:Int)(l:UV QH):WL Vp l->l.find? (λe=>decide<|e.Kind=1/\has e n)=(cur l n).filter (λe=>decide<|e.Kind=1):=by
 induction l using DM with
 | h0=>intro _;rfl
 | hs l x ih=>
  intro h;have ih:=ih h.init;obtain⟨_,h0,h1⟩:=IB<|v8 h;rw[List.find?_append,De,ih];by_cases hn:has x n
  ·by_cases hk:x.Kind=0
   ·simp[h0 hk n hn,hn,hk,Option.filter]
   ·obtain⟨e,he,hek⟩:=h1 hk n hn;rw[he];by_cases hk1:x.Kind=1
    ·simp[hek,hn,hk1,Option.filter]
    ·simp[hek,hn,hk1,Option.filter]
  ·simp[hn]
def Mf(l:UV QH)(n:Int):Int×Int:=match(cur l n).filter (λe=>decide<|e.Kind=1) with | some e=>(e.Batch,0) | none=>(0,4)
theorem Il(l:UV QH)(n:Int)(h:l.length<=256):ZR (UD l n) 0=some (match l.find? (λe=>decide<|e.Kind=1/\has e n) with | some e=>.inr (e.Batch,0) | none=>.inl ()):=by
 have key:=DV (body:=UD l n) (fun(_:Unit) i=>(i:Int)) (λ_ _ x=>if decide (x.Kind=1/\has x n) then some (.done<|.inr (x.Batch,0)) else some (.next ())) (λ_=>.inl ()) l
  (λt i x hx=>by
   have hi:=Zs hx;unfold UD;simp only[KH,hx,DO];rw[Qp (by omega)<|by omega];simp only[show(decide<|(i:Int) < (l.length:Int))=true by simpa using hi,Nm]
   have e:(x.Kind==1&&QV n x.First x.Last)=decide (x.Kind=1/\has x n):=by
    rw[nW,decide_eq_true_iff];simp only[T2,rb,QV,wt,nx];exact eY
   rw[e];by_cases hc:x.Kind=1/\has x n<;>simp[hc,UE.cI])
  (λt=>by unfold UD;simp) ()
 simp only[pX] at key
 rw[key]
 clear key h
 generalize 0=i
 induction l generalizing i with
 | nil=>rfl
 | cons x l ih=>
  simp only[RA,ri];by_cases hc:x.Kind=1/\has x n
  ·simp[hc]
  ·simp only[hc,po,By,RK];exact ih<|i+1
theorem Ik(n:Int)(h:l.length<=256)(ho:WL Vp l):Vg l n=some (Mf l n):=by
 unfold Vg;rcases PQ l h with⟨p,x,hb,_⟩ | ⟨_,hd,_,_,_,hr⟩
 ·exact absurd ho hb.a7
 ·refine ZO hr ?_;simp only[mK,By,RK];rw[Il l n h,E5 n l ho];unfold Mf;cases(cur l n).filter (λe=>decide<|e.Kind=1)<;>simp
theorem zu(n:Int){b:Q3}{i e:Int}(h:YE l=some (b,i,e))(he:e≠0):Vg l n=some (0,e):=by
 unfold Vg;refine ZO h ?_;simp only[show(e != 0)=true by simpa using he,Nm]
end
section
open Go.Dec
theorem RC(x:Int):ZG x=true↔0<=x/\x<=65536:=by
 simp only[ZG,QV,T2,wt,nx]
theorem Mk(p:Int)(hp:0<=p):∀l:UV Int,(∀x∈l,0<=x/\x<=p)->0<=l.sum/\l.sum<=p*l.length
 | [],_=>by simp
 | x::l,h=>by
  have h1:=h x (by simp);have h2:=Mk p hp l λy hy=>h y (by simp[hy]);rw[List.sum_cons,s5,nV,eI];simp only[mW,Int.mul_one];omega
theorem jm(l:UV Int)(hl:l.length<=1000):XM l=some (if l.all ZG then(l.sum,true) else(0,false)):=by
 unfold XM
 have key:=GX (body:=XG l) (λi (t:Int)=>(t,(i:Int))) (λ_ x=>if ZG x then 0 else 1) (λ_ _=>.inr (0,false)) (λt=>.inl t) (λpre t=>t=pre.sum) l
  (λpre x post t hl' ho ht=>by
   have hg:=Wi hl';have hi:=G5 hl';unfold XG;simp only[KH,hg,DO,QU];rw[Qp (n:=(pre.length:Int)+1) (by omega)<|by omega];simp only[show(decide<|(pre.length:Int) < (l.length:Int))=true by simpa using hi,Nm];cases hx:ZG x with
   | false=>left;simp
   | true=>
    right;have hx' :=(RC x).1 hx
    have hall:∀y∈pre,0<=y/\y<=65536:=by
     intro y hy;obtain⟨s,r,rfl⟩:=rq hy;have:=ho s y r rfl;cases hd:ZG y with
     | true=>exact(RC y).1 hd
     | false=>simp[hd] at this
    have hb:=Mk 65536 (by omega) pre hall;refine⟨by simp,t+x,?_,by rw[ht];simp⟩;simp only[x7,By,RK];rw[Qp (by omega)<|by omega];simp)
  (λt _ _=>by unfold XG;simp) l [] 0 rfl WL.nil rfl
 simp only[pO,pX] at key
 rcases key with⟨p,x,⟨post,e,_,hx⟩,hr⟩ | ⟨ho,t,ht,hr⟩
 ·have:l.all ZG=false:=by
   rw[e,rz,rL];cases hd:ZG x with
   | true=>simp[hd] at hx
   | false=>simp
  rw[this];exact ZO hr rfl
 ·have:l.all ZG=true:=by
   rw[s8];intro y hy;obtain⟨s,r,rfl⟩:=rq hy;have:=ho s y r rfl;cases hd:ZG y with
   | true=>rfl
   | false=>simp[hd] at this
  rw[this];exact ZO hr (by rw[ht];rfl)
def vU(d:Qn):Bool:=
 (FK 8 d.From.Woods).all ZG&&(FK 8 d.From.Places).all ZG&&ZG d.From.Age&&decide (d.From.Age≥imax (FK 8 d.From.Woods).sum (FK 8 d.From.Places).sum)&&
 QV d.From.Number 0 1073741824&&QV d.Amount 1 1073741824&&KU d.Strength 10000
structure xt(d:Qn):Prop where
 woods:∀i,i < 8->0<=d.From.Woods i/\d.From.Woods i<=65536
 places:∀i,i < 8->0<=d.From.Places i/\d.From.Places i<=65536
 age:0<=d.From.Age/\d.From.Age<=65536
 ageW:(FK 8 d.From.Woods).sum<=d.From.Age
 ageP:(FK 8 d.From.Places).sum<=d.From.Age
 num:0<=d.From.Number/\d.From.Number<=1073741824
 amt:1<=d.Amount/\d.Amount<=1073741824
 str:0<=d.Strength.Lo/\d.Strength.Lo<=d.Strength.Hi/\d.Strength.Hi<=10000
theorem jG{f:Nat->Int}{p:Int->Bool}{n:Nat}:(FK n f).all p=true↔∀i,i < n->p (f i)=true:=by
 simp[FK,s8]
theorem Ef(d:Qn):vU d=true↔xt d:=by
 simp only[vU,T2,jG,RC,wt,QV,KU,imax,nx];constructor
 ·rintro⟨⟨⟨⟨⟨⟨h1,h2⟩,h3⟩,h4⟩,h5⟩,h6⟩,h7⟩;refine⟨h1,h2,h3,?_,?_,by omega,by omega,by omega⟩
  ·split at h4<;>omega
  ·split at h4<;>omega
 ·rintro⟨h1,h2,h3,h4,h5,h6,h7,h8⟩;refine⟨⟨⟨⟨⟨⟨h1,h2⟩,h3⟩,?_⟩,by omega⟩,by omega⟩,by omega⟩;split<;>omega
theorem Ar(d:Qn):UL d=some (vU d):=by
 unfold UL;rw[jm _ (by simp[FK]),jm _<|by simp[FK]];simp only[DO,QU,vU];cases h1:(FK 8 d.From.Woods).all ZG<;>cases h2:(FK 8 d.From.Places).all ZG<;>simp
def VL(l:UV Qn):Int:=(l.map λd=>d.Amount).sum
def U0(l:UV Qn):Int:=(l.map λd=>d.Amount*d.Strength.Lo).sum
def V7(l:UV Qn):Int:=(l.map λd=>d.Amount*d.Strength.Hi).sum
theorem Ml(l:UV Qn)(d:Qn):VL (l++[d])=VL l+d.Amount:=by simp[VL]
theorem RT(l:UV Qn)(d:Qn):U0 (l++[d])=U0 l+d.Amount*d.Strength.Lo:=by simp[U0]
theorem RU(l:UV Qn)(d:Qn):V7 (l++[d])=V7 l+d.Amount*d.Strength.Hi:=by simp[V7]
theorem Gd{d:Qn}(h:xt d){x:Int}(h0:0<=x)(h1:x<=10000):0<=d.Amount*x/\d.Amount*x<=10737418240000:=by
 have ha:=h.amt;constructor
 ·exact rf (by omega) h0
 ·have:=mD ha.2 h1 h0 (by omega);omega
theorem RR(l:UV Qn):(∀d∈l,xt d)->((l.length:Int)<=VL l/\VL l<=1073741824*l.length)/\(0<=U0 l/\U0 l<=V7 l)/\V7 l<=10737418240000*l.length/\V7 l<=10000*VL l:=by
 induction l using DM with
 | h0=>intro _;simp[VL,U0,V7]
 | hs l d ih=>
  intro h;have hd:=h d (by simp);obtain⟨h1,h2,h3,h4⟩:=ih λx hx=>h x (by simp[hx]);rw[Ml,RT,RU,pP,ru,nV];have ha:=hd.amt;have hs:=hd.str;have b1:=Gd hd (x:=d.Strength.Lo) (by omega) (by omega);have b2:=Gd hd (x:=d.Strength.Hi) (by omega) (by omega);have b3:d.Amount*d.Strength.Lo<=d.Amount*d.Strength.Hi:=rN hs.2.1 (by omega);have b4:d.Amount*d.Strength.Hi<=d.Amount*10000:=rN hs.2.2 (by omega);simp only[mW];refine⟨by omega,by omega,by omega,by omega⟩
def X1(b:QT):Bool:=b.Draughts.all vU&&QV (b.Draughts.length:Int) 1 16&&QV b.Water 0 17179869184&&KU b.Shrink 1000
structure Valid(b:QT):Prop where
 ds:∀d∈b.Draughts,xt d
 len:1<=b.Draughts.length/\b.Draughts.length<=16
 water:0<=b.Water/\b.Water<=17179869184
 shrink:0<=b.Shrink.Lo/\b.Shrink.Lo<=b.Shrink.Hi/\b.Shrink.Hi<=1000
theorem Gn(b:QT):X1 b=true↔Valid b:=by
 simp only[X1,T2,s8,Ef,QV,KU,wt,nx];constructor
 ·rintro⟨⟨⟨h1,h2⟩,h3⟩,h4⟩;exact⟨h1,by omega,h3,by omega⟩
 ·rintro⟨h1,h2,h3,h4⟩;exact⟨⟨⟨h1,by omega⟩,h3⟩,by omega⟩
theorem EL(b:QT)(hlen:b.Draughts.length<=1000):∃x,Uu b=some (x,X1 b)/\(X1 b=true->x=Qf.mk b (VL b.Draughts) (U0 b.Draughts) (V7 b.Draughts)):=by
 unfold Uu
 have key:(∃x,ZR (K9 b) (0,Qf.mk b 0 0 0)=some (.inr (x,false))/\b.Draughts.all vU=false)∨(ZR (K9 b) (0,Qf.mk b 0 0 0)=some (.inl<|Qf.mk b (VL b.Draughts) (U0 b.Draughts)<|V7 b.Draughts)/\b.Draughts.all vU=true):=by
  have go:∀(post pre:UV Qn),b.Draughts=pre++post->(∀d∈pre,xt d)->(∃x,ZR (K9 b) ((pre.length:Int),Qf.mk b (VL pre) (U0 pre)<|V7 pre)=some (.inr (x,false))/\b.Draughts.all vU=false)∨(ZR (K9 b) ((pre.length:Int),Qf.mk b (VL pre) (U0 pre)<|V7 pre)=some (.inl<|Qf.mk b (VL b.Draughts) (U0 b.Draughts)<|V7 b.Draughts)/\b.Draughts.all vU=true):=by
   intro post
   induction post with
   | nil=>
    intro pre e h;rw[rQ] at e
    right;rw[<-e] at h ⊢
    refine⟨?_,by rw[s8];exact λd hd=>(Ef d).2<|h d hd⟩;rw[ZI];unfold K9;simp
   | cons d post ih=>
    intro pre e h;have hg:=Wi e;have hi:=G5 e;cases hd:vU d with
    | false=>
     left
     have hb:K9 b ((pre.length:Int),Qf.mk b (VL pre) (U0 pre)<|V7 pre)=some (.done<|.inr (Qf.mk b (VL pre) (U0 pre)<|V7 pre,false)):=by
      unfold K9;simp only[KH,hg,DO,QU,Ar,hd];simp only[show(decide<|(pre.length:Int) < (b.Draughts.length:Int))=true by simpa using hi,Nm];simp
     refine⟨Qf.mk b (VL pre) (U0 pre)<|V7 pre,?_,?_⟩
     ·rw[ZI,hb]
     ·rw[e,rz,rL,hd];simp
    | true=>
     have hd' :=(Ef d).1 hd;have hs:=hd'.str;obtain⟨b1,b2,b3,_⟩:=RR pre h;have b4:=Gd hd' (x:=d.Strength.Lo) (by omega) (by omega);have b5:=Gd hd' (x:=d.Strength.Hi) (by omega) (by omega);have ha:=hd'.amt
     have:=ih (pre++[d]) (by rw[e];simp) λx hx=>by
      rcases rK.1 hx with hx | hx
      ·exact h x hx
      ·simp only[rA] at hx;subst hx;exact hd'
     have hb:K9 b ((pre.length:Int),Qf.mk b (VL pre) (U0 pre)<|V7 pre)=some (.next (((pre++[d]).length:Int),Qf.mk b (VL<|pre++[d]) (U0<|pre++[d])<|V7<|pre++[d])):=by
      unfold K9;rw[Ml,RT,RU,pP,ru,nV];simp only[KH,hg,DO,QU,Ar,hd];simp only[show(decide<|(pre.length:Int) < (b.Draughts.length:Int))=true by simpa using hi,Nm];rw[Qp (n:=d.Amount*d.Strength.Lo) (by omega) (by omega),Qp (n:=d.Amount*d.Strength.Hi) (by omega) (by omega),Qp (n:=(pre.length:Int)+1) (by omega) (by omega),Qp (n:=VL pre+d.Amount) (by omega) (by omega),Qp (n:=U0 pre+d.Amount*d.Strength.Lo) (by omega) (by omega),Qp (n:=V7 pre+d.Amount*d.Strength.Hi) (by omega)<|by omega];simp
     rw[ZI,hb];exact this
  exact go b.Draughts [] rfl<|by simp
 rcases key with⟨x,hr,hall⟩ | ⟨hr,hall⟩
 ·refine⟨x,ZO hr ?_,λh=> ?_⟩
  ·simp only[X1,hall,nj]
  ·simp only[X1,hall,nj] at h;cases h
 ·refine⟨Qf.mk b (VL b.Draughts) (U0 b.Draughts)<|V7 b.Draughts,ZO hr ?_,λ_=>rfl⟩;simp only[X1,hall,rM];cases QV (b.Draughts.length:Int) 1 16<;>cases QV b.Water 0 17179869184<;>simp
end
section
open Go.Dec
variable{b:QT}{w:Int}
def ji(b:QT)(w:Int):QB:=QB.mk ((VL b.Draughts+w)*(10000 - b.Shrink.Hi) / 10000) (((VL b.Draughts+w)*(10000 - b.Shrink.Lo)+10000 - 1) / 10000)
def vg(b:QT)(w:Int):QB:=
 QB.mk (Jc 10000<|U0 b.Draughts*10000 / ((VL b.Draughts+w)*(10000 - b.Shrink.Lo)))
  (Jc 10000<|(V7 b.Draughts*10000+(VL b.Draughts+w)*(10000 - b.Shrink.Hi) - 1) / ((VL b.Draughts+w)*(10000 - b.Shrink.Hi)))
structure fJ(b:QT)(w:Int):Prop where
 a:1<=VL b.Draughts/\VL b.Draughts<=17179869184
 l:0<=U0 b.Draughts/\U0 b.Draughts<=V7 b.Draughts/\V7 b.Draughts<=171798691840000
 lh:V7 b.Draughts<=10000*VL b.Draughts
 small:9000<=(VL b.Draughts+w)*(10000 - b.Shrink.Hi)/\(VL b.Draughts+w)*(10000 - b.Shrink.Hi)<=343597383680000
 great:9000<=(VL b.Draughts+w)*(10000 - b.Shrink.Lo)/\(VL b.Draughts+w)*(10000 - b.Shrink.Lo)<=343597383680000
 le:(VL b.Draughts+w)*(10000 - b.Shrink.Hi)<=(VL b.Draughts+w)*(10000 - b.Shrink.Lo)
theorem gx(h:Valid b)(h0:0<=w)(h1:w<=17179869184):fJ b w:=by
 obtain⟨b1,b2,b3,b4⟩:=RR b.Draughts h.ds;have hl:=h.len;have hs:=h.shrink;have ha:1<=VL b.Draughts/\VL b.Draughts<=17179869184:=by omega
 have mb:∀x:Int,9000<=x->x<=10000->9000<=(VL b.Draughts+w)*x/\(VL b.Draughts+w)*x<=343597383680000:=by
  intro x hx1 hx2;have m1:1*9000<=(VL b.Draughts+w)*x:=mD (by omega) hx1 (by omega) (by omega);have m2:(VL b.Draughts+w)*x<=34359738368*10000:=mD (by omega) hx2 (by omega) (by omega);omega
 exact⟨ha,by omega,b4,mb _ (by omega) (by omega),mb _ (by omega) (by omega),rN (by omega)<|by omega⟩
theorem Mg(h:Valid b)(h0:0<=w)(h1:w<=17179869184):J5 (Qf.mk b (VL b.Draughts) (U0 b.Draughts)<|V7 b.Draughts) w=some (ji b w):=by
 have hb:=gx h h0 h1;have b1:=hb.a;have b2:=hb.small;have b3:=hb.great;have hs:=h.shrink;unfold J5 Xu;simp only[QU];rw[Qp (n:=VL b.Draughts+w) (by omega) (by omega),Qp (n:=10000 - b.Shrink.Lo) (by omega) (by omega),Qp (n:=10000 - b.Shrink.Hi) (by omega)<|by omega];rw[Qp (n:=(VL b.Draughts+w)*(10000 - b.Shrink.Lo)) (by omega) (by omega),Qp (n:=(VL b.Draughts+w)*(10000 - b.Shrink.Hi)) (by omega)<|by omega];rw[Qp (n:=(VL b.Draughts+w)*(10000 - b.Shrink.Lo)+10000) (by omega) (by omega),Qp (n:=(VL b.Draughts+w)*(10000 - b.Shrink.Lo)+10000 - 1) (by omega)<|by omega];rw[Rr (by omega) (by omega)<|by omega];simp only[DO];rw[rV (by omega),Qp (by omega)<|by omega];rfl
theorem OC(h:Valid b)(h0:0<=w)(h1:w<=17179869184):YV (Qf.mk b (VL b.Draughts) (U0 b.Draughts)<|V7 b.Draughts) w=some (vg b w):=by
 have hb:=gx h h0 h1;have b1:=hb.a;have b2:=hb.small;have b3:=hb.great;have b4:=hb.l;have hs:=h.shrink;unfold YV Xu;simp only[QU];rw[Qp (n:=VL b.Draughts+w) (by omega) (by omega),Qp (n:=10000 - b.Shrink.Lo) (by omega) (by omega),Qp (n:=10000 - b.Shrink.Hi) (by omega)<|by omega];rw[Qp (n:=(VL b.Draughts+w)*(10000 - b.Shrink.Lo)) (by omega) (by omega),Qp (n:=(VL b.Draughts+w)*(10000 - b.Shrink.Hi)) (by omega)<|by omega];rw[Qp (n:=U0 b.Draughts*10000) (by omega) (by omega),Qp (n:=V7 b.Draughts*10000) (by omega)<|by omega];rw[Qp (n:=V7 b.Draughts*10000+(VL b.Draughts+w)*(10000 - b.Shrink.Hi)) (by omega) (by omega),Qp (n:=V7 b.Draughts*10000+(VL b.Draughts+w)*(10000 - b.Shrink.Hi) - 1) (by omega)<|by omega];rw[Rr (by omega) (by omega) (by omega),Rr (by omega) (by omega)<|by omega];rfl
def Fs(l:UV Qn)(f:Qn->Int):Int:=match l with
 | []=>0
 | d::r=>r.foldl (λm x=>Jc m<|f x)<|f d
theorem kU{l:UV Qn}{d:Qn}{f:Qn->Int}(hl:l≠[]):Fs (l++[d]) f=Jc (Fs l f) (f d):=by
 cases l with
 | nil=>exact absurd rfl hl
 | cons x r=>simp[Fs]
theorem NJ(l:UV Qn)(f:Qn->Int)(hl:l≠[])(h:l.length<=1000):Ki l (λd=>some<|f d)=some (Fs l f):=by
 cases l with
 | nil=>exact absurd rfl hl
 | cons d r=>
  simp only[s5] at h
  unfold Ki;have h0:ZZ (d::r) 0=some d:=rfl
  have h1:ZW (d::r) 1 ((d::r).length:Int)=some r:=by
   unfold ZW;rw[AT (by simp only[s5];omega)];simp
  refine ZO h0<|ZO rfl<|ZO h1 ?_
  obtain⟨t',k1,k2⟩:=Gi (body:=Vk (λd=>some<|f d) r) (λi (t:Int)=>(t,(i:Int))) (λt=>t) (λpre t=>t=Fs (d::pre) f) r
   (λpre x post t hl ht=>by
    have hg:=Wi hl;have hi:=G5 hl;unfold Vk;simp only[KH,hg,DO,QU];rw[Qp (by omega)<|by omega];simp only[show(decide<|(pre.length:Int) < (r.length:Int))=true by simpa using hi,Nm];refine⟨_,rfl,?_⟩;rw[<-pw,kU (by simp),ht])
   (λt _=>by unfold Vk;simp) r [] (f d) rfl rfl
  simp only[pO,pX] at k2
  exact ZO k2<|by rw[k1]
def MH(l:UV Qn):UV Int:=l.foldl (λacc d=>if d.From.Number∈acc then acc else acc++[d.From.Number]) []
theorem kT(l:UV Qn)(d:Qn):MH (l++[d])=if d.From.Number∈MH l then MH l else MH l++[d.From.Number]:=by
 unfold MH;rw[List.foldl_append];rfl
theorem Pb(k:Int):∀ks:UV Int,Qv (ks.map λx=>(x,true)) k true=(if k∈ks then ks else ks++[k]).map λx=>(x,true)
 | []=>by simp[Qv]
 | x::ks=>by
  simp only[s6,Qv];by_cases h:k=x
  ·subst h;simp
  ·have hb:(k==x)=false:=by simpa using h
   simp only[hb,By,RK];rw[Pb k ks];by_cases hm:k∈ks<;>simp[hm,h]
theorem IP(b:QT)(A L M:Int)(h:b.Draughts.length<=1000):Vf (Qf.mk b A L M)=some ((MH b.Draughts).length:Int):=by
 unfold Vf
 obtain⟨t',k1,k2⟩:=Gi (body:=Yy<|Qf.mk b A L M) (λi (t:UV (Int×Bool))=>(t,(i:Int))) (λt=>t) (λpre t=>t=(MH pre).map λx=>(x,true)) b.Draughts
  (λpre x post t hl ht=>by
   have hg:=Wi hl;have hi:=G5 hl;unfold Yy;simp only[KH,hg,DO,QU];rw[Qp (by omega)<|by omega];simp only[show(decide<|(pre.length:Int) < (b.Draughts.length:Int))=true by simpa using hi,Nm];refine⟨_,rfl,?_⟩;rw[ht,Pb,kT])
  (λt _=>by unfold Yy;simp) b.Draughts [] [] rfl rfl
 simp only[pO,pX] at k2
 exact ZO k2 (by rw[k1];simp)
structure zk(b:QT)(w:Int)(x:Qm):Prop where
 vol:x.Volume=ji b w
 str:x.Strength=vg b w
 age:x.Age=Fs b.Draughts λd=>d.From.Age
 woods:∀i,i < 8->x.Woods i=Fs b.Draughts λd=>d.From.Woods i
 places:∀i,i < 8->x.Places i=Fs b.Draughts λd=>d.From.Places i
 casks:x.Casks=((MH b.Draughts).length:Int)
theorem Mi{α:Type}(f:Nat->α)(i:Nat)(x:α):ZL f i x i=x:=by simp[ZL]
theorem RM{α:Type}{f:Nat->α}{i j:Nat}{x:α}(h:j≠i):ZL f i x j=f j:=by
 have:Nat.beq j i=false:=by
  cases hb:Nat.beq j i with
  | true=>exact absurd (pH hb) h
  | false=>rfl
 simp[ZL,this]
theorem Ox(h:Valid b):∃x,YW (Qf.mk b (VL b.Draughts) (U0 b.Draughts)<|V7 b.Draughts)=some x/\zk b b.Water x:=by
 have hl:=h.len;have hne:b.Draughts≠[]:=by intro e;rw[e] at hl;simp at hl
 unfold YW;have e1:=Mg h h.water.1 h.water.2;have e2:=OC h h.water.1 h.water.2;have e3:=IP b (VL b.Draughts) (U0 b.Draughts) (V7 b.Draughts) (by omega);have e4:Ki b.Draughts (λx=>some<|Yq x)=some (Fs b.Draughts λd=>d.From.Age):=NJ b.Draughts (λd=>d.From.Age) hne (by omega);generalize hx0:({(Qm.mk (ji b b.Water) (vg b b.Water) 0 (λ_=>0) (λ_=>0) ((MH b.Draughts).length:Int)) with Age:=Fs b.Draughts λd=>d.From.Age}:Qm)=x0
 obtain⟨x1,⟨h1a,h1b⟩,k1⟩:=HW (body:=Yx<|Qf.mk b (VL b.Draughts) (U0 b.Draughts)<|V7 b.Draughts) (λi (t:Qm)=>((i:Int),t)) (λt=>t)
  (λn t=>(∀i,i < n->t.Woods i=Fs b.Draughts λd=>d.From.Woods i)/\∃f,t={x0 with Woods:=f}) 8
  (λi t hi ⟨ht,f,hf⟩=>by
   have e5:Ki b.Draughts (λx=>Ke x (i:Int))=some (Fs b.Draughts λd=>d.From.Woods i):=by
    rw[show(λx=>Ke x (i:Int))=λx=>some (x.From.Woods i) from by
     funext x;unfold Ke;rw[Hl hi];rfl]
    exact NJ b.Draughts _ hne<|by omega
   refine⟨{t with Woods:=ZL t.Woods i (Fs b.Draughts λd=>d.From.Woods i)},?_,λj hj=> ?_,?_⟩
   ·unfold Yx;simp only[show(decide<|(i:Int) < 8)=true by simp;omega,Nm];refine ZO e5<|ZO (Hl hi) ?_;simp only[QU];rw[Qp (by omega)<|by omega];simp
   ·show ZL t.Woods i _ j=_;by_cases hji:j=i
    ·subst hji;exact Mi _ _ _
    ·rw[RM hji];exact ht j<|by omega
   ·exact⟨ZL t.Woods i<|Fs b.Draughts λd=>d.From.Woods i,by rw[hf]⟩)
  (λt _=>by unfold Yx;simp) 8 0 x0 rfl ⟨λi hi=>by omega,x0.Woods,rfl⟩
 obtain⟨x2,⟨h2a,f2,h2b⟩,k2⟩:=HW (body:=Yw<|Qf.mk b (VL b.Draughts) (U0 b.Draughts)<|V7 b.Draughts) (λi (t:Qm)=>((i:Int),t)) (λt=>t)
  (λn t=>(∀i,i < n->t.Places i=Fs b.Draughts λd=>d.From.Places i)/\∃f,t={x1 with Places:=f}) 8
  (λi t hi ⟨ht,f,hf⟩=>by
   have e5:Ki b.Draughts (λx=>Kd x (i:Int))=some (Fs b.Draughts λd=>d.From.Places i):=by
    rw[show(λx=>Kd x (i:Int))=λx=>some (x.From.Places i) from by
     funext x;unfold Kd;rw[Hl hi];rfl]
    exact NJ b.Draughts _ hne<|by omega
   refine⟨{t with Places:=ZL t.Places i (Fs b.Draughts λd=>d.From.Places i)},?_,λj hj=> ?_,?_⟩
   ·unfold Yw;simp only[show(decide<|(i:Int) < 8)=true by simp;omega,Nm];refine ZO e5<|ZO (Hl hi) ?_;simp only[QU];rw[Qp (by omega)<|by omega];simp
   ·show ZL t.Places i _ j=_;by_cases hji:j=i
    ·subst hji;exact Mi _ _ _
    ·rw[RM hji];exact ht j<|by omega
   ·exact⟨ZL t.Places i<|Fs b.Draughts λd=>d.From.Places i,by rw[hf]⟩)
  (λt _=>by unfold Yw;simp) 8 0 x1 rfl ⟨λi hi=>by omega,x1.Places,rfl⟩
 simp only[pX] at k1 k2
 obtain⟨f1,h1c⟩:=h1b;refine⟨x2,?_,?_⟩
 ·refine ZO e1<|ZO e2<|ZO e3<|ZO e4 ?_;simp only[QU];rw[hx0];exact ZO k1<|ZO k2 rfl
 ·have hw:x2.Woods=x1.Woods:=by rw[h2b]
  refine⟨by rw[h2b,h1c,<-hx0],by rw[h2b,h1c,<-hx0],by rw[h2b,h1c,<-hx0],λi hi=>by rw[hw];exact h1a i hi,h2a,by rw[h2b,h1c,<-hx0]⟩
theorem qg(b:QT)(hlen:b.Draughts.length<=1000):(X1 b=false/\Vh b=some (Qm.mk (QB.mk 0 0) (QB.mk 0 0) 0 (λ_=>0) (λ_=>0) 0,1))∨(Valid b/\∃x,Vh b=some (x,0)/\zk b b.Water x):=by
 obtain⟨x,he,hx⟩:=EL b hlen;unfold Vh;cases hv:X1 b with
 | false=>
  refine .inl ⟨rfl,ZO he ?_⟩;rw[hv];rfl
 | true=>
  have h:=(Gn b).1 hv;obtain⟨y,k1,k2⟩:=Ox h;refine .inr ⟨h,y,ZO he ?_,k2⟩;rw[hv,hx hv];simp only[x7,By,RK];exact ZO k1 rfl
end
section
open Go.Dec
def Fm(c:Qq):Bool:=
 if c.Kind==0 then ZG c.Number else if c.Kind==1 then ZG c.Number&&QV c.What 0 7 else if c.Kind==2 then ZG c.Number&&QV c.What 0 7 else
 if c.Kind==7 then JH c.What&&JH c.Number else QV c.Kind 0 7
theorem qP(c:Qq):WI c=some (Fm c):=by
 unfold WI Fm
 repeat' split
 all_goals rfl
structure wK(c:Qq):Prop where
 kind:0<=c.Kind/\c.Kind<=7
 what:c.Kind=1∨c.Kind=2->0<=c.What/\c.What<=7
 str:c.Kind=7->(0<=c.What/\c.What<=10000)/\0<=c.Number/\c.Number<=10000
theorem wK.of{c:Qq}(h:Fm c=true):wK c:=by
 unfold Fm at h
 simp only[rb,QV,JH] at h
 repeat' split at h
 all_goals simp only[T2,wt,nx,RC] at h
 all_goals exact⟨by omega,λh=>by omega,λh=>by omega⟩
theorem MK(s:UV Qq)(f:Qq->Bool)(hl:s.length<=1000000):JM s (λx=>some<|f x)=some (s.any f):=by
 unfold JM VY
 have key:=GX (body:=Je s λx=>some<|f x) (λi (_:Unit)=>(i:Int)) (λ_ x=>if f x then 1 else 0) (λi _=>.inr (i:Int)) (λ_=>.inl ()) (λ_ _=>True) s
  (λpre x post t hl ho ht=>by
   have hg:=Wi hl;have hi:=G5 hl;unfold Je;simp only[KH,hg,DO];rw[Qp (by omega)<|by omega];simp only[show(decide<|(pre.length:Int) < (s.length:Int))=true by simpa using hi,Nm];cases hx:f x with
   | true=>left;simp
   | false=>right;exact⟨by simp,(),by simp⟩)
  (λt _ _=>by unfold Je;simp) s [] () rfl WL.nil trivial
 simp only[pO,pX] at key
 rcases key with⟨p,x,⟨post,e,_,hx⟩,hr⟩ | ⟨ho,t,ht,hr⟩
 ·have hfx:f x=true:=by
   cases h:f x with
   | true=>rfl
   | false=>simp[h] at hx
  have:s.any f=true:=by rw[e,List.any_append,ld,hfx];simp
  rw[this];refine ZO (ZO hr rfl) ?_;simp
 ·have:s.any f=false:=by
   rw[List.any_eq_false];intro y hy;obtain⟨a,b,e⟩:=rq hy;have:=ho a y b e;intro h;simp[h] at this
  rw[this];exact ZO (ZO hr rfl)<|by simp
def Hm(l:UV Qq):Bool:=decide ((l.length:Int)<=32)&&l.all Fm
theorem TI(l:UV Qq):UM l=some (Hm l):=by
 unfold UM Hm;by_cases h:(l.length:Int)<=32
 ·have e:(λx=>Ja x)=λx=>some (!Fm x):=by
   funext x;unfold Ja;rw[qP];rfl
  simp only[h,pn,Nm,e];rw[MK l _<|by omega];simp only[DO,rM,BY];rw[nW];simp[s8]
 ·simp only[h,po,By,RK,DO,nj]
def liesAt(p:Qq->Bool):Nat->UV Qq->UV Int
 | _,[]=>[]
 | i,c::l=>if p c then liesAt p (i+1) l else(i:Int)::liesAt p (i+1) l
theorem Sd(p:Qq->Bool):∀(l k:UV Qq) (i:Nat),liesAt p i (l++k)=liesAt p i l++liesAt p (i+l.length) k
 | [],k,i=>by simp[liesAt]
 | c::l,k,i=>by
  simp only[pw,liesAt,s5,Sd p l k<|i+1];rw[show i+1+l.length=i+(l.length+1) by omega];split<;>simp
theorem NI(p:Qq->Bool):∀(l:UV Qq) (i:Nat),(liesAt p i l).length<=l.length
 | [],i=>by simp[liesAt]
 | c::l,i=>by
  have:=NI p l<|i+1;simp only[liesAt];split<;>simp<;>omega
def Fc(b:QT)(x:Qm)(c:Qq):Bool:=
 if c.Kind=0 then decide (x.Age≥c.Number) else if c.Kind=1 then decide (x.Woods c.What.toNat≥c.Number) else if c.Kind=2 then decide (x.Places c.What.toNat≥c.Number) else if c.Kind=3 then x.Casks==1 else
 if c.Kind=4 then b.Water==0 else if c.Kind=5 then !b.Filtered else if c.Kind=6 then !b.Coloured else decide (x.Strength.Lo≥c.What - c.Number)&&decide (x.Strength.Hi<=c.What+c.Number)
theorem C6{i:Int}{n:Nat}(h0:0<=i)(h1:i < n):Yg n i=some i.toNat:=by
 unfold Yg;rw[AT ⟨h0,h1⟩]
theorem vd(b:QT)(A L M:Int)(x:Qm)(c:Qq)(h:wK c):((YU<|ZD.mk (Qf.mk b A L M) x).bind λr=>(Yg 8 c.Kind).bind λj=>(r j) c)=some (Fc b x c):=by
 have hk:=h.kind;unfold YU;simp only[DO];rw[C6 (by omega)<|by omega];simp only[DO];have hc:c.Kind=0∨c.Kind=1∨c.Kind=2∨c.Kind=3∨c.Kind=4∨c.Kind=5∨c.Kind=6∨c.Kind=7:=by omega
 unfold Fc;rcases hc with e | e | e | e | e | e | e | e
 ·rw[e];rfl
 ·have hw:=h.what<|.inl e;rw[e];show Jm c _=_;unfold Jm;rw[C6 (by omega)<|by omega];rfl
 ·have hw:=h.what<|.inr e;rw[e];show Jl c _=_;unfold Jl;rw[C6 (by omega)<|by omega];rfl
 ·rw[e];rfl
 ·rw[e];rfl
 ·rw[e];rfl
 ·rw[e];rfl
 ·have hs:=h.str e;rw[e];show some (Yp c _)=_;unfold Yp;rw[Qp (by omega) (by omega),Qp (by omega)<|by omega];rfl
theorem uE(b:QT)(A L M:Int)(x:Qm)(l:UV Qq)(hl:l.length<=1000)(h:∀c∈l,wK c):V1 (ZD.mk (Qf.mk b A L M) x) l=some (liesAt (Fc b x) 0 l):=by
 unfold V1;obtain⟨r,hr⟩:∃r,YU (ZD.mk (Qf.mk b A L M) x)=some r:=⟨_,rfl⟩;refine ZO hr ?_
 obtain⟨t',k1,k2⟩:=Gi (body:=VI l r) (λi (t:UV Int)=>(t,(i:Int))) (λt=>t) (λpre t=>t=liesAt (Fc b x) 0 pre) l
  (λpre c post t hl' ht=>by
   have hg:=Wi hl';have hi:=G5 hl';have ht' :=vd b A L M x c<|h c<|s7 hg;rw[hr] at ht'
   simp only[DO] at ht'
   have hk:=(h c<|s7 hg).kind;rw[C6 (by omega)<|by omega] at ht'
   simp only[DO] at ht'
   have hlen:=NI (Fc b x) pre 0;unfold VI;simp only[KH,hg,DO];rw[Qp (by omega) (by omega),C6 (by omega)<|by omega];simp only[show(decide<|(pre.length:Int) < (l.length:Int))=true by simpa using hi,Nm,DO,ht'];rw[Sd];simp only[liesAt,pz];cases hp:Fc b x c with
   | true=>exact⟨t,by simp,by simpa using ht⟩
   | false=>
    refine⟨t++[(pre.length:Int)],?_,by rw[ht];simp⟩;simp only[pG,Nm];rw[AO (by rw[ht];simp only[s5,pO];omega)];simp)
  (λt _=>by unfold VI;simp) l [] [] rfl rfl
 simp only[pO,pX] at k2
 exact ZO k2<|by rw[k1]
theorem qT(b:QT)(l:UV Qq)(hb:b.Draughts.length<=1000)(hl:l.length<=1000):((X1 b&&Hm l)=false/\UN b l=some ([],1))∨(Valid b/\Hm l=true/\(∀c∈l,wK c)/\∃x,zk b b.Water x/\Vh b=some (x,0)/\UN b l=some (liesAt (Fc b x) 0 l,0)):=by
 obtain⟨x,he,hx⟩:=EL b hb;unfold UN X9 Vh;cases hv:X1 b with
 | false=>
  refine .inl ⟨rfl,?_⟩;rw[he,hv];rfl
 | true=>
  cases hc:Hm l with
  | false=>
   refine .inl ⟨rfl,?_⟩;rw[he,hv,TI,hc];rfl
  | true=>
   have h:=(Gn b).1 hv;obtain⟨y,k1,k2⟩:=Ox h
   have hall:∀c∈l,wK c:=by
    simp only[Hm,T2,s8] at hc
    exact λc hcl=>wK.of<|hc.2 c hcl
   refine .inr ⟨h,rfl,hall,y,k2,?_,?_⟩
   ·refine ZO he ?_;rw[hv,hx hv];simp only[x7,By,RK];exact ZO k1 rfl
   ·rw[he,hv,TI,hc,hx hv];simp only[DO,x7,By,RK,k1];exact ZO (uE b _ _ _ y l hl hall) rfl
end
end Go.Proofs.YtijhfeohbhedkaaGreatDoor.Bo
namespace Go.Proofs.YtijhfeohbhedkaaGreatDoor
section
open Go.Dec
def jZ(c:So):Bool:=decide (48<=c.toNat)&&decide (c.toNat<=57)
def DI(s:UV So):Nat:=s.foldl (λn c=>10*n+(c.toNat - 48)) 0
def R8(s:UV So):Bool:= !(s==[])&&decide (s.length<=13)&&(!(s.head? ==some 48)||s==[48])&&s.all jZ
def uB(s:UV So):Out Qk Int:=if R8 s then .ok (DI s:Int) else .pan ⟨8⟩
theorem Mh(s:UV So)(c:So):DI (s++[c])=10*DI s+(c.toNat - 48):=by simp[DI]
theorem vZ(s:UV So)(h:s.all jZ=true):DI s < 10^s.length:=by
 induction s using DM with
 | h0=>simp[DI]
 | hs l x ih=>
  rw[rz,T2] at h
  have h1:=ih h.1
  have h2:x.toNat<=57:=by
   have h2:=h.2;simp only[rL,mU,nJ,jZ,T2,wt] at h2
   exact h2.2
  rw[Mh,pP,ru,lz];omega
theorem va{s:UV So}(h:s.all jZ=true)(hl:s.length<=13):DI s < 10000000000000:=
 nz (vZ s h) (by
  have:=mc (show 0 < 10 by omega) hl;omega)
theorem fB(n:Int)(h0:0<=n)(h1:n<=255):IntKind.u8.wrap n=n:=by
 unfold IntKind.wrap;have:((2:Int)^IntKind.u8.bits)=256:=by decide
 simp[IntKind.bits,IntKind.signed] at*
 omega
theorem Pa(s:UV So)(hs:s.length<=13):∀(post pre:UV So),s=pre++post->pre.all jZ=true->
  ZR (Vq s) ((DI pre:Int),(pre.length:Int))=some (if post.all jZ then .inl (DI s:Int) else .inr ⟨8⟩)
 | [],pre,e,hp=>by
  rw[rQ] at e;subst e
  rw[ZI];unfold Vq;simp[WU]
 | c::post,pre,e,hp=>by
  have hi:pre.length < s.length:=by rw[e];simp
  have hget:(WU s)[pre.length]? =some (c.toNat:Int):=by rw[e];simp[WU]
  have hv:=va hp (by omega);have h3:c.toNat < 256:=c.toNat_lt
  have hbody:Vq s ((DI pre:Int),(pre.length:Int))=some (if jZ c then .next ((DI (pre++[c]):Int),((pre++[c]).length:Int)) else .done (.inr ⟨8⟩)):=by
   unfold Vq;simp only[KH,hget,DO,QU,Zc,show(decide<|(pre.length:Int) < ((WU s).length:Int))=true by simpa[WU] using hi,Nm];by_cases hd:jZ c=true
   ·have hd' :=hd;simp only[jZ,T2,wt] at hd'
    have ed:(!(decide ((48:Int)<=(c.toNat:Int))&&decide ((c.toNat:Int)<=57)))=false:=by simp;omega
    simp only[ed,By,RK,Qt];rw[fB _ (by omega) (by omega),Qp (n:=10*(DI pre:Int)) (by omega) (by omega),Qp (n:=(c.toNat:Int) - 48) (by omega) (by omega),Qp (by omega) (by omega),Qp (by omega)<|by omega];have e1:10*(DI pre:Int)+((c.toNat:Int) - 48)=(DI (pre++[c]):Int):=by rw[Mh];omega
    have e2:(pre.length:Int)+1=((pre++[c]).length:Int):=by simp
    rw[e1,e2,hd];rfl
   ·have ed:(!(decide ((48:Int)<=(c.toNat:Int))&&decide ((c.toNat:Int)<=57)))=true:=by
     simp only[jZ,T2,wt] at hd
     simp;omega
    simp only[ed,Nm,Qt];simp[hd]
  rw[ZI,hbody];cases hd:jZ c with
  | false=>simp[hd]
  | true=>
   have ih:=Pa s hs post (pre++[c]) (by rw[e];simp) (by rw[rz,hp];simp[hd]);simp only[Nm,ih];simp[hd]
theorem PZ(s:UV So):WX s=some (uB s):=by
 unfold WX uB R8;cases s with
 | nil=>rfl
 | cons c l=>
  by_cases hl:(c::l).length<=13
  ·have e1:((!((c::l)==([]:UV So)))&&(decide<|((c::l).length:Int)<=13))=true:=by simp at hl ⊢;omega
   simp only[e1,Nm];have e2:ZZ (c::l) 0=some c:=rfl;simp only[e2,DO]
   have e3:(((c.toNat:Int) != 48)||((c::l)==([48]:UV So)))=(!((c::l).head? ==some 48)||(c::l)==[48]):=by
    congr 1;rw[nW];simp only[List.head?_cons,lW,ne_eq,pj,nQ,BY];constructor
    ·intro h hc;subst hc;exact h rfl
    ·intro h hc;exact h<|UInt8.toNat_inj.1 (by rw[show(48:So).toNat=48 from rfl];omega)
   rw[e3];have e4:(!((c::l)==([]:UV So))&&decide ((c::l).length<=13))=true:=by simp at hl ⊢;omega
   simp only[e4,rM];have ea:Jf ([]:UV So) (c::l)=some (c::l):=by unfold Jf;rw[AT (by simp at hl ⊢;omega)];rfl
   cases hz:(!((c::l).head? ==some 48)||(c::l)==[48]) with
   | false=>simp[Zc,Qt]
   | true=>
    have hk:=Pa (c::l) hl (c::l) [] rfl rfl;simp only[pO,pX,show(DI []:Int)=0 from rfl] at hk
    simp only[Zc,Qt,x7,By,RK,ea,DO,hk,rM];cases(c::l).all jZ<;>rfl
  ·have e1:((!((c::l)==([]:UV So)))&&(decide<|((c::l).length:Int)<=13))=false:=by simp at hl ⊢;omega
   have e4:(!((c::l)==([]:UV So))&&decide ((c::l).length<=13))=false:=by simp at hl ⊢;omega
   simp only[e1,e4,By,RK,DO,Zc,pG,Nm,Qt,nj]
def Wl:UV So->UV (UV So)
 | []=>[[]]
 | c::l=>if c==32 then[]::Wl l else match Wl l with
  | []=>[[c]]
  | p::ps=>(c::p)::ps
theorem Lb:∀(s:UV So),(Go.Lib.index s [32]= -1/\Wl s=[s])∨(∃i:Nat,Go.Lib.index s [32]=i/\i < s.length/\Wl s=s.take i::Wl (s.drop<|i+1))
 | []=>.inl ⟨rfl,rfl⟩
 | c::l=>by
  by_cases hc:c=32
  ·subst hc;exact .inr ⟨0,rfl,by simp,by simp[Wl]⟩
  ·have h0:([32]:UV So).isPrefixOf (c::l)=false:=by
    simp only[List.isPrefixOf,nJ,nQ,ne_eq];exact λh=>hc h.symm
   have hb:(c==32)=false:=by simpa using hc
   rcases Lb l with⟨h1,h2⟩ | ⟨i,h1,h2,h3⟩
   ·refine .inl ⟨?_,?_⟩
    ·unfold Go.Lib.index;rw[h0,h1];rfl
    ·simp[Wl,hb,h2]
   ·refine .inr ⟨i+1,?_,by simpa using h2,?_⟩
    ·unfold Go.Lib.index;rw[h0,h1];have:((i:Int)== -1)=false:=by rw[nQ];omega
     simp[this]
    ·simp[Wl,hb,h3]
def SW(s:UV So):Out Qk (UV So×UV Int):=match Wl s with
 | []=>.pan ⟨8⟩
 | w::ps=>if ps.all R8 then .ok (w,ps.map λp=>(DI p:Int)) else .pan ⟨8⟩
theorem M7(s:UV So)(h:s.length<=1000000):(Wl s=[s]/\JY ⟨s⟩ ()=some (s,false,⟨[]⟩))∨(∃p r,p.length+r.length < s.length/\Wl s=p::Wl r/\JY ⟨s⟩ ()=some (p,true,⟨r⟩)):=by
 unfold JY Hb;simp only[show s.length < 4294967281 by omega,Nm,DO,Go.Lib.cut];rcases Lb s with⟨h1,h2⟩ | ⟨i,h1,h2,h3⟩
 ·exact .inl ⟨h2,by rw[h1];rfl⟩
 ·refine .inr ⟨s.take i,s.drop<|i+1,by simp;omega,h3,?_⟩;rw[h1];simp
theorem Mx:∀(k:Nat) (s:UV So) (acc:UV Int),s.length<=k->s.length<=1000000->acc.length+s.length<=1000000->
  ZR (KC ()) (acc,true,⟨s⟩)=some (if(Wl s).all R8 then .inl (acc++(Wl s).map (λp=>(DI p:Int)),⟨[]⟩) else .inr ⟨8⟩)
 | k,s,acc,hk,hl,ha=>by
  have hap:∀x:Int,Jf acc [x]=some (acc++[x]):=λx=>by unfold Jf;rw[AT (by simp;omega)]
  have hend:∀a:UV Int,ZR (KC ()) (a,false,⟨[]⟩)=some (.inl (a,⟨[]⟩)):=λa=>by rw[ZI];rfl
  rcases M7 s hl with⟨h1,h2⟩ | ⟨p,r,h0,h1,h2⟩
  ·have hbody:KC () (acc,true,⟨s⟩)=some (if R8 s then .next (acc++[(DI s:Int)],false,⟨[]⟩) else .done (.inr ⟨8⟩)):=by
    unfold KC;simp only[Nm,h2,DO,PZ,uB];cases hn:R8 s<;>simp[Qt,hap]
   rw[ZI,hbody,h1];cases hn:R8 s<;>simp[hn,hend]
  ·have hbody:KC () (acc,true,⟨s⟩)=some (if R8 p then .next (acc++[(DI p:Int)],true,⟨r⟩) else .done (.inr ⟨8⟩)):=by
    unfold KC;simp only[Nm,h2,DO,PZ,uB];cases hn:R8 p<;>simp[Qt,hap]
   rw[ZI,hbody,h1];cases hn:R8 p with
   | false=>simp[hn]
   | true=>
    cases k with
    | zero=>omega
    | succ k=>
     simp only[Nm,Mx k r (acc++[(DI p:Int)]) (by omega) (by omega) (by simp;omega)];simp[hn]
theorem kI(s:UV So)(h:s.length<=100000):Vd ⟨s⟩ ()=some (match SW s with | .ok r=>.ok (r.1,r.2,⟨[]⟩) | .pan e=>.pan e):=by
 unfold Vd SW;rcases M7 s (by omega) with⟨h1,h2⟩ | ⟨p,r,h0,h1,h2⟩
 ·simp only[h2,DO,h1];rw[ZI];unfold KC;simp
 ·simp only[h2,DO,h1];rw[Mx r.length r [] (IR _) (by omega) (by simp;omega)];cases hn:(Wl r).all R8<;>simp
def NX:Nat->Nat->UV So
 | 0,_=>[]
 | k+1,u=>if u < 10 then[UInt8.ofNat<|48+u] else NX k (u / 10)++[UInt8.ofNat<|48+u%10]
theorem A5:∀(k u:Nat),u < 10^k->0 < k->NX k u=Go.Lib.decDigits u
 | 0,u,_,h=>absurd h (Nat.lt_irrefl 0)
 | k+1,u,h,_=>by
  rw[Go.Lib.decDigits];unfold NX;by_cases h1:u < 10
  ·rw[AT h1,dif_pos h1]
  ·rw[RW h1,dif_neg h1];rw[lz] at h
   cases k with
   | zero=>omega
   | succ k=>rw[A5 (k+1) (u / 10) (by omega)<|by omega]
def Pd(n:Int):UV So:=if n < 0 then 45::NX 20 n.natAbs else NX 20 n.toNat
def LP(n:Int):Bool:=decide (-9223372036854775808<=n)&&decide (n<=9223372036854775807)
theorem kb{n:Int}(h:LP n=true):Wy n=some (Pd n):=by
 simp only[LP,T2,wt] at h
 unfold Wy Pd Go.Lib.itoa;rw[AT h];congr 1;split
 ·rw[A5 _ _ (by omega)<|by omega]
 ·rw[A5 _ _ (by omega)<|by omega]
theorem HY{s t:UV So}(h:s.length+t.length<=4294967296):CV s t=some (s++t):=by unfold CV;rw[AT h]
theorem A0:∀(k u:Nat),(NX k u).length<=k
 | 0,_=>IR _
 | k+1,u=>by
  unfold NX;split
  ·simp
  ·have:=A0 k<|u / 10;simp;omega
theorem Tk(n:Int):(Pd n).length<=21:=by
 unfold Pd;split
 ·have:=A0 20 n.natAbs;simp;omega
 ·have:=A0 20 n.toNat;omega
def Xl(word:UV So)(l:UV Int):UV So:=word++l.flatMap λn=>32::Pd n
theorem PK(w:UV So)(l:UV Int)(x:Int):Xl w (l++[x])=Xl w l++32::Pd x:=by simp[Xl]
theorem Ss(w:UV So)(l:UV Int):(Xl w l).length<=w.length+22*l.length:=by
 induction l using DM with
 | h0=>simp[Xl]
 | hs l x ih=>have:=Tk x;rw[PK];simp;omega
theorem Rm{w:UV So}{l:UV Int}(hw:w.length<=1000)(hl:l.length<=100000)(h:l.all LP=true):JX w l=some (Xl w l):=by
 unfold JX;rw[HY (by simp;omega)]
 obtain⟨t,ht,hr⟩:=Gi (body:=XF l) (λi (t:UV So)=>((i:Int),t)) (λt=>t) (λpre t=>t=Xl w pre) l
  (λpre x post t e ht=>by
   have hg:=Wi e;have hi:=G5 e;have hx:LP x=true:=by rw[e,rz,rL] at h;simp only[T2] at h;exact h.2.1
   have h1:=Ss w pre;have h2:=Tk x;subst ht;refine⟨Xl w<|pre++[x],?_,rfl⟩;unfold XF;simp only[KH,hg,DO,show(decide<|(pre.length:Int) < (l.length:Int))=true by simpa using hi,Nm];rw[HY (by simp;omega),DO,kb hx,DO,HY (by simp;omega),DO,Qp (by omega) (by omega),PK];simp)
  (λt _=>by unfold XF;simp) l [] (Xl w []) rfl rfl
 simp only[pO,pX] at hr
 have e0:Xl w []=w:=by simp[Xl]
 rw[e0] at hr
 simp only[rY,DO];exact ZO hr<|by rw[ht]
end
section
open Go.Dec
variable{α β:Type}{l:UV QH}{m p:H1 α}
def Le(p m:H1 α):Prop:=∀x,p=some x->m=some x
theorem Le.rfl:Le p p:=λ_ h=>h
theorem Le.of(h:m=p):Le p m:=λ_ e=>h.trans e
theorem Le.none:Le .none m:=λ_ e=>by cases e
theorem Le.bind{α β:Type}{p m:H1 α}{f g:α->H1 β}(h:Le p m)(k:∀x,Le (f x)<|g x):Le (p.bind f) (m.bind g):=by
 intro y e;cases hp:p with
 | none=>rw[hp] at e;cases e
 | some x=>rw[hp] at e;rw[h x hp];exact k x y e
theorem Le.fW{p:H1 β}{g:α->H1 β}(x:α)(h:m=some x)(k:Le p (g x)):Le p (m.bind g):=by rw[h];exact k
theorem Le.ite{c:Bool}{a b a' b' :H1 α}(h:Le a a')(h' :Le b b'):Le (if c then a else b) (if c then a' else b'):=by cases c<;>assumption
theorem Le.guard{c:Prop}[Decidable c]{a b:H1 α}(h:c->Le a b):Le (if c then a else .none) b:=by
 by_cases hc:c
 ·rw[AT hc];exact h hc
 ·rw[RW hc];exact Le.none
abbrev RO(α:Type):=H1<|Out Qk α
abbrev RL:=RO<|UV So×QA
def U1(b:Bool)(e:Int)(k:RO β):RO β:=if b then k else some (.pan ⟨e⟩)
def HF(x:RO α)(k:α->RO β):RO β:=Qt x (λq=>some<|.pan q) k
theorem C0(b:Bool)(e:Int):Zc b e=some (if b then .ok () else .pan ⟨e⟩):=by cases b<;>rfl
theorem A8(e:Int):KN e=some (if e==0 then .ok () else .pan ⟨e⟩):=by
 unfold KN;rw[C0];cases e==0<;>rfl
theorem Le.dc{b:Bool}{e:Int}{p:RO β}{g:Unit->RO β}(h:Le p (g ())):Le (U1 b e p) (Qt (Zc b e) (λq=>some<|.pan q) g):=by
 rw[C0];cases b
 ·exact Le.rfl
 ·exact h
theorem Le.check{e:Int}{p:RO β}{g:Unit->RO β}(h:Le p (g ())):Le (U1 (e==0) e p) (Qt (KN e) (λq=>some<|.pan q) g):=by
 rw[A8];unfold U1;cases e==0
 ·exact Le.rfl
 ·exact h
theorem Le.di{p m:RO α}{f g:α->RO β}(h:Le p m)(k:∀x,Le (f x)<|g x):Le (HF p f) (Qt m (λq=>some<|.pan q) g):=by
 intro y e;unfold HF at e
 cases hp:p with
 | none=>rw[hp] at e;cases e
 | some x=>
  rw[hp] at e;rw[h x hp]
  cases x with
  | ok x=>exact k x y e
  | pan q=>exact e
theorem U8{l k:UV α}(h:l.length+k.length<=4000000):Jf l k=some (l++k):=by unfold Jf;rw[AT<|by omega]
def CW(L:QA)(x:QF):RO QA:=if L.casks.length<=1000000 then U1 ((Ca.TJ (L.casks++[{x with Day:=L.day}]) L.day).2.2==0) (Ca.TJ (L.casks++[{x with Day:=L.day}]) L.day).2.2 (some<|.ok {L with casks:=L.casks++[{x with Day:=L.day}]}) else none
theorem Ga(L:QA)(x:QF):Le (CW L x) (ZX L () x):=by
 refine Le.guard λh=> ?_;unfold ZX;simp only[QU];refine Le.fW _ (U8 (by simp;omega))<|Le.fW _ (Ca.SG _ _)<|Le.check Le.rfl
def atR(L:QA)(c:Int):ZQ×Int:=Ca.B4 L.casks c L.day
theorem Li(L:QA)(c:Int):KR L () c=some (atR L c):=by
 unfold KR;rw[Ca.uy];rfl
def BX(r:Qz)(l:UV QP)(day:Int):ZS×Int×Int:=Ex.wU<|Ex.Yf r l day
def CP(L:QA)(x:QP):RO QA:=match L.rules with
 | none=>none
 | some r=>if r.Rates.length<=1000000/\L.duties.length<=1000000 then U1 ((BX r (L.duties++[{x with Day:=L.day}]) L.day).2.2==0) (BX r (L.duties++[{x with Day:=L.day}]) L.day).2.2 (some<|.ok {L with duties:=L.duties++[{x with Day:=L.day}]}) else none
theorem Ay(L:QA)(x:QP):Le (CP L x) (KO L () x):=by
 unfold CP;cases hr:L.rules with
 | none=>exact Le.none
 | some r=>
  refine Le.guard λh=> ?_;unfold KO;simp only[QU];refine Le.fW _ (U8 (by simp;omega)) ?_;rw[hr];simp only[DO];rw[Ex.SG h.1<|by omega];exact Le.check Le.rfl
def vw(l:UV QH):UV Int:=l.flatMap λe=>[e.First,e.Last+1]
open Bo in
def UP(P:Int->Bool)(pre:UV QH)(x:QH):Bool:=(x.First::vw pre).all λn=> !decide (has x n)||P n
theorem yH(n:Int):∀(l:UV Int) (a:Int),a<=n->∃m,m<=n/\a<=m/\(m=a∨m∈l)/\∀p∈l,p<=n->p<=m
 | [],a,h=>⟨a,h,pf _,.inl rfl,by simp⟩
 | p::l,a,h=>by
  by_cases hp:p<=n/\a<=p
  ·obtain⟨m,h1,h2,h3,h4⟩:=yH n l p hp.1;refine⟨m,h1,by omega,?_,?_⟩
   ·rcases h3 with h3 | h3
    ·exact .inr<|by simp[h3]
    ·exact .inr<|by simp[h3]
   ·intro q hq hqn;rcases y1.1 hq with rfl | hq
    ·exact h2
    ·exact h4 q hq hqn
  ·obtain⟨m,h1,h2,h3,h4⟩:=yH n l a h;refine⟨m,h1,h2,?_,?_⟩
   ·rcases h3 with h3 | h3
    ·exact .inl h3
    ·exact .inr<|by simp[h3]
   ·intro q hq hqn;rcases y1.1 hq with rfl | hq
    ·omega
    ·exact h4 q hq hqn
open Bo in
theorem kq{n m:Int}:∀(l:UV QH),(∀e∈l,has e n↔has e m)->cur l n=cur l m:=by
 intro l
 induction l using DM with
 | h0=>intro _;rfl
 | hs l x ih=>
  intro h;rw[De,De,ih λe he=>h e<|by simp[he]];have:=h x (by simp);by_cases hx:has x n
  ·rw[AT hx,AT<|this.1 hx]
  ·rw[RW hx,RW λk=>hx<|this.2 k]
open Bo in
theorem zj{P:Int->Bool}{pre:UV QH}{x:QH}(hP:∀n m,cur pre n=cur pre m->P n=P m):UP P pre x=true↔∀n,has x n->P n=true:=by
 unfold UP;rw[s8];constructor
 ·intro h n hn;obtain⟨m,h1,h2,h3,h4⟩:=yH n (vw pre) x.First hn.1;have hm:=h m (by rcases h3 with h3 | h3<;>simp[h3]);have hxm:has x m:=⟨h2,Int.le_trans h1 hn.2⟩
  have e:cur pre n=cur pre m:=kq pre λe he=>by
   have p1:e.First<=n->e.First<=m:=h4 e.First (by unfold vw;simp only[List.mem_flatMap];exact⟨e,he,by simp⟩);have p2:e.Last+1<=n->e.Last+1<=m:=h4 (e.Last+1) (by unfold vw;simp only[List.mem_flatMap];exact⟨e,he,by simp⟩);unfold has;omega
  rw[hP n m e];simpa[hxm] using hm
 ·intro h n _;by_cases hn:has x n
  ·simp[hn,h n hn]
  ·simp[hn]
open Bo in
def O1(l:UV QH)(n:Int):Bool:=match cur l n with | none=>false | some e=>e.Kind==0
open Bo in
theorem kf{n:Int}:O1 l n=true↔hand l n:=by
 unfold O1 hand;cases cur l n<;>simp
open Bo in
def qU(pre:UV QH)(x:QH):Int:=if !uA x then 1 else if x.Kind==0 then(if UP (λn=>(cur pre n).isNone) pre x then 0 else 5) else if UP (O1 pre) pre x then 0 else 4
open Bo in
theorem Ec(pre:UV QH)(x:QH):Vp pre x=qU pre x:=by
 unfold Vp qU;by_cases h1:uA x=false
 ·rw[AT h1];simp[h1]
 rw[RW h1];have h1' :uA x=true:=by simpa using h1
 simp only[h1',x7,By,RK];by_cases hk:x.Kind=0
 ·have a1:=zj (P:=λn=>(cur pre n).isNone) (pre:=pre) (x:=x) λn m e=>by rw[e]
  simp only[Option.isNone_iff_eq_none] at a1
  have hkb:(x.Kind==0)=true:=by simpa using hk
  rw[hkb,AT rfl,RW (c:=x.Kind≠0/\_) λh=>h.1 hk];by_cases ha:x.Kind=0/\∃n,has x n/\cur pre n≠none
  ·rw[AT ha,RW];intro h;obtain⟨_,n,h2,h3⟩:=ha;exact h3<|a1.1 h n h2
  ·rw[RW ha,AT];exact a1.2 λn hn=>ry λh=>ha ⟨hk,n,hn,h⟩
 ·have a1:=zj (P:=O1 pre) (pre:=pre) (x:=x) λn m e=>by unfold O1;rw[e]
  simp only[kf] at a1
  have hkb:(x.Kind==0)=false:=by simpa using hk
  rw[hkb,RW (c:=x.Kind=0/\_) λh=>hk h.1];simp only[By,RK];by_cases ha:x.Kind≠0/\∃n,has x n/\¬hand pre n
  ·rw[AT ha,RW];intro h;obtain⟨_,n,h2,h3⟩:=ha;exact h3<|a1.1 h n h2
  ·rw[RW ha,AT];exact a1.2 λn hn=>ry λh=>ha ⟨hk,n,hn,h⟩
def MN:UV QH->UV QH->Int
 | _,[]=>0
 | pre,x::l=>if qU pre x==0 then MN (pre++[x]) l else qU pre x
open Bo in
theorem yi{p:UV QH}{x:QH}(h:Cu Vp l p x):∀(r q:UV QH),p=q++r->WL Vp p->MN q (l.drop q.length)=Vp p x:=by
 obtain⟨post,rfl,_,hx⟩:=h;intro r
 induction r with
 | nil=>
  intro q e _;rw[rQ] at e
  subst e;have e1:(p++x::post).drop p.length=x::post:=by simp
  rw[e1];unfold MN;rw[<-Ec];have:(Vp p x==0)=false:=by simpa using hx
  rw[this];rfl
 | cons y r ih=>
  intro q e ho
  have e1:(p++x::post).drop q.length=y::(p++x::post).drop (q++[y]).length:=by
   rw[e];simp
  rw[e1];unfold MN;rw[<-Ec,ho q y r e];exact ih (q++[y]) (by rw[e];simp) ho
open Bo in
theorem zY(h:WL Vp l):∀(r q:UV QH),l=q++r->MN q r=0
 | [],q,_=>rfl
 | y::r,q,e=>by
  unfold MN;rw[<-Ec,h q y r e];exact zY h r (q++[y]) (by rw[e];simp)
def HQ(l:UV QH):Int:=MN [] l
open Bo in
theorem St(l:UV QH)(h:l.length<=256):∃b i,YE l=some (b,i,HQ l)/\(HQ l=0->WL Vp l):=by
 rcases PQ l h with⟨p,x,hb,hr⟩ | ⟨ho,hd,_,_,_,hr⟩
 ·have ho:WL Vp p:=by obtain⟨post,e,ho,_⟩:=hb;exact ho
  have e:HQ l=Vp p x:=yi hb p [] rfl ho;rw[e];exact⟨_,_,hr,λh0=>by obtain⟨post,_,_,hx⟩:=hb;exact absurd h0 hx⟩
 ·have e:HQ l=0:=zY ho l [] rfl;rw[e];exact⟨_,_,hr,λ_=>ho⟩
def Rc(L:QA)(x:QH):RO QA:=if L.stamps.length < 256 then U1 (HQ (L.stamps++[x])==0) (HQ<|L.stamps++[x]) (some<|.ok {L with stamps:=L.stamps++[x]}) else none
theorem Rb(L:QA)(x:QH):Le (Rc L x) (Kz L () x):=by
 refine Le.guard λh=> ?_;unfold Kz;refine Le.fW _ (U8 (by simp;omega)) ?_;obtain⟨b,i,hr,_⟩:=St (L.stamps++[x]) (by simp;omega);refine Le.fW _ hr<|Le.check Le.rfl
end
section
open Go.Dec
abbrev xw:UV So:=[111,107]
def kS(L:QA):RL:=some<|.ok (xw,L)
def wm(L:QA):UV Int->RL
 | [d]=>U1 (decide<|d<=65536) 2 (U1 (decide<|d≥L.day) 7<|kS {L with day:=d})
 | _=>none
theorem wk(L:QA)(n:UV Int):Le (wm L n) (KX L () n):=by
 rcases n with _ | ⟨d,_ | ⟨_,_⟩⟩
 ·exact Le.none
 ·unfold KX;exact Le.fW d rfl<|Le.dc<|Le.fW d rfl<|Le.dc<|Le.fW d rfl Le.rfl
 ·exact Le.none
def X4:UV Int->H1 (UV<|Int×Int)
 | []=>some []
 | [_]=>none
 | a::b::l=>(X4 l).map ((a,b):: ·)
def Iq:UV Int->UV (UV Int)
 | []=>[]
 | [a]=>[[a]]
 | a::b::l=>[a,b]::Iq l
theorem Nd(l:UV Int):∀(d a:Nat),l.length<=a+2*d->CU 2 l d a=Iq (l.drop a)
 | 0,a,h=>by
  have:l.drop a=[]:=pL (by omega);rw[this];rfl
 | d+1,a,h=>by
  unfold CU;have ih:=Nd l d (a+2) (by omega);by_cases ha:a < l.length
  ·rw[AT ha,ih];have e:l.drop (a+2)=(l.drop a).drop 2:=by rw[ng]
   rw[e];rcases hd:l.drop a with _ | ⟨x,_ | ⟨y,r⟩⟩
   ·have:(l.drop a).length=l.length - a:=rl;rw[hd] at this
    simp at this
    omega
   ·rfl
   ·rfl
  ·rw[RW ha];have:l.drop a=[]:=pL (by omega);rw[this];rfl
theorem Nf(l:UV Int)(h:l.length<=1000000):VP l 2=some (Iq l):=by
 unfold VP Uq;simp only[show decide ((2:Int) < 1)=false by decide,By,RK,DO];rw[AT<|by omega];have:=Nd l l.length 0 (by omega);rw[show((2:Int).toNat)=2 from rfl,this];rfl
theorem G4:∀{l:UV Int} {ps:UV (Int×Int)},X4 l=some ps->Iq l=ps.map (λp=>[p.1,p.2])/\2*ps.length=l.length
 | [],ps,h=>by simp only[X4,BY] at h;subst h;exact⟨rfl,rfl⟩
 | [_],ps,h=>by cases h
 | a::b::l,ps,h=>by
  simp only[X4,rj] at h
  obtain⟨qs,hq,rfl⟩:=h;obtain⟨h1,h2⟩:=G4 hq;exact⟨by simp[Iq,h1],by simp;omega⟩
theorem Ro(r:Qz):∀(ps:UV (Int×Int)) (acc:UV Zz),acc.length+ps.length<=1000000->
  Ys JP (ps.map λp=>[p.1,p.2]) {r with Rates:=acc}=some {r with Rates:=acc++ps.map λp=>⟨p.1,p.2⟩}
 | [],acc,_=>by simp[Ys]
 | p::ps,acc,h=>by
  simp only[s6,Ys]
  have hb:JP [p.1,p.2] {r with Rates:=acc}=some {r with Rates:=acc++[⟨p.1,p.2⟩]}:=by
   unfold JP;have e0:ZZ [p.1,p.2] 0=some p.1:=rfl;have e1:ZZ [p.1,p.2] 1=some p.2:=rfl;simp only[e0,e1,DO];rw[U8 (by simp at h ⊢;omega)];rfl
  rw[hb,DO,Ro r ps (acc++[(⟨p.1,p.2⟩:Zz)]) (by simp at h ⊢;omega)];simp
def Dz(a b c:Int)(ps:UV (Int×Int)):Qz:=⟨ps.map λp=>⟨p.1,p.2⟩,a,b,c⟩
def Iy(L:QA):UV Int->RL
 | a::b::c::ns=>if ns.length<=1000000 then(X4 ns).bind λps=>U1 L.rules.isNone 5 (U1 (Ex.Gx<|Dz a b c ps) 1<|kS {L with rules:=some (Dz a b c ps)}) else none
 | _=>none
theorem jx(L:QA)(n:UV Int):Le (Iy L n) (Z7 L () n):=by
 rcases n with _ | ⟨a,_ | ⟨b,_ | ⟨c,ns⟩⟩⟩
 ·exact Le.none
 ·exact Le.none
 ·exact Le.none
 refine Le.guard λh=> ?_;cases hp:X4 ns with
 | none=>exact Le.none
 | some ps=>
  obtain⟨h1,h2⟩:=G4 hp;unfold Z7;simp only[DO];refine Le.dc<|Le.fW a rfl<|Le.fW b rfl<|Le.fW c rfl<|Le.fW ns ?_<|Le.fW (Iq ns) (Nf ns h) ?_
  ·unfold ZW;rw[AT (by simp;omega)];simp only[ph,s5,BY];exact s4<|by simp
  rw[h1];refine Le.fW (Dz a b c ps) ?_ ?_
  ·have:=Ro ⟨[],a,b,c⟩ ps [] (by simp;omega);simpa[Dz] using this
  refine Le.fW _ (Ex.jW (by simp[Dz];omega)) ?_;cases hr:Ex.Gx (Dz a b c ps) with
  | false=>simp only[pG,Nm];rw[A8];exact Le.rfl
  | true=>
   simp only[x7,By,RK];have e1:(!Ex.Wm 0 0 17179869184|| !Ex.Wm 0 0 65536)=false:=by decide
   rw[e1,A8];exact Le.rfl
def yJ(L:QA):UV Int->RL
 | [c,w,p,m,o]=>U1 (decide<|m<=1073741824) 2 (HF (CW L ⟨0,0,c,w,o,0,m,p⟩) kS)
 | _=>none
theorem uD(L:QA)(n:UV Int):Le (yJ L n) (Kb L () n):=by
 rcases n with _ | ⟨c,_ | ⟨w,_ | ⟨p,_ | ⟨m,_ | ⟨o,_ | ⟨_,_⟩⟩⟩⟩⟩⟩
 iterate 5 exact Le.none
 ·unfold Kb;exact Le.fW m rfl<|Le.dc<|Le.fW c rfl<|Le.fW w rfl<|Le.fW p rfl<|Le.fW m rfl<|Le.fW o rfl<|Le.di (Ga _ _) λ_=>Le.rfl
 ·exact Le.none
def XQ(L:QA)(c:Int):Int:=(Qb L.pure c).getD 0
def O8(n s:Int):Int:=ZA<|Int.tdiv (ZA<|n*s) 10000
def filled(L:QA)(c pure:Int):RO QA:=if pure > 0 then HF (CP L ⟨0,0,(atR L c).1.Place,0,0,pure⟩) λL2=>some (.ok {L2 with pure:=Qv L2.pure c (ZA<|XQ L2 c+pure)}) else some<|.ok L
def ye(L:QA):UV Int->RL
 | [c,n,s]=>U1 (decide (1<=s)&&decide (s<=10000)) 2 (HF (CW L ⟨1,0,c,0,0,0,n,0⟩) λL1=>HF (filled L1 c<|O8 n s) kS)
 | _=>none
theorem uQ(L:QA)(n:UV Int):Le (ye L n) (Ko L () n):=by
 rcases n with _ | ⟨c,_ | ⟨n,_ | ⟨s,_ | ⟨_,_⟩⟩⟩⟩
 iterate 3 exact Le.none
 ·unfold Ko;refine Le.fW s rfl<|Le.fW (decide (1<=s)&&decide (s<=10000)) ?_<|Le.dc<|Le.fW c rfl<|Le.fW n rfl<|Le.di (Ga _ _) λL1=>Le.fW n rfl<|Le.fW s rfl ?_
  ·cases h:decide (1<=s)<;>rfl
  simp only[QU];unfold filled HF O8 XQ;by_cases hp:ZA (Int.tdiv (ZA<|n*s) 10000) > 0
  ·simp only[hp,pn,Nm];rw[show ZZ [c,n,s] 0=some c from rfl,DO,Li,DO];intro y e;cases hd:CP L1 ⟨0,0,(atR L1 c).1.Place,0,0,ZA<|Int.tdiv (ZA<|n*s) 10000⟩ with
   | none=>rw[hd] at e;cases e
   | some r=>
    rw[hd] at e
    rw[Ay _ _ r hd];cases r<;>exact e
  ·simp only[hp,po,By,RK];exact Le.rfl
 ·exact Le.none
def M8(L:QA)(c:ZQ)(amount:Int):H1 Int:=if amount==c.Amount then some (XQ L c.Number) else Gy .i64 (ZA<|XQ L c.Number*amount) c.Amount
theorem zA(L:QA)(c:ZQ)(amount:Int):Le (M8 L c amount) (J2 L () c amount):=by
 unfold M8 J2;refine Le.ite Le.rfl<|Le.of ?_;unfold XQ;cases Gy .i64 (ZA<|(Qb L.pure c.Number).getD 0*amount) c.Amount<;>rfl
def On(L:QA)(fro to n:Int):RO QA:=if n==0||fro==to then some (.ok L) else HF (CP L ⟨1,0,fro,to,L.ids,n⟩) λL1=>HF (CP L1 ⟨2,0,to,0,L1.ids,n⟩) λL2=>some<|.ok {L2 with ids:=ZA (L2.ids+1)}
theorem zH(L:QA)(fro to n:Int):Le (On L fro to n) (J3 L () fro to n):=by
 unfold J3;exact Le.ite Le.rfl<|Le.di (Ay _ _) λ_=>Le.di (Ay _ _) λ_=>Le.rfl
def Dy(L:QA)(c v:Int):QA:={L with pure:=Qv L.pure c v}
def j2(L:QA):UV Int->RL
 | [a,b,n]=>HF (CW L ⟨2,0,a,b,0,0,n,0⟩) λL1=>(M8 L1 (atR L a).1 n).bind λp=>HF (On L1 (atR L a).1.Place (atR L b).1.Place p) λL2=>
  kS (Dy (Dy L2 a<|ZA<|XQ L2 a - p) b<|ZA<|XQ (Dy L2 a<|ZA<|XQ L2 a - p) b+p)
 | _=>none
theorem vr(L:QA)(n:UV Int):Le (j2 L n) (Km L () n):=by
 rcases n with _ | ⟨a,_ | ⟨b,_ | ⟨n,_ | ⟨_,_⟩⟩⟩⟩
 iterate 3 exact Le.none
 ·unfold Km;refine Le.fW a rfl<|Le.fW _ (Li _ _)<|Le.fW b rfl<|Le.fW _ (Li _ _)<|Le.fW a rfl<|Le.fW b rfl<|Le.fW n rfl<|Le.di (Ga _ _) λL1=>Le.fW n rfl ?_;refine Le.bind (zA _ _ _) λp=>Le.di (zH _ _ _ _) λL2=>Le.fW a rfl ?_;simp only[QU];refine Le.fW b rfl Le.rfl
 ·exact Le.none
def qc(L:QA):UV Int->RL
 | [a,p]=>HF (CW L ⟨4,0,a,0,0,0,0,p⟩) λL1=>HF (On L1 (atR L a).1.Place p<|XQ L1 a) kS
 | _=>none
theorem y2(L:QA)(n:UV Int):Le (qc L n) (Ka L () n):=by
 rcases n with _ | ⟨a,_ | ⟨p,_ | ⟨_,_⟩⟩⟩
 iterate 2 exact Le.none
 ·unfold Ka;exact Le.fW a rfl<|Le.fW _ (Li _ _)<|Le.fW a rfl<|Le.fW p rfl<|Le.di (Ga _ _) λL1=>Le.fW p rfl<|Le.fW a rfl<|Le.di (zH _ _ _ _) λL2=>Le.rfl
 ·exact Le.none
def RN(k:Int)(L:QA):UV Int->RL
 | [c,p,t]=>HF (CW L ⟨k,0,c,0,p,t,0,0⟩) kS
 | _=>none
theorem vl(L:QA)(n:UV Int):Le (RN 5 L n) (Kl L () n):=by
 rcases n with _ | ⟨a,_ | ⟨b,_ | ⟨n,_ | ⟨_,_⟩⟩⟩⟩
 iterate 3 exact Le.none
 ·unfold Kl;exact Le.fW a rfl<|Le.fW b rfl<|Le.fW n rfl<|Le.di (Ga _ _) λ_=>Le.rfl
 ·exact Le.none
theorem kK(L:QA)(n:UV Int):Le (RN 6 L n) (KP L () n):=by
 rcases n with _ | ⟨a,_ | ⟨b,_ | ⟨n,_ | ⟨_,_⟩⟩⟩⟩
 iterate 3 exact Le.none
 ·unfold KP;exact Le.fW a rfl<|Le.fW b rfl<|Le.fW n rfl<|Le.di (Ga _ _) λ_=>Le.rfl
 ·exact Le.none
def yY(L:QA):UV Int->RL
 | [c,p]=>HF (CW L ⟨7,0,c,0,p,0,0,0⟩) kS
 | _=>none
theorem uN(L:QA)(n:UV Int):Le (yY L n) (Kn L () n):=by
 rcases n with _ | ⟨a,_ | ⟨p,_ | ⟨_,_⟩⟩⟩
 iterate 2 exact Le.none
 ·unfold Kn;exact Le.fW a rfl<|Le.fW p rfl<|Le.di (Ga _ _) λ_=>Le.rfl
 ·exact Le.none
def yy(L:QA):UV Int->RL
 | [c,w]=>HF (CW L ⟨8,0,c,0,0,0,0,w⟩) kS
 | _=>none
theorem uZ(L:QA)(n:UV Int):Le (yy L n) (Kp L () n):=by
 rcases n with _ | ⟨a,_ | ⟨p,_ | ⟨_,_⟩⟩⟩
 iterate 2 exact Le.none
 ·unfold Kp;exact Le.fW a rfl<|Le.fW p rfl<|Le.di (Ga _ _) λ_=>Le.rfl
 ·exact Le.none
def Ae(k:Int)(L:QA):UV Int->RL
 | [a,b]=>HF (Rc L ⟨k,a,b,0⟩) kS
 | _=>none
theorem yU(L:QA)(n:UV Int):Le (Ae 0 L n) (KZ L () n):=by
 rcases n with _ | ⟨a,_ | ⟨p,_ | ⟨_,_⟩⟩⟩
 iterate 2 exact Le.none
 ·unfold KZ;exact Le.fW a rfl<|Le.fW p rfl<|Le.di (Rb _ _) λ_=>Le.rfl
 ·exact Le.none
theorem jq(L:QA)(n:UV Int):Le (Ae 2 L n) (KY L () n):=by
 rcases n with _ | ⟨a,_ | ⟨p,_ | ⟨_,_⟩⟩⟩
 iterate 2 exact Le.none
 ·unfold KY;exact Le.fW a rfl<|Le.fW p rfl<|Le.di (Rb _ _) λ_=>Le.rfl
 ·exact Le.none
def Rn(L:QA)(place num part:Int):RO QA:=if part > 0 then HF (CP L ⟨3,0,place,0,0,part⟩) λL2=>some (.ok<|Dy L2 num<|ZA<|XQ L2 num - part) else some<|.ok L
def Az(L:QA)(num amount:Int):RO (Qn×QA):=
 U1 ((atR L num).2==0) (atR L num).2 (HF (CW L ⟨3,0,num,0,0,0,amount,0⟩) λL1=>(M8 L1 (atR L num).1 amount).bind λp=>HF (Rn L1 (atR L num).1.Place num p) λL2=>
  (Gy .i64 (ZA<|p*10000) amount).bind λlo=>(Gy .i64 (ZA<|ZA (ZA (p*10000)+amount) - 1) amount).bind λhi=>some<|.ok (⟨(atR L num).1,amount,⟨lo,hi⟩⟩,L2))
theorem qW(L:QA)(num amount:Int):Le (Az L num amount) (JC L () num amount):=by
 unfold JC;refine Le.fW _ (Li _ _)<|Le.check<|Le.di (Ga _ _) λL1=>Le.bind (zA _ _ _) λp=> ?_;unfold Rn HF;by_cases hp:p > 0
 ·simp only[hp,pn,Nm];intro y e;cases hd:CP L1 ⟨3,0,(atR L num).1.Place,0,0,p⟩ with
  | none=>rw[hd] at e;cases e
  | some r=>
   rw[hd] at e
   rw[Ay _ _ r hd];cases r<;>exact e
 ·simp only[hp,po,By,RK];exact Le.rfl
def NT:UV (Int×Int)->QT->QA->RO (QT×QA)
 | [],b,L=>some (.ok (b,L))
 | x::xs,b,L=>HF (Az L x.1 x.2) λr=>if b.Draughts.length<=1000000 then NT xs {b with Draughts:=b.Draughts++[r.1]} r.2 else none
theorem IH:∀(ps:UV (Int×Int)) (b:QT) (L:QA),Le (NT ps b L) (MM (VC ()) (ps.map λp=>[p.1,p.2]) (b,L))
 | [],b,L=>Le.rfl
 | p::ps,b,L=>by
  simp only[s6,MM,NT];have hb:VC () [p.1,p.2] (b,L)=Qt (JC L () p.1 p.2) (λq=>some<|.pan q) λr=>(Jf b.Draughts [r.1]).bind λl=>QU {b with Draughts:=l} λx=>some (.ok (x,r.2)):=rfl;rw[hb];intro y hy;cases hd:Az L p.1 p.2 with
  | none=>rw[hd] at hy;cases hy
  | some r=>
   rw[hd] at hy
   rw[qW _ _ _ _ hd];cases r with
   | pan q=>exact hy
   | ok r=>
    by_cases h:b.Draughts.length<=1000000
    ·simp only[HF,Qt,AT h] at hy
     simp only[Qt,QU];rw[U8 (by simp;omega)];exact IH ps _ _ y hy
    ·simp only[HF,Qt,RW h] at hy;cases hy
def uz(b:QT):Int:=ZA<|Int.tdiv (Bo.ji b b.Water).Lo 700
open Bo in
theorem Tq{b:QT}(hl:b.Draughts.length<=1000)(hv:X1 b=true):∃k,Xb b 700=some (uz b,k,0):=by
 obtain⟨x,he,hx⟩:=EL b hl;have h:=(Gn b).1 hv;unfold Xb;rw[he,hv,hx hv];have e:QV 700 1 1048576=true:=by decide
 simp only[DO,x7,By,RK,e];rw[Mg h h.water.1 h.water.2];exact⟨_,rfl⟩
def El(L:QA):UV Int->RL
 | num::w::a::z::ds=>if ds.length<=1000000 then(X4 ds).bind λps=>U1 (Qb L.batches num).isNone 5 (HF (NT ps ⟨[],w,⟨0,0⟩,false,false⟩ L) λr=>
  if r.1.Draughts.length<=1000 then U1 (Bo.X1 r.1) 1 (U1 (decide<|ZA (ZA (z - a)+1)<=uz r.1) 12<|HF (Rc r.2 ⟨1,a,z,num⟩) λL2=>kS {L2 with batches:=Qv L2.batches num r.1}) else none) else none
 | _=>none
theorem jD(L:QA)(n:UV Int):Le (El L n) (KQ L () n):=by
 rcases n with _ | ⟨num,_ | ⟨w,_ | ⟨a,_ | ⟨z,ds⟩⟩⟩⟩
 iterate 4 exact Le.none
 refine Le.guard λh=> ?_;cases hp:X4 ds with
 | none=>exact Le.none
 | some ps=>
  obtain⟨h1,h2⟩:=G4 hp;unfold KQ;simp only[DO,QU];refine Le.fW num rfl<|Le.fW a rfl<|Le.fW z rfl ?_;have e:(!(Qb L.batches num).isSome)=(Qb L.batches num).isNone:=by cases Qb L.batches num<;>rfl
  rw[e];refine Le.dc<|Le.fW w rfl<|Le.fW ds ?_<|Le.fW (Iq ds) (Nf ds h) ?_
  ·unfold ZW;rw[AT (by simp;omega)];simp only[ph,s5,BY];exact s4<|by simp
  rw[h1];refine Le.di (IH _ _ _) λr=>Le.guard λhr=> ?_;rcases Bo.qg r.1 hr with⟨hv,he⟩ | ⟨hv,x,he,_⟩
  ·refine Le.fW _ he ?_;rw[hv,A8];exact Le.rfl
  ·have hvb:=(Bo.Gn r.1).2 hv;refine Le.fW _ he ?_;rw[hvb];obtain⟨k,hk⟩:=Tq hr hvb;refine Le.check (e:=0) ?_;refine Le.fW _ hk ?_;exact Le.dc<|Le.di (Rb _ _) λL2=>Le.rfl
def wT(L:QA):UV Int->RL
 | [a]=>HF (CP L ⟨6,0,0,0,0,a⟩) kS
 | _=>none
theorem wS(L:QA)(n:UV Int):Le (wT L n) (Kw L () n):=by
 rcases n with _ | ⟨a,_ | ⟨_,_⟩⟩
 ·exact Le.none
 ·unfold Kw;exact Le.fW a rfl<|Le.di (Ay _ _) λ_=>Le.rfl
 ·exact Le.none
end
section
open Go.Dec
def OM(w:UV So)(l:UV Int)(L:QA):RL:=if w.length<=1000/\l.length<=100000/\l.all LP=true then some (.ok (Xl w l,L)) else none
theorem Rh(w:UV So)(l:UV Int)(L:QA):Le (OM w l L) ((JX w l).bind λr=>some<|.ok (r,L)):=Le.guard λh=>Le.fW _ (Rm h.1 h.2.1 h.2.2) Le.rfl
def TT(L:QA):UV Int->RL
 | [c]=>U1 ((atR L c).2==0) (atR L c).2 (OM [99,97,115,107] [(atR L c).1.Amount,(atR L c).1.Age,(atR L c).1.Owner,(atR L c).1.Creditor,XQ L c] L)
 | _=>none
theorem OH(L:QA)(n:UV Int):Le (TT L n) (Z5 L () n):=by
 rcases n with _ | ⟨c,_ | ⟨_,_⟩⟩
 ·exact Le.none
 ·unfold Z5;exact Le.fW c rfl<|Le.fW _ (Li _ _)<|Le.check<|Le.fW c rfl<|Rh _ _ _
 ·exact Le.none
def Lh(L:QA):H1 ZS:=match L.rules with
 | none=>none
 | some r=>if r.Rates.length<=1000000 then some (BX r L.duties L.day).1 else none
theorem zh(L:QA):Le (Lh L) (J4 L ()):=by
 unfold Lh J4;cases hr:L.rules with
 | none=>exact Le.none
 | some r=>
  refine Le.guard λh=> ?_;rw[DO];exact Le.fW _ (Ex.SG h<|by omega) Le.rfl
def TU(L:QA):UV Int->RL
 | [c]=>U1 (decide<|c < 16) 2 ((Lh L).bind λb=>(Yg 16 c).bind λj=>OM [98,111,110,100] [b.Bonds j] L)
 | _=>none
theorem OI(L:QA)(n:UV Int):Le (TU L n) (Z6 L () n):=by
 rcases n with _ | ⟨c,_ | ⟨_,_⟩⟩
 ·exact Le.none
 ·unfold Z6;exact Le.fW c rfl<|Le.dc<|Le.bind (zh _) λb=>Le.fW c rfl<|Le.bind Le.rfl λj=>Rh _ _ _
 ·exact Le.none
def Af(L:QA)(_:UV Int):RL:=(Lh L).bind λb=>OM [100,117,101] [b.Due,b.Paid] L
theorem Iv(L:QA)(n:UV Int):Le (Af L n) (KF L () n):=by
 unfold KF;exact Le.bind (zh _) λb=>Rh _ _ _
def Lt(l:UV QH)(n:Int):H1 (Int×Int):=if l.length<=256 then some (if HQ l==0 then Bo.Mf l n else(0,HQ l)) else none
theorem jg(l:UV QH)(n:Int):Le (Lt l n) (Vg l n):=by
 refine Le.guard λh=> ?_;obtain⟨b,i,hr,ho⟩:=St l h;cases he:HQ l==0 with
 | true=>exact Le.of (Bo.Ik n h<|ho<|by simpa using he)
 | false=>exact Le.of<|Bo.zu n hr<|by simpa using he
def Sv(L:QA):UV Int->RL
 | [c]=>(Lt L.stamps c).bind λr=>U1 (r.2==0) r.2 (OM [98,97,116,99,104] [r.1] L)
 | _=>none
theorem Ly(L:QA)(n:UV Int):Le (Sv L n) (Zv L () n):=by
 rcases n with _ | ⟨c,_ | ⟨_,_⟩⟩
 ·exact Le.none
 ·unfold Zv;exact Le.fW c rfl<|Le.bind (jg _ _) λr=>Le.check<|Rh _ _ _
 ·exact Le.none
def yR(b:QT):Qm:=⟨Bo.ji b b.Water,Bo.vg b b.Water,Bo.Fs b.Draughts λd=>d.From.Age,λi=>Bo.Fs b.Draughts λd=>d.From.Woods i,λi=>Bo.Fs b.Draughts λd=>d.From.Places i,(Bo.MH b.Draughts).length⟩
open Bo in
theorem Ir{b:QT}{x:Qm}{c:Qq}(h:zk b b.Water x)(hc:wK c):Fc b x c=Fc b (yR b) c:=by
 unfold Fc;rw[h.age,h.casks,h.str];by_cases h0:c.Kind=0
 ·rw[AT h0,AT h0];rfl
 rw[RW h0,RW h0];by_cases h1:c.Kind=1
 ·rw[AT h1,AT h1,h.woods _ (by have:=hc.what<|.inl h1;omega)];rfl
 rw[RW h1,RW h1];by_cases h2:c.Kind=2
 ·rw[AT h2,AT h2,h.places _ (by have:=hc.what<|.inr h2;omega)];rfl
 rw[RW h2,RW h2];rfl
def Eg(b:QT)(c:Qq):H1 (Bool×Int):=if b.Draughts.length<=1000 then some (if Bo.X1 b&&Bo.Fm c then(Bo.Fc b (yR b) c,0) else(true,1)) else none
open Bo in
theorem yw{β:Type}(b:QT)(c:Qq)(k:Bool×Int->H1 β)(g:UV Int×Int->H1 β)(h:∀l e,Le (k (decide<|l.length=0,e))<|g (l,e)):Le ((Eg b c).bind k) ((UN b [c]).bind g):=by
 unfold Eg;by_cases hb:b.Draughts.length<=1000
 ·rw[AT hb,DO];have ec:Hm [c]=Fm c:=by simp[Hm]
  rcases qT b [c] hb (by simp) with⟨hv,hr⟩ | ⟨hv,hc,hall,x,hx,_,hr⟩
  ·rw[ec] at hv
   rw[hr,hv];exact h [] 1
  ·rw[ec] at hc
   rw[hr,(Gn b).2 hv,hc];simp only[Bool.and_self,Nm,DO];rw[<-Ir hx (hall c<|by simp)];cases ht:Fc b x c with
   | true=>
    have e:Bo.liesAt (Fc b x) 0 [c]=[]:=by simp[Bo.liesAt,ht]
    rw[e];exact h [] 0
   | false=>
    have e:Bo.liesAt (Fc b x) 0 [c]=[0]:=by simp[Bo.liesAt,ht]
    rw[e];exact h [0] 0
 ·rw[RW hb];exact Le.none
abbrev jh:UV So:=[116,114,117,101]
abbrev Im:UV So:=[102,97,108,115,101]
theorem ub(b:Bool):Um b=some (if b then jh else Im):=by cases b<;>rfl
def Gu(L:QA):UV Int->RL
 | [n,k,w,v]=>match Qb L.batches n with
  | none=>some (.pan ⟨4⟩)
  | some b=>(Eg b ⟨k,w,v⟩).bind λr=>U1 (r.2==0) r.2 (some<|.ok (if r.1 then jh else Im,L))
 | _=>none
theorem L3(L:QA)(n:UV Int):Le (Gu L n) (Zx L () n):=by
 rcases n with _ | ⟨n,_ | ⟨k,_ | ⟨w,_ | ⟨v,_ | ⟨_,_⟩⟩⟩⟩⟩
 iterate 4 exact Le.none
 ·unfold Zx Gu;refine Le.fW n rfl ?_;simp only[QU];cases hb:Qb L.batches n with
  | none=>
   simp only[nG];rw[C0];exact Le.rfl
  | some b=>
   simp only[nX];rw[C0];simp only[Nm,Qt];refine Le.fW k rfl<|Le.fW w rfl<|Le.fW v rfl ?_;rw[nO];refine yw b ⟨k,w,v⟩ _ _ λl e=> ?_;refine Le.check ?_;rw[ub];refine Le.of ?_;have:((l.length:Int)==0)=decide (l.length=0):=by rw[nW];simp
   rw[this];rfl
 ·exact Le.none
def Sw(L:QA):UV Int->RL
 | [c]=>U1 ((Ca.Re L.casks c L.day).2==0) (Ca.Re L.casks c L.day).2 (OM [102,105,108,108,115] (Ca.Re L.casks c L.day).1 L)
 | _=>none
theorem Lz(L:QA)(n:UV Int):Le (Sw L n) (Zw L () n):=by
 rcases n with _ | ⟨c,_ | ⟨_,_⟩⟩
 ·exact Le.none
 ·unfold Zw;exact Le.fW c rfl<|Le.fW _ (Ca.E0 _ _ _)<|Le.check<|Rh _ _ _
 ·exact Le.none
structure Wd where
 word:List UInt8
 least:Int
 each:Int
 does:QA->List Int->RL
def Sr:UV Wd:=[
 ⟨[100,97,121],1,0,wm⟩,⟨[114,117,108,101,115],3,2,Iy⟩,⟨[109,97,107,101],5,0,yJ⟩,⟨[102,105,108,108],3,0,ye⟩,⟨[114,97,99,107],3,0,j2⟩,
 ⟨[99,97,114,114,121],2,0,qc⟩,⟨[115,101,108,108],3,0,RN 5⟩,⟨[112,108,101,100,103,101],3,0,RN 6⟩,⟨[102,114,101,101],2,0,yY⟩,⟨[99,104,97,114],2,0,yy⟩,
 ⟨[115,116,97,109,112,115],2,0,Ae 0⟩,⟨[115,112,111,105,108],2,0,Ae 2⟩,⟨[98,111,116,116,108,101],4,2,El⟩,⟨[112,97,121],1,0,wT⟩,⟨[99,97,115,107],1,0,TT⟩,
 ⟨[98,111,110,100],1,0,TU⟩,⟨[100,117,101],0,0,Af⟩,⟨[119,104,111,115,101],1,0,Sv⟩,⟨[99,108,97,105,109],4,0,Gu⟩,⟨[102,105,108,108,115],1,0,Sw⟩]
def RG(w:UV So):H1 Wd:=Sr.find? λd=>d.word==w
inductive Lm:List Wd->List (List UInt8×QX)->Prop where
 | nil:Lm [] []
 | cons {w:List UInt8} {a b:Int} {f:QA->List Int->RL} {g:QA×Unit×List Int->RL} {l:List Wd} {k:List (List UInt8×QX)} (h:∀L n,Le (f L n)<|g (L,(),n)) (r:Lm l k):Lm (⟨w,a,b,f⟩::l) ((w,⟨⟨a,b⟩,g⟩)::k)
theorem Lm.get{l:UV Wd}{k:UV (UV So×QX)}(h:Lm l k)(w:UV So):match l.find? (λd=>d.word==w) with
  | none=>Qb k w=none
  | some d=>∃g,Qb k w=some ⟨⟨d.least,d.each⟩,g⟩/\∀L n,Le (d.does L n) (g (L,(),n)):=by
 induction h with
 | nil=>rfl
 | @cons w' a b f g l k h r ih=>
  by_cases hw:w' =w
  ·subst hw;simp only[ri,rk];exact⟨g,by simp[Qb],h⟩
  ·have e:(w' ==w)=false:=by simpa using hw
   have e' :(w==w')=false:=by simpa using λh=>hw h.symm
   simp only[ri,e];have em:Qb ((w',(⟨⟨a,b⟩,g⟩:QX))::k) w=Qb k w:=by simp[Qb,e']
   rw[em];exact ih
theorem yr:∃k,Wz=some k/\Lm Sr k:=by
 refine⟨_,by unfold Wz;simp only[QU];rfl,?_⟩;exact .cons wk<|.cons jx<|.cons uD<|.cons uQ<|.cons vr<|.cons y2<|.cons vl<|.cons kK<|.cons uN<|.cons uZ<|.cons yU<|.cons jq<|.cons jD<|.cons wS<|.cons OH<|.cons OI<|.cons Iv<|.cons Ly<|.cons L3<|.cons Lz .nil
end
section
open Go.Dec
def FB(least each:Int)(n:Int):Bool:=if each==0 then n==least else decide (n > least)&&(n - least)%each==0
theorem uO(a b:Int)(n:Nat)(ha:0<=a/\a<=100)(hn:n<=1000000):UH ⟨a,b⟩ (n:Int)=some (FB a b n):=by
 unfold UH FB;simp only;cases h:b==0 with
 | true=>rfl
 | false=>
  have hb0:b≠0:=by simpa using h
  by_cases hg:(n:Int) > a
  ·simp only[hg,pn,Nm,rM,By,RK];unfold L8;rw[RW hb0,Qp (by omega) (by omega),mC<|by omega];rfl
  ·simp only[hg,po,By,RK,nj];rfl
def LM(L:QA)(line:UV So):RL:=
 if line.length > 1000 then some (.pan ⟨3⟩) else match SW line with
  | .pan q=>some (.pan q)
  | .ok w=>match RG w.1 with
   | none=>some (.pan ⟨8⟩)
   | some d=>U1 (FB d.least d.each w.2.length) 8 (U1 (!L.rules.isNone||w.1==[100,97,121]||w.1==[114,117,108,101,115]) 6
    (if L.casks.length<=1000000/\L.duties.length<=1000000/\L.stamps.length<=1000000 then d.does L w.2 else none))
def yp(L:QA)(line:UV So):H1 (UV So×Int×QA):=match LM L line with
 | none=>none
 | some (.pan q)=>some ([],q.e,L)
 | some (.ok r)=>some (r.1,0,r.2)
theorem vY:∀d∈Sr,(0<=d.least/\d.least<=100)/\(0<=d.each/\d.each<=100):=by
 unfold Sr;simp only[y1,lO,eD];rintro d (rfl | rfl | rfl | rfl | rfl | rfl | rfl | rfl | rfl | rfl | rfl | rfl | rfl | rfl | rfl | rfl | rfl | rfl | rfl | rfl)<;>exact⟨⟨by decide,by decide⟩,by decide,by decide⟩
theorem OT{line:UV So}{w:UV So×UV Int}(h:SW line= .ok w):w.2.length<=line.length:=by
 have hl:∀s:UV So,(Wl s).length<=s.length+1:=by
  intro s
  induction s with
  | nil=>simp[Wl]
  | cons c l ih=>
   unfold Wl;split
   ·simpa using ih
   ·split<;>rename_i he
    ·simp
    ·rw[he] at ih;simp at ih ⊢;omega
 have:=hl line;unfold SW at h
 split at h
 ·cases h
 ·rename_i p ps he;rw[he] at this
  split at h
  ·simp only[Out.ok.injEq] at h
   subst h;simp at this ⊢
   omega
  ·cases h
theorem ky{L:QA}(h:L.casks.length<=1000000/\L.duties.length<=1000000/\L.stamps.length<=1000000):YK L=some L:=by
 unfold YK JB VZ VB;rw[U8 (by simp;omega),U8 (by simp;omega),U8 (by simp;omega)];rfl
theorem Ag{α:Type}{l:UV α}{i:Nat}{x:α}(h:l[i]? =some x):l.set i x=l:=by
 obtain⟨hi,rfl⟩:=AC.1 h;exact eB hi
theorem wD{A:UV Qw}{i:Nat}{L:QA}(hA:A[i]? =some ⟨L,true⟩)(line:UV So):Le ((yp L line).map λr=>(r.1,r.2.1,A.set i ⟨r.2.2,true⟩)) (W1 A (some i) line):=by
 have hself:=Ag hA;unfold yp LM W1;simp only[ny,By,RK,DO,hA,x7];by_cases hl:line.length > 1000
 ·have e:decide ((line.length:Int) > 1000)=true:=rB (by omega);rw[AT hl,e];simp only[dO,hself];exact Le.rfl
 have e:decide ((line.length:Int) > 1000)=false:=rC (by omega);rw[RW hl,e,kI line<|by omega];simp only[By,RK];cases hr:SW line with
 | pan q=>simp only[dO,hself];exact Le.rfl
 | ok w=>
  have hwl:=OT hr;obtain⟨k,hk,hrows⟩:=yr;have hg:=hrows.get w.1;simp only[Qt,hk,DO];cases hw:RG w.1 with
  | none=>
   unfold RG at hw
   rw[hw] at hg
   rw[hg];simp only[dO,hself];exact Le.rfl
  | some d=>
   have hd:d∈Sr:=rZ hw;unfold RG at hw
   rw[hw] at hg
   obtain⟨g,hg,hle⟩:=hg;rw[hg];obtain⟨ha,_⟩:=vY d hd;unfold W0;simp only;rw[uO _ _ _ ha (by omega),DO,C0];unfold U1;cases hf:FB d.least d.each w.2.length with
   | false=>simp only[By,RK,dO,hself];exact Le.rfl
   | true=>
    simp only[Nm,Qt]
    have ez:((if(!L.rules.isNone)=true then some true else some (w.1==([100,97,121]:UV So))).bind λz1=>if z1=true then some true else some (w.1==([114,117,108,101,115]:UV So)))=some (!L.rules.isNone||w.1==[100,97,121]||w.1==[114,117,108,101,115]):=by
     cases L.rules.isNone<;>cases w.1==([100,97,121]:UV So)<;>rfl
    rw[<-Option.bind_assoc,ez,DO,C0];cases hs:(!L.rules.isNone||w.1==[100,97,121]||w.1==[114,117,108,101,115]) with
    | false=>show Le (some ([],(6:Int),A.set i ⟨L,true⟩)) _;rw[hself];exact Le.rfl
    | true=>
     simp only[Nm];by_cases hc:L.casks.length<=1000000/\L.duties.length<=1000000/\L.stamps.length<=1000000
     ·rw[AT hc,ky hc];intro y hy;cases hx:d.does L w.2 with
      | none=>rw[hx] at hy;cases hy
      | some r=>
       rw[hx] at hy
       simp only[DO,hle _ _ _ hx];cases r with
       | pan q=>have hy:some (([]:UV So),q.e,A.set i ⟨L,true⟩)=some y:=hy;rw[hself] at hy;exact hy
       | ok r=>exact hy
     ·rw[RW hc];exact Le.none
def XU:QA:=⟨0,none,[],[],[],[],[],0⟩
def X3(s:UV So)(e:Int):UV So:=if e==0 then s else Xl TR [e]
def XY:UV (UV So)->QA->UV So->H1 (QA×UV So)
 | [],L,out=>some (L,out)
 | x::xs,L,out=>match yp L x with
  | none=>none
  | some r=>if LP r.2.1=true/\out.length+(X3 r.1 r.2.1).length<=1000000000 then XY xs r.2.2 (out++(X3 r.1 r.2.1++[10])) else none
theorem EC:∀(l:UV (UV So)) (L:QA) (out:UV So),Le ((XY l L out).map λr=>([(⟨r.1,true⟩:Qw)],r.2)) (Ys (Hf<|some 0) l ([⟨L,true⟩],out))
 | [],L,out=>Le.rfl
 | x::xs,L,out=>by
  unfold XY Ys;cases hd:yp L x with
  | none=>exact Le.none
  | some r=>
   by_cases hc:LP r.2.1=true/\out.length+(X3 r.1 r.2.1).length<=1000000000
   ·simp only;rw[AT hc];refine Le.fW ([⟨r.2.2,true⟩],out++(X3 r.1 r.2.1++[10])) ?_<|EC xs _ _;have h1:=wD (A:=[⟨L,true⟩]) (i:=0) rfl x (r.1,r.2.1,[⟨r.2.2,true⟩]) (by rw[hd];rfl);unfold Hf;rw[h1,DO];have hl:=hc.2;unfold X3 at hl ⊢
    cases he:r.2.1==0 with
    | true=>
     have:(r.2.1 != 0)=false:=by simpa using he
     simp only[this,By,RK,Nm];rw[he] at hl
     simp only[Nm] at hl
     unfold We;rw[HY (by omega),DO,HY (by simp;omega)];simp
    | false=>
     have:(r.2.1 != 0)=true:=by simpa using he
     simp only[this,Nm,By,RK];rw[he] at hl
     simp only[By,RK] at hl
     rw[Rm (by decide) (by simp) (by simpa using hc.1),DO];unfold We;rw[HY (by omega),DO,HY (by simp;omega)];simp
   ·simp only;rw[RW hc];exact Le.none
def OZ(script:UV So):H1 (UV So×Int):=if script.length > 262144 then some ([],3) else if !(script==[])&& !Dc script then some ([],8) else(XY (S6 script) XU []).map λr=>(r.2,0)
theorem E1(script:UV So):Le (OZ script) (J7 script):=by
 unfold OZ J7;by_cases hl:script.length > 262144
 ·have e:decide ((script.length:Int) > 262144)=true:=rB (by omega);rw[AT hl,e];exact Le.rfl
 have e:decide ((script.length:Int) > 262144)=false:=rC (by omega);rw[RW hl,e];simp only[By,RK]
 have ez:(if(!(script==([]:UV So)))=true then(Jv script [10]).bind λh=>some (!h) else some false)=some (!(script==[])&& !Dc script):=by
  cases script==([]:UV So) with
  | true=>rfl
  | false=>simp only[pG,Nm];rw[Au _<|by omega];rfl
 rw[ez,DO];refine Le.ite Le.rfl ?_;refine Le.fW (some 0,[⟨XU,true⟩]) rfl ?_;intro y hy;cases hp:XY (S6 script) XU [] with
 | none=>rw[hp] at hy;cases hy
 | some r=>
  have:=EC (S6 script) XU [] ([⟨r.1,true⟩],r.2) (by rw[hp];rfl);rw[this,DO];rw[hp] at hy
  exact hy
end
end Go.Proofs.YtijhfeohbhedkaaGreatDoor
section
set_option maxRecDepth 100000
namespace Go.Proofs.YtijhfeohbhedkaaGreatDoor
open Go.Dec
theorem OO:OZ JJ.1=some (JJ.2,0):=by decide+kernel
theorem AN:UI=some true:=by
 unfold UI;rw[E1 _ _ OO]
 decide+kernel
end Go.Proofs.YtijhfeohbhedkaaGreatDoor
end
namespace Go.Proofs.YtijhfeohbhedkaaGreatDoor.Ca
section
open Go.Dec
inductive zl(l:List Zh)(x:Ev)(num:Int):List Zh->Prop
 | make (k:x.Kind=0) (f:YY l x.Cask=none) (n:l.length < 256):zl l x num (l++[uC x])
 | fill (k:x.Kind=1) (i:Nat) (c:Zh) (f:YY l x.Cask=some i) (h:l[i]? =some c) (r:c.C.Amount+x.Amount<=c.C.Room):zl l x num (l.set i<|Wv c (Sf num) x.Amount)
 | rack (k:x.Kind=2) (i:Nat) (c:Zh) (f:YY l x.Cask=some i) (h:l[i]? =some c) (j:Nat) (o:Zh) (f' :YY l x.Other=some j) (h' :l[j]? =some o) (ne:i≠j)
  (ow:c.C.Owner=o.C.Owner) (c1:c.C.Creditor < 0) (c2:o.C.Creditor < 0) (a:x.Amount<=c.C.Amount) (r:o.C.Amount+x.Amount<=o.C.Room):zl l x num ((l.set j<|Wv o c x.Amount).set i<|Xc c x.Amount)
 | drain (k:x.Kind=3) (i:Nat) (c:Zh) (f:YY l x.Cask=some i) (h:l[i]? =some c) (c1:c.C.Creditor < 0) (a:x.Amount<=c.C.Amount):zl l x num (l.set i<|Xc c x.Amount)
 | carry (k:x.Kind=4) (i:Nat) (c:Zh) (f:YY l x.Cask=some i) (h:l[i]? =some c):zl l x num (l.set i {c with C:={c.C with Place:=x.Where}})
 | sell (k:x.Kind=5) (i:Nat) (c:Zh) (f:YY l x.Cask=some i) (h:l[i]? =some c) (o:c.C.Owner=x.Person) (c1:c.C.Creditor < 0) (t:x.To≠c.C.Owner):zl l x num (l.set i {c with C:={c.C with Owner:=x.To}})
 | pledge (k:x.Kind=6) (i:Nat) (c:Zh) (f:YY l x.Cask=some i) (h:l[i]? =some c) (o:c.C.Owner=x.Person) (c1:c.C.Creditor < 0):zl l x num (l.set i {c with C:={c.C with Creditor:=x.To}})
 | free (k:x.Kind=7) (i:Nat) (c:Zh) (f:YY l x.Cask=some i) (h:l[i]? =some c) (c1:c.C.Creditor=x.Person):zl l x num (l.set i {c with C:={c.C with Creditor:= -1}})
 | char (k:x.Kind=8) (i:Nat) (c:Zh) (f:YY l x.Cask=some i) (h:l[i]? =some c) (a:c.C.Amount<=0):zl l x num (l.set i {c with C:={c.C with Wood:=x.Where}})
theorem yt{l l' :UV Zh}{i:Nat}{c:Zh}{x:Ev}{num:Int}(hv:XT x=true)(h0:x.Kind≠0)(f:YY l x.Cask=some i)(hc:l[i]? =some c)(h:Wn l i c x num= .inl l'):zl l x num l' :=by
 rcases kinds hv with k | k | k | k | k | k | k | k | k
 ·exact absurd k h0
 ·have h:Sg l i c x num= .inl l' :=by rw[<-h];unfold Wn;rw[k];rfl
  unfold Sg at h
  split at h
  ·cases h
  ·cases h;exact .fill k i c f hc<|by omega
 ·have h:SX l i c x= .inl l' :=by rw[<-h];unfold Wn;rw[k];rfl
  unfold SX at h
  split at h
  ·cases h
  ·rename_i j hj;split at h
   ·cases h
   ·rename_i o ho;unfold TY at h
    split at h
    ·cases h
    ·rename_i hij;split at h
     ·cases h
     ·rename_i hr;split at h
      ·cases h
      ·split at h
       ·cases h
       ·cases h;simp only[rD,lW,ne_eq,wt,not_or,eZ,nx] at hr
        exact .rack k i c f hc j o hj ho (λe=>hij<|by simp[e]) hr.1.1 (by omega) (by omega) (by omega)<|by omega
 ·have h:BA l i c x= .inl l' :=by rw[<-h];unfold Wn;rw[k];rfl
  unfold BA at h
  split at h
  ·cases h
  ·split at h
   ·cases h
   ·cases h;exact .drain k i c f hc (by omega)<|by omega
 ·have h:Eh l i c x= .inl l' :=by rw[<-h];unfold Wn;rw[k];rfl
  cases h;exact .carry k i c f hc
 ·have h:PT l i c x= .inl l' :=by rw[<-h];unfold Wn;rw[k];rfl
  unfold PT at h
  split at h
  ·cases h
  ·rename_i hr;split at h
   ·cases h
   ·rename_i ht;cases h;simp only[rD,lW,ne_eq,wt,not_or,eZ,nx] at hr
    exact .sell k i c f hc hr.1 (by omega) λe=>ht<|by simp[e]
 ·have h:Fi l i c x= .inl l' :=by rw[<-h];unfold Wn;rw[k];rfl
  unfold Fi at h
  split at h
  ·cases h
  ·rename_i ho;split at h
   ·cases h
   ·cases h;exact .pledge k i c f hc (by simpa using ho)<|by omega
 ·have h:Pe l i c x= .inl l' :=by rw[<-h];unfold Wn;rw[k];rfl
  unfold Pe at h
  split at h
  ·cases h
  ·rename_i ho;cases h;exact .free k i c f hc<|by simpa using ho
 ·have h:Pj l i c x= .inl l' :=by rw[<-h];unfold Wn;rw[k];rfl
  unfold Pj at h
  split at h
  ·cases h
  ·cases h;exact .char k i c f hc<|by omega
theorem uX{l l' :UV Zh}{x:Ev}{num:Int}(hv:XT x=true)(h:FP l x num= .inl l'):zl l x num l' :=by
 unfold FP at h
 split at h
 ·rename_i hk;unfold LI at h
  split at h
  ·cases h
  ·rename_i hf;split at h
   ·cases h
   ·cases h;exact .make (rb.1 hk) (by simpa using hf)<|by omega
 ·rename_i hk;split at h
  ·cases h
  ·rename_i i hi;split at h
   ·cases h
   ·rename_i c hc;exact yt hv (λe=>hk<|by simp[e]) hi hc h
theorem z6{n:Nat}{s s' :AU}{x:Ev}(h:Uk n s x= .inl s'):XT x=true/\s.last<=x.Day/\∃l',s' =⟨l',x.Day⟩/\zl (hZ x.Day s) x n l' :=by
 unfold Uk at h
 split at h
 ·cases h
 ·rename_i hv;have hv:XT x=true:=by simpa using hv
  split at h
  ·cases h
  ·rename_i hd;split at h
   ·rename_i all hall;cases h;exact⟨hv,by omega,all,rfl,uX hv hall⟩
   ·cases h
theorem u9{day:Int}:∀(l:UV Ev) (n:Nat) (s:AU) (r:AU ⊕ Int) (k:Nat),Bi day l n s=(r,k)->k<=n+l.length
 | [],n,s,r,k,h=>by
  simp only[Bi,pN] at h
  simp[<-h.2]
 | x::l,n,s,r,k,h=>by
  simp only[Bi] at h
  split at h
  ·split at h
   ·have:=u9 l _ _ _ _ h;simp;omega
   ·simp only[pN] at h
    simp[<-h.2]
  ·simp only[pN] at h
   simp[<-h.2]
theorem EC{l:UV Ev}{day:Int}{r:UV Zh ⊕ Int}{k:Nat}(h:Yf l day=(r,k)):k<=l.length:=by
 unfold Yf at h
 split at h
 ·simp only[pN] at h;omega
 ·split at h
  ·simp only[pN] at h;omega
  ·unfold Pp at h
   cases hg:Bi day l 0 ⟨[],0⟩ with
   | mk r' q=>
    have:=u9 _ _ _ _ _ hg;rw[hg] at h
    cases r' <;>(simp only[pN] at h;omega)
end
section
open Go.Dec
section
variable{V:Type}
theorem S2{k n:Int}{v:V}:∀{l:UV (Int×V)},Qb (Qv l k v) n=if n==k then some v else Qb l n
 | []=>by simp[Qv,Qb]
 | x::l=>by
  simp only[Qv];by_cases h:k=x.1
  ·have:(k==x.1)=true:=by simp[h]
   rw[AT this];simp only[Qb];by_cases h2:n=k
   ·subst h2;simp
   ·have e1:(n==k)=false:=by simpa using h2
    have e2:(n==x.1)=false:=by simpa using λe=>h2<|by rw[e,h]
    simp[e1,e2]
  ·have:(k==x.1)=false:=by simpa using h
   rw[RW<|by simp[this]];simp only[Qb];rw[S2 (l:=l)];by_cases h2:n=x.1
   ·have e1:(n==x.1)=true:=by simp[h2]
    have e2:(n==k)=false:=by simpa using λe=>h<|by rw[<-e,h2]
    simp[e1,e2]
   ·have e1:(n==x.1)=false:=by simpa using h2
    simp[e1]
end
end
end Go.Proofs.YtijhfeohbhedkaaGreatDoor.Ca
section
namespace Go.Proofs.YtijhfeohbhedkaaGreatDoor.Ca
open Go.Dec
theorem zP{day:Int}{x:Ev}(hx:x.Day<=day):∀(l:UV Ev) (n:Nat) (s s' :AU) (k:Nat),(∀y∈l,y.Day<=day)->Bi day (l++[x]) n s=(.inl s',k)->∃s1,Bi day l n s=(.inl s1,n+l.length)/\Uk (n+l.length) s1 x= .inl s'
 | [],n,s,s',k,_,h=>by
  simp only[rY,Bi,AT hx] at h
  refine⟨s,rfl,?_⟩;show Uk n s x=_;cases hs:Uk n s x with
  | inl s1=>rw[hs] at h;simp only[pN,rE] at h;rw[h.1]
  | inr e=>rw[hs] at h;simp at h
 | y::l,n,s,s',k,hd,h=>by
  simp only[pw,Bi,AT<|hd y<|by simp] at h ⊢
  cases hs:Uk n s y with
  | inl s1=>
   rw[hs] at h
   obtain⟨s2,g1,g2⟩:=zP hx l (n+1) s1 s' k (λz hz=>hd z<|by simp[hz]) h;have e:n+(y::l).length=n+1+l.length:=by simp;omega
   rw[e];exact⟨s2,g1,g2⟩
  | inr e=>rw[hs] at h;simp at h
theorem Cw{l:UV Ev}{x:Ev}{day:Int}{all' :UV Zh}{k:Nat}(hx:x.Day=day)(hd:∀y∈l,y.Day<=day)(h:Yf (l++[x]) day=(.inl all',k)):∃all,Yf l day=(.inl all,l.length)/\XT x=true/\zl all x l.length all' :=by
 unfold Yf at h ⊢
 split at h
 ·cases h
 ·rename_i hl;rw[RW (by simp at hl;omega)];split at h
  ·cases h
  ·rename_i hb;rw[RW hb];unfold Pp at h ⊢
   cases hg:Bi day (l++[x]) 0 ⟨[],0⟩ with
   | mk r k=>
    rw[hg] at h
    cases r with
    | inr e=>cases h
    | inl s' =>
     obtain⟨s1,g1,g2⟩:=zP (by omega) l 0 _ s' k hd hg;rw[pz] at g1 g2
     obtain⟨hv,_,l',e,hD⟩:=z6 g2;rw[g1];refine⟨_,rfl,hv,?_⟩;simp only[pN,rE] at h
     rw[<-h.1,e]
     have e0:hZ day ⟨l',x.Day⟩=l' :=by
      unfold hZ;show l'.map (Vt<|day - x.Day)=l';rw[hx,mV,show Vt 0=id from funext λh=>An,eG]
     rw[e0,<-hx];exact hD
theorem qv{l:UV Ev}{day num:Int}{all:UV Zh}{k i:Nat}{c:Zh}(h:Yf l day=(.inl all,k))(hf:YY all num=some i)(hc:all[i]? =some c):B4 l num day=(c.C,0):=by
 unfold B4 GH;rw[h];simp only[hf,DO,hc]
theorem ud{l:UV Ev}{day:Int}(h:(TJ l day).2.2=0):∃all k,Yf l day=(.inl all,k):=by
 unfold TJ at h
 split at h
 ·rename_i e k hp;exact absurd h<|Cx hp
 ·rename_i all k hp;exact⟨all,k,hp⟩
theorem ve{l:UV Ev}{num day:Int}(h:(B4 l num day).2=0):∃last n hh,(B4 l num day).1=Zh.C hh/\Ln last n hh/\last<=65536:=by
 unfold B4 at h ⊢
 cases hp:Yf l day with
 | mk r k=>
  rw[hp] at h
  cases r with
  | inr e=>exact absurd h (Cx hp)
  | inl all=>
   obtain⟨h1,_,h3,h4⟩:=CB hp;simp only at h ⊢
   cases hf:GH all num with
   | none=>rw[hf] at h;cases h
   | some hh=>
    unfold GH at hf
    cases hi:YY all num with
    | none=>rw[hi] at hf;cases hf
    | some i=>
     rw[hi] at hf
     exact⟨day,k,hh,rfl,h1.each hh<|s7 hf,h4⟩
theorem wM(l:UV Ev)(num day:Int):(Re l num day).1.length<=4096/\∀f∈(Re l num day).1,0<=f/\f < 4096:=by
 unfold Re;cases hp:Yf l day with
 | mk r k=>
  cases r with
  | inr e=>simp
  | inl all=>
   obtain⟨h1,h2,h3,h4⟩:=CB hp;simp only;cases hf:GH all num with
   | none=>simp
   | some hh=>
    unfold GH at hf
    cases hi:YY all num with
    | none=>rw[hi] at hf;cases hf
    | some i=>
     rw[hi] at hf
     have ho:=h1.each hh<|s7 hf;have:=Su 0 ho.fills.1 (n:=k) ho.fills.2 (by omega);exact⟨by simp only;omega,λf hf=>by have:=ho.fills.2 f hf;omega⟩
abbrev Er(e:Int):Prop:=1<=e/\e<=20
theorem vR{e k:Int}(h:(.inr k:UV Zh ⊕ Int)= .inr e)(hk:decide (1<=k/\k<=20)=true:=by decide):Er e:=by
 simp only[py] at h
 rw[<-h];exact nL hk
theorem w5{l:UV Zh}{i:Nat}{c:Zh}{x:Ev}{n e:Int}(h:Wn l i c x n= .inr e):Er e:=by
 unfold Wn at h
 by_cases k1:(x.Kind==1)=true
 ·rw[AT k1] at h
  unfold Sg at h
  split at h
  ·exact vR h
  ·cases h
 rw[RW k1] at h
 by_cases k2:(x.Kind==2)=true
 ·rw[AT k2] at h
  unfold SX TY at h
  repeat' split at h
  all_goals first | (cases h;done) | exact vR h
 rw[RW k2] at h
 by_cases k3:(x.Kind==3)=true
 ·rw[AT k3] at h
  unfold BA at h
  repeat' split at h
  all_goals first | (cases h;done) | exact vR h
 rw[RW k3] at h
 by_cases k4:(x.Kind==4)=true
 ·rw[AT k4] at h
  cases h
 rw[RW k4] at h
 by_cases k5:(x.Kind==5)=true
 ·rw[AT k5] at h
  unfold PT at h
  repeat' split at h
  all_goals first | (cases h;done) | exact vR h
 rw[RW k5] at h
 by_cases k6:(x.Kind==6)=true
 ·rw[AT k6] at h
  unfold Fi at h
  repeat' split at h
  all_goals first | (cases h;done) | exact vR h
 rw[RW k6] at h
 by_cases k7:(x.Kind==7)=true
 ·rw[AT k7] at h
  unfold Pe at h
  repeat' split at h
  all_goals first | (cases h;done) | exact vR h
 rw[RW k7] at h
 by_cases k8:(x.Kind==8)=true
 ·rw[AT k8] at h
  unfold Pj at h
  repeat' split at h
  all_goals first | (cases h;done) | exact vR h
 rw[RW k8] at h
 cases h
theorem xW{l:UV Zh}{x:Ev}{n e:Int}(h:FP l x n= .inr e):Er e:=by
 unfold FP at h
 split at h
 ·unfold LI at h
  repeat' split at h
  all_goals first | (cases h;done) | exact vR h
 ·split at h
  ·exact vR h
  ·split at h
   ·exact vR h
   ·exact w5 h
theorem vh{n:Nat}{s:AU}{x:Ev}{e:Int}(h:Uk n s x= .inr e):Er e:=by
 unfold Uk at h
 split at h
 ·simp only[py] at h;subst h;exact⟨by decide,by decide⟩
 ·split at h
  ·simp only[py] at h;subst h;exact⟨by decide,by decide⟩
  ·split at h
   ·cases h
   ·rename_i e' he;simp only[py] at h
    subst h;exact xW he
theorem wA{day:Int}:∀{l:UV Ev} {n:Nat} {s:AU} {e:Int} {k:Nat},Bi day l n s=(.inr e,k)->Er e
 | [],n,s,e,k,h=>by simp[Bi] at h
 | x::l,n,s,e,k,h=>by
  simp only[Bi] at h
  split at h
  ·split at h
   ·exact wA h
   ·rename_i e' he;simp only[pN,py] at h
    rw[<-h.1];exact vh he
  ·simp at h
theorem ED{l:UV Ev}{day:Int}{e:Int}{k:Nat}(h:Yf l day=(.inr e,k)):Er e:=by
 unfold Yf at h
 split at h
 ·simp only[pN,py] at h;rw[<-h.1];exact⟨by decide,by decide⟩
 ·split at h
  ·simp only[pN,py] at h;rw[<-h.1];exact⟨by decide,by decide⟩
  ·unfold Pp at h
   cases hg:Bi day l 0 ⟨[],0⟩ with
   | mk r q=>
    rw[hg] at h
    cases r with
    | inl s=>simp at h
    | inr e' =>
     simp only[pN,py] at h
     rw[<-h.1];exact wA hg
theorem wx{l:UV Ev}{day:Int}(h:(TJ l day).2.2≠0):Er (TJ l day).2.2:=by
 unfold TJ at h ⊢
 split
 ·rename_i e k hp;exact ED hp
 ·rename_i all k hp;rw[hp] at h;exact absurd rfl h
theorem qw{l:UV Ev}{num day:Int}(h:(B4 l num day).2≠0):Er (B4 l num day).2:=by
 unfold B4 at h ⊢
 cases hp:Yf l day with
 | mk r k=>
  rw[hp] at h
  cases r with
  | inr e=>exact ED hp
  | inl all=>
   simp only at h ⊢
   cases hf:GH all num with
   | none=>exact⟨by decide,by decide⟩
   | some hh=>rw[hf] at h;exact absurd rfl h
theorem wN{l:UV Ev}{num day:Int}(h:(Re l num day).2≠0):Er (Re l num day).2:=by
 unfold Re at h ⊢
 cases hp:Yf l day with
 | mk r k=>
  rw[hp] at h
  cases r with
  | inr e=>exact ED hp
  | inl all=>
   simp only at h ⊢
   cases hf:GH all num with
   | none=>exact⟨by decide,by decide⟩
   | some hh=>rw[hf] at h;exact absurd rfl h
end Go.Proofs.YtijhfeohbhedkaaGreatDoor.Ca
namespace Go.Proofs.YtijhfeohbhedkaaGreatDoor
open Go.Dec
open Ca (Er)
theorem wP{r:Qz}{day:Int}{l:UV QP}{e:Int}{k:Nat}(h:Ex.Pp r day l 0 Ex.NY=(.inr e,k)):Er e:=by
 unfold Ex.Pp at h
 cases hg:Ex.Bi r day l 0 Ex.NY with
 | mk q j=>
  rw[hg] at h
  cases q with
  | inl a=>simp at h
  | inr e' =>
   simp only[pN,py] at h
   have:=Ex.yW hg;rw[<-h.1];unfold Er;omega
theorem uV{r:Qz}{l:UV QP}{day:Int}(h:(BX r l day).2.2≠0):Er (BX r l day).2.2:=by
 unfold BX at h ⊢
 cases hp:Ex.Yf r l day with
 | mk q k=>
  rw[hp] at h
  cases q with
  | inl a=>exact absurd rfl h
  | inr e=>
   show Er e
   clear h
   unfold Ex.Yf at hp
   repeat' split at hp
   all_goals first
    | (simp only[pN,py] at hp;rw[<-hp.1];exact⟨by decide,by decide⟩)
    | exact wP hp
open Bo in
theorem uS(pre:UV QH)(x:QH):qU pre x=0∨Er (qU pre x):=by
 unfold qU Er
 repeat' split
 all_goals decide
theorem zZ:∀(l pre:UV QH),MN pre l=0∨Er (MN pre l)
 | [],_=>.inl rfl
 | x::l,pre=>by
  unfold MN;split
  ·exact zZ l _
  ·exact uS pre x
theorem OE{l:UV QH}(h:HQ l≠0):Er (HQ l):=(zZ l []).resolve_left h
def Yh{α:Type}(P:α->Prop)(x:RO α):Prop:=∃r,x=some r/\(∀a,r= .ok a->P a)/\∀q,r= .pan q->Er q.e
section
variable{α β:Type}{P:β->Prop}{Q:α->Prop}
theorem Yh.pan{q:Qk}(h:Er q.e):Yh P (some<|.pan q):=⟨_,rfl,λ_ h=>(by cases h),λ_ e=>by cases e;exact h⟩
theorem Yh.ok{a:β}(h:P a):Yh P (some<|.ok a):=⟨_,rfl,λ_ e=>by cases e;exact h,λ_ e=>by cases e⟩
theorem Yh.dc{b:Bool}{e:Int}{k:RO β}(he:Er e)(h:b=true->Yh P k):Yh P (U1 b e k):=by
 unfold U1;cases b with
 | true=>exact h rfl
 | false=>exact Yh.pan he
theorem Yh.aP{e:Int}{k:RO β}(he:e≠0->Er e)(h:e=0->Yh P k):Yh P (U1 (e==0) e k):=by
 unfold U1;by_cases h0:e=0
 ·rw[AT<|by simpa using h0];exact h h0
 ·rw[RW<|by simpa using h0];exact Yh.pan<|he h0
theorem Yh.di{x:RO α}{k:α->RO β}(h:Yh Q x)(h' :∀a,Q a->Yh P (k a)):Yh P (HF x k):=by
 obtain⟨r,rfl,hr,hp⟩:=h;cases r with
 | ok a=>exact h' a (hr a rfl)
 | pan q=>exact Yh.pan<|hp q rfl
theorem Yh.bind{x:H1 α}{k:α->RO β}(h:∃a,x=some a/\Q a)(h' :∀a,Q a->Yh P (k a)):Yh P (x.bind k):=by
 obtain⟨a,rfl,ha⟩:=h;exact h' a ha
theorem Yh.imp{P' :β->Prop}{x:RO β}(h:Yh P x)(h' :∀b,P b->P' b):Yh P' x:=by
 obtain⟨r,e,hr,hp⟩:=h;exact⟨r,e,λa ha=>h' a<|hr a ha,hp⟩
end
theorem er{n:Int}(h:decide (1<=n/\n<=20)=true:=by decide):Er n:=nL h
theorem Lu(x:Int):LP (ZA x)=true:=by
 have e:IntKind.i64.bits=64:=rfl;simp only[LP,ZA,IntKind.wrap,e,T2,wt];simp only[IntKind.signed,true_and,rM,wt];split<;>omega
theorem Fv{x:Int}(h: -9223372036854775808<=x/\x<=9223372036854775807):LP x=true:=by simp[LP,h]
structure Inv(n s:Nat)(L:QA):Prop where
 casks:L.casks.length<=n
 duties:L.duties.length<=n
 stamps:L.stamps.length<=s
 days:∀x∈L.casks,x.Day<=L.day
 rules:∀r,L.rules=some r->r.Rates.length<=1000000
 batches:∀c b,Qb L.batches c=some b->b.Draughts.length<=1000
 pure:∀c,LP (XQ L c)=true
theorem Inv.up{n s n' s' :Nat}{L:QA}(h:Inv n s L)(hn:n<=n')(hs:s<=s'):Inv n' s' L:=⟨re h.casks hn,re h.duties hn,re h.stamps hs,h.days,h.rules,h.batches,h.pure⟩
theorem Inv.start:Inv 0 0 XU:=⟨IR _,IR _,IR _,λ_ h=>(by cases h),λ_ h=>(by cases h),λ_ _ h=>(by cases h),λ_=>rfl⟩
theorem j5(L:QA)(c v k:Int):XQ (Dy L c v) k=if k==c then v else XQ L k:=by
 unfold XQ Dy;simp only;rw[Ca.S2];split<;>rfl
theorem Inv.set{n s:Nat}{L:QA}(h:Inv n s L){c v:Int}(hv:LP v=true):Inv n s (Dy L c v):=⟨h.casks,h.duties,h.stamps,h.days,h.rules,h.batches,λk=>by rw[j5];split;exact hv;exact h.pure k⟩
def Lq(L:QA)(x:QF)(L1:QA):Prop:=L1={L with casks:=L.casks++[{x with Day:=L.day}]}/\∃all all' :UV Ca.Zh,∃k,Ca.Yf L.casks L.day=(.inl all,L.casks.length)/\Ca.Yf L1.casks L.day=(.inl all',k)/\Ca.XT {x with Day:=L.day}=true/\Ca.zl all {x with Day:=L.day} L.casks.length all'
theorem Inv.bh{n s:Nat}{L L1:QA}{x:QF}(h:Inv n s L)(h1:Lq L x L1):Inv (n+1) s L1:=by
 obtain⟨rfl,_⟩:=h1;refine⟨by have:=h.casks;simp;omega,by have:=h.duties;simp only;omega,h.stamps,λy hy=> ?_,h.rules,h.batches,h.pure⟩;rcases rK.1 hy with hy | hy
 ·exact h.days y hy
 ·simp only[rA] at hy;subst hy;exact pf _
theorem Hn{n s:Nat}{L:QA}(h:Inv n s L)(hn:n<=1000000)(x:QF):Yh (Lq L x) (CW L x):=by
 unfold CW;rw[AT (by have:=h.casks;omega)];refine Yh.aP Ca.wx λhe=>Yh.ok ⟨rfl,?_⟩;obtain⟨all',k,hp⟩:=Ca.ud he;obtain⟨all,h1,h2,h3⟩:=Ca.Cw (x:={x with Day:=L.day}) rfl h.days hp;exact⟨all,all',k,h1,hp,h2,h3⟩
def zm(L:QA)(x:QP)(L1:QA):Prop:=L1={L with duties:=L.duties++[{x with Day:=L.day}]}/\∃r,L.rules=some r/\(BX r L1.duties L.day).2.2=0
theorem Inv.bA{n s:Nat}{L L1:QA}{x:QP}(h:Inv n s L)(h1:zm L x L1):Inv (n+1) s L1:=by
 obtain⟨rfl,_⟩:=h1;exact⟨by have:=h.casks;simp only;omega,by have:=h.duties;simp;omega,h.stamps,h.days,h.rules,h.batches,h.pure⟩
theorem CO{n s:Nat}{L:QA}(h:Inv n s L)(hn:n<=1000000)(hr:L.rules.isNone=false)(x:QP):Yh (zm L x) (CP L x):=by
 unfold CP
 obtain⟨r,hL⟩:∃r,L.rules=some r:=by cases hL:L.rules with
  | none=>rw[hL] at hr;cases hr
  | some r=>exact⟨r,rfl⟩
 rw[hL];show Yh _ (if _ then _ else _);rw[AT ⟨h.rules r hL,by have:=h.duties;omega⟩,<-hL];exact Yh.aP uV λhe=>Yh.ok ⟨rfl,r,hL,he⟩
def vL(L:QA)(x:QH)(L1:QA):Prop:=L1={L with stamps:=L.stamps++[x]}/\HQ (L.stamps++[x])=0
theorem Inv.ak{n s:Nat}{L L1:QA}{x:QH}(h:Inv n s L)(h1:vL L x L1):Inv n (s+1) L1:=by
 obtain⟨rfl,_⟩:=h1;exact⟨h.casks,h.duties,by have:=h.stamps;simp;omega,h.days,h.rules,h.batches,h.pure⟩
theorem Mn{n s:Nat}{L:QA}(h:Inv n s L)(hs:s < 256)(x:QH):Yh (vL L x) (Rc L x):=by
 unfold Rc;rw[AT (by have:=h.stamps;omega)];exact Yh.aP OE λhe=>Yh.ok ⟨rfl,he⟩
theorem Lq.rules{L L1:QA}{x:QF}(h:Lq L x L1):L1.rules=L.rules:=by obtain⟨rfl,_⟩:=h;rfl
theorem zm.rules{L L1:QA}{x:QP}(h:zm L x L1):L1.rules=L.rules:=by obtain⟨rfl,_⟩:=h;rfl
def xq(n s:Nat)(L L1:QA):Prop:=Inv n s L1/\L1.rules=L.rules
theorem Om{n s:Nat}{L:QA}(h:Inv n s L)(hn:n<=999000)(hr:L.rules.isNone=false)(fro to a:Int):Yh (xq (n+2) s L) (On L fro to a):=by
 unfold On;split
 ·exact Yh.ok ⟨h.up (by omega)<|IR _,rfl⟩
 ·refine Yh.di (CO h (by omega) hr _) λL1 h1=>Yh.di (CO (h.bA h1) (by omega) (by rw[h1.rules];exact hr) _) λL2 h2=>Yh.ok ?_;have h3:=(h.bA h1).bA h2;exact⟨⟨h3.casks,h3.duties,h3.stamps,h3.days,h3.rules,h3.batches,h3.pure⟩,by show L2.rules=_;rw[h2.rules,h1.rules]⟩
theorem M6{L L1:QA}{x:QF}(h:Lq L x L1)(hk:x.Kind=2∨x.Kind=3):(atR L x.Cask).2=0/\1<=x.Amount/\x.Amount<=(atR L x.Cask).1.Amount:=by
 obtain⟨_,all,all',k,h1,_,hv,hD⟩:=h;have ha:=Ca.NR hv (by rcases hk with hk | hk<;>simp[hk]);unfold atR;generalize hy:({x with Day:=L.day}:QF)=y at hv hD ha
 have hyk:y.Kind=x.Kind:=by rw[<-hy]
 have hyc:y.Cask=x.Cask:=by rw[<-hy]
 have hya:y.Amount=x.Amount:=by rw[<-hy]
 rw[hya] at ha
 rw[<-hyc];cases hD with
 | rack k i c f h j o f' h' ne ow c1 c2 a r=>rw[Ca.qv h1 f h];exact⟨rfl,ha.1,by show _<=c.C.Amount;omega⟩
 | drain k i c f h c1 a=>rw[Ca.qv h1 f h];exact⟨rfl,ha.1,by show _<=c.C.Amount;omega⟩
 | make k=>omega
 | fill k=>omega
 | carry k=>omega
 | sell k=>omega
 | pledge k=>omega
 | free k=>omega
 | char k=>omega
theorem Rq{a b:Int}(hb:b≠0):∃q,Gy .i64 a b=some q:=by unfold Gy;rw[RW hb];exact⟨_,rfl⟩
theorem Od{L L1:QA}{x:QF}(h:Lq L x L1)(hk:x.Kind=2∨x.Kind=3)(L2:QA):∃p,M8 L2 (atR L x.Cask).1 x.Amount=some p/\True:=by
 obtain⟨_,h2,h3⟩:=M6 h hk;unfold M8;split
 ·exact⟨_,rfl,trivial⟩
 ·obtain⟨q,hq⟩:=Rq (a:=ZA<|XQ L2 (atR L x.Cask).1.Number*x.Amount) (b:=(atR L x.Cask).1.Amount) (by omega);exact⟨q,hq,trivial⟩
abbrev Nx(n s:Nat)(L:QA)(r:UV So×QA):Prop:=Inv n s r.2/\(r.1=xw∨r.2=L)/\r.1.length<=2300000
theorem H5{n s:Nat}{L0 L:QA}(h:Inv n s L):Yh (Nx n s L0) (kS L):=Yh.ok ⟨h,.inl rfl,by show(2:Nat)<=_;omega⟩
section
variable{n s:Nat}{L:QA}(h:Inv n s L)(hn:n<=900000)(hs:s < 256)(hr:L.rules.isNone=false)
include h
theorem Ah{w:UV So}{l:UV Int}(hw:w.length<=1000)(hl:l.length<=100000)(hi:l.all LP=true):Yh (Nx n s L) (OM w l L):=by
 unfold OM;rw[AT ⟨hw,hl,hi⟩];exact Yh.ok ⟨h,.inr rfl,by have:=Ss w l;show(Xl w l).length<=_;omega⟩
theorem uY(d:Int):Yh (Nx n s L) (wm L [d]):=Yh.dc er λ_=>Yh.dc er λhd=>H5 ⟨h.casks,h.duties,h.stamps,λx hx=>Int.le_trans (h.days x hx) (by simpa using hd),h.rules,h.batches,h.pure⟩
theorem kG(a b c:Int){ns:UV Int}{ps:UV (Int×Int)}(hp:X4 ns=some ps)(hl:ns.length<=1000000):Yh (Nx n s L) (Iy L<|a::b::c::ns):=by
 show Yh _ (if _ then _ else _);rw[AT hl,hp];refine Yh.dc er λ_=>Yh.dc er λ_=>H5 ⟨h.casks,h.duties,h.stamps,h.days,λr hr=> ?_,h.batches,h.pure⟩;simp only[BY] at hr
 subst hr;have:=(G4 hp).2;simp[Dz];omega
include hn
theorem yI(c w p m o:Int):Yh (Nx (n+1) s L) (yJ L [c,w,p,m,o]):=Yh.dc er λ_=>Yh.di (Hn h (by omega) _) λ_ h1=>H5<|h.bh h1
theorem Mj(k c p t:Int):Yh (Nx (n+1) s L) (RN k L [c,p,t]):=Yh.di (Hn h (by omega) _) λ_ h1=>H5<|h.bh h1
theorem yX(c p:Int):Yh (Nx (n+1) s L) (yY L [c,p]):=Yh.di (Hn h (by omega) _) λ_ h1=>H5<|h.bh h1
theorem yx(c p:Int):Yh (Nx (n+1) s L) (yy L [c,p]):=Yh.di (Hn h (by omega) _) λ_ h1=>H5<|h.bh h1
include hr
theorem yd(c a b:Int):Yh (Nx (n+2) s L) (ye L [c,a,b]):=by
 refine Yh.dc er λ_=>Yh.di (Hn h (by omega) _) λL1 h1=>Yh.di (Q:=Inv (n+2) s) ?_ λL2 h2=>H5 h2;unfold filled;split
 ·refine Yh.di (CO (h.bh h1) (by omega) (by rw[h1.rules];exact hr) _) λL2 h2=>Yh.ok ?_;exact((h.bh h1).bA h2).set<|Lu _
 ·exact Yh.ok<|(h.bh h1).up (by omega)<|IR _
theorem j1(a b m:Int):Yh (Nx (n+3) s L) (j2 L [a,b,m]):=by
 refine Yh.di (Hn h (by omega) _) λL1 h1=>Yh.bind (Od h1 (.inl rfl) L1) λp _=>Yh.di (Om (h.bh h1) (by omega) (by rw[h1.rules];exact hr) _ _ _) λL2 h2=> ?_;exact H5<|(h2.1.set<|Lu _).set<|Lu _
theorem jA(a p:Int):Yh (Nx (n+3) s L) (qc L [a,p]):=Yh.di (Hn h (by omega) _) λL1 h1=>Yh.di (Om (h.bh h1) (by omega) (by rw[h1.rules];exact hr) _ _ _) λL2 h2=>H5 h2.1
theorem vx(a:Int):Yh (Nx (n+1) s L) (wT L [a]):=Yh.di (CO h (by omega) hr _) λ_ h1=>H5<|h.bA h1
omit hr hn
include hs
theorem Ra(k a b:Int):Yh (Nx n (s+1) L) (Ae k L [a,b]):=Yh.di (Mn h hs _) λ_ h1=>H5<|h.ak h1
end
theorem II{n s:Nat}{L:QA}(h:Inv n s L)(hn:n<=900000)(hr:L.rules.isNone=false)(c a:Int):Yh (λr=>Inv (n+2) s r.2/\r.2.rules=L.rules) (Az L c a):=by
 refine Yh.aP Ca.qw λ_=>Yh.di (Hn h (by omega) _) λL1 h1=>Yh.bind (Od h1 (.inr rfl) L1) λp _=>Yh.di (Q:=λL2=>Inv (n+2) s L2/\L2.rules=L.rules) ?_ λL2 h2=> ?_
 ·unfold Rn;split
  ·refine Yh.di (CO (h.bh h1) (by omega) (by rw[h1.rules];exact hr) _) λL2 h2=>Yh.ok ⟨((h.bh h1).bA h2).set<|Lu _,?_⟩;show L2.rules=_;rw[h2.rules,h1.rules]
  ·exact Yh.ok ⟨(h.bh h1).up (by omega)<|IR _,h1.rules⟩
 ·have ha:=(M6 h1<|.inr rfl).2.1;obtain⟨lo,hlo⟩:=Rq (a:=ZA<|p*10000) (b:=a) (by show a≠0;have:1<=a:=ha;omega);obtain⟨hi,hhi⟩:=Rq (a:=ZA<|ZA (ZA (p*10000)+a) - 1) (b:=a) (by show a≠0;have:1<=a:=ha;omega);rw[hlo,DO,hhi,DO];exact Yh.ok h2
theorem LZ{s:Nat}{R:H1 Qz}(hr:R.isNone=false):∀(ps:UV (Int×Int)) (n:Nat) (L:QA) (b:QT),Inv n s L->n+2*ps.length<=900000->b.Draughts.length+ps.length<=1000->L.rules=R->
  Yh (λr=>Inv (n+2*ps.length) s r.2/\r.1.Draughts.length=b.Draughts.length+ps.length) (NT ps b L)
 | [],n,L,b,h,_,_,_=>Yh.ok ⟨h,rfl⟩
 | p::ps,n,L,b,h,hn,hb,hR=>by
  simp only[s5] at hn hb
  refine Yh.di (II h (by omega) (by rw[hR];exact hr) p.1 p.2) λr hr' => ?_;rw[AT<|by omega];refine(LZ hr ps (n+2) r.2 _ hr'.1 (by omega) (by simp;omega)<|by rw[hr'.2,hR]).imp λq hq=>⟨hq.1.up (by simp;omega)<|IR _,?_⟩;rw[hq.2];simp;omega
section
variable{n s:Nat}{L:QA}(h:Inv n s L)(hn:n<=800000)(hs:s < 256)(hr:L.rules.isNone=false)
include h hn hs hr
theorem qf(c w a z:Int){ds:UV Int}{ps:UV (Int×Int)}(hp:X4 ds=some ps)(hl:ds.length<=1000):Yh (Nx (n+1000) (s+1) L) (El L<|c::w::a::z::ds):=by
 have hps:=(G4 hp).2;show Yh _ (if _ then _ else _);rw[AT (by omega),hp];refine Yh.dc er λ_=>Yh.di (LZ hr ps n L _ h (by omega) (by simp;omega) rfl) λr hr' => ?_;have hlen:r.1.Draughts.length<=1000:=by rw[hr'.2];simp;omega
 rw[AT hlen];refine Yh.dc er λ_=>Yh.dc er λ_=>Yh.di (Mn hr'.1 hs _) λL2 h2=>H5 ?_;have h3:=(hr'.1.ak h2).up (show _<=n+1000 by omega)<|IR _;refine⟨h3.casks,h3.duties,h3.stamps,h3.days,h3.rules,λk b hb=> ?_,h3.pure⟩;simp only at hb
 rw[Ca.S2] at hb
 split at hb
 ·simp only[BY] at hb;subst hb;exact hlen
 ·exact h3.batches k b hb
omit hn hs hr
theorem L4(c:Int):Yh (Nx n s L) (TT L [c]):=by
 refine Yh.aP Ca.qw λhe=>Ah h (by decide) (by simp) ?_;obtain⟨last,m,hh,e,ho,hl⟩:=Ca.ve (l:=L.casks) (num:=c) (day:=L.day) he;have h1:=ho.amt;have h2:=ho.room;have h3:=ho.age;have h4:=ho.owner;have h5:=ho.cred;simp only[atR,e,rL,mU,h.pure,nJ,T2];exact⟨Fv (by omega),Fv (by omega),Fv (by omega),Fv<|by omega⟩
theorem N7(c:Int):Yh (Nx n s L) (Sw L [c]):=by
 refine Yh.aP Ca.wN λ_=> ?_;obtain⟨h1,h2⟩:=Ca.wM L.casks c L.day;exact Ah h (by decide) (by omega)<|s8.2 λx hx=>Fv (by have:=h2 x hx;omega)
theorem N8(a k w v:Int):Yh (Nx n s L) (Gu L [a,k,w,v]):=by
 unfold Gu;simp only;split
 ·exact Yh.pan er
 ·rename_i b hb;unfold Eg;rw[AT<|h.batches a b hb,DO];have hw:∀b:Bool,(if b then jh else Im).length<=2300000:=λb=>by cases b<;>decide
  split
  ·exact Yh.aP (e:=0) (λh=>absurd rfl h) λ_=>Yh.ok ⟨h,.inr rfl,hw _⟩
  ·exact Yh.aP (e:=1) (λ_=>er) λ_=>Yh.ok ⟨h,.inr rfl,hw true⟩
include hr
theorem Lg:∃r,L.rules=some r/\Lh L=some (BX r L.duties L.day).1:=by
 unfold Lh;cases hL:L.rules with
 | none=>rw[hL] at hr;cases hr
 | some r=>
  simp only;rw[AT<|h.rules r hL];exact⟨r,rfl,rfl⟩
end
theorem zi(r:Qz)(l:UV QP)(day:Int):(∀j,j < 16->LP ((BX r l day).1.Bonds j)=true)/\LP (BX r l day).1.Due=true/\LP (BX r l day).1.Paid=true:=by
 unfold BX;cases hp:Ex.Yf r l day with
 | mk q k=>
  cases q with
  | inr e=>exact⟨λ_ _=>rfl,rfl,rfl⟩
  | inl a=>
   obtain⟨_,hok,hd,hk⟩:=Ex.CB hp;have hl:=Ex.M3 hp;have h1:=Ex.uW hok (by omega);exact⟨λj hj=>Fv (by have:=hok.bonds j hj;show _<=a.B.Bonds j/\a.B.Bonds j<=_;omega),Fv (by show _<=a.B.Due/\a.B.Due<=_;omega),Fv (by show _<=a.B.Paid/\a.B.Paid<=_;omega)⟩
open Bo in
theorem wL{l:UV QH}(n:Int)(ho:WL Vp l):LP (Mf l n).1=true:=by
 unfold Mf;cases h:(cur l n).filter (λe=>decide<|e.Kind=1) with
 | none=>rfl
 | some e=>
  rw[<-E5 n l ho] at h
  have hk:=List.find?_some h;simp only[wt] at hk
  obtain⟨pre,post,rfl⟩:=rq<|rZ h;have:=((zG e).1 (IB<|ho pre e post rfl).1).2.1 hk.1;exact Fv (by show _<=e.Batch/\e.Batch<=_;omega)
section
variable{n s:Nat}{L:QA}(h:Inv n s L)
include h
theorem L5(hr:L.rules.isNone=false){c:Int}(h0:0<=c):Yh (Nx n s L) (TU L [c]):=by
 refine Yh.dc er λhc=> ?_;obtain⟨r,_,hb⟩:=Lg h hr;have hc:c < 16:=by simpa using hc
 rw[hb,DO,Bo.C6 h0 (by omega),DO];exact Ah h (by decide) (by simp) (by simp only[rL,mU,nJ];exact(zi r L.duties L.day).1 _<|by omega)
theorem OG(hr:L.rules.isNone=false)(l:UV Int):Yh (Nx n s L) (Af L l):=by
 unfold Af;obtain⟨r,_,hb⟩:=Lg h hr;rw[hb,DO];obtain⟨_,h1,h2⟩:=zi r L.duties L.day;exact Ah h (by decide) (by simp)<|by simp only[rL,mU,nJ,h1,h2]
theorem N6(hs:s < 256)(c:Int):Yh (Nx n s L) (Sv L [c]):=by
 have hl:L.stamps.length<=256:=by have:=h.stamps;omega
 show Yh _ ((Lt _ _).bind _);unfold Lt;rw[AT hl,DO];obtain⟨_,_,_,ho⟩:=St L.stamps hl;by_cases he:HQ L.stamps=0
 ·rw[AT<|by simpa using he];refine Yh.aP (λhw=> ?_) λ_=>Ah h (by decide) (by simp) (by simp only[rL,mU,nJ];exact wL c<|ho he);unfold Bo.Mf at hw ⊢
  split
  ·rename_i e;rw[e] at hw;exact absurd rfl hw
  ·exact er
 ·rw[RW<|by simpa using he];exact Yh.aP OE λh0=>absurd h0 he
end
theorem jz{line:UV So}{w:UV So×UV Int}(h:SW line= .ok w):∀x∈w.2,0<=x:=by
 unfold SW at h
 split at h
 ·cases h
 ·split at h
  ·simp only[Out.ok.injEq] at h
   subst h;intro x hx;obtain⟨p,_,rfl⟩:=rG.1 hx;exact Int.natCast_nonneg _
  ·cases h
theorem Sz:∀(l:UV Int),l.length%2=0->∃ps,X4 l=some ps
 | [],_=>⟨[],rfl⟩
 | [_],h=>by simp at h
 | a::b::l,h=>by
  obtain⟨ps,hp⟩:=Sz l (by simp at h;omega);exact⟨(a,b)::ps,by simp[X4,hp]⟩
theorem O5{a:Int}{l:UV Int}(h:FB a 0 l.length=true):(l.length:Int)=a:=by simpa[FB] using h
theorem wB{a:Int}{l:UV Int}(h:FB a 2 l.length=true):(l.length:Int) > a/\((l.length:Int) - a)%2=0:=by simpa[FB] using h
theorem qL{l:UV Int}(h:FB 1 0 l.length=true):∃a,l=[a]:=by
 have:=O5 h;rcases l with _ | ⟨a,_ | ⟨b,l⟩⟩<;>simp at this
 ·exact⟨a,rfl⟩
 ·omega
theorem qK{l:UV Int}(h:FB 2 0 l.length=true):∃a b,l=[a,b]:=by
 have:=O5 h;rcases l with _ | ⟨a,_ | ⟨b,_ | ⟨c,l⟩⟩⟩<;>simp at this
 ·exact⟨a,b,rfl⟩
 ·omega
theorem uG{l:UV Int}(h:FB 3 0 l.length=true):∃a b c,l=[a,b,c]:=by
 have:=O5 h;rcases l with _ | ⟨a,_ | ⟨b,_ | ⟨c,_ | ⟨d,l⟩⟩⟩⟩<;>simp at this
 ·exact⟨a,b,c,rfl⟩
 ·omega
theorem gM{l:UV Int}(h:FB 4 0 l.length=true):∃a b c d,l=[a,b,c,d]:=by
 have:=O5 h;rcases l with _ | ⟨a,_ | ⟨b,_ | ⟨c,_ | ⟨d,_ | ⟨e,l⟩⟩⟩⟩⟩<;>simp at this
 ·exact⟨a,b,c,d,rfl⟩
 ·omega
theorem gL{l:UV Int}(h:FB 5 0 l.length=true):∃a b c d e,l=[a,b,c,d,e]:=by
 have:=O5 h;rcases l with _ | ⟨a,_ | ⟨b,_ | ⟨c,_ | ⟨d,_ | ⟨e,_ | ⟨f,l⟩⟩⟩⟩⟩⟩<;>simp at this
 ·exact⟨a,b,c,d,e,rfl⟩
 ·omega
theorem xS{l:UV Int}(h:FB 3 2 l.length=true):∃a b c ns ps,l=a::b::c::ns/\X4 ns=some ps:=by
 have:=wB h;rcases l with _ | ⟨a,_ | ⟨b,_ | ⟨c,l⟩⟩⟩<;>simp only[s5,pO,nV,mW,pX] at this
 iterate 3 omega
 ·obtain⟨ps,hp⟩:=Sz l (by omega);exact⟨a,b,c,l,ps,rfl,hp⟩
theorem xT{l:UV Int}(h:FB 4 2 l.length=true):∃a b c d ns ps,l=a::b::c::d::ns/\X4 ns=some ps:=by
 have:=wB h;rcases l with _ | ⟨a,_ | ⟨b,_ | ⟨c,_ | ⟨d,l⟩⟩⟩⟩<;>simp only[s5,pO,nV,mW,pX] at this
 iterate 4 omega
 ·obtain⟨ps,hp⟩:=Sz l (by omega);exact⟨a,b,c,d,l,ps,rfl,hp⟩
theorem WE{n s n' s' :Nat}{L:QA}{x:RL}(h:Yh (Nx n s L) x)(hn:n<=n')(hs:s<=s'):Yh (Nx n' s' L) x:=h.imp λ_ h=>⟨h.1.up hn hs,h.2⟩
theorem yM{n s:Nat}{L:QA}(h:Inv n s L)(hn:n<=700000)(hs:s < 256)(line:UV So):Yh (Nx (n+1000) (s+1) L) (LM L line):=by
 unfold LM;split
 ·exact Yh.pan er
 rename_i hll;cases hr:SW line with
 | pan q=>
  refine Yh.pan ?_;unfold SW at hr
  split at hr
  ·cases hr;exact er
  ·split at hr
   ·cases hr
   ·cases hr;exact er
 | ok w=>
  simp only;cases hw:RG w.1 with
  | none=>exact Yh.pan er
  | some d=>
   refine Yh.dc er λhf=>Yh.dc er λhst=> ?_;rw[AT ⟨by have:=h.casks;omega,by have:=h.duties;omega,by have:=h.stamps;omega⟩];have hd:d∈Sr:=rZ hw;have hdw:d.word=w.1:=by simpa using List.find?_some hw
   have hnn:=jz hr;have hlen:w.2.length<=1000:=by have:=OT hr;omega
   have hst:d.word≠[100,97,121]->d.word≠[114,117,108,101,115]->L.rules.isNone=false:=λh1 h2=>by
    rw[hdw] at h1 h2
    simpa[h1,h2] using hst
   clear hr hw hdw
   generalize w.2=ns at hf hnn hlen ⊢
   unfold Sr at hd
   simp only[y1,lO,eD] at hd
   rcases hd with rfl | rfl | rfl | rfl | rfl | rfl | rfl | rfl | rfl | rfl | rfl | rfl | rfl | rfl | rfl | rfl | rfl | rfl | rfl | rfl
   ·obtain⟨a,rfl⟩:=qL hf;exact WE (uY h a) (by omega)<|by omega
   ·obtain⟨a,b,c,ns,ps,rfl,hp⟩:=xS hf;exact WE (kG h a b c hp (by simp at hlen;omega)) (by omega)<|by omega
   ·obtain⟨a,b,c,d,e,rfl⟩:=gL hf;exact WE (yI h (by omega) a b c d e) (by omega)<|by omega
   ·obtain⟨a,b,c,rfl⟩:=uG hf;exact WE (yd h (by omega) (hst (by decide)<|by decide) a b c) (by omega)<|by omega
   ·obtain⟨a,b,c,rfl⟩:=uG hf;exact WE (j1 h (by omega) (hst (by decide)<|by decide) a b c) (by omega)<|by omega
   ·obtain⟨a,b,rfl⟩:=qK hf;exact WE (jA h (by omega) (hst (by decide)<|by decide) a b) (by omega)<|by omega
   ·obtain⟨a,b,c,rfl⟩:=uG hf;exact WE (Mj h (by omega) 5 a b c) (by omega)<|by omega
   ·obtain⟨a,b,c,rfl⟩:=uG hf;exact WE (Mj h (by omega) 6 a b c) (by omega)<|by omega
   ·obtain⟨a,b,rfl⟩:=qK hf;exact WE (yX h (by omega) a b) (by omega)<|by omega
   ·obtain⟨a,b,rfl⟩:=qK hf;exact WE (yx h (by omega) a b) (by omega)<|by omega
   ·obtain⟨a,b,rfl⟩:=qK hf;exact WE (Ra h hs 0 a b) (by omega)<|by omega
   ·obtain⟨a,b,rfl⟩:=qK hf;exact WE (Ra h hs 2 a b) (by omega)<|by omega
   ·obtain⟨a,b,c,d,ns,ps,rfl,hp⟩:=xT hf;exact WE (qf h (by omega) hs (hst (by decide)<|by decide) a b c d hp (by simp at hlen;omega)) (by omega)<|by omega
   ·obtain⟨a,rfl⟩:=qL hf;exact WE (vx h (by omega) (hst (by decide)<|by decide) a) (by omega)<|by omega
   ·obtain⟨a,rfl⟩:=qL hf;exact WE (L4 h a) (by omega)<|by omega
   ·obtain⟨a,rfl⟩:=qL hf;exact WE (L5 h (hst (by decide)<|by decide)<|hnn a<|by simp) (by omega)<|by omega
   ·exact WE (OG h (hst (by decide)<|by decide) ns) (by omega)<|by omega
   ·obtain⟨a,rfl⟩:=qL hf;exact WE (N6 h hs a) (by omega)<|by omega
   ·obtain⟨a,b,c,d,rfl⟩:=gM hf;exact WE (N8 h a b c d) (by omega)<|by omega
   ·obtain⟨a,rfl⟩:=qL hf;exact WE (N7 h a) (by omega)<|by omega
theorem wi{n s:Nat}{L:QA}(h:Inv n s L)(hn:n<=700000)(hs:s < 256)(line:UV So):∃rep e L',yp L line=some (rep,e,L')/\Inv (n+1000) (s+1) L'/\((Er e/\rep=[]/\L' =L)∨(e=0/\LM L line=some (.ok (rep,L'))/\(rep=xw∨L' =L)/\rep.length<=2300000)):=by
 obtain⟨r,hr,h1,h2⟩:=yM h hn hs line;unfold yp;rw[hr];cases r with
 | pan q=>exact⟨_,_,_,rfl,h.up (by omega) (by omega),.inl ⟨h2 q rfl,rfl,rfl⟩⟩
 | ok r=>
  obtain⟨h3,h4,h5⟩:=h1 r rfl;exact⟨_,_,_,rfl,h3,.inr ⟨rfl,rfl,h4,h5⟩⟩
end Go.Proofs.YtijhfeohbhedkaaGreatDoor
end
namespace Go.Proofs.YtijhfeohbhedkaaGreatDoor
section
open Go.Dec Go.Proofs.Tryz Go.Shelf Go.RowKit Go.Maps Go.Sort
set_option maxRecDepth 100000
set_option maxHeartbeats 4000000
end
section
open Go.Dec
def K7(l:UV (UV So)):Nat:=(l.map λx=>x.length+1).sum
theorem O6(l:UV (UV So))(hm:∀x∈l,x.length<=140737488351232):∀(post pre:UV (UV So)),l=pre++post->pre.length<=41->
  ∃b:Int,ZR (Jd l) ((K7 pre:Int),(pre.length:Int))=some b/\(l.length<=40->b=K7 l)
 | [],pre,e,hp=>by
  rw[rQ] at e
  subst e;refine⟨K7 l,?_,λ_=>rfl⟩;rw[ZI];unfold Jd;simp
 | x::post,pre,e,hp=>by
  have hg:=Wi e;have hi:=G5 e;by_cases h41:pre.length < 41
  ·have hb:K7 pre<=pre.length*140737488351233:=by
    have:∀(q:UV (UV So)),(∀x∈q,x.length<=140737488351232)->K7 q<=q.length*140737488351233:=by
     intro q
     induction q with
     | nil=>intro _;simp[K7]
     | cons y q ih=>
      intro h;have h1:=ih λz hz=>h z (by simp[hz]);have h2:=h y (by simp);have e1:K7 (y::q)=y.length+1+K7 q:=by simp[K7]
      rw[e1,s5];omega
    exact this pre λy hy=>hm y (by rw[e];simp[hy])
   have hx:=hm x (by rw[e];simp)
   have hbody:Jd l ((K7 pre:Int),(pre.length:Int))=some (.next ((K7 (pre++[x]):Int),((pre++[x]).length:Int))):=by
    unfold Jd;have c1:(decide ((pre.length:Int) < (l.length:Int))&&decide ((pre.length:Int) < 41))=true:=by simp;omega
    simp only[c1,Nm,KH,hg,DO,QU];rw[Qp (n:=(K7 pre:Int)+(x.length:Int)) (by omega) (by omega),Qp (by omega) (by omega),Qp (by omega)<|by omega];have e1:K7 (pre++[x])=K7 pre+(x.length+1):=by simp[K7]
    rw[e1];simp only[pP,ru];congr 4
   obtain⟨b,h1,h2⟩:=O6 l hm post (pre++[x]) (by rw[e];simp) (by simp;omega);refine⟨b,?_,h2⟩;rw[ZI,hbody];exact h1
  ·refine⟨K7 pre,?_,λh=>by omega⟩;rw[ZI];unfold Jd;have c1:(decide ((pre.length:Int) < (l.length:Int))&&decide ((pre.length:Int) < 41))=false:=by simp;omega
   simp only[c1,By,RK]
theorem wh(l:UV (UV So))(hm:∀x∈l,x.length<=140737488351232):∃b,UF l=some b/\(b=true->l.length<=40/\K7 l<=4000):=by
 obtain⟨b,h1,h2⟩:=O6 l hm l [] rfl (by simp);refine⟨_,by unfold UF;exact ZO h1 rfl,λh=> ?_⟩;simp only[T2,wt] at h
 have h3:=h2 (by omega);omega
section
variable{A:UV Qw}{i:Nat}{L:QA}
theorem IP(h:A[i]? =some ⟨L,true⟩)(hl:L.casks.length<=1000000):HI A (some i)=some L.casks:=by
 unfold HI JB;simp only[ny,By,RK,DO,h,x7];rw[U8 (by simp;omega)];rfl
theorem xX{n s:Nat}(h:A[i]? =some ⟨L,true⟩)(hI:Inv n s L)(hn:n<=700000)(hs:s < 256)(line:UV So):∃rep e L',W1 A (some i) line=some (rep,e,A.set i ⟨L',true⟩)/\yp L line=some (rep,e,L')/\Inv (n+1000) (s+1) L'/\((Ca.Er e/\rep=[]/\L' =L)∨(e=0/\LM L line=some (.ok (rep,L'))/\(rep=xw∨L' =L)/\rep.length<=2300000)):=by
 obtain⟨rep,e,L',h1,h2,h3⟩:=wi hI hn hs line;exact⟨rep,e,L',wD h line _ (by rw[h1];rfl),h1,h2,h3⟩
end
end
section
open Go.Dec
theorem za:∀d:Nat,d < 10->Go.Dec.encS (IntKind.i32.wrap<|ZA<|48+(d:Int))=[UInt8.ofNat<|48+d]
 | 0,_=>by decide+kernel
 | 1,_=>by decide+kernel
 | 2,_=>by decide+kernel
 | 3,_=>by decide+kernel
 | 4,_=>by decide+kernel
 | 5,_=>by decide+kernel
 | 6,_=>by decide+kernel
 | 7,_=>by decide+kernel
 | 8,_=>by decide+kernel
 | 9,_=>by decide+kernel
 | d+10,h=>by omega
theorem E9:∀(f k u:Nat),u < 10^f->f<=k->0 < f->f<=18->Kf k (u:Int)=some (NX f u)
 | 0,k,u,_,_,h0,_=>absurd h0 (Nat.lt_irrefl 0)
 | f+1,0,u,_,h,_,_=>by omega
 | f+1,k+1,u,hu,hk,_,hf=>by
  unfold Kf NX;have e1:decide ((u:Int) < (-9))=false:=rC (by omega);have e2:decide ((u:Int) < 0)=false:=rC (by omega);rw[e1,e2];simp only[By,RK];by_cases h10:u < 10
  ·rw[AT h10,AT (rB<|by omega),za u h10]
  ·rw[RW h10,RW (by rw[rC<|by omega];simp)];rw[lz] at hu
   have hf0:0 < f:=by
    cases f with
    | zero=>simp at hu;omega
    | succ f=>omega
   have hpow:u / 10 < 10^f:=by omega
   have hb:10^f<=10^17:=mc (by omega) (by omega);have e3:Int.tdiv (u:Int) 10=((u / 10:Nat):Int):=by rw[rV<|by omega];omega
   have e4:Int.tmod (u:Int) 10=((u%10:Nat):Int):=by rw[mC<|by omega];omega
   rw[e3,e4,Qp (by omega) (by omega),E9 f k (u / 10) hpow (by omega) hf0 (by omega),DO,za (u%10)<|by omega];have hl:=A0 f<|u / 10;rw[U8 (by simp;omega)];rfl
theorem IK:∀(f g u:Nat),u < 10^f->0 < f->f<=g->NX g u=NX f u
 | f,g,u,h,h0,hg=>by
  have h1:u < 10^g:=nz h (mc (by omega) hg);rw[A5 g u h1 (by omega),A5 f u h h0]
theorem vc{n:Int}(h0:0<=n)(h1:n < 1000000000000000000):Vy n=some (Pd n):=by
 obtain⟨u,rfl⟩:=mP h0;have hu:u < 10^18:=by omega
 unfold Vy Pd;rw[E9 18 100 u hu (by omega) (by omega) (by omega),RW (by omega),ph,IK 18 20 u hu (by omega)<|by omega]
end
section
open Go.Dec Go.Proofs.Tryz Go.Shelf Go.RowKit Go.Maps Go.Sort
set_option maxRecDepth 100000
set_option maxHeartbeats 4000000
def KW(l2:(UV<|UV So))(b:(UV So)×(UV So)×Int×(UV Qw))(a:Int):H1 (UE (Int)<|(Unit) ⊕ (Bool)):=(ZZ l2 b.2.2.1).bind λc=>if(decide<|a < (c.length:Int)) then((ZZ l2 b.2.2.1).bind λd=>(ZZ d a).bind λe=>if((e.toNat:Int)==10) then(UI.bind λf=>some<|.done<|.inr f) else(QU (ZA<|a+1) λg=>some<|.next g)) else(some<|.done<|.inl ())
def ZU(l2:(UV<|UV So))(d:ON×(UV Qw))(a:(UV So)×(UV So)×Int×(UV Qw)):H1 (UE ((UV So)×(UV So)×Int×(UV Qw))<|((UV So)×(UV So)×(UV Qw)) ⊕ (Bool×(UV Qw))):=if(decide<|a.2.2.1 < (l2.length:Int)) then((ZR (KW l2 a) 0).bind λe=>match e with | .inl c=>((ZZ l2 a.2.2.1).bind λf=>(Jf a.1 f).bind λg=>(Jf g ([10]:UV So)).bind λh=>(ZZ l2 a.2.2.1).bind λi=>(W1 a.2.2.2 d.1 i).bind λb=>(if(b.2.1 != 0) then((Vy b.2.1).bind λj=>(Jf ([101,114,114,111,114,32]:UV So) j).bind λk=>some k) else(some b.1):H1 ((UV So))).bind λl=>(Jf a.2.1 l).bind λm=>(Jf m ([10]:UV So)).bind λn=>QU (ZA<|a.2.2.1+1) λi103=>some<|.next (h,n,i103,b.2.2)) | .inr c=>(some<|.done<|.inr (c,a.2.2.2))) else(some<|.done<|.inl (a.1,a.2.1,a.2.2.2))
def KV(l2:(UV<|UV So))(b:Int)(a:(UV So)×Int):H1 (UE ((UV So)×Int)<|UV So):=if(decide<|a.2 < b) then((ZZ l2 a.2).bind λc=>(Jf a.1 c).bind λd=>(Jf d ([10]:UV So)).bind λe=>QU (ZA<|a.2+1) λi149=>some<|.next (e,i149)) else(some<|.done a.1)
def JN(A1:UV Qw)(l2:(UV<|UV So))(cut6:Int):H1 (Bool×(UV Qw)):=(UF l2).bind λr9=>if(!r9) then(UI.bind λr13=>some (r13,A1)) else((X7 A1).bind λr14=>(ZR (ZU l2 r14) (([]:UV So),([]:UV So),0,r14.2)).bind λb0=>match b0 with | .inl b105=>((J7 b105.1).bind λr112=>(J7 b105.1).bind λr115=>if((((!(r112.1==b105.2.1))||(!(r115.1==b105.2.1)))||(r112.2 != 0))||(r115.2 != 0)) then(some (false,b105.2.2)) else((L8 (ZA<|cut6)<|ZA<|(l2.length:Int)+1).bind λq129=>(ZR (KV l2 q129) (([]:UV So),0)).bind λb151=>(J7 b151).bind λr156=>(if((r156.2 != 0)||(decide<|(r156.1.length:Int) > (b105.2.1.length:Int))) then some true else((ZW b105.2.1 0 (r156.1.length:Int)).bind λs162=>some<|!(s162==r156.1))).bind λz167=>if z167 then(some (false,b105.2.2)) else((Jf b105.1 ([120]:UV So)).bind λs170=>(J7 s170).bind λr174=>(if(r174.2==8) then(UI.bind λr178=>some r178) else some false).bind λz182=>some (z182,b105.2.2)))) | .inr b105=>(some (b105.1,b105.2)))
theorem Gc(F0:Fz)(hT:Xh F0)(U:Jt)(A1:UV Qw)(l2:(UV<|UV So))(p3:H1 Of)(k4:Nat)(h5:QG 1 (Ex y3) F0 p3 k4 l2)(cut6:Int):Xz prog 3 #[(vS p3 l2 k4),(.int .u8 cut6)] F0 [Xq U F0 A1] (JN A1 l2 cut6) (λr _ v=>v=(.bool r.1)) (λr F' =>[Xq U F' r.2]):=by
 refine Xz.enter func3 J ntmps3 J λr R=> ?_;refine .o (Sub.refl _) (J:_=[Xq U F0 A1,R]) ?_;unfold JN;refine .w 9<|.fX J call6 J J J (AE _ l2 p3 k4 h5) ?_;rintro r9 F7 _ - l8 rfl;refine .w 3<|.i J (λhb10=> ?_) λhb10=> ?_
 ·refine .w 2<|.fX J call7 J J J (FJ _<|hT.mono l8) ?_;rintro r13 F11 _ - l12 rfl;refine .w 3<|.fb 0 (U6 U) (Fz.t l8 l12) J ?_;exact .bZ [0,0] results3 (.tmp J<|.nil) J (Fz.t l8 l12) J
 ·refine .w 10<|.fb 0 (U6 U) l8 J<|.fq [0] J call8 J J J J (TB _ U A1) ?_;rintro r14 F15 _ e17 l16 ⟨p18,k19,rfl,h20⟩;refine .pick [0,0] (J:_=[Xq U F15 r14.2,R]) (.w 10<|.fN (.p [0,1,5,6,7,8] J)<|.loop (fun(s21:(UV So)×(UV So)×Int×(UV Qw)) a w=>∃(F22:Fz),F15<=F22/\Hd 153 [] [(0,(vS p3 l2 k4)),(1,(.int .u8 cut6)),(5,(.string<|bs s21.1)),(6,(.string<|bs s21.2.1)),(7,(.pointer p18)),(8,(vI s21.2.2.1))] F22 [Xq U F22 s21.2.2.2,R] a w) (λb0 e a w=>match b0 with | .inl b105=>e= .exit 0/\∃(F106:Fz),F15<=F106/\Hd 153 [] [(0,(vS p3 l2 k4)),(1,(.int .u8 cut6)),(5,(.string<|bs b105.1)),(6,(.string<|bs b105.2.1))] F106 [Xq U F106 b105.2.2,R] a w | .inr b105=>e= .ret/\∃(F108:Fz),F15<=F108/\Hd 153 [] [(4,(.bool b105.1))] F108 [Xq U F108 b105.2,R] a w) ?_ ?_ ?_)
  ·exact λa w h=>⟨F15,Fz.r,h.1.sub<|.k J,h.2⟩
  ·intro s21 ctl;refine GC.ex λa w ⟨F22,l23,hA⟩=>⟨_,hA,?_⟩;unfold ZU;refine .w 5<|.fw J J vW J<|.w 3<|.i J (λhb24=> ?_) λhb24=> ?_
   ·refine .w 11 (.fN (.p [0,1,5,6,7,8,9] J)<|.loop (fun(s25:Int) a w=>∃(F26:Fz),F22<=F26/\Hd 153 [] [(0,(vS p3 l2 k4)),(1,(.int .u8 cut6)),(5,(.string<|bs s21.1)),(6,(.string<|bs s21.2.1)),(7,(.pointer p18)),(8,(vI s21.2.2.1)),(9,(vI s25))] F26 [Xq U F22 s21.2.2.2,R] a w) (λb0 e a w=>match b0 with | .inl b57=>e= .exit 2/\∃(F58:Fz),F22<=F58/\Hd 153 [] [(0,(vS p3 l2 k4)),(1,(.int .u8 cut6)),(5,(.string<|bs s21.1)),(6,(.string<|bs s21.2.1)),(7,(.pointer p18)),(8,(vI s21.2.2.1))] F58 [Xq U F22 s21.2.2.2,R] a w | .inr b57=>e= .ret/\∃(F60:Fz),F22<=F60/\Hd 153 [] [(4,(.bool b57))] F60 [Xq U F22 s21.2.2.2,R] a w) ?_ ?_ ?_)
    ·exact λa w h=>⟨F22,Fz.r,h.1.sub<|.k J,h.2⟩
    ·intro s25 ctl;refine GC.ex λa w ⟨F26,l27,hA⟩=>⟨_,hA,?_⟩;unfold KW;refine .w 6<|.idx J vW W9 (h5.mono<|Fz.t l8<|Fz.t l16<|Fz.t l23 l27) J J λx28 b29 o30 T31 fr32 cs33 e34 hm35 hv36=>.U J V9 J hm35 (QJ (k:=0) hv36 J)<|.dD J J U9 J<|.w 3<|.i J (λhb38=> ?_) λhb38=> ?_
     ·refine .w 8<|.idx J vW W9 (h5.mono<|Fz.t l8<|Fz.t l16<|Fz.t l23 l27) J J λx39 b40 o41 T42 fr43 cs44 e45 hm46 hv47=>.U J V9 J hm46 (QJ (k:=0) hv47 J)<|.m J J<|.aC J U9 J J λc49 e50=>.w 3<|.i J (λhb51=> ?_) λhb51=> ?_
      ·refine .w 2<|.fX J call7 J J J (FJ _<|hT.mono<|Fz.t l8<|Fz.t l16<|Fz.t l23 l27) ?_;rintro r54 F52 _ - l53 rfl;refine .w 3<|.dC<|Q5.ret λa w h=>⟨J,F52,(Fz.t l27 l53),h.1.sub<|.k J,h.2⟩
      ·refine .w 6<|.fe J J λk55 e56=>.n ?_;exact .n<|Q5.norm λa w h=>⟨F26,l27,h.1.sub<|.k J,h.2⟩
     ·refine .fZ J<|Q5.exit λa w h=>⟨J,F26,l27,h.1.sub<|.k J,h.2⟩
    ·intro b57 hb0 hk e a w hD;rcases b57 with b57 | b57
     ·obtain⟨rfl,F58,l59,hA⟩:=hD;refine ZC J<|GE.app ?_ hk a w hA;refine .w 6<|.idx J vW W9 (h5.mono<|Fz.t l8<|Fz.t l16<|Fz.t l23 l59) J J λx62 b63 o64 T65 fr66 cs67 e68 hm69 hv70=>.U J V9 J hm69 (QJ (k:=0) hv70 J)<|.bt J J J λs72 e73=>.bt J J J λs74 e75=>.w 8<|.idx J vW W9 (h5.mono<|Fz.t l8<|Fz.t l16<|Fz.t l23 l59) J J λx76 b77 o78 T79 fr80 cs81 e82 hm83 hv84=>.U J V9 J hm83 (QJ (k:=0) hv84 J)<|.fb 0 (U6 U) l59 J<|.fq [0] J call9 J J J J (Pk _ (hT.mono<|Fz.t l8<|Fz.t l16<|Fz.t l23 l59) U s21.2.2.2 r14.1 p18 k19 (h20.mono<|Fz.t l23 l59) x76) ?_;rintro r86 F87 _ e89 l88 rfl;refine .pick [0,0] (J:_=[Xq U F87 r86.2.2,R])<|.w 13<|.fN (.p [0,1,5,6,7,8,10,11,68] J)<|.c<|.fN (.p [0,1,5,6,7,8,10,11,68] J) ?_;refine GC.dE (σ:=(UV So)) (λj96 a w=>∃(F97:Fz),F87<=F97/\Hd 153 [] [(0,(vS p3 l2 k4)),(1,(.int .u8 cut6)),(5,(.string<|bs s74)),(6,(.string<|bs s21.2.1)),(7,(.pointer p18)),(8,(vI s21.2.2.1)),(10,(.string<|bs j96))] F97 [Xq U F87 r86.2.2,R] a w) (λsj=> ?_) λj96 hs0=>GE.ex λa w ⟨F97,l98,hA⟩=>⟨_,hA,?_⟩
      ·refine .i J (λhb90=> ?_) λhb90=> ?_
       ·refine .w 2<|.fX J call10 J J J (SJ _ r86.2.1) ?_;rintro r93 F91 _ - l92 rfl;refine .bt J J J λs94 e95=>.w 2 ?_;exact .n λe a w h=>by cases e;exact⟨J,⟨F91,l92,h.1.sub<|.k J,h.2⟩⟩
       ·refine .skip ?_;exact .n λe a w h=>by cases e;exact⟨J,⟨F87,Fz.r,h.1.sub<|.k J,h.2⟩⟩
      refine .w 4<|.bt J J J λs99 e100=>.bt J J J λs101 e102=>.w 7<|.fe J J λi103 e104=>.n<|.fb 0 (U6 U) l98 J ?_;exact .n<|Q5.norm λa w h=>⟨F97,(Fz.t l23<|Fz.t l59<|Fz.t l88 l98),h.1.sub<|.k J,h.2⟩
     obtain⟨rfl,F60,l61,hA⟩:=hD
     replace hA:=Hd.fb 0 (U6 U) l61 rfl hA
     exact Jx<|(Q5.ret λa w h=>⟨J,F60,(Fz.t l23 l61),h.1.sub<|.k J,h.2⟩) hk a w hA
   ·refine .fZ J<|Q5.exit λa w h=>⟨J,F22,l23,h.1.sub<|.k J,h.2⟩
  ·intro b105 hb0 hk e a w hD;rcases b105 with b105 | b105
   ·obtain⟨rfl,F106,l107,hA⟩:=hD;refine ZC J<|GE.app ?_ hk a w hA;refine .w 4<|.fX J call11 J J J (Xf _ (hT.mono<|Fz.t l8<|Fz.t l16 l107) b105.1) ?_;rintro r112 F110 _ - l111 rfl;refine .w 10<|.fX J call11 J J J (Xf _ (hT.mono<|Fz.t l8<|Fz.t l16<|Fz.t l107 l111) b105.1) ?_;rintro r115 F113 _ - l114 rfl;refine .w 12<|.sw J U9 J J<|.m J J<|.sa (b:=(!(r112.1==b105.2.1))) (b' :=(!(r115.1==b105.2.1))) 4 93 (λhb116=> ?_) (λhb117=> ?_) λF118 l119=> ?_
    ·refine .fQ hb116 J J<|.m J J<|.fQ hb116 J J<|.m J J<|.fQ hb116 J J<|.sw J U9 J J<|.fP hb116 J J J ?_;exact .fin 4 J J (by kernel_rfl) Fz.r
    ·refine .fL hb117 J J J<|.fL hb117 J J J<|.fL hb117 J J J<|.fO hb117 J J J ?_;exact .fin 4 J J (by kernel_rfl) Fz.r
    refine .m J J<|.sa (b:=((!(r112.1==b105.2.1))||(!(r115.1==b105.2.1)))) (b' :=(r112.2 != 0)) 3 97 (λhb120=> ?_) (λhb121=> ?_) λF122 l123=> ?_
    ·refine .fQ hb120 J J<|.m J J<|.fQ hb120 J J<|.neq J J J<|.fP hb120 J J J ?_;exact .fin 3 J J (by kernel_rfl) Fz.r
    ·refine .fL hb121 J J J<|.fL hb121 J J J<|.fO hb121 J J J ?_;exact .fin 3 J J (by kernel_rfl) Fz.r
    refine .m J J<|.sa (b:=(((!(r112.1==b105.2.1))||(!(r115.1==b105.2.1)))||(r112.2 != 0))) (b' :=(r115.2 != 0)) 3 101 (λhb124=> ?_) (λhb125=> ?_) λF126 l127=> ?_
    ·refine .fQ hb124 J J<|.m J J<|.fQ hb124 J J<|.neq J J J<|.fP hb124 J J J ?_;exact .fin 3 J J (by kernel_rfl) Fz.r
    ·refine .fL hb125 J J J<|.fL hb125 J J J<|.fO hb125 J J J ?_;exact .fin 3 J J (by kernel_rfl) Fz.r
    refine .n<|.fN (.p [0,1,5,6,101] J)<|.c<|.i J (λhb128=> ?_) λhb128=> ?_
    ·refine .w 5<|.fb 0 (U6 U) (Fz.t l111<|Fz.t l114<|Fz.t l119<|Fz.t l123 l127) J ?_;exact .bZ [0,0] results3 (.tmp J<|.nil) J (Fz.t l8<|Fz.t l16<|Fz.t l107<|Fz.t l111<|Fz.t l114<|Fz.t l119<|Fz.t l123 l127) J
    ·refine .w 5<|.cC J U5 U3 J<|.m J J<|.fw J J vW J<|.add J J J<|.rem J J J λq129 e130=>.w 15<|.fN (.p [0,5,6,16,17,18] J)<|.loop (fun(s131:(UV So)×Int) a w=>∃(F132:Fz),F126<=F132/\Hd 153 [] [(0,(vS p3 l2 k4)),(5,(.string<|bs b105.1)),(6,(.string<|bs b105.2.1)),(16,(vI q129)),(17,(.string<|bs s131.1)),(18,(vI s131.2))] F132 [Xq U F106 b105.2.2,R] a w) (λb151 e a w=>e= .exit 4/\∃(F152:Fz),F126<=F152/\Hd 153 [] [(5,(.string<|bs b105.1)),(6,(.string<|bs b105.2.1)),(17,(.string<|bs b151))] F152 [Xq U F106 b105.2.2,R] a w) ?_ ?_ ?_
     ·exact λa w h=>⟨F126,Fz.r,h.1.sub<|.k J,h.2⟩
     ·intro s131 ctl;refine GC.ex λa w ⟨F132,l133,hA⟩=>⟨_,hA,?_⟩;unfold KV;refine .w 8<|.i J (λhb134=> ?_) λhb134=> ?_
      ·refine .w 8<|.idx J vW W9 (h5.mono<|Fz.t l8<|Fz.t l16<|Fz.t l107<|Fz.t l111<|Fz.t l114<|Fz.t l119<|Fz.t l123<|Fz.t l127 l133) J J λx135 b136 o137 T138 fr139 cs140 e141 hm142 hv143=>.U J V9 J hm142 (QJ (k:=0) hv143 J)<|.bt J J J λs145 e146=>.bt J J J λs147 e148=>.w 7<|.fe J J λi149 e150=>.n ?_;exact .n<|Q5.norm λa w h=>⟨F132,l133,h.1.sub<|.k J,h.2⟩
      ·refine .fZ J<|Q5.exit λa w h=>⟨J,F132,l133,h.1.sub<|.k J,h.2⟩
     ·intro b151 hb0 hk e a w hD;obtain⟨rfl,F152,l153,hA⟩:=hD;refine ZC J<|GE.app ?_ hk a w hA;refine .w 4<|.fX J call11 J J J (Xf _ (hT.mono<|Fz.t l8<|Fz.t l16<|Fz.t l107<|Fz.t l111<|Fz.t l114<|Fz.t l119<|Fz.t l123<|Fz.t l127 l153) b151) ?_;rintro r156 F154 _ - l155 rfl;refine .w 13<|.sa (b:=(r156.2 != 0)) (b' :=(decide<|(r156.1.length:Int) > (b105.2.1.length:Int))) 6 133 (λhb157=> ?_) (λhb158=> ?_) λF159 l160=> ?_
      ·refine .fQ hb157 J J<|.m J J<|.fQ hb157 J J<|.dD J J U9 J<|.fQ hb157 J J<|.m J J<|.fQ hb157 J J<|.dD J J U9 J<|.fQ hb157 J J<|.gtr J J J<|.fP hb157 J J J ?_;exact .fin 6 J J (by kernel_rfl) Fz.r
      ·refine .fL hb158 J J J<|.fL hb158 J J J<|.fL hb158 J J J<|.fL hb158 J J J<|.fL hb158 J J J<|.fO hb158 J J J ?_;exact .fin 6 J J (by kernel_rfl) Fz.r
      refine .m J J<|.orM (b:=((r156.2 != 0)||(decide<|(r156.1.length:Int) > (b105.2.1.length:Int)))) 7 141 (λhb161 z168=> ?_) (λhb164=> ?_) λz167 F165 l166=> ?_
      ·refine .fQ hb161 J J<|.m J J<|.fQ hb161 J J<|.m J J<|.fQ hb161 J J<|.dD J J U9 J<|.fQ hb161 J J<|.sQ J U9 J J λs162 e163=>.fQ hb161 J J<|.m J J<|.fQ hb161 J J<|.sw J U9 J J<|.fP hb161 J J J ?_;exact .df 7 J J (by kernel_rfl) Fz.r
      ·refine .fL hb164 J J J<|.fL hb164 J J J<|.fL hb164 J J J<|.fL hb164 J J J<|.fL hb164 J J J<|.fL hb164 J J J<|.fO hb164 J J J ?_;exact .fin 7 J J (by kernel_rfl) Fz.r
      refine .w 2<|.i J (λhb169=> ?_) λhb169=> ?_
      ·refine .w 5<|.fb 0 (U6 U) (Fz.t l111<|Fz.t l114<|Fz.t l119<|Fz.t l123<|Fz.t l127<|Fz.t l153<|Fz.t l155<|Fz.t l160 l166) J ?_;exact .bZ [0,0] results3 (.tmp J<|.nil) J (Fz.t l8<|Fz.t l16<|Fz.t l107<|Fz.t l111<|Fz.t l114<|Fz.t l119<|Fz.t l123<|Fz.t l127<|Fz.t l153<|Fz.t l155<|Fz.t l160 l166) J
      ·refine .w 5<|.bt J J J λs170 e171=>.fX J call11 J J J (Xf _ (hT.mono<|Fz.t l8<|Fz.t l16<|Fz.t l107<|Fz.t l111<|Fz.t l114<|Fz.t l119<|Fz.t l123<|Fz.t l127<|Fz.t l153<|Fz.t l155<|Fz.t l160 l166) s170) ?_;rintro r174 F172 _ - l173 rfl;refine .w 12<|.andM (b:=(r174.2==8)) 2 152 (λhb175 z183=> ?_) (λhb179=> ?_) λz182 F180 l181=> ?_
       ·refine .fQ hb175 J J<|.fX J call7 J J J (FJ _<|hT.mono<|Fz.t l8<|Fz.t l16<|Fz.t l107<|Fz.t l111<|Fz.t l114<|Fz.t l119<|Fz.t l123<|Fz.t l127<|Fz.t l153<|Fz.t l155<|Fz.t l160<|Fz.t l166 l173) ?_;rintro r178 F176 _ - l177 rfl;refine .fO hb175 J J J ?_;exact .df 2 J J (by kernel_rfl) l177
       ·refine .fL hb179 J J J<|.fP hb179 J J J ?_;exact .fin 2 J J (by kernel_rfl) Fz.r
       refine .w 2<|.fN (.p [4] J)<|.c<|.fb 0 (U6 U) (Fz.t l111<|Fz.t l114<|Fz.t l119<|Fz.t l123<|Fz.t l127<|Fz.t l153<|Fz.t l155<|Fz.t l160<|Fz.t l166<|Fz.t l173 l181) J ?_;exact .bZ [0,0] results3 (.tmp J<|.nil) J (Fz.t l8<|Fz.t l16<|Fz.t l107<|Fz.t l111<|Fz.t l114<|Fz.t l119<|Fz.t l123<|Fz.t l127<|Fz.t l153<|Fz.t l155<|Fz.t l160<|Fz.t l166<|Fz.t l173 l181) J
   obtain⟨rfl,F108,l109,hA⟩:=hD;exact Jx<|(Gh [0,0] results3 (.tmp J<|.nil) J (Fz.t l8<|Fz.t l16 l109) J) hk a w hA
def Yj(l2:(UV<|UV So))(a:Int):H1 Bool:=(JN [] l2 a).map Prod.fst
theorem FE(F0:Fz)(hT:Xh F0)(l2:(UV<|UV So))(a:H1 Of)(b:Nat)(d:QG 1 (Ex y3) F0 a b l2)(c:Int):KE prog 3 #[(vS a l2 b),(.int .u8 c)] F0 (Yj l2 c) (λr _ v=>v=(.bool r)):=KE.tc (C:=λγ=>xv<|Jt.mk 0 0 0 γ 0 0 0 0 0) λγ F le=>Gc F (hT.mono le) (Jt.mk 0 0 0 γ 0 0 0 0 0) [] l2 a b (d.mono le) c
end
section
open Go.Dec
variable{l:UV (UV So)}
def KL(l:UV (UV So)):UV So:=l.flatMap λx=>x++[10]
theorem B7(l:UV (UV So))(x:UV So):KL (l++[x])=KL l++x++[10]:=by simp[KL]
theorem Gv(l:UV (UV So)):(KL l).length=K7 l:=by
 unfold KL K7;rw[List.length_flatMap];simp
theorem Oz:∀(x rest:UV So),10∉x->Go.Lib.indexByte (x++10::rest) 10=(x.length:Int)
 | [],rest,_=>by simp[Go.Lib.indexByte]
 | c::x,rest,h=>by
  have hc:c≠10:=λe=>h (by simp[e]);have hx:10∉x:=λe=>h (by simp[e]);have ih:=Oz x rest hx;have hb:(c==10)=false:=by simpa using hc
  have hx2:((x.length:Int)== -1)=false:=by rw[nQ];omega
  simp only[pw,Go.Lib.indexByte,ih,hb,hx2];simp
theorem Aq:∀(l:UV (UV So)) (k:Nat),(∀x∈l,10∉x)->(KL l).length<=k->H6 k (KL l)=l.map λx=>x++[10]
 | [],k,_,_=>by cases k<;>simp[H6,KL]
 | x::l,0,_,hk=>by simp[KL] at hk
 | x::l,k+1,h,hk=>by
  have e:KL (x::l)=x++10::KL l:=by simp[KL]
  have hi:=Oz x (KL l) (h x<|by simp);rw[e];unfold H6;rw[RW (by simp),hi,AT<|by omega]
  have e1:(x++10::KL l).take ((x.length:Int).toNat+1)=x++[10]:=by
   rw[ph,List.take_append,s4<|by omega];simp
  have e2:(x++10::KL l).drop ((x.length:Int).toNat+1)=KL l:=by
   rw[ph,List.drop_append,nc<|by omega];simp
  rw[e1,e2,Aq l k (λy hy=>h y<|by simp[hy]) (by rw[e] at hk;simp at hk;omega)];rfl
theorem zw(x:UV So):PN (x++[10])=x:=by simp[PN,Dc]
theorem MI(h:∀x∈l,10∉x):S6 (KL l)=l:=by
 unfold S6 NH;rw[Aq l _ h<|IR _,nY];have:(PN∘λx=>x++[10])=id:=funext zw;rw[this,eG]
theorem ID(l:UV (UV So)):(!(KL l==[])&& !Dc (KL l))=false:=by
 induction l using DM with
 | h0=>rfl
 | hs l x _=>rw[B7];simp[Dc]
theorem IX{α:Type}{l k:UV α}(h:l.length+k.length<=4000000000):Jf l k=some (l++k):=by unfold Jf;rw[AT<|by omega]
def vq(r:UV So×Int):UV So:=X3 r.1 r.2++[10]
theorem Cw:∀(l:UV (UV So)) (x:UV So) (L:QA) (out:UV So),XY (l++[x]) L out=(XY l L out).bind λr=>XY [x] r.1 r.2
 | [],x,L,out=>rfl
 | y::l,x,L,out=>by
  simp only[pw];unfold XY;cases yp L y with
  | none=>rfl
  | some r=>
   simp only;split
   ·exact Cw l x _ _
   ·rfl
theorem OY:∀(l:UV (UV So)) (L:QA) (out:UV So) (r:QA×UV So),XY l L out=some r->∃t,r.2=out++t
 | [],L,out,r,h=>by simp only[XY,BY] at h;subst h;exact⟨[],by simp⟩
 | x::l,L,out,r,h=>by
  unfold XY at h
  cases hd:yp L x with
  | none=>rw[hd] at h;cases h
  | some q=>
   rw[hd] at h
   simp only at h
   split at h
   ·obtain⟨t,ht⟩:=OY l _ _ r h;exact⟨_,by rw[ht,lI]⟩
   ·cases h
theorem Rx(x:UV So)(xs:UV (UV So))(L:QA)(out:UV So):XY (x::xs) L out=match yp L x with
 | none=>none
 | some r=>if LP r.2.1=true/\out.length+(X3 r.1 r.2.1).length<=1000000000 then XY xs r.2.2 (out++(X3 r.1 r.2.1++[10])) else none:=rfl
theorem Ru:∀(a b:UV (UV So)) (L:QA) (out:UV So),XY (a++b) L out=(XY a L out).bind λr=>XY b r.1 r.2
 | [],b,L,out=>rfl
 | y::a,b,L,out=>by
  rw[pw,Rx,Rx];cases yp L y with
  | none=>rfl
  | some r=>
   simp only;split
   ·exact Ru a b _ _
   ·rfl
theorem PV(h:∀x∈l,10∉x)(hl:K7 l<=4000){r:QA×UV So}(hp:XY l XU []=some r):J7 (KL l)=some (r.2,0):=by
 refine E1 _ _ ?_;unfold OZ;rw[RW (by rw[Gv];omega),ID];simp only[By,RK];rw[MI h,hp];rfl
theorem qd(l:UV (UV So))(x:UV So):K7 (l++[x])=K7 l+(x.length+1):=by simp[K7]
theorem Ns(l:UV (UV So))(k:Nat):K7 (l.take k)<=K7 l:=by
 unfold K7;rw[List.map_take];generalize l.map _=m
 induction m generalizing k with
 | nil=>simp
 | cons a m ih=>cases k with
  | zero=>simp
  | succ k=>have:=ih k;simp;omega
theorem LY{s:UV So×UV So×Int×UV Qw}{x:UV So}(hg:ZZ l s.2.2.1=some x)(hx:x.length<=4000):∀(post pre:UV So),x=pre++post->10∉pre->
  ZR (KW l s) (pre.length:Int)=some (if 10∈x then .inr true else .inl ())
 | [],pre,e,hp=>by
  rw[rQ] at e
  subst e;rw[RW hp,ZI];unfold KW;rw[hg];simp
 | c::post,pre,e,hp=>by
  have hi:pre.length < x.length:=by rw[e];simp
  have hget:x[pre.length]? =some c:=by rw[e];simp
  have hb:KW l s (pre.length:Int)=some (if c=10 then .done (.inr true) else .next ((pre++[c]).length:Int)):=by
   unfold KW;rw[hg];simp only[DO,show(decide<|(pre.length:Int) < (x.length:Int))=true by simpa using hi,Nm,KH,hget,AN,QU];rw[Qp (by omega)<|by omega];by_cases hc:c=10
   ·subst hc;rfl
   ·have:((c.toNat:Int)==10)=false:=by
     rw[nQ];intro h;exact hc<|UInt8.toNat_inj.1 (by show c.toNat=10;omega)
    rw[this,RW hc];simp
  rw[ZI,hb];by_cases hc:c=10
  ·rw[AT hc,AT (by rw[e,hc];simp)]
  ·rw[RW hc];exact LY hg hx post (pre++[c]) (by rw[e];simp) (by simp only[rK,rA];rintro(h | h);exact hp h;exact hc h.symm)
structure Pl(pre:List (List UInt8))(L:QA)(out:List UInt8):Prop where
 inv:Inv (1000*pre.length) pre.length L
 play:XY pre XU []=some (L,out)
 feed:∀x∈pre,10∉x
 len:out.length<=2300100*pre.length
theorem Nu(hl:l.length<=40)(hB:K7 l<=4000)(hx:∀x∈l,x.length<=4000){r:ON×UV Qw}(h0:r.1=some 0):∀(post pre:UV (UV So)) (L:QA) (out:UV So),l=pre++post->Pl pre L out->
  (∃A,ZR (ZU l r) (KL pre,out,(pre.length:Int),[⟨L,true⟩])=some (.inr (true,A)))∨
  ∃L' out',ZR (ZU l r) (KL pre,out,(pre.length:Int),[⟨L,true⟩])=some (.inl (KL l,out',[⟨L',true⟩]))/\Pl l L' out'
 | [],pre,L,out,e,hP=>by
  rw[rQ] at e
  subst e;right;refine⟨L,out,?_,hP⟩;rw[ZI];unfold ZU;simp
 | x::post,pre,L,out,e,hP=>by
  have hg:=Wi e;have hi:=G5 e;have hgi:ZZ l (pre.length:Int)=some x:=by rw[KH,hg]
  have hxl:=hx x (by rw[e];simp);have hF:=LY (l:=l) (s:=(KL pre,out,(pre.length:Int),[⟨L,true⟩])) hgi hxl x [] rfl (by simp);simp only[pO,pX] at hF
  by_cases h10:10∈x
  ·left;rw[AT h10] at hF
   refine⟨[⟨L,true⟩],?_⟩;rw[ZI];unfold ZU;simp only[show(decide<|(pre.length:Int) < (l.length:Int))=true by simpa using hi,Nm,hF,DO]
  ·rw[RW h10] at hF
   obtain⟨rep,er,L',hdo,hdoR,hI',hc⟩:=xX (A:=[⟨L,true⟩]) (i:=0) rfl hP.inv (by omega) (by omega) x;have hset:([⟨L,true⟩]:UV Qw).set 0 ⟨L',true⟩=[⟨L',true⟩]:=rfl;rw[hset] at hdo
   have hrl:(X3 rep er).length<=2300000:=by
    rcases hc with⟨hE,rfl,_⟩ | ⟨rfl,_,_,hlen⟩
    ·unfold X3;rw[RW (by have:=hE.1;simp;omega)];have:=Ss TR [er];have e1:TR.length=5:=rfl;simp at this ⊢;omega
    ·simpa[X3] using hlen
   have her:LP er=true:=by
    rcases hc with⟨hE,_,_⟩ | ⟨rfl,_,_⟩
    ·exact Fv (by have:=hE.1;have:=hE.2;omega)
    ·rfl
   have htx:(if(er != 0) then((Vy er).bind λr93=>(Jf ([101,114,114,111,114,32]:UV So) r93).bind λs94=>some s94) else(some rep):H1 ((UV So)))=some (X3 rep er):=by
    rcases hc with⟨hE,rfl,_⟩ | ⟨rfl,_,_⟩
    ·have h1:=hE.1;have h2:=hE.2;rw[AT (by simp;omega),vc (by omega) (by omega),DO];have:=Tk er;rw[U8 (by simp;omega)];unfold X3;rw[RW (by simp;omega)];simp[Xl,TR]
    ·simp[X3]
   have hsl:(KL pre).length+x.length+1<=4000:=by
    rw[Gv];have:K7 l=K7 pre+(x.length+1)+K7 post:=by rw[e];simp[K7];omega
    omega
   have hol:=hP.len
   have hP' :Pl (pre++[x]) L' (out++vq (rep,er)):=by
    refine⟨hI'.up (by simp;omega) (by simp),?_,λy hy=> ?_,?_⟩
    ·rw[Cw,hP.play,DO];unfold XY;rw[hdoR];simp only;rw[AT ⟨her,by omega⟩];rfl
    ·rcases rK.1 hy with hy | hy
     ·exact hP.feed y hy
     ·simp only[rA] at hy;subst hy;exact h10
    ·simp only[vq,pP,ru];omega
   have hb:ZU l r (KL pre,out,(pre.length:Int),[⟨L,true⟩])=some (.next (KL<|pre++[x],out++vq (rep,er),((pre++[x]).length:Int),[⟨L',true⟩])):=by
    unfold ZU;simp only[show(decide<|(pre.length:Int) < (l.length:Int))=true by simpa using hi,Nm,hF,DO,hgi,h0];rw[U8 (by omega),DO,U8 (by simp;omega),DO,hdo,DO];simp only;rw[htx,DO,IX (by omega),DO,IX (by simp;omega),DO];simp only[QU];rw[Qp (by omega) (by omega),B7];simp[vq]
   rcases Nu hl hB hx h0 post (pre++[x]) L' _ (by rw[e];simp) hP' with⟨A,h⟩ | ⟨L2,o2,h,h2⟩
   ·left;refine⟨A,?_⟩;rw[ZI,hb];exact h
   ·right;refine⟨L2,o2,?_,h2⟩;rw[ZI,hb];exact h
theorem kV(m:UV (UV So)):m.length<=K7 m:=by
 unfold K7
 induction m with
 | nil=>simp
 | cons a m ih=>simp;omega
theorem qR(hB:K7 l<=4000)(k:Nat)(hk:k<=l.length):ZR (KV l (k:Int)) ([],0)=some (KL<|l.take k):=by
 have go:∀(d i:Nat),i+d=k->ZR (KV l (k:Int)) (KL<|l.take i,(i:Int))=some (KL<|l.take k):=by
  intro d
  induction d with
  | zero=>
   intro i e;have:i=k:=by omega
   subst this;rw[ZI];unfold KV;simp
  | succ d ih=>
   intro i e;have hi:i < l.length:=by omega
   have hg:l[i]? =some l[i]:=Rw hi;have ht:l.take (i+1)=l.take i++[l[i]]:=by rw[List.take_add_one,hg];rfl
   have hs:(KL<|l.take i).length+l[i].length+1<=4000:=by
    have:=Ns l<|i+1;rw[ht] at this
    rw[Gv];have e2:=qd (l.take i) l[i];omega
   rw[ZI];unfold KV;simp only[show(decide<|(i:Int) < (k:Int))=true by simp;omega,Nm,KH,hg,DO];rw[U8 (by omega),DO,U8 (by simp;omega),DO];simp only[QU]
   have hlen:i<=4000:=by
    have h1:(KL<|l.take i).length<=4000:=by omega
    rw[Gv] at h1
    have h2:=kV<|l.take i;rw[nl] at h2
    omega
   rw[Qp (by omega)<|by omega];have:=ih (i+1) (by omega);rw[ht,B7] at this
   exact this
 have:=go k 0 (by omega);simpa[KL] using this
theorem qh(l:UV (UV So))(cut:Int)(hm:∀x∈l,x.length<=140737488351232)(hc:(Lit.int .u8 cut).wf=true):Yj l cut=some true:=by
 have hcut:=wf_u8 hc;unfold Yj
 suffices h:∃A,JN [] l cut=some (true,A) by obtain⟨A,h⟩:=h;rw[h];rfl
 unfold JN;obtain⟨b,hf,hfit⟩:=wh l hm;rw[hf,DO];cases b with
 | false=>
  simp only[pG,Nm,AN,DO];exact⟨_,rfl⟩
 | true=>
  obtain⟨hl,hB⟩:=hfit rfl
  have hxl:∀x∈l,x.length<=4000:=λx hx=>by
   obtain⟨a,b,rfl⟩:=rq hx;have:K7 (a++x::b)=K7 a+(x.length+1)+K7 b:=by simp[K7];omega
   omega
  simp only[x7,By,RK];have hn1:X7 []=some (some 0,[⟨XU,true⟩]):=rfl;rw[hn1,DO];rcases Nu hl hB hxl (r:=(some 0,[⟨XU,true⟩])) rfl l [] XU [] rfl ⟨Inv.start,rfl,by simp,by simp⟩ with⟨A,h⟩ | ⟨L',out,h,hP⟩
  ·have h' :ZR (ZU l (some 0,[⟨XU,true⟩])) (([]:UV So),([]:UV So),0,[⟨XU,true⟩])=some (.inr (true,A)):=h;simp only[h',DO];exact⟨_,rfl⟩
  ·have h' :ZR (ZU l (some 0,[⟨XU,true⟩])) (([]:UV So),([]:UV So),0,[⟨XU,true⟩])=some (.inl (KL l,out,[⟨L',true⟩])):=h;simp only[h',DO];rw[PV hP.feed hB hP.play];simp only[DO,rk,x7,nv,mK,By,RK];rw[Qp (n:=cut) (by omega) (by omega),Qp (n:=(l.length:Int)+1) (by omega)<|by omega]
   have hk:L8 cut ((l.length:Int)+1)=some ((cut.toNat%(l.length+1):Nat):Int):=by
    unfold L8;rw[RW (by omega),mC hcut.1];obtain⟨u,hu⟩:=mP hcut.1;rw[hu,ph];rfl
   rw[hk,DO];generalize hkk:cut.toNat%(l.length+1)=k;have hkl:k<=l.length:=by have:=mS cut.toNat (show 0 < l.length+1 by omega);omega
   rw[qR hB k hkl,DO];have hsp:=Ru (l.take k) (l.drop k) XU [];rw[rr,hP.play] at hsp
   cases hq:XY (l.take k) XU [] with
   | none=>rw[hq] at hsp;cases hsp
   | some q=>
    rw[hq,DO] at hsp
    obtain⟨t,ht⟩:=OY _ _ _ _ hsp.symm;have ht:out=q.2++t:=ht;rw[PV (λx hx=>hP.feed x<|List.mem_of_mem_take hx) (re (Ns l k) hB) hq,DO];have hle:decide ((q.2.length:Int) > (out.length:Int))=false:=by rw[ht];simp;omega
    simp only[mK,hle,nv,By,RK]
    have hsl:ZW out 0 (q.2.length:Int)=some q.2:=by
     unfold ZW;rw[AT (by rw[ht];simp;omega),ht];simp
    rw[hsl];simp only[DO,rk,x7,By,RK];have hs4:(KL l).length<=4000:=by rw[Gv];exact hB
    rw[U8 (by simp;omega),DO]
    have hx:J7 (KL l++[120])=some ([],8):=by
     refine E1 _ _ ?_;unfold OZ;rw[RW (by simp;omega)];have:(!(KL l++[120]==[])&& !Dc (KL l++[120]))=true:=by simp[Dc]
     rw[this];rfl
    rw[hx];simp only[DO,rk,Nm,AN];exact⟨_,rfl⟩
end
section
open Go.Dec Go.Shelf Go.RowKit Go.Maps Go.Sort Go.ChangeShapes Go.WideShapes Go.ChangeAt
theorem Tryz.own:ownKnob Tryz.prog.godebug=none:=by kernel_rfl
theorem Tryz.laidOut:laidOutB Tryz.prog=true:=by kernel_rfl
theorem IU{α:Type}{a:OF α}{l:UV α}(h:a.toList=l):a=l.toArray:=by rw[<-h]
theorem xU:Tryz.prog.globalNamed "internal/strconv.uint64pow10"=some 1:=by kernel_rfl
theorem gI:(Tryz.prog.globals[1]?).map (·.type)=some 280:=by kernel_rfl
theorem ua:Tryz.prog.cellsOf 256=1:=by kernel_rfl
theorem yz:Tryz.prog.cellsOf 280=20:=by kernel_rfl
theorem j6:(Rows.laid_internal_strconv_uint64pow10:DataW Unit)=Go.Lib.tabData .u64 Go.Lib.pow10Tab:=by kernel_rfl
theorem zI:((begin Tryz.prog (λ_ _=>0) default).world.heap[0]?).bind Obj.row? =some (#[.int .i64 0],3):=by kernel_rfl
theorem qM{W:TO}(h:laidMetH Tryz.prog Rows.officeAgainRow.laid W):laidMet Tryz.prog Rows.officeAgainRow.laid W:=by
 rwa[lY _ _ _<|by kernel_rfl] at h
set_option maxRecDepth 100000 in
theorem vf{W:TO}(h:laidMetH Tryz.prog Rows.officeAgainRow.laid W)(hsh:W.ShapedOpen Tryz.prog):Xh (FW W):=by
 obtain⟨ps,hl,_,_⟩:=qM h;refine⟨?_,?_⟩
 ·obtain⟨g,t,cs,fuel,p,T,fr,hg,ht,hh,hd⟩:=zM 2 rfl hl;obtain rfl:=u2<|xU.symm.trans hg;obtain rfl:=u2<|gI.symm.trans ht;have hc:=Go.Lib.cells_of_tab Tryz.underlying280 Tryz.underlying256 ua yz (by rw[<-j6];exact hd);exact⟨1,T,fr,xU,by rw[show(FW W).mem 1=W.heap[1]? from rfl,hh,IU hc];rfl⟩
 ·obtain⟨m,hm⟩:=lJ (P:=Tryz.prog) (g:=0) (t:=3) (zero:=#[.int .i64 0]) hsh (nL<|by kernel_rfl) zI rfl (by kernel_rfl) (by kernel_rfl) Tryz.underlying3;obtain⟨T,fr,hb⟩:=NM hsh (nL<|by kernel_rfl) zI rfl hm;exact⟨m,T,fr,hb⟩
end
section
open Go.Dec
open Go.ChangeShapes Go.WideShapes Go.ChangeAt Go.RowKit
def HE:Prop:=∀(a0:(UV<|UV So)) (a1:Int),(∀y∈a0,y.length<=140737488351232)->(Lit.int .u8 a1).wf=true->Yj a0 a1=some true
set_option maxRecDepth 100000 in
theorem S7(law:HE)(os:Os)(started:os.Started)(H:Type)(enc:IF×Do->H):ReturnsInHanded {} Tryz.checked os 3 .any (λw args=>(Rows.officeAgainSpec.pre enc Tryz.prog Tryz.f3 Rows.officeAgainRow.domain false w args/\laidMetH Tryz.prog Rows.officeAgainRow.laid w)/\sizedMet enc Tryz.prog Tryz.f3 (OpenSpec.ofChange Rows.officeAgainSpec) false w args) (Rows.officeAgainSpec.post enc Tryz.prog Tryz.f3 false true false false):=by
 refine qJ (C:=Tryz.checked) (X:=λw=>laidMetH Tryz.prog Rows.officeAgainRow.laid w) (λ_ _ hh h=>h.of_heap hh) Tryz.own started (by kernel_rfl) Tryz.func3
  (ChangeSpec.witness_shaped (enc:=enc) (C:=Tryz.checked) (os:=os) (X:=λw _=>laidMetH Tryz.prog Rows.officeAgainRow.laid w) false (World.laidAll Tryz.prog os Rows.officeAgainRow.laid) #[.slice none 0 0,.int .u8 0] 12 (World.laidAll_os _ _ _) (World.shaped_of_ZipB (by kernel_rfl)<|by kernel_rfl) (by kernel_rfl) (by kernel_rfl) (by kernel_rfl)
   (by rw[lY _ _ _<|by kernel_rfl];exact laidMet_laidAll _ (by kernel_rfl)<|by kernel_rfl)) ?_
 intro W base args ds gs before hval hW hsh hL hz;have hT:Xh (FW W):=vf hL hsh;refine MJ (P:=Tryz.prog) Tryz.laidOut (by kernel_rfl) rfl (by kernel_rfl) (by kernel_rfl:Tryz.f3.resultTypes=#[4]) Tryz.underlying4 (λds h=> ?_) base args ds gs before (λps hval hA hw=> ?_) hval hW hz
 ·match ds,h with
  | [d0,d1],_=>rfl
 ·rw[Tryz.params3] at hA hval hw
  obtain⟨v0,l0,d0,_,_,_,e0,rfl,_,t0,hA⟩:=trodAll_cons hA;have w0:=Aa hw
  replace hw:=AZ hw
  obtain⟨v1,l1,d1,_,_,_,e1,rfl,_,t1,hA⟩:=trodAll_cons hA;have w1:=Aa hw
  replace hw:=AZ hw
  obtain⟨e2,_,_⟩:=trodAll_nil hA;subst e2 e1;obtain rfl:args=[v0,v1].toArray:=by rw[<-e0]
  obtain⟨m0,p0,k0,o0,rfl,h0⟩:=uc Tryz.underlying22 Tryz.underlying9 (by kernel_rfl) (hval 0 _ _ rfl rfl) t0 w0;obtain⟨m1,o1,rfl⟩:=wv Tryz.underlying5 (hval 1 _ _ rfl rfl) t1;have hl:=law m0 m1 o0 o1;have hc:=FE (FW W) hT m0 p0 k0 h0 m1;rw[hl] at hc
  exact hc
theorem TV(law:HE):Rows.OfficeAgainSaid:=
 OpenClaim.holds_of_wide 3 Tryz.f3 rfl rfl rfl rfl rfl rfl rfl ⟨rfl,rfl,rfl,rfl,rfl⟩ rfl rfl rfl rfl rfl (by kernel_rfl) Tryz.func3 (by kernel_rfl)
  (nL<|by kernel_rfl) (by unfold Func.isWrapper;first | (rw[AT<|by decide+kernel];kernel_rfl) | (rw[RW<|by decide+kernel];exact⟨rfl,rfl⟩))
  (λos started H enc _=>S7 law os started H enc)
theorem Tx(law:HE):Rows.OfficeAgainCardSaid:=
 Claim7.holds_tied_plain_at .later [] [.data,.data,.data] true (true, "c3690034eadd7a36c941eea13291f4061a7740d19768c65b3e27dc31bc54f328") true (TV law) (λ_ h=>by cases h) (by kernel_rfl) (λ_ h=>by cases h) officeAgain_row_tie rfl ⟨rfl,rfl⟩ (by kernel_rfl) rfl
  (λf fn hf hfn=>by
   obtain rfl:f=3:=u2 ((show Tryz.prog.funcNamed "wormtub/wormtublaw15.OfficeAgain"=some 3 by kernel_rfl).symm.trans hf) |>.symm;obtain rfl:fn=Tryz.f3:=(u2<|Tryz.func3.symm.trans hfn).symm
   exact⟨by kernel_rfl,λj t ht=>by
    have hall:(Tryz.f3.params.toList.all λu=> !Tryz.prog.wantsStandIn u)=true:=by kernel_rfl
    have hm:=Array.mem_of_getElem? ht;exact(show Tryz.prog.wantsStandIn t=false by first | (simp at hm;done) | simpa using List.all_eq_true.1 hall t (by simpa using hm))⟩)
  (by kernel_rfl)
end
section
theorem Pu:HE:=λl cut h hc=>qh l cut h hc
theorem officeAgain_holds:Rows.OfficeAgainCardSaid:=Tx Pu
end
end Go.Proofs.YtijhfeohbhedkaaGreatDoor
end
