/- For OfficeBonds. -/
import Derived.Test.YtdoocboganbagaaGreatDoorPb9
noncomputable section
namespace Go.Dec
abbrev lz:=@beq_eq_false_iff_ne
abbrev ej:=@Int.natCast_add
abbrev oH:=@Int.tmod_eq_emod_of_nonneg
abbrev oY:=@List.all_nil
abbrev oc:=@Int.natCast_one
abbrev o8:=@or_false
abbrev iG:=@Int.le_trans
abbrev iT:=@UInt8.toNat_inj
abbrev iW:=@bne_iff_ne
abbrev iy:=@Int.ediv_le_of_le_mul
end Go.Dec
namespace Go.Proofs.YtdoocboganbagaaGreatDoor.Bo
section
open Go.Dec
theorem xM(n:Nat)(h:n<=1000000):Ue (n:Int)=some []:=by
 unfold Ue;have b:Q8 (0 - 0)=0:=by rw[Qo]<;>omega
 simp only[show ¬((n:Int) < 0) by omega,rW,W2,Bm,K2,QS,b];rw[show((n:Int) - 0)=n by omega,Qo eB eB];by_cases a:(n:Int) > 0
 ·simp only[a,ta,B2];have:ET (n:Int)=some n:=by unfold ET;rw[BY eB];simp
  rw[this];simp[ZZ]
 ·simp only[a,rW,W2,Bm,K2]
theorem yh(a:Q0 (Q0 QB))(h:a.flatten.length<=1000000)(p:a.length<=1000):Vv a=some a.flatten:=by
 unfold Vv
 have f:=BL (body:=VD a) (fun(t:Int) i=>(t,(i:Int))) (λt _ x=>if Q8 (t+(x.length:Int)) < 0 then none else some (.next<|Q8<|t+(x.length:Int))) (λt=>t) a
  (λt i x b=>by
   have hi:=Zx b;unfold VD;simp only[Z2,b,K2,QS];rw[Qo (n:=(i:Int)+1) eB eB];simp only[show(decide<|(i:Int) < (a.length:Int))=true by simpa using hi,B2];by_cases k:Q8 (t+(x.length:Int)) < 0<;>simp[k,UQ.au])
  (λt=>by unfold VD;simp) 0
 have g:=BL (body:=VC a) (fun(t:Q0 QB) i=>(t,(i:Int))) (λt _ x=>(VU t x).map .next) (λt=>t) a
  (λt i x b=>by
   have hi:=Zx b;unfold VC;simp only[Z2,b,K2];rw[Qo (n:=(i:Int)+1) eB eB];simp only[show(decide<|(i:Int) < (a.length:Int))=true by simpa using hi,B2];cases VU t x<;>simp[UQ.au])
  (λt=>by unfold VC;simp) []
 simp only[hJ] at f g
 have m:∀(l:Q0 (Q0 QB)) (i:Nat) (t:Int),0<=t->t+l.flatten.length<=1000000->NG (fun(t:Int) _ (x:Q0 QB)=>if Q8 (t+(x.length:Int)) < 0 then none else some (.next<|Q8<|t+(x.length:Int))) (λt=>t) l i t=some (t+l.flatten.length):=by
  intro l
  induction l with
  | nil=>intro i t j c;simp[NG]
  | cons x l d=>
   intro i t j c;simp only[List.flatten_cons,x4,ej] at c
   have e:Q8 (t+(x.length:Int))=t+x.length:=Qo eB eB;simp only[NG,e,show ¬(t+(x.length:Int) < 0) by omega,Bm];rw[d _ _ eB eB];simp;omega
 have o:∀(l:Q0 (Q0 QB)) (i:Nat) (t:Q0 QB),t.length+l.flatten.length<=1000000->NG (λt _ x=>(VU t x).map .next) (λt=>t) l i t=some (t++l.flatten):=by
  intro l
  induction l with
  | nil=>intro i t j;simp[NG]
  | cons x l d=>
   intro i t c;simp only[List.flatten_cons,x4] at c
   have e:VU t x=some (t++x):=by unfold VU;rw[BY eB]
   simp only[NG,e,L4];rw[d _ _ (by rw[x4];omega)];simp
 rw[f,m a 0 0 eB eB];simp only[K2,Int.zero_add];rw[xM _ h];simp only[K2];rw[g,o a 0 []<|by simpa using h];simp
def zt(x:QB):Prop:=0<=x.Lo/\x.Lo<=x.Hi/\x.Hi<=1099511627776
def ER(t:QB)(i:Nat)(y:QB):K1 (UQ QB<|Int×QB):=if y.Lo<=t.Hi+1 then some (.next<|QB.mk (Je t.Lo y.Lo)<|imax t.Hi y.Hi) else some (.done ((i:Int),t))
theorem MF:∀(r:Q0 QB) (i:Nat) (x:QB),XJ r->zt x->(∀y∈r,x.Lo<=y.Hi+1)->
  ∃c j x',r=c++j/\NG ER (λt=>((i+r.length:Nat),t)) r i x=some (((i+c.length:Nat):Int),x')/\zt x'/\(∀z∈j,x'.Hi+1 < z.Lo)/\(∀n,ND x' n↔ND x n∨mem c n)/\(∀b,b < x.Lo->(∀y∈r,b < y.Lo)->b < x'.Lo)
 | [],i,x,_,d,_=>⟨[],[],x,rfl,by simp[NG],d,by simp,λn=>by simp[mem],λb k _=>k⟩
 | y::r,i,x,l,d,m=>by
  have C:=l.ok y eF;have p:=m y eF;have f:=(qs.1 l.apart).1;by_cases o:y.Lo<=x.Hi+1
  ·have q:zt (QB.mk (Je x.Lo y.Lo)<|imax x.Hi y.Hi):=by
    simp only[zt,Je,imax] at d ⊢
    split<;>split<;>omega
   obtain⟨c,j,x',e,s,u,v,w,A⟩:=MF r (i+1) (QB.mk (Je x.Lo y.Lo)<|imax x.Hi y.Hi) l.tail q λz a=>by
    have:=f z a;have D:=l.ok z (by simp[a]);have:=m z (by simp[a]);show Je x.Lo y.Lo<=z.Hi+1;simp only[Je];split<;>omega
   refine⟨y::c,j,x',by rw[e];rfl,?_,u,v,λn=> ?_,λb k g=> ?_⟩
   ·simp only[NG,ER,o,B2];rw[show(i+(y::r).length)=(i+1+r.length) by simp;omega,show(i+(y::c).length)=(i+1+c.length) by simp;omega];exact s
   ·rw[w n,mem_cons];simp only[zt] at d
    simp only[ND,Je,imax];constructor
    ·rintro(h | h)
     ·by_cases B:x.Lo<=n/\n<=x.Hi
      ·exact .inl B
      ·refine .inr<|.inl ?_;split at h<;>split at h<;>omega
     ·exact .inr<|.inr h
    ·rintro(h | h | h)
     ·left;split<;>split<;>omega
     ·left;split<;>split<;>omega
     ·exact .inr h
   ·apply A
    ·have:=g y eF;show b < Je x.Lo y.Lo;simp only[Je];split<;>omega
    ·exact λz a=>g z<|by simp[a]
  ·refine⟨[],y::r,x,rfl,?_,d,λz a=> ?_,λn=>by simp[mem],λb k _=>k⟩
   ·simp only[NG,ER,o,Bm];simp
   ·rcases TO.1 a with rfl | a
    ·omega
    ·have:=f z a;omega
theorem NP(f:QB->Bool):∀(r:Q0 QB) (i:Nat),NG (fun(_:Unit) i x=>if f x then some (.next ()) else some (.done (i:Int))) (λ_=>((i+r.length:Nat):Int)) r i ()=some ((i+(r.takeWhile f).length:Nat):Int)
 | [],i=>by simp[NG]
 | x::r,i=>by
  cases a:f x with
  | true=>
   simp only[NG,a,B2,ef,OF];have:=NP f r<|i+1;rw[show i+(r.length+1)=i+1+r.length by omega,show i+((r.takeWhile f).length+1)=i+1+(r.takeWhile f).length by omega];exact this
  | false=>simp[NG,a]
theorem Lk{s:Q0 QB}{x:QB}(q:XJ s)(Z:s.length<=1000)(u:zt x):∃k,VN s x=some k/\XJ k/\k.length<=s.length+1/\∀n,mem k n↔mem s n∨ND x n:=by
 unfold VN;have v:=u;simp only[zt] at v
 have I:=BL (body:=Ve s x) (fun(_:Unit) i=>(i:Int)) (λ_ i y=>if decide (y.Hi < x.Lo - 1) then some (.next ()) else some (.done (i:Int))) (λ_=>((0+s.length:Nat):Int)) s
  (λt i y c=>by
   have hi:=Zx c;unfold Ve;simp only[Z2,c,K2,QS];rw[Qo (n:=(i:Int)+1) eB eB,Qo (n:=x.Lo - 1) eB eB];simp only[show(decide<|(i:Int) < (s.length:Int))=true by simpa using hi,B2,K2];by_cases w:y.Hi < x.Lo - 1<;>simp[w,UQ.au])
  (λt=>by unfold Ve;simp) ()
 simp only[hJ] at I
 rw[I,NP];simp only[K2,dO];generalize K:(λy:QB=>decide<|y.Hi < x.Lo - 1)=f;generalize g:s.takeWhile f=s1;generalize j:s.dropWhile f=s2;have hs:s=s1++s2:=by rw[<-g,<-j,List.takeWhile_append_dropWhile]
 have A:=hs▸q;obtain⟨L,d,e⟩:=A.split
 have P:∀y∈s1,y.Hi < x.Lo - 1:=by
  intro y c;rw[<-g] at c
  have:=List.all_takeWhile (p:=f) (l:=s);rw[IN] at this
  have:=this y c;rw[<-K] at this
  simpa using this
 have Q:∀y∈s2,x.Lo<=y.Hi+1:=by
  intro y c;cases h:s2 with
  | nil=>rw[h] at c;cases c
  | cons z r=>
   have hz:¬z.Hi < x.Lo - 1:=by
    have:=List.head?_dropWhile_not (p:=f) (l:=s);rw[j,h] at this
    simp at this
    rw[<-K] at this
    simpa using this
   rw[h] at c d
   rcases TO.1 c with rfl | c
   ·omega
   ·have:=(qs.1 d.apart).1 y c;have m:=d.ok y (by simp[c]);have oz:=d.ok z eF;omega
 obtain⟨M,B,x',er,R,C,D,E,F⟩:=MF s2 s1.length x d u Q
 have S:=Ag (body:=Vd s) (fun(t:QB) i=>((i:Int),t)) ER (λt=>(((s1.length+s2.length:Nat):Int),t)) s (λ_ t=>zt t)
  (λt i y c G=>by
   have hi:=Zx c;have m:zt y:=q.ok y<|T2 c;simp only[zt] at G m
   unfold Vd ER;simp only[Z2,c,K2,QS];rw[Qo (n:=(i:Int)+1) eB eB,Qo (n:=t.Hi+1) eB eB];simp only[show(decide<|(i:Int) < (s.length:Int))=true by simpa using hi,B2,K2];by_cases w:y.Lo<=t.Hi+1<;>simp[w,UQ.au])
  (λt i y t' c G h=>by
   have m:zt y:=q.ok y<|T2 c;unfold ER at h
   split at h
   ·simp only[W1,UQ.next.injEq] at h
    subst h;simp only[zt,Je,imax] at G m ⊢
    split<;>split<;>omega
   ·simp at h)
  (λt _=>by unfold Vd;rw[hs];simp) s2.length s1.length x (by rw[hs];simp) u
 have T:s.drop s1.length=s2:=by rw[hs];simp
 rw[S,T,R];simp only[K2];have N:s.length=s1.length+M.length+B.length:=by rw[hs,er];simp;omega
 have V:ZZ s 0 (s1.length:Int)=some s1:=by
  unfold ZZ;rw[BY eB];rw[hs];simp
 have W:ZZ s ((s1.length+M.length:Nat):Int) (s.length:Int)=some B:=by
  unfold ZZ;rw[BY eB];simp only[hR];rw[hs,er];congr 1;rw[<-List.append_assoc,lW eF];rw[oX eF,r7];apply IF;simp only[x4];omega
 rw[V,W];simp only[K2];rw[yh _ eE eF];refine⟨s1++x' ::B,by simp,?_,by simp;omega,λn=> ?_⟩
 ·rw[er] at d e
  obtain⟨m1,X,Y⟩:=d.split;refine L.append (X.ar C D) λa o b H=> ?_;rcases TO.1 H with rfl | H
  ·have oa:=L.ok a o;apply F
   ·have:=P a o;omega
   ·intro y c;rw[er] at c
    exact e a o y c
  ·exact e a o b<|by simp[H]
 ·rw[mem_append,mem_cons,E,hs,er,mem_append,mem_append];constructor
  ·rintro(h | (h | h) | h)
   ·exact .inl<|.inl h
   ·exact .inr h
   ·exact .inl<|.inr<|.inl h
   ·exact .inl<|.inr<|.inr h
  ·rintro((h | h | h) | h)
   ·exact .inl h
   ·exact .inr<|.inl<|.inr h
   ·exact .inr<|.inr h
   ·exact .inr<|.inl<|.inl h
end
section
open Go.Dec
theorem Bn{α:Type}{l k:Q0 α}(h:l.length+k.length<=4294967296):VU l k=some (l++k):=by
 unfold VU;rw[BY h]
theorem u9{α:Type}(x:α):VU [] [x]=some [x]:=by
 unfold VU;rw[BY eF];rfl
theorem uE{n:Int}(a:0<=n)(h:n<=4294967296):gk 0 n=some 0:=by
 unfold gk;rw[BY eB];simp only[om]
theorem OC{s:Q0 QB}{x:QB}(G:XJ s)(hl:s.length<=1000)(W:zt x)(X:∀n,ND x n->mem s n):∃j,Y6 s x=some j/\XJ j/\j.length<=s.length+1/\∀n,mem j n↔mem s n/\¬ND x n:=by
 unfold Y6;have A:=W;simp only[zt] at A
 obtain⟨Y,H,Z⟩:=(Mc G A.2.1).2 X;generalize I:(λy=>KS y x)=f;rw[show(λz=>some<|KS z x)=λz=>some (f z) by rw[<-I]];rw[Cc s f eB]
 have K:∃i,s.findIdx? f=some i:=by
  cases h:s.findIdx? f with
  | some i=>exact⟨i,rfl⟩
  | none=>
   rw[ic] at h
   have:=h Y H;rw[<-I] at this
   simp[KS] at this
   omega
 obtain⟨i,hi⟩:=K;rw[hi];rw[o7] at hi
 obtain⟨l,r,_⟩:=hi;generalize S:s[i]=y at r
 have T:y.Lo<=x.Lo/\x.Hi<=y.Hi:=by
  rw[<-I] at r;simpa[KS] using r
 have hs:s=s.take i++y::s.drop (i+1):=by
  rw[<-S,<-u2 l,lf]
 have m:s[i]? =some y:=by rw[<-S];exact C1 l
 have oy:=G.ok y<|T2 m;simp only[K2,Z2,m];rw[Qo (n:=x.Lo - 1) eB eB,Qo (n:=x.Hi+1) eB eB,Qo (n:=(s.length:Int)+1) eB eB,Qo (n:=(i:Int)+1) eB eB];have B:gk 0 ((s.length:Int)+1)=some 0:=uE eB eB;have L:ZZ s 0 (i:Int)=some (s.take i):=by unfold ZZ;rw[BY eB];simp
 have M:ZZ s ((i:Int)+1) (s.length:Int)=some (s.drop<|i+1):=by
  unfold ZZ;rw[BY eB];rw[show((i:Int)+1).toNat=i+1 by omega,IF eF]
 have ht:(s.take i).length=i:=by simp;omega
 have aA:(s.drop<|i+1).length=s.length - (i+1):=by simp
 generalize aB:s.take i=a at*
 generalize aC:s.drop (i+1)=b at*
 obtain⟨na,C,t⟩:=(hs▸G:XJ (a++y::b)).split;have nb:=C.tail;have V:=(qs.1 C.apart).1;generalize e:(if x.Hi < y.Hi then[QB.mk (x.Hi+1) y.Hi] else[])=pr;generalize g:(if y.Lo < x.Lo then[QB.mk y.Lo<|x.Lo - 1] else[])=pl
 have run:((if decide (y.Lo < x.Lo)=true then(some y).bind λN=>(VU [] [QB.mk N.Lo<|x.Lo - 1]).bind λD=>some D else some []):K1 (Q0 QB))=some pl:=by
  rw[<-g];by_cases h:y.Lo < x.Lo
  ·simp only[h,ta,B2,K2,u9]
  ·simp[h]
 have aF:pl.length<=1:=by rw[<-g];split<;>simp
 have aG:pr.length<=1:=by rw[<-e];split<;>simp
 have o:((if decide (x.Hi < y.Hi)=true then(some y).bind λE=>(VU pl [QB.mk (x.Hi+1) E.Hi]).bind λu=>some u else some pl):K1 (Q0 QB))=some (pl++pr):=by
  rw[<-e];by_cases h:x.Hi < y.Hi
  ·simp only[h,ta,B2,K2];rw[Bn (by simp only[OF,kp];omega)];simp only[K2]
  ·simp[h]
 simp only[K2] at run o
 suffices F:∀z,z=a++(pl++pr)++b->∃j,some z=some j/\XJ j/\j.length<=s.length+1/\∀n,mem j n↔mem s n/\¬ND x n by
  refine Exists.imp (λj h=>⟨Eq.trans ?_ h.1,h.2⟩)<|F _ rfl;refine ZT run<|ZT o<|ZT B<|ZT L<|ZT (a:=a) ?_<|ZT (a:=a++(pl++pr)) ?_<|ZT M<|ZT (a:=a++(pl++pr)++b) ?_ rfl
  ·rw[List.replicate_zero,Bn (by simp only[kp];omega)];rfl
  ·exact Bn (by simp only[x4];omega)
  ·exact Bn (by simp only[x4];omega)
 intro z c;subst c
 have P:∀n,mem pl n↔y.Lo<=n/\n < x.Lo:=by
  intro n;rw[<-g];split
  ·simp only[mem_cons,S6,o8,ND];omega
  ·simp only[S6,false_iff];omega
 have mpr:∀n,mem pr n↔x.Hi < n/\n<=y.Hi:=by
  intro n;rw[<-e];split
  ·simp only[mem_cons,S6,o8,ND];omega
  ·simp only[S6,false_iff];omega
 have Q:XJ pl:=by
  rw[<-g];split
  ·exact XJ.nil.ar (by simp only;omega) eF
  ·exact XJ.nil
 have R:XJ pr:=by
  rw[<-e];split
  ·exact XJ.nil.ar (by simp only;omega) eF
  ·exact XJ.nil
 have v:∀z∈pl,z.Lo=y.Lo/\z.Hi=x.Lo - 1:=by
  intro z c;rw[<-g] at c;split at c
  ·simp at c;subst c;simp
  ·simp at c
 have w:∀z∈pr,z.Lo=x.Hi+1/\z.Hi=y.Hi:=by
  intro z c;rw[<-e] at c;split at c
  ·simp at c;subst c;simp
  ·simp at c
 refine⟨_,rfl,?_,?_,λn=> ?_⟩
 ·refine((na.append (Q.append R ?_) ?_).append nb ?_)
  ·intro p d q k;have:=v p d;have:=w q k;omega
  ·intro p d q k;have h1:=t p d y eF;rcases mg.1 k with k | k
   ·have:=v q k;omega
   ·have:=w q k;omega
  ·intro p d q k;have h1:=V q k;rcases mg.1 d with d | d
   ·exact t p d q<|by simp[k]
   ·rcases mg.1 d with d | d
    ·have:=v p d;omega
    ·have:=w p d;omega
 ·simp only[x4];omega
 ·rw[mem_append,mem_append,mem_append,P,mpr,hs,mem_append,mem_cons];simp only[ND];constructor
  ·rintro((h | h | h) | h)
   ·refine⟨.inl h,?_⟩;obtain⟨z,c,B⟩:=h;have:=t z c y eF;simp only[ND] at B;omega
   ·exact⟨.inr (.inl eB),by omega⟩
   ·exact⟨.inr (.inl eB),by omega⟩
   ·refine⟨.inr<|.inr h,?_⟩;obtain⟨z,c,B⟩:=h;have:=V z c;simp only[ND] at B;omega
  ·rintro⟨h | h | h,aI⟩
   ·exact .inl<|.inl h
   ·by_cases l:n < x.Lo
    ·exact .inl<|.inr<|.inl ⟨h.1,l⟩
    ·exact .inl<|.inr<|.inr ⟨by omega,h.2⟩
   ·exact .inr h
def has(e:QH)(n:Int):Prop:=e.First<=n/\n<=e.Last
instance(e:QH) (n:Int):Decidable (has e n):=by unfold has;infer_instance
def cur:Q0 QH->Int->K1 QH:=λl n=>l.foldl (λo e=>if has e n then some e else o) none
def hand(l:Q0 QH)(n:Int):Prop:=∃e,cur l n=some e/\e.Kind=0
theorem jS(n:Int):cur [] n=none:=rfl
theorem BX(l:Q0 QH)(e:QH)(n:Int):cur (l++[e]) n=if has e n then some e else cur l n:=by simp[cur]
theorem Ec(l:Q0 QH)(e:QH)(n:Int):hand (l++[e]) n↔if has e n then e.Kind=0 else hand l n:=by
 unfold hand;rw[BX];split<;>simp
def xB(x:QH):Bool:=Ua x
theorem jC(x:QH):xB x=true↔(0<=x.Kind/\x.Kind<=3)/\(x.Kind=1->0<=x.Batch/\x.Batch<=1073741824)/\0<=x.First/\x.First<=x.Last/\x.Last<=1099511627776:=by
 simp only[xB,Ua,QV,Kd,Do,nn,AT,iW,ne_eq];constructor
 ·rintro⟨⟨b,a⟩,c⟩;refine⟨by omega,λh=> ?_,by omega⟩;rcases a with a | a
  ·exact absurd h a
  ·omega
 ·rintro⟨b,a,c⟩;refine⟨⟨by omega,?_⟩,by omega⟩;by_cases h:x.Kind=1
  ·right;have:=a h;omega
  ·left;exact h
open Classical in
def UG(pre:Q0 QH)(x:QH):Int:=if xB x=false then 1 else if x.Kind=0/\∃n,has x n/\cur pre n≠none then 5 else if x.Kind≠0/\∃n,has x n/\¬hand pre n then 4 else 0
structure Inv(pre:List QH)(t:ZA×Up×Int):Prop where
 ni:XJ t.2.1.issued
 nh:XJ t.2.1.hand
 li:t.2.1.issued.length<=pre.length
 lh:t.2.1.hand.length<=pre.length
 mi:∀n,mem t.2.1.issued n↔cur pre n≠none
 mh:∀n,mem t.2.1.hand n↔hand pre n
def amount(x:QH):Int:=Q8<|Q8 (x.Last - x.First)+1
def yq(b:ZA)(x:QH):ZA:=if x.Kind=1 then{b with Stuck:=Q8 (b.Stuck+amount x)} else if x.Kind=2 then{b with Spoiled:=Q8 (b.Spoiled+amount x)} else if x.Kind=3 then{b with Returned:=Q8 (b.Returned+amount x)} else b
def zX:Q0 QH->ZA:=λl=>l.foldl yq<|ZA.mk [] 0 0 0
theorem Sx(l:Q0 QH)(x:QH):zX (l++[x])=yq (zX l) x:=by simp[zX]
theorem Is{l pre post:Q0 QH}{x:QH}{t:ZA×Up×Int}(P:l=pre++x::post)(Q:l.length<=256)(c:Inv pre t)(D:t.1=zX pre):(UG pre x≠0/\VI l ((pre.length:Int),t)=some (.done<|.inr (ZA.mk [] 0 0 0,(pre.length:Int),UG pre x)))∨
  (UG pre x=0/\∃t',VI l ((pre.length:Int),t)=some (.next (((pre.length+1:Nat):Int),t'))/\Inv (pre++[x]) t'/\t'.1=zX (pre++[x])):=by
 have y:l[pre.length]? =some x:=by rw[P];simp
 have A:pre.length < l.length:=by rw[P];simp
 unfold VI;simp only[Z2,y,K2,show(decide<|(pre.length:Int) < (l.length:Int))=true by simpa using A,B2];by_cases d:xB x=true
 ·have i:Ua x=true:=d;obtain⟨X,_,E,o,F⟩:=(jC x).1 d;have p:zt (QB.mk x.First x.Last):=⟨E,o,F⟩;have q:∀n,ND (QB.mk x.First x.Last) n↔has x n:=λn=>Iff.rfl;have Y:=c.li;have l2:=c.lh;simp only[i,RK,W2,Bm];rw[Qo (n:=(pre.length:Int)+1) eB eB];by_cases a:x.Kind=0
  ·
    obtain⟨G,H,B⟩:=qI (s:=t.2.1.issued) (x:=QB.mk x.First x.Last) eB c.ni o;simp only[a,hF,B2,H,K2];cases j:G with
    | true=>
     left
     have:UG pre x=5:=by
      unfold UG;rw[B1 (by simp[d]),BY];refine⟨a,?_⟩;obtain⟨n,r,u⟩:=B.1 j;exact⟨n,r,(c.mi n).1 u⟩
     rw[this];simp
    | false=>
     right;have v:¬∃n,ND (QB.mk x.First x.Last) n/\mem t.2.1.issued n:=λh=>by have:=B.2 h;rw[j] at this;cases this
     have f:UG pre x=0:=by
      unfold UG;rw[B1 (by simp[d]),B1,B1<|by simp[a]];rintro⟨_,n,r,u⟩;exact v ⟨n,r,(c.mi n).2 u⟩
     obtain⟨Z,R,S,Pj,T⟩:=Lk c.ni eB p;obtain⟨I,K,L,Ru,M⟩:=Lk c.nh eB p;simp only[W2,Bm,R,K,K2,QS];refine⟨f,_,rfl,⟨S,L,by simp;omega,by simp;omega,λn=> ?_,λn=> ?_⟩,?_⟩
     ·rw[T,BX,c.mi,q];split<;>simp_all
     ·rw[M,Ec,c.mh,q];split<;>simp_all
     ·rw[Sx];simp only[yq,a];simpa using D
  ·
    have N:(x.Kind==0)=false:=by simpa using a
    simp only[N,W2,Bm,K2];obtain⟨G,H,B⟩:=yd (s:=t.2.1.hand) (x:=QB.mk x.First x.Last) eB c.nh o;simp only[H,K2];cases j:G with
    | false=>
     left;have v:¬∀n,ND (QB.mk x.First x.Last) n->mem t.2.1.hand n:=λh=>by have:=B.2 h;rw[j] at this;cases this
     have:UG pre x=4:=by
      unfold UG;rw[B1 (by simp[d]),B1 (by simp[a]),BY];refine⟨a,?_⟩;obtain⟨n,V⟩:=Classical.not_forall.1 v;obtain⟨r,u⟩:=Classical.not_imp.1 V;exact⟨n,r,λW=>u<|(c.mh n).2 W⟩
     rw[this];simp
    | true=>
     right;have k:=B.1 j
     have f:UG pre x=0:=by
      unfold UG;rw[B1 (by simp[d]),B1 (by simp[a]),B1];rintro⟨_,n,r,u⟩;exact u<|(c.mh n).1<|k n r
     obtain⟨I,K,L,Ru,M⟩:=OC c.nh eB p k;simp only[RK,W2,Bm,K,K2,QS]
     have C:∀n,has x n->cur pre n≠none:=λn h=>by
      have:=(c.mh n).1<|k n h;obtain⟨e,he,_⟩:=this;rw[he];simp
     have m:∀(b:ZA) (z:Int),Inv (pre++[x]) (b,{t.2.1 with hand:=I},z):=λb z=>by
      refine⟨c.ni,L,by simp;omega,by simp;omega,λn=> ?_,λn=> ?_⟩
      ·show mem t.2.1.issued n↔_;rw[BX,c.mi];split
       ·rename_i h;simp[C n h]
       ·rfl
      ·show mem I n↔_;rw[M,Ec,c.mh,q];split
       ·rename_i h;simp[h,a]
       ·rename_i h;simp[h]
     have w:x.Kind=1∨x.Kind=2∨x.Kind=3:=by omega
     rcases w with g | g | g
     ·simp only[g,show Yu 4 1=some 1 from rfl,K2,show((1:Nat)==0)=false from rfl,W2,Bm,hF,B2];exact⟨f,_,rfl,m _ _,by rw[Sx,<-D];simp[yq,g,amount]⟩
     ·simp only[g,show Yu 4 2=some 2 from rfl,K2,show((2:Nat)==0)=false from rfl,show((2:Nat)==1)=false from rfl,W2,Bm,hF,B2];exact⟨f,_,rfl,m _ _,by rw[Sx,<-D];simp[yq,g,amount]⟩
     ·simp only[g,show Yu 4 3=some 3 from rfl,K2,show((3:Nat)==0)=false from rfl,show((3:Nat)==1)=false from rfl,show((3:Nat)==2)=false from rfl,W2,Bm];exact⟨f,_,rfl,m _ _,by rw[Sx,<-D];simp[yq,g,amount]⟩
 ·left;have i:Ua x=false:=by simpa[xB] using d
  have:UG pre x=1:=by unfold UG;rw[BY<|by simpa using d]
  rw[this];simp[i]
end
section
open Go.Dec
variable{l:Q0 QH}
def z6:ZA:=ZA.mk [] 0 0 0
theorem RN(l:Q0 QH)(h:l.length<=256):(∃p x,Sw UG l p x/\YU l=some (z6,(p.length:Int),UG p x))∨
  (Wn UG l/\∃a,XJ a/\(∀n,mem a n↔hand l n)/\a.length<=l.length/\YU l=some ({zX l with Hand:=a},(l.length:Int),0)):=by
 unfold YU;simp only[show ¬((l.length:Int) > 256) by omega,rW,W2,Bm]
 have key:=FF (body:=VI l) (λi (t:ZA×Up×Int)=>((i:Int),t)) UG (λi e=>.inr (z6,(i:Int),e)) (λt=>.inl (t.1,t.2.1,t.2.2)) (λpre t=>Inv pre t/\t.1=zX pre) l
  (λpre x post t j _ g=>by
   rcases Is j h g.1 g.2 with⟨c,d⟩ | ⟨c,t',d,k,m⟩
   ·exact .inl ⟨c,d⟩
   ·exact .inr ⟨c,t',d,k,m⟩)
  (λt _ _=>by unfold VI;simp)
  l [] (z6,Up.mk [] [],0) rfl Wn.nil ⟨⟨XJ.nil,XJ.nil,by simp,by simp,λn=>by simp[S6,jS],λn=>by simp[S6,hand,jS]⟩,rfl⟩
 simp only[kp,hJ] at key
 rcases key with⟨p,x,o,f⟩ | ⟨q,t,⟨b,r⟩,f⟩
 ·refine .inl ⟨p,x,o,?_⟩;refine ZT f ?_;rfl
 ·refine .inr ⟨q,t.2.1.hand,b.nh,b.mh,b.lh,?_⟩;refine ZT f ?_
  have s:UO t.2.1.hand=some t.2.1.hand:=by
   unfold UO;have:=b.lh;rw[Bn (by simp only[kp];omega)];simp
  simp only[s,K2,QS,r]
theorem qj{pre:Q0 QH}{x:QH}(h:UG pre x=0):xB x=true/\(x.Kind=0->∀n,has x n->cur pre n=none)/\(x.Kind≠0->∀n,has x n->hand pre n):=by
 unfold UG at h
 split at h
 ·cases h
 ·rename_i d;split at h
  ·cases h
  ·rename_i e;split at h
   ·cases h
   ·rename_i f;refine⟨by simpa using d,λa n b=> ?_,λa n b=> ?_⟩
    ·apply lQ;exact λc=>e ⟨a,n,b,c⟩
    ·apply lQ;exact λc=>f ⟨a,n,b,c⟩
theorem xA{x:QH}(h:Wn UG (l++[x])):UG l x=0:=h l x [] rfl
theorem Ig(n:Int)(l:Q0 QH):Wn UG l->l.find? (λe=>decide<|e.Kind=1/\has e n)=(cur l n).filter (λe=>decide<|e.Kind=1):=by
 induction l using C4 with
 | niX=>intro _;rfl
 | snX l x d=>
  intro h;have d:=d h.init;obtain⟨_,g,i⟩:=qj<|xA h;rw[List.find?_append,BX,d];by_cases a:has x n
  ·by_cases f:x.Kind=0
   ·simp[g f n a,a,f,Option.filter]
   ·obtain⟨e,he,b⟩:=i f n a;rw[he];by_cases c:x.Kind=1
    ·simp[b,a,c,Option.filter]
    ·simp[b,a,c,Option.filter]
  ·simp[a]
def Ll(l:Q0 QH)(n:Int):Int×Int:=match(cur l n).filter (λe=>decide<|e.Kind=1) with | some e=>(e.Batch,0) | none=>(0,4)
theorem zR(l:Q0 QH)(n:Int)(h:l.length<=256):ZU (Ub l n) 0=some (match l.find? (λe=>decide<|e.Kind=1/\has e n) with | some e=>.inr (e.Batch,0) | none=>.inl ()):=by
 have key:=BL (body:=Ub l n) (fun(_:Unit) i=>(i:Int)) (λ_ _ x=>if decide (x.Kind=1/\has x n) then some (.done<|.inr (x.Batch,0)) else some (.next ())) (λ_=>.inl ()) l
  (λt i x b=>by
   have hi:=Zx b;unfold Ub;simp only[Z2,b,K2];rw[Qo eB eB];simp only[show(decide<|(i:Int) < (l.length:Int))=true by simpa using hi,B2]
   have e:(x.Kind==1&&QV n x.First x.Last)=decide (x.Kind=1/\has x n):=by
    rw[lb,decide_eq_true_iff];simp only[Do,mX,QV,AT,oE];exact Iff.rfl
   rw[e];by_cases a:x.Kind=1/\has x n<;>simp[a,UQ.au])
  (λt=>by unfold Ub;simp) ()
 simp only[hJ] at key
 rw[key]
 clear key h
 generalize 0=i
 induction l generalizing i with
 | nil=>rfl
 | cons x l c=>
  simp only[NG,mx];by_cases a:x.Kind=1/\has x n
  ·simp[a]
  ·simp only[a,rW,W2,Bm];exact c<|i+1
theorem zQ(n:Int)(h:l.length<=256)(a:Wn UG l):V0 l n=some (Ll l n):=by
 unfold V0;rcases RN l h with⟨p,x,b,_⟩ | ⟨_,d,_,_,_,c⟩
 ·exact absurd a b.nE
 ·refine ZT c ?_;simp only[iA,W2,Bm];rw[zR l n h,Ig n l a];unfold Ll;cases(cur l n).filter (λe=>decide<|e.Kind=1)<;>simp
theorem jh(n:Int){b:ZA}{i e:Int}(h:YU l=some (b,i,e))(he:e≠0):V0 l n=some (0,e):=by
 unfold V0;refine ZT h ?_;simp only[show(e != 0)=true by simpa using he,B2]
end
section
open Go.Dec
theorem NI(x:Int):ZN x=true↔0<=x/\x<=65536:=by
 simp only[ZN,QV,Do,AT,oE]
theorem Lr(p:Int)(a:0<=p):∀l:Q0 Int,(∀x∈l,0<=x/\x<=p)->0<=l.sum/\l.sum<=p*l.length
 | [],_=>by simp
 | x::l,h=>by
  have c:=h x eF;have d:=Lr p a l λy b=>h y (by simp[b]);rw[List.sum_cons,OF,ej,iR];simp only[oc,Int.mul_one];omega
theorem vZ(l:Q0 Int)(o:l.length<=1000):Xp l=some (if l.all ZN then(l.sum,true) else(0,false)):=by
 unfold Xp
 have key:=FF (body:=Xi l) (λi (t:Int)=>(t,(i:Int))) (λ_ x=>if ZN x then 0 else 1) (λ_ _=>.inr (0,false)) (λt=>.inl t) (λpre t=>t=pre.sum) l
  (λpre x post t b d f=>by
   have k:=VO b;have hi:=HJ b;unfold Xi;simp only[Z2,k,K2,QS];rw[Qo (n:=(pre.length:Int)+1) eB eB];simp only[show(decide<|(pre.length:Int) < (l.length:Int))=true by simpa using hi,B2];cases g:ZN x with
   | false=>left;simp
   | true=>
    right;have m:=(NI x).1 g
    have c:∀y∈pre,0<=y/\y<=65536:=by
     intro y h;obtain⟨s,r,rfl⟩:=lP h;have:=d s y r rfl;cases a:ZN y with
     | true=>exact(NI y).1 a
     | false=>simp[a] at this
    have q:=Lr 65536 eB pre c;refine⟨by simp,t+x,?_,by rw[f];simp⟩;simp only[RK,W2,Bm];rw[Qo eB eB];simp)
  (λt _ _=>by unfold Xi;simp) l [] 0 rfl Wn.nil rfl
 simp only[kp,hJ] at key
 rcases key with⟨p,x,⟨post,e,_,g⟩,j⟩ | ⟨d,t,f,j⟩
 ·have:l.all ZN=false:=by
   rw[e,lH,mj];cases a:ZN x with
   | true=>simp[a] at g
   | false=>simp
  rw[this];exact ZT j rfl
 ·have:l.all ZN=true:=by
   rw[IN];intro y h;obtain⟨s,r,rfl⟩:=lP h;have:=d s y r rfl;cases a:ZN y with
   | true=>rfl
   | false=>simp[a] at this
  rw[this];exact ZT j (by rw[f];rfl)
def wQ(d:Qr):Bool:=
 (DF 8 d.From.Woods).all ZN&&(DF 8 d.From.Places).all ZN&&ZN d.From.Age&&decide (d.From.Age≥imax (DF 8 d.From.Woods).sum (DF 8 d.From.Places).sum)&&
 QV d.From.Number 0 1073741824&&QV d.Amount 1 1073741824&&Kd d.Strength 10000
structure dW(d:Qr):Prop where
 woods:∀i,i < 8->0<=d.From.Woods i/\d.From.Woods i<=65536
 places:∀i,i < 8->0<=d.From.Places i/\d.From.Places i<=65536
 age:0<=d.From.Age/\d.From.Age<=65536
 ageW:(DF 8 d.From.Woods).sum<=d.From.Age
 ageP:(DF 8 d.From.Places).sum<=d.From.Age
 num:0<=d.From.Number/\d.From.Number<=1073741824
 amt:1<=d.Amount/\d.Amount<=1073741824
 str:0<=d.Strength.Lo/\d.Strength.Lo<=d.Strength.Hi/\d.Strength.Hi<=10000
theorem yo{f:Nat->Int}{p:Int->Bool}{n:Nat}:(DF n f).all p=true↔∀i,i < n->p (f i)=true:=by
 simp[DF]
theorem IG(d:Qr):wQ d=true↔dW d:=by
 simp only[wQ,Do,yo,NI,AT,QV,Kd,imax,oE];constructor
 ·rintro⟨⟨⟨⟨⟨⟨a,b⟩,c⟩,e⟩,f⟩,g⟩,h⟩;refine⟨a,b,c,?_,?_,by omega,by omega,by omega⟩
  ·split at e<;>omega
  ·split at e<;>omega
 ·rintro⟨a,b,c,e,f,g,h,i⟩;refine⟨⟨⟨⟨⟨⟨a,b⟩,c⟩,?_⟩,by omega⟩,by omega⟩,by omega⟩;split<;>omega
theorem Ts(d:Qr):Uj d=some (wQ d):=by
 unfold Uj;rw[vZ _ (by simp[DF]),vZ _<|by simp[DF]];simp only[K2,QS,wQ];cases a:(DF 8 d.From.Woods).all ZN<;>cases b:(DF 8 d.From.Places).all ZN<;>simp
def Vh(l:Q0 Qr):Int:=(l.map λd=>d.Amount).sum
def WX(l:Q0 Qr):Int:=(l.map λd=>d.Amount*d.Strength.Lo).sum
def UW(l:Q0 Qr):Int:=(l.map λd=>d.Amount*d.Strength.Hi).sum
theorem Ls(l:Q0 Qr)(d:Qr):Vh (l++[d])=Vh l+d.Amount:=by simp[Vh]
theorem NY(l:Q0 Qr)(d:Qr):WX (l++[d])=WX l+d.Amount*d.Strength.Lo:=by simp[WX]
theorem NZ(l:Q0 Qr)(d:Qr):UW (l++[d])=UW l+d.Amount*d.Strength.Hi:=by simp[UW]
theorem FN{d:Qr}(h:dW d){x:Int}(a:0<=x)(b:x<=10000):0<=d.Amount*x/\d.Amount*x<=10737418240000:=by
 have c:=h.amt;constructor
 ·exact n2 eB a
 ·have:=ep c.2 b a eB;omega
theorem NU(l:Q0 Qr):(∀d∈l,dW d)->((l.length:Int)<=Vh l/\Vh l<=1073741824*l.length)/\(0<=WX l/\WX l<=UW l)/\UW l<=10737418240000*l.length/\UW l<=10000*Vh l:=by
 induction l using C4 with
 | niX=>intro _;simp[Vh,WX,UW]
 | snX l d b=>
  intro h;have a:=h d eF;obtain⟨e,f,g,i⟩:=b λx c=>h x (by simp[c]);rw[Ls,NY,NZ,x4,lg,ej];have j:=a.amt;have hs:=a.str;have k:=FN a (x:=d.Strength.Lo) eB eB;have m:=FN a (x:=d.Strength.Hi) eB eB;have n:d.Amount*d.Strength.Lo<=d.Amount*d.Strength.Hi:=fm hs.2.1 eB;have o:d.Amount*d.Strength.Hi<=d.Amount*10000:=fm hs.2.2 eB;simp only[oc];refine⟨by omega,by omega,by omega,by omega⟩
def HH(b:QU):Bool:=b.Draughts.all wQ&&QV (b.Draughts.length:Int) 1 16&&QV b.Water 0 17179869184&&Kd b.Shrink 1000
structure Valid(b:QU):Prop where
 ds:∀d∈b.Draughts,dW d
 len:1<=b.Draughts.length/\b.Draughts.length<=16
 water:0<=b.Water/\b.Water<=17179869184
 shrink:0<=b.Shrink.Lo/\b.Shrink.Lo<=b.Shrink.Hi/\b.Shrink.Hi<=1000
theorem FY(b:QU):HH b=true↔Valid b:=by
 simp only[HH,Do,IN,IG,QV,Kd,AT,oE];constructor
 ·rintro⟨⟨⟨a,d⟩,c⟩,e⟩;exact⟨a,by omega,c,by omega⟩
 ·rintro⟨a,d,c,e⟩;exact⟨⟨⟨a,by omega⟩,c⟩,by omega⟩
theorem Oj(b:QU)(k:b.Draughts.length<=1000):∃x,WS b=some (x,HH b)/\(HH b=true->x=Qg.mk b (Vh b.Draughts) (WX b.Draughts) (UW b.Draughts)):=by
 unfold WS
 have key:(∃x,ZU (JI b) (0,Qg.mk b 0 0 0)=some (.inr (x,false))/\b.Draughts.all wQ=false)∨(ZU (JI b) (0,Qg.mk b 0 0 0)=some (.inl<|Qg.mk b (Vh b.Draughts) (WX b.Draughts)<|UW b.Draughts)/\b.Draughts.all wQ=true):=by
  have go:∀(post pre:Q0 Qr),b.Draughts=pre++post->(∀d∈pre,dW d)->(∃x,ZU (JI b) ((pre.length:Int),Qg.mk b (Vh pre) (WX pre)<|UW pre)=some (.inr (x,false))/\b.Draughts.all wQ=false)∨(ZU (JI b) ((pre.length:Int),Qg.mk b (Vh pre) (WX pre)<|UW pre)=some (.inl<|Qg.mk b (Vh b.Draughts) (WX b.Draughts)<|UW b.Draughts)/\b.Draughts.all wQ=true):=by
   intro post
   induction post with
   | nil=>
    intro pre e h;rw[r8] at e
    right;rw[<-e] at h ⊢
    refine⟨?_,by rw[IN];exact λd f=>(IG d).2<|h d f⟩;rw[ZJ];unfold JI;simp
   | cons d post m=>
    intro pre e h;have l:=VO e;have hi:=HJ e;cases f:wQ d with
    | false=>
     left
     have i:JI b ((pre.length:Int),Qg.mk b (Vh pre) (WX pre)<|UW pre)=some (.done<|.inr (Qg.mk b (Vh pre) (WX pre)<|UW pre,false)):=by
      unfold JI;simp only[Z2,l,K2,QS,Ts,f];simp only[show(decide<|(pre.length:Int) < (b.Draughts.length:Int))=true by simpa using hi,B2];simp
     refine⟨Qg.mk b (Vh pre) (WX pre)<|UW pre,?_,?_⟩
     ·rw[ZJ,i]
     ·rw[e,lH,mj,f];simp
    | true=>
     have c:=(IG d).1 f;have hs:=c.str;obtain⟨o,p,q,_⟩:=NU pre h;have r:=FN c (x:=d.Strength.Lo) eB eB;have s:=FN c (x:=d.Strength.Hi) eB eB;have t:=c.amt
     have:=m (pre++[d]) (by rw[e];simp) λx g=>by
      rcases mg.1 g with g | g
      ·exact h x g
      ·simp only[ts] at g;subst g;exact c
     have i:JI b ((pre.length:Int),Qg.mk b (Vh pre) (WX pre)<|UW pre)=some (.next (((pre++[d]).length:Int),Qg.mk b (Vh<|pre++[d]) (WX<|pre++[d])<|UW<|pre++[d])):=by
      unfold JI;rw[Ls,NY,NZ,x4,lg,ej];simp only[Z2,l,K2,QS,Ts,f];simp only[show(decide<|(pre.length:Int) < (b.Draughts.length:Int))=true by simpa using hi,B2];rw[Qo (n:=d.Amount*d.Strength.Lo) eB eB,Qo (n:=d.Amount*d.Strength.Hi) eB eB,Qo (n:=(pre.length:Int)+1) eB eB,Qo (n:=Vh pre+d.Amount) eB eB,Qo (n:=WX pre+d.Amount*d.Strength.Lo) eB eB,Qo (n:=UW pre+d.Amount*d.Strength.Hi) eB eB];simp
     rw[ZJ,i];exact this
  exact go b.Draughts [] rfl eF
 rcases key with⟨x,j,a⟩ | ⟨j,a⟩
 ·refine⟨x,ZT j ?_,λh=> ?_⟩
  ·simp only[HH,a,lu]
  ·simp only[HH,a,lu] at h;cases h
 ·refine⟨Qg.mk b (Vh b.Draughts) (WX b.Draughts)<|UW b.Draughts,ZT j ?_,λ_=>rfl⟩;simp only[HH,a,mb];cases QV (b.Draughts.length:Int) 1 16<;>cases QV b.Water 0 17179869184<;>simp
end
section
open Go.Dec
variable{b:QU}{w:Int}
def vU(b:QU)(w:Int):QB:=QB.mk ((Vh b.Draughts+w)*(10000 - b.Shrink.Hi) / 10000) (((Vh b.Draughts+w)*(10000 - b.Shrink.Lo)+10000 - 1) / 10000)
def we(b:QU)(w:Int):QB:=
 QB.mk (Je 10000<|WX b.Draughts*10000 / ((Vh b.Draughts+w)*(10000 - b.Shrink.Lo)))
  (Je 10000<|(UW b.Draughts*10000+(Vh b.Draughts+w)*(10000 - b.Shrink.Hi) - 1) / ((Vh b.Draughts+w)*(10000 - b.Shrink.Hi)))
structure cA(b:QU)(w:Int):Prop where
 a:1<=Vh b.Draughts/\Vh b.Draughts<=17179869184
 l:0<=WX b.Draughts/\WX b.Draughts<=UW b.Draughts/\UW b.Draughts<=171798691840000
 lh:UW b.Draughts<=10000*Vh b.Draughts
 small:9000<=(Vh b.Draughts+w)*(10000 - b.Shrink.Hi)/\(Vh b.Draughts+w)*(10000 - b.Shrink.Hi)<=343597383680000
 great:9000<=(Vh b.Draughts+w)*(10000 - b.Shrink.Lo)/\(Vh b.Draughts+w)*(10000 - b.Shrink.Lo)<=343597383680000
 le:(Vh b.Draughts+w)*(10000 - b.Shrink.Hi)<=(Vh b.Draughts+w)*(10000 - b.Shrink.Lo)
theorem be(h:Valid b)(g:0<=w)(i:w<=17179869184):cA b w:=by
 obtain⟨j,k,l,e⟩:=NU b.Draughts h.ds;have m:=h.len;have hs:=h.shrink;have f:1<=Vh b.Draughts/\Vh b.Draughts<=17179869184:=by omega
 have d:∀x:Int,9000<=x->x<=10000->9000<=(Vh b.Draughts+w)*x/\(Vh b.Draughts+w)*x<=343597383680000:=by
  intro x a c;have n:1*9000<=(Vh b.Draughts+w)*x:=ep eB a eB eB;have o:(Vh b.Draughts+w)*x<=34359738368*10000:=ep eB c eB eB;omega
 exact⟨f,by omega,e,d _ eB eB,d _ eB eB,fm eB eB⟩
theorem Lm(h:Valid b)(d:0<=w)(e:w<=17179869184):YL (Qg.mk b (Vh b.Draughts) (WX b.Draughts)<|UW b.Draughts) w=some (vU b w):=by
 have c:=be h d e;have f:=c.a;have g:=c.small;have i:=c.great;have hs:=h.shrink;unfold YL HS;simp only[QS];rw[Qo (n:=Vh b.Draughts+w) eB eB,Qo (n:=10000 - b.Shrink.Lo) eB eB,Qo (n:=10000 - b.Shrink.Hi) eB eB];rw[Qo (n:=(Vh b.Draughts+w)*(10000 - b.Shrink.Lo)) eB eB,Qo (n:=(Vh b.Draughts+w)*(10000 - b.Shrink.Hi)) eB eB];rw[Qo (n:=(Vh b.Draughts+w)*(10000 - b.Shrink.Lo)+10000) eB eB,Qo (n:=(Vh b.Draughts+w)*(10000 - b.Shrink.Lo)+10000 - 1) eB eB];rw[Ny eB eB eB];simp only[K2];rw[mf eB,Qo eB eB];rfl
theorem Ir(h:Valid b)(d:0<=w)(e:w<=17179869184):Yn (Qg.mk b (Vh b.Draughts) (WX b.Draughts)<|UW b.Draughts) w=some (we b w):=by
 have c:=be h d e;have f:=c.a;have g:=c.small;have i:=c.great;have j:=c.l;have hs:=h.shrink;unfold Yn HS;simp only[QS];rw[Qo (n:=Vh b.Draughts+w) eB eB,Qo (n:=10000 - b.Shrink.Lo) eB eB,Qo (n:=10000 - b.Shrink.Hi) eB eB];rw[Qo (n:=(Vh b.Draughts+w)*(10000 - b.Shrink.Lo)) eB eB,Qo (n:=(Vh b.Draughts+w)*(10000 - b.Shrink.Hi)) eB eB];rw[Qo (n:=WX b.Draughts*10000) eB eB,Qo (n:=UW b.Draughts*10000) eB eB];rw[Qo (n:=UW b.Draughts*10000+(Vh b.Draughts+w)*(10000 - b.Shrink.Hi)) eB eB,Qo (n:=UW b.Draughts*10000+(Vh b.Draughts+w)*(10000 - b.Shrink.Hi) - 1) eB eB];rw[Ny eB eB eB,Ny eB eB eB];rfl
def Dl(l:Q0 Qr)(f:Qr->Int):Int:=match l with
 | []=>0
 | d::r=>r.foldl (λm x=>Je m<|f x)<|f d
theorem yH{l:Q0 Qr}{d:Qr}{f:Qr->Int}(a:l≠[]):Dl (l++[d]) f=Je (Dl l f) (f d):=by
 cases l with
 | nil=>exact absurd rfl a
 | cons x r=>simp[Dl]
theorem MP(l:Q0 Qr)(f:Qr->Int)(a:l≠[])(h:l.length<=1000):Kn l (λd=>some<|f d)=some (Dl l f):=by
 cases l with
 | nil=>exact absurd rfl a
 | cons d r=>
  simp only[OF] at h
  unfold Kn;have e:ZX (d::r) 0=some d:=rfl
  have g:ZZ (d::r) 1 ((d::r).length:Int)=some r:=by
   unfold ZZ;rw[BY (by simp only[OF];omega)];simp
  refine ZT e<|ZT rfl<|ZT g ?_
  obtain⟨t',j,c⟩:=GD (body:=V7 (λd=>some<|f d) r) (λi (t:Int)=>(t,(i:Int))) (λt=>t) (λpre t=>t=Dl (d::pre) f) r
   (λpre x post t a k=>by
    have m:=VO a;have hi:=HJ a;unfold V7;simp only[Z2,m,K2,QS];rw[Qo eB eB];simp only[show(decide<|(pre.length:Int) < (r.length:Int))=true by simpa using hi,B2];refine⟨_,rfl,?_⟩;rw[<-tO,yH eF,k])
   (λt _=>by unfold V7;simp) r [] (f d) rfl rfl
  simp only[kp,hJ] at c
  exact ZT c<|by rw[j]
def LM(l:Q0 Qr):Q0 Int:=l.foldl (λacc d=>if d.From.Number∈acc then acc else acc++[d.From.Number]) []
theorem yF(l:Q0 Qr)(d:Qr):LM (l++[d])=if d.From.Number∈LM l then LM l else LM l++[d.From.Number]:=by
 unfold LM;rw[List.foldl_append];rfl
theorem Ra(k:Int):∀ks:Q0 Int,Q5 (ks.map λx=>(x,true)) k true=(if k∈ks then ks else ks++[k]).map λx=>(x,true)
 | []=>by simp[Q5]
 | x::ks=>by
  simp only[E4,Q5];by_cases h:k=x
  ·subst h;simp
  ·have a:(k==x)=false:=by simpa using h
   simp only[a,W2,Bm];rw[Ra k ks];by_cases c:k∈ks<;>simp[c,h]
theorem Mk(b:QU)(A L M:Int)(h:b.Draughts.length<=1000):Vz (Qg.mk b A L M)=some ((LM b.Draughts).length:Int):=by
 unfold Vz
 obtain⟨t',d,a⟩:=GD (body:=VH<|Qg.mk b A L M) (λi (t:Q0 (Int×Bool))=>(t,(i:Int))) (λt=>t) (λpre t=>t=(LM pre).map λx=>(x,true)) b.Draughts
  (λpre x post t c e=>by
   have f:=VO c;have hi:=HJ c;unfold VH;simp only[Z2,f,K2,QS];rw[Qo eB eB];simp only[show(decide<|(pre.length:Int) < (b.Draughts.length:Int))=true by simpa using hi,B2];refine⟨_,rfl,?_⟩;rw[e,Ra,yF])
  (λt _=>by unfold VH;simp) b.Draughts [] [] rfl rfl
 simp only[kp,hJ] at a
 exact ZT a (by rw[d];simp)
structure jZ(b:QU)(w:Int)(x:Qq):Prop where
 vol:x.Volume=vU b w
 str:x.Strength=we b w
 age:x.Age=Dl b.Draughts λd=>d.From.Age
 woods:∀i,i < 8->x.Woods i=Dl b.Draughts λd=>d.From.Woods i
 places:∀i,i < 8->x.Places i=Dl b.Draughts λd=>d.From.Places i
 casks:x.Casks=((LM b.Draughts).length:Int)
theorem Ln{α:Type}(f:Nat->α)(i:Nat)(x:α):ZB f i x i=x:=by simp[ZB]
theorem NR{α:Type}{f:Nat->α}{i j:Nat}{x:α}(h:j≠i):ZB f i x j=f j:=by
 have:Nat.beq j i=false:=by
  cases a:Nat.beq j i with
  | true=>exact absurd (j0 a) h
  | false=>rfl
 simp[ZB,this]
theorem qY(h:Valid b):∃x,Yo (Qg.mk b (Vh b.Draughts) (WX b.Draughts)<|UW b.Draughts)=some x/\jZ b b.Water x:=by
 have y:=h.len;have l:b.Draughts≠[]:=by intro e;rw[e] at y;simp at y
 unfold Yo;have C:=Lm h h.water.1 h.water.2;have D:=Ir h h.water.1 h.water.2;have E:=Mk b (Vh b.Draughts) (WX b.Draughts) (UW b.Draughts) eB;have F:Kn b.Draughts (λx=>some<|Y8 x)=some (Dl b.Draughts λd=>d.From.Age):=MP b.Draughts (λd=>d.From.Age) l eB;generalize a:({(Qq.mk (vU b b.Water) (we b b.Water) 0 (λ_=>0) (λ_=>0) ((LM b.Draughts).length:Int)) with Age:=Dl b.Draughts λd=>d.From.Age}:Qq)=o
 obtain⟨m,⟨p,q⟩,z⟩:=GA (body:=VG<|Qg.mk b (Vh b.Draughts) (WX b.Draughts)<|UW b.Draughts) (λi (t:Qq)=>((i:Int),t)) (λt=>t)
  (λn t=>(∀i,i < n->t.Woods i=Dl b.Draughts λd=>d.From.Woods i)/\∃f,t={o with Woods:=f}) 8
  (λi t hi ⟨r,f,s⟩=>by
   have u:Kn b.Draughts (λx=>Km x (i:Int))=some (Dl b.Draughts λd=>d.From.Woods i):=by
    rw[show(λx=>Km x (i:Int))=λx=>some (x.From.Woods i) from by
     funext x;unfold Km;rw[Hm hi];rfl]
    exact MP b.Draughts _ l eB
   refine⟨{t with Woods:=ZB t.Woods i (Dl b.Draughts λd=>d.From.Woods i)},?_,λj G=> ?_,?_⟩
   ·unfold VG;simp only[show(decide<|(i:Int) < 8)=true by simp;omega,B2];refine ZT u<|ZT (Hm hi) ?_;simp only[QS];rw[Qo eB eB];simp
   ·show ZB t.Woods i _ j=_;by_cases c:j=i
    ·subst c;exact Ln _ _ _
    ·rw[NR c];exact r j eB
   ·exact⟨ZB t.Woods i<|Dl b.Draughts λd=>d.From.Woods i,by rw[s]⟩)
  (λt _=>by unfold VG;simp) 8 0 o rfl ⟨λi hi=>by omega,o.Woods,rfl⟩
 obtain⟨A,⟨v,I,g⟩,B⟩:=GA (body:=VF<|Qg.mk b (Vh b.Draughts) (WX b.Draughts)<|UW b.Draughts) (λi (t:Qq)=>((i:Int),t)) (λt=>t)
  (λn t=>(∀i,i < n->t.Places i=Dl b.Draughts λd=>d.From.Places i)/\∃f,t={m with Places:=f}) 8
  (λi t hi ⟨r,f,s⟩=>by
   have u:Kn b.Draughts (λx=>Kl x (i:Int))=some (Dl b.Draughts λd=>d.From.Places i):=by
    rw[show(λx=>Kl x (i:Int))=λx=>some (x.From.Places i) from by
     funext x;unfold Kl;rw[Hm hi];rfl]
    exact MP b.Draughts _ l eB
   refine⟨{t with Places:=ZB t.Places i (Dl b.Draughts λd=>d.From.Places i)},?_,λj G=> ?_,?_⟩
   ·unfold VF;simp only[show(decide<|(i:Int) < 8)=true by simp;omega,B2];refine ZT u<|ZT (Hm hi) ?_;simp only[QS];rw[Qo eB eB];simp
   ·show ZB t.Places i _ j=_;by_cases c:j=i
    ·subst c;exact Ln _ _ _
    ·rw[NR c];exact r j eB
   ·exact⟨ZB t.Places i<|Dl b.Draughts λd=>d.From.Places i,by rw[s]⟩)
  (λt _=>by unfold VF;simp) 8 0 m rfl ⟨λi hi=>by omega,m.Places,rfl⟩
 simp only[hJ] at z B
 obtain⟨K,k⟩:=q;refine⟨A,?_,?_⟩
 ·refine ZT C<|ZT D<|ZT E<|ZT F ?_;simp only[QS];rw[a];exact ZT z<|ZT B rfl
 ·have H:A.Woods=m.Woods:=by rw[g]
  refine⟨by rw[g,k,<-a],by rw[g,k,<-a],by rw[g,k,<-a],λi hi=>by rw[H];exact p i hi,v,by rw[g,k,<-a]⟩
theorem kY(b:QU)(a:b.Draughts.length<=1000):(HH b=false/\V1 b=some (Qq.mk (QB.mk 0 0) (QB.mk 0 0) 0 (λ_=>0) (λ_=>0) 0,1))∨(Valid b/\∃x,V1 b=some (x,0)/\jZ b b.Water x):=by
 obtain⟨x,he,d⟩:=Oj b a;unfold V1;cases c:HH b with
 | false=>
  refine .inl ⟨rfl,ZT he ?_⟩;rw[c];rfl
 | true=>
  have h:=(FY b).1 c;obtain⟨y,e,f⟩:=qY h;refine .inr ⟨h,y,ZT he ?_,f⟩;rw[c,d c];simp only[RK,W2,Bm];exact ZT e rfl
end
section
open Go.Dec
def Dg(c:Qx):Bool:=
 if c.Kind==0 then ZN c.Number else if c.Kind==1 then ZN c.Number&&QV c.What 0 7 else if c.Kind==2 then ZN c.Number&&QV c.What 0 7 else
 if c.Kind==7 then JP c.What&&JP c.Number else QV c.Kind 0 7
theorem kF(c:Qx):Wi c=some (Dg c):=by
 unfold Wi Dg
 repeat' split
 all_goals rfl
structure gQ(c:Qx):Prop where
 kind:0<=c.Kind/\c.Kind<=7
 what:c.Kind=1∨c.Kind=2->0<=c.What/\c.What<=7
 str:c.Kind=7->(0<=c.What/\c.What<=10000)/\0<=c.Number/\c.Number<=10000
theorem gQ.of{c:Qx}(h:Dg c=true):gQ c:=by
 unfold Dg at h
 simp only[mX,QV,JP] at h
 repeat' split at h
 all_goals simp only[Do,AT,oE,NI] at h
 all_goals exact⟨by omega,λh=>by omega,λh=>by omega⟩
theorem LO(s:Q0 Qx)(f:Qx->Bool)(c:s.length<=1000000):JX s (λx=>some<|f x)=some (s.any f):=by
 unfold JX Vr
 have key:=FF (body:=Ju s λx=>some<|f x) (λi (_:Unit)=>(i:Int)) (λ_ x=>if f x then 1 else 0) (λi _=>.inr (i:Int)) (λ_=>.inl ()) (λ_ _=>True) s
  (λpre x post t c j l=>by
   have m:=VO c;have hi:=HJ c;unfold Ju;simp only[Z2,m,K2];rw[Qo eB eB];simp only[show(decide<|(pre.length:Int) < (s.length:Int))=true by simpa using hi,B2];cases k:f x with
   | true=>left;simp
   | false=>right;exact⟨by simp,(),by simp⟩)
  (λt _ _=>by unfold Ju;simp) s [] () rfl Wn.nil trivial
 simp only[kp,hJ] at key
 rcases key with⟨p,x,⟨post,e,_,k⟩,d⟩ | ⟨j,t,l,d⟩
 ·have g:f x=true:=by
   cases h:f x with
   | true=>rfl
   | false=>simp[h] at k
  have:s.any f=true:=by rw[e,List.any_append,ig,g];simp
  rw[this];refine ZT (ZT d rfl) ?_;simp
 ·have:s.any f=false:=by
   rw[List.any_eq_false];intro y n;obtain⟨a,b,e⟩:=lP n;have:=j a y b e;intro h;simp[h] at this
  rw[this];exact ZT (ZT d rfl) eF
def GX(l:Q0 Qx):Bool:=decide ((l.length:Int)<=32)&&l.all Dg
theorem PE(l:Q0 Qx):Uk l=some (GX l):=by
 unfold Uk GX;by_cases h:(l.length:Int)<=32
 ·have e:(λx=>Js x)=λx=>some (!Dg x):=by
   funext x;unfold Js;rw[kF];rfl
  simp only[h,ta,B2,e];rw[LO l _ eB];simp only[K2,mb,W1];rw[lb];simp
 ·simp only[h,rW,W2,Bm,K2,lu]
def liesAt(p:Qx->Bool):Nat->Q0 Qx->Q0 Int
 | _,[]=>[]
 | i,c::l=>if p c then liesAt p (i+1) l else(i:Int)::liesAt p (i+1) l
theorem Ah(p:Qx->Bool):∀(l k:Q0 Qx) (i:Nat),liesAt p i (l++k)=liesAt p i l++liesAt p (i+l.length) k
 | [],k,i=>by simp[liesAt]
 | c::l,k,i=>by
  simp only[tO,liesAt,OF,Ah p l k<|i+1];rw[show i+1+l.length=i+(l.length+1) by omega];split<;>simp
theorem MO(p:Qx->Bool):∀(l:Q0 Qx) (i:Nat),(liesAt p i l).length<=l.length
 | [],i=>by simp[liesAt]
 | c::l,i=>by
  have:=MO p l<|i+1;simp only[liesAt];split<;>simp<;>omega
def DV(b:QU)(x:Qq)(c:Qx):Bool:=
 if c.Kind=0 then decide (x.Age≥c.Number) else if c.Kind=1 then decide (x.Woods c.What.toNat≥c.Number) else if c.Kind=2 then decide (x.Places c.What.toNat≥c.Number) else if c.Kind=3 then x.Casks==1 else
 if c.Kind=4 then b.Water==0 else if c.Kind=5 then !b.Filtered else if c.Kind=6 then !b.Coloured else decide (x.Strength.Lo≥c.What - c.Number)&&decide (x.Strength.Hi<=c.What+c.Number)
theorem S8{i:Int}{n:Nat}(a:0<=i)(b:i < n):Yu n i=some i.toNat:=by
 unfold Yu;rw[BY ⟨a,b⟩]
theorem wa(b:QU)(A L M:Int)(x:Qq)(c:Qx)(h:gQ c):((Ym<|ZL.mk (Qg.mk b A L M) x).bind λr=>(Yu 8 c.Kind).bind λj=>(r j) c)=some (DV b x c):=by
 have f:=h.kind;unfold Ym;simp only[K2];rw[S8 eB eB];simp only[K2];have a:c.Kind=0∨c.Kind=1∨c.Kind=2∨c.Kind=3∨c.Kind=4∨c.Kind=5∨c.Kind=6∨c.Kind=7:=by omega
 unfold DV;rcases a with e | e | e | e | e | e | e | e
 ·rw[e];rfl
 ·have d:=h.what<|.inl e;rw[e];show J2 c _=_;unfold J2;rw[S8 eB eB];rfl
 ·have d:=h.what<|.inr e;rw[e];show J1 c _=_;unfold J1;rw[S8 eB eB];rfl
 ·rw[e];rfl
 ·rw[e];rfl
 ·rw[e];rfl
 ·rw[e];rfl
 ·have hs:=h.str e;rw[e];show some (Y7 c _)=_;unfold Y7;rw[Qo eB eB,Qo eB eB];rfl
theorem xE(b:QU)(A L M:Int)(x:Qq)(l:Q0 Qx)(n:l.length<=1000)(h:∀c∈l,gQ c):UP (ZL.mk (Qg.mk b A L M) x) l=some (liesAt (DV b x) 0 l):=by
 unfold UP;obtain⟨r,g⟩:∃r,Ym (ZL.mk (Qg.mk b A L M) x)=some r:=⟨_,rfl⟩;refine ZT g ?_
 obtain⟨t',m,j⟩:=GD (body:=Vf l r) (λi (t:Q0 Int)=>(t,(i:Int))) (λt=>t) (λpre t=>t=liesAt (DV b x) 0 pre) l
  (λpre c post t d e=>by
   have f:=VO d;have hi:=HJ d;have a:=wa b A L M x c<|h c<|T2 f;rw[g] at a
   simp only[K2] at a
   have o:=(h c<|T2 f).kind;rw[S8 eB eB] at a
   simp only[K2] at a
   have k:=MO (DV b x) pre 0;unfold Vf;simp only[Z2,f,K2];rw[Qo eB eB,S8 eB eB];simp only[show(decide<|(pre.length:Int) < (l.length:Int))=true by simpa using hi,B2,K2,a];rw[Ah];simp only[liesAt,dO];cases p:DV b x c with
   | true=>exact⟨t,by simp,by simpa using e⟩
   | false=>
    refine⟨t++[(pre.length:Int)],?_,by rw[e];simp⟩;simp only[k4,B2];rw[TT (by rw[e];simp only[OF,kp];omega)];simp)
  (λt _=>by unfold Vf;simp) l [] [] rfl rfl
 simp only[kp,hJ] at j
 exact ZT j<|by rw[m]
theorem kI(b:QU)(l:Q0 Qx)(j:b.Draughts.length<=1000)(k:l.length<=1000):((HH b&&GX l)=false/\Ul b l=some ([],1))∨(Valid b/\GX l=true/\(∀c∈l,gQ c)/\∃x,jZ b b.Water x/\V1 b=some (x,0)/\Ul b l=some (liesAt (DV b x) 0 l,0)):=by
 obtain⟨x,he,g⟩:=Oj b j;unfold Ul Hj V1;cases d:HH b with
 | false=>
  refine .inl ⟨rfl,?_⟩;rw[he,d];rfl
 | true=>
  cases e:GX l with
  | false=>
   refine .inl ⟨rfl,?_⟩;rw[he,d,PE,e];rfl
  | true=>
   have h:=(FY b).1 d;obtain⟨y,i,m⟩:=qY h
   have a:∀c∈l,gQ c:=by
    simp only[GX,Do,IN] at e
    exact λc f=>gQ.of<|e.2 c f
   refine .inr ⟨h,rfl,a,y,m,?_,?_⟩
   ·refine ZT he ?_;rw[d,g d];simp only[RK,W2,Bm];exact ZT i rfl
   ·rw[he,d,PE,e,g d];simp only[K2,RK,W2,Bm,i];exact ZT (xE b _ _ _ y l k a) rfl
end
end Go.Proofs.YtdoocboganbagaaGreatDoor.Bo
namespace Go.Proofs.YtdoocboganbagaaGreatDoor
section
open Go.Dec
def El(c:H1):Bool:=decide (48<=c.toNat)&&decide (c.toNat<=57)
def Xm(s:Q0 H1):Nat:=s.foldl (λn c=>10*n+(c.toNat - 48)) 0
def Bu(s:Q0 H1):Bool:= !(s==[])&&decide (s.length<=13)&&(!(s.head? ==some 48)||s==[48])&&s.all El
def xC(s:Q0 H1):Out Qp Int:=if Bu s then .ok (Xm s:Int) else .pan ⟨8⟩
theorem PN(s:Q0 H1)(c:H1):Xm (s++[c])=10*Xm s+(c.toNat - 48):=by simp[Xm]
theorem wY(s:Q0 H1)(h:s.all El=true):Xm s < 10^s.length:=by
 induction s using C4 with
 | niX=>simp[Xm]
 | snX l x b=>
  rw[lH,Do] at h
  have c:=b h.1
  have a:x.toNat<=57:=by
   have a:=h.2;simp only[mj,oY,ld,El,Do,AT] at a
   exact a.2
  rw[PN,x4,lg,Nat.pow_succ];omega
theorem kl{s:Q0 H1}(h:s.all El=true)(a:s.length<=13):Xm s < 10000000000000:=
 o3 (wY s h) (by
  have:=Nat.pow_le_pow_right (show 0 < 10 by omega) a;omega)
theorem bX(n:Int)(a:0<=n)(b:n<=255):IntKind.u8.wrap n=n:=by
 unfold IntKind.wrap;have:((2:Int)^IntKind.u8.bits)=256:=by decide
 simp[IntKind.bits,IntKind.signed] at*
 omega
theorem RZ(s:Q0 H1)(hs:s.length<=13):∀(post pre:Q0 H1),s=pre++post->pre.all El=true->
  ZU (UH s) ((Xm pre:Int),(pre.length:Int))=some (if post.all El then .inl (Xm s:Int) else .inr ⟨8⟩)
 | [],pre,e,f=>by
  rw[r8] at e;subst e
  rw[ZJ];unfold UH;simp[XL]
 | c::post,pre,e,f=>by
  have hi:pre.length < s.length:=by rw[e];simp
  have d:(XL s)[pre.length]? =some (c.toNat:Int):=by rw[e];simp[XL]
  have l:=kl f eB;have m:c.toNat < 256:=c.toNat_lt
  have b:UH s ((Xm pre:Int),(pre.length:Int))=some (if El c then .next ((Xm (pre++[c]):Int),((pre++[c]).length:Int)) else .done (.inr ⟨8⟩)):=by
   unfold UH;simp only[Z2,d,K2,QS,Zh,show(decide<|(pre.length:Int) < ((XL s).length:Int))=true by simpa[XL] using hi,B2];by_cases a:El c=true
   ·have g:=a;simp only[El,Do,AT] at g
    have h:(!(decide ((48:Int)<=(c.toNat:Int))&&decide ((c.toNat:Int)<=57)))=false:=by simp;omega
    simp only[h,W2,Bm,Q4];rw[bX _ eB eB,Qo (n:=10*(Xm pre:Int)) eB eB,Qo (n:=(c.toNat:Int) - 48) eB eB,Qo eB eB,Qo eB eB];have i:10*(Xm pre:Int)+((c.toNat:Int) - 48)=(Xm (pre++[c]):Int):=by rw[PN];omega
    have j:(pre.length:Int)+1=((pre++[c]).length:Int):=by simp
    rw[i,j,a];rfl
   ·have h:(!(decide ((48:Int)<=(c.toNat:Int))&&decide ((c.toNat:Int)<=57)))=true:=by
     simp only[El,Do,AT] at a
     simp;omega
    simp only[h,B2,Q4];simp[a]
  rw[ZJ,b];cases a:El c with
  | false=>simp[a]
  | true=>
   have k:=RZ s hs post (pre++[c]) (by rw[e];simp) (by rw[lH,f];simp[a]);simp only[B2,k];simp[a]
theorem RY(s:Q0 H1):W0 s=some (xC s):=by
 unfold W0 xC Bu;cases s with
 | nil=>rfl
 | cons c l=>
  by_cases a:(c::l).length<=13
  ·have b:((!((c::l)==([]:Q0 H1)))&&(decide<|((c::l).length:Int)<=13))=true:=by simp at a ⊢;omega
   simp only[b,B2];have g:ZX (c::l) 0=some c:=rfl;simp only[g,K2]
   have i:(((c.toNat:Int) != 48)||((c::l)==([48]:Q0 H1)))=(!((c::l).head? ==some 48)||(c::l)==[48]):=by
    congr 1;rw[lb];simp only[List.head?_cons,iW,ne_eq,tb,lz,W1];constructor
    ·intro h e;subst e;exact h rfl
    ·intro h e;exact h<|iT.1 (by rw[show(48:H1).toNat=48 from rfl];omega)
   rw[i];have d:(!((c::l)==([]:Q0 H1))&&decide ((c::l).length<=13))=true:=by simp at a ⊢;omega
   simp only[d,mb];have j:VU ([]:Q0 H1) (c::l)=some (c::l):=by unfold VU;rw[BY (by simp at a ⊢;omega)];rfl
   cases k:(!((c::l).head? ==some 48)||(c::l)==[48]) with
   | false=>simp[Zh,Q4]
   | true=>
    have f:=RZ (c::l) a (c::l) [] rfl rfl;simp only[kp,hJ,show(Xm []:Int)=0 from rfl] at f
    simp only[Zh,Q4,RK,W2,Bm,j,K2,f,mb];cases(c::l).all El<;>rfl
  ·have b:((!((c::l)==([]:Q0 H1)))&&(decide<|((c::l).length:Int)<=13))=false:=by simp at a ⊢;omega
   have d:(!((c::l)==([]:Q0 H1))&&decide ((c::l).length<=13))=false:=by simp at a ⊢;omega
   simp only[b,d,W2,Bm,K2,Zh,k4,B2,Q4,lu]
def YX:Q0 H1->Q0 (Q0 H1)
 | []=>[[]]
 | c::l=>if c==32 then[]::YX l else match YX l with
  | []=>[[c]]
  | p::ps=>(c::p)::ps
theorem Ni:∀(s:Q0 H1),YX s≠[]
 | []=>by simp[YX]
 | c::l=>by
  unfold YX;split
  ·simp
  ·split<;>simp
theorem En:∀(s:Q0 H1),(Go.Lib.index s [32]= -1/\YX s=[s])∨(∃i:Nat,Go.Lib.index s [32]=i/\i < s.length/\YX s=s.take i::YX (s.drop<|i+1))
 | []=>.inl ⟨rfl,rfl⟩
 | c::l=>by
  by_cases a:c=32
  ·subst a;exact .inr ⟨0,rfl,by simp,by simp[YX]⟩
  ·have e:([32]:Q0 H1).isPrefixOf (c::l)=false:=by
    simp only[List.isPrefixOf,ld,lz,ne_eq];exact λh=>a h.symm
   have f:(c==32)=false:=by simpa using a
   rcases En l with⟨b,d⟩ | ⟨i,b,d,g⟩
   ·refine .inl ⟨?_,?_⟩
    ·unfold Go.Lib.index;rw[e,b];rfl
    ·simp[YX,f,d]
   ·refine .inr ⟨i+1,?_,by simpa using d,?_⟩
    ·unfold Go.Lib.index;rw[e,b];have:((i:Int)== -1)=false:=by rw[lz];omega
     simp[this]
    ·simp[YX,f,g]
def Gw(s:Q0 H1):Out Qp (Q0 H1×Q0 Int):=match YX s with
 | []=>.pan ⟨8⟩
 | w::ps=>if ps.all Bu then .ok (w,ps.map λp=>(Xm p:Int)) else .pan ⟨8⟩
theorem EJ(s:Q0 H1)(h:s.length<=1000000):(YX s=[s]/\Jq ⟨s⟩ ()=some (s,false,⟨[]⟩))∨(∃p r,p.length+r.length < s.length/\YX s=p::YX r/\Jq ⟨s⟩ ()=some (p,true,⟨r⟩)):=by
 unfold Jq GM;simp only[show s.length < 4294967281 by omega,B2,K2,Go.Lib.cut];rcases En s with⟨a,b⟩ | ⟨i,a,b,c⟩
 ·exact .inl ⟨b,by rw[a];rfl⟩
 ·refine .inr ⟨s.take i,s.drop<|i+1,by simp;omega,c,?_⟩;rw[a];simp
theorem L9:∀(k:Nat) (s:Q0 H1) (acc:Q0 Int),s.length<=k->s.length<=1000000->acc.length+s.length<=1000000->
  ZU (KN ()) (acc,true,⟨s⟩)=some (if(YX s).all Bu then .inl (acc++(YX s).map (λp=>(Xm p:Int)),⟨[]⟩) else .inr ⟨8⟩)
 | k,s,acc,i,h,j=>by
  have d:∀x:Int,VU acc [x]=some (acc++[x]):=λx=>by unfold VU;rw[BY eE]
  have e:∀a:Q0 Int,ZU (KN ()) (a,false,⟨[]⟩)=some (.inl (a,⟨[]⟩)):=λa=>by rw[ZJ];rfl
  rcases EJ s h with⟨f,g⟩ | ⟨p,r,l,f,g⟩
  ·have b:KN () (acc,true,⟨s⟩)=some (if Bu s then .next (acc++[(Xm s:Int)],false,⟨[]⟩) else .done (.inr ⟨8⟩)):=by
    unfold KN;simp only[B2,g,K2,RY,xC];cases c:Bu s<;>simp[Q4,d]
   rw[ZJ,b,f];cases c:Bu s<;>simp[c,e]
  ·have b:KN () (acc,true,⟨s⟩)=some (if Bu p then .next (acc++[(Xm p:Int)],true,⟨r⟩) else .done (.inr ⟨8⟩)):=by
    unfold KN;simp only[B2,g,K2,RY,xC];cases c:Bu p<;>simp[Q4,d]
   rw[ZJ,b,f];cases c:Bu p with
   | false=>simp[c]
   | true=>
    cases k with
    | zero=>omega
    | succ k=>
     simp only[B2,L9 k r (acc++[(Xm p:Int)]) eB eB eE];simp[c]
theorem j2(s:Q0 H1)(h:s.length<=100000):Vw ⟨s⟩ ()=some (match Gw s with | .ok r=>.ok (r.1,r.2,⟨[]⟩) | .pan e=>.pan e):=by
 unfold Vw Gw;rcases EJ s eB with⟨a,b⟩ | ⟨p,r,c,a,b⟩
 ·simp only[b,K2,a];rw[ZJ];unfold KN;simp
 ·simp only[b,K2,a];rw[L9 r.length r [] (S2 _) eB eE];cases d:(YX r).all Bu<;>simp
def kO:Nat->Nat->Q0 H1
 | 0,_=>[]
 | k+1,u=>if u < 10 then[UInt8.ofNat<|48+u] else kO k (u / 10)++[UInt8.ofNat<|48+u%10]
theorem IE:∀(k u:Nat),u < 10^k->0 < k->kO k u=Go.Lib.decDigits u
 | 0,u,_,h=>absurd h (Nat.lt_irrefl 0)
 | k+1,u,h,_=>by
  rw[Go.Lib.decDigits];unfold kO;by_cases a:u < 10
  ·rw[BY a,dif_pos a]
  ·rw[B1 a,dif_neg a];rw[Nat.pow_succ] at h
   cases k with
   | zero=>omega
   | succ k=>rw[IE (k+1) (u / 10) eB eB]
def Eb(n:Int):Q0 H1:=if n < 0 then 45::kO 20 n.natAbs else kO 20 n.toNat
def O1(n:Int):Bool:=decide (-9223372036854775808<=n)&&decide (n<=9223372036854775807)
theorem yL{n:Int}(h:O1 n=true):XS n=some (Eb n):=by
 simp only[O1,Do,AT] at h
 unfold XS Eb Go.Lib.itoa;rw[BY h];congr 1;split
 ·rw[IE _ _ eB eB]
 ·rw[IE _ _ eB eB]
theorem GI{s t:Q0 H1}(h:s.length+t.length<=4294967296):SU s t=some (s++t):=by unfold SU;rw[BY h]
theorem Mb:∀(k u:Nat),(kO k u).length<=k
 | 0,_=>S2 _
 | k+1,u=>by
  unfold kO;split
  ·simp
  ·have:=Mb k<|u / 10;simp;omega
theorem Ea(n:Int):(Eb n).length<=21:=by
 unfold Eb;split
 ·have:=Mb 20 n.natAbs;simp;omega
 ·have:=Mb 20 n.toNat;omega
def Ha(word:Q0 H1)(l:Q0 Int):Q0 H1:=word++l.flatMap λn=>32::Eb n
theorem RI(w:Q0 H1)(l:Q0 Int)(x:Int):Ha w (l++[x])=Ha w l++32::Eb x:=by simp[Ha]
theorem NO(w:Q0 H1)(l:Q0 Int):(Ha w l).length<=w.length+22*l.length:=by
 induction l using C4 with
 | niX=>simp[Ha]
 | snX l x a=>have:=Ea x;rw[RI];simp;omega
theorem Nt{w:Q0 H1}{l:Q0 Int}(g:w.length<=1000)(j:l.length<=100000)(h:l.all O1=true):Jo w l=some (Ha w l):=by
 unfold Jo;rw[GI eE]
 obtain⟨t,a,b⟩:=GD (body:=Xh l) (λi (t:Q0 H1)=>((i:Int),t)) (λt=>t) (λpre t=>t=Ha w pre) l
  (λpre x post t e a=>by
   have c:=VO e;have hi:=HJ e;have d:O1 x=true:=by rw[e,lH,mj] at h;simp only[Do] at h;exact h.2.1
   have k:=NO w pre;have m:=Ea x;subst a;refine⟨Ha w<|pre++[x],?_,rfl⟩;unfold Xh;simp only[Z2,c,K2,show(decide<|(pre.length:Int) < (l.length:Int))=true by simpa using hi,B2];rw[GI eE,K2,yL d,K2,GI eE,K2,Qo eB eB,RI];simp)
  (λt _=>by unfold Xh;simp) l [] (Ha w []) rfl rfl
 simp only[kp,hJ] at b
 have f:Ha w []=w:=by simp[Ha]
 rw[f] at b
 simp only[r7,K2];exact ZT b<|by rw[a]
end
section
open Go.Dec
variable{α β:Type}{l:Q0 QH}{m p:K1 α}
def Le(p m:K1 α):Prop:=∀x,p=some x->m=some x
theorem Le.rfl:Le p p:=λ_ h=>h
theorem Le.of(h:m=p):Le p m:=λ_ e=>h.trans e
theorem Le.none:Le .none m:=λ_ e=>by cases e
theorem Le.bind{α β:Type}{p m:K1 α}{f g:α->K1 β}(h:Le p m)(k:∀x,Le (f x)<|g x):Le (p.bind f) (m.bind g):=by
 intro y e;cases a:p with
 | none=>rw[a] at e;cases e
 | some x=>rw[a] at e;rw[h x a];exact k x y e
theorem Le.cL{p:K1 β}{g:α->K1 β}(x:α)(h:m=some x)(k:Le p (g x)):Le p (m.bind g):=by rw[h];exact k
theorem Le.ite{c:Bool}{a b d b' :K1 α}(h:Le a d)(h' :Le b b'):Le (if c then a else b) (if c then d else b'):=by cases c<;>assumption
theorem Le.guard{c:Prop}[Decidable c]{a b:K1 α}(h:c->Le a b):Le (if c then a else .none) b:=by
 by_cases d:c
 ·rw[BY d];exact h d
 ·rw[B1 d];exact Le.none
abbrev RO(α:Type):=K1<|Out Qp α
abbrev RL:=RO<|Q0 H1×QA
def Ux(b:Bool)(e:Int)(k:RO β):RO β:=if b then k else some (.pan ⟨e⟩)
def HX(x:RO α)(k:α->RO β):RO β:=Q4 x (λq=>some<|.pan q) k
theorem S5(b:Bool)(e:Int):Zh b e=some (if b then .ok () else .pan ⟨e⟩):=by cases b<;>rfl
theorem T4(e:Int):KV e=some (if e==0 then .ok () else .pan ⟨e⟩):=by
 unfold KV;rw[S5];cases e==0<;>rfl
theorem Le.sS{b:Bool}{e:Int}{p:RO β}{g:Unit->RO β}(h:Le p (g ())):Le (Ux b e p) (Q4 (Zh b e) (λq=>some<|.pan q) g):=by
 rw[S5];cases b
 ·exact Le.rfl
 ·exact h
theorem Le.check{e:Int}{p:RO β}{g:Unit->RO β}(h:Le p (g ())):Le (Ux (e==0) e p) (Q4 (KV e) (λq=>some<|.pan q) g):=by
 rw[T4];unfold Ux;cases e==0
 ·exact Le.rfl
 ·exact h
theorem Le.sY{p m:RO α}{f g:α->RO β}(h:Le p m)(k:∀x,Le (f x)<|g x):Le (HX p f) (Q4 m (λq=>some<|.pan q) g):=by
 intro y e;unfold HX at e
 cases a:p with
 | none=>rw[a] at e;cases e
 | some x=>
  rw[a] at e;rw[h x a]
  cases x with
  | ok x=>exact k x y e
  | pan q=>exact e
theorem XK{l k:Q0 α}(h:l.length+k.length<=4000000):VU l k=some (l++k):=by unfold VU;rw[BY eB]
def Cd(L:QA)(x:QE):RO QA:=if L.casks.length<=1000000 then Ux ((Ca.Sm (L.casks++[{x with Day:=L.day}]) L.day).2.2==0) (Ca.Sm (L.casks++[{x with Day:=L.day}]) L.day).2.2 (some<|.ok {L with casks:=L.casks++[{x with Day:=L.day}]}) else none
theorem FI(L:QA)(x:QE):Le (Cd L x) (Ze L () x):=by
 refine Le.guard λh=> ?_;unfold Ze;simp only[QS];refine Le.cL _ (XK eE)<|Le.cL _ (Ca.FX _ _)<|Le.check Le.rfl
def atR(L:QA)(c:Int):ZR×Int:=Ca.Cy L.casks c L.day
theorem Ew(L:QA)(c:Int):Ka L () c=some (atR L c):=by
 unfold Ka;rw[Ca.xu];rfl
def Da(r:Qk)(l:Q0 QN)(day:Int):Qz×Int×Int:=Ex.vy<|Ex.JV r l day
def BW(L:QA)(x:QN):RO QA:=match L.rules with
 | none=>none
 | some r=>if r.Rates.length<=1000000/\L.duties.length<=1000000 then Ux ((Da r (L.duties++[{x with Day:=L.day}]) L.day).2.2==0) (Da r (L.duties++[{x with Day:=L.day}]) L.day).2.2 (some<|.ok {L with duties:=L.duties++[{x with Day:=L.day}]}) else none
theorem Tz(L:QA)(x:QN):Le (BW L x) (KX L () x):=by
 unfold BW;cases a:L.rules with
 | none=>exact Le.none
 | some r=>
  refine Le.guard λh=> ?_;unfold KX;simp only[QS];refine Le.cL _ (XK eE) ?_;rw[a];simp only[K2];rw[Ex.FX h.1 eB];exact Le.check Le.rfl
def w5(l:Q0 QH):Q0 Int:=l.flatMap λe=>[e.First,e.Last+1]
open Bo in
def UUu(P:Int->Bool)(pre:Q0 QH)(x:QH):Bool:=(x.First::w5 pre).all λn=> !decide (has x n)||P n
theorem uG(n:Int):∀(l:Q0 Int) (a:Int),a<=n->∃m,m<=n/\a<=m/\(m=a∨m∈l)/\∀p∈l,p<=n->p<=m
 | [],a,h=>⟨a,h,Of _,.inl rfl,by simp⟩
 | p::l,a,h=>by
  by_cases i:p<=n/\a<=p
  ·obtain⟨m,e,f,b,g⟩:=uG n l p i.1;refine⟨m,e,by omega,?_,?_⟩
   ·rcases b with b | b
    ·exact .inr<|by simp[b]
    ·exact .inr<|by simp[b]
   ·intro q c d;rcases TO.1 c with rfl | c
    ·exact f
    ·exact g q c d
  ·obtain⟨m,e,f,b,g⟩:=uG n l a h;refine⟨m,e,f,?_,?_⟩
   ·rcases b with b | b
    ·exact .inl b
    ·exact .inr<|by simp[b]
   ·intro q c d;rcases TO.1 c with rfl | c
    ·omega
    ·exact g q c d
open Bo in
theorem yc{n m:Int}:∀(l:Q0 QH),(∀e∈l,has e n↔has e m)->cur l n=cur l m:=by
 intro l
 induction l using C4 with
 | niX=>intro _;rfl
 | snX l x b=>
  intro h;rw[BX,BX,b λe he=>h e<|by simp[he]];have:=h x eF;by_cases a:has x n
  ·rw[BY a,BY<|this.1 a]
  ·rw[B1 a,B1 λk=>a<|this.2 k]
open Bo in
theorem jW{P:Int->Bool}{pre:Q0 QH}{x:QH}(f:∀n m,cur pre n=cur pre m->P n=P m):UUu P pre x=true↔∀n,has x n->P n=true:=by
 unfold UUu;rw[IN];constructor
 ·intro h n a;obtain⟨m,g,i,b,d⟩:=uG n (w5 pre) x.First a.1;have j:=h m (by rcases b with b | b<;>simp[b]);have c:has x m:=⟨i,iG g a.2⟩
  have e:cur pre n=cur pre m:=yc pre λe he=>by
   have k:e.First<=n->e.First<=m:=d e.First (by unfold w5;simp only[List.mem_flatMap];exact⟨e,he,by simp⟩);have o:e.Last+1<=n->e.Last+1<=m:=d (e.Last+1) (by unfold w5;simp only[List.mem_flatMap];exact⟨e,he,by simp⟩);unfold has;omega
  rw[f n m e];simpa[c] using j
 ·intro h n _;by_cases a:has x n
  ·simp[a,h n a]
  ·simp[a]
open Bo in
def qb(l:Q0 QH)(n:Int):Bool:=match cur l n with | none=>false | some e=>e.Kind==0
open Bo in
theorem yP{n:Int}:qb l n=true↔hand l n:=by
 unfold qb hand;cases cur l n<;>simp
open Bo in
def kJ(pre:Q0 QH)(x:QH):Int:=if !xB x then 1 else if x.Kind==0 then(if UUu (λn=>(cur pre n).isNone) pre x then 0 else 5) else if UUu (qb pre) pre x then 0 else 4
open Bo in
theorem IB(pre:Q0 QH)(x:QH):UG pre x=kJ pre x:=by
 unfold UG kJ;by_cases g:xB x=false
 ·rw[BY g];simp[g]
 rw[B1 g];have i:xB x=true:=by simpa using g
 simp only[i,RK,W2,Bm];by_cases f:x.Kind=0
 ·have b:=jW (P:=λn=>(cur pre n).isNone) (pre:=pre) (x:=x) λn m e=>by rw[e]
  simp only[Option.isNone_iff_eq_none] at b
  have d:(x.Kind==0)=true:=by simpa using f
  rw[d,BY rfl,B1 (c:=x.Kind≠0/\_) λh=>h.1 f];by_cases a:x.Kind=0/\∃n,has x n/\cur pre n≠none
  ·rw[BY a,B1];intro h;obtain⟨_,n,j,k⟩:=a;exact k<|b.1 h n j
  ·rw[B1 a,BY];exact b.2 λn o=>lQ λh=>a ⟨f,n,o,h⟩
 ·have b:=jW (P:=qb pre) (pre:=pre) (x:=x) λn m e=>by unfold qb;rw[e]
  simp only[yP] at b
  have d:(x.Kind==0)=false:=by simpa using f
  rw[d,B1 (c:=x.Kind=0/\_) λh=>f h.1];simp only[W2,Bm];by_cases a:x.Kind≠0/\∃n,has x n/\¬hand pre n
  ·rw[BY a,B1];intro h;obtain⟨_,n,j,k⟩:=a;exact k<|b.1 h n j
  ·rw[B1 a,BY];exact b.2 λn o=>lQ λh=>a ⟨f,n,o,h⟩
def LR:Q0 QH->Q0 QH->Int
 | _,[]=>0
 | pre,x::l=>if kJ pre x==0 then LR (pre++[x]) l else kJ pre x
open Bo in
theorem ue{p:Q0 QH}{x:QH}(h:Sw UG l p x):∀(r q:Q0 QH),p=q++r->Wn UG p->LR q (l.drop q.length)=UG p x:=by
 obtain⟨post,rfl,_,c⟩:=h;intro r
 induction r with
 | nil=>
  intro q e _;rw[r8] at e
  subst e;have a:(p++x::post).drop p.length=x::post:=by simp
  rw[a];unfold LR;rw[<-IB];have:(UG p x==0)=false:=by simpa using c
  rw[this];rfl
 | cons y r d=>
  intro q e b
  have a:(p++x::post).drop q.length=y::(p++x::post).drop (q++[y]).length:=by
   rw[e];simp
  rw[a];unfold LR;rw[<-IB,b q y r e];exact d (q++[y]) (by rw[e];simp) b
open Bo in
theorem jO(h:Wn UG l):∀(r q:Q0 QH),l=q++r->LR q r=0
 | [],q,_=>rfl
 | y::r,q,e=>by
  unfold LR;rw[<-IB,h q y r e];exact jO h r (q++[y]) (by rw[e];simp)
def H4(l:Q0 QH):Int:=LR [] l
open Bo in
theorem Au(l:Q0 QH)(h:l.length<=256):∃b i,YU l=some (b,i,H4 l)/\(H4 l=0->Wn UG l):=by
 rcases RN l h with⟨p,x,c,d⟩ | ⟨a,j,_,_,_,d⟩
 ·have a:Wn UG p:=by obtain⟨post,e,a,_⟩:=c;exact a
  have e:H4 l=UG p x:=ue c p [] rfl a;rw[e];exact⟨_,_,d,λf=>by obtain⟨post,_,_,g⟩:=c;exact absurd f g⟩
 ·have e:H4 l=0:=jO a l [] rfl;rw[e];exact⟨_,_,d,λ_=>a⟩
def PS(L:QA)(x:QH):RO QA:=if L.stamps.length < 256 then Ux (H4 (L.stamps++[x])==0) (H4<|L.stamps++[x]) (some<|.ok {L with stamps:=L.stamps++[x]}) else none
theorem Ng(L:QA)(x:QH):Le (PS L x) (K9 L () x):=by
 refine Le.guard λh=> ?_;unfold K9;refine Le.cL _ (XK eE) ?_;obtain⟨b,i,a,_⟩:=Au (L.stamps++[x]) eE;refine Le.cL _ a<|Le.check Le.rfl
end
section
open Go.Dec
abbrev zJ:Q0 H1:=[111,107]
def zu(L:QA):RL:=some<|.ok (zJ,L)
def fD(L:QA):Q0 Int->RL
 | [d]=>Ux (decide<|d<=65536) 2 (Ux (decide<|d≥L.day) 7<|zu {L with day:=d})
 | _=>none
theorem fC(L:QA)(n:Q0 Int):Le (fD L n) (Kf L () n):=by
 rcases n with _ | ⟨d,_ | ⟨_,_⟩⟩
 ·exact Le.none
 ·unfold Kf;exact Le.cL d rfl<|Le.sS<|Le.cL d rfl<|Le.sS<|Le.cL d rfl Le.rfl
 ·exact Le.none
def WN:Q0 Int->K1 (Q0<|Int×Int)
 | []=>some []
 | [_]=>none
 | a::b::l=>(WN l).map ((a,b):: ·)
def zV:Q0 Int->Q0 (Q0 Int)
 | []=>[]
 | [a]=>[[a]]
 | a::b::l=>[a,b]::zV l
theorem Mh(l:Q0 Int):∀(d a:Nat),l.length<=a+2*d->SS 2 l d a=zV (l.drop a)
 | 0,a,h=>by
  have:l.drop a=[]:=u0 eB;rw[this];rfl
 | d+1,a,h=>by
  unfold SS;have c:=Mh l d (a+2) eB;by_cases b:a < l.length
  ·rw[BY b,c];have e:l.drop (a+2)=(l.drop a).drop 2:=by rw[en]
   rw[e];rcases hd:l.drop a with _ | ⟨x,_ | ⟨y,r⟩⟩
   ·have:(l.drop a).length=l.length - a:=lK;rw[hd] at this
    simp at this
    omega
   ·rfl
   ·rfl
  ·rw[B1 b];have:l.drop a=[]:=u0 eB;rw[this];rfl
theorem Mi(l:Q0 Int)(h:l.length<=1000000):Vj l 2=some (zV l):=by
 unfold Vj WL;simp only[show decide ((2:Int) < 1)=false by decide,W2,Bm,K2];rw[BY eB];have:=Mh l l.length 0 eB;rw[show((2:Int).toNat)=2 from rfl,this];rfl
theorem Fl:∀{l:Q0 Int} {ps:Q0 (Int×Int)},WN l=some ps->zV l=ps.map (λp=>[p.1,p.2])/\2*ps.length=l.length
 | [],ps,h=>by simp only[WN,W1] at h;subst h;exact⟨rfl,rfl⟩
 | [_],ps,h=>by cases h
 | a::b::l,ps,h=>by
  simp only[WN,mY] at h
  obtain⟨e,c,rfl⟩:=h;obtain⟨d,f⟩:=Fl c;exact⟨by simp[zV,d],by simp;omega⟩
theorem Nw(r:Qk):∀(ps:Q0 (Int×Int)) (acc:Q0 Zc),acc.length+ps.length<=1000000->
  VB Ja (ps.map λp=>[p.1,p.2]) {r with Rates:=acc}=some {r with Rates:=acc++ps.map λp=>⟨p.1,p.2⟩}
 | [],acc,_=>by simp[VB]
 | p::ps,acc,h=>by
  simp only[E4,VB]
  have a:Ja [p.1,p.2] {r with Rates:=acc}=some {r with Rates:=acc++[⟨p.1,p.2⟩]}:=by
   unfold Ja;have b:ZX [p.1,p.2] 0=some p.1:=rfl;have c:ZX [p.1,p.2] 1=some p.2:=rfl;simp only[b,c,K2];rw[XK (by simp at h ⊢;omega)];rfl
  rw[a,K2,Nw r ps (acc++[(⟨p.1,p.2⟩:Zc)]) (by simp at h ⊢;omega)];simp
def VW(a b c:Int)(ps:Q0 (Int×Int)):Qk:=⟨ps.map λp=>⟨p.1,p.2⟩,a,b,c⟩
def zd(L:QA):Q0 Int->RL
 | a::b::c::d=>if d.length<=1000000 then(WN d).bind λps=>Ux L.rules.isNone 5 (Ux (Ex.Xv<|VW a b c ps) 1<|zu {L with rules:=some (VW a b c ps)}) else none
 | _=>none
theorem vj(L:QA)(n:Q0 Int):Le (zd L n) (KG L () n):=by
 rcases n with _ | ⟨a,_ | ⟨b,_ | ⟨c,d⟩⟩⟩
 ·exact Le.none
 ·exact Le.none
 ·exact Le.none
 refine Le.guard λh=> ?_;cases e:WN d with
 | none=>exact Le.none
 | some ps=>
  obtain⟨f,i⟩:=Fl e;unfold KG;simp only[K2];refine Le.sS<|Le.cL a rfl<|Le.cL b rfl<|Le.cL c rfl<|Le.cL d ?_<|Le.cL (zV d) (Mi d h) ?_
  ·unfold ZZ;rw[BY eE];simp only[hR,OF,W1];exact IF eF
  rw[f];refine Le.cL (VW a b c ps) ?_ ?_
  ·have:=Nw ⟨[],a,b,c⟩ ps [] eE;simpa[VW] using this
  refine Le.cL _ (Ex.y9 (by simp[VW];omega)) ?_;cases j:Ex.Xv (VW a b c ps) with
  | false=>simp only[k4,B2];rw[T4];exact Le.rfl
  | true=>
   simp only[RK,W2,Bm];have g:(!Ex.W6 0 0 17179869184|| !Ex.W6 0 0 65536)=false:=by decide
   rw[g,T4];exact Le.rfl
def uI(L:QA):Q0 Int->RL
 | [c,w,p,m,o]=>Ux (decide<|m<=1073741824) 2 (HX (Cd L ⟨0,0,c,w,o,0,m,p⟩) zu)
 | _=>none
theorem xD(L:QA)(n:Q0 Int):Le (uI L n) (Kj L () n):=by
 rcases n with _ | ⟨c,_ | ⟨w,_ | ⟨p,_ | ⟨m,_ | ⟨o,_ | ⟨_,_⟩⟩⟩⟩⟩⟩
 iterate 5 exact Le.none
 ·unfold Kj;exact Le.cL m rfl<|Le.sS<|Le.cL c rfl<|Le.cL w rfl<|Le.cL p rfl<|Le.cL m rfl<|Le.cL o rfl<|Le.sY (FI _ _) λ_=>Le.rfl
 ·exact Le.none
def Zb(L:QA)(c:Int):Int:=(Qc L.pure c).getD 0
def Um(n s:Int):Int:=Q8<|Int.tdiv (Q8<|n*s) 10000
def filled(L:QA)(c pure:Int):RO QA:=if pure > 0 then HX (BW L ⟨0,0,(atR L c).1.Place,0,0,pure⟩) λa=>some (.ok {a with pure:=Q5 a.pure c (Q8<|Zb a c+pure)}) else some<|.ok L
def ub(L:QA):Q0 Int->RL
 | [c,n,s]=>Ux (decide (1<=s)&&decide (s<=10000)) 2 (HX (Cd L ⟨1,0,c,0,0,0,n,0⟩) λa=>HX (filled a c<|Um n s) zu)
 | _=>none
theorem xQ(L:QA)(n:Q0 Int):Le (ub L n) (Kw L () n):=by
 rcases n with _ | ⟨c,_ | ⟨n,_ | ⟨s,_ | ⟨_,_⟩⟩⟩⟩
 iterate 3 exact Le.none
 ·unfold Kw;refine Le.cL s rfl<|Le.cL (decide (1<=s)&&decide (s<=10000)) ?_<|Le.sS<|Le.cL c rfl<|Le.cL n rfl<|Le.sY (FI _ _) λb=>Le.cL n rfl<|Le.cL s rfl ?_
  ·cases h:decide (1<=s)<;>rfl
  simp only[QS];unfold filled HX Um Zb;by_cases d:Q8 (Int.tdiv (Q8<|n*s) 10000) > 0
  ·simp only[d,ta,B2];rw[show ZX [c,n,s] 0=some c from rfl,K2,Ew,K2];intro y e;cases a:BW b ⟨0,0,(atR b c).1.Place,0,0,Q8<|Int.tdiv (Q8<|n*s) 10000⟩ with
   | none=>rw[a] at e;cases e
   | some r=>
    rw[a] at e
    rw[Tz _ _ r a];cases r<;>exact e
  ·simp only[d,rW,W2,Bm];exact Le.rfl
 ·exact Le.none
def Ae(L:QA)(c:ZR)(amount:Int):K1 Int:=if amount==c.Amount then some (Zb L c.Number) else DM .i64 (Q8<|Zb L c.Number*amount) c.Amount
theorem kz(L:QA)(c:ZR)(amount:Int):Le (Ae L c amount) (YI L () c amount):=by
 unfold Ae YI;refine Le.ite Le.rfl<|Le.of ?_;unfold Zb;cases DM .i64 (Q8<|(Qc L.pure c.Number).getD 0*amount) c.Amount<;>rfl
def ME(L:QA)(fro to n:Int):RO QA:=if n==0||fro==to then some (.ok L) else HX (BW L ⟨1,0,fro,to,L.ids,n⟩) λa=>HX (BW a ⟨2,0,to,0,a.ids,n⟩) λb=>some<|.ok {b with ids:=Q8 (b.ids+1)}
theorem jD(L:QA)(fro to n:Int):Le (ME L fro to n) (YJ L () fro to n):=by
 unfold YJ;exact Le.ite Le.rfl<|Le.sY (Tz _ _) λ_=>Le.sY (Tz _ _) λ_=>Le.rfl
def Wa(L:QA)(c v:Int):QA:={L with pure:=Q5 L.pure c v}
def vn(L:QA):Q0 Int->RL
 | [a,b,n]=>HX (Cd L ⟨2,0,a,b,0,0,n,0⟩) λd=>(Ae d (atR L a).1 n).bind λp=>HX (ME d (atR L a).1.Place (atR L b).1.Place p) λc=>
  zu (Wa (Wa c a<|Q8<|Zb c a - p) b<|Q8<|Zb (Wa c a<|Q8<|Zb c a - p) b+p)
 | _=>none
theorem wy(L:QA)(n:Q0 Int):Le (vn L n) (Ku L () n):=by
 rcases n with _ | ⟨a,_ | ⟨b,_ | ⟨n,_ | ⟨_,_⟩⟩⟩⟩
 iterate 3 exact Le.none
 ·unfold Ku;refine Le.cL a rfl<|Le.cL _ (Ew _ _)<|Le.cL b rfl<|Le.cL _ (Ew _ _)<|Le.cL a rfl<|Le.cL b rfl<|Le.cL n rfl<|Le.sY (FI _ _) λc=>Le.cL n rfl ?_;refine Le.bind (kz _ _ _) λp=>Le.sY (jD _ _ _ _) λd=>Le.cL a rfl ?_;simp only[QS];refine Le.cL b rfl Le.rfl
 ·exact Le.none
def kT(L:QA):Q0 Int->RL
 | [a,p]=>HX (Cd L ⟨4,0,a,0,0,0,0,p⟩) λb=>HX (ME b (atR L a).1.Place p<|Zb b a) zu
 | _=>none
theorem u3(L:QA)(n:Q0 Int):Le (kT L n) (Ki L () n):=by
 rcases n with _ | ⟨a,_ | ⟨p,_ | ⟨_,_⟩⟩⟩
 iterate 2 exact Le.none
 ·unfold Ki;exact Le.cL a rfl<|Le.cL _ (Ew _ _)<|Le.cL a rfl<|Le.cL p rfl<|Le.sY (FI _ _) λb=>Le.cL p rfl<|Le.cL a rfl<|Le.sY (jD _ _ _ _) λc=>Le.rfl
 ·exact Le.none
def NS(k:Int)(L:QA):Q0 Int->RL
 | [c,p,t]=>HX (Cd L ⟨k,0,c,0,p,t,0,0⟩) zu
 | _=>none
theorem wk(L:QA)(n:Q0 Int):Le (NS 5 L n) (Ks L () n):=by
 rcases n with _ | ⟨a,_ | ⟨b,_ | ⟨n,_ | ⟨_,_⟩⟩⟩⟩
 iterate 3 exact Le.none
 ·unfold Ks;exact Le.cL a rfl<|Le.cL b rfl<|Le.cL n rfl<|Le.sY (FI _ _) λ_=>Le.rfl
 ·exact Le.none
theorem j5(L:QA)(n:Q0 Int):Le (NS 6 L n) (KY L () n):=by
 rcases n with _ | ⟨a,_ | ⟨b,_ | ⟨n,_ | ⟨_,_⟩⟩⟩⟩
 iterate 3 exact Le.none
 ·unfold KY;exact Le.cL a rfl<|Le.cL b rfl<|Le.cL n rfl<|Le.sY (FI _ _) λ_=>Le.rfl
 ·exact Le.none
def uX(L:QA):Q0 Int->RL
 | [c,p]=>HX (Cd L ⟨7,0,c,0,p,0,0,0⟩) zu
 | _=>none
theorem xN(L:QA)(n:Q0 Int):Le (uX L n) (Kv L () n):=by
 rcases n with _ | ⟨a,_ | ⟨p,_ | ⟨_,_⟩⟩⟩
 iterate 2 exact Le.none
 ·unfold Kv;exact Le.cL a rfl<|Le.cL p rfl<|Le.sY (FI _ _) λ_=>Le.rfl
 ·exact Le.none
def uy(L:QA):Q0 Int->RL
 | [c,w]=>HX (Cd L ⟨8,0,c,0,0,0,0,w⟩) zu
 | _=>none
theorem xY(L:QA)(n:Q0 Int):Le (uy L n) (Kx L () n):=by
 rcases n with _ | ⟨a,_ | ⟨p,_ | ⟨_,_⟩⟩⟩
 iterate 2 exact Le.none
 ·unfold Kx;exact Le.cL a rfl<|Le.cL p rfl<|Le.sY (FI _ _) λ_=>Le.rfl
 ·exact Le.none
def Tf(k:Int)(L:QA):Q0 Int->RL
 | [a,b]=>HX (PS L ⟨k,a,b,0⟩) zu
 | _=>none
theorem uT(L:QA)(n:Q0 Int):Le (Tf 0 L n) (Kh L () n):=by
 rcases n with _ | ⟨a,_ | ⟨p,_ | ⟨_,_⟩⟩⟩
 iterate 2 exact Le.none
 ·unfold Kh;exact Le.cL a rfl<|Le.cL p rfl<|Le.sY (Ng _ _) λ_=>Le.rfl
 ·exact Le.none
theorem vc(L:QA)(n:Q0 Int):Le (Tf 2 L n) (Kg L () n):=by
 rcases n with _ | ⟨a,_ | ⟨p,_ | ⟨_,_⟩⟩⟩
 iterate 2 exact Le.none
 ·unfold Kg;exact Le.cL a rfl<|Le.cL p rfl<|Le.sY (Ng _ _) λ_=>Le.rfl
 ·exact Le.none
def C7(L:QA)(place num part:Int):RO QA:=if part > 0 then HX (BW L ⟨3,0,place,0,0,part⟩) λa=>some (.ok<|Wa a num<|Q8<|Zb a num - part) else some<|.ok L
def Fw(L:QA)(num amount:Int):RO (Qr×QA):=
 Ux ((atR L num).2==0) (atR L num).2 (HX (Cd L ⟨3,0,num,0,0,0,amount,0⟩) λa=>(Ae a (atR L num).1 amount).bind λp=>HX (C7 a (atR L num).1.Place num p) λb=>
  (DM .i64 (Q8<|p*10000) amount).bind λlo=>(DM .i64 (Q8<|Q8 (Q8 (p*10000)+amount) - 1) amount).bind λhi=>some<|.ok (⟨(atR L num).1,amount,⟨lo,hi⟩⟩,b))
theorem kM(L:QA)(num amount:Int):Le (Fw L num amount) (JL L () num amount):=by
 unfold JL;refine Le.cL _ (Ew _ _)<|Le.check<|Le.sY (FI _ _) λc=>Le.bind (kz _ _ _) λp=> ?_;unfold C7 HX;by_cases b:p > 0
 ·simp only[b,ta,B2];intro y e;cases a:BW c ⟨3,0,(atR L num).1.Place,0,0,p⟩ with
  | none=>rw[a] at e;cases e
  | some r=>
   rw[a] at e
   rw[Tz _ _ r a];cases r<;>exact e
 ·simp only[b,rW,W2,Bm];exact Le.rfl
def Gt:Q0 (Int×Int)->QU->QA->RO (QU×QA)
 | [],b,L=>some (.ok (b,L))
 | x::xs,b,L=>HX (Fw L x.1 x.2) λr=>if b.Draughts.length<=1000000 then Gt xs {b with Draughts:=b.Draughts++[r.1]} r.2 else none
theorem qo:∀(ps:Q0 (Int×Int)) (b:QU) (L:QA),Le (Gt ps b L) (LQ (VY ()) (ps.map λp=>[p.1,p.2]) (b,L))
 | [],b,L=>Le.rfl
 | p::ps,b,L=>by
  simp only[E4,LQ,Gt];have d:VY () [p.1,p.2] (b,L)=Q4 (JL L () p.1 p.2) (λq=>some<|.pan q) λr=>(VU b.Draughts [r.1]).bind λl=>QS {b with Draughts:=l} λx=>some (.ok (x,r.2)):=rfl;rw[d];intro y a;cases c:Fw L p.1 p.2 with
  | none=>rw[c] at a;cases a
  | some r=>
   rw[c] at a
   rw[kM _ _ _ _ c];cases r with
   | pan q=>exact a
   | ok r=>
    by_cases h:b.Draughts.length<=1000000
    ·simp only[HX,Q4,BY h] at a
     simp only[Q4,QS];rw[XK eE];exact qo ps _ _ y a
    ·simp only[HX,Q4,B1 h] at a;cases a
def vY(b:QU):Int:=Q8<|Int.tdiv (Bo.vU b b.Water).Lo 700
open Bo in
theorem Pr{b:QU}(c:b.Draughts.length<=1000)(a:HH b=true):∃k,X5 b 700=some (vY b,k,0):=by
 obtain⟨x,he,d⟩:=Oj b c;have h:=(FY b).1 a;unfold X5;rw[he,a,d a];have e:QV 700 1 1048576=true:=by decide
 simp only[K2,RK,W2,Bm,e];rw[Lm h h.water.1 h.water.2];exact⟨_,rfl⟩
def IM(L:QA):Q0 Int->RL
 | num::w::a::z::ds=>if ds.length<=1000000 then(WN ds).bind λps=>Ux (Qc L.batches num).isNone 5 (HX (Gt ps ⟨[],w,⟨0,0⟩,false,false⟩ L) λr=>
  if r.1.Draughts.length<=1000 then Ux (Bo.HH r.1) 1 (Ux (decide<|Q8 (Q8 (z - a)+1)<=vY r.1) 12<|HX (PS r.2 ⟨1,a,z,num⟩) λb=>zu {b with batches:=Q5 b.batches num r.1}) else none) else none
 | _=>none
theorem yl(L:QA)(n:Q0 Int):Le (IM L n) (KZ L () n):=by
 rcases n with _ | ⟨num,_ | ⟨w,_ | ⟨a,_ | ⟨z,ds⟩⟩⟩⟩
 iterate 4 exact Le.none
 refine Le.guard λh=> ?_;cases f:WN ds with
 | none=>exact Le.none
 | some ps=>
  obtain⟨g,j⟩:=Fl f;unfold KZ;simp only[K2,QS];refine Le.cL num rfl<|Le.cL a rfl<|Le.cL z rfl ?_;have e:(!(Qc L.batches num).isSome)=(Qc L.batches num).isNone:=by cases Qc L.batches num<;>rfl
  rw[e];refine Le.sS<|Le.cL w rfl<|Le.cL ds ?_<|Le.cL (zV ds) (Mi ds h) ?_
  ·unfold ZZ;rw[BY eE];simp only[hR,OF,W1];exact IF eF
  rw[g];refine Le.sY (qo _ _ _) λr=>Le.guard λd=> ?_;rcases Bo.kY r.1 d with⟨c,he⟩ | ⟨c,x,he,_⟩
  ·refine Le.cL _ he ?_;rw[c,T4];exact Le.rfl
  ·have b:=(Bo.FY r.1).2 c;refine Le.cL _ he ?_;rw[b];obtain⟨k,i⟩:=Pr d b;refine Le.check (e:=0) ?_;refine Le.cL _ i ?_;exact Le.sS<|Le.sY (Ng _ _) λl=>Le.rfl
def gd(L:QA):Q0 Int->RL
 | [a]=>HX (BW L ⟨6,0,0,0,0,a⟩) zu
 | _=>none
theorem ga(L:QA)(n:Q0 Int):Le (gd L n) (K6 L () n):=by
 rcases n with _ | ⟨a,_ | ⟨_,_⟩⟩
 ·exact Le.none
 ·unfold K6;exact Le.cL a rfl<|Le.sY (Tz _ _) λ_=>Le.rfl
 ·exact Le.none
end
section
open Go.Dec
def OS(w:Q0 H1)(l:Q0 Int)(L:QA):RL:=if w.length<=1000/\l.length<=100000/\l.all O1=true then some (.ok (Ha w l,L)) else none
theorem No(w:Q0 H1)(l:Q0 Int)(L:QA):Le (OS w l L) ((Jo w l).bind λr=>some<|.ok (r,L)):=Le.guard λh=>Le.cL _ (Nt h.1 h.2.1 h.2.2) Le.rfl
def PT(L:QA):Q0 Int->RL
 | [c]=>Ux ((atR L c).2==0) (atR L c).2 (OS [99,97,115,107] [(atR L c).1.Amount,(atR L c).1.Age,(atR L c).1.Owner,(atR L c).1.Creditor,Zb L c] L)
 | _=>none
theorem Iv(L:QA)(n:Q0 Int):Le (PT L n) (KE L () n):=by
 rcases n with _ | ⟨c,_ | ⟨_,_⟩⟩
 ·exact Le.none
 ·unfold KE;exact Le.cL c rfl<|Le.cL _ (Ew _ _)<|Le.check<|Le.cL c rfl<|No _ _ _
 ·exact Le.none
def Eu(L:QA):K1 Qz:=match L.rules with
 | none=>none
 | some r=>if r.Rates.length<=1000000 then some (Da r L.duties L.day).1 else none
theorem jV(L:QA):Le (Eu L) (YK L ()):=by
 unfold Eu YK;cases a:L.rules with
 | none=>exact Le.none
 | some r=>
  refine Le.guard λh=> ?_;rw[K2];exact Le.cL _ (Ex.FX h eB) Le.rfl
def PU(L:QA):Q0 Int->RL
 | [c]=>Ux (decide<|c < 16) 2 ((Eu L).bind λb=>(Yu 16 c).bind λj=>OS [98,111,110,100] [b.Bonds j] L)
 | _=>none
theorem Iw(L:QA)(n:Q0 Int):Le (PU L n) (KF L () n):=by
 rcases n with _ | ⟨c,_ | ⟨_,_⟩⟩
 ·exact Le.none
 ·unfold KF;exact Le.cL c rfl<|Le.sS<|Le.bind (jV _) λb=>Le.cL c rfl<|Le.bind Le.rfl λj=>No _ _ _
 ·exact Le.none
def Tg(L:QA)(_:Q0 Int):RL:=(Eu L).bind λb=>OS [100,117,101] [b.Due,b.Paid] L
theorem zZ(L:QA)(n:Q0 Int):Le (Tg L n) (KR L () n):=by
 unfold KR;exact Le.bind (jV _) λb=>No _ _ _
def OD(l:Q0 QH)(n:Int):K1 (Int×Int):=if l.length<=256 then some (if H4 l==0 then Bo.Ll l n else(0,H4 l)) else none
theorem vQ(l:Q0 QH)(n:Int):Le (OD l n) (V0 l n):=by
 refine Le.guard λh=> ?_;obtain⟨b,i,a,c⟩:=Au l h;cases he:H4 l==0 with
 | true=>exact Le.of (Bo.zQ n h<|c<|by simpa using he)
 | false=>exact Le.of<|Bo.jh n a<|by simpa using he
def Aw(L:QA):Q0 Int->RL
 | [c]=>(OD L.stamps c).bind λr=>Ux (r.2==0) r.2 (OS [98,97,116,99,104] [r.1] L)
 | _=>none
theorem OM(L:QA)(n:Q0 Int):Le (Aw L n) (Z5 L () n):=by
 rcases n with _ | ⟨c,_ | ⟨_,_⟩⟩
 ·exact Le.none
 ·unfold Z5;exact Le.cL c rfl<|Le.bind (vQ _ _) λr=>Le.check<|No _ _ _
 ·exact Le.none
def uP(b:QU):Qq:=⟨Bo.vU b b.Water,Bo.we b b.Water,Bo.Dl b.Draughts λd=>d.From.Age,λi=>Bo.Dl b.Draughts λd=>d.From.Woods i,λi=>Bo.Dl b.Draughts λd=>d.From.Places i,(Bo.LM b.Draughts).length⟩
open Bo in
theorem zW{b:QU}{x:Qq}{c:Qx}(h:jZ b b.Water x)(f:gQ c):DV b x c=DV b (uP b) c:=by
 unfold DV;rw[h.age,h.casks,h.str];by_cases e:c.Kind=0
 ·rw[BY e,BY e];rfl
 rw[B1 e,B1 e];by_cases a:c.Kind=1
 ·rw[BY a,BY a,h.woods _ (by have:=f.what<|.inl a;omega)];rfl
 rw[B1 a,B1 a];by_cases d:c.Kind=2
 ·rw[BY d,BY d,h.places _ (by have:=f.what<|.inr d;omega)];rfl
 rw[B1 d,B1 d];rfl
def IH(b:QU)(c:Qx):K1 (Bool×Int):=if b.Draughts.length<=1000 then some (if Bo.HH b&&Bo.Dg c then(Bo.DV b (uP b) c,0) else(true,1)) else none
open Bo in
theorem uw{β:Type}(b:QU)(c:Qx)(k:Bool×Int->K1 β)(g:Q0 Int×Int->K1 β)(h:∀l e,Le (k (decide<|l.length=0,e))<|g (l,e)):Le ((IH b c).bind k) ((Ul b [c]).bind g):=by
 unfold IH;by_cases f:b.Draughts.length<=1000
 ·rw[BY f,K2];have j:GX [c]=Dg c:=by simp[GX]
  rcases kI b [c] f eF with⟨d,i⟩ | ⟨d,m,a,x,o,_,i⟩
  ·rw[j] at d
   rw[i,d];exact h [] 1
  ·rw[j] at m
   rw[i,(FY b).2 d,m];simp only[Bool.and_self,B2,K2];rw[<-zW o (a c eF)];cases n:DV b x c with
   | true=>
    have e:Bo.liesAt (DV b x) 0 [c]=[]:=by simp[Bo.liesAt,n]
    rw[e];exact h [] 0
   | false=>
    have e:Bo.liesAt (DV b x) 0 [c]=[0]:=by simp[Bo.liesAt,n]
    rw[e];exact h [0] 0
 ·rw[B1 f];exact Le.none
abbrev vR:Q0 H1:=[116,114,117,101]
abbrev zS:Q0 H1:=[102,97,108,115,101]
theorem xa(b:Bool):WD b=some (if b then vR else zS):=by cases b<;>rfl
def H5(L:QA):Q0 Int->RL
 | [n,k,w,v]=>match Qc L.batches n with
  | none=>some (.pan ⟨4⟩)
  | some b=>(IH b ⟨k,w,v⟩).bind λr=>Ux (r.2==0) r.2 (some<|.ok (if r.1 then vR else zS,L))
 | _=>none
theorem OP(L:QA)(n:Q0 Int):Le (H5 L n) (Z7 L () n):=by
 rcases n with _ | ⟨n,_ | ⟨k,_ | ⟨w,_ | ⟨v,_ | ⟨_,_⟩⟩⟩⟩⟩
 iterate 4 exact Le.none
 ·unfold Z7 H5;refine Le.cL n rfl ?_;simp only[QS];cases a:Qc L.batches n with
  | none=>
   simp only[lM];rw[S5];exact Le.rfl
  | some b=>
   simp only[ek];rw[S5];simp only[B2,Q4];refine Le.cL k rfl<|Le.cL w rfl<|Le.cL v rfl ?_;rw[lv];refine uw b ⟨k,w,v⟩ _ _ λl e=> ?_;refine Le.check ?_;rw[xa];refine Le.of ?_;have:((l.length:Int)==0)=decide (l.length=0):=by rw[lb];simp
   rw[this];rfl
 ·exact Le.none
def Ax(L:QA):Q0 Int->RL
 | [c]=>Ux ((Ca.Nh L.casks c L.day).2==0) (Ca.Nh L.casks c L.day).2 (OS [102,105,108,108,115] (Ca.Nh L.casks c L.day).1 L)
 | _=>none
theorem OO(L:QA)(n:Q0 Int):Le (Ax L n) (Z6 L () n):=by
 rcases n with _ | ⟨c,_ | ⟨_,_⟩⟩
 ·exact Le.none
 ·unfold Z6;exact Le.cL c rfl<|Le.cL _ (Ca.IY _ _ _)<|Le.check<|No _ _ _
 ·exact Le.none
structure Wd where
 word:List UInt8
 least:Int
 each:Int
 does:QA->List Int->RL
def HZ:Q0 Wd:=[
 ⟨[100,97,121],1,0,fD⟩,⟨[114,117,108,101,115],3,2,zd⟩,⟨[109,97,107,101],5,0,uI⟩,⟨[102,105,108,108],3,0,ub⟩,⟨[114,97,99,107],3,0,vn⟩,
 ⟨[99,97,114,114,121],2,0,kT⟩,⟨[115,101,108,108],3,0,NS 5⟩,⟨[112,108,101,100,103,101],3,0,NS 6⟩,⟨[102,114,101,101],2,0,uX⟩,⟨[99,104,97,114],2,0,uy⟩,
 ⟨[115,116,97,109,112,115],2,0,Tf 0⟩,⟨[115,112,111,105,108],2,0,Tf 2⟩,⟨[98,111,116,116,108,101],4,2,IM⟩,⟨[112,97,121],1,0,gd⟩,⟨[99,97,115,107],1,0,PT⟩,
 ⟨[98,111,110,100],1,0,PU⟩,⟨[100,117,101],0,0,Tg⟩,⟨[119,104,111,115,101],1,0,Aw⟩,⟨[99,108,97,105,109],4,0,H5⟩,⟨[102,105,108,108,115],1,0,Ax⟩]
def PL(w:Q0 H1):K1 Wd:=HZ.find? λd=>d.word==w
inductive E7:List Wd->List (List UInt8×QW)->Prop where
 | nil:E7 [] []
 | cons {w:List UInt8} {a b:Int} {f:QA->List Int->RL} {g:QA×Unit×List Int->RL} {l:List Wd} {k:List (List UInt8×QW)} (h:∀L n,Le (f L n)<|g (L,(),n)) (r:E7 l k):E7 (⟨w,a,b,f⟩::l) ((w,⟨⟨a,b⟩,g⟩)::k)
theorem E7.get{l:Q0 Wd}{k:Q0 (Q0 H1×QW)}(h:E7 l k)(w:Q0 H1):match l.find? (λd=>d.word==w) with
  | none=>Qc k w=none
  | some d=>∃g,Qc k w=some ⟨⟨d.least,d.each⟩,g⟩/\∀L n,Le (d.does L n) (g (L,(),n)):=by
 induction h with
 | nil=>rfl
 | @cons w' a b f g l k h r i=>
  by_cases c:w' =w
  ·subst c;simp only[mx,hF];exact⟨g,by simp[Qc],h⟩
  ·have e:(w' ==w)=false:=by simpa using c
   have j:(w==w')=false:=by simpa using λh=>c h.symm
   simp only[mx,e];have m:Qc ((w',(⟨⟨a,b⟩,g⟩:QW))::k) w=Qc k w:=by simp[Qc,j]
   rw[m];exact i
theorem uq:∃k,XT=some k/\E7 HZ k:=by
 refine⟨_,by unfold XT;simp only[QS];rfl,?_⟩;exact .cons fC<|.cons vj<|.cons xD<|.cons xQ<|.cons wy<|.cons u3<|.cons wk<|.cons j5<|.cons xN<|.cons xY<|.cons uT<|.cons vc<|.cons yl<|.cons ga<|.cons Iv<|.cons Iw<|.cons zZ<|.cons OM<|.cons OP<|.cons OO .nil
end
section
open Go.Dec
def Xt(least each:Int)(n:Int):Bool:=if each==0 then n==least else decide (n > least)&&(n - least)%each==0
theorem xO(a b:Int)(n:Nat)(e:0<=a/\a<=100)(f:n<=1000000):Uf ⟨a,b⟩ (n:Int)=some (Xt a b n):=by
 unfold Uf Xt;simp only;cases h:b==0 with
 | true=>rfl
 | false=>
  have c:b≠0:=by simpa using h
  by_cases d:(n:Int) > a
  ·simp only[d,ta,B2,mb,W2,Bm];unfold j1;rw[B1 c,Qo eB eB,oH eB];rfl
  ·simp only[d,rW,W2,Bm,lu];rfl
def Rc(L:QA)(line:Q0 H1):RL:=
 if line.length > 1000 then some (.pan ⟨3⟩) else match Gw line with
  | .pan q=>some (.pan q)
  | .ok w=>match PL w.1 with
   | none=>some (.pan ⟨8⟩)
   | some d=>Ux (Xt d.least d.each w.2.length) 8 (Ux (!L.rules.isNone||w.1==[100,97,121]||w.1==[114,117,108,101,115]) 6
    (if L.casks.length<=1000000/\L.duties.length<=1000000/\L.stamps.length<=1000000 then d.does L w.2 else none))
def fB(L:QA)(line:Q0 H1):K1 (Q0 H1×Int×QA):=match Rc L line with
 | none=>none
 | some (.pan q)=>some ([],q.e,L)
 | some (.ok r)=>some (r.1,0,r.2)
theorem wW:∀d∈HZ,(0<=d.least/\d.least<=100)/\(0<=d.each/\d.each<=100):=by
 unfold HZ;simp only[TO,ew,o8];rintro d (rfl | rfl | rfl | rfl | rfl | rfl | rfl | rfl | rfl | rfl | rfl | rfl | rfl | rfl | rfl | rfl | rfl | rfl | rfl | rfl)<;>exact⟨⟨by decide,by decide⟩,by decide,by decide⟩
theorem Nv{line:Q0 H1}{w:Q0 H1×Q0 Int}(h:Gw line= .ok w):w.2.length<=line.length:=by
 have b:∀s:Q0 H1,(YX s).length<=s.length+1:=by
  intro s
  induction s with
  | nil=>simp[YX]
  | cons c l a=>
   unfold YX;split
   ·simpa using a
   ·split<;>rename_i he
    ·simp
    ·rw[he] at a;simp at a ⊢;omega
 have:=b line;unfold Gw at h
 split at h
 ·cases h
 ·rename_i p ps he;rw[he] at this
  split at h
  ·simp only[Out.ok.injEq] at h
   subst h;simp at this ⊢
   omega
  ·cases h
theorem yg{L:QA}(h:L.casks.length<=1000000/\L.duties.length<=1000000/\L.stamps.length<=1000000):Yd L=some L:=by
 unfold Yd KQ KP VX;rw[XK eE,XK eE,XK eE];rfl
theorem Th{α:Type}{l:Q0 α}{i:Nat}{x:α}(h:l[i]? =some x):l.set i x=l:=by
 obtain⟨hi,rfl⟩:=DO.1 h;exact ix hi
theorem gG{A:Q0 Qu}{i:Nat}{L:QA}(n:A[i]? =some ⟨L,true⟩)(line:Q0 H1):Le ((fB L line).map λr=>(r.1,r.2.1,A.set i ⟨r.2.2,true⟩)) (XV A (some i) line):=by
 have a:=Th n;unfold fB Rc XV;simp only[lN,W2,Bm,K2,n,RK];by_cases o:line.length > 1000
 ·have e:decide ((line.length:Int) > 1000)=true:=fl eB;rw[BY o,e];simp only[L4,a];exact Le.rfl
 have e:decide ((line.length:Int) > 1000)=false:=aT eB;rw[B1 o,e,j2 line eB];simp only[W2,Bm];cases p:Gw line with
 | pan q=>simp only[L4,a];exact Le.rfl
 | ok w=>
  have s:=Nv p;obtain⟨k,t,c⟩:=uq;have f:=c.get w.1;simp only[Q4,t,K2];cases h:PL w.1 with
  | none=>
   unfold PL at h
   rw[h] at f
   rw[f];simp only[L4,a];exact Le.rfl
  | some d=>
   have u:d∈HZ:=ml h;unfold PL at h
   rw[h] at f
   obtain⟨g,f,j⟩:=f;rw[f];obtain⟨v,_⟩:=wW d u;unfold XU;simp only;rw[xO _ _ _ v eB,K2,S5];unfold Ux;cases B:Xt d.least d.each w.2.length with
   | false=>simp only[W2,Bm,L4,a];exact Le.rfl
   | true=>
    simp only[B2,Q4]
    have x:((if(!L.rules.isNone)=true then some true else some (w.1==([100,97,121]:Q0 H1))).bind λz=>if z=true then some true else some (w.1==([114,117,108,101,115]:Q0 H1)))=some (!L.rules.isNone||w.1==[100,97,121]||w.1==[114,117,108,101,115]):=by
     cases L.rules.isNone<;>cases w.1==([100,97,121]:Q0 H1)<;>rfl
    rw[<-Option.bind_assoc,x,K2,S5];cases hs:(!L.rules.isNone||w.1==[100,97,121]||w.1==[114,117,108,101,115]) with
    | false=>show Le (some ([],(6:Int),A.set i ⟨L,true⟩)) _;rw[a];exact Le.rfl
    | true=>
     simp only[B2];by_cases l:L.casks.length<=1000000/\L.duties.length<=1000000/\L.stamps.length<=1000000
     ·rw[BY l,yg l];intro y b;cases m:d.does L w.2 with
      | none=>rw[m] at b;cases b
      | some r=>
       rw[m] at b
       simp only[K2,j _ _ _ m];cases r with
       | pan q=>have b:some (([]:Q0 H1),q.e,A.set i ⟨L,true⟩)=some y:=b;rw[a] at b;exact b
       | ok r=>exact b
     ·rw[B1 l];exact Le.none
def Gs:QA:=⟨0,none,[],[],[],[],[],0⟩
def Nu(s:Q0 H1)(e:Int):Q0 H1:=if e==0 then s else Ha zT [e]
def qC:Q0 (Q0 H1)->QA->Q0 H1->K1 (QA×Q0 H1)
 | [],L,out=>some (L,out)
 | x::xs,L,out=>match fB L x with
  | none=>none
  | some r=>if O1 r.2.1=true/\out.length+(Nu r.1 r.2.1).length<=1000000000 then qC xs r.2.2 (out++(Nu r.1 r.2.1++[10])) else none
theorem OZ:∀(l:Q0 (Q0 H1)) (L:QA) (out:Q0 H1),Le ((qC l L out).map λr=>([(⟨r.1,true⟩:Qu)],r.2)) (VB (GP<|some 0) l ([⟨L,true⟩],out))
 | [],L,out=>Le.rfl
 | x::xs,L,out=>by
  unfold qC VB;cases c:fB L x with
  | none=>exact Le.none
  | some r=>
   by_cases b:O1 r.2.1=true/\out.length+(Nu r.1 r.2.1).length<=1000000000
   ·simp only;rw[BY b];refine Le.cL ([⟨r.2.2,true⟩],out++(Nu r.1 r.2.1++[10])) ?_<|OZ xs _ _;have d:=gG (A:=[⟨L,true⟩]) (i:=0) rfl x (r.1,r.2.1,[⟨r.2.2,true⟩]) (by rw[c];rfl);unfold GP;rw[d,K2];have a:=b.2;unfold Nu at a ⊢
    cases he:r.2.1==0 with
    | true=>
     have:(r.2.1 != 0)=false:=by simpa using he
     simp only[this,W2,Bm,B2];rw[he] at a
     simp only[B2] at a
     unfold XB;rw[GI eB,K2,GI eE];simp
    | false=>
     have:(r.2.1 != 0)=true:=by simpa using he
     simp only[this,B2,W2,Bm];rw[he] at a
     simp only[W2,Bm] at a
     rw[Nt eT eF (by simpa using b.1),K2];unfold XB;rw[GI eB,K2,GI eE];simp
   ·simp only;rw[B1 b];exact Le.none
def vq(script:Q0 H1):K1 (Q0 H1×Int):=if script.length > 262144 then some ([],3) else if !(script==[])&& !Ri script then some ([],8) else(qC (MM script) Gs []).map λr=>(r.2,0)
theorem xo(script:Q0 H1):Le (vq script) (X3 script):=by
 unfold vq X3;by_cases c:script.length > 262144
 ·have e:decide ((script.length:Int) > 262144)=true:=fl eB;rw[BY c,e];exact Le.rfl
 have e:decide ((script.length:Int) > 262144)=false:=aT eB;rw[B1 c,e];simp only[W2,Bm]
 have d:(if(!(script==([]:Q0 H1)))=true then(YB script [10]).bind λh=>some (!h) else some false)=some (!(script==[])&& !Ri script):=by
  cases script==([]:Q0 H1) with
  | true=>rfl
  | false=>simp only[k4,B2];rw[Tu _ eB];rfl
 rw[d,K2];refine Le.ite Le.rfl ?_;refine Le.cL (some 0,[⟨Gs,true⟩]) rfl ?_;intro y a;cases b:qC (MM script) Gs [] with
 | none=>rw[b] at a;cases a
 | some r=>
  have:=OZ (MM script) Gs [] ([⟨r.1,true⟩],r.2) (by rw[b];rfl);rw[this,K2];rw[b] at a
  exact a
end
end Go.Proofs.YtdoocboganbagaaGreatDoor
section
set_option maxRecDepth 100000
namespace Go.Proofs.YtdoocboganbagaaGreatDoor
open Go.Dec
theorem I1:vq JR.1=some (JR.2,0):=by decide+kernel
theorem TS:Ug=some true:=by
 unfold Ug;rw[xo _ _ I1]
 decide+kernel
end Go.Proofs.YtdoocboganbagaaGreatDoor
end
namespace Go.Proofs.YtdoocboganbagaaGreatDoor.Ca
section
open Go.Dec
inductive M5(l:List ZY)(x:Ev)(num:Int):List ZY->Prop
 | make (k:x.Kind=0) (f:Jx l x.Cask=none) (n:l.length < 256):M5 l x num (l++[Ow x])
 | fill (k:x.Kind=1) (i:Nat) (c:ZY) (f:Jx l x.Cask=some i) (h:l[i]? =some c) (r:c.C.Amount+x.Amount<=c.C.Room):M5 l x num (l.set i<|Uc c (BQ num) x.Amount)
 | rack (k:x.Kind=2) (i:Nat) (c:ZY) (f:Jx l x.Cask=some i) (h:l[i]? =some c) (j:Nat) (o:ZY) (f' :Jx l x.Other=some j) (h' :l[j]? =some o) (ne:i≠j)
  (ow:c.C.Owner=o.C.Owner) (c1:c.C.Creditor < 0) (c2:o.C.Creditor < 0) (a:x.Amount<=c.C.Amount) (r:o.C.Amount+x.Amount<=o.C.Room):M5 l x num ((l.set j<|Uc o c x.Amount).set i<|WE c x.Amount)
 | drain (k:x.Kind=3) (i:Nat) (c:ZY) (f:Jx l x.Cask=some i) (h:l[i]? =some c) (c1:c.C.Creditor < 0) (a:x.Amount<=c.C.Amount):M5 l x num (l.set i<|WE c x.Amount)
 | carry (k:x.Kind=4) (i:Nat) (c:ZY) (f:Jx l x.Cask=some i) (h:l[i]? =some c):M5 l x num (l.set i {c with C:={c.C with Place:=x.Where}})
 | sell (k:x.Kind=5) (i:Nat) (c:ZY) (f:Jx l x.Cask=some i) (h:l[i]? =some c) (o:c.C.Owner=x.Person) (c1:c.C.Creditor < 0) (t:x.To≠c.C.Owner):M5 l x num (l.set i {c with C:={c.C with Owner:=x.To}})
 | pledge (k:x.Kind=6) (i:Nat) (c:ZY) (f:Jx l x.Cask=some i) (h:l[i]? =some c) (o:c.C.Owner=x.Person) (c1:c.C.Creditor < 0):M5 l x num (l.set i {c with C:={c.C with Creditor:=x.To}})
 | free (k:x.Kind=7) (i:Nat) (c:ZY) (f:Jx l x.Cask=some i) (h:l[i]? =some c) (c1:c.C.Creditor=x.Person):M5 l x num (l.set i {c with C:={c.C with Creditor:= -1}})
 | char (k:x.Kind=8) (i:Nat) (c:ZY) (f:Jx l x.Cask=some i) (h:l[i]? =some c) (a:c.C.Amount<=0):M5 l x num (l.set i {c with C:={c.C with Wood:=x.Where}})
theorem ur{l l' :Q0 ZY}{i:Nat}{c:ZY}{x:Ev}{num:Int}(m:Xa x=true)(n:x.Kind≠0)(f:Jx l x.Cask=some i)(a:l[i]? =some c)(h:XI l i c x num= .inl l'):M5 l x num l' :=by
 rcases kinds m with k | k | k | k | k | k | k | k | k
 ·exact absurd k n
 ·have h:Aj l i c x num= .inl l' :=by rw[<-h];unfold XI;rw[k];rfl
  unfold Aj at h
  split at h
  ·cases h
  ·cases h;exact .fill k i c f a eB
 ·have h:AX l i c x= .inl l' :=by rw[<-h];unfold XI;rw[k];rfl
  unfold AX at h
  split at h
  ·cases h
  ·rename_i j p;split at h
   ·cases h
   ·rename_i o b;unfold PY at h
    split at h
    ·cases h
    ·rename_i g;split at h
     ·cases h
     ·rename_i d;split at h
      ·cases h
      ·split at h
       ·cases h
       ·cases h;simp only[nn,iW,ne_eq,AT,not_or,Decidable.not_not,oE] at d
        exact .rack k i c f a j o p b (λe=>g<|by simp[e]) d.1.1 eB eB eB eB
 ·have h:B9 l i c x= .inl l' :=by rw[<-h];unfold XI;rw[k];rfl
  unfold B9 at h
  split at h
  ·cases h
  ·split at h
   ·cases h
   ·cases h;exact .drain k i c f a eB eB
 ·have h:II l i c x= .inl l' :=by rw[<-h];unfold XI;rw[k];rfl
  cases h;exact .carry k i c f a
 ·have h:RS l i c x= .inl l' :=by rw[<-h];unfold XI;rw[k];rfl
  unfold RS at h
  split at h
  ·cases h
  ·rename_i d;split at h
   ·cases h
   ·rename_i q;cases h;simp only[nn,iW,ne_eq,AT,not_or,Decidable.not_not,oE] at d
    exact .sell k i c f a d.1 eB λe=>q<|by simp[e]
 ·have h:DZ l i c x= .inl l' :=by rw[<-h];unfold XI;rw[k];rfl
  unfold DZ at h
  split at h
  ·cases h
  ·rename_i b;split at h
   ·cases h
   ·cases h;exact .pledge k i c f a (by simpa using b) eB
 ·have h:Re l i c x= .inl l' :=by rw[<-h];unfold XI;rw[k];rfl
  unfold Re at h
  split at h
  ·cases h
  ·rename_i b;cases h;exact .free k i c f a<|by simpa using b
 ·have h:Rk l i c x= .inl l' :=by rw[<-h];unfold XI;rw[k];rfl
  unfold Rk at h
  split at h
  ·cases h
  ·cases h;exact .char k i c f a eB
theorem ID{l l' :Q0 ZY}{x:Ev}{num:Int}(b:Xa x=true)(h:DJ l x num= .inl l'):M5 l x num l' :=by
 unfold DJ at h
 split at h
 ·rename_i a;unfold EU at h
  split at h
  ·cases h
  ·rename_i d;split at h
   ·cases h
   ·cases h;exact .make (mX.1 a) (by simpa using d) eB
 ·rename_i a;split at h
  ·cases h
  ·rename_i i hi;split at h
   ·cases h
   ·rename_i c f;exact ur b (λe=>a<|by simp[e]) hi f h
theorem Lu{n:Nat}{s c:D5}{x:Ev}(h:VQ n s x= .inl c):Xa x=true/\s.last<=x.Day/\∃l',c=⟨l',x.Day⟩/\M5 (R2 x.Day s) x n l' :=by
 unfold VQ at h
 split at h
 ·cases h
 ·rename_i b;have b:Xa x=true:=by simpa using b
  split at h
  ·cases h
  ·rename_i d;split at h
   ·rename_i all a;cases h;exact⟨b,by omega,all,rfl,ID b a⟩
   ·cases h
theorem gC{day:Int}:∀(l:Q0 Ev) (n:Nat) (s:D5) (r:D5 ⊕ Int) (k:Nat),HY day l n s=(r,k)->k<=n+l.length
 | [],n,s,r,k,h=>by
  simp only[HY,L0] at h
  simp[<-h.2]
 | x::l,n,s,r,k,h=>by
  simp only[HY] at h
  split at h
  ·split at h
   ·have:=gC l _ _ _ _ h;simp;omega
   ·simp only[L0] at h
    simp[<-h.2]
  ·simp only[L0] at h
   simp[<-h.2]
theorem OZ{l:Q0 Ev}{day:Int}{r:Q0 ZY ⊕ Int}{k:Nat}(h:JV l day=(r,k)):k<=l.length:=by
 unfold JV at h
 split at h
 ·simp only[L0] at h;omega
 ·split at h
  ·simp only[L0] at h;omega
  ·unfold AK at h
   cases a:HY day l 0 ⟨[],0⟩ with
   | mk b q=>
    have:=gC _ _ _ _ _ a;rw[a] at h
    cases b<;>(simp only[L0] at h;omega)
theorem qK{all:Q0 ZY}{last:Int}{n:Nat}(c:Ar last n all):(N9 all).Perm all:=by
 have d:(N9 all).Perm ((all.map (·.C.Number)).filterMap<|Wk all):=(S4 all).filterMap _
 have e:(all.map (·.C.Number)).filterMap (Wk all)=all:=by
  rw[List.filterMap_map]
  have:∀L:Q0 ZY,(∀h∈L,Wk all h.C.Number=some h)->L.filterMap (Wk all∘λh=>h.C.Number)=L:=λL=>by
   induction L with
   | nil=>intro _;rfl
   | cons h L f=>
    intro a;rw[List.filterMap_cons_some (b:=h) (by simpa using a h eF),f λy g=>a y<|L3 _ g]
  refine this all λh j=> ?_;obtain⟨i,hi⟩:=List.mem_iff_getElem?.1 j;simp[Wk,AF c.nums hi,hi]
 rwa[e] at d
end
section
open Go.Dec
section
variable{V:Type}
theorem A8{k n:Int}{v:V}:∀{l:Q0 (Int×V)},Qc (Q5 l k v) n=if n==k then some v else Qc l n
 | []=>by simp[Q5,Qc]
 | x::l=>by
  simp only[Q5];by_cases h:k=x.1
  ·have:(k==x.1)=true:=by simp[h]
   rw[BY this];simp only[Qc];by_cases a:n=k
   ·subst a;simp
   ·have b:(n==k)=false:=by simpa using a
    have c:(n==x.1)=false:=by simpa using λe=>a<|by rw[e,h]
    simp[b,c]
  ·have:(k==x.1)=false:=by simpa using h
   rw[B1<|by simp[this]];simp only[Qc];rw[A8 (l:=l)];by_cases a:n=x.1
   ·have b:(n==x.1)=true:=by simp[a]
    have c:(n==k)=false:=by simpa using λe=>h<|by rw[<-e,a]
    simp[b,c]
   ·have b:(n==x.1)=false:=by simpa using a
    simp[b]
end
end
end Go.Proofs.YtdoocboganbagaaGreatDoor.Ca
section
namespace Go.Proofs.YtdoocboganbagaaGreatDoor.Ca
open Go.Dec
theorem AA{day:Int}{x:Ev}(c:x.Day<=day):∀(l:Q0 Ev) (n:Nat) (s a:D5) (k:Nat),(∀y∈l,y.Day<=day)->HY day (l++[x]) n s=(.inl a,k)->∃b,HY day l n s=(.inl b,n+l.length)/\VQ (n+l.length) b x= .inl a
 | [],n,s,a,k,_,h=>by
  simp only[r7,HY,BY c] at h
  refine⟨s,rfl,?_⟩;show VQ n s x=_;cases hs:VQ n s x with
  | inl b=>rw[hs] at h;simp only[L0,x2] at h;rw[h.1]
  | inr e=>rw[hs] at h;simp at h
 | y::l,n,s,a,k,d,h=>by
  simp only[tO,HY,BY<|d y eF] at h ⊢
  cases hs:VQ n s y with
  | inl b=>
   rw[hs] at h
   obtain⟨f,g,i⟩:=AA c l (n+1) b a k (λz j=>d z<|by simp[j]) h;have e:n+(y::l).length=n+1+l.length:=by simp;omega
   rw[e];exact⟨f,g,i⟩
  | inr e=>rw[hs] at h;simp at h
theorem EF{l:Q0 Ev}{x:Ev}{day:Int}{a:Q0 ZY}{k:Nat}(b:x.Day=day)(g:∀y∈l,y.Day<=day)(h:JV (l++[x]) day=(.inl a,k)):∃all,JV l day=(.inl all,l.length)/\Xa x=true/\M5 all x l.length a:=by
 unfold JV at h ⊢
 split at h
 ·cases h
 ·rename_i i;rw[B1 (by simp at i;omega)];split at h
  ·cases h
  ·rename_i j;rw[B1 j];unfold AK at h ⊢
   cases c:HY day (l++[x]) 0 ⟨[],0⟩ with
   | mk r k=>
    rw[c] at h
    cases r with
    | inr e=>cases h
    | inl m=>
     obtain⟨q,d,f⟩:=AA eB l 0 _ m k g c;rw[dO] at d f
     obtain⟨n,_,l',e,o⟩:=Lu f;rw[d];refine⟨_,rfl,n,?_⟩;simp only[L0,x2] at h
     rw[<-h.1,e]
     have p:R2 day ⟨l',x.Day⟩=l' :=by
      unfold R2;show l'.map (Jd<|day - x.Day)=l';rw[b,eo,show Jd 0=id from funext λh=>S3,qAC]
     rw[p,<-b];exact o
theorem R8{l:Q0 Ev}{day num:Int}{all:Q0 ZY}{k i:Nat}{c:ZY}(h:JV l day=(.inl all,k))(a:Jx all num=some i)(b:all[i]? =some c):Cy l num day=(c.C,0):=by
 unfold Cy Wk;rw[h];simp only[a,K2,b]
theorem jX{l:Q0 Ev}{day:Int}(h:(Sm l day).2.2=0):∃all k,JV l day=(.inl all,k):=by
 unfold Sm at h
 split at h
 ·rename_i e k a;exact absurd h<|BI a
 ·rename_i all k a;exact⟨all,k,a⟩
theorem wb{l:Q0 Ev}{num day:Int}(h:(Cy l num day).2=0):∃last n b,(Cy l num day).1=ZY.C b/\E8 last n b/\last<=65536:=by
 unfold Cy at h ⊢
 cases c:JV l day with
 | mk r k=>
  rw[c] at h
  cases r with
  | inr e=>exact absurd h (BI c)
  | inl all=>
   obtain⟨d,_,g,f⟩:=GR c;simp only at h ⊢
   cases a:Wk all num with
   | none=>rw[a] at h;cases h
   | some b=>
    unfold Wk at a
    cases hi:Jx all num with
    | none=>rw[hi] at a;cases a
    | some i=>
     rw[hi] at a
     exact⟨day,k,b,rfl,d.each b<|T2 a,f⟩
theorem gS(l:Q0 Ev)(num day:Int):(Nh l num day).1.length<=4096/\∀f∈(Nh l num day).1,0<=f/\f < 4096:=by
 unfold Nh;cases c:JV l day with
 | mk r k=>
  cases r with
  | inr e=>simp
  | inl all=>
   obtain⟨d,h,j,m⟩:=GR c;simp only;cases a:Wk all num with
   | none=>simp
   | some g=>
    unfold Wk at a
    cases hi:Jx all num with
    | none=>rw[hi] at a;cases a
    | some i=>
     rw[hi] at a
     have b:=d.each g<|T2 a;have:=Av 0 b.fills.1 (n:=k) b.fills.2 eB;exact⟨by simp only;omega,λf a=>by have:=b.fills.2 f a;omega⟩
abbrev Er(e:Int):Prop:=1<=e/\e<=20
theorem wP{e k:Int}(h:(.inr k:Q0 ZY ⊕ Int)= .inr e)(a:decide (1<=k/\k<=20)=true:=by decide):Er e:=by
 simp only[mW] at h
 rw[<-h];exact ll a
theorem fL{l:Q0 ZY}{i:Nat}{c:ZY}{x:Ev}{n e:Int}(h:XI l i c x n= .inr e):Er e:=by
 unfold XI at h
 by_cases a:(x.Kind==1)=true
 ·rw[BY a] at h
  unfold Aj at h
  split at h
  ·exact wP h
  ·cases h
 rw[B1 a] at h
 by_cases b:(x.Kind==2)=true
 ·rw[BY b] at h
  unfold AX PY at h
  repeat' split at h
  all_goals first | (cases h;done) | exact wP h
 rw[B1 b] at h
 by_cases d:(x.Kind==3)=true
 ·rw[BY d] at h
  unfold B9 at h
  repeat' split at h
  all_goals first | (cases h;done) | exact wP h
 rw[B1 d] at h
 by_cases f:(x.Kind==4)=true
 ·rw[BY f] at h
  cases h
 rw[B1 f] at h
 by_cases g:(x.Kind==5)=true
 ·rw[BY g] at h
  unfold RS at h
  repeat' split at h
  all_goals first | (cases h;done) | exact wP h
 rw[B1 g] at h
 by_cases j:(x.Kind==6)=true
 ·rw[BY j] at h
  unfold DZ at h
  repeat' split at h
  all_goals first | (cases h;done) | exact wP h
 rw[B1 j] at h
 by_cases k:(x.Kind==7)=true
 ·rw[BY k] at h
  unfold Re at h
  repeat' split at h
  all_goals first | (cases h;done) | exact wP h
 rw[B1 k] at h
 by_cases m:(x.Kind==8)=true
 ·rw[BY m] at h
  unfold Rk at h
  repeat' split at h
  all_goals first | (cases h;done) | exact wP h
 rw[B1 m] at h
 cases h
theorem fx{l:Q0 ZY}{x:Ev}{n e:Int}(h:DJ l x n= .inr e):Er e:=by
 unfold DJ at h
 split at h
 ·unfold EU at h
  repeat' split at h
  all_goals first | (cases h;done) | exact wP h
 ·split at h
  ·exact wP h
  ·split at h
   ·exact wP h
   ·exact fL h
theorem wg{n:Nat}{s:D5}{x:Ev}{e:Int}(h:VQ n s x= .inr e):Er e:=by
 unfold VQ at h
 split at h
 ·simp only[mW] at h;subst h;exact⟨by decide,by decide⟩
 ·split at h
  ·simp only[mW] at h;subst h;exact⟨by decide,by decide⟩
  ·split at h
   ·cases h
   ·rename_i a he;simp only[mW] at h
    subst h;exact fx he
theorem gD{day:Int}:∀{l:Q0 Ev} {n:Nat} {s:D5} {e:Int} {k:Nat},HY day l n s=(.inr e,k)->Er e
 | [],n,s,e,k,h=>by simp[HY] at h
 | x::l,n,s,e,k,h=>by
  simp only[HY] at h
  split at h
  ·split at h
   ·exact gD h
   ·rename_i a he;simp only[L0,mW] at h
    rw[<-h.1];exact wg he
  ·simp at h
theorem Oa{l:Q0 Ev}{day:Int}{e:Int}{k:Nat}(h:JV l day=(.inr e,k)):Er e:=by
 unfold JV at h
 split at h
 ·simp only[L0,mW] at h;rw[<-h.1];exact⟨by decide,by decide⟩
 ·split at h
  ·simp only[L0,mW] at h;rw[<-h.1];exact⟨by decide,by decide⟩
  ·unfold AK at h
   cases a:HY day l 0 ⟨[],0⟩ with
   | mk r q=>
    rw[a] at h
    cases r with
    | inl s=>simp at h
    | inr b=>
     simp only[L0,mW] at h
     rw[<-h.1];exact gD a
theorem fH{l:Q0 Ev}{day:Int}(h:(Sm l day).2.2≠0):Er (Sm l day).2.2:=by
 unfold Sm at h ⊢
 split
 ·rename_i e k a;exact Oa a
 ·rename_i all k a;rw[a] at h;exact absurd rfl h
theorem ko{l:Q0 Ev}{num day:Int}(h:(Cy l num day).2≠0):Er (Cy l num day).2:=by
 unfold Cy at h ⊢
 cases a:JV l day with
 | mk r k=>
  rw[a] at h
  cases r with
  | inr e=>exact Oa a
  | inl all=>
   simp only at h ⊢
   cases b:Wk all num with
   | none=>exact⟨by decide,by decide⟩
   | some c=>rw[b] at h;exact absurd rfl h
theorem gT{l:Q0 Ev}{num day:Int}(h:(Nh l num day).2≠0):Er (Nh l num day).2:=by
 unfold Nh at h ⊢
 cases a:JV l day with
 | mk r k=>
  rw[a] at h
  cases r with
  | inr e=>exact Oa a
  | inl all=>
   simp only at h ⊢
   cases b:Wk all num with
   | none=>exact⟨by decide,by decide⟩
   | some c=>rw[b] at h;exact absurd rfl h
end Go.Proofs.YtdoocboganbagaaGreatDoor.Ca
namespace Go.Proofs.YtdoocboganbagaaGreatDoor
open Go.Dec
open Ca (Er)
theorem gV{r:Qk}{day:Int}{l:Q0 QN}{e:Int}{k:Nat}(h:Ex.AK r day l 0 Ex.TH=(.inr e,k)):Er e:=by
 unfold Ex.AK at h
 cases b:Ex.HY r day l 0 Ex.TH with
 | mk q j=>
  rw[b] at h
  cases q with
  | inl a=>simp at h
  | inr c=>
   simp only[L0,mW] at h
   have:=Ex.uV b;rw[<-h.1];unfold Er;omega
theorem xV{r:Qk}{l:Q0 QN}{day:Int}(h:(Da r l day).2.2≠0):Er (Da r l day).2.2:=by
 unfold Da at h ⊢
 cases b:Ex.JV r l day with
 | mk q k=>
  rw[b] at h
  cases q with
  | inl a=>exact absurd rfl h
  | inr e=>
   show Er e
   clear h
   unfold Ex.JV at b
   repeat' split at b
   all_goals first
    | (simp only[L0,mW] at b;rw[<-b.1];exact⟨by decide,by decide⟩)
    | exact gV b
open Bo in
theorem xS(pre:Q0 QH)(x:QH):kJ pre x=0∨Er (kJ pre x):=by
 unfold kJ Er
 repeat' split
 all_goals decide
theorem jP:∀(l pre:Q0 QH),LR pre l=0∨Er (LR pre l)
 | [],_=>.inl rfl
 | x::l,pre=>by
  unfold LR;split
  ·exact jP l _
  ·exact xS pre x
theorem It{l:Q0 QH}(h:H4 l≠0):Er (H4 l):=(jP l []).resolve_left h
def Yv{α:Type}(P:α->Prop)(x:RO α):Prop:=∃r,x=some r/\(∀a,r= .ok a->P a)/\∀q,r= .pan q->Er q.e
section
variable{α β:Type}{P:β->Prop}{Q:α->Prop}
theorem Yv.pan{q:Qp}(h:Er q.e):Yv P (some<|.pan q):=⟨_,rfl,λ_ h=>(by cases h),λ_ e=>by cases e;exact h⟩
theorem Yv.ok{a:β}(h:P a):Yv P (some<|.ok a):=⟨_,rfl,λ_ e=>by cases e;exact h,λ_ e=>by cases e⟩
theorem Yv.sS{b:Bool}{e:Int}{k:RO β}(he:Er e)(h:b=true->Yv P k):Yv P (Ux b e k):=by
 unfold Ux;cases b with
 | true=>exact h rfl
 | false=>exact Yv.pan he
theorem Yv.rG{e:Int}{k:RO β}(he:e≠0->Er e)(h:e=0->Yv P k):Yv P (Ux (e==0) e k):=by
 unfold Ux;by_cases a:e=0
 ·rw[BY<|by simpa using a];exact h a
 ·rw[B1<|by simpa using a];exact Yv.pan<|he a
theorem Yv.sY{x:RO α}{k:α->RO β}(h:Yv Q x)(h' :∀a,Q a->Yv P (k a)):Yv P (HX x k):=by
 obtain⟨r,rfl,b,c⟩:=h;cases r with
 | ok a=>exact h' a (b a rfl)
 | pan q=>exact Yv.pan<|c q rfl
theorem Yv.bind{x:K1 α}{k:α->RO β}(h:∃a,x=some a/\Q a)(h' :∀a,Q a->Yv P (k a)):Yv P (x.bind k):=by
 obtain⟨a,rfl,b⟩:=h;exact h' a b
theorem Yv.imp{c:β->Prop}{x:RO β}(h:Yv P x)(h' :∀b,P b->c b):Yv c x:=by
 obtain⟨r,e,d,f⟩:=h;exact⟨r,e,λa g=>h' a<|d a g,f⟩
end
theorem er{n:Int}(h:decide (1<=n/\n<=20)=true:=by decide):Er n:=ll h
theorem OH(x:Int):O1 (Q8 x)=true:=by
 have e:IntKind.i64.bits=64:=rfl;simp only[O1,Q8,IntKind.wrap,e,Do,AT];simp only[IntKind.signed,true_and];split<;>omega
theorem B5{x:Int}(h: -9223372036854775808<=x/\x<=9223372036854775807):O1 x=true:=by simp[O1,h]
structure Inv(n s:Nat)(L:QA):Prop where
 casks:L.casks.length<=n
 duties:L.duties.length<=n
 stamps:L.stamps.length<=s
 days:∀x∈L.casks,x.Day<=L.day
 rules:∀r,L.rules=some r->r.Rates.length<=1000000
 batches:∀c b,Qc L.batches c=some b->b.Draughts.length<=1000
 pure:∀c,O1 (Zb L c)=true
theorem Inv.up{n s n' a:Nat}{L:QA}(h:Inv n s L)(b:n<=n')(hs:s<=a):Inv n' a L:=⟨mz h.casks b,mz h.duties b,mz h.stamps hs,h.days,h.rules,h.batches,h.pure⟩
theorem Inv.start:Inv 0 0 Gs:=⟨S2 _,S2 _,S2 _,λ_ h=>(by cases h),λ_ h=>(by cases h),λ_ _ h=>(by cases h),λ_=>rfl⟩
theorem BH(L:QA)(c v k:Int):Zb (Wa L c v) k=if k==c then v else Zb L k:=by
 unfold Zb Wa;simp only;rw[Ca.A8];split<;>rfl
theorem Inv.set{n s:Nat}{L:QA}(h:Inv n s L){c v:Int}(a:O1 v=true):Inv n s (Wa L c v):=⟨h.casks,h.duties,h.stamps,h.days,h.rules,h.batches,λk=>by rw[BH];split;exact a;exact h.pure k⟩
def HD(L:QA)(x:QE)(b:QA):Prop:=b={L with casks:=L.casks++[{x with Day:=L.day}]}/\∃all a:Q0 Ca.ZY,∃k,Ca.JV L.casks L.day=(.inl all,L.casks.length)/\Ca.JV b.casks L.day=(.inl a,k)/\Ca.Xa {x with Day:=L.day}=true/\Ca.M5 all {x with Day:=L.day} L.casks.length a
theorem Inv.sV{n s:Nat}{L b:QA}{x:QE}(h:Inv n s L)(c:HD L x b):Inv (n+1) s b:=by
 obtain⟨rfl,_⟩:=c;refine⟨by have:=h.casks;simp;omega,by have:=h.duties;simp only;omega,h.stamps,λy a=> ?_,h.rules,h.batches,h.pure⟩;rcases mg.1 a with a | a
 ·exact h.days y a
 ·simp only[ts] at a;subst a;exact Of _
theorem GY{n s:Nat}{L:QA}(h:Inv n s L)(f:n<=1000000)(x:QE):Yv (HD L x) (Cd L x):=by
 unfold Cd;rw[BY (by have:=h.casks;omega)];refine Yv.rG Ca.fH λhe=>Yv.ok ⟨rfl,?_⟩;obtain⟨a,k,b⟩:=Ca.jX he;obtain⟨all,c,d,e⟩:=Ca.EF (x:={x with Day:=L.day}) rfl h.days b;exact⟨all,a,k,c,b,d,e⟩
def Xk(L:QA)(x:QN)(a:QA):Prop:=a={L with duties:=L.duties++[{x with Day:=L.day}]}/\∃r,L.rules=some r/\(Da r a.duties L.day).2.2=0
theorem Inv.sl{n s:Nat}{L a:QA}{x:QN}(h:Inv n s L)(b:Xk L x a):Inv (n+1) s a:=by
 obtain⟨rfl,_⟩:=b;exact⟨by have:=h.casks;simp only;omega,by have:=h.duties;simp;omega,h.stamps,h.days,h.rules,h.batches,h.pure⟩
theorem SP{n s:Nat}{L:QA}(h:Inv n s L)(c:n<=1000000)(b:L.rules.isNone=false)(x:QN):Yv (Xk L x) (BW L x):=by
 unfold BW
 obtain⟨r,a⟩:∃r,L.rules=some r:=by cases a:L.rules with
  | none=>rw[a] at b;cases b
  | some r=>exact⟨r,rfl⟩
 rw[a];show Yv _ (if _ then _ else _);rw[BY ⟨h.rules r a,by have:=h.duties;omega⟩,<-a];exact Yv.rG xV λhe=>Yv.ok ⟨rfl,r,a,he⟩
def Mz(L:QA)(x:QH)(a:QA):Prop:=a={L with stamps:=L.stamps++[x]}/\H4 (L.stamps++[x])=0
theorem Inv.rf{n s:Nat}{L a:QA}{x:QH}(h:Inv n s L)(b:Mz L x a):Inv n (s+1) a:=by
 obtain⟨rfl,_⟩:=b;exact⟨h.casks,h.duties,by have:=h.stamps;simp;omega,h.days,h.rules,h.batches,h.pure⟩
theorem Lv{n s:Nat}{L:QA}(h:Inv n s L)(hs:s < 256)(x:QH):Yv (Mz L x) (PS L x):=by
 unfold PS;rw[BY (by have:=h.stamps;omega)];exact Yv.rG It λhe=>Yv.ok ⟨rfl,he⟩
theorem HD.rules{L a:QA}{x:QE}(h:HD L x a):a.rules=L.rules:=by obtain⟨rfl,_⟩:=h;rfl
theorem Xk.rules{L a:QA}{x:QN}(h:Xk L x a):a.rules=L.rules:=by obtain⟨rfl,_⟩:=h;rfl
def dU(n s:Nat)(L a:QA):Prop:=Inv n s a/\a.rules=L.rules
theorem qP{n s:Nat}{L:QA}(h:Inv n s L)(g:n<=999000)(d:L.rules.isNone=false)(fro to a:Int):Yv (dU (n+2) s L) (ME L fro to a):=by
 unfold ME;split
 ·exact Yv.ok ⟨h.up eB<|S2 _,rfl⟩
 ·refine Yv.sY (SP h eB d _) λi c=>Yv.sY (SP (h.sl c) eB (by rw[c.rules];exact d) _) λf e=>Yv.ok ?_;have b:=(h.sl c).sl e;exact⟨⟨b.casks,b.duties,b.stamps,b.days,b.rules,b.batches,b.pure⟩,by show f.rules=_;rw[e.rules,c.rules]⟩
theorem EI{L s:QA}{x:QE}(h:HD L x s)(b:x.Kind=2∨x.Kind=3):(atR L x.Cask).2=0/\1<=x.Amount/\x.Amount<=(atR L x.Cask).1.Amount:=by
 obtain⟨_,all,m,k,n,_,p,q⟩:=h;have d:=Ca.De p (by rcases b with b | b<;>simp[b]);unfold atR;generalize e:({x with Day:=L.day}:QE)=y at p q d
 have t:y.Kind=x.Kind:=by rw[<-e]
 have g:y.Cask=x.Cask:=by rw[<-e]
 have l:y.Amount=x.Amount:=by rw[<-e]
 rw[l] at d
 rw[<-g];cases q with
 | rack k i c f h j o v h' ne w u z a r=>rw[Ca.R8 n f h];exact⟨rfl,d.1,by show _<=c.C.Amount;omega⟩
 | drain k i c f h u a=>rw[Ca.R8 n f h];exact⟨rfl,d.1,by show _<=c.C.Amount;omega⟩
 | make k=>omega
 | fill k=>omega
 | carry k=>omega
 | sell k=>omega
 | pledge k=>omega
 | free k=>omega
 | char k=>omega
theorem Nx{a b:Int}(c:b≠0):∃q,DM .i64 a b=some q:=by unfold DM;rw[B1 c];exact⟨_,rfl⟩
theorem qH{L d:QA}{x:QE}(h:HD L x d)(e:x.Kind=2∨x.Kind=3)(c:QA):∃p,Ae c (atR L x.Cask).1 x.Amount=some p/\True:=by
 obtain⟨_,g,i⟩:=EI h e;unfold Ae;split
 ·exact⟨_,rfl,trivial⟩
 ·obtain⟨q,f⟩:=Nx (a:=Q8<|Zb c (atR L x.Cask).1.Number*x.Amount) (b:=(atR L x.Cask).1.Amount) eB;exact⟨q,f,trivial⟩
abbrev M0(n s:Nat)(L:QA)(r:Q0 H1×QA):Prop:=Inv n s r.2/\(r.1=zJ∨r.2=L)/\r.1.length<=2300000
theorem Gn{n s:Nat}{a L:QA}(h:Inv n s L):Yv (M0 n s a) (zu L):=Yv.ok ⟨h,.inl rfl,by show(2:Nat)<=_;omega⟩
section
variable{n s:Nat}{L:QA}(h:Inv n s L)(hn:n<=900000)(hs:s < 256)(hr:L.rules.isNone=false)
include h
theorem Ti{w:Q0 H1}{l:Q0 Int}(a:w.length<=1000)(b:l.length<=100000)(hi:l.all O1=true):Yv (M0 n s L) (OS w l L):=by
 unfold OS;rw[BY ⟨a,b,hi⟩];exact Yv.ok ⟨h,.inr rfl,by have:=NO w l;show(Ha w l).length<=_;omega⟩
theorem xX(d:Int):Yv (M0 n s L) (fD L [d]):=Yv.sS er λ_=>Yv.sS er λa=>Gn ⟨h.casks,h.duties,h.stamps,λx b=>iG (h.days x b) (by simpa using a),h.rules,h.batches,h.pure⟩
theorem jy(a b c:Int){d:Q0 Int}{ps:Q0 (Int×Int)}(e:WN d=some ps)(f:d.length<=1000000):Yv (M0 n s L) (zd L<|a::b::c::d):=by
 show Yv _ (if _ then _ else _);rw[BY f,e];refine Yv.sS er λ_=>Yv.sS er λ_=>Gn ⟨h.casks,h.duties,h.stamps,h.days,λr hr=> ?_,h.batches,h.pure⟩;simp only[W1] at hr
 subst hr;have:=(Fl e).2;simp[VW];omega
include hn
theorem uH(c w p m o:Int):Yv (M0 (n+1) s L) (uI L [c,w,p,m,o]):=Yv.sS er λ_=>Yv.sY (GY h eB _) λ_ a=>Gn<|h.sV a
theorem Lq(k c p t:Int):Yv (M0 (n+1) s L) (NS k L [c,p,t]):=Yv.sY (GY h eB _) λ_ a=>Gn<|h.sV a
theorem uW(c p:Int):Yv (M0 (n+1) s L) (uX L [c,p]):=Yv.sY (GY h eB _) λ_ a=>Gn<|h.sV a
theorem ux(c p:Int):Yv (M0 (n+1) s L) (uy L [c,p]):=Yv.sY (GY h eB _) λ_ a=>Gn<|h.sV a
include hr
theorem ua(c a b:Int):Yv (M0 (n+2) s L) (ub L [c,a,b]):=by
 refine Yv.sS er λ_=>Yv.sY (GY h eB _) λg d=>Yv.sY (Q:=Inv (n+2) s) ?_ λf e=>Gn e;unfold filled;split
 ·refine Yv.sY (SP (h.sV d) eB (by rw[d.rules];exact hr) _) λf e=>Yv.ok ?_;exact((h.sV d).sl e).set<|OH _
 ·exact Yv.ok<|(h.sV d).up eB<|S2 _
theorem vm(a b m:Int):Yv (M0 (n+3) s L) (vn L [a,b,m]):=by
 refine Yv.sY (GY h eB _) λd c=>Yv.bind (qH c (.inl rfl) d) λp _=>Yv.sY (qP (h.sV c) eB (by rw[c.rules];exact hr) _ _ _) λf e=> ?_;exact Gn<|(e.1.set<|OH _).set<|OH _
theorem yj(a p:Int):Yv (M0 (n+3) s L) (kT L [a,p]):=Yv.sY (GY h eB _) λd b=>Yv.sY (qP (h.sV b) eB (by rw[b.rules];exact hr) _ _ _) λe c=>Gn c.1
theorem w6(a:Int):Yv (M0 (n+1) s L) (gd L [a]):=Yv.sY (SP h eB hr _) λ_ b=>Gn<|h.sl b
omit hr hn
include hs
theorem Nf(k a b:Int):Yv (M0 n (s+1) L) (Tf k L [a,b]):=Yv.sY (Lv h hs _) λ_ c=>Gn<|h.rf c
end
theorem qp{n s:Nat}{L:QA}(h:Inv n s L)(m:n<=900000)(k:L.rules.isNone=false)(c a:Int):Yv (λr=>Inv (n+2) s r.2/\r.2.rules=L.rules) (Fw L c a):=by
 refine Yv.rG Ca.ko λ_=>Yv.sY (GY h eB _) λl d=>Yv.bind (qH d (.inr rfl) l) λp _=>Yv.sY (Q:=λe=>Inv (n+2) s e/\e.rules=L.rules) ?_ λe f=> ?_
 ·unfold C7;split
  ·refine Yv.sY (SP (h.sV d) eB (by rw[d.rules];exact k) _) λe f=>Yv.ok ⟨((h.sV d).sl f).set<|OH _,?_⟩;show e.rules=_;rw[f.rules,d.rules]
  ·exact Yv.ok ⟨(h.sV d).up eB<|S2 _,d.rules⟩
 ·have j:=(EI d<|.inr rfl).2.1;obtain⟨lo,g⟩:=Nx (a:=Q8<|p*10000) (b:=a) (by show a≠0;have:1<=a:=j;omega);obtain⟨hi,i⟩:=Nx (a:=Q8<|Q8 (Q8 (p*10000)+a) - 1) (b:=a) (by show a≠0;have:1<=a:=j;omega);rw[g,K2,i,K2];exact Yv.ok f
theorem Ej{s:Nat}{R:K1 Qk}(c:R.isNone=false):∀(ps:Q0 (Int×Int)) (n:Nat) (L:QA) (b:QU),Inv n s L->n+2*ps.length<=900000->b.Draughts.length+ps.length<=1000->L.rules=R->
  Yv (λr=>Inv (n+2*ps.length) s r.2/\r.1.Draughts.length=b.Draughts.length+ps.length) (Gt ps b L)
 | [],n,L,b,h,_,_,_=>Yv.ok ⟨h,rfl⟩
 | p::ps,n,L,b,h,f,g,d=>by
  simp only[OF] at f g
  refine Yv.sY (qp h eB (by rw[d];exact c) p.1 p.2) λr a=> ?_;rw[BY eB];refine(Ej c ps (n+2) r.2 _ a.1 eB eE<|by rw[a.2,d]).imp λq e=>⟨e.1.up eE<|S2 _,?_⟩;rw[e.2];simp;omega
section
variable{n s:Nat}{L:QA}(h:Inv n s L)(hn:n<=800000)(hs:s < 256)(hr:L.rules.isNone=false)
include h hn hs hr
theorem kV(c w a z:Int){ds:Q0 Int}{ps:Q0 (Int×Int)}(i:WN ds=some ps)(m:ds.length<=1000):Yv (M0 (n+1000) (s+1) L) (IM L<|c::w::a::z::ds):=by
 have j:=(Fl i).2;show Yv _ (if _ then _ else _);rw[BY eB,i];refine Yv.sS er λ_=>Yv.sY (Ej hr ps n L _ h eB eE rfl) λr e=> ?_;have d:r.1.Draughts.length<=1000:=by rw[e.2];simp;omega
 rw[BY d];refine Yv.sS er λ_=>Yv.sS er λ_=>Yv.sY (Lv e.1 hs _) λo l=>Gn ?_;have f:=(e.1.rf l).up (show _<=n+1000 by omega)<|S2 _;refine⟨f.casks,f.duties,f.stamps,f.days,f.rules,λk b g=> ?_,f.pure⟩;simp only at g
 rw[Ca.A8] at g
 split at g
 ·simp only[W1] at g;subst g;exact d
 ·exact f.batches k b g
omit hn hs hr
theorem OQ(c:Int):Yv (M0 n s L) (PT L [c]):=by
 refine Yv.rG Ca.ko λhe=>Ti h eT eF ?_;obtain⟨last,m,b,e,a,d⟩:=Ca.wb (l:=L.casks) (num:=c) (day:=L.day) he;have f:=a.amt;have g:=a.room;have i:=a.age;have j:=a.owner;have k:=a.cred;simp only[atR,e,mj,oY,h.pure,ld,Do];exact⟨B5 eB,B5 eB,B5 eB,B5 eB⟩
theorem LD(c:Int):Yv (M0 n s L) (Ax L [c]):=by
 refine Yv.rG Ca.gT λ_=> ?_;obtain⟨d,a⟩:=Ca.gS L.casks c L.day;exact Ti h eT eB<|IN.2 λx b=>B5 (by have:=a x b;omega)
theorem LF(a k w v:Int):Yv (M0 n s L) (H5 L [a,k,w,v]):=by
 unfold H5;simp only;split
 ·exact Yv.pan er
 ·rename_i b d;unfold IH;rw[BY<|h.batches a b d,K2];have c:∀b:Bool,(if b then vR else zS).length<=2300000:=λb=>by cases b<;>decide
  split
  ·exact Yv.rG (e:=0) (λh=>absurd rfl h) λ_=>Yv.ok ⟨h,.inr rfl,c _⟩
  ·exact Yv.rG (e:=1) (λ_=>er) λ_=>Yv.ok ⟨h,.inr rfl,c true⟩
include hr
theorem Et:∃r,L.rules=some r/\Eu L=some (Da r L.duties L.day).1:=by
 unfold Eu;cases a:L.rules with
 | none=>rw[a] at hr;cases hr
 | some r=>
  simp only;rw[BY<|h.rules r a];exact⟨r,rfl,rfl⟩
end
theorem IP(r:Qk)(l:Q0 QN)(day:Int):(∀j,j < 16->O1 ((Da r l day).1.Bonds j)=true)/\O1 (Da r l day).1.Due=true/\O1 (Da r l day).1.Paid=true:=by
 unfold Da;cases c:Ex.JV r l day with
 | mk q k=>
  cases q with
  | inr e=>exact⟨λ_ _=>rfl,rfl,rfl⟩
  | inl a=>
   obtain⟨_,b,f,g⟩:=Ex.GR c;have h:=Ex.PZ c;have i:=Ex.xW b eB;exact⟨λj d=>B5 (by have:=b.bonds j d;show _<=a.B.Bonds j/\a.B.Bonds j<=_;omega),B5 (by show _<=a.B.Due/\a.B.Due<=_;omega),B5 (by show _<=a.B.Paid/\a.B.Paid<=_;omega)⟩
open Bo in
theorem gR{l:Q0 QH}(n:Int)(a:Wn UG l):O1 (Ll l n).1=true:=by
 unfold Ll;cases h:(cur l n).filter (λe=>decide<|e.Kind=1) with
 | none=>rfl
 | some e=>
  rw[<-Ig n l a] at h
  have b:=List.find?_some h;simp only[AT] at b
  obtain⟨pre,post,rfl⟩:=lP<|ml h;have:=((jC e).1 (qj<|a pre e post rfl).1).2.1 b.1;exact B5 (by show _<=e.Batch/\e.Batch<=_;omega)
section
variable{n s:Nat}{L:QA}(h:Inv n s L)
include h
theorem OR(b:L.rules.isNone=false){c:Int}(d:0<=c):Yv (M0 n s L) (PU L [c]):=by
 refine Yv.sS er λa=> ?_;obtain⟨r,_,e⟩:=Et h b;have a:c < 16:=by simpa using a
 rw[e,K2,Bo.S8 d eB,K2];exact Ti h eT eF (by simp only[mj,oY,ld];exact(IP r L.duties L.day).1 _ eB)
theorem Iu(a:L.rules.isNone=false)(l:Q0 Int):Yv (M0 n s L) (Tg L l):=by
 unfold Tg;obtain⟨r,_,b⟩:=Et h a;rw[b,K2];obtain⟨_,c,d⟩:=IP r L.duties L.day;exact Ti h eT eF<|by simp only[mj,oY,ld,c,d]
theorem LC(hs:s < 256)(c:Int):Yv (M0 n s L) (Aw L [c]):=by
 have b:L.stamps.length<=256:=by have:=h.stamps;omega
 show Yv _ ((OD _ _).bind _);unfold OD;rw[BY b,K2];obtain⟨_,_,_,d⟩:=Au L.stamps b;by_cases he:H4 L.stamps=0
 ·rw[BY<|by simpa using he];refine Yv.rG (λa=> ?_) λ_=>Ti h eT eF (by simp only[mj,oY,ld];exact gR c<|d he);unfold Bo.Ll at a ⊢
  split
  ·rename_i e;rw[e] at a;exact absurd rfl a
  ·exact er
 ·rw[B1<|by simpa using he];exact Yv.rG It λf=>absurd f he
end
theorem vl{line:Q0 H1}{w:Q0 H1×Q0 Int}(h:Gw line= .ok w):∀x∈w.2,0<=x:=by
 unfold Gw at h
 split at h
 ·cases h
 ·split at h
  ·simp only[Out.ok.injEq] at h
   subst h;intro x a;obtain⟨p,_,rfl⟩:=rm.1 a;exact Int.natCast_nonneg _
  ·cases h
theorem A6:∀(l:Q0 Int),l.length%2=0->∃ps,WN l=some ps
 | [],_=>⟨[],rfl⟩
 | [_],h=>by simp at h
 | a::b::l,h=>by
  obtain⟨ps,c⟩:=A6 l (by simp at h;omega);exact⟨(a,b)::ps,by simp[WN,c]⟩
theorem qe{a:Int}{l:Q0 Int}(h:Xt a 0 l.length=true):(l.length:Int)=a:=by simpa[Xt] using h
theorem gE{a:Int}{l:Q0 Int}(h:Xt a 2 l.length=true):(l.length:Int) > a/\((l.length:Int) - a)%2=0:=by simpa[Xt] using h
theorem Pj{l:Q0 Int}(h:Xt 1 0 l.length=true):∃a,l=[a]:=by
 have:=qe h;rcases l with _ | ⟨a,_ | ⟨b,l⟩⟩<;>simp at this
 ·exact⟨a,rfl⟩
 ·omega
theorem Ru{l:Q0 Int}(h:Xt 2 0 l.length=true):∃a b,l=[a,b]:=by
 have:=qe h;rcases l with _ | ⟨a,_ | ⟨b,_ | ⟨c,l⟩⟩⟩<;>simp at this
 ·exact⟨a,b,rfl⟩
 ·omega
theorem qV{l:Q0 Int}(h:Xt 3 0 l.length=true):∃a b c,l=[a,b,c]:=by
 have:=qe h;rcases l with _ | ⟨a,_ | ⟨b,_ | ⟨c,_ | ⟨d,l⟩⟩⟩⟩<;>simp at this
 ·exact⟨a,b,c,rfl⟩
 ·omega
theorem ft{l:Q0 Int}(h:Xt 4 0 l.length=true):∃a b c d,l=[a,b,c,d]:=by
 have:=qe h;rcases l with _ | ⟨a,_ | ⟨b,_ | ⟨c,_ | ⟨d,_ | ⟨e,l⟩⟩⟩⟩⟩<;>simp at this
 ·exact⟨a,b,c,d,rfl⟩
 ·omega
theorem fq{l:Q0 Int}(h:Xt 5 0 l.length=true):∃a b c d e,l=[a,b,c,d,e]:=by
 have:=qe h;rcases l with _ | ⟨a,_ | ⟨b,_ | ⟨c,_ | ⟨d,_ | ⟨e,_ | ⟨f,l⟩⟩⟩⟩⟩⟩<;>simp at this
 ·exact⟨a,b,c,d,e,rfl⟩
 ·omega
theorem hO{l:Q0 Int}(h:Xt 3 2 l.length=true):∃a b c d ps,l=a::b::c::d/\WN d=some ps:=by
 have:=gE h;rcases l with _ | ⟨a,_ | ⟨b,_ | ⟨c,l⟩⟩⟩<;>simp only[OF,kp,ej,oc,hJ] at this
 iterate 3 omega
 ·obtain⟨ps,e⟩:=A6 l eB;exact⟨a,b,c,l,ps,rfl,e⟩
theorem hZ{l:Q0 Int}(h:Xt 4 2 l.length=true):∃a b c d e ps,l=a::b::c::d::e/\WN e=some ps:=by
 have:=gE h;rcases l with _ | ⟨a,_ | ⟨b,_ | ⟨c,_ | ⟨d,l⟩⟩⟩⟩<;>simp only[OF,kp,ej,oc,hJ] at this
 iterate 4 omega
 ·obtain⟨ps,f⟩:=A6 l eB;exact⟨a,b,c,d,l,ps,rfl,f⟩
theorem Wf{n s n' a:Nat}{L:QA}{x:RL}(h:Yv (M0 n s L) x)(b:n<=n')(hs:s<=a):Yv (M0 n' a L) x:=h.imp λ_ h=>⟨h.1.up b hs,h.2⟩
theorem uL{n s:Nat}{L:QA}(h:Inv n s L)(x:n<=700000)(hs:s < 256)(line:Q0 H1):Yv (M0 (n+1000) (s+1) L) (Rc L line):=by
 unfold Rc;split
 ·exact Yv.pan er
 rename_i v;cases j:Gw line with
 | pan q=>
  refine Yv.pan ?_;unfold Gw at j
  split at j
  ·cases j;exact er
  ·split at j
   ·cases j
   ·cases j;exact er
 | ok w=>
  simp only;cases m:PL w.1 with
  | none=>exact Yv.pan er
  | some d=>
   refine Yv.sS er λf=>Yv.sS er λg=> ?_;rw[BY ⟨by have:=h.casks;omega,by have:=h.duties;omega,by have:=h.stamps;omega⟩];have o:d∈HZ:=ml m;have k:d.word=w.1:=by simpa using List.find?_some m
   have l:=vl j;have i:w.2.length<=1000:=by have:=Nv j;omega
   have g:d.word≠[100,97,121]->d.word≠[114,117,108,101,115]->L.rules.isNone=false:=λt u=>by
    rw[k] at t u
    simpa[t,u] using g
   clear j m k
   generalize w.2=p at f l i ⊢
   unfold HZ at o
   simp only[TO,ew,o8] at o
   rcases o with rfl | rfl | rfl | rfl | rfl | rfl | rfl | rfl | rfl | rfl | rfl | rfl | rfl | rfl | rfl | rfl | rfl | rfl | rfl | rfl
   ·obtain⟨a,rfl⟩:=Pj f;exact Wf (xX h a) eB eB
   ·obtain⟨a,b,c,p,ps,rfl,r⟩:=hO f;exact Wf (jy h a b c r (by simp at i;omega)) eB eB
   ·obtain⟨a,b,c,d,e,rfl⟩:=fq f;exact Wf (uH h eB a b c d e) eB eB
   ·obtain⟨a,b,c,rfl⟩:=qV f;exact Wf (ua h eB (g eT eT) a b c) eB eB
   ·obtain⟨a,b,c,rfl⟩:=qV f;exact Wf (vm h eB (g eT eT) a b c) eB eB
   ·obtain⟨a,b,rfl⟩:=Ru f;exact Wf (yj h eB (g eT eT) a b) eB eB
   ·obtain⟨a,b,c,rfl⟩:=qV f;exact Wf (Lq h eB 5 a b c) eB eB
   ·obtain⟨a,b,c,rfl⟩:=qV f;exact Wf (Lq h eB 6 a b c) eB eB
   ·obtain⟨a,b,rfl⟩:=Ru f;exact Wf (uW h eB a b) eB eB
   ·obtain⟨a,b,rfl⟩:=Ru f;exact Wf (ux h eB a b) eB eB
   ·obtain⟨a,b,rfl⟩:=Ru f;exact Wf (Nf h hs 0 a b) eB eB
   ·obtain⟨a,b,rfl⟩:=Ru f;exact Wf (Nf h hs 2 a b) eB eB
   ·obtain⟨a,b,c,d,p,ps,rfl,r⟩:=hZ f;exact Wf (kV h eB hs (g eT eT) a b c d r (by simp at i;omega)) eB eB
   ·obtain⟨a,rfl⟩:=Pj f;exact Wf (w6 h eB (g eT eT) a) eB eB
   ·obtain⟨a,rfl⟩:=Pj f;exact Wf (OQ h a) eB eB
   ·obtain⟨a,rfl⟩:=Pj f;exact Wf (OR h (g eT eT)<|l a eF) eB eB
   ·exact Wf (Iu h (g eT eT) p) eB eB
   ·obtain⟨a,rfl⟩:=Pj f;exact Wf (LC h hs a) eB eB
   ·obtain⟨a,b,c,d,rfl⟩:=ft f;exact Wf (LF h a b c d) eB eB
   ·obtain⟨a,rfl⟩:=Pj f;exact Wf (LD h a) eB eB
theorem gz{n s:Nat}{L:QA}(h:Inv n s L)(c:n<=700000)(hs:s < 256)(line:Q0 H1):∃a e b,fB L line=some (a,e,b)/\Inv (n+1000) (s+1) b/\((Er e/\a=[]/\b=L)∨(e=0/\Rc L line=some (.ok (a,b))/\(a=zJ∨b=L)/\a.length<=2300000)):=by
 obtain⟨r,d,f,g⟩:=uL h c hs line;unfold fB;rw[d];cases r with
 | pan q=>exact⟨_,_,_,rfl,h.up eB eB,.inl ⟨g q rfl,rfl,rfl⟩⟩
 | ok r=>
  obtain⟨i,j,k⟩:=f r rfl;exact⟨_,_,_,rfl,i,.inr ⟨rfl,rfl,j,k⟩⟩
end Go.Proofs.YtdoocboganbagaaGreatDoor
end
namespace Go.Proofs.YtdoocboganbagaaGreatDoor
section
open Go.Dec Go.Proofs.Tryz Go.Shelf Go.RowKit Go.Maps Go.Sort
set_option maxRecDepth 100000
set_option maxHeartbeats 4000000
abbrev xl:= @Tryz.underlying31
abbrev bu:= @Tryz.zeroValue31
abbrev br:= @Tryz.zeroValue48
def Cb(x y:(Nat->Int)):Bool:=[((x 0)==(y 0)),((x 1)==(y 1)),((x 2)==(y 2)),((x 3)==(y 3)),((x 4)==(y 4)),((x 5)==(y 5)),((x 6)==(y 6)),((x 7)==(y 7)),((x 8)==(y 8)),((x 9)==(y 9)),((x 10)==(y 10)),((x 11)==(y 11)),((x 12)==(y 12)),((x 13)==(y 13)),((x 14)==(y 14)),((x 15)==(y 15))].all id
theorem wx(x y:(Nat->Int))(d:Nat)(w:By):(Op.equalIn (d+2) 48 (.agg ((FK 16<|Zy .i64) x).toArray)<|.agg ((FK 16<|Zy .i64) y).toArray).run Tryz.prog w= .ok (Cb x y) w:=ug Tryz.underlying48 Tryz.sizeOf3 (bs:=[((x 0)==(y 0)),((x 1)==(y 1)),((x 2)==(y 2)),((x 3)==(y 3)),((x 4)==(y 4)),((x 5)==(y 5)),((x 6)==(y 6)),((x 7)==(y 7)),((x 8)==(y 8)),((x 9)==(y 9)),((x 10)==(y 10)),((x 11)==(y 11)),((x 12)==(y 12)),((x 13)==(y 13)),((x 14)==(y 14)),((x 15)==(y 15))]) rfl ⟨⟨_,_,UY Tryz.isAgg3 rfl,UY Tryz.isAgg3 rfl,λw=>eq_int Tryz.underlying3 (d+0) w⟩,⟨_,_,UY Tryz.isAgg3 rfl,UY Tryz.isAgg3 rfl,λw=>eq_int Tryz.underlying3 (d+0) w⟩,⟨_,_,UY Tryz.isAgg3 rfl,UY Tryz.isAgg3 rfl,λw=>eq_int Tryz.underlying3 (d+0) w⟩,⟨_,_,UY Tryz.isAgg3 rfl,UY Tryz.isAgg3 rfl,λw=>eq_int Tryz.underlying3 (d+0) w⟩,⟨_,_,UY Tryz.isAgg3 rfl,UY Tryz.isAgg3 rfl,λw=>eq_int Tryz.underlying3 (d+0) w⟩,⟨_,_,UY Tryz.isAgg3 rfl,UY Tryz.isAgg3 rfl,λw=>eq_int Tryz.underlying3 (d+0) w⟩,⟨_,_,UY Tryz.isAgg3 rfl,UY Tryz.isAgg3 rfl,λw=>eq_int Tryz.underlying3 (d+0) w⟩,⟨_,_,UY Tryz.isAgg3 rfl,UY Tryz.isAgg3 rfl,λw=>eq_int Tryz.underlying3 (d+0) w⟩,⟨_,_,UY Tryz.isAgg3 rfl,UY Tryz.isAgg3 rfl,λw=>eq_int Tryz.underlying3 (d+0) w⟩,⟨_,_,UY Tryz.isAgg3 rfl,UY Tryz.isAgg3 rfl,λw=>eq_int Tryz.underlying3 (d+0) w⟩,⟨_,_,UY Tryz.isAgg3 rfl,UY Tryz.isAgg3 rfl,λw=>eq_int Tryz.underlying3 (d+0) w⟩,⟨_,_,UY Tryz.isAgg3 rfl,UY Tryz.isAgg3 rfl,λw=>eq_int Tryz.underlying3 (d+0) w⟩,⟨_,_,UY Tryz.isAgg3 rfl,UY Tryz.isAgg3 rfl,λw=>eq_int Tryz.underlying3 (d+0) w⟩,⟨_,_,UY Tryz.isAgg3 rfl,UY Tryz.isAgg3 rfl,λw=>eq_int Tryz.underlying3 (d+0) w⟩,⟨_,_,UY Tryz.isAgg3 rfl,UY Tryz.isAgg3 rfl,λw=>eq_int Tryz.underlying3 (d+0) w⟩,⟨_,_,UY Tryz.isAgg3 rfl,UY Tryz.isAgg3 rfl,λw=>eq_int Tryz.underlying3 (d+0) w⟩,trivial⟩ w
theorem gW(x y:(Nat->Int))(w:By):(Op.equal 48 (.agg ((FK 16<|Zy .i64) x).toArray)<|.agg ((FK 16<|Zy .i64) y).toArray).run Tryz.prog w= .ok (Cb x y) w:=wx x y 9998 w
end
section
open Go.Dec
def WV(l:Q0 (Q0 H1)):Nat:=(l.map λx=>x.length+1).sum
theorem qf(l:Q0 (Q0 H1))(c:∀x∈l,x.length<=140737488351232):∀(post pre:Q0 (Q0 H1)),l=pre++post->pre.length<=41->
  ∃b:Int,ZU (Jt l) ((WV pre:Int),(pre.length:Int))=some b/\(l.length<=40->b=WV l)
 | [],pre,e,j=>by
  rw[r8] at e
  subst e;refine⟨WV l,?_,λ_=>rfl⟩;rw[ZJ];unfold Jt;simp
 | x::post,pre,e,j=>by
  have k:=VO e;have hi:=HJ e;by_cases m:pre.length < 41
  ·have s:WV pre<=pre.length*140737488351233:=by
    have:∀(q:Q0 (Q0 H1)),(∀x∈q,x.length<=140737488351232)->WV q<=q.length*140737488351233:=by
     intro q
     induction q with
     | nil=>intro _;simp[WV]
     | cons y q o=>
      intro h;have g:=o λz p=>h z (by simp[p]);have i:=h y eF;have d:WV (y::q)=y.length+1+WV q:=by simp[WV]
      rw[d,OF];omega
    exact this pre λy r=>c y (by rw[e];simp[r])
   have t:=c x (by rw[e];simp)
   have a:Jt l ((WV pre:Int),(pre.length:Int))=some (.next ((WV (pre++[x]):Int),((pre++[x]).length:Int))):=by
    unfold Jt;have f:(decide ((pre.length:Int) < (l.length:Int))&&decide ((pre.length:Int) < 41))=true:=by simp;omega
    simp only[f,B2,Z2,k,K2,QS];rw[Qo (n:=(WV pre:Int)+(x.length:Int)) eB eB,Qo eB eB,Qo eB eB];have d:WV (pre++[x])=WV pre+(x.length+1):=by simp[WV]
    rw[d];simp only[x4,lg];congr 4
   obtain⟨b,g,i⟩:=qf l c post (pre++[x]) (by rw[e];simp) eE;refine⟨b,?_,i⟩;rw[ZJ,a];exact g
  ·refine⟨WV pre,?_,λh=>by omega⟩;rw[ZJ];unfold Jt;have f:(decide ((pre.length:Int) < (l.length:Int))&&decide ((pre.length:Int) < 41))=false:=by simp;omega
   simp only[f,W2,Bm]
theorem gy(l:Q0 (Q0 H1))(a:∀x∈l,x.length<=140737488351232):∃b,Ud l=some b/\(b=true->l.length<=40/\WV l<=4000):=by
 obtain⟨b,c,d⟩:=qf l a l [] rfl eF;refine⟨_,by unfold Ud;exact ZT c rfl,λh=> ?_⟩;simp only[Do,AT] at h
 have e:=d eB;omega
section
variable{A:Q0 Qu}{i:Nat}{L:QA}
theorem Mk(h:A[i]? =some ⟨L,true⟩)(a:L.casks.length<=1000000):JS A (some i)=some L.casks:=by
 unfold JS KQ;simp only[lN,W2,Bm,K2,h,RK];rw[XK eE];rfl
theorem yX(h:A[i]? =some ⟨L,true⟩)(a:L.duties.length<=1000000):JA A (some i)=some L.duties:=by
 unfold JA KP;simp only[lN,W2,Bm,K2,h,RK];rw[XK eE];rfl
theorem w4(h:A[i]? =some ⟨L,true⟩)(c:Int):Vx A (some i) c=some (Zb L c):=by
 unfold Vx Zb;simp only[lN,W2,Bm,K2,h,RK]
theorem fy{n s:Nat}(h:A[i]? =some ⟨L,true⟩)(d:Inv n s L)(f:n<=700000)(hs:s < 256)(line:Q0 H1):∃a e b,XV A (some i) line=some (a,e,A.set i ⟨b,true⟩)/\fB L line=some (a,e,b)/\Inv (n+1000) (s+1) b/\((Ca.Er e/\a=[]/\b=L)∨(e=0/\Rc L line=some (.ok (a,b))/\(a=zJ∨b=L)/\a.length<=2300000)):=by
 obtain⟨a,e,b,c,g,j⟩:=gz d f hs line;exact⟨a,e,b,gG h line _ (by rw[c];rfl),c,g,j⟩
end
end
section
open Go.Dec
variable{L L1:QA}{rep:Q0 H1}{β:Type}
theorem J6{b:Bool}{e:Int}{k:RO β}{r:β}(h:Ux b e k=some (.ok r)):b=true/\k=some (.ok r):=by
 unfold Ux at h
 cases b with
 | true=>exact⟨rfl,h⟩
 | false=>cases h
theorem J5{α:Type}{x:RO α}{k:α->RO β}{r:β}(h:HX x k=some (.ok r)):∃a,x=some (.ok a)/\k a=some (.ok r):=by
 unfold HX at h
 cases x with
 | none=>cases h
 | some x=>
  cases x with
  | ok a=>exact⟨a,rfl,h⟩
  | pan q=>cases h
theorem Wj{c:Prop}[Decidable c]{a:K1 β}{r:β}(h:(if c then a else none)=some r):c/\a=some r:=by
 by_cases b:c
 ·rw[BY b] at h;exact⟨b,h⟩
 ·rw[B1 b] at h;cases h
theorem X7{x:QE}(c:∀y∈L.casks,y.Day<=L.day)(h:Cd L x=some (.ok L1)):HD L x L1:=by
 obtain⟨_,h⟩:=Wj h;obtain⟨he,h⟩:=J6 h;simp only[W1,Out.ok.injEq] at h
 subst h;refine⟨rfl,?_⟩;obtain⟨a,k,b⟩:=Ca.jX (by simpa using he);obtain⟨all,d,e,f⟩:=Ca.EF (x:={x with Day:=L.day}) rfl c b;exact⟨all,a,k,d,b,e,f⟩
theorem BV{x:QN}(h:BW L x=some (.ok L1)):Xk L x L1:=by
 unfold BW at h
 split at h
 ·cases h
 ·rename_i r a;obtain⟨_,h⟩:=Wj h;obtain⟨he,h⟩:=J6 h;simp only[W1,Out.ok.injEq] at h
  subst h;exact⟨by rw[a],r,a,by simpa using he⟩
theorem PQ{x:QH}(h:PS L x=some (.ok L1)):L.stamps.length < 256/\Mz L x L1:=by
 obtain⟨a,h⟩:=Wj h;obtain⟨he,h⟩:=J6 h;simp only[W1,Out.ok.injEq] at h
 subst h;exact⟨a,rfl,by simpa using he⟩
inductive Aq(L:QA)(fro to n:Int):QA->Prop where
 | stay (h:n=0∨fro=to):Aq L fro to n L
 | go (hn:n≠0) (hf:fro≠to) (L1 L2:QA) (d1:Xk L ⟨1,0,fro,to,L.ids,n⟩ L1) (d2:Xk L1 ⟨2,0,to,0,L1.ids,n⟩ L2):Aq L fro to n {L2 with ids:=Q8 (L2.ids+1)}
theorem qQ{fro to n:Int}(h:ME L fro to n=some (.ok L1)):Aq L fro to n L1:=by
 unfold ME at h
 split at h
 ·rename_i a;simp only[W1,Out.ok.injEq] at h
  subst h;exact .stay<|by simpa using a
 ·rename_i a;obtain⟨d,b,h⟩:=J5 h;obtain⟨e,c,h⟩:=J5 h;simp only[W1,Out.ok.injEq] at h
  subst h;simp only[nn,mX,not_or] at a
  exact .go a.1 a.2 _ _ (BV b)<|BV c
abbrev M7:Q0 H1:=[100,97,121]
abbrev Wo:Q0 H1:=[114,117,108,101,115]
abbrev Hu:Q0 H1:=[102,105,108,108]
abbrev kj:Q0 H1:=[98,111,116,116,108,101]
abbrev AS:Q0 (Q0 H1):=[[115,101,108,108],[112,108,101,100,103,101],[102,114,101,101],[99,104,97,114],[115,116,97,109,112,115],[115,112,111,105,108],[109,97,107,101],[114,97,99,107],[99,97,114,114,121],[112,97,121]]
abbrev wX:Q0 (Q0 H1):=[[99,97,115,107],[98,111,110,100],[100,117,101],[119,104,111,115,101],[99,108,97,105,109],[102,105,108,108,115]]
inductive Deed(L:QA):List UInt8->List Int->List UInt8->QA->Prop where
 | day (d:Int) (h1:d<=65536) (h2:L.day<=d):Deed L M7 [d] zJ {L with day:=d}
 | rules (a b c:Int) (ns:List Int) (ps:List (Int×Int)) (hp:WN ns=some ps) (h0:L.rules=none) (h1:Ex.Xv (VW a b c ps)=true):Deed L Wo (a::b::c::ns) zJ {L with rules:=some (VW a b c ps)}
 | make (w:List UInt8) (hw:w∈AS) (c v p m o:Int) (L1:QA) (hm:m<=1073741824) (h:HD L ⟨0,0,c,v,o,0,m,p⟩ L1):Deed L w [c,v,p,m,o] zJ L1
 | fill0 (c n s:Int) (L1:QA) (hs:1<=s/\s<=10000) (h:HD L ⟨1,0,c,0,0,0,n,0⟩ L1) (hp:¬Um n s > 0):Deed L Hu [c,n,s] zJ L1
 | fill (c n s:Int) (L1 L2:QA) (hs:1<=s/\s<=10000) (h:HD L ⟨1,0,c,0,0,0,n,0⟩ L1) (hp:Um n s > 0) (d:Xk L1 ⟨0,0,(atR L1 c).1.Place,0,0,Um n s⟩ L2):Deed L Hu [c,n,s] zJ (Wa L2 c<|Q8<|Zb L2 c+Um n s)
 | rack (w:List UInt8) (hw:w∈AS) (a b n p:Int) (L1 L2:QA) (h:HD L ⟨2,0,a,b,0,0,n,0⟩ L1) (hp:Ae L1 (atR L a).1 n=some p) (hm:Aq L1 (atR L a).1.Place (atR L b).1.Place p L2):Deed L w [a,b,n] zJ (Wa (Wa L2 a<|Q8<|Zb L2 a - p) b<|Q8<|Zb (Wa L2 a<|Q8<|Zb L2 a - p) b+p)
 | carry (w:List UInt8) (hw:w∈AS) (a p:Int) (L1 L2:QA) (h:HD L ⟨4,0,a,0,0,0,0,p⟩ L1) (hm:Aq L1 (atR L a).1.Place p (Zb L1 a) L2):Deed L w [a,p] zJ L2
 | keep (w:List UInt8) (hw:w∈AS) (ns:List Int) (x:QE) (L1:QA) (hk:5<=x.Kind/\x.Kind<=8) (h:HD L x L1):Deed L w ns zJ L1
 | stamps (w:List UInt8) (hw:w∈AS) (ns:List Int) (x:QH) (L1:QA) (hk:x.Kind≠1) (hl:L.stamps.length < 256) (h:Mz L x L1):Deed L w ns zJ L1
 | pay (w:List UInt8) (hw:w∈AS) (a:Int) (L1:QA) (h:Xk L ⟨6,0,0,0,0,a⟩ L1):Deed L w [a] zJ L1
 | bottle (num v a z:Int) (ds:List Int) (ps:List (Int×Int)) (b:QU) (L1 L2:QA) (hp:WN ds=some ps) (h0:Qc L.batches num=none) (hd:Gt ps ⟨[],v,⟨0,0⟩,false,false⟩ L=some (.ok (b,L1)))
  (hv:Bo.HH b=true) (hs:Q8 (Q8 (z - a)+1)<=vY b) (hl:L1.stamps.length < 256) (h:Mz L1 ⟨1,a,z,num⟩ L2):Deed L kj (num::v::a::z::ds) zJ {L2 with batches:=Q5 L2.batches num b}
 | ask (d:Wd) (hd:d∈HZ) (hw:d.word∈wX) (ns:List Int) (rep:List UInt8) (h:d.does L ns=some (.ok (rep,L))):Deed L d.word ns rep L
theorem Hc(h:zu L=some (.ok (rep,L1))):rep=zJ/\L1=L:=by
 simp only[zu,W1,Out.ok.injEq,L0] at h
 exact⟨h.1.symm,h.2.symm⟩
theorem Tj{w:Q0 H1}{l:Q0 Int}(h:OS w l L=some (.ok (rep,L1))):L1=L:=by
 obtain⟨_,h⟩:=Wj h;simp only[W1,Out.ok.injEq,L0] at h
 exact h.2.symm
theorem ID{z:QA}{line:Q0 H1}(n:∀y∈L.casks,y.Day<=L.day)(h:Rc L line=some (.ok (rep,z))):∃w o,Gw line= .ok (w,o)/\(∃d∈HZ,d.word=w/\Xt d.least d.each o.length=true)/\(w≠M7->w≠Wo->L.rules.isNone=false)/\Deed L w o rep z:=by
 unfold Rc at h
 split at h
 ·cases h
 cases A:Gw line with
 | pan q=>rw[A] at h;cases h
 | ok w=>
  rw[A] at h
  simp only at h
  cases t:PL w.1 with
  | none=>rw[t] at h;cases h
  | some d=>
   rw[t] at h
   obtain⟨i,h⟩:=J6 h;obtain⟨u,h⟩:=J6 h;obtain⟨_,h⟩:=Wj h;have l:d∈HZ:=ml t;have v:d.word=w.1:=by simpa using List.find?_some t
   refine⟨w.1,w.2,rfl,⟨d,l,v,i⟩,λj f=>by simpa[j,f] using u,?_⟩;rw[<-v];have g:d.word∈wX->z=L->Deed L d.word w.2 rep z:=λj f=>by subst f;exact .ask d l j _ _ h
   clear u t A
   generalize w.2=o at i h g ⊢
   unfold HZ at l
   simp only[TO,ew,o8] at l
   rcases l with rfl | rfl | rfl | rfl | rfl | rfl | rfl | rfl | rfl | rfl | rfl | rfl | rfl | rfl | rfl | rfl | rfl | rfl | rfl | rfl
   ·obtain⟨a,rfl⟩:=Pj i;obtain⟨j,h⟩:=J6 h;obtain⟨f,h⟩:=J6 h;obtain⟨rfl,rfl⟩:=Hc h;exact .day a (by simpa using j)<|by simpa using f
   ·obtain⟨a,b,c,o,ps,rfl,m⟩:=hO i;obtain⟨_,h⟩:=Wj h;rw[m,K2] at h
    obtain⟨j,h⟩:=J6 h;obtain⟨f,h⟩:=J6 h;obtain⟨rfl,rfl⟩:=Hc h;exact .rules a b c o ps m (by simpa using j) f
   ·obtain⟨a,b,c,d,e,rfl⟩:=fq i;obtain⟨j,h⟩:=J6 h;obtain⟨L1,f,h⟩:=J5 h;obtain⟨rfl,rfl⟩:=Hc h;exact .make _ eF _ _ _ _ _ _ (by simpa using j)<|X7 n f
   ·obtain⟨a,b,c,rfl⟩:=qV i;obtain⟨j,h⟩:=J6 h;obtain⟨L1,f,h⟩:=J5 h;obtain⟨s,k,h⟩:=J5 h;obtain⟨rfl,rfl⟩:=Hc h;simp only[Do,AT] at j
    unfold filled at k
    split at k
    ·rename_i m;obtain⟨s,B,k⟩:=J5 k;simp only[W1,Out.ok.injEq] at k
     subst k;exact .fill a b c L1 s j (X7 n f) m<|BV B
    ·rename_i m;simp only[W1,Out.ok.injEq] at k
     subst k;exact .fill0 a b c _ j (X7 n f) m
   ·obtain⟨a,b,c,rfl⟩:=qV i;obtain⟨L1,f,h⟩:=J5 h;obtain⟨p,m,h⟩:=If.1 h;obtain⟨s,k,h⟩:=J5 h;obtain⟨rfl,rfl⟩:=Hc h;exact .rack _ eF a b c p L1 s (X7 n f) m<|qQ k
   ·obtain⟨a,b,rfl⟩:=Ru i;obtain⟨L1,f,h⟩:=J5 h;obtain⟨s,k,h⟩:=J5 h;obtain⟨rfl,rfl⟩:=Hc h;exact .carry _ eF a b L1 _ (X7 n f)<|qQ k
   ·obtain⟨a,b,c,rfl⟩:=qV i;obtain⟨L1,f,h⟩:=J5 h;obtain⟨rfl,rfl⟩:=Hc h;exact .keep _ eF _ _ _ ⟨by dsimp only;omega,by dsimp only;omega⟩<|X7 n f
   ·obtain⟨a,b,c,rfl⟩:=qV i;obtain⟨L1,f,h⟩:=J5 h;obtain⟨rfl,rfl⟩:=Hc h;exact .keep _ eF _ _ _ ⟨by dsimp only;omega,by dsimp only;omega⟩<|X7 n f
   ·obtain⟨a,b,rfl⟩:=Ru i;obtain⟨L1,f,h⟩:=J5 h;obtain⟨rfl,rfl⟩:=Hc h;exact .keep _ eF _ _ _ ⟨by dsimp only;omega,by dsimp only;omega⟩<|X7 n f
   ·obtain⟨a,b,rfl⟩:=Ru i;obtain⟨L1,f,h⟩:=J5 h;obtain⟨rfl,rfl⟩:=Hc h;exact .keep _ eF _ _ _ ⟨by dsimp only;omega,by dsimp only;omega⟩<|X7 n f
   ·obtain⟨a,b,rfl⟩:=Ru i;obtain⟨L1,f,h⟩:=J5 h;obtain⟨rfl,rfl⟩:=Hc h;obtain⟨x,f⟩:=PQ f;exact .stamps _ eF _ _ _ (by show(0:Int)≠1;decide) x f
   ·obtain⟨a,b,rfl⟩:=Ru i;obtain⟨L1,f,h⟩:=J5 h;obtain⟨rfl,rfl⟩:=Hc h;obtain⟨x,f⟩:=PQ f;exact .stamps _ eF _ _ _ (by show(2:Int)≠1;decide) x f
   ·obtain⟨a,b,c,d,o,ps,rfl,m⟩:=hZ i;obtain⟨_,h⟩:=Wj h;rw[m,K2] at h
    obtain⟨j,h⟩:=J6 h;obtain⟨r,f,h⟩:=J5 h;obtain⟨_,h⟩:=Wj h;obtain⟨k,h⟩:=J6 h;obtain⟨B,h⟩:=J6 h;obtain⟨s,C,h⟩:=J5 h;obtain⟨rfl,rfl⟩:=Hc h;obtain⟨x,C⟩:=PQ C;exact .bottle a b c d o ps r.1 r.2 s m (by simpa using j) f k (by simpa using B) x C
   ·obtain⟨a,rfl⟩:=Pj i;obtain⟨L1,f,h⟩:=J5 h;obtain⟨rfl,rfl⟩:=Hc h;exact .pay _ eF a _<|BV f
   ·obtain⟨a,rfl⟩:=Pj i;refine g eF ?_;obtain⟨_,h⟩:=J6 h;exact Tj h
   ·obtain⟨a,rfl⟩:=Pj i;refine g eF ?_;obtain⟨_,h⟩:=J6 h;obtain⟨_,_,h⟩:=If.1 h;obtain⟨_,_,h⟩:=If.1 h;exact Tj h
   ·refine g eF ?_;obtain⟨_,_,h⟩:=If.1 h;exact Tj h
   ·obtain⟨a,rfl⟩:=Pj i;refine g eF ?_;obtain⟨_,_,h⟩:=If.1 h;obtain⟨_,h⟩:=J6 h;exact Tj h
   ·obtain⟨a,b,c,d,rfl⟩:=ft i;refine g eF ?_;unfold H5 at h
    simp only at h
    split at h
    ·cases h
    ·obtain⟨_,_,h⟩:=If.1 h;obtain⟨_,h⟩:=J6 h;simp only[W1,Out.ok.injEq,L0] at h
     exact h.2.symm
   ·obtain⟨a,rfl⟩:=Pj i;refine g eF ?_;obtain⟨_,h⟩:=J6 h;exact Tj h
end
section
open Go.Dec
theorem Af(s:Q0 H1)(hs:s.length<=13):∀(post pre:Q0 H1),s=pre++post->pre.all El=true->
  ZU (Ji s) ((Xm pre:Int),(pre.length:Int))=some (if post.all El then .inl (Xm s:Int) else .inr (0,false))
 | [],pre,e,g=>by
  rw[r8] at e;subst e
  rw[ZJ];unfold Ji;simp
 | c::post,pre,e,g=>by
  have hi:=HJ e;have f:=VO e;have o:=kl g eB;have p:c.toNat < 256:=c.toNat_lt
  have b:Ji s ((Xm pre:Int),(pre.length:Int))=some (if El c then .next ((Xm (pre++[c]):Int),((pre++[c]).length:Int)) else .done (.inr (0,false))):=by
   unfold Ji;simp only[Z2,f,K2,QS,show(decide<|(pre.length:Int) < (s.length:Int))=true by simpa using hi,B2];by_cases a:El c=true
   ·have d:=a;simp only[El,Do,AT] at d
    have i:decide ((c.toNat:Int) < 48)=false:=aT eB;have j:decide ((c.toNat:Int) > 57)=false:=aT eB;simp only[i,j,W2,Bm,K2];rw[bX _ eB eB,Qo (n:=10*(Xm pre:Int)) eB eB,Qo (n:=(c.toNat:Int) - 48) eB eB,Qo eB eB,Qo eB eB];have k:10*(Xm pre:Int)+((c.toNat:Int) - 48)=(Xm (pre++[c]):Int):=by rw[PN];omega
    have l:(pre.length:Int)+1=((pre++[c]).length:Int):=by simp
    rw[k,l,a];rfl
   ·have d:=a;simp only[El,Do,AT] at d
    rw[B1 a];by_cases h:(c.toNat:Int) < 48
    ·simp only[fl h,B2,K2]
    ·simp only[aT h,W2,Bm,K2,show decide ((c.toNat:Int) > 57)=true from fl eB,B2]
  rw[ZJ,b];cases a:El c with
  | false=>simp[a]
  | true=>
   have m:=Af s hs post (pre++[c]) (by rw[e];simp) (by rw[lH,g];simp[a]);simp only[B2,m];simp[a]
theorem v8(s:Q0 H1):Va s=some (if Bu s then((Xm s:Int),true) else(0,false)):=by
 unfold Va Bu;cases s with
 | nil=>rfl
 | cons c l=>
  have g:=λhs=>Af (c::l) hs (c::l) [] rfl rfl;simp only[kp,hJ,show(Xm []:Int)=0 from rfl] at g
  have i:ZX (c::l) 0=some c:=rfl;by_cases a:(c::l).length<=13
  ·have b:(decide (((c::l).length:Int) < 1)||decide (((c::l).length:Int) > 13))=false:=by simp at a ⊢;omega
   simp only[b,W2,Bm,i,K2,g a];by_cases e:c=48
   ·subst e;cases l with
    | nil=>rfl
    | cons d l=>
     have j:decide ((((48:H1)::d::l).length:Int) > 1)=true:=fl (by simp only[OF];omega);simp only[j,B2,show(((48:H1).toNat:Int)==48)=true from rfl,K2];simp
   ·have k:((c.toNat:Int)==48)=false:=by
     rw[lz];intro h;exact e<|iT.1 (by rw[show(48:H1).toNat=48 from rfl];omega)
    simp only[k,ite_self,K2,W2,Bm];have f:decide ((c::l).length<=13)=true:=fl a;have m:((c::l).head? ==some 48)=false:=by simpa using e
    simp only[f,m];cases n:(c::l).all El<;>simp
  ·have b:(decide (((c::l).length:Int) < 1)||decide (((c::l).length:Int) > 13))=true:=by simp at a ⊢;omega
   have f:decide ((c::l).length<=13)=false:=aT a;simp only[b,f,B2,K2];simp
def glue(cur:Q0 H1):Q0 (Q0 H1)->Q0 (Q0 H1)
 | []=>[cur]
 | p::ps=>(cur++p)::ps
theorem A5(line:Q0 H1)(n:line.length<=4000):∀(post a cur:Q0 H1) (acc:Q0 (Q0 H1)),line=a++(cur++post)->acc.length<=a.length->
  ZU (Zr line) (acc,(a.length:Int),((a++cur).length:Int))=some (acc++glue cur (YX post))
 | [],a,cur,acc,e,k=>by
  have d:line=a++cur:=by rw[e];simp
  have hs:ZZ line (a.length:Int) (line.length:Int)=some cur:=by
   unfold ZZ;rw[BY (by rw[d];simp;omega),d,hR,hR];simp
  have t:a.length<=line.length:=by rw[d];simp
  rw[<-d]
  have g:Zr line (acc,(a.length:Int),(line.length:Int))=some (.next (acc++[cur],(line.length:Int)+1,(line.length:Int)+1)):=by
   unfold Zr;simp only[Of,ta,B2,hF,K2,hs,QS];rw[XK eE,K2,Qo eB eB];rfl
  rw[ZJ,g];simp only;rw[ZJ];unfold Zr;have:decide ((line.length:Int)+1<=(line.length:Int))=false:=aT eB;simp only[this,W2,Bm];simp[glue,YX]
 | c::post,a,cur,acc,e,k=>by
  have d:line=(a++cur)++c::post:=by rw[e];simp
  have hi:=HJ d;have f:=VO d;have o:a.length<=(a++cur).length:=by simp
  have q:decide (((a++cur).length:Int)<=(line.length:Int))=true:=fl eB;have r:(((a++cur).length:Int)==(line.length:Int))=false:=by rw[lz];omega
  have s:((c.toNat:Int)==32)=(c==32):=by
   rw[lb,mX,mX];constructor
   ·intro h;exact iT.1 (by rw[show(32:H1).toNat=32 from rfl];omega)
   ·intro h;subst h;rfl
  by_cases i:c=32
  ·have g:Zr line (acc,(a.length:Int),((a++cur).length:Int))=some (.next (acc++[cur],((a++cur++[c]).length:Int),((a++cur++[c]).length:Int))):=by
    unfold Zr
    have hs:ZZ line (a.length:Int) ((a++cur).length:Int)=some cur:=by
     unfold ZZ;rw[BY eB,d,hR,hR];simp
    simp only[q,B2,r,W2,Bm,Z2,f,K2,s,hs,QS,show(c==32)=true by simpa using i];rw[XK eE,K2,Qo eB eB];simp;omega
   rw[ZJ,g];have j:=A5 line n post (a++cur++[c]) [] (acc++[cur]) (by rw[d];simp) (by simp at k ⊢;omega);rw[r8] at j
   simp only[j];subst i;have l:=Ni post;cases b:YX post with
   | nil=>exact absurd b l
   | cons p ps=>simp[YX,glue,b]
  ·have g:Zr line (acc,(a.length:Int),((a++cur).length:Int))=some (.next (acc,(a.length:Int),((a++(cur++[c])).length:Int))):=by
    unfold Zr;simp only[q,B2,r,W2,Bm,Z2,f,K2,s,QS,show(c==32)=false by simpa using i];rw[Qo eB eB];simp;omega
   rw[ZJ,g];have j:=A5 line n post a (cur++[c]) acc (by rw[e];simp) k;simp only[j];have l:=Ni post;have m:(c==32)=false:=by simpa using i
   cases b:YX post with
   | nil=>exact absurd b l
   | cons p ps=>simp[YX,glue,b,m]
theorem Tp(w:Q0 H1)(parts:Q0 (Q0 H1))(c:parts.length<=5000):∀(post pre:Q0 (Q0 H1)) (acc:Q0 Int),parts=pre++post->acc.length<=pre.length->
  ZU (JC parts) ((pre.length:Int),⟨w,acc⟩)=some (if post.all Bu then .inl ⟨w,acc++post.map λp=>(Xm p:Int)⟩ else .inr (⟨[],[]⟩,false))
 | [],pre,acc,e,d=>by
  rw[r8] at e;subst e
  rw[ZJ];unfold JC;simp
 | x::post,pre,acc,e,d=>by
  have hi:=HJ e;have a:=VO e
  have f:JC parts ((pre.length:Int),⟨w,acc⟩)=some (if Bu x then .next (((pre++[x]).length:Int),⟨w,acc++[(Xm x:Int)]⟩) else .done (.inr (⟨[],[]⟩,false))):=by
   unfold JC;simp only[Z2,a,K2,QS,show(decide<|(pre.length:Int) < (parts.length:Int))=true by simpa using hi,B2,v8];cases b:Bu x with
   | false=>simp
   | true=>
    simp only[B2,RK,W2,Bm];rw[XK eE,K2,Qo eB eB];simp
  rw[ZJ,f];cases b:Bu x with
  | false=>simp[b]
  | true=>
   refine Eq.trans (Tp w parts c post (pre++[x]) (acc++[(Xm x:Int)]) (by rw[e];simp) eE) ?_;simp[b]
theorem xI{c:Prop}[Decidable c]{a b:K1 Bool}(d:∃x,a=some x)(e:∃x,b=some x):∃x,(if c then a else b)=some x:=by split<;>assumption
theorem u5{a:K1 Bool}{k:Bool->K1 Bool}(b:∃x,a=some x)(c:∀x,∃y,k x=some y):∃y,a.bind k=some y:=by
 obtain⟨x,rfl⟩:=b;exact c x
theorem kK(w:Q0 H1)(n:Int):∃b,Kr w n=some b:=by
 unfold Kr
 repeat (first | exact⟨_,rfl⟩ | refine xI ?_ ?_ | refine u5 ?_ λ_=> ?_)
theorem LS(n:Int):Kr kj n=some (decide (n≥6)&&(Int.tmod n 2==0)):=rfl
theorem jn(s:Q0 H1):(YX s).length<=s.length+1:=by
 induction s with
 | nil=>simp[YX]
 | cons c l a=>
  unfold YX;split
  ·simpa using a
  ·split<;>rename_i he
   ·simp
   ·rw[he] at a;simp at a ⊢;omega
theorem k9(line:Q0 H1)(j:line.length<=4000):∃r,Yc line=some r/\∀w a,Gw line= .ok (w,a)->∃b,r=(⟨w,a⟩,b)/\Kr w a.length=some b:=by
 have c:=A5 line j line [] [] [] rfl<|S2 _;have d:=jn line;unfold Yc;cases hs:YX line with
 | nil=>exact absurd hs (Ni line)
 | cons w ps=>
  rw[hs] at c d
  have f:Gw line=if ps.all Bu then .ok (w,ps.map λp=>(Xm p:Int)) else .pan ⟨8⟩:=by unfold Gw;rw[hs]
  have c:ZU (Zr line) (([]:Q0 (Q0 H1)),0,0)=some (w::ps):=c;rw[c,K2,show ZX (w::ps) 0=some w from rfl,K2];have e:=Tp w (w::ps) eB ps [w] [] rfl eF;have e:ZU (JC<|w::ps) (1,⟨w,[]⟩)=_:=e;rw[e,K2];cases g:ps.all Bu with
  | false=>exact⟨_,rfl,λw a h=>by rw[f,g] at h;cases h⟩
  | true=>
   obtain⟨b,i⟩:=kK w ((ps.map λp=>(Xm p:Int)).length:Int);simp only[B2,r7];rw[i,K2];refine⟨_,rfl,λw a h=> ?_⟩;rw[f,g] at h
   simp only[B2,Out.ok.injEq,L0] at h
   obtain⟨rfl,rfl⟩:=h;exact⟨b,rfl,i⟩
end
section
open Go.Dec
theorem yV{d:Wd}(b:d∈HZ){n:Nat}(h:Xt d.least d.each n=true):Kr d.word n=some true:=by
 unfold HZ at b
 simp only[TO,ew,o8] at b
 have c:∀a:Nat,Xt a 0 n=true->n=a:=λa h=>by
  have:(n:Int)=a:=by simpa[Xt] using h
  omega
 rcases b with rfl | rfl | rfl | rfl | rfl | rfl | rfl | rfl | rfl | rfl | rfl | rfl | rfl | rfl | rfl | rfl | rfl | rfl | rfl | rfl
 case inr.inl=>
  have h:(n:Int) > 3/\((n:Int) - 3)%2=0:=by simpa[Xt] using h
  show some (decide ((n:Int)≥5)&&(Int.tmod n 2==1))=some true;rw[oH eB];simp only[W1,Do,AT,mX];omega
 case inr.inr.inr.inr.inr.inr.inr.inr.inr.inr.inr.inr.inl=>
  have h:(n:Int) > 4/\((n:Int) - 4)%2=0:=by simpa[Xt] using h
  rw[LS,oH eB];simp only[W1,Do,AT,mX];omega
 all_goals
  have e:=c _ h;subst e;rfl
theorem zp{line:Q0 H1}{w:Q0 H1}{a:Q0 Int}(e:line.length<=4000)(f:Gw line= .ok (w,a))(g:∃d∈HZ,d.word=w/\Xt d.least d.each a.length=true):Yc line=some (⟨w,a⟩,true):=by
 obtain⟨r,h,i⟩:=k9 line e;obtain⟨b,rfl,c⟩:=i w a f;obtain⟨d,j,rfl,k⟩:=g;rw[yV j k] at c
 simp only[W1] at c
 rw[h,<-c]
end
section
open Go.Dec
variable{w:Int×Int->Int}{all:Q0 Ca.ZY}{c:Ca.ZY}{i:Nat}
def Wp(w:Int×Int->Int):Q0 (Int×Int)->Int
 | []=>0
 | p::l=>w p+Wp w l
theorem NW{w':Int×Int->Int}:∀{l:Q0 (Int×Int)},(∀p∈l,w p=w' p)->Wp w l=Wp w' l
 | [],_=>rfl
 | p::l,h=>by unfold Wp;rw[NW λq a=>h q (by simp[a]),h p eF]
theorem Tb:∀{l k:Q0 (Int×Int)},Wp w (l++k)=Wp w l+Wp w k
 | [],k=>by simp[Wp]
 | p::l,k=>by simp only[tO,Wp,Tb (l:=l)];omega
theorem Ip{q:Int×Int}:∀{l:Q0 (Int×Int)} {i:Nat} {p:Int×Int},l[i]? =some p->Wp w (l.set i q)=Wp w l - w p+w q
 | [],i,p,h=>by simp at h
 | a::l,0,p,h=>by
  simp only[C2,W1] at h
  subst h;simp only[mZ,Wp];omega
 | a::l,i+1,p,h=>by
  simp only[s9] at h
  simp only[List.set_cons_succ,Wp,Ip (l:=l) h];omega
theorem NV{w':Int×Int->Int}:∀{l:Q0 (Int×Int)} {i:Nat} {p:Int×Int},(l.map Prod.fst).Nodup->l[i]? =some p->(∀q:Int×Int,q.1≠p.1->w' q=w q)->Wp w' l=Wp w l - w p+w' p
 | [],i,p,_,h,_=>by simp at h
 | a::l,0,p,b,h,d=>by
  simp only[C2,W1] at h
  subst h;simp only[E4,ma] at b
  have:Wp w' l=Wp w l:=NW λq f=>d q λe=>b.1 (by rw[<-e];exact IR f);simp only[Wp,this];omega
 | a::l,i+1,p,b,h,d=>by
  simp only[s9] at h
  simp only[E4,ma] at b
  have g:a.1≠p.1:=λe=>b.1 (by rw[e];exact IR<|T2 h);simp only[Wp,NV (l:=l) b.2 h d,d a g];omega
theorem jl{l k:Q0 (Int×Int)}(h:l.Perm k):Wp w l=Wp w k:=by
 induction h with
 | nil=>rfl
 | cons x _ a=>simp only[Wp,a]
 | swap x y l=>simp only[Wp];omega
 | trans _ _ b d=>rw[b,d]
theorem Nl{α:Type}:∀{l:Q0 α} {i:Nat} {x:α},l[i]? =some x->l.set i x=l
 | [],i,x,h=>by simp at h
 | a::l,0,x,h=>by simp at h;simp[h]
 | a::l,i+1,x,h=>by simp at h;simp[Nl h]
abbrev gg(h:Ca.ZY):Int×Int:=(h.C.Number,h.C.Place)
def EO(l:Q0 Ca.ZY):Q0 (Int×Int):=l.map gg
abbrev gI(f:Int->Int)(j:Nat)(p:Int×Int):Int:=if p.2=(j:Int) then f p.1 else 0
structure Bp(f:Int->Int)(all:List Ca.ZY)(B:Nat->Int)(M:Int):Prop where
 nd:(all.map (·.C.Number)).Nodup
 amt:∀(i:Nat) (h:Ca.ZY),all[i]? =some h->0<=f h.C.Number/\f h.C.Number<=h.C.Amount/\h.C.Room<=1073741824
 out:∀c,(∀h∈all,h.C.Number≠c)->f c=0
 bonds:∀j:Nat,j < 16->B j=Wp (gI f j) (EO all)
 made:M=Wp (λp=>f p.1) (EO all)
theorem uA(all:Q0 Ca.ZY):(EO all).map Prod.fst=all.map (·.C.Number):=by
 unfold EO;rw[lJ];rfl
theorem zy(h:all[i]? =some c):(EO all)[i]? =some (gg c):=by
 unfold EO;rw[x8,h];rfl
theorem gf:EO (all.set i c)=(EO all).set i (gg c):=by
 unfold EO;rw[iF]
section
variable{f:Int->Int}{all:Q0 Ca.ZY}{B:Nat->Int}{M:Int}(E:Bp f all B M)
include E
theorem Bp.inj{k:Nat}{d:Ca.ZY}(b:all[i]? =some c)(g:all[k]? =some d)(e:c.C.Number=d.C.Number):i=k:=by
 have a:=Ca.AF E.nd b;have h:=Ca.AF E.nd g;rw[e,h] at a
 simpa using a.symm
theorem Bp.rH{v:Int}(a:all[i]? =some c)(m:0<=v/\v<=c.C.Amount):Bp (λk=>if k==c.C.Number then v else f k) all (λj=>B j+if c.C.Place=(j:Int) then v - f c.C.Number else 0) (M+(v - f c.C.Number)):=by
 have n:∀(g:Int->Int) (q:Int×Int),q.1≠c.C.Number->(if q.1==c.C.Number then v else f q.1)=f q.1:=λ_ q h=>by rw[B1<|by simpa using h]
 refine⟨E.nd,λk d b=> ?_,λk o=> ?_,λj s=> ?_,?_⟩
 ·have r:=E.amt k d b;by_cases e:d.C.Number=c.C.Number
  ·have:=E.inj b a e;subst this;rw[a] at b
   simp only[W1] at b
   subst b;simp only[hF,B2];exact⟨m.1,m.2,r.2.2⟩
  ·rw[B1<|by simpa using e];exact r
 ·rw[B1,E.out k o];have:=o c<|T2 a;simpa using λe=>this e.symm
 ·rw[NV (w:=gI f j) (by rw[uA];exact E.nd) (zy a) (λq l=>by simp only[gI,n f q l]),<-E.bonds j s];simp only[gI,hF,B2];split<;>omega
 ·rw[NV (w:=λp=>f p.1) (by rw[uA];exact E.nd) (zy a) λq l=>n f q l,<-E.made];simp only[hF,B2];omega
theorem Bp.put{c':Ca.ZY}(a:all[i]? =some c)(b:c'.C.Number=c.C.Number)(g:c'.C.Place=c.C.Place∨f c.C.Number=0)(r:f c.C.Number<=c'.C.Amount)(s:c'.C.Room=c.C.Room):Bp f (all.set i c') B M:=by
 have l:i < all.length:=by
  rcases kn i all.length with h | h
  ·exact h
  ·rw[s8 h] at a;cases a
 have q:∀w:Int×Int->Int,w (gg c')=w (gg c)->Wp w (EO<|all.set i c')=Wp w (EO all):=λw e=>by
  rw[gf,Ip<|zy a,e];omega
 refine⟨?_,λk d n=> ?_,λk o=> ?_,λj t=> ?_,?_⟩
 ·have:(all.set i c').map (·.C.Number)=all.map (·.C.Number):=by
   rw[iF];refine Nl ?_;rw[x8,a,b];rfl
  rw[this];exact E.nd
 ·by_cases o:i=k
  ·subst o;rw[y0 l] at n
   simp only[W1] at n
   subst n;have:=E.amt i c a;rw[b,s];exact⟨this.1,r,this.2.2⟩
  ·rw[y1 o] at n
   exact E.amt k d n
 ·refine E.out k λh u=> ?_;obtain⟨m,p⟩:=lr u;by_cases e:i=m
  ·subst e;rw[a] at p
   simp only[W1] at p
   subst p;rw[<-b];exact o c'<|T2<|y0 l
  ·exact o h<|T2 (by rw[y1 e];exact p)
 ·rw[q _ ?_]
  ·exact E.bonds j t
  ·simp only[gI,b];rcases g with g | g
   ·rw[g]
   ·rw[g];split<;>split<;>rfl
 ·rw[q _<|by simp only[b]];exact E.made
theorem Bp.rk(d:Int):Bp f (all.map<|Ca.Jd d) B M:=by
 have a:∀h:Ca.ZY,(Ca.Jd d h).C.Number=h.C.Number/\(Ca.Jd d h).C.Place=h.C.Place/\(Ca.Jd d h).C.Amount=h.C.Amount/\(Ca.Jd d h).C.Room=h.C.Room:=λh=>by unfold Ca.Jd;split<;>exact⟨rfl,rfl,rfl,rfl⟩
 have e:EO (all.map<|Ca.Jd d)=EO all:=by
  unfold EO;rw[lJ];refine ov λh _=> ?_;simp only[Function.comp,gg,(a h).1,(a h).2.1]
 refine⟨?_,λk h b=> ?_,λc l=> ?_,λj m=>by rw[e];exact E.bonds j m,by rw[e];exact E.made⟩
 ·rw[lJ];have:((λh:Ca.ZY=>h.C.Number)∘Ca.Jd d)=λh=>h.C.Number:=funext λh=>(a h).1;rw[this];exact E.nd
 ·rw[x8] at b
  obtain⟨g,n,rfl⟩:=mY.1 b;rw[(a g).1,(a g).2.2.1,(a g).2.2.2];exact E.amt k g n
 ·refine E.out c λh b=> ?_;rw[<-(a h).1];exact l _<|IR b
theorem Bp.make{x:QE}(q:Ca.Jx all x.Cask=none)(u:x.Amount<=1073741824):Bp f (all++[Ca.Ow x]) B M:=by
 have g:∀h∈all,h.C.Number≠x.Cask:=λh d e=>by
  obtain⟨i,hi⟩:=lr d;have:=Ca.AF E.nd hi;rw[e,q] at this
  cases this
 have o:=E.out x.Cask g;have l:EO (all++[Ca.Ow x])=EO all++[(x.Cask,x.Where)]:=by simp[EO,Ca.Ow]
 refine⟨?_,λk h d=> ?_,λc r=>E.out c λh d=>r h (by simp[d]),λj s=> ?_,?_⟩
 ·rw[ob,List.nodup_append];refine⟨E.nd,by simp,?_⟩;intro a t b p e;obtain⟨h,d,rfl⟩:=rm.1 t;simp only[E4,oV,ts] at p
  subst p;exact g h d e
 ·rcases kn k all.length with m | m
  ·rw[u1 m] at d
   exact E.amt k h d
  ·rw[s5 m] at d
   have:h=Ca.Ow x:=by
    cases hi:k - all.length with
    | zero=>rw[hi] at d;simpa using d.symm
    | succ n=>rw[hi] at d;simp at d
   subst this;show 0<=f x.Cask/\f x.Cask<=0/\x.Amount<=_;omega
 ·rw[l,Tb,<-E.bonds j s];simp only[Wp,gI,o];split<;>omega
 ·rw[l,Tb,<-E.made];simp only[Wp,o];omega
end
theorem Bp.ext{f a:Int->Int}{B b:Nat->Int}{M d:Int}(E:Bp f all B M)(g:∀k,a k=f k)(h:∀j,j < 16->b j=B j)(l:d=M):Bp a all b d:=by
 have:a=f:=funext g;subst this;exact⟨E.nd,E.amt,E.out,λj e=>by rw[h j e];exact E.bonds j e,by rw[l];exact E.made⟩
theorem N1(h s:Ca.ZY)(n:Int):(Ca.Uc h s n).C.Number=h.C.Number/\(Ca.Uc h s n).C.Place=h.C.Place/\(Ca.Uc h s n).C.Amount=h.C.Amount+n/\(Ca.Uc h s n).C.Room=h.C.Room:=by
 unfold Ca.Uc;split<;>exact⟨rfl,rfl,rfl,rfl⟩
theorem Oz(h:Ca.ZY)(n:Int):(Ca.WE h n).C.Number=h.C.Number/\(Ca.WE h n).C.Place=h.C.Place/\(Ca.WE h n).C.Amount=h.C.Amount - n/\(Ca.WE h n).C.Room=h.C.Room:=by
 unfold Ca.WE;split
 ·rename_i e;exact⟨rfl,rfl,(by simpa using e:h.C.Amount - n=0).symm,rfl⟩
 ·exact⟨rfl,rfl,rfl,rfl⟩
end
section
open Go.Dec
variable{L L1:QA}{r:Qk}{b:Qz}{d:Int}
theorem Ca.go_app{day:Int}{x:Ca.Ev}(g:x.Day<=day):∀(l:Q0 Ca.Ev) (n:Nat) (s f a:Ca.D5),(∀y∈l,y.Day<=day)->Ca.HY day l n s=(.inl f,n+l.length)->Ca.VQ (n+l.length) f x= .inl a->Ca.HY day (l++[x]) n s=(.inl a,n+l.length+1)
 | [],n,s,f,a,_,h,c=>by
  simp only[Ca.HY,L0,x2] at h
  obtain⟨rfl,_⟩:=h;have c:Ca.VQ n s x= .inl a:=c;simp only[r7,Ca.HY,BY g,c];rfl
 | y::l,n,s,f,a,i,h,c=>by
  simp only[tO,Ca.HY,BY<|i y eF] at h ⊢
  have e:n+(y::l).length=n+1+l.length:=by simp;omega
  rw[e] at h c ⊢
  cases hs:Ca.VQ n s y with
  | inl j=>
   rw[hs] at h
   exact Ca.go_app g l (n+1) j f a (λz k=>i z<|by simp[k]) h c
  | inr q=>rw[hs] at h;simp at h
variable{cu:Ca.D5}
theorem Ca.go_day{a:Int}:∀(l:Q0 Ca.Ev) (n:Nat) (s:Ca.D5),(∀y∈l,y.Day<=d)->d<=a->Ca.HY a l n s=Ca.HY d l n s
 | [],_,_,_,_=>rfl
 | y::l,n,s,c,h=>by
  have e:=c y eF;simp only[Ca.HY,BY e,BY<|iG e h];cases Ca.VQ n s y with
  | inl f=>exact Ca.go_day l (n+1) f (λz g=>c z<|by simp[g]) h
  | inr q=>rfl
theorem Ex.AA{r:Ex.G8}{day:Int}{x:Ex.Ev}(f:x.Day<=day):∀(l:Q0 Ex.Ev) (n:Nat) (s a:Ex.D5) (k:Nat),(∀y∈l,y.Day<=day)->Ex.HY r day (l++[x]) n s=(.inl a,k)->
  ∃c,Ex.HY r day l n s=(.inl c,n+l.length)/\Ex.VQ r c x= .inl a/\k=n+l.length+1
 | [],n,s,a,k,_,h=>by
  simp only[r7,Ex.HY,BY f] at h
  refine⟨s,rfl,?_⟩;cases hs:Ex.VQ r s x with
  | inl c=>
   rw[hs] at h
   simp only[L0,x2] at h
   exact⟨by rw[h.1],h.2.symm⟩
  | inr e=>rw[hs] at h;simp at h
 | y::l,n,s,a,k,g,h=>by
  simp only[tO,Ex.HY,BY<|g y eF] at h ⊢
  cases hs:Ex.VQ r s y with
  | inl c=>
   rw[hs] at h
   obtain⟨i,j,m,o⟩:=Ex.AA f l (n+1) c a k (λz p=>g z<|by simp[p]) h;have e:n+(y::l).length=n+1+l.length:=by simp;omega
   rw[e];exact⟨i,j,m,o⟩
  | inr e=>rw[hs] at h;simp at h
theorem Ex.go_day{r:Ex.G8}{a:Int}:∀(l:Q0 Ex.Ev) (n:Nat) (s:Ex.D5),(∀y∈l,y.Day<=d)->d<=a->Ex.HY r a l n s=Ex.HY r d l n s
 | [],_,_,_,_=>rfl
 | y::l,n,s,c,h=>by
  have e:=c y eF;simp only[Ex.HY,BY e,BY<|iG e h];cases Ex.VQ r s y with
  | inl f=>exact Ex.go_day l (n+1) f (λz g=>c z<|by simp[g]) h
  | inr q=>rfl
structure BC(L:QA)(cu:Ca.D5):Prop where
 day:0<=L.day/\L.day<=65536
 days:∀y∈L.casks,y.Day<=L.day
 len:L.casks.length<=4096
 go:Ca.HY L.day L.casks 0 ⟨[],0⟩=(.inl cu,L.casks.length)
theorem BC.tT(h:BC L cu):Ca.JV L.casks L.day=(.inl<|Ca.R2 L.day cu,L.casks.length):=by
 unfold Ca.JV;rw[B1 (by have:=h.len;omega),B1<|by simpa using Ca.J3.2 h.day];unfold Ca.AK;rw[h.go]
theorem BC.later{a:QA}(h:BC L cu)(c:a.casks=L.casks)(f:L.day<=a.day)(g:a.day<=65536):BC a cu:=by
 refine⟨⟨by have:=h.day;omega,g⟩,λy e=> ?_,by rw[c];exact h.len,?_⟩
 ·rw[c] at e;have:=h.days y e;omega
 ·rw[c,Ca.go_day _ _ _ h.days f];exact h.go
theorem BC.step{x:QE}(h:BC L cu)(o:HD L x L1):∃c,BC L1 c/\Ca.M5 (Ca.R2 L.day cu) {x with Day:=L.day} L.casks.length c.all/\Ca.R2 L.day c=c.all/\Ca.Xa {x with Day:=L.day}=true:=by
 obtain⟨rfl,all,i,k,v,a,p,_⟩:=o
 have f:∀y∈L.casks++[{x with Day:=L.day}],y.Day<=L.day:=λy g=>by
  rcases mg.1 g with g | g
  ·exact h.days y g
  ·simp only[ts] at g;subst g;exact Of _
 have a:Ca.JV (L.casks++[{x with Day:=L.day}]) L.day=(.inl i,k):=a;unfold Ca.JV at a
 split at a
 ·cases a
 ·rename_i m;split at a
  ·cases a
  ·unfold Ca.AK at a
   cases n:Ca.HY L.day (L.casks++[{x with Day:=L.day}]) 0 ⟨[],0⟩ with
   | mk q s=>
    rw[n] at a
    cases q with
    | inr e=>cases a
    | inl t=>
     obtain⟨w,j,l⟩:=Ca.AA (day:=L.day) (x:={x with Day:=L.day}) (Of _) L.casks 0 _ t s h.days n;rw[dO] at j l
     rw[h.go] at j
     simp only[L0,x2,iX] at j
     subst j;obtain⟨_,_,l',e,u⟩:=Ca.Lu l;subst e;refine⟨⟨l',L.day⟩,⟨h.day,f,by show(L.casks++_).length<=4096;omega,?_⟩,u,?_,p⟩
     ·have:=Ca.go_app (day:=L.day) (x:={x with Day:=L.day}) (Of _) L.casks 0 _ _ _ h.days (by rw[dO];exact h.go) (by rw[dO];exact l);show Ca.HY L.day (L.casks++_) 0 _=_;rw[this];simp
     ·show l'.map (Ca.Jd<|L.day - L.day)=l';rw[eo,show Ca.Jd 0=id from funext λh=>Ca.S3,qAC]
structure BD(r:Qk)(L:QA)(b:Qz):Prop where
 days:∀y∈L.duties,y.Day<=L.day
 len:L.duties.length<=4096
 go:∃eu,Ex.HY r L.day L.duties 0 Ex.TH=(.inl eu,L.duties.length)/\eu.acc.B=b/\eu.day<=L.day
theorem BD.later{a:QA}(h:BD r L b)(c:a.duties=L.duties)(f:L.day<=a.day):BD r a b:=by
 obtain⟨g,i,j,k⟩:=h.go;exact⟨λy e=>by rw[c] at e;have:=h.days y e;omega,by rw[c];exact h.len,g,by rw[c,Ex.go_day _ _ _ h.days f];exact i,j,by omega⟩
theorem N8{t:Int}{s:Ex.Acc}(h:s.B.Moving=[]):(Ex.Uw r t d s).B=s.B:=by
 obtain⟨b,i,q⟩:=s;obtain⟨e,a,f,g,j,k,l,m,n,c⟩:=b;have h:a=[]:=h;subst h;simp[Ex.Uw,Ex.YW]
theorem BD.tT(h:BD r L b)(e:Ex.Xv r=true)(f:0<=L.day/\L.day<=65536)(g:b.Moving=[]):Da r L.duties L.day=(b,(L.duties.length:Int),0):=by
 obtain⟨a,i,c,_⟩:=h.go;unfold Da Ex.JV;rw[B1 (by simp[e]),B1 (by have:=h.len;omega),B1<|by simpa using Ex.J3.2 f];unfold Ex.AK;rw[i];show((Ex.Uw r a.day L.day a.acc).B,_,_)=_;rw[N8 (by rw[c];exact g),c]
theorem BD.step{x:QN}(h:BD r L b)(w:L.rules=some r)(z:Xk L x L1):∃s a,s.B=b/\0<=L.day/\Ex.VT r/\Ex.Xa {x with Day:=L.day}=true/\(∃t,t<=L.day/\Ex.DJ r (Ex.Uw r t L.day s) {x with Day:=L.day}= .inl a)/\BD r L1 a.B:=by
 obtain⟨rfl,I,g,he⟩:=z;rw[w] at g
 simp only[W1] at g
 subst g
 have i:∀y∈L.duties++[{x with Day:=L.day}],y.Day<=L.day:=λy j=>by
  rcases mg.1 j with j | j
  ·exact h.days y j
  ·simp only[ts] at j;subst j;exact Of _
 have he:(Ex.vy<|Ex.JV r (L.duties++[{x with Day:=L.day}]) L.day).2.2=0:=he;cases c:Ex.JV r (L.duties++[{x with Day:=L.day}]) L.day with
 | mk q k=>
  cases q with
  | inr e=>
   rw[c] at he
   have:=Ex.BI c;exact absurd he this
  | inl a0=>
   have l:=Ex.PZ c;obtain⟨o,_,m,_⟩:=Ex.GR c;unfold Ex.JV at c
   split at c
   ·simp at c
   ·split at c
    ·simp at c
    ·split at c
     ·simp at c
     ·unfold Ex.AK at c
      cases p:Ex.HY r L.day (L.duties++[{x with Day:=L.day}]) 0 Ex.TH with
      | mk q A=>
       rw[p] at c
       cases q with
       | inr e=>simp at c
       | inl C=>
        obtain⟨K,n,f,D⟩:=Ex.AA (day:=L.day) (x:={x with Day:=L.day}) (Of _) L.duties 0 _ C A h.days p;obtain⟨v,E,F,G⟩:=h.go;rw[dO] at n
        rw[E] at n
        simp only[L0,x2,iX] at n
        subst n;unfold Ex.VQ at f
        split at f
        ·cases f
        ·rename_i H;split at f
         ·cases f
         ·split at f
          ·rename_i a u;simp only[x2] at f
           subst f;refine⟨v.acc,a,F,m.1,o,by simpa using H,⟨v.day,G,u⟩,i,l,⟨a,L.day⟩,?_,rfl,Of _⟩;show Ex.HY r L.day (L.duties++_) 0 _=_;rw[p,D];simp
          ·cases f
structure Calm(b:Qz):Prop where
 mov:b.Moving=[]
 found:b.Found=0
 lost:b.Lost=0
 charged:b.Charged=0
 exported:b.Exported=0
section
variable{r:Qk}{L L1:QA}{b:Qz}{n p:Int}(h:BD r L b)(hL:L.rules=some r)(hb:Calm b)
include h hL hb
theorem BD.made(f:Xk L ⟨0,0,p,0,0,n⟩ L1):∃b',BD r L1 b'/\Calm b'/\(0<=p/\p<=15)/\b'.Bonds=ZB b.Bonds p.toNat (b.Bonds p.toNat+n)/\b'.Made=b.Made+n/\b'.Used=b.Used/\b'.Due=b.Due/\b'.Paid=b.Paid:=by
 obtain⟨s,a,hs,_,_,g,⟨t,_,c⟩,i⟩:=h.step hL f;have j:=N8 (r:=r) (t:=t) (d:=L.day) (s:=s) (by rw[hs];exact hb.mov);have e:=(Ex.GW g<|.inl rfl).1;have c:Ex.Df _ _= .inl a:=c;unfold Ex.Df at c
 split at c
 ·cases c
 ·simp only[x2] at c
  subst c;refine⟨_,i,⟨?_,?_,?_,?_,?_⟩,e,?_,?_,?_,?_,?_⟩<;>simp only[Ex.UT,Ex.Zq,j,hs,hb.mov,hb.found,hb.lost,hb.charged,hb.exported]
theorem BD.used(f:Xk L ⟨3,0,p,0,0,n⟩ L1):∃b',BD r L1 b'/\Calm b'/\(0<=p/\p<=15)/\b'.Bonds=ZB b.Bonds p.toNat (b.Bonds p.toNat - n)/\b'.Made=b.Made/\b'.Used=b.Used+n/\b'.Due=b.Due+Ex.WY r n L.day/\b'.Paid=b.Paid:=by
 obtain⟨s,a,hs,_,_,g,⟨t,_,c⟩,i⟩:=h.step hL f;have j:=N8 (r:=r) (t:=t) (d:=L.day) (s:=s) (by rw[hs];exact hb.mov);have e:=(Ex.GW g<|.inr<|.inl rfl).1;have c:Ex.GQ r _ _= .inl a:=c;unfold Ex.GQ at c
 split at c
 ·cases c
 ·simp only[x2] at c
  subst c;refine⟨_,i,⟨?_,?_,?_,?_,?_⟩,e,?_,?_,?_,?_,?_⟩<;>simp only[Ex.M8,Ex.UT,Ex.Zq,j,hs,hb.mov,hb.found,hb.lost,hb.charged,hb.exported]
theorem BD.nB(g:Xk L ⟨6,0,0,0,0,n⟩ L1):∃b',BD r L1 b'/\Calm b'/\b'.Bonds=b.Bonds/\b'.Made=b.Made/\b'.Used=b.Used/\b'.Due=b.Due/\b'.Paid=b.Paid+n/\n<=b.Due - b.Paid/\1<=n:=by
 obtain⟨s,a,hs,_,_,i,⟨t,_,e⟩,j⟩:=h.step hL g;have f:=N8 (r:=r) (t:=t) (d:=L.day) (s:=s) (by rw[hs];exact hb.mov);have e:Ex.qG _ _= .inl a:=e;unfold Ex.qG at e
 split at e
 ·cases e
 ·rename_i c;simp only[x2] at e
  subst e;rw[f,hs] at c
  have k:1<=n:=by
   have:Ex.W6 L.day 0 65536=true/\Ex.W6 n 1 72057594037927936=true:=by simpa[Ex.Xa] using i
   exact(Ex.J3.1 this.2).1
  refine⟨_,j,⟨?_,?_,?_,?_,?_⟩,?_,?_,?_,?_,?_,(by have c:¬n > b.Due - b.Paid:=c;omega),k⟩<;>simp only[f,hs,hb.mov,hb.found,hb.lost,hb.charged,hb.exported]
theorem BD.tt{F:QA}{q i:Int}(v:Xk L ⟨1,0,p,q,i,n⟩ L1)(K:Xk L1 ⟨2,0,q,0,i,n⟩ F)(M:p≠q):∃b',BD r F b'/\Calm b'/\(0<=p/\p<=15)/\(0<=q/\q<=15)/\b'.Bonds=ZB (ZB b.Bonds p.toNat<|b.Bonds p.toNat - n) q.toNat (b.Bonds q.toNat+n)/\b'.Made=b.Made/\b'.Used=b.Used/\b'.Due=b.Due/\b'.Paid=b.Paid:=by
 obtain⟨s,a,hs,h0,l,N,⟨t,_,f⟩,P⟩:=h.step hL v;have G:=N8 (r:=r) (t:=t) (d:=L.day) (s:=s) (by rw[hs];exact hb.mov);obtain⟨w,x,_,H⟩:=Ex.O9 N rfl;have w:0<=p/\p<=15:=w;have x:0<=q/\q<=15:=x;have H:1<=n/\n<=17179869184:=H;have z:L1.rules=some r:=by rw[v.rules];exact hL
 have m:L1.day=L.day:=by obtain⟨rfl,_⟩:=v;rfl
 obtain⟨A,I,o,_,_,Q,⟨R,S,e⟩,T⟩:=P.step z K;have f:Ex.RR _ _= .inl a:=f;unfold Ex.RR at f
 split at f
 ·cases f
 split at f
 ·cases f
 split at f
 ·cases f
 simp only[x2] at f
 have g:a.B.Moving=[⟨i,p,q,L.day,n⟩]:=by
  rw[<-f];show Ex.BN _ (Ex.Uw r t L.day s).B.Moving=_;rw[G,hs,hb.mov];rfl
 have C:a.B.Bonds=ZB b.Bonds p.toNat (b.Bonds p.toNat - n)/\a.B.Made=b.Made/\a.B.Used=b.Used/\a.B.Due=b.Due/\a.B.Paid=b.Paid/\a.B.Found=0/\a.B.Lost=0/\a.B.Charged=0/\a.B.Exported=0:=by
  rw[<-f];refine⟨?_,?_,?_,?_,?_,?_,?_,?_,?_⟩<;>simp only[Ex.UT,Ex.Zq,G,hs,hb.found,hb.lost,hb.charged,hb.exported]
 have V:0<=r.Transit:=l.transit.1
 have u:(Ex.Uw r R L1.day A).B=a.B:=by
  have j:A.B.Moving=[⟨i,p,q,L.day,n⟩]:=by rw[o];exact g
  have D:(decide<|L1.day < Ex.ZQ r ⟨i,p,q,L.day,n⟩)=true:=by
   rw[m];exact fl (by show L.day < L.day+r.Transit+1;omega)
  rw[<-o];obtain⟨c,ci,cs⟩:=A;obtain⟨b1,W,b3,b4,b5,b6,b7,b8,b9,X⟩:=c;have j:W=[⟨i,p,q,L.day,n⟩]:=j;subst j;simp[Ex.Uw,Ex.YW,D]
 have e:Ex.Fi r _ _= .inl I:=e;unfold Ex.Fi at e
 rw[u,g] at e
 simp only[mx,hF] at e
 split at e
 ·cases e
 split at e
 ·cases e
 simp only[x2] at e
 obtain⟨Y,Z,f3,f4,f5,f6,f7,f8,f9⟩:=C;have z1:imax 0 0=0:=rfl;have z2:∀y:Int,0<=y->Je 0 y=0:=λy hy=>by unfold Je;split<;>omega
 have k:0<=n*r.Loss / 10000:=oB (n2 eB l.loss.1) eB;have E:b.Bonds q.toNat=ZB b.Bonds p.toNat (b.Bonds p.toNat - n) q.toNat:=(Ex.UR eB).symm;refine⟨I.B,T,⟨?_,?_,?_,?_,?_⟩,w,x,?_,?_,?_,?_,?_⟩<;>rw[<-e]<;>simp only[Ex.O3,Ex.BJ,Ex.UT,Ex.Zq,u,g,Y,Z,f3,f4,f5,f6,f7,f8,f9,z1,z2 _ k,Ex.WY,eo,Int.zero_mul,iH,Int.zero_ediv,E];simp
end
end
section
open Go.Dec
variable{L L1:QA}{r:Qk}{b:Qz}{n:Int}
def Ad:Q0 QN->Int
 | []=>0
 | x::l=>(if x.Kind==6 then x.Amount else 0)+Ad l
theorem j6(l:Q0 QN)(x:QN):Ad (l++[x])=Ad l+if x.Kind==6 then x.Amount else 0:=by
 induction l with
 | nil=>simp[Ad]
 | cons y l a=>simp only[tO,Ad,a];omega
def Fm(l:Q0 QE):Q0 Int:=(l.filter λx=>x.Kind==0).map (·.Cask)
theorem kA(l:Q0 QE)(x:QE):Fm (l++[x])=if x.Kind==0 then Fm l++[x.Cask] else Fm l:=by
 unfold Fm;rw[List.filter_append,ob];cases h:x.Kind==0<;>simp[h]
structure DS(r:Qk)(L:QA)(b:Qz):Prop where
 rules:L.rules=some r
 day:0<=L.day
 bd:BD r L b
 calm:Calm b
 pays:b.Paid=Ad L.duties
 least:0<=b.Used/\0<=b.Paid
 due:∀k:Int,0<=k->(∀n d,0<=d->Ex.WY r n d=k*n)->b.Due=k*b.Used/\b.Paid<=b.Due
theorem DS.later{a:QA}(h:DS r L b)(d:a.rules=L.rules)(c:a.duties=L.duties)(e:L.day<=a.day):DS r a b:=⟨by rw[d,h.rules],by have:=h.day;omega,h.bd.later c e,h.calm,by rw[c];exact h.pays,h.least,h.due⟩
theorem Xk.pays{x:QN}(h:Xk L x L1):Ad L1.duties=Ad L.duties+if x.Kind==6 then x.Amount else 0:=by
 obtain⟨rfl,_⟩:=h;exact j6 _ _
structure y8(L L1:QA):Prop where
 casks:L1.casks=L.casks
 day:L1.day=L.day
 pure:∀k,Zb L1 k=Zb L k
theorem Xk.same{x:QN}(h:Xk L x L1):y8 L L1:=by
 obtain⟨rfl,_⟩:=h;exact⟨rfl,rfl,λ_=>rfl⟩
theorem y8.trans{a:QA}(h:y8 L L1)(k:y8 L1 a):y8 L a:=⟨by rw[k.casks,h.casks],by rw[k.day,h.day],λj=>by rw[k.pure,h.pure]⟩
section
variable{r:Qk}{L L1:QA}{b:Qz}{n p:Int}(h:DS r L b)
include h
theorem DS.made(a:Xk L ⟨0,0,p,0,0,n⟩ L1):∃b',DS r L1 b'/\(∀j:Nat,b'.Bonds j=b.Bonds j+if p=(j:Int) then n else 0)/\b'.Made=b.Made+n/\b'.Used=b.Used:=by
 obtain⟨b',f,g,s,i,l,c,m,d⟩:=h.bd.made h.rules h.calm a;refine⟨b',⟨by rw[a.rules,h.rules],by rw[a.same.day];exact h.day,f,g,?_,by rw[c,d];exact h.least,λk o q=>by rw[c,m,d];exact h.due k o q⟩,λj=> ?_,l,c⟩
 ·rw[d,a.pays,h.pays];simp
 ·rw[i];by_cases e:p=(j:Int)
  ·subst e;rw[BY rfl,hR,Ex.VJ]
  ·rw[B1 e,Ex.UR eB];omega
theorem DS.used(a:Xk L ⟨3,0,p,0,0,n⟩ L1)(l:0<=n):∃b',DS r L1 b'/\(∀j:Nat,b'.Bonds j=b.Bonds j - if p=(j:Int) then n else 0)/\b'.Made=b.Made/\b'.Used=b.Used+n:=by
 obtain⟨b',m,o,v,q,s,c,t,d⟩:=h.bd.used h.rules h.calm a;refine⟨b',⟨by rw[a.rules,h.rules],by rw[a.same.day];exact h.day,m,o,?_,by rw[c,d];have:=h.least;omega,λk f g=> ?_⟩,λj=> ?_,s,c⟩
 ·rw[d,a.pays,h.pays];simp
 ·obtain⟨i,u⟩:=h.due k f g;have:=n2 f l;rw[c,t,d,g _ _ h.day,i,iR];rw[i] at u
  exact⟨rfl,by omega⟩
 ·rw[q];by_cases e:p=(j:Int)
  ·subst e;rw[BY rfl,hR,Ex.VJ]
  ·rw[B1 e,Ex.UR eB];omega
theorem DS.nB(a:Xk L ⟨6,0,0,0,0,n⟩ L1):∃b',DS r L1 b'/\b'.Bonds=b.Bonds/\b'.Made=b.Made/\b'.Used=b.Used:=by
 obtain⟨b',e,f,g,i,c,j,d,q,s⟩:=h.bd.nB h.rules h.calm a;refine⟨b',⟨by rw[a.rules,h.rules],by rw[a.same.day];exact h.day,e,f,?_,by rw[c,d];have:=h.least;omega,λk l m=> ?_⟩,g,i,c⟩
 ·rw[d,a.pays,h.pays];simp
 ·obtain⟨o,t⟩:=h.due k l m;rw[c,j,d];exact⟨o,by omega⟩
theorem DS.tt{q:Int}(i:Aq L p q n L1):∃b',DS r L1 b'/\(∀j:Nat,b'.Bonds j=b.Bonds j - (if p=(j:Int) then n else 0)+if q=(j:Int) then n else 0)/\b'.Made=b.Made/\b'.Used=b.Used/\y8 L L1:=by
 cases i with
 | stay hs=>
  refine⟨b,h,λj=> ?_,rfl,rfl,rfl,rfl,λ_=>rfl⟩;rcases hs with hs | hs
  ·subst hs;simp
  ·subst hs;omega
 | go y l L1 d a c=>
  have hs:=a.same.trans c.same;have hi:L1.ids=L.ids:=by obtain⟨rfl,_⟩:=a;rfl
  rw[hi] at c
  obtain⟨b',m,o,z,s,t,u,f,v,g⟩:=h.bd.tt h.rules h.calm a c l;refine⟨b',⟨by show d.rules=_;rw[c.rules,a.rules,h.rules],by show 0<=d.day;rw[hs.day];exact h.day,m.later rfl<|Of _,o,?_,by rw[f,g];exact h.least,λk w x=>by rw[f,v,g];exact h.due k w x⟩,λj=> ?_,u,f,hs.casks,hs.day,hs.pure⟩
  ·show b'.Paid=Ad d.duties;rw[g,c.pays,a.pays,h.pays];simp
  ·rw[t];by_cases e:q=(j:Int)
   ·subst e;rw[hR,Ex.VJ,B1 eB,BY rfl];omega
   ·rw[B1 e,Ex.UR eB];by_cases e:p=(j:Int)
    ·subst e;rw[BY rfl,hR,Ex.VJ];omega
    ·rw[B1 e,Ex.UR eB];omega
end
structure PJ(r:Qk)(L:QA)(cu:Ca.D5)(b:Qz):Prop where
 rok:Ex.Xv r=true
 ds:DS r L b
 bc:BC L cu
 nums:cu.all.map (·.C.Number)=Fm L.casks
 ev:Bp (Zb L) cu.all b.Bonds (b.Made - b.Used)
theorem yE{l l' :Q0 Ca.ZY}{x:QE}(h:Ca.M5 l x n l'):l'.map (·.C.Number)=if x.Kind==0 then l.map (·.C.Number)++[x.Cask] else l.map (·.C.Number):=by
 have hs:∀(l:Q0 Ca.ZY) {i:Nat} {c c' :Ca.ZY},l[i]? =some c->c'.C.Number=c.C.Number->(l.set i c').map (·.C.Number)=l.map (·.C.Number):=λl i c c' g e=>by
  rw[iF];refine Nl ?_;rw[x8,g,e];rfl
 cases h with
 | make k f n=>rw[BY<|by simp[k]];simp[Ca.Ow]
 | fill k i c f h r=>rw[B1<|by simp[k]];exact hs l h (N1 _ _ _).1
 | rack k i c f h j o m h' ne p d q a r=>
  rw[B1 (by simp[k]),hs _ (by rw[y1<|iu ne];exact h) (Oz _ _).1];exact hs l h' (N1 _ _ _).1
 | drain k i c f h d a=>rw[B1<|by simp[k]];exact hs l h (Oz _ _).1
 | carry k i c f h=>rw[B1<|by simp[k]];exact hs l h rfl
 | sell k i c f h o d t=>rw[B1<|by simp[k]];exact hs l h rfl
 | pledge k i c f h o d=>rw[B1<|by simp[k]];exact hs l h rfl
 | free k i c f h d=>rw[B1<|by simp[k]];exact hs l h rfl
 | char k i c f h a=>rw[B1<|by simp[k]];exact hs l h rfl
structure dX(r:Qk)(L L1:QA)(b:Qz)(x:QE)(l:List Ca.ZY)(cu' :Ca.D5):Prop where
 ds:DS r L1 b
 bc:BC L1 cu'
 nums:cu'.all.map (·.C.Number)=Fm L1.casks
 ev:Bp (Zb L1) l b.Bonds (b.Made - b.Used)
 evd:Ca.M5 l {x with Day:=L.day} L.casks.length cu'.all
 ok:Ca.Ar L.day L.casks.length l
 fine:Ca.Xa {x with Day:=L.day}=true
 at0:∀{i:Nat} {c:Ca.ZY} {num:Int},Ca.Jx l num=some i->l[i]? =some c->atR L num=(c.C,0)/\c.C.Number=num
 at1:∀{i:Nat} {c:Ca.ZY} {num:Int},Ca.Jx cu'.all num=some i->cu'.all[i]? =some c->atR L1 num=(c.C,0)
theorem PJ.sV{j:Ca.D5}{x:QE}(h:PJ r L j b)(l:HD L x L1):∃a,dX r L L1 b x (Ca.R2 L.day j) a:=by
 obtain⟨a,m,o,p,q⟩:=h.bc.step l;have d:L1={L with casks:=L.casks++[{x with Day:=L.day}]}:=l.1;refine⟨a,?_,m,?_,?_,o,(Ca.GR h.bc.tT).1,q,λf g=> ?_,fun{i} {c} {num} f g=> ?_⟩
 ·rw[d];exact h.ds.later rfl rfl<|Of _
 ·rw[yE o]
  have e:(Ca.R2 L.day j).map (·.C.Number)=Fm L.casks:=by
   rw[<-h.nums];unfold Ca.R2;rw[lJ];refine ov λc _=> ?_;simp only[Function.comp];unfold Ca.Jd;split<;>rfl
  rw[e,d];exact(kA _ _).symm
 ·rw[d];exact h.ev.rk _
 ·obtain⟨c',k,e⟩:=Ca.FT f;rw[g] at k
  simp only[W1] at k
  subst k;exact⟨Ca.R8 h.bc.tT f g,e⟩
 ·have s:L1.day=L.day:=by rw[d]
  refine Ca.R8 m.tT (i:=i) ?_ ?_<;>rw[s,p]
  ·exact f
  ·exact g
theorem EK{c:ZR}{p:Int}(j:0<=Zb L c.Number/\Zb L c.Number<=c.Amount/\c.Amount<=1073741824)(l:1<=n/\n<=c.Amount)(h:Ae L c n=some p):0<=p/\p<=Zb L c.Number/\p<=n/\Zb L c.Number - p<=c.Amount - n:=by
 unfold Ae at h
 generalize Zb L c.Number=f at*
 generalize c.Amount=A at*
 obtain⟨g,m,o⟩:=j;split at h
 ·rename_i e;have e:n=A:=by simpa using e
  simp only[W1] at h
  omega
 ·have i:0<=f*n:=n2 g eB;have q:f*n<=1073741824*1073741824:=ep eB eB eB eB;have k:Q8 (f*n)=f*n:=Qo eB eB;obtain⟨s,a⟩:=gY h;rw[k,mf i] at a
  have t:0<=f*n / A:=oB i eB;have u:f*n / A<=f:=iy eB (fm eB g);have v:f*n / A<=n:=iy eB (by rw[Int.mul_comm f n];exact fm eB eB)
  have w:f+n - A<=f*n / A:=Int.le_ediv_of_mul_le eB (by
   have:=n2 (show 0<=A - f by omega) (show 0<=A - n by omega);simp only[Int.sub_mul,Int.mul_sub,Int.add_mul] at this ⊢
   rw[Int.mul_comm A n] at this
   omega)
  have d:IntKind.i64.wrap (f*n / A)=f*n / A:=Qo eB eB;rw[d] at a
  subst a;omega
end
section
open Go.Dec
variable{r:Qk}{L L':QA}{b:Qz}{n:Int}{w:Q0 H1}{ns:Q0 Int}{cu:Ca.D5}
theorem OX{α:Type}{l:Q0 α}{i:Nat}{c c' :α}(h:l[i]? =some c):(l.set i c')[i]? =some c' :=y0 (by
 rcases kn i l.length with k | k
 ·exact k
 ·rw[s8 k] at h;cases h)
theorem Bp.keep{f:Int->Int}{l l' :Q0 Ca.ZY}{B:Nat->Int}{M:Int}{x:QE}(E:Bp f l B M)(h:Ca.M5 l x n l')(m:x.Kind≠2/\x.Kind≠3/\x.Kind≠4)(a:x.Kind=0->x.Amount<=1073741824)(d:x.Kind=1->0<=x.Amount):Bp f l' B M:=by
 cases h with
 | make k f n=>exact E.make f (a k)
 | fill k i c f h r=>
  obtain⟨e,g,o,j⟩:=N1 c (Ca.BQ n) x.Amount;have:=E.amt i c h;have:=d k;exact E.put h e (.inl g) eB j
 | rack k=>omega
 | drain k=>omega
 | carry k=>omega
 | sell k i c f h=>exact E.put h rfl (.inl rfl) (E.amt i c h).2.1 rfl
 | pledge k i c f h=>exact E.put h rfl (.inl rfl) (E.amt i c h).2.1 rfl
 | free k i c f h=>exact E.put h rfl (.inl rfl) (E.amt i c h).2.1 rfl
 | char k i c f h=>exact E.put h rfl (.inl rfl) (E.amt i c h).2.1 rfl
theorem Dd{s:Int}(a:0<=n/\n<=1099511627776)(hs:1<=s/\s<=10000):Um n s=n*s / 10000/\0<=n*s / 10000/\n*s / 10000<=n:=by
 have c:0<=n*s:=n2 a.1 eB;have e:n*s<=n*10000:=fm hs.2 a.1;have d:Q8 (n*s)=n*s:=Qo eB eB;unfold Um;rw[d,mf c];generalize n*s=m at*
 exact⟨Qo eB eB,by omega,by omega⟩
section
variable{r:Qk}{L L1 L2:QA}{cu:Ca.D5}{b:Qz}(h:PJ r L cu b)
include h
theorem PJ.later(d:L1.rules=L.rules)(a:L1.casks=L.casks)(e:L1.duties=L.duties)(c:L.day<=L1.day)(f:L1.day<=65536)(g:∀k,Zb L1 k=Zb L k):PJ r L1 cu b:=⟨h.rok,h.ds.later d e c,h.bc.later a c f,by rw[a];exact h.nums,h.ev.ext g (λ_ _=>rfl) rfl⟩
theorem PJ.keep{x:QE}(c:HD L x L1)(d:x.Kind≠2/\x.Kind≠3/\x.Kind≠4)(f:x.Kind=0->x.Amount<=1073741824):∃a,PJ r L1 a b:=by
 obtain⟨a,Q⟩:=h.sV c;exact⟨a,h.rok,Q.ds,Q.bc,Q.nums,Q.ev.keep Q.evd d f λe=>by have:=(Ca.De Q.fine<|.inl e).1;omega⟩
theorem PJ.fill{c s:Int}(hs:1<=s/\s<=10000)(A:HD L ⟨1,0,c,0,0,0,n,0⟩ L1)(d:Xk L1 ⟨0,0,(atR L1 c).1.Place,0,0,Um n s⟩ L2):∃o b',PJ r (Wa L2 c<|Q8<|Zb L2 c+Um n s) o b'/\b'.Made=b.Made+Um n s:=by
 obtain⟨⟨u,t'⟩,Q⟩:=h.sV A;have B:1<=n/\n<=1099511627776:=Ca.De Q.fine<|.inl rfl;obtain⟨E,F,G⟩:=Dd (n:=n) (s:=s) ⟨by omega,B.2⟩ hs;rw[<-E] at F G
 generalize Um n s=q at*
 have x:Bp (Zb L1) u b.Bonds (b.Made - b.Used):=Q.ev.keep Q.evd eF eF λ_=>by show 0<=n;omega
 have H:Ca.M5 (Ca.R2 L.day cu) _ _ u:=Q.evd;cases H with
 | make k=>cases k
 | rack k=>cases k
 | drain k=>cases k
 | carry k=>cases k
 | sell k=>cases k
 | pledge k=>cases k
 | free k=>cases k
 | char k=>cases k
 | fill k i a f g y=>
  obtain⟨m,I,K,S⟩:=N1 a (Ca.BQ L.casks.length) n;have p:=OX (c' :=Ca.Uc a (Ca.BQ L.casks.length) n) g;have l:a.C.Number=c:=(Q.at0 f g).2;have t:=Q.at1 (num:=c) (by rw[<-l,<-m];exact Ca.AF x.nd p) p;rw[t] at d
  obtain⟨b',D,M,z,N⟩:=Q.ds.made d;have P:=Q.ev.amt i a g;rw[l] at P
  have y:a.C.Amount+n<=a.C.Room:=y;have e:=d.same;have R:Q8 (Zb L2 c+q)=Zb L1 c+q:=by rw[e.pure];exact Qo eB eB
  refine⟨_,b',⟨h.rok,D.later rfl rfl<|Of _,Q.bc.later e.casks (by show L1.day<=L2.day;rw[e.day];exact Of _) (by show L2.day<=_;rw[e.day];exact Q.bc.day.2),by show _=Fm L2.casks;rw[e.casks];exact Q.nums,?_⟩,z⟩;refine(x.rH p (v:=Zb L1 c+q) ⟨by omega,by rw[K];omega⟩).ext (λk=> ?_) (λj _=> ?_) ?_
  ·rw[BH,R,m,l,e.pure]
  ·rw[M,m,l,I];split<;>omega
  ·rw[z,N,m,l];omega
theorem PJ.rack{a c p:Int}(N:HD L ⟨2,0,a,c,0,0,n,0⟩ L1)(F:Ae L1 (atR L a).1 n=some p)(A:Aq L1 (atR L a).1.Place (atR L c).1.Place p L2):∃B b',PJ r (Wa (Wa L2 a<|Q8<|Zb L2 a - p) c<|Q8<|Zb (Wa L2 a<|Q8<|Zb L2 a - p) c+p) B b'/\b'.Made=b.Made:=by
 obtain⟨⟨P,t'⟩,Q⟩:=h.sV N;have R:1<=n/\n<=1099511627776:=Ca.De Q.fine<|.inr<|.inl rfl;have S:Ca.M5 (Ca.R2 L.day cu) _ _ P:=Q.evd;cases S with
 | make k=>cases k
 | fill k=>cases k
 | drain k=>cases k
 | carry k=>cases k
 | sell k=>cases k
 | pledge k=>cases k
 | free k=>cases k
 | char k=>cases k
 | rack k i l f g j o T y ne ow c1 c2 am G=>
  obtain⟨t,q⟩:=Q.at0 f g;obtain⟨m,d⟩:=Q.at0 T y;have q:l.C.Number=a:=q;have d:o.C.Number=c:=d;have t:atR L a=_:=t;have m:atR L c=_:=m;rw[t] at F A
  rw[m] at A
  have V:=Q.ev.amt i l g;have W:=Q.ev.amt j o y;have am:n<=l.C.Amount:=am;have G:o.C.Amount+n<=o.C.Room:=G;have hk:=(Q.ok.each l<|T2 g).amt.2;obtain⟨p0,X,p2,Y⟩:=EK (L:=L1) (c:=l.C) eB ⟨R.1,am⟩ F;rw[q] at V X Y
  rw[d] at W
  have E:c≠a:=λe=>ne (Q.ev.inj g y<|by rw[q,d,e]);obtain⟨b',D,Z,H,hU,u⟩:=Q.ds.tt A;obtain⟨l1,l2,l3,l4⟩:=Oz l n;obtain⟨z,I,s3,s4⟩:=N1 o l n;have E1:=Q.ev.rH g (v:=Zb L1 a - p) ⟨by omega,by omega⟩;have E2:=E1.put g l1 (.inl l2) (by simp only[q,hF,B2];omega) l4;have K:((Ca.R2 L.day cu).set i<|Ca.WE l n)[j]? =some o:=by rw[y1 ne];exact y
  have s:(c==a)=false:=by simpa using E
  have E3:=E2.put K z (.inl I) (by rw[q,d,s];simp only[W2,Bm];omega) s4;have M:=E3.rH (OX K) (v:=Zb L1 c+p) ⟨by omega,by omega⟩;have w1:Q8 (Zb L2 a - p)=Zb L1 a - p:=by rw[u.pure];exact Qo eB eB
  have w2:Q8 (Zb (Wa L2 a<|Q8<|Zb L2 a - p) c+p)=Zb L1 c+p:=by
   rw[BH,s,B1 eF,u.pure];exact Qo eB eB
  have x:((Ca.R2 L.day cu).set i<|Ca.WE l n).set j (Ca.Uc o l n)=((Ca.R2 L.day cu).set j<|Ca.Uc o l n).set i (Ca.WE l n):=List.set_comm _ _ ne;rw[x] at M
  refine⟨_,b',⟨h.rok,D.later rfl rfl<|Of _,Q.bc.later u.casks (by show L1.day<=L2.day;rw[u.day];exact Of _) (by show L2.day<=_;rw[u.day];exact Q.bc.day.2),by show _=Fm L2.casks;rw[u.casks];exact Q.nums,?_⟩,H⟩;refine M.ext (λk=> ?_) (λj _=> ?_) ?_
  ·rw[w2,BH,BH,w1,z,q,d,u.pure]
  ·rw[Z,z,I,q,d,s];simp only[W2,Bm];split<;>split<;>omega
  ·rw[H,hU,z,q,d,s];simp only[W2,Bm];omega
theorem PJ.carry{a p:Int}(t:HD L ⟨4,0,a,0,0,0,0,p⟩ L1)(q:Aq L1 (atR L a).1.Place p (Zb L1 a) L2):∃o b',PJ r L2 o b'/\b'.Made=b.Made:=by
 obtain⟨⟨u,t'⟩,Q⟩:=h.sV t;have x:Ca.M5 (Ca.R2 L.day cu) _ _ u:=Q.evd;cases x with
 | make k=>cases k
 | fill k=>cases k
 | rack k=>cases k
 | drain k=>cases k
 | sell k=>cases k
 | pledge k=>cases k
 | free k=>cases k
 | char k=>cases k
 | carry k i c f g=>
  obtain⟨d,l⟩:=Q.at0 f g;have l:c.C.Number=a:=l;have d:atR L a=_:=d;rw[d] at q
  have y:=Q.ev.amt i c g;rw[l] at y
  obtain⟨b',D,z,s,A,m⟩:=Q.ds.tt q;have B:=Q.ev.rH g (v:=0) ⟨by omega,by omega⟩;have E:=B.put (c' :={c with C:={c.C with Place:=p}}) g rfl (.inr eF) (by simp only[hF,B2];omega) rfl;have F:=E.rH (OX g) (v:=Zb L1 a) ⟨by omega,by show _<=c.C.Amount;omega⟩;refine⟨_,b',⟨h.rok,D,Q.bc.later m.casks (by rw[m.day];exact Of _) (by rw[m.day];exact Q.bc.day.2),by rw[m.casks];exact Q.nums,?_⟩,s⟩;refine F.ext (λk=> ?_) (λj _=> ?_) ?_
  ·rw[m.pure];show _=if k==c.C.Number then _ else _
   rw[l];by_cases e:k=a
   ·subst e;simp
   ·simp[e]
  ·rw[z];show _=b.Bonds j+(if c.C.Place=(j:Int) then 0 - Zb L1 c.C.Number else 0)+(if p=(j:Int) then Zb L1 a - (if c.C.Number==c.C.Number then 0 else _) else 0);rw[l];simp only[hF,B2];split<;>split<;>omega
  ·rw[s,A];show _=b.Made - b.Used+(0 - Zb L1 c.C.Number)+(Zb L1 a - (if c.C.Number==c.C.Number then 0 else _));rw[l];simp only[hF,B2];omega
theorem PJ.rS{num:Int}{q:Qr}(a:Fw L num n=some (.ok (q,L2))):∃x b',PJ r L2 x b'/\b'.Made=b.Made:=by
 unfold Fw at a
 obtain⟨_,a⟩:=J6 a;obtain⟨L1,E,a⟩:=J5 a;obtain⟨p,z,a⟩:=If.1 a;obtain⟨Z,m,a⟩:=J5 a;obtain⟨_,_,a⟩:=If.1 a;obtain⟨_,_,a⟩:=If.1 a;simp only[W1,Out.ok.injEq,L0] at a
 obtain⟨_,rfl⟩:=a;have F:=X7 h.bc.days E;obtain⟨⟨G,t'⟩,Q⟩:=h.sV F;have H:1<=n/\n<=1099511627776:=Ca.De Q.fine<|.inr<|.inr rfl;have I:Ca.M5 (Ca.R2 L.day cu) _ _ G:=Q.evd;cases I with
 | make k=>cases k
 | fill k=>cases k
 | rack k=>cases k
 | carry k=>cases k
 | sell k=>cases k
 | pledge k=>cases k
 | free k=>cases k
 | char k=>cases k
 | drain k i s f g c1 am=>
  obtain⟨o,l⟩:=Q.at0 f g;have l:s.C.Number=num:=l;have o:atR L num=_:=o;rw[o] at z m
  have K:=Q.ev.amt i s g;have am:n<=s.C.Amount:=am;have hk:=(Q.ok.each s<|T2 g).amt.2;obtain⟨M,N,p2,P⟩:=EK (L:=L1) (c:=s.C) eB ⟨H.1,am⟩ z;rw[l] at K N P
  obtain⟨R,l2,l3,S⟩:=Oz s n;have T:=Q.ev.rH g (v:=Zb L1 num - p) ⟨by omega,by omega⟩;have A:=T.put g R (.inl l2) (by simp only[l,hF,B2];omega) S;unfold C7 at m
  split at m
  ·obtain⟨u,V,m⟩:=J5 m;simp only[W1,Out.ok.injEq] at m
   subst m;have d:=BV V;obtain⟨b',D,W,B,X⟩:=Q.ds.used d M;have t:=d.same;have Y:Q8 (Zb u num - p)=Zb L1 num - p:=by rw[t.pure];exact Qo eB eB
   refine⟨_,b',⟨h.rok,D.later rfl rfl<|Of _,Q.bc.later t.casks (by show L1.day<=u.day;rw[t.day];exact Of _) (by show u.day<=_;rw[t.day];exact Q.bc.day.2),by show _=Fm u.casks;rw[t.casks];exact Q.nums,?_⟩,B⟩;refine A.ext (λk=> ?_) (λj _=> ?_) ?_
   ·rw[BH,Y,l,t.pure]
   ·rw[W,l];split<;>omega
   ·rw[B,X,l];omega
  ·simp only[W1,Out.ok.injEq] at m
   subst m;have y:p=0:=by omega
   subst y;refine⟨_,b,⟨h.rok,Q.ds,Q.bc,Q.nums,A.ext (λk=> ?_) (λj _=> ?_) ?_⟩,rfl⟩
   ·rw[l];by_cases e:k=num
    ·subst e;simp
    ·simp[e]
   ·rw[l];split<;>omega
   ·rw[l];omega
end
theorem PJ.rq:∀(ps:Q0 (Int×Int)) {x y:QU} {L c:QA} {cu:Ca.D5} {b:Qz},PJ r L cu b->Gt ps x L=some (.ok (y,c))->∃d b',PJ r c d b'/\b'.Made=b.Made
 | [],x,y,L,c,cu,b,h,a=>by
  simp only[Gt,W1,Out.ok.injEq,L0] at a
  obtain⟨_,rfl⟩:=a;exact⟨cu,b,h,rfl⟩
 | p::ps,x,y,L,c,cu,b,h,a=>by
  unfold Gt at a
  obtain⟨⟨q,m⟩,e,a⟩:=J5 a;obtain⟨_,a⟩:=Wj a;obtain⟨o,s,f,g⟩:=h.rS e;obtain⟨i,j,k,l⟩:=PJ.rq ps f a;exact⟨i,j,k,by rw[l,g]⟩
def ML(w:Q0 H1):Q0 Int->Int
 | [_,n,s]=>if w=Hu then n*s / 10000 else 0
 | _=>0
theorem SG(h:w≠Hu):ML w ns=0:=by
 unfold ML;split
 ·rw[B1 h]
 ·rfl
theorem PJ.nQ{q:Q0 H1}(h:PJ r L cu b)(E:Deed L w ns q L'):∃f b',PJ r L' f b'/\b'.Made=b.Made+ML w ns:=by
 have g:∀{w:Q0 H1},w∈AS->ML w ns=0:=λi=>SG λe=>by subst e;revert i;decide
 have day:L.day<=65536:=h.bc.day.2;cases E with
 | day d F I=>
  exact⟨cu,b,h.later rfl rfl rfl I F λ_=>rfl,by rw[SG eT];omega⟩
 | rules a c d ns ps l A F=>rw[h.ds.rules] at A;cases A
 | make w i c v p m o k t j=>
  obtain⟨f,h'⟩:=h.keep j eF λ_=>t;exact⟨f,b,h',by rw[g i];omega⟩
 | fill0 c n s k hs j l=>
  obtain⟨f,h'⟩:=h.keep j eF eF;obtain⟨_,Q⟩:=h.sV j;have y:1<=n/\n<=1099511627776:=Ca.De Q.fine<|.inl rfl;obtain⟨B,K,M⟩:=Dd (n:=n) (s:=s) ⟨by omega,y.2⟩ hs;refine⟨f,b,h',?_⟩;show b.Made=b.Made+if Hu=Hu then n*s / 10000 else 0
  rw[BY rfl];rw[B] at l
  omega
 | fill c n s k G hs j l d=>
  obtain⟨_,Q⟩:=h.sV j;have y:1<=n/\n<=1099511627776:=Ca.De Q.fine<|.inl rfl;obtain⟨B,K,M⟩:=Dd (n:=n) (s:=s) ⟨by omega,y.2⟩ hs;obtain⟨f,b',h',e⟩:=h.fill hs j d;refine⟨f,b',h',?_⟩;show b'.Made=b.Made+if Hu=Hu then n*s / 10000 else 0
  rw[BY rfl,e,B]
 | rack w i a c n p k G j l t=>
  obtain⟨f,b',h',e⟩:=h.rack j l t;exact⟨f,b',h',by rw[e,g i];omega⟩
 | carry w i a p k _ j t=>
  obtain⟨f,b',h',e⟩:=h.carry j t;exact⟨f,b',h',by rw[e,g i];omega⟩
 | keep w i ns x k N j=>
  obtain⟨f,h'⟩:=h.keep j ⟨by omega,by omega,by omega⟩ λe=>by omega
  exact⟨f,b,h',by rw[g i];omega⟩
 | stamps w i ns x k N P hs=>
  obtain⟨rfl,_⟩:=hs;exact⟨cu,b,h.later rfl rfl rfl (Of _) day λ_=>rfl,by rw[g i];omega⟩
 | pay w i a k d=>
  obtain⟨b',D,R,H,S⟩:=h.ds.nB d;have u:=d.same;exact⟨cu,b',⟨h.rok,D,h.bc.later u.casks (by rw[u.day];exact Of _) (by rw[u.day];exact day),by rw[u.casks];exact h.nums,h.ev.ext u.pure (λ_ _=>by rw[R])<|by rw[H,S]⟩,by rw[H,g i];omega⟩
 | bottle num v a z ds ps x k G l A T y hs P C=>
  obtain⟨f,b',h',e⟩:=PJ.rq ps h T;obtain⟨rfl,_⟩:=C;exact⟨f,b',h'.later rfl rfl rfl (Of _) h'.bc.day.2 λ_=>rfl,by rw[e,SG eT];omega⟩
 | ask d E i ns q V=>
  exact⟨cu,b,h,by rw[SG λe=>by rw[e] at i;revert i;decide];omega⟩
theorem PJ.word{i:Q0 H1}(h:PJ r L cu b)(j:Deed L w ns i L'):w≠Wo/\((w≠Hu/\ML w ns=0)∨∃c n s,w=Hu/\ns=[c,n,s]/\Um n s=n*s / 10000/\0<=n*s / 10000/\n*s / 10000<=1099511627776):=by
 have no:∀{w:Q0 H1},w≠Hu->w≠Wo->w≠Wo/\((w≠Hu/\ML w ns=0)∨∃c n s,w=Hu/\ns=[c,n,s]/\Um n s=n*s / 10000/\0<=n*s / 10000/\n*s / 10000<=1099511627776):=λk o=>⟨o,.inl ⟨k,SG k⟩⟩;have rest:∀w∈AS,w≠Hu/\w≠Wo:=by decide
 have ask:∀w∈wX,w≠Hu/\w≠Wo:=by decide
 have l:∀{g:QA} {c n s:Int},1<=s/\s<=10000->HD L ⟨1,0,c,0,0,0,n,0⟩ g->Um n s=n*s / 10000/\0<=n*s / 10000/\n*s / 10000<=1099511627776:=fun{g c n s} hs f=>by
  obtain⟨_,Q⟩:=h.sV f;have p:1<=n/\n<=1099511627776:=Ca.De Q.fine<|.inl rfl;obtain⟨q,t,u⟩:=Dd ⟨by omega,p.2⟩ hs;exact⟨q,t,by omega⟩
 cases j with
 | day=>exact no eT eT
 | rules a c d ns ps v m=>rw[h.ds.rules] at m;cases m
 | make w e=>exact no (rest w e).1 (rest w e).2
 | fill0 c n s g hs f=>exact⟨by decide,.inr ⟨c,n,s,rfl,rfl,l hs f⟩⟩
 | fill c n s g x hs f=>exact⟨by decide,.inr ⟨c,n,s,rfl,rfl,l hs f⟩⟩
 | rack w e=>exact no (rest w e).1 (rest w e).2
 | carry w e=>exact no (rest w e).1 (rest w e).2
 | keep w e=>exact no (rest w e).1 (rest w e).2
 | stamps w e=>exact no (rest w e).1 (rest w e).2
 | pay w e=>exact no (rest w e).1 (rest w e).2
 | bottle=>exact no eT eT
 | ask d j e=>exact no (ask _ e).1 (ask _ e).2
structure vA(L:QA):Prop where
 rules:L.rules=none
 casks:L.casks=[]
 duties:L.duties=[]
 day:0<=L.day/\L.day<=65536
 pure:∀k,Zb L k=0
theorem vA.start:vA Gs:=⟨rfl,rfl,rfl,by decide,λ_=>rfl⟩
theorem vA.mL(h:vA L)(d:Ex.Xv r=true)(e:L' ={L with rules:=some r}):∃cu b,PJ r L' cu b/\b.Made=0/\b.Paid=0:=by
 subst e;refine⟨⟨[],0⟩,Ex.TH.acc.B,⟨d,⟨rfl,h.day.1,⟨λy a=> ?_,?_,Ex.TH,?_,rfl,h.day.1⟩,⟨rfl,rfl,rfl,rfl,rfl⟩,?_,⟨Of _,Of _⟩,λk _ _=>⟨?_,Of _⟩⟩,⟨h.day,λy a=> ?_,?_,?_⟩,?_,⟨iZ,λi c f=> ?_,λk _=>h.pure k,λj _=>rfl,rfl⟩⟩,rfl,rfl⟩
 ·rw[show({L with rules:=some r}:QA).duties=[] from h.duties] at a;cases a
 ·show L.duties.length<=_;rw[h.duties];decide
 ·show Ex.HY r L.day L.duties 0 _=(_,L.duties.length);rw[h.duties];rfl
 ·show _=Ad L.duties;rw[h.duties];rfl
 ·show(0:Int)=k*0;omega
 ·rw[show({L with rules:=some r}:QA).casks=[] from h.casks] at a;cases a
 ·show L.casks.length<=_;rw[h.casks];decide
 ·show Ca.HY L.day L.casks 0 _=(_,L.casks.length);rw[h.casks];rfl
 ·show _=Fm L.casks;rw[h.casks];rfl
 ·simp at f
theorem qK{all:Q0 Ca.ZY}(f:(all.map (·.C.Number)).Nodup):(Ca.N9 all).Perm all:=by
 have a:(Ca.N9 all).Perm ((all.map (·.C.Number)).filterMap<|Ca.Wk all):=(Ca.S4 all).filterMap _
 have g:(all.map (·.C.Number)).filterMap (Ca.Wk all)=all:=by
  rw[List.filterMap_map]
  have:∀l:Q0 Ca.ZY,(∀c∈l,c∈all)->l.filterMap (Ca.Wk all∘λc=>c.C.Number)=l:=λl=>by
   induction l with
   | nil=>intro _;rfl
   | cons c l j=>
    intro h;obtain⟨i,hi⟩:=lr<|h c eF
    have e:(Ca.Wk all∘λc=>c.C.Number) c=some c:=by
     show Ca.Wk all c.C.Number=some c;unfold Ca.Wk;rw[Ca.AF f hi,K2,hi]
    rw[qAH,e,j λd k=>h d<|by simp[k]]
  exact this all λ_ h=>h
 rw[g] at a
 exact a
end
end Go.Proofs.YtdoocboganbagaaGreatDoor
end
