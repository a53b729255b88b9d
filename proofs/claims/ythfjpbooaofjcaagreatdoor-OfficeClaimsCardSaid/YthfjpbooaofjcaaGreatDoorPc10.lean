/- For OfficeClaims. -/
import Derived.Test.YthfjpbooaofjcaaGreatDoorPc9
noncomputable section
namespace Go.Dec
abbrev oH:=@beq_eq_false_iff_ne
abbrev oO:=@Int.tmod_eq_emod_of_nonneg
abbrev o3:=@Int.natCast_add
abbrev qAa:=@List.all_nil
abbrev qAb:=@Int.natCast_one
abbrev qAf:=@or_false
abbrev qA8:=@UInt8.toNat_inj
abbrev qBC:=@bne_iff_ne
abbrev qBU:=@Int.le_trans
end Go.Dec
namespace Go.Proofs.YthfjpbooaofjcaaGreatDoor.Bo
section
open Go.Dec
theorem xX(n:Nat)(h:n<=1000000):Ug (n:Int)=some []:=by
 unfold Ug;have b:Qy (0 - 0)=0:=by rw[Qs]<;>omega
 simp only[show ¬((n:Int) < 0) by omega,lP,W1,Bm,K1,QO,b];rw[show((n:Int) - 0)=n by omega,Qs hQ hQ];by_cases a:(n:Int) > 0
 .simp only[a,lL,B1];have:Eh (n:Int)=some n:=by unfold Eh;rw[DO hQ];simp
  rw[this];simp[Zc]
 .simp only[a,lP,W1,Bm,K1]
theorem y9(a:Q0 (Q0 QB))(h:a.flatten.length<=1000000)(p:a.length<=1000):V1 a=some a.flatten:=by
 unfold V1
 have f:=BN (body:=VJ a) (fun(t:Int) i=>(t,(i:Int))) (λt _ x=>if Qy (t+(x.length:Int)) < 0 then none else some (.next<|Qy<|t+(x.length:Int))) (λt=>t) a
  (λt i x b=>by
   have hi:=Zz b;unfold VJ;simp only[Zq,b,K1,QO];rw[Qs (n:=(i:Int)+1) hQ hQ];simp only[show(decide<|(i:Int) < (a.length:Int))=true by simpa using hi,B1];by_cases k:Qy (t+(x.length:Int)) < 0<;>simp[k,UN.tU])
  (λt=>by unfold VJ;simp) 0
 have g:=BN (body:=VI a) (fun(t:Q0 QB) i=>(t,(i:Int))) (λt _ x=>(Y1 t x).map .next) (λt=>t) a
  (λt i x b=>by
   have hi:=Zz b;unfold VI;simp only[Zq,b,K1];rw[Qs (n:=(i:Int)+1) hQ hQ];simp only[show(decide<|(i:Int) < (a.length:Int))=true by simpa using hi,B1];cases Y1 t x<;>simp[UN.tU])
  (λt=>by unfold VI;simp) []
 simp only[tO] at f g
 have m:∀(l:Q0 (Q0 QB)) (i:Nat) (t:Int),0<=t->t+l.flatten.length<=1000000->NW (fun(t:Int) _ (x:Q0 QB)=>if Qy (t+(x.length:Int)) < 0 then none else some (.next<|Qy<|t+(x.length:Int))) (λt=>t) l i t=some (t+l.flatten.length):=by
  intro l
  induction l with
  | nil=>intro i t j c;simp[NW]
  | cons x l d=>
   intro i t j c;simp only[List.flatten_cons,bY,o3] at c
   have e:Qy (t+(x.length:Int))=t+x.length:=Qs hQ hQ;simp only[NW,e,show ¬(t+(x.length:Int) < 0) by omega,Bm];rw[d _ _ hQ hQ];simp;omega
 have o:∀(l:Q0 (Q0 QB)) (i:Nat) (t:Q0 QB),t.length+l.flatten.length<=1000000->NW (λt _ x=>(Y1 t x).map .next) (λt=>t) l i t=some (t++l.flatten):=by
  intro l
  induction l with
  | nil=>intro i t j;simp[NW]
  | cons x l d=>
   intro i t c;simp only[List.flatten_cons,bY] at c
   have e:Y1 t x=some (t++x):=by unfold Y1;rw[DO hQ]
   simp only[NW,e,RK];rw[d _ _ (by rw[bY];omega)];simp
 rw[f,m a 0 0 hQ hQ];simp only[K1,Int.zero_add];rw[xX _ h];simp only[K1];rw[g,o a 0 []<|by simpa using h];simp
def kG(x:QB):Prop:=0<=x.Lo/\x.Lo<=x.Hi/\x.Hi<=1099511627776
def Ee(t:QB)(i:Nat)(y:QB):Q2 (UN QB<|Int×QB):=if y.Lo<=t.Hi+1 then some (.next<|QB.mk (JS t.Lo y.Lo)<|imax t.Hi y.Hi) else some (.done ((i:Int),t))
theorem MQ:∀(r:Q0 QB) (i:Nat) (x:QB),XP r->kG x->(∀y∈r,x.Lo<=y.Hi+1)->
  ∃c j x',r=c++j/\NW Ee (λt=>((i+r.length:Nat),t)) r i x=some (((i+c.length:Nat):Int),x')/\kG x'/\(∀z∈j,x'.Hi+1 < z.Lo)/\(∀n,NV x' n↔NV x n∨mem c n)/\(∀b,b < x.Lo->(∀y∈r,b < y.Lo)->b < x'.Lo)
 | [],i,x,_,d,_=>⟨[],[],x,rfl,by simp[NW],d,by simp,λn=>by simp[mem],λb k _=>k⟩
 | y::r,i,x,l,d,m=>by
  have C:=l.ok y ic;have p:=m y ic;have f:=(IR.1 l.apart).1;by_cases o:y.Lo<=x.Hi+1
  .have q:kG (QB.mk (JS x.Lo y.Lo)<|imax x.Hi y.Hi):=by
    simp only[kG,JS,imax] at d ⊢
    split<;>split<;>omega
   obtain⟨c,j,x',e,s,u,v,w,A⟩:=MQ r (i+1) (QB.mk (JS x.Lo y.Lo)<|imax x.Hi y.Hi) l.tail q λz a=>by
    have:=f z a;have D:=l.ok z (by simp[a]);have:=m z (by simp[a]);show JS x.Lo y.Lo<=z.Hi+1;simp only[JS];split<;>omega
   refine⟨y::c,j,x',by rw[e];rfl,?_,u,v,λn=> ?_,λb k g=> ?_⟩
   .simp only[NW,Ee,o,B1];rw[show(i+(y::r).length)=(i+1+r.length) by simp;omega,show(i+(y::c).length)=(i+1+c.length) by simp;omega];exact s
   .rw[w n,mem_cons];simp only[kG] at d
    simp only[NV,JS,imax];constructor
    .rintro(h | h)
     .by_cases B:x.Lo<=n/\n<=x.Hi
      .exact .inl B
      .refine .inr<|.inl ?_;split at h<;>split at h<;>omega
     .exact .inr<|.inr h
    .rintro(h | h | h)
     .left;split<;>split<;>omega
     .left;split<;>split<;>omega
     .exact .inr h
   .apply A
    .have:=g y ic;show b < JS x.Lo y.Lo;simp only[JS];split<;>omega
    .exact λz a=>g z<|by simp[a]
  .refine⟨[],y::r,x,rfl,?_,d,λz a=> ?_,λn=>by simp[mem],λb k _=>k⟩
   .simp only[NW,Ee,o,Bm];simp
   .rcases A4.1 a with rfl | a
    .omega
    .have:=f z a;omega
theorem Nh(f:QB->Bool):∀(r:Q0 QB) (i:Nat),NW (fun(_:Unit) i x=>if f x then some (.next ()) else some (.done (i:Int))) (λ_=>((i+r.length:Nat):Int)) r i ()=some ((i+(r.takeWhile f).length:Nat):Int)
 | [],i=>by simp[NW]
 | x::r,i=>by
  cases a:f x with
  | true=>
   simp only[NW,a,B1,ot,L4];have:=Nh f r<|i+1;rw[show i+(r.length+1)=i+1+r.length by omega,show i+((r.takeWhile f).length+1)=i+1+(r.takeWhile f).length by omega];exact this
  | false=>simp[NW,a]
theorem Ly{s:Q0 QB}{x:QB}(q:XP s)(Z:s.length<=1000)(u:kG x):∃k,VS s x=some k/\XP k/\k.length<=s.length+1/\∀n,mem k n↔mem s n∨NV x n:=by
 unfold VS;have v:=u;simp only[kG] at v
 have I:=BN (body:=Vh s x) (fun(_:Unit) i=>(i:Int)) (λ_ i y=>if decide (y.Hi < x.Lo - 1) then some (.next ()) else some (.done (i:Int))) (λ_=>((0+s.length:Nat):Int)) s
  (λt i y c=>by
   have hi:=Zz c;unfold Vh;simp only[Zq,c,K1,QO];rw[Qs (n:=(i:Int)+1) hQ hQ,Qs (n:=x.Lo - 1) hQ hQ];simp only[show(decide<|(i:Int) < (s.length:Int))=true by simpa using hi,B1,K1];by_cases w:y.Hi < x.Lo - 1<;>simp[w,UN.tU])
  (λt=>by unfold Vh;simp) ()
 simp only[tO] at I
 rw[I,Nh];simp only[K1,s5];generalize K:(λy:QB=>decide<|y.Hi < x.Lo - 1)=f;generalize g:s.takeWhile f=s1;generalize j:s.dropWhile f=s2;have hs:s=s1++s2:=by rw[<-g,<-j,List.takeWhile_append_dropWhile]
 have A:=hs▸q;obtain⟨L,d,e⟩:=A.split
 have P:∀y∈s1,y.Hi < x.Lo - 1:=by
  intro y c;rw[<-g] at c
  have:=List.all_takeWhile (p:=f) (l:=s);rw[IN] at this
  have:=this y c;rw[<-K] at this
  simpa using this
 have Q:∀y∈s2,x.Lo<=y.Hi+1:=by
  intro y c;cases h:s2 with
  | nil=>rw[h] at c;cases c
  | cons z r=>
   have hz:¬z.Hi < x.Lo - 1:=by
    have:=List.head?_dropWhile_not (p:=f) (l:=s);rw[j,h] at this
    simp at this
    rw[<-K] at this
    simpa using this
   rw[h] at c d
   rcases A4.1 c with rfl | c
   .omega
   .have:=(IR.1 d.apart).1 y c;have m:=d.ok y (by simp[c]);have oz:=d.ok z ic;omega
 obtain⟨M,B,x',er,R,C,D,E,F⟩:=MQ s2 s1.length x d u Q
 have S:=As (body:=Vg s) (fun(t:QB) i=>((i:Int),t)) Ee (λt=>(((s1.length+s2.length:Nat):Int),t)) s (λ_ t=>kG t)
  (λt i y c G=>by
   have hi:=Zz c;have m:kG y:=q.ok y<|S1 c;simp only[kG] at G m
   unfold Vg Ee;simp only[Zq,c,K1,QO];rw[Qs (n:=(i:Int)+1) hQ hQ,Qs (n:=t.Hi+1) hQ hQ];simp only[show(decide<|(i:Int) < (s.length:Int))=true by simpa using hi,B1,K1];by_cases w:y.Lo<=t.Hi+1<;>simp[w,UN.tU])
  (λt i y t' c G h=>by
   have m:kG y:=q.ok y<|S1 c;unfold Ee at h
   split at h
   .simp only[UV,UN.next.injEq] at h
    subst h;simp only[kG,JS,imax] at G m ⊢
    split<;>split<;>omega
   .simp at h)
  (λt _=>by unfold Vg;rw[hs];simp) s2.length s1.length x (by rw[hs];simp) u
 have T:s.drop s1.length=s2:=by rw[hs];simp
 rw[S,T,R];simp only[K1];have N:s.length=s1.length+M.length+B.length:=by rw[hs,er];simp;omega
 have V:Zc s 0 (s1.length:Int)=some s1:=by
  unfold Zc;rw[DO hQ];rw[hs];simp
 have W:Zc s ((s1.length+M.length:Nat):Int) (s.length:Int)=some B:=by
  unfold Zc;rw[DO hQ];simp only[lV];rw[hs,er];congr 1;rw[<-List.append_assoc,oV ic];rw[qAZ ic,lQ];apply IF;simp only[bY];omega
 rw[V,W];simp only[K1];rw[y9 _ ia ic];refine⟨s1++x' ::B,by simp,?_,by simp;omega,λn=> ?_⟩
 .rw[er] at d e
  obtain⟨m1,X,Y⟩:=d.split;refine L.append (X.tT C D) λa o b H=> ?_;rcases A4.1 H with rfl | H
  .have oa:=L.ok a o;apply F
   .have:=P a o;omega
   .intro y c;rw[er] at c
    exact e a o y c
  .exact e a o b<|by simp[H]
 .rw[mem_append,mem_cons,E,hs,er,mem_append,mem_append];constructor
  .rintro(h | (h | h) | h)
   .exact .inl<|.inl h
   .exact .inr h
   .exact .inl<|.inr<|.inl h
   .exact .inl<|.inr<|.inr h
  .rintro((h | h | h) | h)
   .exact .inl h
   .exact .inr<|.inl<|.inr h
   .exact .inr<|.inr h
   .exact .inr<|.inl<|.inl h
end
section
open Go.Dec
theorem Bt{α:Type}{l k:Q0 α}(h:l.length+k.length<=4294967296):Y1 l k=some (l++k):=by
 unfold Y1;rw[DO h]
theorem wM{α:Type}(x:α):Y1 [] [x]=some [x]:=by
 unfold Y1;rw[DO ic];rfl
theorem uW{n:Int}(a:0<=n)(h:n<=4294967296):fH 0 n=some 0:=by
 unfold fH;rw[DO hQ];simp only[qAi]
theorem OO{s:Q0 QB}{x:QB}(G:XP s)(hl:s.length<=1000)(W:kG x)(X:∀n,NV x n->mem s n):∃j,VC s x=some j/\XP j/\j.length<=s.length+1/\∀n,mem j n↔mem s n/\¬NV x n:=by
 unfold VC;have A:=W;simp only[kG] at A
 obtain⟨Y,H,Z⟩:=(Mm G A.2.1).2 X;generalize I:(λy=>KV y x)=f;rw[show(λz=>some<|KV z x)=λz=>some (f z) by rw[<-I]];rw[Cm s f hQ]
 have K:∃i,s.findIdx? f=some i:=by
  cases h:s.findIdx? f with
  | some i=>exact⟨i,rfl⟩
  | none=>
   rw[qBH] at h
   have:=h Y H;rw[<-I] at this
   simp[KV] at this
   omega
 obtain⟨i,hi⟩:=K;rw[hi];rw[qAs] at hi
 obtain⟨l,r,_⟩:=hi;generalize S:s[i]=y at r
 have T:y.Lo<=x.Lo/\x.Hi<=y.Hi:=by
  rw[<-I] at r;simpa[KV] using r
 have hs:s=s.take i++y::s.drop (i+1):=by
  rw[<-S,<-dO l,iN]
 have m:s[i]? =some y:=by rw[<-S];exact B3 l
 have oy:=G.ok y<|S1 m;simp only[K1,Zq,m];rw[Qs (n:=x.Lo - 1) hQ hQ,Qs (n:=x.Hi+1) hQ hQ,Qs (n:=(s.length:Int)+1) hQ hQ,Qs (n:=(i:Int)+1) hQ hQ];have B:fH 0 ((s.length:Int)+1)=some 0:=uW hQ hQ;have L:Zc s 0 (i:Int)=some (s.take i):=by unfold Zc;rw[DO hQ];simp
 have M:Zc s ((i:Int)+1) (s.length:Int)=some (s.drop<|i+1):=by
  unfold Zc;rw[DO hQ];rw[show((i:Int)+1).toNat=i+1 by omega,IF ic]
 have ht:(s.take i).length=i:=by simp;omega
 have aA:(s.drop<|i+1).length=s.length - (i+1):=by simp
 generalize aB:s.take i=a at*
 generalize aC:s.drop (i+1)=b at*
 obtain⟨na,C,t⟩:=(hs▸G:XP (a++y::b)).split;have nb:=C.tail;have V:=(IR.1 C.apart).1;generalize e:(if x.Hi < y.Hi then[QB.mk (x.Hi+1) y.Hi] else[])=pr;generalize g:(if y.Lo < x.Lo then[QB.mk y.Lo<|x.Lo - 1] else[])=pl
 have run:((if decide (y.Lo < x.Lo)=true then(some y).bind λN=>(Y1 [] [QB.mk N.Lo<|x.Lo - 1]).bind λD=>some D else some []):Q2 (Q0 QB))=some pl:=by
  rw[<-g];by_cases h:y.Lo < x.Lo
  .simp only[h,lL,B1,K1,wM]
  .simp[h]
 have aF:pl.length<=1:=by rw[<-g];split<;>simp
 have aG:pr.length<=1:=by rw[<-e];split<;>simp
 have o:((if decide (x.Hi < y.Hi)=true then(some y).bind λE=>(Y1 pl [QB.mk (x.Hi+1) E.Hi]).bind λu=>some u else some pl):Q2 (Q0 QB))=some (pl++pr):=by
  rw[<-e];by_cases h:x.Hi < y.Hi
  .simp only[h,lL,B1,K1];rw[Bt (by simp only[L4,qs];omega)];simp only[K1]
  .simp[h]
 simp only[K1] at run o
 suffices F:∀z,z=a++(pl++pr)++b->∃j,some z=some j/\XP j/\j.length<=s.length+1/\∀n,mem j n↔mem s n/\¬NV x n by
  refine Exists.imp (λj h=>⟨Eq.trans ?_ h.1,h.2⟩)<|F _ rfl;refine ZZ run<|ZZ o<|ZZ B<|ZZ L<|ZZ (a:=a) ?_<|ZZ (a:=a++(pl++pr)) ?_<|ZZ M<|ZZ (a:=a++(pl++pr)++b) ?_ rfl
  .rw[List.replicate_zero,Bt (by simp only[qs];omega)];rfl
  .exact Bt (by simp only[bY];omega)
  .exact Bt (by simp only[bY];omega)
 intro z c;subst c
 have P:∀n,mem pl n↔y.Lo<=n/\n < x.Lo:=by
  intro n;rw[<-g];split
  .simp only[mem_cons,AI,qAf,NV];omega
  .simp only[AI,false_iff];omega
 have mpr:∀n,mem pr n↔x.Hi < n/\n<=y.Hi:=by
  intro n;rw[<-e];split
  .simp only[mem_cons,AI,qAf,NV];omega
  .simp only[AI,false_iff];omega
 have Q:XP pl:=by
  rw[<-g];split
  .exact XP.nil.tT (by simp only;omega) ic
  .exact XP.nil
 have R:XP pr:=by
  rw[<-e];split
  .exact XP.nil.tT (by simp only;omega) ic
  .exact XP.nil
 have v:∀z∈pl,z.Lo=y.Lo/\z.Hi=x.Lo - 1:=by
  intro z c;rw[<-g] at c;split at c
  .simp at c;subst c;simp
  .simp at c
 have w:∀z∈pr,z.Lo=x.Hi+1/\z.Hi=y.Hi:=by
  intro z c;rw[<-e] at c;split at c
  .simp at c;subst c;simp
  .simp at c
 refine⟨_,rfl,?_,?_,λn=> ?_⟩
 .refine((na.append (Q.append R ?_) ?_).append nb ?_)
  .intro p d q k;have:=v p d;have:=w q k;omega
  .intro p d q k;have h1:=t p d y ic;rcases mb.1 k with k | k
   .have:=v q k;omega
   .have:=w q k;omega
  .intro p d q k;have h1:=V q k;rcases mb.1 d with d | d
   .exact t p d q<|by simp[k]
   .rcases mb.1 d with d | d
    .have:=v p d;omega
    .have:=w p d;omega
 .simp only[bY];omega
 .rw[mem_append,mem_append,mem_append,P,mpr,hs,mem_append,mem_cons];simp only[NV];constructor
  .rintro((h | h | h) | h)
   .refine⟨.inl h,?_⟩;obtain⟨z,c,B⟩:=h;have:=t z c y ic;simp only[NV] at B;omega
   .exact⟨.inr (.inl hQ),by omega⟩
   .exact⟨.inr (.inl hQ),by omega⟩
   .refine⟨.inr<|.inr h,?_⟩;obtain⟨z,c,B⟩:=h;have:=V z c;simp only[NV] at B;omega
  .rintro⟨h | h | h,aI⟩
   .exact .inl<|.inl h
   .by_cases l:n < x.Lo
    .exact .inl<|.inr<|.inl ⟨h.1,l⟩
    .exact .inl<|.inr<|.inr ⟨by omega,h.2⟩
   .exact .inr h
def has(e:QJ)(n:Int):Prop:=e.First<=n/\n<=e.Last
instance(e:QJ) (n:Int):Decidable (has e n):=by unfold has;infer_instance
def cur:Q0 QJ->Int->Q2 QJ:=λl n=>l.foldl (λo e=>if has e n then some e else o) none
def hand(l:Q0 QJ)(n:Int):Prop:=∃e,cur l n=some e/\e.Kind=0
theorem jn(n:Int):cur [] n=none:=rfl
theorem Bd(l:Q0 QJ)(e:QJ)(n:Int):cur (l++[e]) n=if has e n then some e else cur l n:=by simp[cur]
theorem Es(l:Q0 QJ)(e:QJ)(n:Int):hand (l++[e]) n↔if has e n then e.Kind=0 else hand l n:=by
 unfold hand;rw[Bd];split<;>simp
def xM(x:QJ):Bool:=Uc x
theorem jV(x:QJ):xM x=true↔(0<=x.Kind/\x.Kind<=3)/\(x.Kind=1->0<=x.Batch/\x.Batch<=1073741824)/\0<=x.First/\x.First<=x.Last/\x.Last<=1099511627776:=by
 simp only[xM,Uc,QY,Kg,BY,mx,TO,qBC,ne_eq];constructor
 .rintro⟨⟨b,a⟩,c⟩;refine⟨by omega,λh=> ?_,by omega⟩;rcases a with a | a
  .exact absurd h a
  .omega
 .rintro⟨b,a,c⟩;refine⟨⟨by omega,?_⟩,by omega⟩;by_cases h:x.Kind=1
  .right;have:=a h;omega
  .left;exact h
open Classical in
def UK(pre:Q0 QJ)(x:QJ):Int:=if xM x=false then 1 else if x.Kind=0/\∃n,has x n/\cur pre n≠none then 5 else if x.Kind≠0/\∃n,has x n/\¬hand pre n then 4 else 0
structure Inv(pre:List QJ)(t:ZC×Ur×Int):Prop where
 ni:XP t.2.1.issued
 nh:XP t.2.1.hand
 li:t.2.1.issued.length<=pre.length
 lh:t.2.1.hand.length<=pre.length
 mi:∀n,mem t.2.1.issued n↔cur pre n≠none
 mh:∀n,mem t.2.1.hand n↔hand pre n
def amount(x:QJ):Int:=Qy<|Qy (x.Last - x.First)+1
def vJ(b:ZC)(x:QJ):ZC:=if x.Kind=1 then{b with Stuck:=Qy (b.Stuck+amount x)} else if x.Kind=2 then{b with Spoiled:=Qy (b.Spoiled+amount x)} else if x.Kind=3 then{b with Returned:=Qy (b.Returned+amount x)} else b
def zm:Q0 QJ->ZC:=λl=>l.foldl vJ<|ZC.mk [] 0 0 0
theorem AB(l:Q0 QJ)(x:QJ):zm (l++[x])=vJ (zm l) x:=by simp[zm]
theorem I0{l pre post:Q0 QJ}{x:QJ}{t:ZC×Ur×Int}(P:l=pre++x::post)(Q:l.length<=256)(c:Inv pre t)(D:t.1=zm pre):(UK pre x≠0/\VO l ((pre.length:Int),t)=some (.done<|.inr (ZC.mk [] 0 0 0,(pre.length:Int),UK pre x)))∨
  (UK pre x=0/\∃t',VO l ((pre.length:Int),t)=some (.next (((pre.length+1:Nat):Int),t'))/\Inv (pre++[x]) t'/\t'.1=zm (pre++[x])):=by
 have y:l[pre.length]? =some x:=by rw[P];simp
 have A:pre.length < l.length:=by rw[P];simp
 unfold VO;simp only[Zq,y,K1,show(decide<|(pre.length:Int) < (l.length:Int))=true by simpa using A,B1];by_cases d:xM x=true
 .have i:Uc x=true:=d;obtain⟨X,_,E,o,F⟩:=(jV x).1 d;have p:kG (QB.mk x.First x.Last):=⟨E,o,F⟩;have q:∀n,NV (QB.mk x.First x.Last) n↔has x n:=λn=>Iff.rfl;have Y:=c.li;have l2:=c.lh;simp only[i,RW,W1,Bm];rw[Qs (n:=(pre.length:Int)+1) hQ hQ];by_cases a:x.Kind=0
  ·
    obtain⟨G,H,B⟩:=qR (s:=t.2.1.issued) (x:=QB.mk x.First x.Last) hQ c.ni o;simp only[a,oT,B1,H,K1];cases j:G with
    | true=>
     left
     have:UK pre x=5:=by
      unfold UK;rw[Do (by simp[d]),DO];refine⟨a,?_⟩;obtain⟨n,r,u⟩:=B.1 j;exact⟨n,r,(c.mi n).1 u⟩
     rw[this];simp
    | false=>
     right;have v:¬∃n,NV (QB.mk x.First x.Last) n/\mem t.2.1.issued n:=λh=>by have:=B.2 h;rw[j] at this;cases this
     have f:UK pre x=0:=by
      unfold UK;rw[Do (by simp[d]),Do,Do<|by simp[a]];rintro⟨_,n,r,u⟩;exact v ⟨n,r,(c.mi n).2 u⟩
     obtain⟨Z,R,S,Pw,T⟩:=Ly c.ni hQ p;obtain⟨I,K,L,NF,M⟩:=Ly c.nh hQ p;simp only[W1,Bm,R,K,K1,QO];refine⟨f,_,rfl,⟨S,L,by simp;omega,by simp;omega,λn=> ?_,λn=> ?_⟩,?_⟩
     .rw[T,Bd,c.mi,q];split<;>simp_all
     .rw[M,Es,c.mh,q];split<;>simp_all
     .rw[AB];simp only[vJ,a];simpa using D
  ·
    have N:(x.Kind==0)=false:=by simpa using a
    simp only[N,W1,Bm,K1];obtain⟨G,H,B⟩:=y5 (s:=t.2.1.hand) (x:=QB.mk x.First x.Last) hQ c.nh o;simp only[H,K1];cases j:G with
    | false=>
     left;have v:¬∀n,NV (QB.mk x.First x.Last) n->mem t.2.1.hand n:=λh=>by have:=B.2 h;rw[j] at this;cases this
     have:UK pre x=4:=by
      unfold UK;rw[Do (by simp[d]),Do (by simp[a]),DO];refine⟨a,?_⟩;obtain⟨n,V⟩:=Classical.not_forall.1 v;obtain⟨r,u⟩:=Classical.not_imp.1 V;exact⟨n,r,λW=>u<|(c.mh n).2 W⟩
     rw[this];simp
    | true=>
     right;have k:=B.1 j
     have f:UK pre x=0:=by
      unfold UK;rw[Do (by simp[d]),Do (by simp[a]),Do];rintro⟨_,n,r,u⟩;exact u<|(c.mh n).1<|k n r
     obtain⟨I,K,L,NF,M⟩:=OO c.nh hQ p k;simp only[RW,W1,Bm,K,K1,QO]
     have C:∀n,has x n->cur pre n≠none:=λn h=>by
      have:=(c.mh n).1<|k n h;obtain⟨e,he,_⟩:=this;rw[he];simp
     have m:∀(b:ZC) (z:Int),Inv (pre++[x]) (b,{t.2.1 with hand:=I},z):=λb z=>by
      refine⟨c.ni,L,by simp;omega,by simp;omega,λn=> ?_,λn=> ?_⟩
      .show mem t.2.1.issued n↔_;rw[Bd,c.mi];split
       .rename_i h;simp[C n h]
       .rfl
      .show mem I n↔_;rw[M,Es,c.mh,q];split
       .rename_i h;simp[h,a]
       .rename_i h;simp[h]
     have w:x.Kind=1∨x.Kind=2∨x.Kind=3:=by omega
     rcases w with g | g | g
     .simp only[g,show YY 4 1=some 1 from rfl,K1,show((1:Nat)==0)=false from rfl,W1,Bm,oT,B1];exact⟨f,_,rfl,m _ _,by rw[AB,<-D];simp[vJ,g,amount]⟩
     .simp only[g,show YY 4 2=some 2 from rfl,K1,show((2:Nat)==0)=false from rfl,show((2:Nat)==1)=false from rfl,W1,Bm,oT,B1];exact⟨f,_,rfl,m _ _,by rw[AB,<-D];simp[vJ,g,amount]⟩
     .simp only[g,show YY 4 3=some 3 from rfl,K1,show((3:Nat)==0)=false from rfl,show((3:Nat)==1)=false from rfl,show((3:Nat)==2)=false from rfl,W1,Bm];exact⟨f,_,rfl,m _ _,by rw[AB,<-D];simp[vJ,g,amount]⟩
 .left;have i:Uc x=false:=by simpa[xM] using d
  have:UK pre x=1:=by unfold UK;rw[DO<|by simpa using d]
  rw[this];simp[i]
end
section
open Go.Dec
variable{l:Q0 QJ}
def kL:ZC:=ZC.mk [] 0 0 0
theorem Ri(l:Q0 QJ)(h:l.length<=256):(∃p x,S9 UK l p x/\YX l=some (kL,(p.length:Int),UK p x))∨
  (Wr UK l/\∃a,XP a/\(∀n,mem a n↔hand l n)/\a.length<=l.length/\YX l=some ({zm l with Hand:=a},(l.length:Int),0)):=by
 unfold YX;simp only[show ¬((l.length:Int) > 256) by omega,lP,W1,Bm]
 have key:=FT (body:=VO l) (λi (t:ZC×Ur×Int)=>((i:Int),t)) UK (λi e=>.inr (kL,(i:Int),e)) (λt=>.inl (t.1,t.2.1,t.2.2)) (λpre t=>Inv pre t/\t.1=zm pre) l
  (λpre x post t j _ g=>by
   rcases I0 j h g.1 g.2 with⟨c,d⟩ | ⟨c,t',d,k,m⟩
   .exact .inl ⟨c,d⟩
   .exact .inr ⟨c,t',d,k,m⟩)
  (λt _ _=>by unfold VO;simp)
  l [] (kL,Ur.mk [] [],0) rfl Wr.nil ⟨⟨XP.nil,XP.nil,by simp,by simp,λn=>by simp[AI,jn],λn=>by simp[AI,hand,jn]⟩,rfl⟩
 simp only[qs,tO] at key
 rcases key with⟨p,x,o,f⟩ | ⟨q,t,⟨b,r⟩,f⟩
 .refine .inl ⟨p,x,o,?_⟩;refine ZZ f ?_;rfl
 .refine .inr ⟨q,t.2.1.hand,b.nh,b.mh,b.lh,?_⟩;refine ZZ f ?_
  have s:UT t.2.1.hand=some t.2.1.hand:=by
   unfold UT;have:=b.lh;rw[Bt (by simp only[qs];omega)];simp
  simp only[s,K1,QO,r]
theorem qu{pre:Q0 QJ}{x:QJ}(h:UK pre x=0):xM x=true/\(x.Kind=0->∀n,has x n->cur pre n=none)/\(x.Kind≠0->∀n,has x n->hand pre n):=by
 unfold UK at h
 split at h
 .cases h
 .rename_i d;split at h
  .cases h
  .rename_i e;split at h
   .cases h
   .rename_i f;refine⟨by simpa using d,λa n b=> ?_,λa n b=> ?_⟩
    .apply oC;exact λc=>e ⟨a,n,b,c⟩
    .apply oC;exact λc=>f ⟨a,n,b,c⟩
theorem xL{x:QJ}(h:Wr UK (l++[x])):UK l x=0:=h l x [] rfl
theorem Iq(n:Int)(l:Q0 QJ):Wr UK l->l.find? (λe=>decide<|e.Kind=1/\has e n)=(cur l n).filter (λe=>decide<|e.Kind=1):=by
 induction l using SE with
 | niX=>intro _;rfl
 | snX l x d=>
  intro h;have d:=d h.init;obtain⟨_,g,i⟩:=qu<|xL h;rw[List.find?_append,Bd,d];by_cases a:has x n
  .by_cases f:x.Kind=0
   .simp[g f n a,a,f,Option.filter]
   .obtain⟨e,he,b⟩:=i f n a;rw[he];by_cases c:x.Kind=1
    .simp[b,a,c,Option.filter]
    .simp[b,a,c,Option.filter]
  .simp[a]
def Lz(l:Q0 QJ)(n:Int):Int×Int:=match(cur l n).filter (λe=>decide<|e.Kind=1) with | some e=>(e.Batch,0) | none=>(0,4)
theorem zg(l:Q0 QJ)(n:Int)(h:l.length<=256):ZV (Ud l n) 0=some (match l.find? (λe=>decide<|e.Kind=1/\has e n) with | some e=>.inr (e.Batch,0) | none=>.inl ()):=by
 have key:=BN (body:=Ud l n) (fun(_:Unit) i=>(i:Int)) (λ_ _ x=>if decide (x.Kind=1/\has x n) then some (.done<|.inr (x.Batch,0)) else some (.next ())) (λ_=>.inl ()) l
  (λt i x b=>by
   have hi:=Zz b;unfold Ud;simp only[Zq,b,K1];rw[Qs hQ hQ];simp only[show(decide<|(i:Int) < (l.length:Int))=true by simpa using hi,B1]
   have e:(x.Kind==1&&QY n x.First x.Last)=decide (x.Kind=1/\has x n):=by
    rw[ob,decide_eq_true_iff];simp only[BY,r6,QY,TO,qAI];exact Iff.rfl
   rw[e];by_cases a:x.Kind=1/\has x n<;>simp[a,UN.tU])
  (λt=>by unfold Ud;simp) ()
 simp only[tO] at key
 rw[key]
 clear key h
 generalize 0=i
 induction l generalizing i with
 | nil=>rfl
 | cons x l c=>
  simp only[NW,oF];by_cases a:x.Kind=1/\has x n
  .simp[a]
  .simp only[a,lP,W1,Bm];exact c<|i+1
theorem zf(n:Int)(h:l.length<=256)(a:Wr UK l):V8 l n=some (Lz l n):=by
 unfold V8;rcases Ri l h with⟨p,x,b,_⟩ | ⟨_,d,_,_,_,c⟩
 .exact absurd a b.nm
 .refine ZZ c ?_;simp only[bne_self_eq_false,W1,Bm];rw[zg l n h,Iq n l a];unfold Lz;cases(cur l n).filter (λe=>decide<|e.Kind=1)<;>simp
theorem j6(n:Int){b:ZC}{i e:Int}(h:YX l=some (b,i,e))(he:e≠0):V8 l n=some (0,e):=by
 unfold V8;refine ZZ h ?_;simp only[show(e != 0)=true by simpa using he,B1]
end
section
open Go.Dec
theorem NY(x:Int):ZQ x=true↔0<=x/\x<=65536:=by
 simp only[ZQ,QY,BY,TO,qAI]
theorem EB(p:Int)(a:0<=p):∀l:Q0 Int,(∀x∈l,0<=x/\x<=p)->0<=l.sum/\l.sum<=p*l.length
 | [],_=>by simp
 | x::l,h=>by
  have c:=h x ic;have d:=EB p a l λy b=>h y (by simp[b]);rw[List.sum_cons,L4,o3,qBc];simp only[qAb,Int.mul_one];omega
theorem vx(l:Q0 Int)(o:l.length<=1000):Xs l=some (if l.all ZQ then(l.sum,true) else(0,false)):=by
 unfold Xs
 have key:=FT (body:=Xo l) (λi (t:Int)=>(t,(i:Int))) (λ_ x=>if ZQ x then 0 else 1) (λ_ _=>.inr (0,false)) (λt=>.inl t) (λpre t=>t=pre.sum) l
  (λpre x post t b d f=>by
   have k:=YJ b;have hi:=Xf b;unfold Xo;simp only[Zq,k,K1,QO];rw[Qs (n:=(pre.length:Int)+1) hQ hQ];simp only[show(decide<|(pre.length:Int) < (l.length:Int))=true by simpa using hi,B1];cases g:ZQ x with
   | false=>left;simp
   | true=>
    right;have m:=(NY x).1 g
    have c:∀y∈pre,0<=y/\y<=65536:=by
     intro y h;obtain⟨s,r,rfl⟩:=oN h;have:=d s y r rfl;cases a:ZQ y with
     | true=>exact(NY y).1 a
     | false=>simp[a] at this
    have q:=EB 65536 hQ pre c;refine⟨by simp,t+x,?_,by rw[f];simp⟩;simp only[RW,W1,Bm];rw[Qs hQ hQ];simp)
  (λt _ _=>by unfold Xo;simp) l [] 0 rfl Wr.nil rfl
 simp only[qs,tO] at key
 rcases key with⟨p,x,⟨post,e,_,g⟩,j⟩ | ⟨d,t,f,j⟩
 .have:l.all ZQ=false:=by
   rw[e,oG,ld];cases a:ZQ x with
   | true=>simp[a] at g
   | false=>simp
  rw[this];exact ZZ j rfl
 .have:l.all ZQ=true:=by
   rw[IN];intro y h;obtain⟨s,r,rfl⟩:=oN h;have:=d s y r rfl;cases a:ZQ y with
   | true=>rfl
   | false=>simp[a] at this
  rw[this];exact ZZ j (by rw[f];rfl)
def wg(d:Qp):Bool:=
 (DN 8 d.From.Woods).all ZQ&&(DN 8 d.From.Places).all ZQ&&ZQ d.From.Age&&decide (d.From.Age≥imax (DN 8 d.From.Woods).sum (DN 8 d.From.Places).sum)&&
 QY d.From.Number 0 1073741824&&QY d.Amount 1 1073741824&&Kg d.Strength 10000
structure bD(d:Qp):Prop where
 woods:∀i,i < 8->0<=d.From.Woods i/\d.From.Woods i<=65536
 places:∀i,i < 8->0<=d.From.Places i/\d.From.Places i<=65536
 age:0<=d.From.Age/\d.From.Age<=65536
 ageW:(DN 8 d.From.Woods).sum<=d.From.Age
 ageP:(DN 8 d.From.Places).sum<=d.From.Age
 num:0<=d.From.Number/\d.From.Number<=1073741824
 amt:1<=d.Amount/\d.Amount<=1073741824
 str:0<=d.Strength.Lo/\d.Strength.Lo<=d.Strength.Hi/\d.Strength.Hi<=10000
theorem vG{f:Nat->Int}{p:Int->Bool}{n:Nat}:(DN n f).all p=true↔∀i,i < n->p (f i)=true:=by
 simp[DN]
theorem IM(d:Qp):wg d=true↔bD d:=by
 simp only[wg,BY,vG,NY,TO,QY,Kg,imax,qAI];constructor
 .rintro⟨⟨⟨⟨⟨⟨a,b⟩,c⟩,e⟩,f⟩,g⟩,h⟩;refine⟨a,b,c,?_,?_,by omega,by omega,by omega⟩
  .split at e<;>omega
  .split at e<;>omega
 .rintro⟨a,b,c,e,f,g,h,i⟩;refine⟨⟨⟨⟨⟨⟨a,b⟩,c⟩,?_⟩,by omega⟩,by omega⟩,by omega⟩;split<;>omega
theorem T6(d:Qp):Uk d=some (wg d):=by
 unfold Uk;rw[vx _ (by simp[DN]),vx _<|by simp[DN]];simp only[K1,QO,wg];cases a:(DN 8 d.From.Woods).all ZQ<;>cases b:(DN 8 d.From.Places).all ZQ<;>simp
def Vl(l:Q0 Qp):Int:=(l.map λd=>d.Amount).sum
def WY(l:Q0 Qp):Int:=(l.map λd=>d.Amount*d.Strength.Lo).sum
def UZ(l:Q0 Qp):Int:=(l.map λd=>d.Amount*d.Strength.Hi).sum
theorem EC(l:Q0 Qp)(d:Qp):Vl (l++[d])=Vl l+d.Amount:=by simp[Vl]
theorem Np(l:Q0 Qp)(d:Qp):WY (l++[d])=WY l+d.Amount*d.Strength.Lo:=by simp[WY]
theorem Nq(l:Q0 Qp)(d:Qp):UZ (l++[d])=UZ l+d.Amount*d.Strength.Hi:=by simp[UZ]
theorem Fa{d:Qp}(h:bD d){x:Int}(a:0<=x)(b:x<=10000):0<=d.Amount*x/\d.Amount*x<=10737418240000:=by
 have c:=h.amt;constructor
 .exact oE hQ a
 .have:=qAL c.2 b a hQ;omega
theorem Nn(l:Q0 Qp):(∀d∈l,bD d)->((l.length:Int)<=Vl l/\Vl l<=1073741824*l.length)/\(0<=WY l/\WY l<=UZ l)/\UZ l<=10737418240000*l.length/\UZ l<=10000*Vl l:=by
 induction l using SE with
 | niX=>intro _;simp[Vl,WY,UZ]
 | snX l d b=>
  intro h;have a:=h d ic;obtain⟨e,f,g,i⟩:=b λx c=>h x (by simp[c]);rw[EC,Np,Nq,bY,od,o3];have j:=a.amt;have hs:=a.str;have k:=Fa a (x:=d.Strength.Lo) hQ hQ;have m:=Fa a (x:=d.Strength.Hi) hQ hQ;have n:d.Amount*d.Strength.Lo<=d.Amount*d.Strength.Hi:=lk hs.2.1 hQ;have o:d.Amount*d.Strength.Hi<=d.Amount*10000:=lk hs.2.2 hQ;simp only[qAb];refine⟨by omega,by omega,by omega,by omega⟩
def X1(b:QV):Bool:=b.Draughts.all wg&&QY (b.Draughts.length:Int) 1 16&&QY b.Water 0 17179869184&&Kg b.Shrink 1000
structure Valid(b:QV):Prop where
 ds:∀d∈b.Draughts,bD d
 len:1<=b.Draughts.length/\b.Draughts.length<=16
 water:0<=b.Water/\b.Water<=17179869184
 shrink:0<=b.Shrink.Lo/\b.Shrink.Lo<=b.Shrink.Hi/\b.Shrink.Hi<=1000
theorem HS(b:QV):X1 b=true↔Valid b:=by
 simp only[X1,BY,IN,IM,QY,Kg,TO,qAI];constructor
 .rintro⟨⟨⟨a,d⟩,c⟩,e⟩;exact⟨a,by omega,c,by omega⟩
 .rintro⟨a,d,c,e⟩;exact⟨⟨⟨a,by omega⟩,c⟩,by omega⟩
theorem Ow(b:QV)(k:b.Draughts.length<=1000):∃x,WS b=some (x,X1 b)/\(X1 b=true->x=Qj.mk b (Vl b.Draughts) (WY b.Draughts) (UZ b.Draughts)):=by
 unfold WS
 have key:(∃x,ZV (JO b) (0,Qj.mk b 0 0 0)=some (.inr (x,false))/\b.Draughts.all wg=false)∨(ZV (JO b) (0,Qj.mk b 0 0 0)=some (.inl<|Qj.mk b (Vl b.Draughts) (WY b.Draughts)<|UZ b.Draughts)/\b.Draughts.all wg=true):=by
  have go:∀(post pre:Q0 Qp),b.Draughts=pre++post->(∀d∈pre,bD d)->(∃x,ZV (JO b) ((pre.length:Int),Qj.mk b (Vl pre) (WY pre)<|UZ pre)=some (.inr (x,false))/\b.Draughts.all wg=false)∨(ZV (JO b) ((pre.length:Int),Qj.mk b (Vl pre) (WY pre)<|UZ pre)=some (.inl<|Qj.mk b (Vl b.Draughts) (WY b.Draughts)<|UZ b.Draughts)/\b.Draughts.all wg=true):=by
   intro post
   induction post with
   | nil=>
    intro pre e h;rw[mo] at e
    right;rw[<-e] at h ⊢
    refine⟨?_,by rw[IN];exact λd f=>(IM d).2<|h d f⟩;rw[ZK];unfold JO;simp
   | cons d post m=>
    intro pre e h;have l:=YJ e;have hi:=Xf e;cases f:wg d with
    | false=>
     left
     have i:JO b ((pre.length:Int),Qj.mk b (Vl pre) (WY pre)<|UZ pre)=some (.done<|.inr (Qj.mk b (Vl pre) (WY pre)<|UZ pre,false)):=by
      unfold JO;simp only[Zq,l,K1,QO,T6,f];simp only[show(decide<|(pre.length:Int) < (b.Draughts.length:Int))=true by simpa using hi,B1];simp
     refine⟨Qj.mk b (Vl pre) (WY pre)<|UZ pre,?_,?_⟩
     .rw[ZK,i]
     .rw[e,oG,ld,f];simp
    | true=>
     have c:=(IM d).1 f;have hs:=c.str;obtain⟨o,p,q,_⟩:=Nn pre h;have r:=Fa c (x:=d.Strength.Lo) hQ hQ;have s:=Fa c (x:=d.Strength.Hi) hQ hQ;have t:=c.amt
     have:=m (pre++[d]) (by rw[e];simp) λx g=>by
      rcases mb.1 g with g | g
      .exact h x g
      .simp only[ts] at g;subst g;exact c
     have i:JO b ((pre.length:Int),Qj.mk b (Vl pre) (WY pre)<|UZ pre)=some (.next (((pre++[d]).length:Int),Qj.mk b (Vl<|pre++[d]) (WY<|pre++[d])<|UZ<|pre++[d])):=by
      unfold JO;rw[EC,Np,Nq,bY,od,o3];simp only[Zq,l,K1,QO,T6,f];simp only[show(decide<|(pre.length:Int) < (b.Draughts.length:Int))=true by simpa using hi,B1];rw[Qs (n:=d.Amount*d.Strength.Lo) hQ hQ,Qs (n:=d.Amount*d.Strength.Hi) hQ hQ,Qs (n:=(pre.length:Int)+1) hQ hQ,Qs (n:=Vl pre+d.Amount) hQ hQ,Qs (n:=WY pre+d.Amount*d.Strength.Lo) hQ hQ,Qs (n:=UZ pre+d.Amount*d.Strength.Hi) hQ hQ];simp
     rw[ZK,i];exact this
  exact go b.Draughts [] rfl ic
 rcases key with⟨x,j,a⟩ | ⟨j,a⟩
 .refine⟨x,ZZ j ?_,λh=> ?_⟩
  .simp only[X1,a,iF]
  .simp only[X1,a,iF] at h;cases h
 .refine⟨Qj.mk b (Vl b.Draughts) (WY b.Draughts)<|UZ b.Draughts,ZZ j ?_,λ_=>rfl⟩;simp only[X1,a,ln];cases QY (b.Draughts.length:Int) 1 16<;>cases QY b.Water 0 17179869184<;>simp
end
section
open Go.Dec
variable{b:QV}{w:Int}
def vp(b:QV)(w:Int):QB:=QB.mk ((Vl b.Draughts+w)*(10000 - b.Shrink.Hi) / 10000) (((Vl b.Draughts+w)*(10000 - b.Shrink.Lo)+10000 - 1) / 10000)
def wy(b:QV)(w:Int):QB:=
 QB.mk (JS 10000<|WY b.Draughts*10000 / ((Vl b.Draughts+w)*(10000 - b.Shrink.Lo)))
  (JS 10000<|(UZ b.Draughts*10000+(Vl b.Draughts+w)*(10000 - b.Shrink.Hi) - 1) / ((Vl b.Draughts+w)*(10000 - b.Shrink.Hi)))
structure cY(b:QV)(w:Int):Prop where
 a:1<=Vl b.Draughts/\Vl b.Draughts<=17179869184
 l:0<=WY b.Draughts/\WY b.Draughts<=UZ b.Draughts/\UZ b.Draughts<=171798691840000
 lh:UZ b.Draughts<=10000*Vl b.Draughts
 small:9000<=(Vl b.Draughts+w)*(10000 - b.Shrink.Hi)/\(Vl b.Draughts+w)*(10000 - b.Shrink.Hi)<=343597383680000
 great:9000<=(Vl b.Draughts+w)*(10000 - b.Shrink.Lo)/\(Vl b.Draughts+w)*(10000 - b.Shrink.Lo)<=343597383680000
 le:(Vl b.Draughts+w)*(10000 - b.Shrink.Hi)<=(Vl b.Draughts+w)*(10000 - b.Shrink.Lo)
theorem cJ(h:Valid b)(g:0<=w)(i:w<=17179869184):cY b w:=by
 obtain⟨j,k,l,e⟩:=Nn b.Draughts h.ds;have m:=h.len;have hs:=h.shrink;have f:1<=Vl b.Draughts/\Vl b.Draughts<=17179869184:=by omega
 have d:∀x:Int,9000<=x->x<=10000->9000<=(Vl b.Draughts+w)*x/\(Vl b.Draughts+w)*x<=343597383680000:=by
  intro x a c;have n:1*9000<=(Vl b.Draughts+w)*x:=qAL hQ a hQ hQ;have o:(Vl b.Draughts+w)*x<=34359738368*10000:=qAL hQ c hQ hQ;omega
 exact⟨f,by omega,e,d _ hQ hQ,d _ hQ hQ,lk hQ hQ⟩
theorem L6(h:Valid b)(d:0<=w)(e:w<=17179869184):YI (Qj.mk b (Vl b.Draughts) (WY b.Draughts)<|UZ b.Draughts) w=some (vp b w):=by
 have c:=cJ h d e;have f:=c.a;have g:=c.small;have i:=c.great;have hs:=h.shrink;unfold YI HZ;simp only[QO];rw[Qs (n:=Vl b.Draughts+w) hQ hQ,Qs (n:=10000 - b.Shrink.Lo) hQ hQ,Qs (n:=10000 - b.Shrink.Hi) hQ hQ];rw[Qs (n:=(Vl b.Draughts+w)*(10000 - b.Shrink.Lo)) hQ hQ,Qs (n:=(Vl b.Draughts+w)*(10000 - b.Shrink.Hi)) hQ hQ];rw[Qs (n:=(Vl b.Draughts+w)*(10000 - b.Shrink.Lo)+10000) hQ hQ,Qs (n:=(Vl b.Draughts+w)*(10000 - b.Shrink.Lo)+10000 - 1) hQ hQ];rw[MB hQ hQ hQ];simp only[K1];rw[oP hQ,Qs hQ hQ];rfl
theorem Iz(h:Valid b)(d:0<=w)(e:w<=17179869184):Yr (Qj.mk b (Vl b.Draughts) (WY b.Draughts)<|UZ b.Draughts) w=some (wy b w):=by
 have c:=cJ h d e;have f:=c.a;have g:=c.small;have i:=c.great;have j:=c.l;have hs:=h.shrink;unfold Yr HZ;simp only[QO];rw[Qs (n:=Vl b.Draughts+w) hQ hQ,Qs (n:=10000 - b.Shrink.Lo) hQ hQ,Qs (n:=10000 - b.Shrink.Hi) hQ hQ];rw[Qs (n:=(Vl b.Draughts+w)*(10000 - b.Shrink.Lo)) hQ hQ,Qs (n:=(Vl b.Draughts+w)*(10000 - b.Shrink.Hi)) hQ hQ];rw[Qs (n:=WY b.Draughts*10000) hQ hQ,Qs (n:=UZ b.Draughts*10000) hQ hQ];rw[Qs (n:=UZ b.Draughts*10000+(Vl b.Draughts+w)*(10000 - b.Shrink.Hi)) hQ hQ,Qs (n:=UZ b.Draughts*10000+(Vl b.Draughts+w)*(10000 - b.Shrink.Hi) - 1) hQ hQ];rw[MB hQ hQ hQ,MB hQ hQ hQ];rfl
def Ga(l:Q0 Qp)(f:Qp->Int):Int:=match l with
 | []=>0
 | d::r=>r.foldl (λm x=>JS m<|f x)<|f d
theorem Ef(f:Qp->Int)(c:Int):∀(r:Q0 Qp) (m:Int),c<=r.foldl (λm x=>JS m<|f x) m↔c<=m/\∀d∈r,c<=f d
 | [],m=>by simp
 | d::r,m=>by
  rw[o1,Ef f c r];simp only[JS,A4,forall_eq_or_imp];constructor
  .rintro⟨e,a⟩;split at e
   .exact⟨by omega,by omega,a⟩
   .exact⟨by omega,by omega,a⟩
  .rintro⟨e,a,g⟩;exact⟨by split<;>omega,g⟩
theorem O7{l:Q0 Qp}{f:Qp->Int}{c:Int}(a:l≠[]):c<=Ga l f↔∀d∈l,c<=f d:=by
 cases l with
 | nil=>exact absurd rfl a
 | cons d r=>simp[Ga,Ef]
theorem yg{l:Q0 Qp}{d:Qp}{f:Qp->Int}(a:l≠[]):Ga (l++[d]) f=JS (Ga l f) (f d):=by
 cases l with
 | nil=>exact absurd rfl a
 | cons x r=>simp[Ga]
theorem MZ(l:Q0 Qp)(f:Qp->Int)(a:l≠[])(h:l.length<=1000):Ks l (λd=>some<|f d)=some (Ga l f):=by
 cases l with
 | nil=>exact absurd rfl a
 | cons d r=>
  simp only[L4] at h
  unfold Ks;have e:ZI (d::r) 0=some d:=rfl
  have g:Zc (d::r) 1 ((d::r).length:Int)=some r:=by
   unfold Zc;rw[DO (by simp only[L4];omega)];simp
  refine ZZ e<|ZZ rfl<|ZZ g ?_
  obtain⟨t',j,c⟩:=Ha (body:=UD (λd=>some<|f d) r) (λi (t:Int)=>(t,(i:Int))) (λt=>t) (λpre t=>t=Ga (d::pre) f) r
   (λpre x post t a k=>by
    have m:=YJ a;have hi:=Xf a;unfold UD;simp only[Zq,m,K1,QO];rw[Qs hQ hQ];simp only[show(decide<|(pre.length:Int) < (r.length:Int))=true by simpa using hi,B1];refine⟨_,rfl,?_⟩;rw[<-r7,yg ic,k])
   (λt _=>by unfold UD;simp) r [] (f d) rfl rfl
  simp only[qs,tO] at c
  exact ZZ c<|by rw[j]
def LW(l:Q0 Qp):Q0 Int:=l.foldl (λacc d=>if d.From.Number∈acc then acc else acc++[d.From.Number]) []
theorem yf(l:Q0 Qp)(d:Qp):LW (l++[d])=if d.From.Number∈LW l then LW l else LW l++[d.From.Number]:=by
 unfold LW;rw[List.foldl_append];rfl
theorem Rs(k:Int):∀ks:Q0 Int,Qq (ks.map λx=>(x,true)) k true=(if k∈ks then ks else ks++[k]).map λx=>(x,true)
 | []=>by simp[Qq]
 | x::ks=>by
  simp only[Of,Qq];by_cases h:k=x
  .subst h;simp
  .have a:(k==x)=false:=by simpa using h
   simp only[a,W1,Bm];rw[Rs k ks];by_cases c:k∈ks<;>simp[c,h]
theorem Mu(b:QV)(A L M:Int)(h:b.Draughts.length<=1000):V7 (Qj.mk b A L M)=some ((LW b.Draughts).length:Int):=by
 unfold V7
 obtain⟨t',d,a⟩:=Ha (body:=VN<|Qj.mk b A L M) (λi (t:Q0 (Int×Bool))=>(t,(i:Int))) (λt=>t) (λpre t=>t=(LW pre).map λx=>(x,true)) b.Draughts
  (λpre x post t c e=>by
   have f:=YJ c;have hi:=Xf c;unfold VN;simp only[Zq,f,K1,QO];rw[Qs hQ hQ];simp only[show(decide<|(pre.length:Int) < (b.Draughts.length:Int))=true by simpa using hi,B1];refine⟨_,rfl,?_⟩;rw[e,Rs,yf])
  (λt _=>by unfold VN;simp) b.Draughts [] [] rfl rfl
 simp only[qs,tO] at a
 exact ZZ a (by rw[d];simp)
structure jw(b:QV)(w:Int)(x:Qv):Prop where
 vol:x.Volume=vp b w
 str:x.Strength=wy b w
 age:x.Age=Ga b.Draughts λd=>d.From.Age
 woods:∀i,i < 8->x.Woods i=Ga b.Draughts λd=>d.From.Woods i
 places:∀i,i < 8->x.Places i=Ga b.Draughts λd=>d.From.Places i
 casks:x.Casks=((LW b.Draughts).length:Int)
theorem L8{α:Type}(f:Nat->α)(i:Nat)(x:α):ZF f i x i=x:=by simp[ZF]
theorem Nj{α:Type}{f:Nat->α}{i j:Nat}{x:α}(h:j≠i):ZF f i x j=f j:=by
 have:Nat.beq j i=false:=by
  cases a:Nat.beq j i with
  | true=>exact absurd (yb a) h
  | false=>rfl
 simp[ZF,this]
theorem qf(h:Valid b):∃x,Ys (Qj.mk b (Vl b.Draughts) (WY b.Draughts)<|UZ b.Draughts)=some x/\jw b b.Water x:=by
 have y:=h.len;have l:b.Draughts≠[]:=by intro e;rw[e] at y;simp at y
 unfold Ys;have C:=L6 h h.water.1 h.water.2;have D:=Iz h h.water.1 h.water.2;have E:=Mu b (Vl b.Draughts) (WY b.Draughts) (UZ b.Draughts) hQ;have F:Ks b.Draughts (λx=>some<|VE x)=some (Ga b.Draughts λd=>d.From.Age):=MZ b.Draughts (λd=>d.From.Age) l hQ;generalize a:({(Qv.mk (vp b b.Water) (wy b b.Water) 0 (λ_=>0) (λ_=>0) ((LW b.Draughts).length:Int)) with Age:=Ga b.Draughts λd=>d.From.Age}:Qv)=o
 obtain⟨m,⟨p,q⟩,z⟩:=GN (body:=VM<|Qj.mk b (Vl b.Draughts) (WY b.Draughts)<|UZ b.Draughts) (λi (t:Qv)=>((i:Int),t)) (λt=>t)
  (λn t=>(∀i,i < n->t.Woods i=Ga b.Draughts λd=>d.From.Woods i)/\∃f,t={o with Woods:=f}) 8
  (λi t hi ⟨r,f,s⟩=>by
   have u:Ks b.Draughts (λx=>Kr x (i:Int))=some (Ga b.Draughts λd=>d.From.Woods i):=by
    rw[show(λx=>Kr x (i:Int))=λx=>some (x.From.Woods i) from by
     funext x;unfold Kr;rw[H0 hi];rfl]
    exact MZ b.Draughts _ l hQ
   refine⟨{t with Woods:=ZF t.Woods i (Ga b.Draughts λd=>d.From.Woods i)},?_,λj G=> ?_,?_⟩
   .unfold VM;simp only[show(decide<|(i:Int) < 8)=true by simp;omega,B1];refine ZZ u<|ZZ (H0 hi) ?_;simp only[QO];rw[Qs hQ hQ];simp
   .show ZF t.Woods i _ j=_;by_cases c:j=i
    .subst c;exact L8 _ _ _
    .rw[Nj c];exact r j hQ
   .exact⟨ZF t.Woods i<|Ga b.Draughts λd=>d.From.Woods i,by rw[s]⟩)
  (λt _=>by unfold VM;simp) 8 0 o rfl ⟨λi hi=>by omega,o.Woods,rfl⟩
 obtain⟨A,⟨v,I,g⟩,B⟩:=GN (body:=VL<|Qj.mk b (Vl b.Draughts) (WY b.Draughts)<|UZ b.Draughts) (λi (t:Qv)=>((i:Int),t)) (λt=>t)
  (λn t=>(∀i,i < n->t.Places i=Ga b.Draughts λd=>d.From.Places i)/\∃f,t={m with Places:=f}) 8
  (λi t hi ⟨r,f,s⟩=>by
   have u:Ks b.Draughts (λx=>Kq x (i:Int))=some (Ga b.Draughts λd=>d.From.Places i):=by
    rw[show(λx=>Kq x (i:Int))=λx=>some (x.From.Places i) from by
     funext x;unfold Kq;rw[H0 hi];rfl]
    exact MZ b.Draughts _ l hQ
   refine⟨{t with Places:=ZF t.Places i (Ga b.Draughts λd=>d.From.Places i)},?_,λj G=> ?_,?_⟩
   .unfold VL;simp only[show(decide<|(i:Int) < 8)=true by simp;omega,B1];refine ZZ u<|ZZ (H0 hi) ?_;simp only[QO];rw[Qs hQ hQ];simp
   .show ZF t.Places i _ j=_;by_cases c:j=i
    .subst c;exact L8 _ _ _
    .rw[Nj c];exact r j hQ
   .exact⟨ZF t.Places i<|Ga b.Draughts λd=>d.From.Places i,by rw[s]⟩)
  (λt _=>by unfold VL;simp) 8 0 m rfl ⟨λi hi=>by omega,m.Places,rfl⟩
 simp only[tO] at z B
 obtain⟨K,k⟩:=q;refine⟨A,?_,?_⟩
 .refine ZZ C<|ZZ D<|ZZ E<|ZZ F ?_;simp only[QO];rw[a];exact ZZ z<|ZZ B rfl
 .have H:A.Woods=m.Woods:=by rw[g]
  refine⟨by rw[g,k,<-a],by rw[g,k,<-a],by rw[g,k,<-a],λi hi=>by rw[H];exact p i hi,v,by rw[g,k,<-a]⟩
theorem ky(b:QV)(a:b.Draughts.length<=1000):(X1 b=false/\UA b=some (Qv.mk (QB.mk 0 0) (QB.mk 0 0) 0 (λ_=>0) (λ_=>0) 0,1))∨(Valid b/\∃x,UA b=some (x,0)/\jw b b.Water x):=by
 obtain⟨x,he,d⟩:=Ow b a;unfold UA;cases c:X1 b with
 | false=>
  refine .inl ⟨rfl,ZZ he ?_⟩;rw[c];rfl
 | true=>
  have h:=(HS b).1 c;obtain⟨y,e,f⟩:=qf h;refine .inr ⟨h,y,ZZ he ?_,f⟩;rw[c,d c];simp only[RW,W1,Bm];exact ZZ e rfl
end
section
open Go.Dec
def Di(c:Qz):Bool:=
 if c.Kind==0 then ZQ c.Number else if c.Kind==1 then ZQ c.Number&&QY c.What 0 7 else if c.Kind==2 then ZQ c.Number&&QY c.What 0 7 else
 if c.Kind==7 then JW c.What&&JW c.Number else QY c.Kind 0 7
theorem kU(c:Qz):Wl c=some (Di c):=by
 unfold Wl Di
 repeat' split
 all_goals rfl
structure gC(c:Qz):Prop where
 kind:0<=c.Kind/\c.Kind<=7
 what:c.Kind=1∨c.Kind=2->0<=c.What/\c.What<=7
 str:c.Kind=7->(0<=c.What/\c.What<=10000)/\0<=c.Number/\c.Number<=10000
theorem gC.of{c:Qz}(h:Di c=true):gC c:=by
 unfold Di at h
 simp only[r6,QY,JW] at h
 repeat' split at h
 all_goals simp only[BY,TO,qAI,NY] at h
 all_goals exact⟨by omega,λh=>by omega,λh=>by omega⟩
theorem LY(s:Q0 Qz)(f:Qz->Bool)(c:s.length<=1000000):Jc s (λx=>some<|f x)=some (s.any f):=by
 unfold Jc Vv
 have key:=FT (body:=Ju s λx=>some<|f x) (λi (_:Unit)=>(i:Int)) (λ_ x=>if f x then 1 else 0) (λi _=>.inr (i:Int)) (λ_=>.inl ()) (λ_ _=>True) s
  (λpre x post t c j l=>by
   have m:=YJ c;have hi:=Xf c;unfold Ju;simp only[Zq,m,K1];rw[Qs hQ hQ];simp only[show(decide<|(pre.length:Int) < (s.length:Int))=true by simpa using hi,B1];cases k:f x with
   | true=>left;simp
   | false=>right;exact⟨by simp,(),by simp⟩)
  (λt _ _=>by unfold Ju;simp) s [] () rfl Wr.nil trivial
 simp only[qs,tO] at key
 rcases key with⟨p,x,⟨post,e,_,k⟩,d⟩ | ⟨j,t,l,d⟩
 .have g:f x=true:=by
   cases h:f x with
   | true=>rfl
   | false=>simp[h] at k
  have:s.any f=true:=by rw[e,List.any_append,qBJ,g];simp
  rw[this];refine ZZ (ZZ d rfl) ?_;simp
 .have:s.any f=false:=by
   rw[List.any_eq_false];intro y n;obtain⟨a,b,e⟩:=oN n;have:=j a y b e;intro h;simp[h] at this
  rw[this];exact ZZ (ZZ d rfl) ic
def Ge(l:Q0 Qz):Bool:=decide ((l.length:Int)<=32)&&l.all Di
theorem PT(l:Q0 Qz):Ul l=some (Ge l):=by
 unfold Ul Ge;by_cases h:(l.length:Int)<=32
 .have e:(λx=>Js x)=λx=>some (!Di x):=by
   funext x;unfold Js;rw[kU];rfl
  simp only[h,lL,B1,e];rw[LY l _ hQ];simp only[K1,ln,UV];rw[ob];simp
 .simp only[h,lP,W1,Bm,K1,iF]
def liesAt(p:Qz->Bool):Nat->Q0 Qz->Q0 Int
 | _,[]=>[]
 | i,c::l=>if p c then liesAt p (i+1) l else(i:Int)::liesAt p (i+1) l
theorem Au(p:Qz->Bool):∀(l k:Q0 Qz) (i:Nat),liesAt p i (l++k)=liesAt p i l++liesAt p (i+l.length) k
 | [],k,i=>by simp[liesAt]
 | c::l,k,i=>by
  simp only[r7,liesAt,L4,Au p l k<|i+1];rw[show i+1+l.length=i+(l.length+1) by omega];split<;>simp
theorem MY(p:Qz->Bool):∀(l:Q0 Qz) (i:Nat),(liesAt p i l).length<=l.length
 | [],i=>by simp[liesAt]
 | c::l,i=>by
  have:=MY p l<|i+1;simp only[liesAt];split<;>simp<;>omega
def Fl(b:QV)(x:Qv)(c:Qz):Bool:=
 if c.Kind=0 then decide (x.Age≥c.Number) else if c.Kind=1 then decide (x.Woods c.What.toNat≥c.Number) else if c.Kind=2 then decide (x.Places c.What.toNat≥c.Number) else if c.Kind=3 then x.Casks==1 else
 if c.Kind=4 then b.Water==0 else if c.Kind=5 then !b.Filtered else if c.Kind=6 then !b.Coloured else decide (x.Strength.Lo≥c.What - c.Number)&&decide (x.Strength.Hi<=c.What+c.Number)
theorem AK{i:Int}{n:Nat}(a:0<=i)(b:i < n):YY n i=some i.toNat:=by
 unfold YY;rw[DO ⟨a,b⟩]
theorem wu(b:QV)(A L M:Int)(x:Qv)(c:Qz)(h:gC c):((Yq<|ZN.mk (Qj.mk b A L M) x).bind λr=>(YY 8 c.Kind).bind λj=>(r j) c)=some (Fl b x c):=by
 have f:=h.kind;unfold Yq;simp only[K1];rw[AK hQ hQ];simp only[K1];have a:c.Kind=0∨c.Kind=1∨c.Kind=2∨c.Kind=3∨c.Kind=4∨c.Kind=5∨c.Kind=6∨c.Kind=7:=by omega
 unfold Fl;rcases a with e | e | e | e | e | e | e | e
 .rw[e];rfl
 .have d:=h.what<|.inl e;rw[e];show J1 c _=_;unfold J1;rw[AK hQ hQ];rfl
 .have d:=h.what<|.inr e;rw[e];show J0 c _=_;unfold J0;rw[AK hQ hQ];rfl
 .rw[e];rfl
 .rw[e];rfl
 .rw[e];rfl
 .rw[e];rfl
 .have hs:=h.str e;rw[e];show some (VD c _)=_;unfold VD;rw[Qs hQ hQ,Qs hQ hQ];rfl
theorem xP(b:QV)(A L M:Int)(x:Qv)(l:Q0 Qz)(n:l.length<=1000)(h:∀c∈l,gC c):UU (ZN.mk (Qj.mk b A L M) x) l=some (liesAt (Fl b x) 0 l):=by
 unfold UU;obtain⟨r,g⟩:∃r,Yq (ZN.mk (Qj.mk b A L M) x)=some r:=⟨_,rfl⟩;refine ZZ g ?_
 obtain⟨t',m,j⟩:=Ha (body:=Vi l r) (λi (t:Q0 Int)=>(t,(i:Int))) (λt=>t) (λpre t=>t=liesAt (Fl b x) 0 pre) l
  (λpre c post t d e=>by
   have f:=YJ d;have hi:=Xf d;have a:=wu b A L M x c<|h c<|S1 f;rw[g] at a
   simp only[K1] at a
   have o:=(h c<|S1 f).kind;rw[AK hQ hQ] at a
   simp only[K1] at a
   have k:=MY (Fl b x) pre 0;unfold Vi;simp only[Zq,f,K1];rw[Qs hQ hQ,AK hQ hQ];simp only[show(decide<|(pre.length:Int) < (l.length:Int))=true by simpa using hi,B1,K1,a];rw[Au];simp only[liesAt,s5];cases p:Fl b x c with
   | true=>exact⟨t,by simp,by simpa using e⟩
   | false=>
    refine⟨t++[(pre.length:Int)],?_,by rw[e];simp⟩;simp only[u1,B1];rw[Td (by rw[e];simp only[L4,qs];omega)];simp)
  (λt _=>by unfold Vi;simp) l [] [] rfl rfl
 simp only[qs,tO] at j
 exact ZZ j<|by rw[m]
theorem kZ(b:QV)(l:Q0 Qz)(j:b.Draughts.length<=1000)(k:l.length<=1000):((X1 b&&Ge l)=false/\Um b l=some ([],1))∨(Valid b/\Ge l=true/\(∀c∈l,gC c)/\∃x,jw b b.Water x/\UA b=some (x,0)/\Um b l=some (liesAt (Fl b x) 0 l,0)):=by
 obtain⟨x,he,g⟩:=Ow b j;unfold Um Hx UA;cases d:X1 b with
 | false=>
  refine .inl ⟨rfl,?_⟩;rw[he,d];rfl
 | true=>
  cases e:Ge l with
  | false=>
   refine .inl ⟨rfl,?_⟩;rw[he,d,PT,e];rfl
  | true=>
   have h:=(HS b).1 d;obtain⟨y,i,m⟩:=qf h
   have a:∀c∈l,gC c:=by
    simp only[Ge,BY,IN] at e
    exact λc f=>gC.of<|e.2 c f
   refine .inr ⟨h,rfl,a,y,m,?_,?_⟩
   .refine ZZ he ?_;rw[d,g d];simp only[RW,W1,Bm];exact ZZ i rfl
   .rw[he,d,PT,e,g d];simp only[K1,RW,W1,Bm,i];exact ZZ (xP b _ _ _ y l k a) rfl
end
end Go.Proofs.YthfjpbooaofjcaaGreatDoor.Bo
namespace Go.Proofs.YthfjpbooaofjcaaGreatDoor
section
open Go.Dec
def E3(c:H1):Bool:=decide (48<=c.toNat)&&decide (c.toNat<=57)
def Xq(s:Q0 H1):Nat:=s.foldl (λn c=>10*n+(c.toNat - 48)) 0
def B6(s:Q0 H1):Bool:= !(s==[])&&decide (s.length<=13)&&(!(s.head? ==some 48)||s==[48])&&s.all E3
def xN(s:Q0 H1):Out Qt Int:=if B6 s then .ok (Xq s:Int) else .pan ⟨8⟩
theorem Pe(s:Q0 H1)(c:H1):Xq (s++[c])=10*Xq s+(c.toNat - 48):=by simp[Xq]
theorem wm(s:Q0 H1)(h:s.all E3=true):Xq s < 10^s.length:=by
 induction s using SE with
 | niX=>simp[Xq]
 | snX l x b=>
  rw[oG,BY] at h
  have c:=b h.1
  have a:x.toNat<=57:=by
   have a:=h.2;simp only[ld,qAa,oc,E3,BY,TO] at a
   exact a.2
  rw[Pe,bY,od,Nat.pow_succ];omega
theorem jJ{s:Q0 H1}(h:s.all E3=true)(a:s.length<=13):Xq s < 10000000000000:=
 qAp (wm s h) (by
  have:=Nat.pow_le_pow_right (show 0 < 10 by omega) a;omega)
theorem cF(n:Int)(a:0<=n)(b:n<=255):IntKind.u8.wrap n=n:=by
 unfold IntKind.wrap;have:((2:Int)^IntKind.u8.bits)=256:=by decide
 simp[IntKind.bits,IntKind.signed] at*
 omega
theorem Rr(s:Q0 H1)(hs:s.length<=13):∀(post pre:Q0 H1),s=pre++post->pre.all E3=true->
  ZV (UL s) ((Xq pre:Int),(pre.length:Int))=some (if post.all E3 then .inl (Xq s:Int) else .inr ⟨8⟩)
 | [],pre,e,f=>by
  rw[mo] at e;subst e
  rw[ZK];unfold UL;simp[XQ]
 | c::post,pre,e,f=>by
  have hi:pre.length < s.length:=by rw[e];simp
  have d:(XQ s)[pre.length]? =some (c.toNat:Int):=by rw[e];simp[XQ]
  have l:=jJ f hQ;have m:c.toNat < 256:=c.toNat_lt
  have b:UL s ((Xq pre:Int),(pre.length:Int))=some (if E3 c then .next ((Xq (pre++[c]):Int),((pre++[c]).length:Int)) else .done (.inr ⟨8⟩)):=by
   unfold UL;simp only[Zq,d,K1,QO,Zk,show(decide<|(pre.length:Int) < ((XQ s).length:Int))=true by simpa[XQ] using hi,B1];by_cases a:E3 c=true
   .have g:=a;simp only[E3,BY,TO] at g
    have h:(!(decide ((48:Int)<=(c.toNat:Int))&&decide ((c.toNat:Int)<=57)))=false:=by simp;omega
    simp only[h,W1,Bm,Q5];rw[cF _ hQ hQ,Qs (n:=10*(Xq pre:Int)) hQ hQ,Qs (n:=(c.toNat:Int) - 48) hQ hQ,Qs hQ hQ,Qs hQ hQ];have i:10*(Xq pre:Int)+((c.toNat:Int) - 48)=(Xq (pre++[c]):Int):=by rw[Pe];omega
    have j:(pre.length:Int)+1=((pre++[c]).length:Int):=by simp
    rw[i,j,a];rfl
   .have h:(!(decide ((48:Int)<=(c.toNat:Int))&&decide ((c.toNat:Int)<=57)))=true:=by
     simp only[E3,BY,TO] at a
     simp;omega
    simp only[h,B1,Q5];simp[a]
  rw[ZK,b];cases a:E3 c with
  | false=>simp[a]
  | true=>
   have k:=Rr s hs post (pre++[c]) (by rw[e];simp) (by rw[oG,f];simp[a]);simp only[B1,k];simp[a]
theorem Rq(s:Q0 H1):XA s=some (xN s):=by
 unfold XA xN B6;cases s with
 | nil=>rfl
 | cons c l=>
  by_cases a:(c::l).length<=13
  .have b:((!((c::l)==([]:Q0 H1)))&&(decide<|((c::l).length:Int)<=13))=true:=by simp at a ⊢;omega
   simp only[b,B1];have g:ZI (c::l) 0=some c:=rfl;simp only[g,K1]
   have i:(((c.toNat:Int) != 48)||((c::l)==([48]:Q0 H1)))=(!((c::l).head? ==some 48)||(c::l)==[48]):=by
    congr 1;rw[ob];simp only[List.head?_cons,qBC,ne_eq,r8,oH,UV];constructor
    .intro h e;subst e;exact h rfl
    .intro h e;exact h<|qA8.1 (by rw[show(48:H1).toNat=48 from rfl];omega)
   rw[i];have d:(!((c::l)==([]:Q0 H1))&&decide ((c::l).length<=13))=true:=by simp at a ⊢;omega
   simp only[d,ln];have j:Y1 ([]:Q0 H1) (c::l)=some (c::l):=by unfold Y1;rw[DO (by simp at a ⊢;omega)];rfl
   cases k:(!((c::l).head? ==some 48)||(c::l)==[48]) with
   | false=>simp[Zk,Q5]
   | true=>
    have f:=Rr (c::l) a (c::l) [] rfl rfl;simp only[qs,tO,show(Xq []:Int)=0 from rfl] at f
    simp only[Zk,Q5,RW,W1,Bm,j,K1,f,ln];cases(c::l).all E3<;>rfl
  .have b:((!((c::l)==([]:Q0 H1)))&&(decide<|((c::l).length:Int)<=13))=false:=by simp at a ⊢;omega
   have d:(!((c::l)==([]:Q0 H1))&&decide ((c::l).length<=13))=false:=by simp at a ⊢;omega
   simp only[b,d,W1,Bm,K1,Zk,u1,B1,Q5,iF]
def Ya:Q0 H1->Q0 (Q0 H1)
 | []=>[[]]
 | c::l=>if c==32 then[]::Ya l else match Ya l with
  | []=>[[c]]
  | p::ps=>(c::p)::ps
theorem Ny:∀(s:Q0 H1),Ya s≠[]
 | []=>by simp[Ya]
 | c::l=>by
  unfold Ya;split
  .simp
  .split<;>simp
theorem E5:∀(s:Q0 H1),(Go.Lib.index s [32]= -1/\Ya s=[s])∨(∃i:Nat,Go.Lib.index s [32]=i/\i < s.length/\Ya s=s.take i::Ya (s.drop<|i+1))
 | []=>.inl ⟨rfl,rfl⟩
 | c::l=>by
  by_cases a:c=32
  .subst a;exact .inr ⟨0,rfl,by simp,by simp[Ya]⟩
  .have e:([32]:Q0 H1).isPrefixOf (c::l)=false:=by
    simp only[List.isPrefixOf,oc,oH,ne_eq];exact λh=>a h.symm
   have f:(c==32)=false:=by simpa using a
   rcases E5 l with⟨b,d⟩ | ⟨i,b,d,g⟩
   .refine .inl ⟨?_,?_⟩
    .unfold Go.Lib.index;rw[e,b];rfl
    .simp[Ya,f,d]
   .refine .inr ⟨i+1,?_,by simpa using d,?_⟩
    .unfold Go.Lib.index;rw[e,b];have:((i:Int)== -1)=false:=by rw[oH];omega
     simp[this]
    .simp[Ya,f,g]
def FB(s:Q0 H1):Out Qt (Q0 H1×Q0 Int):=match Ya s with
 | []=>.pan ⟨8⟩
 | w::ps=>if ps.all B6 then .ok (w,ps.map λp=>(Xq p:Int)) else .pan ⟨8⟩
theorem EZ(s:Q0 H1)(h:s.length<=1000000):(Ya s=[s]/\Jq ⟨s⟩ ()=some (s,false,⟨[]⟩))∨(∃p r,p.length+r.length < s.length/\Ya s=p::Ya r/\Jq ⟨s⟩ ()=some (p,true,⟨r⟩)):=by
 unfold Jq GU;simp only[show s.length < 4294967281 by omega,B1,K1,Go.Lib.cut];rcases E5 s with⟨a,b⟩ | ⟨i,a,b,c⟩
 .exact .inl ⟨b,by rw[a];rfl⟩
 .refine .inr ⟨s.take i,s.drop<|i+1,by simp;omega,c,?_⟩;rw[a];simp
theorem EN:∀(k:Nat) (s:Q0 H1) (acc:Q0 Int),s.length<=k->s.length<=1000000->acc.length+s.length<=1000000->
  ZV (KR ()) (acc,true,⟨s⟩)=some (if(Ya s).all B6 then .inl (acc++(Ya s).map (λp=>(Xq p:Int)),⟨[]⟩) else .inr ⟨8⟩)
 | k,s,acc,i,h,j=>by
  have d:∀x:Int,Y1 acc [x]=some (acc++[x]):=λx=>by unfold Y1;rw[DO ia]
  have e:∀a:Q0 Int,ZV (KR ()) (a,false,⟨[]⟩)=some (.inl (a,⟨[]⟩)):=λa=>by rw[ZK];rfl
  rcases EZ s h with⟨f,g⟩ | ⟨p,r,l,f,g⟩
  .have b:KR () (acc,true,⟨s⟩)=some (if B6 s then .next (acc++[(Xq s:Int)],false,⟨[]⟩) else .done (.inr ⟨8⟩)):=by
    unfold KR;simp only[B1,g,K1,Rq,xN];cases c:B6 s<;>simp[Q5,d]
   rw[ZK,b,f];cases c:B6 s<;>simp[c,e]
  .have b:KR () (acc,true,⟨s⟩)=some (if B6 p then .next (acc++[(Xq p:Int)],true,⟨r⟩) else .done (.inr ⟨8⟩)):=by
    unfold KR;simp only[B1,g,K1,Rq,xN];cases c:B6 p<;>simp[Q5,d]
   rw[ZK,b,f];cases c:B6 p with
   | false=>simp[c]
   | true=>
    cases k with
    | zero=>omega
    | succ k=>
     simp only[B1,EN k r (acc++[(Xq p:Int)]) hQ hQ ia];simp[c]
theorem yR(s:Q0 H1)(h:s.length<=100000):V2 ⟨s⟩ ()=some (match FB s with | .ok r=>.ok (r.1,r.2,⟨[]⟩) | .pan e=>.pan e):=by
 unfold V2 FB;rcases EZ s hQ with⟨a,b⟩ | ⟨p,r,c,a,b⟩
 .simp only[b,K1,a];rw[ZK];unfold KR;simp
 .simp only[b,K1,a];rw[EN r.length r [] (So _) hQ ia];cases d:(Ya r).all B6<;>simp
def kg:Nat->Nat->Q0 H1
 | 0,_=>[]
 | k+1,u=>if u < 10 then[UInt8.ofNat<|48+u] else kg k (u / 10)++[UInt8.ofNat<|48+u%10]
theorem IL:∀(k u:Nat),u < 10^k->0 < k->kg k u=Go.Lib.decDigits u
 | 0,u,_,h=>absurd h (Nat.lt_irrefl 0)
 | k+1,u,h,_=>by
  rw[Go.Lib.decDigits];unfold kg;by_cases a:u < 10
  .rw[DO a,dif_pos a]
  .rw[Do a,dif_neg a];rw[Nat.pow_succ] at h
   cases k with
   | zero=>omega
   | succ k=>rw[IL (k+1) (u / 10) hQ hQ]
def Ep(n:Int):Q0 H1:=if n < 0 then 45::kg 20 n.natAbs else kg 20 n.toNat
def Im(n:Int):Bool:=decide (-9223372036854775808<=n)&&decide (n<=9223372036854775807)
theorem ym{n:Int}(h:Im n=true):XY n=some (Ep n):=by
 simp only[Im,BY,TO] at h
 unfold XY Ep Go.Lib.itoa;rw[DO h];congr 1;split
 .rw[IL _ _ hQ hQ]
 .rw[IL _ _ hQ hQ]
theorem GP{s t:Q0 H1}(h:s.length+t.length<=4294967296):Sf s t=some (s++t):=by unfold Sf;rw[DO h]
theorem Ml:∀(k u:Nat),(kg k u).length<=k
 | 0,_=>So _
 | k+1,u=>by
  unfold kg;split
  .simp
  .have:=Ml k<|u / 10;simp;omega
theorem Eo(n:Int):(Ep n).length<=21:=by
 unfold Ep;split
 .have:=Ml 20 n.natAbs;simp;omega
 .have:=Ml 20 n.toNat;omega
def Hm(word:Q0 H1)(l:Q0 Int):Q0 H1:=word++l.flatMap λn=>32::Ep n
theorem Rc(w:Q0 H1)(l:Q0 Int)(x:Int):Hm w (l++[x])=Hm w l++32::Ep x:=by simp[Hm]
theorem Ng(w:Q0 H1)(l:Q0 Int):(Hm w l).length<=w.length+22*l.length:=by
 induction l using SE with
 | niX=>simp[Hm]
 | snX l x a=>have:=Eo x;rw[Rc];simp;omega
theorem N6{w:Q0 H1}{l:Q0 Int}(g:w.length<=1000)(j:l.length<=100000)(h:l.all Im=true):Jo w l=some (Hm w l):=by
 unfold Jo;rw[GP ia]
 obtain⟨t,a,b⟩:=Ha (body:=Xn l) (λi (t:Q0 H1)=>((i:Int),t)) (λt=>t) (λpre t=>t=Hm w pre) l
  (λpre x post t e a=>by
   have c:=YJ e;have hi:=Xf e;have d:Im x=true:=by rw[e,oG,ld] at h;simp only[BY] at h;exact h.2.1
   have k:=Ng w pre;have m:=Eo x;subst a;refine⟨Hm w<|pre++[x],?_,rfl⟩;unfold Xn;simp only[Zq,c,K1,show(decide<|(pre.length:Int) < (l.length:Int))=true by simpa using hi,B1];rw[GP ia,K1,ym d,K1,GP ia,K1,Qs hQ hQ,Rc];simp)
  (λt _=>by unfold Xn;simp) l [] (Hm w []) rfl rfl
 simp only[qs,tO] at b
 have f:Hm w []=w:=by simp[Hm]
 rw[f] at b
 simp only[lQ,K1];exact ZZ b<|by rw[a]
end
section
open Go.Dec
variable{α β:Type}{l:Q0 QJ}{m p:Q2 α}
def Le(p m:Q2 α):Prop:=∀x,p=some x->m=some x
theorem Le.rfl:Le p p:=λ_ h=>h
theorem Le.of(h:m=p):Le p m:=λ_ e=>h.trans e
theorem Le.none:Le .none m:=λ_ e=>by cases e
theorem Le.bind{α β:Type}{p m:Q2 α}{f g:α->Q2 β}(h:Le p m)(k:∀x,Le (f x)<|g x):Le (p.bind f) (m.bind g):=by
 intro y e;cases a:p with
 | none=>rw[a] at e;cases e
 | some x=>rw[a] at e;rw[h x a];exact k x y e
theorem Le.ct{p:Q2 β}{g:α->Q2 β}(x:α)(h:m=some x)(k:Le p (g x)):Le p (m.bind g):=by rw[h];exact k
theorem Le.ite{c:Bool}{a b d b' :Q2 α}(h:Le a d)(h' :Le b b'):Le (if c then a else b) (if c then d else b'):=by cases c<;>assumption
theorem Le.guard{c:Prop}[Decidable c]{a b:Q2 α}(h:c->Le a b):Le (if c then a else .none) b:=by
 by_cases d:c
 .rw[DO d];exact h d
 .rw[Do d];exact Le.none
abbrev RO(α:Type):=Q2<|Out Qt α
abbrev RL:=RO<|Q0 H1×QA
def Ux(b:Bool)(e:Int)(k:RO β):RO β:=if b then k else some (.pan ⟨e⟩)
def Hl(x:RO α)(k:α->RO β):RO β:=Q5 x (λq=>some<|.pan q) k
theorem AH(b:Bool)(e:Int):Zk b e=some (if b then .ok () else .pan ⟨e⟩):=by cases b<;>rfl
theorem PF(e:Int):KY e=some (if e==0 then .ok () else .pan ⟨e⟩):=by
 unfold KY;rw[AH];cases e==0<;>rfl
theorem Le.s3{b:Bool}{e:Int}{p:RO β}{g:Unit->RO β}(h:Le p (g ())):Le (Ux b e p) (Q5 (Zk b e) (λq=>some<|.pan q) g):=by
 rw[AH];cases b
 .exact Le.rfl
 .exact h
theorem Le.check{e:Int}{p:RO β}{g:Unit->RO β}(h:Le p (g ())):Le (Ux (e==0) e p) (Q5 (KY e) (λq=>some<|.pan q) g):=by
 rw[PF];unfold Ux;cases e==0
 .exact Le.rfl
 .exact h
theorem Le.aD{p m:RO α}{f g:α->RO β}(h:Le p m)(k:∀x,Le (f x)<|g x):Le (Hl p f) (Q5 m (λq=>some<|.pan q) g):=by
 intro y e;unfold Hl at e
 cases a:p with
 | none=>rw[a] at e;cases e
 | some x=>
  rw[a] at e;rw[h x a]
  cases x with
  | ok x=>exact k x y e
  | pan q=>exact e
theorem W2{l k:Q0 α}(h:l.length+k.length<=4000000):Y1 l k=some (l++k):=by unfold Y1;rw[DO hQ]
def Cn(L:QA)(x:QE):RO QA:=if L.casks.length<=1000000 then Ux ((Ca.PU (L.casks++[{x with Day:=L.day}]) L.day).2.2==0) (Ca.PU (L.casks++[{x with Day:=L.day}]) L.day).2.2 (some<|.ok {L with casks:=L.casks++[{x with Day:=L.day}]}) else none
theorem FX(L:QA)(x:QE):Le (Cn L x) (Zg L () x):=by
 refine Le.guard λh=> ?_;unfold Zg;simp only[QO];refine Le.ct _ (W2 ia)<|Le.ct _ (Ca.AU _ _)<|Le.check Le.rfl
def atR(L:QA)(c:Int):Za×Int:=Ca.SC L.casks c L.day
theorem OC(L:QA)(c:Int):Ke L () c=some (atR L c):=by
 unfold Ke;rw[Ca.gE];rfl
def Cj(r:Qw)(l:Q0 QQ)(day:Int):ZR×Int×Int:=Ex.fE<|Ex.JV r l day
def Bb(L:QA)(x:QQ):RO QA:=match L.rules with
 | none=>none
 | some r=>if r.Rates.length<=1000000/\L.duties.length<=1000000 then Ux ((Cj r (L.duties++[{x with Day:=L.day}]) L.day).2.2==0) (Cj r (L.duties++[{x with Day:=L.day}]) L.day).2.2 (some<|.ok {L with duties:=L.duties++[{x with Day:=L.day}]}) else none
theorem PD(L:QA)(x:QQ):Le (Bb L x) (Ka L () x):=by
 unfold Bb;cases a:L.rules with
 | none=>exact Le.none
 | some r=>
  refine Le.guard λh=> ?_;unfold Ka;simp only[QO];refine Le.ct _ (W2 ia) ?_;rw[a];simp only[K1];rw[Ex.AU h.1 hQ];exact Le.check Le.rfl
def xF(l:Q0 QJ):Q0 Int:=l.flatMap λe=>[e.First,e.Last+1]
open Bo in
def xp(P:Int->Bool)(pre:Q0 QJ)(x:QJ):Bool:=(x.First::xF pre).all λn=> !decide (has x n)||P n
theorem uY(n:Int):∀(l:Q0 Int) (a:Int),a<=n->∃m,m<=n/\a<=m/\(m=a∨m∈l)/\∀p∈l,p<=n->p<=m
 | [],a,h=>⟨a,h,y0 _,.inl rfl,by simp⟩
 | p::l,a,h=>by
  by_cases i:p<=n/\a<=p
  .obtain⟨m,e,f,b,g⟩:=uY n l p i.1;refine⟨m,e,by omega,?_,?_⟩
   .rcases b with b | b
    .exact .inr<|by simp[b]
    .exact .inr<|by simp[b]
   .intro q c d;rcases A4.1 c with rfl | c
    .exact f
    .exact g q c d
  .obtain⟨m,e,f,b,g⟩:=uY n l a h;refine⟨m,e,f,?_,?_⟩
   .rcases b with b | b
    .exact .inl b
    .exact .inr<|by simp[b]
   .intro q c d;rcases A4.1 c with rfl | c
    .omega
    .exact g q c d
open Bo in
theorem y4{n m:Int}:∀(l:Q0 QJ),(∀e∈l,has e n↔has e m)->cur l n=cur l m:=by
 intro l
 induction l using SE with
 | niX=>intro _;rfl
 | snX l x b=>
  intro h;rw[Bd,Bd,b λe he=>h e<|by simp[he]];have:=h x ic;by_cases a:has x n
  .rw[DO a,DO<|this.1 a]
  .rw[Do a,Do λk=>a<|this.2 k]
open Bo in
theorem jt{P:Int->Bool}{pre:Q0 QJ}{x:QJ}(f:∀n m,cur pre n=cur pre m->P n=P m):xp P pre x=true↔∀n,has x n->P n=true:=by
 unfold xp;rw[IN];constructor
 .intro h n a;obtain⟨m,g,i,b,d⟩:=uY n (xF pre) x.First a.1;have j:=h m (by rcases b with b | b<;>simp[b]);have c:has x m:=⟨i,qBU g a.2⟩
  have e:cur pre n=cur pre m:=y4 pre λe he=>by
   have k:e.First<=n->e.First<=m:=d e.First (by unfold xF;simp only[List.mem_flatMap];exact⟨e,he,by simp⟩);have o:e.Last+1<=n->e.Last+1<=m:=d (e.Last+1) (by unfold xF;simp only[List.mem_flatMap];exact⟨e,he,by simp⟩);unfold has;omega
  rw[f n m e];simpa[c] using j
 .intro h n _;by_cases a:has x n
  .simp[a,h n a]
  .simp[a]
open Bo in
def qi(l:Q0 QJ)(n:Int):Bool:=match cur l n with | none=>false | some e=>e.Kind==0
open Bo in
theorem yp{n:Int}:qi l n=true↔hand l n:=by
 unfold qi hand;cases cur l n<;>simp
open Bo in
def ka(pre:Q0 QJ)(x:QJ):Int:=if !xM x then 1 else if x.Kind==0 then(if xp (λn=>(cur pre n).isNone) pre x then 0 else 5) else if xp (qi pre) pre x then 0 else 4
open Bo in
theorem II(pre:Q0 QJ)(x:QJ):UK pre x=ka pre x:=by
 unfold UK ka;by_cases g:xM x=false
 .rw[DO g];simp[g]
 rw[Do g];have i:xM x=true:=by simpa using g
 simp only[i,RW,W1,Bm];by_cases f:x.Kind=0
 .have b:=jt (P:=λn=>(cur pre n).isNone) (pre:=pre) (x:=x) λn m e=>by rw[e]
  simp only[Option.isNone_iff_eq_none] at b
  have d:(x.Kind==0)=true:=by simpa using f
  rw[d,DO rfl,Do (c:=x.Kind≠0/\_) λh=>h.1 f];by_cases a:x.Kind=0/\∃n,has x n/\cur pre n≠none
  .rw[DO a,Do];intro h;obtain⟨_,n,j,k⟩:=a;exact k<|b.1 h n j
  .rw[Do a,DO];exact b.2 λn o=>oC λh=>a ⟨f,n,o,h⟩
 .have b:=jt (P:=qi pre) (pre:=pre) (x:=x) λn m e=>by unfold qi;rw[e]
  simp only[yp] at b
  have d:(x.Kind==0)=false:=by simpa using f
  rw[d,Do (c:=x.Kind=0/\_) λh=>f h.1];simp only[W1,Bm];by_cases a:x.Kind≠0/\∃n,has x n/\¬hand pre n
  .rw[DO a,Do];intro h;obtain⟨_,n,j,k⟩:=a;exact k<|b.1 h n j
  .rw[Do a,DO];exact b.2 λn o=>oC λh=>a ⟨f,n,o,h⟩
def Lb:Q0 QJ->Q0 QJ->Int
 | _,[]=>0
 | pre,x::l=>if ka pre x==0 then Lb (pre++[x]) l else ka pre x
open Bo in
theorem uy{p:Q0 QJ}{x:QJ}(h:S9 UK l p x):∀(r q:Q0 QJ),p=q++r->Wr UK p->Lb q (l.drop q.length)=UK p x:=by
 obtain⟨post,rfl,_,c⟩:=h;intro r
 induction r with
 | nil=>
  intro q e _;rw[mo] at e
  subst e;have a:(p++x::post).drop p.length=x::post:=by simp
  rw[a];unfold Lb;rw[<-II];have:(UK p x==0)=false:=by simpa using c
  rw[this];rfl
 | cons y r d=>
  intro q e b
  have a:(p++x::post).drop q.length=y::(p++x::post).drop (q++[y]).length:=by
   rw[e];simp
  rw[a];unfold Lb;rw[<-II,b q y r e];exact d (q++[y]) (by rw[e];simp) b
open Bo in
theorem jj(h:Wr UK l):∀(r q:Q0 QJ),l=q++r->Lb q r=0
 | [],q,_=>rfl
 | y::r,q,e=>by
  unfold Lb;rw[<-II,h q y r e];exact jj h r (q++[y]) (by rw[e];simp)
def GH(l:Q0 QJ):Int:=Lb [] l
open Bo in
theorem TB(l:Q0 QJ)(h:l.length<=256):∃b i,YX l=some (b,i,GH l)/\(GH l=0->Wr UK l):=by
 rcases Ri l h with⟨p,x,c,d⟩ | ⟨a,j,_,_,_,d⟩
 .have a:Wr UK p:=by obtain⟨post,e,a,_⟩:=c;exact a
  have e:GH l=UK p x:=uy c p [] rfl a;rw[e];exact⟨_,_,d,λf=>by obtain⟨post,_,_,g⟩:=c;exact absurd f g⟩
 .have e:GH l=0:=jj a l [] rfl;rw[e];exact⟨_,_,d,λ_=>a⟩
def Ph(L:QA)(x:QJ):RO QA:=if L.stamps.length < 256 then Ux (GH (L.stamps++[x])==0) (GH<|L.stamps++[x]) (some<|.ok {L with stamps:=L.stamps++[x]}) else none
theorem Nw(L:QA)(x:QJ):Le (Ph L x) (JE L () x):=by
 refine Le.guard λh=> ?_;unfold JE;refine Le.ct _ (W2 ia) ?_;obtain⟨b,i,a,_⟩:=TB (L.stamps++[x]) ia;refine Le.ct _ a<|Le.check Le.rfl
end
section
open Go.Dec
abbrev zd:Q0 H1:=[111,107]
def kH(L:QA):RL:=some<|.ok (zd,L)
def fU(L:QA):Q0 Int->RL
 | [d]=>Ux (decide<|d<=65536) 2 (Ux (decide<|d≥L.day) 7<|kH {L with day:=d})
 | _=>none
theorem fT(L:QA)(n:Q0 Int):Le (fU L n) (Kk L () n):=by
 rcases n with _ | ⟨d,_ | ⟨_,_⟩⟩
 .exact Le.none
 .unfold Kk;exact Le.ct d rfl<|Le.s3<|Le.ct d rfl<|Le.s3<|Le.ct d rfl Le.rfl
 .exact Le.none
def U0:Q0 Int->Q2 (Q0<|Int×Int)
 | []=>some []
 | [_]=>none
 | a::b::l=>(U0 l).map ((a,b):: ·)
def zk:Q0 Int->Q0 (Q0 Int)
 | []=>[]
 | [a]=>[[a]]
 | a::b::l=>[a,b]::zk l
theorem Mr(l:Q0 Int):∀(d a:Nat),l.length<=a+2*d->Se 2 l d a=zk (l.drop a)
 | 0,a,h=>by
  have:l.drop a=[]:=x4 hQ;rw[this];rfl
 | d+1,a,h=>by
  unfold Se;have c:=Mr l d (a+2) hQ;by_cases b:a < l.length
  .rw[DO b,c];have e:l.drop (a+2)=(l.drop a).drop 2:=by rw[o8]
   rw[e];rcases hd:l.drop a with _ | ⟨x,_ | ⟨y,r⟩⟩
   .have:(l.drop a).length=l.length - a:=oJ;rw[hd] at this
    simp at this
    omega
   .rfl
   .rfl
  .rw[Do b];have:l.drop a=[]:=x4 hQ;rw[this];rfl
theorem Ms(l:Q0 Int)(h:l.length<=1000000):Vn l 2=some (zk l):=by
 unfold Vn WM;simp only[show decide ((2:Int) < 1)=false by decide,W1,Bm,K1];rw[DO hQ];have:=Mr l l.length 0 hQ;rw[show((2:Int).toNat)=2 from rfl,this];rfl
theorem Fw:∀{l:Q0 Int} {ps:Q0 (Int×Int)},U0 l=some ps->zk l=ps.map (λp=>[p.1,p.2])/\2*ps.length=l.length
 | [],ps,h=>by simp only[U0,UV] at h;subst h;exact⟨rfl,rfl⟩
 | [_],ps,h=>by cases h
 | a::b::l,ps,h=>by
  simp only[U0,lW] at h
  obtain⟨e,c,rfl⟩:=h;obtain⟨d,f⟩:=Fw c;exact⟨by simp[zk,d],by simp;omega⟩
theorem N9(r:Qw):∀(ps:Q0 (Int×Int)) (acc:Q0 Ze),acc.length+ps.length<=1000000->
  VH Je (ps.map λp=>[p.1,p.2]) {r with Rates:=acc}=some {r with Rates:=acc++ps.map λp=>⟨p.1,p.2⟩}
 | [],acc,_=>by simp[VH]
 | p::ps,acc,h=>by
  simp only[Of,VH]
  have a:Je [p.1,p.2] {r with Rates:=acc}=some {r with Rates:=acc++[⟨p.1,p.2⟩]}:=by
   unfold Je;have b:ZI [p.1,p.2] 0=some p.1:=rfl;have c:ZI [p.1,p.2] 1=some p.2:=rfl;simp only[b,c,K1];rw[W2 (by simp at h ⊢;omega)];rfl
  rw[a,K1,N9 r ps (acc++[(⟨p.1,p.2⟩:Ze)]) (by simp at h ⊢;omega)];simp
def VZ(a b c:Int)(ps:Q0 (Int×Int)):Qw:=⟨ps.map λp=>⟨p.1,p.2⟩,a,b,c⟩
def zr(L:QA):Q0 Int->RL
 | a::b::c::d=>if d.length<=1000000 then(U0 d).bind λps=>Ux L.rules.isNone 5 (Ux (Ex.Gv<|VZ a b c ps) 1<|kH {L with rules:=some (VZ a b c ps)}) else none
 | _=>none
theorem uF(L:QA)(n:Q0 Int):Le (zr L n) (KK L () n):=by
 rcases n with _ | ⟨a,_ | ⟨b,_ | ⟨c,d⟩⟩⟩
 .exact Le.none
 .exact Le.none
 .exact Le.none
 refine Le.guard λh=> ?_;cases e:U0 d with
 | none=>exact Le.none
 | some ps=>
  obtain⟨f,i⟩:=Fw e;unfold KK;simp only[K1];refine Le.s3<|Le.ct a rfl<|Le.ct b rfl<|Le.ct c rfl<|Le.ct d ?_<|Le.ct (zk d) (Ms d h) ?_
  .unfold Zc;rw[DO ia];simp only[lV,L4,UV];exact IF ic
  rw[f];refine Le.ct (VZ a b c ps) ?_ ?_
  .have:=N9 ⟨[],a,b,c⟩ ps [] ia;simpa[VZ] using this
  refine Le.ct _ (Ex.vc (by simp[VZ];omega)) ?_;cases j:Ex.Gv (VZ a b c ps) with
  | false=>simp only[u1,B1];rw[PF];exact Le.rfl
  | true=>
   simp only[RW,W1,Bm];have g:(!Ex.XB 0 0 17179869184|| !Ex.XB 0 0 65536)=false:=by decide
   rw[g,PF];exact Le.rfl
def ua(L:QA):Q0 Int->RL
 | [c,w,p,m,o]=>Ux (decide<|m<=1073741824) 2 (Hl (Cn L ⟨0,0,c,w,o,0,m,p⟩) kH)
 | _=>none
theorem xO(L:QA)(n:Q0 Int):Le (ua L n) (Ko L () n):=by
 rcases n with _ | ⟨c,_ | ⟨w,_ | ⟨p,_ | ⟨m,_ | ⟨o,_ | ⟨_,_⟩⟩⟩⟩⟩⟩
 iterate 5 exact Le.none
 .unfold Ko;exact Le.ct m rfl<|Le.s3<|Le.ct c rfl<|Le.ct w rfl<|Le.ct p rfl<|Le.ct m rfl<|Le.ct o rfl<|Le.aD (FX _ _) λ_=>Le.rfl
 .exact Le.none
def WN(L:QA)(c:Int):Int:=(QZ L.pure c).getD 0
def BS(n s:Int):Int:=Qy<|Int.tdiv (Qy<|n*s) 10000
def filled(L:QA)(c pure:Int):RO QA:=if pure > 0 then Hl (Bb L ⟨0,0,(atR L c).1.Place,0,0,pure⟩) λa=>some (.ok {a with pure:=Qq a.pure c (Qy<|WN a c+pure)}) else some<|.ok L
def uv(L:QA):Q0 Int->RL
 | [c,n,s]=>Ux (decide (1<=s)&&decide (s<=10000)) 2 (Hl (Cn L ⟨1,0,c,0,0,0,n,0⟩) λa=>Hl (filled a c<|BS n s) kH)
 | _=>none
theorem xb(L:QA)(n:Q0 Int):Le (uv L n) (K0 L () n):=by
 rcases n with _ | ⟨c,_ | ⟨n,_ | ⟨s,_ | ⟨_,_⟩⟩⟩⟩
 iterate 3 exact Le.none
 .unfold K0;refine Le.ct s rfl<|Le.ct (decide (1<=s)&&decide (s<=10000)) ?_<|Le.s3<|Le.ct c rfl<|Le.ct n rfl<|Le.aD (FX _ _) λb=>Le.ct n rfl<|Le.ct s rfl ?_
  .cases h:decide (1<=s)<;>rfl
  simp only[QO];unfold filled Hl BS WN;by_cases d:Qy (Int.tdiv (Qy<|n*s) 10000) > 0
  .simp only[d,lL,B1];rw[show ZI [c,n,s] 0=some c from rfl,K1,OC,K1];intro y e;cases a:Bb b ⟨0,0,(atR b c).1.Place,0,0,Qy<|Int.tdiv (Qy<|n*s) 10000⟩ with
   | none=>rw[a] at e;cases e
   | some r=>
    rw[a] at e
    rw[PD _ _ r a];cases r<;>exact e
  .simp only[d,lP,W1,Bm];exact Le.rfl
 .exact Le.none
def MK(L:QA)(c:Za)(amount:Int):Q2 Int:=if amount==c.Amount then some (WN L c.Number) else B5 .i64 (Qy<|WN L c.Number*amount) c.Amount
theorem jQ(L:QA)(c:Za)(amount:Int):Le (MK L c amount) (YE L () c amount):=by
 unfold MK YE;refine Le.ite Le.rfl<|Le.of ?_;unfold WN;cases B5 .i64 (Qy<|(QZ L.pure c.Number).getD 0*amount) c.Amount<;>rfl
def MP(L:QA)(fro to n:Int):RO QA:=if n==0||fro==to then some (.ok L) else Hl (Bb L ⟨1,0,fro,to,L.ids,n⟩) λa=>Hl (Bb a ⟨2,0,to,0,a.ids,n⟩) λb=>some<|.ok {b with ids:=Qy (b.ids+1)}
theorem jW(L:QA)(fro to n:Int):Le (MP L fro to n) (YF L () fro to n):=by
 unfold YF;exact Le.ite Le.rfl<|Le.aD (PD _ _) λ_=>Le.aD (PD _ _) λ_=>Le.rfl
def Ho(L:QA)(c v:Int):QA:={L with pure:=Qq L.pure c v}
def uI(L:QA):Q0 Int->RL
 | [a,b,n]=>Hl (Cn L ⟨2,0,a,b,0,0,n,0⟩) λd=>(MK d (atR L a).1 n).bind λp=>Hl (MP d (atR L a).1.Place (atR L b).1.Place p) λc=>
  kH (Ho (Ho c a<|Qy<|WN c a - p) b<|Qy<|WN (Ho c a<|Qy<|WN c a - p) b+p)
 | _=>none
theorem xD(L:QA)(n:Q0 Int):Le (uI L n) (Ky L () n):=by
 rcases n with _ | ⟨a,_ | ⟨b,_ | ⟨n,_ | ⟨_,_⟩⟩⟩⟩
 iterate 3 exact Le.none
 .unfold Ky;refine Le.ct a rfl<|Le.ct _ (OC _ _)<|Le.ct b rfl<|Le.ct _ (OC _ _)<|Le.ct a rfl<|Le.ct b rfl<|Le.ct n rfl<|Le.aD (FX _ _) λc=>Le.ct n rfl ?_;refine Le.bind (jQ _ _ _) λp=>Le.aD (jW _ _ _ _) λd=>Le.ct a rfl ?_;simp only[QO];refine Le.ct b rfl Le.rfl
 .exact Le.none
def kr(L:QA):Q0 Int->RL
 | [a,p]=>Hl (Cn L ⟨4,0,a,0,0,0,0,p⟩) λb=>Hl (MP b (atR L a).1.Place p<|WN b a) kH
 | _=>none
theorem wI(L:QA)(n:Q0 Int):Le (kr L n) (Kn L () n):=by
 rcases n with _ | ⟨a,_ | ⟨p,_ | ⟨_,_⟩⟩⟩
 iterate 2 exact Le.none
 .unfold Kn;exact Le.ct a rfl<|Le.ct _ (OC _ _)<|Le.ct a rfl<|Le.ct p rfl<|Le.aD (FX _ _) λb=>Le.ct p rfl<|Le.ct a rfl<|Le.aD (jW _ _ _ _) λc=>Le.rfl
 .exact Le.none
def Nk(k:Int)(L:QA):Q0 Int->RL
 | [c,p,t]=>Hl (Cn L ⟨k,0,c,0,p,t,0,0⟩) kH
 | _=>none
theorem w8(L:QA)(n:Q0 Int):Le (Nk 5 L n) (Kx L () n):=by
 rcases n with _ | ⟨a,_ | ⟨b,_ | ⟨n,_ | ⟨_,_⟩⟩⟩⟩
 iterate 3 exact Le.none
 .unfold Kx;exact Le.ct a rfl<|Le.ct b rfl<|Le.ct n rfl<|Le.aD (FX _ _) λ_=>Le.rfl
 .exact Le.none
theorem yU(L:QA)(n:Q0 Int):Le (Nk 6 L n) (Kb L () n):=by
 rcases n with _ | ⟨a,_ | ⟨b,_ | ⟨n,_ | ⟨_,_⟩⟩⟩⟩
 iterate 3 exact Le.none
 .unfold Kb;exact Le.ct a rfl<|Le.ct b rfl<|Le.ct n rfl<|Le.aD (FX _ _) λ_=>Le.rfl
 .exact Le.none
def uo(L:QA):Q0 Int->RL
 | [c,p]=>Hl (Cn L ⟨7,0,c,0,p,0,0,0⟩) kH
 | _=>none
theorem xY(L:QA)(n:Q0 Int):Le (uo L n) (Kz L () n):=by
 rcases n with _ | ⟨a,_ | ⟨p,_ | ⟨_,_⟩⟩⟩
 iterate 2 exact Le.none
 .unfold Kz;exact Le.ct a rfl<|Le.ct p rfl<|Le.aD (FX _ _) λ_=>Le.rfl
 .exact Le.none
def wG(L:QA):Q0 Int->RL
 | [c,w]=>Hl (Cn L ⟨8,0,c,0,0,0,0,w⟩) kH
 | _=>none
theorem xk(L:QA)(n:Q0 Int):Le (wG L n) (K3 L () n):=by
 rcases n with _ | ⟨a,_ | ⟨p,_ | ⟨_,_⟩⟩⟩
 iterate 2 exact Le.none
 .unfold K3;exact Le.ct a rfl<|Le.ct p rfl<|Le.aD (FX _ _) λ_=>Le.rfl
 .exact Le.none
def Tp(k:Int)(L:QA):Q0 Int->RL
 | [a,b]=>Hl (Ph L ⟨k,a,b,0⟩) kH
 | _=>none
theorem ui(L:QA)(n:Q0 Int):Le (Tp 0 L n) (Km L () n):=by
 rcases n with _ | ⟨a,_ | ⟨p,_ | ⟨_,_⟩⟩⟩
 iterate 2 exact Le.none
 .unfold Km;exact Le.ct a rfl<|Le.ct p rfl<|Le.aD (Nw _ _) λ_=>Le.rfl
 .exact Le.none
theorem v8(L:QA)(n:Q0 Int):Le (Tp 2 L n) (Kl L () n):=by
 rcases n with _ | ⟨a,_ | ⟨p,_ | ⟨_,_⟩⟩⟩
 iterate 2 exact Le.none
 .unfold Kl;exact Le.ct a rfl<|Le.ct p rfl<|Le.aD (Nw _ _) λ_=>Le.rfl
 .exact Le.none
def Tz(L:QA)(place num part:Int):RO QA:=if part > 0 then Hl (Bb L ⟨3,0,place,0,0,part⟩) λa=>some (.ok<|Ho a num<|Qy<|WN a num - part) else some<|.ok L
def Bc(L:QA)(num amount:Int):RO (Qp×QA):=
 Ux ((atR L num).2==0) (atR L num).2 (Hl (Cn L ⟨3,0,num,0,0,0,amount,0⟩) λa=>(MK a (atR L num).1 amount).bind λp=>Hl (Tz a (atR L num).1.Place num p) λb=>
  (B5 .i64 (Qy<|p*10000) amount).bind λlo=>(B5 .i64 (Qy<|Qy (Qy (p*10000)+amount) - 1) amount).bind λhi=>some<|.ok (⟨(atR L num).1,amount,⟨lo,hi⟩⟩,b))
theorem ke(L:QA)(num amount:Int):Le (Bc L num amount) (JQ L () num amount):=by
 unfold JQ;refine Le.ct _ (OC _ _)<|Le.check<|Le.aD (FX _ _) λc=>Le.bind (jQ _ _ _) λp=> ?_;unfold Tz Hl;by_cases b:p > 0
 .simp only[b,lL,B1];intro y e;cases a:Bb c ⟨3,0,(atR L num).1.Place,0,0,p⟩ with
  | none=>rw[a] at e;cases e
  | some r=>
   rw[a] at e
   rw[PD _ _ r a];cases r<;>exact e
 .simp only[b,lP,W1,Bm];exact Le.rfl
def G5:Q0 (Int×Int)->QV->QA->RO (QV×QA)
 | [],b,L=>some (.ok (b,L))
 | x::xs,b,L=>Hl (Bc L x.1 x.2) λr=>if b.Draughts.length<=1000000 then G5 xs {b with Draughts:=b.Draughts++[r.1]} r.2 else none
theorem qy:∀(ps:Q0 (Int×Int)) (b:QV) (L:QA),Le (G5 ps b L) (La (Vb ()) (ps.map λp=>[p.1,p.2]) (b,L))
 | [],b,L=>Le.rfl
 | p::ps,b,L=>by
  simp only[Of,La,G5];have d:Vb () [p.1,p.2] (b,L)=Q5 (JQ L () p.1 p.2) (λq=>some<|.pan q) λr=>(Y1 b.Draughts [r.1]).bind λl=>QO {b with Draughts:=l} λx=>some (.ok (x,r.2)):=rfl;rw[d];intro y a;cases c:Bc L p.1 p.2 with
  | none=>rw[c] at a;cases a
  | some r=>
   rw[c] at a
   rw[ke _ _ _ _ c];cases r with
   | pan q=>exact a
   | ok r=>
    by_cases h:b.Draughts.length<=1000000
    .simp only[Hl,Q5,DO h] at a
     simp only[Q5,QO];rw[W2 ia];exact qy ps _ _ y a
    .simp only[Hl,Q5,Do h] at a;cases a
def vw(b:QV):Int:=Qy<|Int.tdiv (Bo.vp b b.Water).Lo 700
open Bo in
theorem P5{b:QV}(c:b.Draughts.length<=1000)(a:X1 b=true):∃k,HC b 700=some (vw b,k,0):=by
 obtain⟨x,he,d⟩:=Ow b c;have h:=(HS b).1 a;unfold HC;rw[he,a,d a];have e:QY 700 1 1048576=true:=by decide
 simp only[K1,RW,W1,Bm,e];rw[L6 h h.water.1 h.water.2];exact⟨_,rfl⟩
def IU(L:QA):Q0 Int->RL
 | num::w::a::z::ds=>if ds.length<=1000000 then(U0 ds).bind λps=>Ux (QZ L.batches num).isNone 5 (Hl (G5 ps ⟨[],w,⟨0,0⟩,false,false⟩ L) λr=>
  if r.1.Draughts.length<=1000 then Ux (Bo.X1 r.1) 1 (Ux (decide<|Qy (Qy (z - a)+1)<=vw r.1) 12<|Hl (Ph r.2 ⟨1,a,z,num⟩) λb=>kH {b with batches:=Qq b.batches num r.1}) else none) else none
 | _=>none
theorem vD(L:QA)(n:Q0 Int):Le (IU L n) (Kc L () n):=by
 rcases n with _ | ⟨num,_ | ⟨w,_ | ⟨a,_ | ⟨z,ds⟩⟩⟩⟩
 iterate 4 exact Le.none
 refine Le.guard λh=> ?_;cases f:U0 ds with
 | none=>exact Le.none
 | some ps=>
  obtain⟨g,j⟩:=Fw f;unfold Kc;simp only[K1,QO];refine Le.ct num rfl<|Le.ct a rfl<|Le.ct z rfl ?_;have e:(!(QZ L.batches num).isSome)=(QZ L.batches num).isNone:=by cases QZ L.batches num<;>rfl
  rw[e];refine Le.s3<|Le.ct w rfl<|Le.ct ds ?_<|Le.ct (zk ds) (Ms ds h) ?_
  .unfold Zc;rw[DO ia];simp only[lV,L4,UV];exact IF ic
  rw[g];refine Le.aD (qy _ _ _) λr=>Le.guard λd=> ?_;rcases Bo.ky r.1 d with⟨c,he⟩ | ⟨c,x,he,_⟩
  .refine Le.ct _ he ?_;rw[c,PF];exact Le.rfl
  .have b:=(Bo.HS r.1).2 c;refine Le.ct _ he ?_;rw[b];obtain⟨k,i⟩:=P5 d b;refine Le.check (e:=0) ?_;refine Le.ct _ i ?_;exact Le.s3<|Le.aD (Nw _ _) λl=>Le.rfl
def fD(L:QA):Q0 Int->RL
 | [a]=>Hl (Bb L ⟨6,0,0,0,0,a⟩) kH
 | _=>none
theorem fC(L:QA)(n:Q0 Int):Le (fD L n) (JB L () n):=by
 rcases n with _ | ⟨a,_ | ⟨_,_⟩⟩
 .exact Le.none
 .unfold JB;exact Le.ct a rfl<|Le.aD (PD _ _) λ_=>Le.rfl
 .exact Le.none
end
section
open Go.Dec
def Oc(w:Q0 H1)(l:Q0 Int)(L:QA):RL:=if w.length<=1000/\l.length<=100000/\l.all Im=true then some (.ok (Hm w l,L)) else none
theorem N1(w:Q0 H1)(l:Q0 Int)(L:QA):Le (Oc w l L) ((Jo w l).bind λr=>some<|.ok (r,L)):=Le.guard λh=>Le.ct _ (N6 h.1 h.2.1 h.2.2) Le.rfl
def Pj(L:QA):Q0 Int->RL
 | [c]=>Ux ((atR L c).2==0) (atR L c).2 (Oc [99,97,115,107] [(atR L c).1.Amount,(atR L c).1.Age,(atR L c).1.Owner,(atR L c).1.Creditor,WN L c] L)
 | _=>none
theorem I3(L:QA)(n:Q0 Int):Le (Pj L n) (KI L () n):=by
 rcases n with _ | ⟨c,_ | ⟨_,_⟩⟩
 .exact Le.none
 .unfold KI;exact Le.ct c rfl<|Le.ct _ (OC _ _)<|Le.check<|Le.ct c rfl<|N1 _ _ _
 .exact Le.none
def OB(L:QA):Q2 ZR:=match L.rules with
 | none=>none
 | some r=>if r.Rates.length<=1000000 then some (Cj r L.duties L.day).1 else none
theorem jr(L:QA):Le (OB L) (YG L ()):=by
 unfold OB YG;cases a:L.rules with
 | none=>exact Le.none
 | some r=>
  refine Le.guard λh=> ?_;rw[K1];exact Le.ct _ (Ex.AU h hQ) Le.rfl
def Pk(L:QA):Q0 Int->RL
 | [c]=>Ux (decide<|c < 16) 2 ((OB L).bind λb=>(YY 16 c).bind λj=>Oc [98,111,110,100] [b.Bonds j] L)
 | _=>none
theorem I4(L:QA)(n:Q0 Int):Le (Pk L n) (KJ L () n):=by
 rcases n with _ | ⟨c,_ | ⟨_,_⟩⟩
 .exact Le.none
 .unfold KJ;exact Le.ct c rfl<|Le.s3<|Le.bind (jr _) λb=>Le.ct c rfl<|Le.bind Le.rfl λj=>N1 _ _ _
 .exact Le.none
def Tq(L:QA)(_:Q0 Int):RL:=(OB L).bind λb=>Oc [100,117,101] [b.Due,b.Paid] L
theorem zo(L:QA)(n:Q0 Int):Le (Tq L n) (KU L () n):=by
 unfold KU;exact Le.bind (jr _) λb=>N1 _ _ _
def OP(l:Q0 QJ)(n:Int):Q2 (Int×Int):=if l.length<=256 then some (if GH l==0 then Bo.Lz l n else(0,GH l)) else none
theorem vo(l:Q0 QJ)(n:Int):Le (OP l n) (V8 l n):=by
 refine Le.guard λh=> ?_;obtain⟨b,i,a,c⟩:=TB l h;cases he:GH l==0 with
 | true=>exact Le.of (Bo.zf n h<|c<|by simpa using he)
 | false=>exact Le.of<|Bo.j6 n a<|by simpa using he
def TD(L:QA):Q0 Int->RL
 | [c]=>(OP L.stamps c).bind λr=>Ux (r.2==0) r.2 (Oc [98,97,116,99,104] [r.1] L)
 | _=>none
theorem OX(L:QA)(n:Q0 Int):Le (TD L n) (Z6 L () n):=by
 rcases n with _ | ⟨c,_ | ⟨_,_⟩⟩
 .exact Le.none
 .unfold Z6;exact Le.ct c rfl<|Le.bind (vo _ _) λr=>Le.check<|N1 _ _ _
 .exact Le.none
def kR(b:QV):Qv:=⟨Bo.vp b b.Water,Bo.wy b b.Water,Bo.Ga b.Draughts λd=>d.From.Age,λi=>Bo.Ga b.Draughts λd=>d.From.Woods i,λi=>Bo.Ga b.Draughts λd=>d.From.Places i,(Bo.LW b.Draughts).length⟩
open Bo in
theorem zl{b:QV}{x:Qv}{c:Qz}(h:jw b b.Water x)(f:gC c):Fl b x c=Fl b (kR b) c:=by
 unfold Fl;rw[h.age,h.casks,h.str];by_cases e:c.Kind=0
 .rw[DO e,DO e];rfl
 rw[Do e,Do e];by_cases a:c.Kind=1
 .rw[DO a,DO a,h.woods _ (by have:=f.what<|.inl a;omega)];rfl
 rw[Do a,Do a];by_cases d:c.Kind=2
 .rw[DO d,DO d,h.places _ (by have:=f.what<|.inr d;omega)];rfl
 rw[Do d,Do d];rfl
def Mq(b:QV)(c:Qz):Q2 (Bool×Int):=if b.Draughts.length<=1000 then some (if Bo.X1 b&&Bo.Di c then(Bo.Fl b (kR b) c,0) else(true,1)) else none
open Bo in
theorem wE{β:Type}(b:QV)(c:Qz)(k:Bool×Int->Q2 β)(g:Q0 Int×Int->Q2 β)(h:∀l e,Le (k (decide<|l.length=0,e))<|g (l,e)):Le ((Mq b c).bind k) ((Um b [c]).bind g):=by
 unfold Mq;by_cases f:b.Draughts.length<=1000
 .rw[DO f,K1];have j:Ge [c]=Di c:=by simp[Ge]
  rcases kZ b [c] f ic with⟨d,i⟩ | ⟨d,m,a,x,o,_,i⟩
  .rw[j] at d
   rw[i,d];exact h [] 1
  .rw[j] at m
   rw[i,(HS b).2 d,m];simp only[Bool.and_self,B1,K1];rw[<-zl o (a c ic)];cases n:Fl b x c with
   | true=>
    have e:Bo.liesAt (Fl b x) 0 [c]=[]:=by simp[Bo.liesAt,n]
    rw[e];exact h [] 0
   | false=>
    have e:Bo.liesAt (Fl b x) 0 [c]=[0]:=by simp[Bo.liesAt,n]
    rw[e];exact h [0] 0
 .rw[Do f];exact Le.none
abbrev L5:Q0 H1:=[116,114,117,101]
abbrev zh:Q0 H1:=[102,97,108,115,101]
theorem xm(b:Bool):WE b=some (if b then L5 else zh):=by cases b<;>rfl
def Ue(L:QA):Q0 Int->RL
 | [n,k,w,v]=>match QZ L.batches n with
  | none=>some (.pan ⟨4⟩)
  | some b=>(Mq b ⟨k,w,v⟩).bind λr=>Ux (r.2==0) r.2 (some<|.ok (if r.1 then L5 else zh,L))
 | _=>none
theorem OZ(L:QA)(n:Q0 Int):Le (Ue L n) (Z8 L () n):=by
 rcases n with _ | ⟨n,_ | ⟨k,_ | ⟨w,_ | ⟨v,_ | ⟨_,_⟩⟩⟩⟩⟩
 iterate 4 exact Le.none
 .unfold Z8 Ue;refine Le.ct n rfl ?_;simp only[QO];cases a:QZ L.batches n with
  | none=>
   simp only[oL];rw[AH];exact Le.rfl
  | some b=>
   simp only[o5];rw[AH];simp only[B1,Q5];refine Le.ct k rfl<|Le.ct w rfl<|Le.ct v rfl ?_;rw[om];refine wE b ⟨k,w,v⟩ _ _ λl e=> ?_;refine Le.check ?_;rw[xm];refine Le.of ?_;have:((l.length:Int)==0)=decide (l.length=0):=by rw[ob];simp
   rw[this];rfl
 .exact Le.none
def TE(L:QA):Q0 Int->RL
 | [c]=>Ux ((Ca.Nx L.casks c L.day).2==0) (Ca.Nx L.casks c L.day).2 (Oc [102,105,108,108,115] (Ca.Nx L.casks c L.day).1 L)
 | _=>none
theorem OY(L:QA)(n:Q0 Int):Le (TE L n) (Z7 L () n):=by
 rcases n with _ | ⟨c,_ | ⟨_,_⟩⟩
 .exact Le.none
 .unfold Z7;exact Le.ct c rfl<|Le.ct _ (Ca.Ij _ _ _)<|Le.check<|N1 _ _ _
 .exact Le.none
structure Wd where
 word:List UInt8
 least:Int
 each:Int
 does:QA->List Int->RL
def X0:Q0 Wd:=[
 ⟨[100,97,121],1,0,fU⟩,⟨[114,117,108,101,115],3,2,zr⟩,⟨[109,97,107,101],5,0,ua⟩,⟨[102,105,108,108],3,0,uv⟩,⟨[114,97,99,107],3,0,uI⟩,
 ⟨[99,97,114,114,121],2,0,kr⟩,⟨[115,101,108,108],3,0,Nk 5⟩,⟨[112,108,101,100,103,101],3,0,Nk 6⟩,⟨[102,114,101,101],2,0,uo⟩,⟨[99,104,97,114],2,0,wG⟩,
 ⟨[115,116,97,109,112,115],2,0,Tp 0⟩,⟨[115,112,111,105,108],2,0,Tp 2⟩,⟨[98,111,116,116,108,101],4,2,IU⟩,⟨[112,97,121],1,0,fD⟩,⟨[99,97,115,107],1,0,Pj⟩,
 ⟨[98,111,110,100],1,0,Pk⟩,⟨[100,117,101],0,0,Tq⟩,⟨[119,104,111,115,101],1,0,TD⟩,⟨[99,108,97,105,109],4,0,Ue⟩,⟨[102,105,108,108,115],1,0,TE⟩]
def Pc(w:Q0 H1):Q2 Wd:=X0.find? λd=>d.word==w
inductive OI:List Wd->List (List UInt8×Qa)->Prop where
 | nil:OI [] []
 | cons {w:List UInt8} {a b:Int} {f:QA->List Int->RL} {g:QA×Unit×List Int->RL} {l:List Wd} {k:List (List UInt8×Qa)} (h:∀L n,Le (f L n)<|g (L,(),n)) (r:OI l k):OI (⟨w,a,b,f⟩::l) ((w,⟨⟨a,b⟩,g⟩)::k)
theorem OI.get{l:Q0 Wd}{k:Q0 (Q0 H1×Qa)}(h:OI l k)(w:Q0 H1):match l.find? (λd=>d.word==w) with
  | none=>QZ k w=none
  | some d=>∃g,QZ k w=some ⟨⟨d.least,d.each⟩,g⟩/\∀L n,Le (d.does L n) (g (L,(),n)):=by
 induction h with
 | nil=>rfl
 | @cons w' a b f g l k h r i=>
  by_cases c:w' =w
  .subst c;simp only[oF,oT];exact⟨g,by simp[QZ],h⟩
  .have e:(w' ==w)=false:=by simpa using c
   have j:(w==w')=false:=by simpa using λh=>c h.symm
   simp only[oF,e];have m:QZ ((w',(⟨⟨a,b⟩,g⟩:Qa))::k) w=QZ k w:=by simp[QZ,j]
   rw[m];exact i
theorem wA:∃k,XZ=some k/\OI X0 k:=by
 refine⟨_,by unfold XZ;simp only[QO];rfl,?_⟩;exact .cons fT<|.cons uF<|.cons xO<|.cons xb<|.cons xD<|.cons wI<|.cons w8<|.cons yU<|.cons xY<|.cons xk<|.cons ui<|.cons v8<|.cons vD<|.cons fC<|.cons I3<|.cons I4<|.cons zo<|.cons OX<|.cons OZ<|.cons OY .nil
end
section
open Go.Dec
def Xx(least each:Int)(n:Int):Bool:=if each==0 then n==least else decide (n > least)&&(n - least)%each==0
theorem xZ(a b:Int)(n:Nat)(e:0<=a/\a<=100)(f:n<=1000000):Uh ⟨a,b⟩ (n:Int)=some (Xx a b n):=by
 unfold Uh Xx;simp only;cases h:b==0 with
 | true=>rfl
 | false=>
  have c:b≠0:=by simpa using h
  by_cases d:(n:Int) > a
  .simp only[d,lL,B1,ln,W1,Bm];unfold SI;rw[Do c,Qs hQ hQ,oO hQ];rfl
  .simp only[d,lP,W1,Bm,iF];rfl
def Ru(L:QA)(line:Q0 H1):RL:=
 if line.length > 1000 then some (.pan ⟨3⟩) else match FB line with
  | .pan q=>some (.pan q)
  | .ok w=>match Pc w.1 with
   | none=>some (.pan ⟨8⟩)
   | some d=>Ux (Xx d.least d.each w.2.length) 8 (Ux (!L.rules.isNone||w.1==[100,97,121]||w.1==[114,117,108,101,115]) 6
    (if L.casks.length<=1000000/\L.duties.length<=1000000/\L.stamps.length<=1000000 then d.does L w.2 else none))
def fS(L:QA)(line:Q0 H1):Q2 (Q0 H1×Int×QA):=match Ru L line with
 | none=>none
 | some (.pan q)=>some ([],q.e,L)
 | some (.ok r)=>some (r.1,0,r.2)
theorem wk:∀d∈X0,(0<=d.least/\d.least<=100)/\(0<=d.each/\d.each<=100):=by
 unfold X0;simp only[A4,oo,qAf];rintro d (rfl | rfl | rfl | rfl | rfl | rfl | rfl | rfl | rfl | rfl | rfl | rfl | rfl | rfl | rfl | rfl | rfl | rfl | rfl | rfl)<;>exact⟨⟨by decide,by decide⟩,by decide,by decide⟩
theorem N8{line:Q0 H1}{w:Q0 H1×Q0 Int}(h:FB line= .ok w):w.2.length<=line.length:=by
 have b:∀s:Q0 H1,(Ya s).length<=s.length+1:=by
  intro s
  induction s with
  | nil=>simp[Ya]
  | cons c l a=>
   unfold Ya;split
   .simpa using a
   .split<;>rename_i he
    .simp
    .rw[he] at a;simp at a ⊢;omega
 have:=b line;unfold FB at h
 split at h
 .cases h
 .rename_i p ps he;rw[he] at this
  split at h
  .simp only[Out.ok.injEq] at h
   subst h;simp at this ⊢
   omega
  .cases h
theorem y8{L:QA}(h:L.casks.length<=1000000/\L.duties.length<=1000000/\L.stamps.length<=1000000):Yh L=some L:=by
 unfold Yh KT Vw Va;rw[W2 ia,W2 ia,W2 ia];rfl
theorem Tr{α:Type}{l:Q0 α}{i:Nat}{x:α}(h:l[i]? =some x):l.set i x=l:=by
 obtain⟨hi,rfl⟩:=Fm.1 h;exact qBV hi
theorem gX{A:Q0 Q8}{i:Nat}{L:QA}(n:A[i]? =some ⟨L,true⟩)(line:Q0 H1):Le ((fS L line).map λr=>(r.1,r.2.1,A.set i ⟨r.2.2,true⟩)) (Xb A (some i) line):=by
 have a:=Tr n;unfold fS Ru Xb;simp only[o6,W1,Bm,K1,n,RW];by_cases o:line.length > 1000
 .have e:decide ((line.length:Int) > 1000)=true:=aT hQ;rw[DO o,e];simp only[RK,a];exact Le.rfl
 have e:decide ((line.length:Int) > 1000)=false:=nt hQ;rw[Do o,e,yR line hQ];simp only[W1,Bm];cases p:FB line with
 | pan q=>simp only[RK,a];exact Le.rfl
 | ok w=>
  have s:=N8 p;obtain⟨k,t,c⟩:=wA;have f:=c.get w.1;simp only[Q5,t,K1];cases h:Pc w.1 with
  | none=>
   unfold Pc at h
   rw[h] at f
   rw[f];simp only[RK,a];exact Le.rfl
  | some d=>
   have u:d∈X0:=lf h;unfold Pc at h
   rw[h] at f
   obtain⟨g,f,j⟩:=f;rw[f];obtain⟨v,_⟩:=wk d u;unfold Xa;simp only;rw[xZ _ _ _ v hQ,K1,AH];unfold Ux;cases B:Xx d.least d.each w.2.length with
   | false=>simp only[W1,Bm,RK,a];exact Le.rfl
   | true=>
    simp only[B1,Q5]
    have x:((if(!L.rules.isNone)=true then some true else some (w.1==([100,97,121]:Q0 H1))).bind λz=>if z=true then some true else some (w.1==([114,117,108,101,115]:Q0 H1)))=some (!L.rules.isNone||w.1==[100,97,121]||w.1==[114,117,108,101,115]):=by
     cases L.rules.isNone<;>cases w.1==([100,97,121]:Q0 H1)<;>rfl
    rw[<-Option.bind_assoc,x,K1,AH];cases hs:(!L.rules.isNone||w.1==[100,97,121]||w.1==[114,117,108,101,115]) with
    | false=>show Le (some ([],(6:Int),A.set i ⟨L,true⟩)) _;rw[a];exact Le.rfl
    | true=>
     simp only[B1];by_cases l:L.casks.length<=1000000/\L.duties.length<=1000000/\L.stamps.length<=1000000
     .rw[DO l,y8 l];intro y b;cases m:d.does L w.2 with
      | none=>rw[m] at b;cases b
      | some r=>
       rw[m] at b
       simp only[K1,j _ _ _ m];cases r with
       | pan q=>have b:some (([]:Q0 H1),q.e,A.set i ⟨L,true⟩)=some y:=b;rw[a] at b;exact b
       | ok r=>exact b
     .rw[Do l];exact Le.none
def DG:QA:=⟨0,none,[],[],[],[],[],0⟩
def N7(s:Q0 H1)(e:Int):Q0 H1:=if e==0 then s else Hm zi [e]
def qM:Q0 (Q0 H1)->QA->Q0 H1->Q2 (QA×Q0 H1)
 | [],L,out=>some (L,out)
 | x::xs,L,out=>match fS L x with
  | none=>none
  | some r=>if Im r.2.1=true/\out.length+(N7 r.1 r.2.1).length<=1000000000 then qM xs r.2.2 (out++(N7 r.1 r.2.1++[10])) else none
theorem Oj:∀(l:Q0 (Q0 H1)) (L:QA) (out:Q0 H1),Le ((qM l L out).map λr=>([(⟨r.1,true⟩:Q8)],r.2)) (VH (GX<|some 0) l ([⟨L,true⟩],out))
 | [],L,out=>Le.rfl
 | x::xs,L,out=>by
  unfold qM VH;cases c:fS L x with
  | none=>exact Le.none
  | some r=>
   by_cases b:Im r.2.1=true/\out.length+(N7 r.1 r.2.1).length<=1000000000
   .simp only;rw[DO b];refine Le.ct ([⟨r.2.2,true⟩],out++(N7 r.1 r.2.1++[10])) ?_<|Oj xs _ _;have d:=gX (A:=[⟨L,true⟩]) (i:=0) rfl x (r.1,r.2.1,[⟨r.2.2,true⟩]) (by rw[c];rfl);unfold GX;rw[d,K1];have a:=b.2;unfold N7 at a ⊢
    cases he:r.2.1==0 with
    | true=>
     have:(r.2.1 != 0)=false:=by simpa using he
     simp only[this,W1,Bm,B1];rw[he] at a
     simp only[B1] at a
     unfold XG;rw[GP hQ,K1,GP ia];simp
    | false=>
     have:(r.2.1 != 0)=true:=by simpa using he
     simp only[this,B1,W1,Bm];rw[he] at a
     simp only[W1,Bm] at a
     rw[N6 ig ic (by simpa using b.1),K1];unfold XG;rw[GP hQ,K1,GP ia];simp
   .simp only;rw[Do b];exact Le.none
def uM(script:Q0 H1):Q2 (Q0 H1×Int):=if script.length > 262144 then some ([],3) else if !(script==[])&& !R0 script then some ([],8) else(qM (MW script) DG []).map λr=>(r.2,0)
theorem hO(script:Q0 H1):Le (uM script) (HA script):=by
 unfold uM HA;by_cases c:script.length > 262144
 .have e:decide ((script.length:Int) > 262144)=true:=aT hQ;rw[DO c,e];exact Le.rfl
 have e:decide ((script.length:Int) > 262144)=false:=nt hQ;rw[Do c,e];simp only[W1,Bm]
 have d:(if(!(script==([]:Q0 H1)))=true then(J8 script [10]).bind λh=>some (!h) else some false)=some (!(script==[])&& !R0 script):=by
  cases script==([]:Q0 H1) with
  | true=>rfl
  | false=>simp only[u1,B1];rw[T8 _ hQ];rfl
 rw[d,K1];refine Le.ite Le.rfl ?_;refine Le.ct (some 0,[⟨DG,true⟩]) rfl ?_;intro y a;cases b:qM (MW script) DG [] with
 | none=>rw[b] at a;cases a
 | some r=>
  have:=Oj (MW script) DG [] ([⟨r.1,true⟩],r.2) (by rw[b];rfl);rw[this,K1];rw[b] at a
  exact a
end
end Go.Proofs.YthfjpbooaofjcaaGreatDoor
section
set_option maxRecDepth 100000
namespace Go.Proofs.YthfjpbooaofjcaaGreatDoor
open Go.Dec
theorem qB:uM JZ.1=some (JZ.2,0):=by decide+kernel
theorem M5:Wi=some true:=by
 unfold Wi;rw[hO _ _ qB]
 decide+kernel
end Go.Proofs.YthfjpbooaofjcaaGreatDoor
end
namespace Go.Proofs.YthfjpbooaofjcaaGreatDoor.Ca
section
open Go.Dec
variable{day:Int}
inductive OJ(l:List ZY)(x:Ev)(num:Int):List ZY->Prop
 | make (k:x.Kind=0) (f:Z1 l x.Cask=none) (n:l.length < 256):OJ l x num (l++[kO x])
 | fill (k:x.Kind=1) (i:Nat) (c:ZY) (f:Z1 l x.Cask=some i) (h:l[i]? =some c) (r:c.C.Amount+x.Amount<=c.C.Room):OJ l x num (l.set i<|JJ c (Gd num) x.Amount)
 | rack (k:x.Kind=2) (i:Nat) (c:ZY) (f:Z1 l x.Cask=some i) (h:l[i]? =some c) (j:Nat) (o:ZY) (f' :Z1 l x.Other=some j) (h' :l[j]? =some o) (ne:i≠j)
  (ow:c.C.Owner=o.C.Owner) (c1:c.C.Creditor < 0) (c2:o.C.Creditor < 0) (a:x.Amount<=c.C.Amount) (r:o.C.Amount+x.Amount<=o.C.Room):OJ l x num ((l.set j<|JJ o c x.Amount).set i<|VF c x.Amount)
 | drain (k:x.Kind=3) (i:Nat) (c:ZY) (f:Z1 l x.Cask=some i) (h:l[i]? =some c) (c1:c.C.Creditor < 0) (a:x.Amount<=c.C.Amount):OJ l x num (l.set i<|VF c x.Amount)
 | carry (k:x.Kind=4) (i:Nat) (c:ZY) (f:Z1 l x.Cask=some i) (h:l[i]? =some c):OJ l x num (l.set i {c with C:={c.C with Place:=x.Where}})
 | sell (k:x.Kind=5) (i:Nat) (c:ZY) (f:Z1 l x.Cask=some i) (h:l[i]? =some c) (o:c.C.Owner=x.Person) (c1:c.C.Creditor < 0) (t:x.To≠c.C.Owner):OJ l x num (l.set i {c with C:={c.C with Owner:=x.To}})
 | pledge (k:x.Kind=6) (i:Nat) (c:ZY) (f:Z1 l x.Cask=some i) (h:l[i]? =some c) (o:c.C.Owner=x.Person) (c1:c.C.Creditor < 0):OJ l x num (l.set i {c with C:={c.C with Creditor:=x.To}})
 | free (k:x.Kind=7) (i:Nat) (c:ZY) (f:Z1 l x.Cask=some i) (h:l[i]? =some c) (c1:c.C.Creditor=x.Person):OJ l x num (l.set i {c with C:={c.C with Creditor:= -1}})
 | char (k:x.Kind=8) (i:Nat) (c:ZY) (f:Z1 l x.Cask=some i) (h:l[i]? =some c) (a:c.C.Amount<=0):OJ l x num (l.set i {c with C:={c.C with Wood:=x.Where}})
theorem wB{l l' :Q0 ZY}{i:Nat}{c:ZY}{x:Ev}{num:Int}(m:XN x=true)(n:x.Kind≠0)(f:Z1 l x.Cask=some i)(a:l[i]? =some c)(h:XO l i c x num= .inl l'):OJ l x num l' :=by
 rcases kinds m with k | k | k | k | k | k | k | k | k
 .exact absurd k n
 .have h:Ax l i c x num= .inl l' :=by rw[<-h];unfold XO;rw[k];rfl
  unfold Ax at h
  split at h
  .cases h
  .cases h;exact .fill k i c f a hQ
 .have h:Al l i c x= .inl l' :=by rw[<-h];unfold XO;rw[k];rfl
  unfold Al at h
  split at h
  .cases h
  .rename_i j p;split at h
   .cases h
   .rename_i o b;unfold Pn at h
    split at h
    .cases h
    .rename_i g;split at h
     .cases h
     .rename_i d;split at h
      .cases h
      .split at h
       .cases h
       .cases h;simp only[mx,qBC,ne_eq,TO,not_or,Decidable.not_not,qAI] at d
        exact .rack k i c f a j o p b (λe=>g<|by simp[e]) d.1.1 hQ hQ hQ hQ
 .have h:CI l i c x= .inl l' :=by rw[<-h];unfold XO;rw[k];rfl
  unfold CI at h
  split at h
  .cases h
  .split at h
   .cases h
   .cases h;exact .drain k i c f a hQ hQ
 .have h:IP l i c x= .inl l' :=by rw[<-h];unfold XO;rw[k];rfl
  cases h;exact .carry k i c f a
 .have h:Rk l i c x= .inl l' :=by rw[<-h];unfold XO;rw[k];rfl
  unfold Rk at h
  split at h
  .cases h
  .rename_i d;split at h
   .cases h
   .rename_i q;cases h;simp only[mx,qBC,ne_eq,TO,not_or,Decidable.not_not,qAI] at d
    exact .sell k i c f a d.1 hQ λe=>q<|by simp[e]
 .have h:Dd l i c x= .inl l' :=by rw[<-h];unfold XO;rw[k];rfl
  unfold Dd at h
  split at h
  .cases h
  .rename_i b;split at h
   .cases h
   .cases h;exact .pledge k i c f a (by simpa using b) hQ
 .have h:Rv l i c x= .inl l' :=by rw[<-h];unfold XO;rw[k];rfl
  unfold Rv at h
  split at h
  .cases h
  .rename_i b;cases h;exact .free k i c f a<|by simpa using b
 .have h:R4 l i c x= .inl l' :=by rw[<-h];unfold XO;rw[k];rfl
  unfold R4 at h
  split at h
  .cases h
  .cases h;exact .char k i c f a hQ
theorem IK{l l' :Q0 ZY}{x:Ev}{num:Int}(b:XN x=true)(h:DT l x num= .inl l'):OJ l x num l' :=by
 unfold DT at h
 split at h
 .rename_i a;unfold Ei at h
  split at h
  .cases h
  .rename_i d;split at h
   .cases h
   .cases h;exact .make (r6.1 a) (by simpa using d) hQ
 .rename_i a;split at h
  .cases h
  .rename_i i hi;split at h
   .cases h
   .rename_i c f;exact wB b (λe=>a<|by simp[e]) hi f h
theorem D9{n:Nat}{s c:FA}{x:Ev}(h:YL n s x= .inl c):XN x=true/\s.last<=x.Day/\∃l',c=⟨l',x.Day⟩/\OJ (Ln x.Day s) x n l' :=by
 unfold YL at h
 split at h
 .cases h
 .rename_i b;have b:XN x=true:=by simpa using b
  split at h
  .cases h
  .rename_i d;split at h
   .rename_i all a;cases h;exact⟨b,by omega,all,rfl,IK b a⟩
   .cases h
theorem jb(I:Q0 Ev->FA->Prop)(hs:∀pre x s l',I pre s->Xz pre.length s->XN x=true->s.last<=x.Day->x.Day<=day->OJ (Ln x.Day s) x pre.length l'->I (pre++[x]) ⟨l',x.Day⟩):∀(l pre:Q0 Ev) (s b:FA) (k:Nat),I pre s->Xz pre.length s->Hj day l pre.length s=(.inl b,k)->∃q,k=pre.length+q/\q<=l.length/\I (pre++l.take q) b/\Xz k b/\(s.last<=day->b.last<=day)/\∀x,l[q]? =some x->day < x.Day
 | [],pre,s,b,k,g,f,h=>by
  simp only[Hj,T2,s8] at h
  obtain⟨rfl,rfl⟩:=h;exact⟨0,rfl,So _,by simpa using g,f,id,λx d=>by simp at d⟩
 | x::l,pre,s,b,k,g,f,h=>by
  simp only[Hj] at h
  by_cases d:x.Day<=day
  .rw[DO d] at h
   cases a:YL pre.length s x with
   | inl w=>
    rw[a] at h
    obtain⟨m,n,l',rfl,c⟩:=D9 a;obtain⟨o,_,_,z⟩:=Bw f a;have j:=hs pre x s l' g f m n d c;have e:(pre++[x]).length=pre.length+1:=by simp
    obtain⟨q,p,A,r,t,u,v⟩:=jb I hs l (pre++[x]) ⟨l',x.Day⟩ b k j (by rw[e];exact o) (by rw[e];exact h);refine⟨q+1,by rw[p,e];omega,by simp;omega,by simpa using r,t,λ_=>u d,λy i=>v y<|by simpa using i⟩
   | inr e=>rw[a] at h;cases h
  .rw[Do d] at h
   simp only[T2,s8] at h
   obtain⟨rfl,rfl⟩:=h;exact⟨0,rfl,oh _,by simpa using g,f,id,λy i=>by simp at i;subst i;omega⟩
theorem yV{l:Q0 Ev}{all:Q0 ZY}{k:Nat}(I:Q0 Ev->FA->Prop)(d:I [] ⟨[],0⟩)(hs:∀pre x s l',I pre s->Xz pre.length s->XN x=true->s.last<=x.Day->x.Day<=day->OJ (Ln x.Day s) x pre.length l'->I (pre++[x]) ⟨l',x.Day⟩)
  (h:JV l day=(.inl all,k)):∃s,all=Ln day s/\I (l.take k) s/\Xz k s/\s.last<=day/\0<=day/\day<=65536/\k<=l.length/\∀x,l[k]? =some x->day < x.Day:=by
 unfold JV at h
 split at h
 .cases h
 .split at h
  .cases h
  .rename_i f;have a:XB day 0 65536=true:=by simpa using f
   have a:=J2.1 a;unfold AV at h
   cases b:Hj day l 0 ⟨[],0⟩ with
   | mk r q=>
    rw[b] at h
    cases r with
    | inr e=>cases h
    | inl c=>
     cases h;obtain⟨p,g,i,j,m,n,o⟩:=jb I hs l [] ⟨[],0⟩ c _ d Xz.start b;have:p=k:=by rw[g];simp
     subst this;exact⟨c,rfl,by simpa using j,m,n a.1,a.1,a.2,i,o⟩
theorem gT:∀(l:Q0 Ev) (n:Nat) (s:FA) (r:FA ⊕ Int) (k:Nat),Hj day l n s=(r,k)->k<=n+l.length
 | [],n,s,r,k,h=>by
  simp only[Hj,T2] at h
  simp[<-h.2]
 | x::l,n,s,r,k,h=>by
  simp only[Hj] at h
  split at h
  .split at h
   .have:=gT l _ _ _ _ h;simp;omega
   .simp only[T2] at h
    simp[<-h.2]
  .simp only[T2] at h
   simp[<-h.2]
theorem Oj{l:Q0 Ev}{r:Q0 ZY ⊕ Int}{k:Nat}(h:JV l day=(r,k)):k<=l.length:=by
 unfold JV at h
 split at h
 .simp only[T2] at h;omega
 .split at h
  .simp only[T2] at h;omega
  .unfold AV at h
   cases a:Hj day l 0 ⟨[],0⟩ with
   | mk b q=>
    have:=gT _ _ _ _ _ a;rw[a] at h
    cases b<;>(simp only[T2] at h;omega)
end
section
open Go.Dec
def yC:Nat->FA->Q0 Ev->Q2 FA
 | _,s,[]=>some s
 | n,s,x::l=>match YL n s x with
  | .inl a=>yC (n+1) a l
  | .inr _=>none
def gH(l:Q0 Ev):Q2 FA:=yC 0 ⟨[],0⟩ l
theorem OV:∀(a b:Q0 Ev) (n:Nat) (s:FA),yC n s (a++b)=(yC n s a).bind λc=>yC (n+a.length) c b
 | [],b,n,s=>rfl
 | x::a,b,n,s=>by
  simp only[r7,yC];cases YL n s x with
  | inl c=>
   simp only[L4];rw[OV a b (n+1) c];have:n+1+a.length=n+(a.length+1):=by omega
   rw[this]
  | inr e=>rfl
theorem v7:∀(l:Q0 Ev) (n:Nat) (s a:FA),Xz n s->yC n s l=some a->Xz (n+l.length) a
 | [],n,s,a,b,h=>by simp only[yC,UV] at h;subst h;exact b
 | x::l,n,s,a,b,h=>by
  simp only[yC] at h
  cases hs:YL n s x with
  | inl c=>
   rw[hs] at h
   have:=v7 l (n+1) c a (Bw b hs).1 h;rw[L4,show n+(l.length+1)=n+1+l.length by omega];exact this
  | inr e=>rw[hs] at h;cases h
theorem gG{l:Q0 Ev}{s:FA}(h:gH l=some s):Xz l.length s:=by
 have:=v7 l 0 ⟨[],0⟩ s Xz.start h
 rwa[s5] at this
theorem w4{L pre post:Q0 Ev}{x:Ev}{b s:FA}(c:gH L=some b)(e:L=pre++x::post)(hs:gH pre=some s):∃l',YL pre.length s x= .inl ⟨l',x.Day⟩/\gH (pre++[x])=some ⟨l',x.Day⟩/\OJ (Ln x.Day s) x pre.length l'/\XN x=true/\s.last<=x.Day/\Xz pre.length s:=by
 have h:=c;subst e;unfold gH at h hs
 rw[OV,hs,K1,s5] at h
 simp only[yC] at h
 cases a:YL pre.length s x with
 | inr e=>rw[a] at h;cases h
 | inl i=>
  obtain⟨f,g,l',rfl,d⟩:=D9 a;refine⟨l',rfl,?_,d,f,g,gG hs⟩;unfold gH;rw[OV,hs,K1,s5];simp only[yC,a]
theorem gS{day:Int}:∀(l:Q0 Ev) (n:Nat) (s d:FA) (k:Nat),Hj day l n s=(.inl d,k)->∃q,k=n+q/\q<=l.length/\yC n s (l.take q)=some d/\(s.last<=day->d.last<=day)/\(∀x∈l.take q,x.Day<=day)/\∀x,l[q]? =some x->day < x.Day
 | [],n,s,d,k,h=>by
  simp only[Hj,T2,s8] at h
  obtain⟨rfl,rfl⟩:=h;exact⟨0,rfl,So _,rfl,id,λx c=>by simp at c,λx c=>by simp at c⟩
 | x::l,n,s,d,k,h=>by
  simp only[Hj] at h
  by_cases c:x.Day<=day
  .rw[DO c] at h
   cases b:YL n s x with
   | inl f=>
    rw[b] at h
    obtain⟨q,o,p,g,i,j,m⟩:=gS l (n+1) f d k h;obtain⟨_,_,l',rfl,_⟩:=D9 b;refine⟨q+1,by omega,by simp;omega,?_,λ_=>i c,λy a=> ?_,λy a=>m y<|by simpa using a⟩
    .simp only[qAm,yC,b];exact g
    .rw[qAm] at a
     rcases A4.1 a with rfl | a
     .exact c
     .exact j y a
   | inr e=>rw[b] at h;cases h
  .rw[Do c] at h
   simp only[T2,s8] at h
   obtain⟨rfl,rfl⟩:=h;exact⟨0,rfl,oh _,rfl,id,λy a=>by simp at a,λy a=>by simp at a;subst a;omega⟩
theorem xG{l:Q0 Ev}{day:Int}{all:Q0 ZY}{k:Nat}(h:JV l day=(.inl all,k)):∃s,all=Ln day s/\gH (l.take k)=some s/\s.last<=day/\k<=l.length/\(∀x∈l.take k,x.Day<=day)/\∀x,l[k]? =some x->day < x.Day:=by
 unfold JV at h
 split at h
 .cases h
 .split at h
  .cases h
  .rename_i d;have a:XB day 0 65536=true:=by simpa using d
   have a:=J2.1 a;unfold AV at h
   cases b:Hj day l 0 ⟨[],0⟩ with
   | mk r q=>
    rw[b] at h
    cases r with
    | inr e=>cases h
    | inl c=>
     cases h;obtain⟨p,n,f,g,i,j,m⟩:=gS l 0 ⟨[],0⟩ c _ b;have:p=k:=by omega
     subst this;exact⟨c,rfl,g,i a.1,f,j,m⟩
section
variable{V:Type}
theorem WO{k n:Int}{v:V}:∀{l:Q0 (Int×V)},QZ (Qq l k v) n=if n==k then some v else QZ l n
 | []=>by simp[Qq,QZ]
 | x::l=>by
  simp only[Qq];by_cases h:k=x.1
  .have:(k==x.1)=true:=by simp[h]
   rw[DO this];simp only[QZ];by_cases a:n=k
   .subst a;simp
   .have b:(n==k)=false:=by simpa using a
    have c:(n==x.1)=false:=by simpa using λe=>a<|by rw[e,h]
    simp[b,c]
  .have:(k==x.1)=false:=by simpa using h
   rw[Do<|by simp[this]];simp only[QZ];rw[WO (l:=l)];by_cases a:n=x.1
   .have b:(n==x.1)=true:=by simp[a]
    have c:(n==k)=false:=by simpa using λe=>h<|by rw[<-e,a]
    simp[b,c]
   .have b:(n==x.1)=false:=by simpa using a
    simp[b]
end
end
end Go.Proofs.YthfjpbooaofjcaaGreatDoor.Ca
namespace Go.Proofs.YthfjpbooaofjcaaGreatDoor.Ca
open Go.Dec
variable{day num e n:Int}{x:Ev}{l:Q0 Ev}{k i:Nat}{c:ZY}
theorem T9{day:Int}{x:Ev}(c:x.Day<=day):∀(l:Q0 Ev) (n:Nat) (s a:FA) (k:Nat),(∀y∈l,y.Day<=day)->Hj day (l++[x]) n s=(.inl a,k)->∃b,Hj day l n s=(.inl b,n+l.length)/\YL (n+l.length) b x= .inl a
 | [],n,s,a,k,_,h=>by
  simp only[lQ,Hj,DO c] at h
  refine⟨s,rfl,?_⟩;show YL n s x=_;cases hs:YL n s x with
  | inl b=>rw[hs] at h;simp only[T2,s8] at h;rw[h.1]
  | inr e=>rw[hs] at h;simp at h
 | y::l,n,s,a,k,d,h=>by
  simp only[r7,Hj,DO<|d y ic] at h ⊢
  cases hs:YL n s y with
  | inl b=>
   rw[hs] at h
   obtain⟨f,g,i⟩:=T9 c l (n+1) b a k (λz j=>d z<|by simp[j]) h;have e:n+(y::l).length=n+1+l.length:=by simp;omega
   rw[e];exact⟨f,g,i⟩
  | inr e=>rw[hs] at h;simp at h
theorem EU{a:Q0 ZY}(b:x.Day=day)(g:∀y∈l,y.Day<=day)(h:JV (l++[x]) day=(.inl a,k)):∃all,JV l day=(.inl all,l.length)/\XN x=true/\OJ all x l.length a:=by
 unfold JV at h ⊢
 split at h
 .cases h
 .rename_i i;rw[Do (by simp at i;omega)];split at h
  .cases h
  .rename_i j;rw[Do j];unfold AV at h ⊢
   cases c:Hj day (l++[x]) 0 ⟨[],0⟩ with
   | mk r k=>
    rw[c] at h
    cases r with
    | inr e=>cases h
    | inl m=>
     obtain⟨q,d,f⟩:=T9 hQ l 0 _ m k g c;rw[s5] at d f
     obtain⟨n,_,l',e,o⟩:=D9 f;rw[d];refine⟨_,rfl,n,?_⟩;simp only[T2,s8] at h
     rw[<-h.1,e]
     have p:Ln day ⟨l',x.Day⟩=l' :=by
      unfold Ln;show l'.map (Kj<|day - x.Day)=l';rw[b,qAG,show Kj 0=id from funext λh=>AG,qBa]
     rw[p,<-b];exact o
theorem OS{all:Q0 ZY}(h:JV l day=(.inl all,k))(a:Z1 all num=some i)(b:all[i]? =some c):SC l num day=(c.C,0):=by
 unfold SC Jk;rw[h];simp only[a,K1,b]
theorem ju(h:(PU l day).2.2=0):∃all k,JV l day=(.inl all,k):=by
 unfold PU at h
 split at h
 .rename_i e k a;exact absurd h<|AD a
 .rename_i all k a;exact⟨all,k,a⟩
theorem wv(h:(SC l num day).2=0):∃last n b,(SC l num day).1=ZY.C b/\Nc last n b/\last<=65536:=by
 unfold SC at h ⊢
 cases c:JV l day with
 | mk r k=>
  rw[c] at h
  cases r with
  | inr e=>exact absurd h (AD c)
  | inl all=>
   obtain⟨d,_,g,f⟩:=SL c;simp only at h ⊢
   cases a:Jk all num with
   | none=>rw[a] at h;cases h
   | some b=>
    unfold Jk at a
    cases hi:Z1 all num with
    | none=>rw[hi] at a;cases a
    | some i=>
     rw[hi] at a
     exact⟨day,k,b,rfl,d.each b<|S1 a,f⟩
theorem gu(l:Q0 Ev)(num day:Int):(Nx l num day).1.length<=4096/\∀f∈(Nx l num day).1,0<=f/\f < 4096:=by
 unfold Nx;cases c:JV l day with
 | mk r k=>
  cases r with
  | inr e=>simp
  | inl all=>
   obtain⟨d,h,j,m⟩:=SL c;simp only;cases a:Jk all num with
   | none=>simp
   | some g=>
    unfold Jk at a
    cases hi:Z1 all num with
    | none=>rw[hi] at a;cases a
    | some i=>
     rw[hi] at a
     have b:=d.each g<|S1 a;have:=TC 0 b.fills.1 (n:=k) b.fills.2 hQ;exact⟨by simp only;omega,λf a=>by have:=b.fills.2 f a;omega⟩
abbrev Er(e:Int):Prop:=1<=e/\e<=20
theorem we{k:Int}(h:(.inr k:Q0 ZY ⊕ Int)= .inr e)(a:decide (1<=k/\k<=20)=true:=by decide):Er e:=by
 simp only[lU] at h
 rw[<-h];exact lv a
theorem fe{l:Q0 ZY}(h:XO l i c x n= .inr e):Er e:=by
 unfold XO at h
 by_cases a:(x.Kind==1)=true
 .rw[DO a] at h
  unfold Ax at h
  split at h
  .exact we h
  .cases h
 rw[Do a] at h
 by_cases b:(x.Kind==2)=true
 .rw[DO b] at h
  unfold Al Pn at h
  repeat' split at h
  all_goals first | (cases h;done) | exact we h
 rw[Do b] at h
 by_cases d:(x.Kind==3)=true
 .rw[DO d] at h
  unfold CI at h
  repeat' split at h
  all_goals first | (cases h;done) | exact we h
 rw[Do d] at h
 by_cases f:(x.Kind==4)=true
 .rw[DO f] at h
  cases h
 rw[Do f] at h
 by_cases g:(x.Kind==5)=true
 .rw[DO g] at h
  unfold Rk at h
  repeat' split at h
  all_goals first | (cases h;done) | exact we h
 rw[Do g] at h
 by_cases j:(x.Kind==6)=true
 .rw[DO j] at h
  unfold Dd at h
  repeat' split at h
  all_goals first | (cases h;done) | exact we h
 rw[Do j] at h
 by_cases k:(x.Kind==7)=true
 .rw[DO k] at h
  unfold Rv at h
  repeat' split at h
  all_goals first | (cases h;done) | exact we h
 rw[Do k] at h
 by_cases m:(x.Kind==8)=true
 .rw[DO m] at h
  unfold R4 at h
  repeat' split at h
  all_goals first | (cases h;done) | exact we h
 rw[Do m] at h
 cases h
theorem dX{l:Q0 ZY}(h:DT l x n= .inr e):Er e:=by
 unfold DT at h
 split at h
 .unfold Ei at h
  repeat' split at h
  all_goals first | (cases h;done) | exact we h
 .split at h
  .exact we h
  .split at h
   .exact we h
   .exact fe h
theorem wz{n:Nat}{s:FA}(h:YL n s x= .inr e):Er e:=by
 unfold YL at h
 split at h
 .simp only[lU] at h;subst h;exact⟨by decide,by decide⟩
 .split at h
  .simp only[lU] at h;subst h;exact⟨by decide,by decide⟩
  .split at h
   .cases h
   .rename_i a he;simp only[lU] at h
    subst h;exact dX he
theorem gU{day:Int}:∀{l:Q0 Ev} {n:Nat} {s:FA} {e:Int} {k:Nat},Hj day l n s=(.inr e,k)->Er e
 | [],n,s,e,k,h=>by simp[Hj] at h
 | x::l,n,s,e,k,h=>by
  simp only[Hj] at h
  split at h
  .split at h
   .exact gU h
   .rename_i a he;simp only[T2,lU] at h
    rw[<-h.1];exact wz he
  .simp at h
theorem Ol(h:JV l day=(.inr e,k)):Er e:=by
 unfold JV at h
 split at h
 .simp only[T2,lU] at h;rw[<-h.1];exact⟨by decide,by decide⟩
 .split at h
  .simp only[T2,lU] at h;rw[<-h.1];exact⟨by decide,by decide⟩
  .unfold AV at h
   cases a:Hj day l 0 ⟨[],0⟩ with
   | mk r q=>
    rw[a] at h
    cases r with
    | inl s=>simp at h
    | inr b=>
     simp only[T2,lU] at h
     rw[<-h.1];exact gU a
theorem fZ(h:(PU l day).2.2≠0):Er (PU l day).2.2:=by
 unfold PU at h ⊢
 split
 .rename_i e k a;exact Ol a
 .rename_i all k a;rw[a] at h;exact absurd rfl h
theorem jK(h:(SC l num day).2≠0):Er (SC l num day).2:=by
 unfold SC at h ⊢
 cases a:JV l day with
 | mk r k=>
  rw[a] at h
  cases r with
  | inr e=>exact Ol a
  | inl all=>
   simp only at h ⊢
   cases b:Jk all num with
   | none=>exact⟨by decide,by decide⟩
   | some c=>rw[b] at h;exact absurd rfl h
theorem gv(h:(Nx l num day).2≠0):Er (Nx l num day).2:=by
 unfold Nx at h ⊢
 cases a:JV l day with
 | mk r k=>
  rw[a] at h
  cases r with
  | inr e=>exact Ol a
  | inl all=>
   simp only at h ⊢
   cases b:Jk all num with
   | none=>exact⟨by decide,by decide⟩
   | some c=>rw[b] at h;exact absurd rfl h
end Go.Proofs.YthfjpbooaofjcaaGreatDoor.Ca
namespace Go.Proofs.YthfjpbooaofjcaaGreatDoor
open Go.Dec
open Ca (Er)
variable{r:Qw}{day e c:Int}{l:Q0 Int}{α:Type}{n s n' :Nat}{a L:QA}{x:QE}{ps:Q0 (Int×Int)}
theorem gy{l:Q0 QQ}{k:Nat}(h:Ex.AV r day l 0 Ex.NI=(.inr e,k)):Er e:=by
 unfold Ex.AV at h
 cases b:Ex.Hj r day l 0 Ex.NI with
 | mk q j=>
  rw[b] at h
  cases q with
  | inl a=>simp at h
  | inr c=>
   simp only[T2,lU] at h
   have:=Ex.uk b;rw[<-h.1];unfold Er;omega
theorem xh{l:Q0 QQ}(h:(Cj r l day).2.2≠0):Er (Cj r l day).2.2:=by
 unfold Cj at h ⊢
 cases b:Ex.JV r l day with
 | mk q k=>
  rw[b] at h
  cases q with
  | inl a=>exact absurd rfl h
  | inr e=>
   show Er e
   clear h
   unfold Ex.JV at b
   repeat' split at b
   all_goals first
    | (simp only[T2,lU] at b;rw[<-b.1];exact⟨by decide,by decide⟩)
    | exact gy b
open Bo in
theorem xd(pre:Q0 QJ)(x:QJ):ka pre x=0∨Er (ka pre x):=by
 unfold ka Er
 repeat' split
 all_goals decide
theorem jk:∀(l pre:Q0 QJ),Lb pre l=0∨Er (Lb pre l)
 | [],_=>.inl rfl
 | x::l,pre=>by
  unfold Lb;split
  .exact jk l _
  .exact xd pre x
theorem I1{l:Q0 QJ}(h:GH l≠0):Er (GH l):=(jk l []).resolve_left h
def Y2(P:α->Prop)(x:RO α):Prop:=∃r,x=some r/\(∀a,r= .ok a->P a)/\∀q,r= .pan q->Er q.e
section
variable{β:Type}{P:β->Prop}{Q:α->Prop}
theorem Y2.pan{q:Qt}(h:Er q.e):Y2 P (some<|.pan q):=⟨_,rfl,λ_ h=>(by cases h),λ_ e=>by cases e;exact h⟩
theorem Y2.ok{a:β}(h:P a):Y2 P (some<|.ok a):=⟨_,rfl,λ_ e=>by cases e;exact h,λ_ e=>by cases e⟩
theorem Y2.s3{b:Bool}{k:RO β}(he:Er e)(h:b=true->Y2 P k):Y2 P (Ux b e k):=by
 unfold Ux;cases b with
 | true=>exact h rfl
 | false=>exact Y2.pan he
theorem Y2.rr{k:RO β}(he:e≠0->Er e)(h:e=0->Y2 P k):Y2 P (Ux (e==0) e k):=by
 unfold Ux;by_cases a:e=0
 .rw[DO<|by simpa using a];exact h a
 .rw[Do<|by simpa using a];exact Y2.pan<|he a
theorem Y2.aD{x:RO α}{k:α->RO β}(h:Y2 Q x)(h' :∀a,Q a->Y2 P (k a)):Y2 P (Hl x k):=by
 obtain⟨r,rfl,b,c⟩:=h;cases r with
 | ok a=>exact h' a (b a rfl)
 | pan q=>exact Y2.pan<|c q rfl
theorem Y2.bind{x:Q2 α}{k:α->RO β}(h:∃a,x=some a/\Q a)(h' :∀a,Q a->Y2 P (k a)):Y2 P (x.bind k):=by
 obtain⟨a,rfl,b⟩:=h;exact h' a b
theorem Y2.imp{c:β->Prop}{x:RO β}(h:Y2 P x)(h' :∀b,P b->c b):Y2 c x:=by
 obtain⟨r,e,d,f⟩:=h;exact⟨r,e,λa g=>h' a<|d a g,f⟩
end
theorem er{n:Int}(h:decide (1<=n/\n<=20)=true:=by decide):Er n:=lv h
theorem OQ(x:Int):Im (Qy x)=true:=by
 have e:IntKind.i64.bits=64:=rfl;simp only[Im,Qy,IntKind.wrap,e,BY,TO];simp only[IntKind.signed,true_and];split<;>omega
theorem CE{x:Int}(h: -9223372036854775808<=x/\x<=9223372036854775807):Im x=true:=by simp[Im,h]
structure Inv(n s:Nat)(L:QA):Prop where
 casks:L.casks.length<=n
 duties:L.duties.length<=n
 stamps:L.stamps.length<=s
 days:∀x∈L.casks,x.Day<=L.day
 rules:∀r,L.rules=some r->r.Rates.length<=1000000
 batches:∀c b,QZ L.batches c=some b->b.Draughts.length<=1000
 pure:∀c,Im (WN L c)=true
theorem Inv.up{a:Nat}(h:Inv n s L)(b:n<=n')(hs:s<=a):Inv n' a L:=⟨oD h.casks b,oD h.duties b,oD h.stamps hs,h.days,h.rules,h.batches,h.pure⟩
theorem Inv.start:Inv 0 0 DG:=⟨So _,So _,So _,λ_ h=>(by cases h),λ_ h=>(by cases h),λ_ _ h=>(by cases h),λ_=>rfl⟩
theorem uK(L:QA)(c v k:Int):WN (Ho L c v) k=if k==c then v else WN L k:=by
 unfold WN Ho;simp only;rw[Ca.WO];split<;>rfl
theorem Inv.set(h:Inv n s L){v:Int}(a:Im v=true):Inv n s (Ho L c v):=⟨h.casks,h.duties,h.stamps,h.days,h.rules,h.batches,λk=>by rw[uK];split;exact a;exact h.pure k⟩
def Hh(L:QA)(x:QE)(b:QA):Prop:=b={L with casks:=L.casks++[{x with Day:=L.day}]}/\∃all a:Q0 Ca.ZY,∃k,Ca.JV L.casks L.day=(.inl all,L.casks.length)/\Ca.JV b.casks L.day=(.inl a,k)/\Ca.XN {x with Day:=L.day}=true/\Ca.OJ all {x with Day:=L.day} L.casks.length a
theorem Inv.a8{b:QA}(h:Inv n s L)(c:Hh L x b):Inv (n+1) s b:=by
 obtain⟨rfl,_⟩:=c;refine⟨by have:=h.casks;simp;omega,by have:=h.duties;simp only;omega,h.stamps,λy a=> ?_,h.rules,h.batches,h.pure⟩;rcases mb.1 a with a | a
 .exact h.days y a
 .simp only[ts] at a;subst a;exact y0 _
theorem Gf(h:Inv n s L)(f:n<=1000000)(x:QE):Y2 (Hh L x) (Cn L x):=by
 unfold Cn;rw[DO (by have:=h.casks;omega)];refine Y2.rr Ca.fZ λhe=>Y2.ok ⟨rfl,?_⟩;obtain⟨a,k,b⟩:=Ca.ju he;obtain⟨all,c,d,e⟩:=Ca.EU (x:={x with Day:=L.day}) rfl h.days b;exact⟨all,a,k,c,b,d,e⟩
def AA(L:QA)(x:QQ)(a:QA):Prop:=a={L with duties:=L.duties++[{x with Day:=L.day}]}/\∃r,L.rules=some r/\(Cj r a.duties L.day).2.2=0
theorem Inv.aS{x:QQ}(h:Inv n s L)(b:AA L x a):Inv (n+1) s a:=by
 obtain⟨rfl,_⟩:=b;exact⟨by have:=h.casks;simp only;omega,by have:=h.duties;simp;omega,h.stamps,h.days,h.rules,h.batches,h.pure⟩
theorem Sa(h:Inv n s L)(c:n<=1000000)(b:L.rules.isNone=false)(x:QQ):Y2 (AA L x) (Bb L x):=by
 unfold Bb
 obtain⟨r,a⟩:∃r,L.rules=some r:=by cases a:L.rules with
  | none=>rw[a] at b;cases b
  | some r=>exact⟨r,rfl⟩
 rw[a];show Y2 _ (if _ then _ else _);rw[DO ⟨h.rules r a,by have:=h.duties;omega⟩,<-a];exact Y2.rr xh λhe=>Y2.ok ⟨rfl,r,a,he⟩
def M9(L:QA)(x:QJ)(a:QA):Prop:=a={L with stamps:=L.stamps++[x]}/\GH (L.stamps++[x])=0
theorem Inv.nR{x:QJ}(h:Inv n s L)(b:M9 L x a):Inv n (s+1) a:=by
 obtain⟨rfl,_⟩:=b;exact⟨h.casks,h.duties,by have:=h.stamps;simp;omega,h.days,h.rules,h.batches,h.pure⟩
theorem EE(h:Inv n s L)(hs:s < 256)(x:QJ):Y2 (M9 L x) (Ph L x):=by
 unfold Ph;rw[DO (by have:=h.stamps;omega)];exact Y2.rr I1 λhe=>Y2.ok ⟨rfl,he⟩
theorem Hh.rules(h:Hh L x a):a.rules=L.rules:=by obtain⟨rfl,_⟩:=h;rfl
theorem AA.rules{x:QQ}(h:AA L x a):a.rules=L.rules:=by obtain⟨rfl,_⟩:=h;rfl
def dz(n s:Nat)(L a:QA):Prop:=Inv n s a/\a.rules=L.rules
theorem qX(h:Inv n s L)(g:n<=999000)(d:L.rules.isNone=false)(fro to a:Int):Y2 (dz (n+2) s L) (MP L fro to a):=by
 unfold MP;split
 .exact Y2.ok ⟨h.up hQ<|So _,rfl⟩
 .refine Y2.aD (Sa h hQ d _) λi c=>Y2.aD (Sa (h.aS c) hQ (by rw[c.rules];exact d) _) λf e=>Y2.ok ?_;have b:=(h.aS c).aS e;exact⟨⟨b.casks,b.duties,b.stamps,b.days,b.rules,b.batches,b.pure⟩,by show f.rules=_;rw[e.rules,c.rules]⟩
theorem EY{s:QA}(h:Hh L x s)(b:x.Kind=2∨x.Kind=3):(atR L x.Cask).2=0/\1<=x.Amount/\x.Amount<=(atR L x.Cask).1.Amount:=by
 obtain⟨_,all,m,k,n,_,p,q⟩:=h;have d:=Ca.DF p (by rcases b with b | b<;>simp[b]);unfold atR;generalize e:({x with Day:=L.day}:QE)=y at p q d
 have t:y.Kind=x.Kind:=by rw[<-e]
 have g:y.Cask=x.Cask:=by rw[<-e]
 have l:y.Amount=x.Amount:=by rw[<-e]
 rw[l] at d
 rw[<-g];cases q with
 | rack k i c f h j o v h' ne w u z a r=>rw[Ca.OS n f h];exact⟨rfl,d.1,by show _<=c.C.Amount;omega⟩
 | drain k i c f h u a=>rw[Ca.OS n f h];exact⟨rfl,d.1,by show _<=c.C.Amount;omega⟩
 | make k=>omega
 | fill k=>omega
 | carry k=>omega
 | sell k=>omega
 | pledge k=>omega
 | free k=>omega
 | char k=>omega
theorem MA{a b:Int}(c:b≠0):∃q,B5 .i64 a b=some q:=by unfold B5;rw[Do c];exact⟨_,rfl⟩
theorem qQ{d:QA}(h:Hh L x d)(e:x.Kind=2∨x.Kind=3)(c:QA):∃p,MK c (atR L x.Cask).1 x.Amount=some p/\True:=by
 obtain⟨_,g,i⟩:=EY h e;unfold MK;split
 .exact⟨_,rfl,trivial⟩
 .obtain⟨q,f⟩:=MA (a:=Qy<|WN c (atR L x.Cask).1.Number*x.Amount) (b:=(atR L x.Cask).1.Amount) hQ;exact⟨q,f,trivial⟩
abbrev LA(n s:Nat)(L:QA)(r:Q0 H1×QA):Prop:=Inv n s r.2/\(r.1=zd∨r.2=L)/\r.1.length<=2300000
theorem Gy(h:Inv n s L):Y2 (LA n s a) (kH L):=Y2.ok ⟨h,.inl rfl,by show(2:Nat)<=_;omega⟩
section
variable(h:Inv n s L)(hn:n<=900000)(hs:s < 256)(hr:L.rules.isNone=false)
include h
theorem Ts{w:Q0 H1}(a:w.length<=1000)(b:l.length<=100000)(hi:l.all Im=true):Y2 (LA n s L) (Oc w l L):=by
 unfold Oc;rw[DO ⟨a,b,hi⟩];exact Y2.ok ⟨h,.inr rfl,by have:=Ng w l;show(Hm w l).length<=_;omega⟩
theorem xj(d:Int):Y2 (LA n s L) (fU L [d]):=Y2.s3 er λ_=>Y2.s3 er λa=>Gy ⟨h.casks,h.duties,h.stamps,λx b=>qBU (h.days x b) (by simpa using a),h.rules,h.batches,h.pure⟩
theorem yP(a b c:Int){d:Q0 Int}(e:U0 d=some ps)(f:d.length<=1000000):Y2 (LA n s L) (zr L<|a::b::c::d):=by
 show Y2 _ (if _ then _ else _);rw[DO f,e];refine Y2.s3 er λ_=>Y2.s3 er λ_=>Gy ⟨h.casks,h.duties,h.stamps,h.days,λr hr=> ?_,h.batches,h.pure⟩;simp only[UV] at hr
 subst hr;have:=(Fw e).2;simp[VZ];omega
include hn
theorem uZ(c w p m o:Int):Y2 (LA (n+1) s L) (ua L [c,w,p,m,o]):=Y2.s3 er λ_=>Y2.aD (Gf h hQ _) λ_ a=>Gy<|h.a8 a
theorem EA(k c p t:Int):Y2 (LA (n+1) s L) (Nk k L [c,p,t]):=Y2.aD (Gf h hQ _) λ_ a=>Gy<|h.a8 a
theorem um(c p:Int):Y2 (LA (n+1) s L) (uo L [c,p]):=Y2.aD (Gf h hQ _) λ_ a=>Gy<|h.a8 a
theorem wF(c p:Int):Y2 (LA (n+1) s L) (wG L [c,p]):=Y2.aD (Gf h hQ _) λ_ a=>Gy<|h.a8 a
include hr
theorem uu(c a b:Int):Y2 (LA (n+2) s L) (uv L [c,a,b]):=by
 refine Y2.s3 er λ_=>Y2.aD (Gf h hQ _) λg d=>Y2.aD (Q:=Inv (n+2) s) ?_ λf e=>Gy e;unfold filled;split
 .refine Y2.aD (Sa (h.a8 d) hQ (by rw[d.rules];exact hr) _) λf e=>Y2.ok ?_;exact((h.a8 d).aS e).set<|OQ _
 .exact Y2.ok<|(h.a8 d).up hQ<|So _
theorem uH(a b m:Int):Y2 (LA (n+3) s L) (uI L [a,b,m]):=by
 refine Y2.aD (Gf h hQ _) λd c=>Y2.bind (qQ c (.inl rfl) d) λp _=>Y2.aD (qX (h.a8 c) hQ (by rw[c.rules];exact hr) _ _ _) λf e=> ?_;exact Gy<|(e.1.set<|OQ _).set<|OQ _
theorem vB(a p:Int):Y2 (LA (n+3) s L) (kr L [a,p]):=Y2.aD (Gf h hQ _) λd b=>Y2.aD (qX (h.a8 b) hQ (by rw[b.rules];exact hr) _ _ _) λe c=>Gy c.1
theorem xH(a:Int):Y2 (LA (n+1) s L) (fD L [a]):=Y2.aD (Sa h hQ hr _) λ_ b=>Gy<|h.aS b
omit hr hn
include hs
theorem Nv(k a b:Int):Y2 (LA n (s+1) L) (Tp k L [a,b]):=Y2.aD (EE h hs _) λ_ c=>Gy<|h.nR c
end
theorem zA(h:Inv n s L)(m:n<=900000)(k:L.rules.isNone=false)(c a:Int):Y2 (λr=>Inv (n+2) s r.2/\r.2.rules=L.rules) (Bc L c a):=by
 refine Y2.rr Ca.jK λ_=>Y2.aD (Gf h hQ _) λl d=>Y2.bind (qQ d (.inr rfl) l) λp _=>Y2.aD (Q:=λe=>Inv (n+2) s e/\e.rules=L.rules) ?_ λe f=> ?_
 .unfold Tz;split
  .refine Y2.aD (Sa (h.a8 d) hQ (by rw[d.rules];exact k) _) λe f=>Y2.ok ⟨((h.a8 d).aS f).set<|OQ _,?_⟩;show e.rules=_;rw[f.rules,d.rules]
  .exact Y2.ok ⟨(h.a8 d).up hQ<|So _,d.rules⟩
 .have j:=(EY d<|.inr rfl).2.1;obtain⟨lo,g⟩:=MA (a:=Qy<|p*10000) (b:=a) (by show a≠0;have:1<=a:=j;omega);obtain⟨hi,i⟩:=MA (a:=Qy<|Qy (Qy (p*10000)+a) - 1) (b:=a) (by show a≠0;have:1<=a:=j;omega);rw[g,K1,i,K1];exact Y2.ok f
theorem E2{s:Nat}{R:Q2 Qw}(c:R.isNone=false):∀(ps:Q0 (Int×Int)) (n:Nat) (L:QA) (b:QV),Inv n s L->n+2*ps.length<=900000->b.Draughts.length+ps.length<=1000->L.rules=R->
  Y2 (λr=>Inv (n+2*ps.length) s r.2/\r.1.Draughts.length=b.Draughts.length+ps.length) (G5 ps b L)
 | [],n,L,b,h,_,_,_=>Y2.ok ⟨h,rfl⟩
 | p::ps,n,L,b,h,f,g,d=>by
  simp only[L4] at f g
  refine Y2.aD (zA h hQ (by rw[d];exact c) p.1 p.2) λr a=> ?_;rw[DO hQ];refine(E2 c ps (n+2) r.2 _ a.1 hQ ia<|by rw[a.2,d]).imp λq e=>⟨e.1.up ia<|So _,?_⟩;rw[e.2];simp;omega
section
variable(h:Inv n s L)(hn:n<=800000)(hs:s < 256)(hr:L.rules.isNone=false)
include h hn hs hr
theorem kv(c w a z:Int){ds:Q0 Int}(i:U0 ds=some ps)(m:ds.length<=1000):Y2 (LA (n+1000) (s+1) L) (IU L<|c::w::a::z::ds):=by
 have j:=(Fw i).2;show Y2 _ (if _ then _ else _);rw[DO hQ,i];refine Y2.s3 er λ_=>Y2.aD (E2 hr ps n L _ h hQ ia rfl) λr e=> ?_;have d:r.1.Draughts.length<=1000:=by rw[e.2];simp;omega
 rw[DO d];refine Y2.s3 er λ_=>Y2.s3 er λ_=>Y2.aD (EE e.1 hs _) λo l=>Gy ?_;have f:=(e.1.nR l).up (show _<=n+1000 by omega)<|So _;refine⟨f.casks,f.duties,f.stamps,f.days,f.rules,λk b g=> ?_,f.pure⟩;simp only at g
 rw[Ca.WO] at g
 split at g
 .simp only[UV] at g;subst g;exact d
 .exact f.batches k b g
omit hn hs hr
theorem Oa(c:Int):Y2 (LA n s L) (Pj L [c]):=by
 refine Y2.rr Ca.jK λhe=>Ts h ig ic ?_;obtain⟨last,m,b,e,a,d⟩:=Ca.wv (l:=L.casks) (num:=c) (day:=L.day) he;have f:=a.amt;have g:=a.room;have i:=a.age;have j:=a.owner;have k:=a.cred;simp only[atR,e,ld,qAa,h.pure,oc,BY];exact⟨CE hQ,CE hQ,CE hQ,CE hQ⟩
theorem LN(c:Int):Y2 (LA n s L) (TE L [c]):=by
 refine Y2.rr Ca.gv λ_=> ?_;obtain⟨d,a⟩:=Ca.gu L.casks c L.day;exact Ts h ig hQ<|IN.2 λx b=>CE (by have:=a x b;omega)
theorem LO(a k w v:Int):Y2 (LA n s L) (Ue L [a,k,w,v]):=by
 unfold Ue;simp only;split
 .exact Y2.pan er
 .rename_i b d;unfold Mq;rw[DO<|h.batches a b d,K1];have c:∀b:Bool,(if b then L5 else zh).length<=2300000:=λb=>by cases b<;>decide
  split
  .exact Y2.rr (e:=0) (λh=>absurd rfl h) λ_=>Y2.ok ⟨h,.inr rfl,c _⟩
  .exact Y2.rr (e:=1) (λ_=>er) λ_=>Y2.ok ⟨h,.inr rfl,c true⟩
include hr
theorem OA:∃r,L.rules=some r/\OB L=some (Cj r L.duties L.day).1:=by
 unfold OB;cases a:L.rules with
 | none=>rw[a] at hr;cases hr
 | some r=>
  simp only;rw[DO<|h.rules r a];exact⟨r,rfl,rfl⟩
end
theorem js(r:Qw)(l:Q0 QQ)(day:Int):(∀j,j < 16->Im ((Cj r l day).1.Bonds j)=true)/\Im (Cj r l day).1.Due=true/\Im (Cj r l day).1.Paid=true:=by
 unfold Cj;cases c:Ex.JV r l day with
 | mk q k=>
  cases q with
  | inr e=>exact⟨λ_ _=>rfl,rfl,rfl⟩
  | inl a=>
   obtain⟨_,b,f,g⟩:=Ex.SL c;have h:=Ex.EV c;have i:=Ex.xi b hQ;exact⟨λj d=>CE (by have:=b.bonds j d;show _<=a.B.Bonds j/\a.B.Bonds j<=_;omega),CE (by show _<=a.B.Due/\a.B.Due<=_;omega),CE (by show _<=a.B.Paid/\a.B.Paid<=_;omega)⟩
open Bo in
theorem gm{l:Q0 QJ}(n:Int)(a:Wr UK l):Im (Lz l n).1=true:=by
 unfold Lz;cases h:(cur l n).filter (λe=>decide<|e.Kind=1) with
 | none=>rfl
 | some e=>
  rw[<-Iq n l a] at h
  have b:=List.find?_some h;simp only[TO] at b
  obtain⟨pre,post,rfl⟩:=oN<|lf h;have:=((jV e).1 (qu<|a pre e post rfl).1).2.1 b.1;exact CE (by show _<=e.Batch/\e.Batch<=_;omega)
section
variable(h:Inv n s L)
include h
theorem Ob(b:L.rules.isNone=false)(d:0<=c):Y2 (LA n s L) (Pk L [c]):=by
 refine Y2.s3 er λa=> ?_;obtain⟨r,_,e⟩:=OA h b;have a:c < 16:=by simpa using a
 rw[e,K1,Bo.AK d hQ,K1];exact Ts h ig ic (by simp only[ld,qAa,oc];exact(js r L.duties L.day).1 _ hQ)
theorem I2(a:L.rules.isNone=false)(l:Q0 Int):Y2 (LA n s L) (Tq L l):=by
 unfold Tq;obtain⟨r,_,b⟩:=OA h a;rw[b,K1];obtain⟨_,c,d⟩:=js r L.duties L.day;exact Ts h ig ic<|by simp only[ld,qAa,oc,c,d]
theorem LM(hs:s < 256)(c:Int):Y2 (LA n s L) (TD L [c]):=by
 have b:L.stamps.length<=256:=by have:=h.stamps;omega
 show Y2 _ ((OP _ _).bind _);unfold OP;rw[DO b,K1];obtain⟨_,_,_,d⟩:=TB L.stamps b;by_cases he:GH L.stamps=0
 .rw[DO<|by simpa using he];refine Y2.rr (λa=> ?_) λ_=>Ts h ig ic (by simp only[ld,qAa,oc];exact gm c<|d he);unfold Bo.Lz at a ⊢
  split
  .rename_i e;rw[e] at a;exact absurd rfl a
  .exact er
 .rw[Do<|by simpa using he];exact Y2.rr I1 λf=>absurd f he
end
theorem qH{line:Q0 H1}{w:Q0 H1×Q0 Int}(h:FB line= .ok w):∀x∈w.2,0<=x:=by
 unfold FB at h
 split at h
 .cases h
 .split at h
  .simp only[Out.ok.injEq] at h
   subst h;intro x a;obtain⟨p,_,rfl⟩:=lX.1 a;exact Int.natCast_nonneg _
  .cases h
theorem TJ:∀(l:Q0 Int),l.length%2=0->∃ps,U0 l=some ps
 | [],_=>⟨[],rfl⟩
 | [_],h=>by simp at h
 | a::b::l,h=>by
  obtain⟨ps,c⟩:=TJ l (by simp at h;omega);exact⟨(a,b)::ps,by simp[U0,c]⟩
theorem qm{a:Int}(h:Xx a 0 l.length=true):(l.length:Int)=a:=by simpa[Xx] using h
theorem gV{a:Int}(h:Xx a 2 l.length=true):(l.length:Int) > a/\((l.length:Int) - a)%2=0:=by simpa[Xx] using h
theorem Pw(h:Xx 1 0 l.length=true):∃a,l=[a]:=by
 have:=qm h;rcases l with _ | ⟨a,_ | ⟨b,l⟩⟩<;>simp at this
 .exact⟨a,rfl⟩
 .omega
theorem NF(h:Xx 2 0 l.length=true):∃a b,l=[a,b]:=by
 have:=qm h;rcases l with _ | ⟨a,_ | ⟨b,_ | ⟨c,l⟩⟩⟩<;>simp at this
 .exact⟨a,b,rfl⟩
 .omega
theorem qc(h:Xx 3 0 l.length=true):∃a b c,l=[a,b,c]:=by
 have:=qm h;rcases l with _ | ⟨a,_ | ⟨b,_ | ⟨c,_ | ⟨d,l⟩⟩⟩⟩<;>simp at this
 .exact⟨a,b,c,rfl⟩
 .omega
theorem dU(h:Xx 4 0 l.length=true):∃a b c d,l=[a,b,c,d]:=by
 have:=qm h;rcases l with _ | ⟨a,_ | ⟨b,_ | ⟨c,_ | ⟨d,_ | ⟨e,l⟩⟩⟩⟩⟩<;>simp at this
 .exact⟨a,b,c,d,rfl⟩
 .omega
theorem dT(h:Xx 5 0 l.length=true):∃a b c d e,l=[a,b,c,d,e]:=by
 have:=qm h;rcases l with _ | ⟨a,_ | ⟨b,_ | ⟨c,_ | ⟨d,_ | ⟨e,_ | ⟨f,l⟩⟩⟩⟩⟩⟩<;>simp at this
 .exact⟨a,b,c,d,e,rfl⟩
 .omega
theorem gO(h:Xx 3 2 l.length=true):∃a b c d ps,l=a::b::c::d/\U0 d=some ps:=by
 have:=gV h;rcases l with _ | ⟨a,_ | ⟨b,_ | ⟨c,l⟩⟩⟩<;>simp only[L4,qs,o3,qAb,tO] at this
 iterate 3 omega
 .obtain⟨ps,e⟩:=TJ l hQ;exact⟨a,b,c,l,ps,rfl,e⟩
theorem gP(h:Xx 4 2 l.length=true):∃a b c d e ps,l=a::b::c::d::e/\U0 e=some ps:=by
 have:=gV h;rcases l with _ | ⟨a,_ | ⟨b,_ | ⟨c,_ | ⟨d,l⟩⟩⟩⟩<;>simp only[L4,qs,o3,qAb,tO] at this
 iterate 4 omega
 .obtain⟨ps,f⟩:=TJ l hQ;exact⟨a,b,c,d,l,ps,rfl,f⟩
theorem Wh{a:Nat}{x:RL}(h:Y2 (LA n s L) x)(b:n<=n')(hs:s<=a):Y2 (LA n' a L) x:=h.imp λ_ h=>⟨h.1.up b hs,h.2⟩
theorem ud(h:Inv n s L)(x:n<=700000)(hs:s < 256)(line:Q0 H1):Y2 (LA (n+1000) (s+1) L) (Ru L line):=by
 unfold Ru;split
 .exact Y2.pan er
 rename_i v;cases j:FB line with
 | pan q=>
  refine Y2.pan ?_;unfold FB at j
  split at j
  .cases j;exact er
  .split at j
   .cases j
   .cases j;exact er
 | ok w=>
  simp only;cases m:Pc w.1 with
  | none=>exact Y2.pan er
  | some d=>
   refine Y2.s3 er λf=>Y2.s3 er λg=> ?_;rw[DO ⟨by have:=h.casks;omega,by have:=h.duties;omega,by have:=h.stamps;omega⟩];have o:d∈X0:=lf m;have k:d.word=w.1:=by simpa using List.find?_some m
   have l:=qH j;have i:w.2.length<=1000:=by have:=N8 j;omega
   have g:d.word≠[100,97,121]->d.word≠[114,117,108,101,115]->L.rules.isNone=false:=λt u=>by
    rw[k] at t u
    simpa[t,u] using g
   clear j m k
   generalize w.2=p at f l i ⊢
   unfold X0 at o
   simp only[A4,oo,qAf] at o
   rcases o with rfl | rfl | rfl | rfl | rfl | rfl | rfl | rfl | rfl | rfl | rfl | rfl | rfl | rfl | rfl | rfl | rfl | rfl | rfl | rfl
   .obtain⟨a,rfl⟩:=Pw f;exact Wh (xj h a) hQ hQ
   .obtain⟨a,b,c,p,ps,rfl,r⟩:=gO f;exact Wh (yP h a b c r (by simp at i;omega)) hQ hQ
   .obtain⟨a,b,c,d,e,rfl⟩:=dT f;exact Wh (uZ h hQ a b c d e) hQ hQ
   .obtain⟨a,b,c,rfl⟩:=qc f;exact Wh (uu h hQ (g ig ig) a b c) hQ hQ
   .obtain⟨a,b,c,rfl⟩:=qc f;exact Wh (uH h hQ (g ig ig) a b c) hQ hQ
   .obtain⟨a,b,rfl⟩:=NF f;exact Wh (vB h hQ (g ig ig) a b) hQ hQ
   .obtain⟨a,b,c,rfl⟩:=qc f;exact Wh (EA h hQ 5 a b c) hQ hQ
   .obtain⟨a,b,c,rfl⟩:=qc f;exact Wh (EA h hQ 6 a b c) hQ hQ
   .obtain⟨a,b,rfl⟩:=NF f;exact Wh (um h hQ a b) hQ hQ
   .obtain⟨a,b,rfl⟩:=NF f;exact Wh (wF h hQ a b) hQ hQ
   .obtain⟨a,b,rfl⟩:=NF f;exact Wh (Nv h hs 0 a b) hQ hQ
   .obtain⟨a,b,rfl⟩:=NF f;exact Wh (Nv h hs 2 a b) hQ hQ
   .obtain⟨a,b,c,d,p,ps,rfl,r⟩:=gP f;exact Wh (kv h hQ hs (g ig ig) a b c d r (by simp at i;omega)) hQ hQ
   .obtain⟨a,rfl⟩:=Pw f;exact Wh (xH h hQ (g ig ig) a) hQ hQ
   .obtain⟨a,rfl⟩:=Pw f;exact Wh (Oa h a) hQ hQ
   .obtain⟨a,rfl⟩:=Pw f;exact Wh (Ob h (g ig ig)<|l a ic) hQ hQ
   .exact Wh (I2 h (g ig ig) p) hQ hQ
   .obtain⟨a,rfl⟩:=Pw f;exact Wh (LM h hs a) hQ hQ
   .obtain⟨a,b,c,d,rfl⟩:=dU f;exact Wh (LO h a b c d) hQ hQ
   .obtain⟨a,rfl⟩:=Pw f;exact Wh (LN h a) hQ hQ
theorem fQ(h:Inv n s L)(c:n<=700000)(hs:s < 256)(line:Q0 H1):∃a e b,fS L line=some (a,e,b)/\Inv (n+1000) (s+1) b/\((Er e/\a=[]/\b=L)∨(e=0/\Ru L line=some (.ok (a,b))/\(a=zd∨b=L)/\a.length<=2300000)):=by
 obtain⟨r,d,f,g⟩:=ud h c hs line;unfold fS;rw[d];cases r with
 | pan q=>exact⟨_,_,_,rfl,h.up hQ hQ,.inl ⟨g q rfl,rfl,rfl⟩⟩
 | ok r=>
  obtain⟨i,j,k⟩:=f r rfl;exact⟨_,_,_,rfl,i,.inr ⟨rfl,rfl,j,k⟩⟩
end Go.Proofs.YthfjpbooaofjcaaGreatDoor
namespace Go.Proofs.YthfjpbooaofjcaaGreatDoor
section
open Go.Dec Go.Proofs.Tryz Go.Shelf Go.RowKit Go.Maps Go.Sort
set_option maxRecDepth 100000
set_option maxHeartbeats 4000000
abbrev dK:= @Tryz.underlying32
abbrev fw:= @Tryz.underlying33
abbrev jD:= @Tryz.underlying49
abbrev fu:= @Tryz.isAgg49
abbrev jA:= @Tryz.sizeOf49
abbrev cU:= @Tryz.zeroValue32
abbrev dE:= @Tryz.zeroValue49
theorem uQ:Uo Tryz.prog 49 18 (Ex QH):=.ex (λ_=>rfl) (λ_=>rfl) Tryz.sizeOf49 ⟨_,Tryz.typeInfo49,by decide+kernel,by decide+kernel⟩ ⟨_,Tryz.zeroValue49,rfl⟩
end
section
open Go.Dec
def WV(l:Q0 (Q0 H1)):Nat:=(l.map λx=>x.length+1).sum
theorem qn(l:Q0 (Q0 H1))(c:∀x∈l,x.length<=140737488351232):∀(post pre:Q0 (Q0 H1)),l=pre++post->pre.length<=41->
  ∃b:Int,ZV (Jt l) ((WV pre:Int),(pre.length:Int))=some b/\(l.length<=40->b=WV l)
 | [],pre,e,j=>by
  rw[mo] at e
  subst e;refine⟨WV l,?_,λ_=>rfl⟩;rw[ZK];unfold Jt;simp
 | x::post,pre,e,j=>by
  have k:=YJ e;have hi:=Xf e;by_cases m:pre.length < 41
  .have s:WV pre<=pre.length*140737488351233:=by
    have:∀(q:Q0 (Q0 H1)),(∀x∈q,x.length<=140737488351232)->WV q<=q.length*140737488351233:=by
     intro q
     induction q with
     | nil=>intro _;simp[WV]
     | cons y q o=>
      intro h;have g:=o λz p=>h z (by simp[p]);have i:=h y ic;have d:WV (y::q)=y.length+1+WV q:=by simp[WV]
      rw[d,L4];omega
    exact this pre λy r=>c y (by rw[e];simp[r])
   have t:=c x (by rw[e];simp)
   have a:Jt l ((WV pre:Int),(pre.length:Int))=some (.next ((WV (pre++[x]):Int),((pre++[x]).length:Int))):=by
    unfold Jt;have f:(decide ((pre.length:Int) < (l.length:Int))&&decide ((pre.length:Int) < 41))=true:=by simp;omega
    simp only[f,B1,Zq,k,K1,QO];rw[Qs (n:=(WV pre:Int)+(x.length:Int)) hQ hQ,Qs hQ hQ,Qs hQ hQ];have d:WV (pre++[x])=WV pre+(x.length+1):=by simp[WV]
    rw[d];simp only[bY,od];congr 4
   obtain⟨b,g,i⟩:=qn l c post (pre++[x]) (by rw[e];simp) ia;refine⟨b,?_,i⟩;rw[ZK,a];exact g
  .refine⟨WV pre,?_,λh=>by omega⟩;rw[ZK];unfold Jt;have f:(decide ((pre.length:Int) < (l.length:Int))&&decide ((pre.length:Int) < 41))=false:=by simp;omega
   simp only[f,W1,Bm]
theorem fP(l:Q0 (Q0 H1))(a:∀x∈l,x.length<=140737488351232):∃b,Uf l=some b/\(b=true->l.length<=40/\WV l<=4000):=by
 obtain⟨b,c,d⟩:=qn l a l [] rfl ic;refine⟨_,by unfold Uf;exact ZZ c rfl,λh=> ?_⟩;simp only[BY,TO] at h
 have e:=d hQ;omega
section
variable{A:Q0 Q8}{i:Nat}{L:QA}
theorem Mu(h:A[i]? =some ⟨L,true⟩)(a:L.casks.length<=1000000):YH A (some i)=some L.casks:=by
 unfold YH KT;simp only[o6,W1,Bm,K1,h,RW];rw[W2 ia];rfl
theorem dY{n s:Nat}(h:A[i]? =some ⟨L,true⟩)(d:Inv n s L)(f:n<=700000)(hs:s < 256)(line:Q0 H1):∃a e b,Xb A (some i) line=some (a,e,A.set i ⟨b,true⟩)/\fS L line=some (a,e,b)/\Inv (n+1000) (s+1) b/\((Ca.Er e/\a=[]/\b=L)∨(e=0/\Ru L line=some (.ok (a,b))/\(a=zd∨b=L)/\a.length<=2300000)):=by
 obtain⟨a,e,b,c,g,j⟩:=fQ d f hs line;exact⟨a,e,b,gX h line _ (by rw[c];rfl),c,g,j⟩
end
end
section
open Go.Dec
variable{L L1:QA}{rep:Q0 H1}{β:Type}
theorem YO{b:Bool}{e:Int}{k:RO β}{r:β}(h:Ux b e k=some (.ok r)):b=true/\k=some (.ok r):=by
 unfold Ux at h
 cases b with
 | true=>exact⟨rfl,h⟩
 | false=>cases h
theorem Yz{α:Type}{x:RO α}{k:α->RO β}{r:β}(h:Hl x k=some (.ok r)):∃a,x=some (.ok a)/\k a=some (.ok r):=by
 unfold Hl at h
 cases x with
 | none=>cases h
 | some x=>
  cases x with
  | ok a=>exact⟨a,rfl,h⟩
  | pan q=>cases h
theorem Wm{c:Prop}[Decidable c]{a:Q2 β}{r:β}(h:(if c then a else none)=some r):c/\a=some r:=by
 by_cases b:c
 .rw[DO b] at h;exact⟨b,h⟩
 .rw[Do b] at h;cases h
theorem HF{x:QE}(c:∀y∈L.casks,y.Day<=L.day)(h:Cn L x=some (.ok L1)):Hh L x L1:=by
 obtain⟨_,h⟩:=Wm h;obtain⟨he,h⟩:=YO h;simp only[UV,Out.ok.injEq] at h
 subst h;refine⟨rfl,?_⟩;obtain⟨a,k,b⟩:=Ca.ju (by simpa using he);obtain⟨all,d,e,f⟩:=Ca.EU (x:={x with Day:=L.day}) rfl c b;exact⟨all,a,k,d,b,e,f⟩
theorem Sb{x:QQ}(h:Bb L x=some (.ok L1)):AA L x L1:=by
 unfold Bb at h
 split at h
 .cases h
 .rename_i r a;obtain⟨_,h⟩:=Wm h;obtain⟨he,h⟩:=YO h;simp only[UV,Out.ok.injEq] at h
  subst h;exact⟨by rw[a],r,a,by simpa using he⟩
theorem Pg{x:QJ}(h:Ph L x=some (.ok L1)):L.stamps.length < 256/\M9 L x L1:=by
 obtain⟨a,h⟩:=Wm h;obtain⟨he,h⟩:=YO h;simp only[UV,Out.ok.injEq] at h
 subst h;exact⟨a,rfl,by simpa using he⟩
inductive LC(L:QA)(fro to n:Int):QA->Prop where
 | stay (h:n=0∨fro=to):LC L fro to n L
 | go (hn:n≠0) (hf:fro≠to) (L1 L2:QA) (d1:AA L ⟨1,0,fro,to,L.ids,n⟩ L1) (d2:AA L1 ⟨2,0,to,0,L1.ids,n⟩ L2):LC L fro to n {L2 with ids:=Qy (L2.ids+1)}
theorem qY{fro to n:Int}(h:MP L fro to n=some (.ok L1)):LC L fro to n L1:=by
 unfold MP at h
 split at h
 .rename_i a;simp only[UV,Out.ok.injEq] at h
  subst h;exact .stay<|by simpa using a
 .rename_i a;obtain⟨d,b,h⟩:=Yz h;obtain⟨e,c,h⟩:=Yz h;simp only[UV,Out.ok.injEq] at h
  subst h;simp only[mx,r6,not_or] at a
  exact .go a.1 a.2 _ _ (Sb b)<|Sb c
abbrev LH:Q0 H1:=[100,97,121]
abbrev Hn:Q0 H1:=[114,117,108,101,115]
abbrev gF:Q0 H1:=[102,105,108,108]
abbrev FN:Q0 H1:=[98,111,116,116,108,101]
abbrev Re:Q0 (Q0 H1):=[[115,101,108,108],[112,108,101,100,103,101],[102,114,101,101],[99,104,97,114],[115,116,97,109,112,115],[115,112,111,105,108],[109,97,107,101],[114,97,99,107],[99,97,114,114,121],[112,97,121]]
abbrev gq:Q0 (Q0 H1):=[[99,97,115,107],[98,111,110,100],[100,117,101],[119,104,111,115,101],[99,108,97,105,109],[102,105,108,108,115]]
inductive Deed(L:QA):List UInt8->List Int->List UInt8->QA->Prop where
 | day (d:Int) (h1:d<=65536) (h2:L.day<=d):Deed L LH [d] zd {L with day:=d}
 | rules (a b c:Int) (ns:List Int) (ps:List (Int×Int)) (hp:U0 ns=some ps) (h0:L.rules=none) (h1:Ex.Gv (VZ a b c ps)=true):Deed L Hn (a::b::c::ns) zd {L with rules:=some (VZ a b c ps)}
 | make (w:List UInt8) (hw:w∈Re) (c v p m o:Int) (L1:QA) (hm:m<=1073741824) (h:Hh L ⟨0,0,c,v,o,0,m,p⟩ L1):Deed L w [c,v,p,m,o] zd L1
 | fill0 (c n s:Int) (L1:QA) (hs:1<=s/\s<=10000) (h:Hh L ⟨1,0,c,0,0,0,n,0⟩ L1) (hp:¬BS n s > 0):Deed L gF [c,n,s] zd L1
 | fill (c n s:Int) (L1 L2:QA) (hs:1<=s/\s<=10000) (h:Hh L ⟨1,0,c,0,0,0,n,0⟩ L1) (hp:BS n s > 0) (d:AA L1 ⟨0,0,(atR L1 c).1.Place,0,0,BS n s⟩ L2):Deed L gF [c,n,s] zd (Ho L2 c<|Qy<|WN L2 c+BS n s)
 | rack (w:List UInt8) (hw:w∈Re) (a b n p:Int) (L1 L2:QA) (h:Hh L ⟨2,0,a,b,0,0,n,0⟩ L1) (hp:MK L1 (atR L a).1 n=some p) (hm:LC L1 (atR L a).1.Place (atR L b).1.Place p L2):Deed L w [a,b,n] zd (Ho (Ho L2 a<|Qy<|WN L2 a - p) b<|Qy<|WN (Ho L2 a<|Qy<|WN L2 a - p) b+p)
 | carry (w:List UInt8) (hw:w∈Re) (a p:Int) (L1 L2:QA) (h:Hh L ⟨4,0,a,0,0,0,0,p⟩ L1) (hm:LC L1 (atR L a).1.Place p (WN L1 a) L2):Deed L w [a,p] zd L2
 | keep (w:List UInt8) (hw:w∈Re) (ns:List Int) (x:QE) (L1:QA) (hk:5<=x.Kind/\x.Kind<=8) (h:Hh L x L1):Deed L w ns zd L1
 | stamps (w:List UInt8) (hw:w∈Re) (ns:List Int) (x:QJ) (L1:QA) (hk:x.Kind≠1) (hl:L.stamps.length < 256) (h:M9 L x L1):Deed L w ns zd L1
 | pay (w:List UInt8) (hw:w∈Re) (a:Int) (L1:QA) (h:AA L ⟨6,0,0,0,0,a⟩ L1):Deed L w [a] zd L1
 | bottle (num v a z:Int) (ds:List Int) (ps:List (Int×Int)) (b:QV) (L1 L2:QA) (hp:U0 ds=some ps) (h0:QZ L.batches num=none) (hd:G5 ps ⟨[],v,⟨0,0⟩,false,false⟩ L=some (.ok (b,L1)))
  (hv:Bo.X1 b=true) (hs:Qy (Qy (z - a)+1)<=vw b) (hl:L1.stamps.length < 256) (h:M9 L1 ⟨1,a,z,num⟩ L2):Deed L FN (num::v::a::z::ds) zd {L2 with batches:=Qq L2.batches num b}
 | ask (d:Wd) (hd:d∈X0) (hw:d.word∈gq) (ns:List Int) (rep:List UInt8) (h:d.does L ns=some (.ok (rep,L))):Deed L d.word ns rep L
theorem Hr(h:kH L=some (.ok (rep,L1))):rep=zd/\L1=L:=by
 simp only[kH,UV,Out.ok.injEq,T2] at h
 exact⟨h.1.symm,h.2.symm⟩
theorem Tt{w:Q0 H1}{l:Q0 Int}(h:Oc w l L=some (.ok (rep,L1))):L1=L:=by
 obtain⟨_,h⟩:=Wm h;simp only[UV,Out.ok.injEq,T2] at h
 exact h.2.symm
theorem IK{z:QA}{line:Q0 H1}(n:∀y∈L.casks,y.Day<=L.day)(h:Ru L line=some (.ok (rep,z))):∃w o,FB line= .ok (w,o)/\(∃d∈X0,d.word=w/\Xx d.least d.each o.length=true)/\(w≠LH->w≠Hn->L.rules.isNone=false)/\Deed L w o rep z:=by
 unfold Ru at h
 split at h
 .cases h
 cases A:FB line with
 | pan q=>rw[A] at h;cases h
 | ok w=>
  rw[A] at h
  simp only at h
  cases t:Pc w.1 with
  | none=>rw[t] at h;cases h
  | some d=>
   rw[t] at h
   obtain⟨i,h⟩:=YO h;obtain⟨u,h⟩:=YO h;obtain⟨_,h⟩:=Wm h;have l:d∈X0:=lf t;have v:d.word=w.1:=by simpa using List.find?_some t
   refine⟨w.1,w.2,rfl,⟨d,l,v,i⟩,λj f=>by simpa[j,f] using u,?_⟩;rw[<-v];have g:d.word∈gq->z=L->Deed L d.word w.2 rep z:=λj f=>by subst f;exact .ask d l j _ _ h
   clear u t A
   generalize w.2=o at i h g ⊢
   unfold X0 at l
   simp only[A4,oo,qAf] at l
   rcases l with rfl | rfl | rfl | rfl | rfl | rfl | rfl | rfl | rfl | rfl | rfl | rfl | rfl | rfl | rfl | rfl | rfl | rfl | rfl | rfl
   .obtain⟨a,rfl⟩:=Pw i;obtain⟨j,h⟩:=YO h;obtain⟨f,h⟩:=YO h;obtain⟨rfl,rfl⟩:=Hr h;exact .day a (by simpa using j)<|by simpa using f
   .obtain⟨a,b,c,o,ps,rfl,m⟩:=gO i;obtain⟨_,h⟩:=Wm h;rw[m,K1] at h
    obtain⟨j,h⟩:=YO h;obtain⟨f,h⟩:=YO h;obtain⟨rfl,rfl⟩:=Hr h;exact .rules a b c o ps m (by simpa using j) f
   .obtain⟨a,b,c,d,e,rfl⟩:=dT i;obtain⟨j,h⟩:=YO h;obtain⟨L1,f,h⟩:=Yz h;obtain⟨rfl,rfl⟩:=Hr h;exact .make _ ic _ _ _ _ _ _ (by simpa using j)<|HF n f
   .obtain⟨a,b,c,rfl⟩:=qc i;obtain⟨j,h⟩:=YO h;obtain⟨L1,f,h⟩:=Yz h;obtain⟨s,k,h⟩:=Yz h;obtain⟨rfl,rfl⟩:=Hr h;simp only[BY,TO] at j
    unfold filled at k
    split at k
    .rename_i m;obtain⟨s,B,k⟩:=Yz k;simp only[UV,Out.ok.injEq] at k
     subst k;exact .fill a b c L1 s j (HF n f) m<|Sb B
    .rename_i m;simp only[UV,Out.ok.injEq] at k
     subst k;exact .fill0 a b c _ j (HF n f) m
   .obtain⟨a,b,c,rfl⟩:=qc i;obtain⟨L1,f,h⟩:=Yz h;obtain⟨p,m,h⟩:=u2.1 h;obtain⟨s,k,h⟩:=Yz h;obtain⟨rfl,rfl⟩:=Hr h;exact .rack _ ic a b c p L1 s (HF n f) m<|qY k
   .obtain⟨a,b,rfl⟩:=NF i;obtain⟨L1,f,h⟩:=Yz h;obtain⟨s,k,h⟩:=Yz h;obtain⟨rfl,rfl⟩:=Hr h;exact .carry _ ic a b L1 _ (HF n f)<|qY k
   .obtain⟨a,b,c,rfl⟩:=qc i;obtain⟨L1,f,h⟩:=Yz h;obtain⟨rfl,rfl⟩:=Hr h;exact .keep _ ic _ _ _ ⟨by dsimp only;omega,by dsimp only;omega⟩<|HF n f
   .obtain⟨a,b,c,rfl⟩:=qc i;obtain⟨L1,f,h⟩:=Yz h;obtain⟨rfl,rfl⟩:=Hr h;exact .keep _ ic _ _ _ ⟨by dsimp only;omega,by dsimp only;omega⟩<|HF n f
   .obtain⟨a,b,rfl⟩:=NF i;obtain⟨L1,f,h⟩:=Yz h;obtain⟨rfl,rfl⟩:=Hr h;exact .keep _ ic _ _ _ ⟨by dsimp only;omega,by dsimp only;omega⟩<|HF n f
   .obtain⟨a,b,rfl⟩:=NF i;obtain⟨L1,f,h⟩:=Yz h;obtain⟨rfl,rfl⟩:=Hr h;exact .keep _ ic _ _ _ ⟨by dsimp only;omega,by dsimp only;omega⟩<|HF n f
   .obtain⟨a,b,rfl⟩:=NF i;obtain⟨L1,f,h⟩:=Yz h;obtain⟨rfl,rfl⟩:=Hr h;obtain⟨x,f⟩:=Pg f;exact .stamps _ ic _ _ _ (by show(0:Int)≠1;decide) x f
   .obtain⟨a,b,rfl⟩:=NF i;obtain⟨L1,f,h⟩:=Yz h;obtain⟨rfl,rfl⟩:=Hr h;obtain⟨x,f⟩:=Pg f;exact .stamps _ ic _ _ _ (by show(2:Int)≠1;decide) x f
   .obtain⟨a,b,c,d,o,ps,rfl,m⟩:=gP i;obtain⟨_,h⟩:=Wm h;rw[m,K1] at h
    obtain⟨j,h⟩:=YO h;obtain⟨r,f,h⟩:=Yz h;obtain⟨_,h⟩:=Wm h;obtain⟨k,h⟩:=YO h;obtain⟨B,h⟩:=YO h;obtain⟨s,C,h⟩:=Yz h;obtain⟨rfl,rfl⟩:=Hr h;obtain⟨x,C⟩:=Pg C;exact .bottle a b c d o ps r.1 r.2 s m (by simpa using j) f k (by simpa using B) x C
   .obtain⟨a,rfl⟩:=Pw i;obtain⟨L1,f,h⟩:=Yz h;obtain⟨rfl,rfl⟩:=Hr h;exact .pay _ ic a _<|Sb f
   .obtain⟨a,rfl⟩:=Pw i;refine g ic ?_;obtain⟨_,h⟩:=YO h;exact Tt h
   .obtain⟨a,rfl⟩:=Pw i;refine g ic ?_;obtain⟨_,h⟩:=YO h;obtain⟨_,_,h⟩:=u2.1 h;obtain⟨_,_,h⟩:=u2.1 h;exact Tt h
   .refine g ic ?_;obtain⟨_,_,h⟩:=u2.1 h;exact Tt h
   .obtain⟨a,rfl⟩:=Pw i;refine g ic ?_;obtain⟨_,_,h⟩:=u2.1 h;obtain⟨_,h⟩:=YO h;exact Tt h
   .obtain⟨a,b,c,d,rfl⟩:=dU i;refine g ic ?_;unfold Ue at h
    simp only at h
    split at h
    .cases h
    .obtain⟨_,_,h⟩:=u2.1 h;obtain⟨_,h⟩:=YO h;simp only[UV,Out.ok.injEq,T2] at h
     exact h.2.symm
   .obtain⟨a,rfl⟩:=Pw i;refine g ic ?_;obtain⟨_,h⟩:=YO h;exact Tt h
end
section
open Go.Dec
theorem Ar(s:Q0 H1)(hs:s.length<=13):∀(post pre:Q0 H1),s=pre++post->pre.all E3=true->
  ZV (Jl s) ((Xq pre:Int),(pre.length:Int))=some (if post.all E3 then .inl (Xq s:Int) else .inr (0,false))
 | [],pre,e,g=>by
  rw[mo] at e;subst e
  rw[ZK];unfold Jl;simp
 | c::post,pre,e,g=>by
  have hi:=Xf e;have f:=YJ e;have o:=jJ g hQ;have p:c.toNat < 256:=c.toNat_lt
  have b:Jl s ((Xq pre:Int),(pre.length:Int))=some (if E3 c then .next ((Xq (pre++[c]):Int),((pre++[c]).length:Int)) else .done (.inr (0,false))):=by
   unfold Jl;simp only[Zq,f,K1,QO,show(decide<|(pre.length:Int) < (s.length:Int))=true by simpa using hi,B1];by_cases a:E3 c=true
   .have d:=a;simp only[E3,BY,TO] at d
    have i:decide ((c.toNat:Int) < 48)=false:=nt hQ;have j:decide ((c.toNat:Int) > 57)=false:=nt hQ;simp only[i,j,W1,Bm,K1];rw[cF _ hQ hQ,Qs (n:=10*(Xq pre:Int)) hQ hQ,Qs (n:=(c.toNat:Int) - 48) hQ hQ,Qs hQ hQ,Qs hQ hQ];have k:10*(Xq pre:Int)+((c.toNat:Int) - 48)=(Xq (pre++[c]):Int):=by rw[Pe];omega
    have l:(pre.length:Int)+1=((pre++[c]).length:Int):=by simp
    rw[k,l,a];rfl
   .have d:=a;simp only[E3,BY,TO] at d
    rw[Do a];by_cases h:(c.toNat:Int) < 48
    .simp only[aT h,B1,K1]
    .simp only[nt h,W1,Bm,K1,show decide ((c.toNat:Int) > 57)=true from aT hQ,B1]
  rw[ZK,b];cases a:E3 c with
  | false=>simp[a]
  | true=>
   have m:=Ar s hs post (pre++[c]) (by rw[e];simp) (by rw[oG,g];simp[a]);simp only[B1,m];simp[a]
theorem uS(s:Q0 H1):Vd s=some (if B6 s then((Xq s:Int),true) else(0,false)):=by
 unfold Vd B6;cases s with
 | nil=>rfl
 | cons c l=>
  have g:=λhs=>Ar (c::l) hs (c::l) [] rfl rfl;simp only[qs,tO,show(Xq []:Int)=0 from rfl] at g
  have i:ZI (c::l) 0=some c:=rfl;by_cases a:(c::l).length<=13
  .have b:(decide (((c::l).length:Int) < 1)||decide (((c::l).length:Int) > 13))=false:=by simp at a ⊢;omega
   simp only[b,W1,Bm,i,K1,g a];by_cases e:c=48
   .subst e;cases l with
    | nil=>rfl
    | cons d l=>
     have j:decide ((((48:H1)::d::l).length:Int) > 1)=true:=aT (by simp only[L4];omega);simp only[j,B1,show(((48:H1).toNat:Int)==48)=true from rfl,K1];simp
   .have k:((c.toNat:Int)==48)=false:=by
     rw[oH];intro h;exact e<|qA8.1 (by rw[show(48:H1).toNat=48 from rfl];omega)
    simp only[k,ite_self,K1,W1,Bm];have f:decide ((c::l).length<=13)=true:=aT a;have m:((c::l).head? ==some 48)=false:=by simpa using e
    simp only[f,m];cases n:(c::l).all E3<;>simp
  .have b:(decide (((c::l).length:Int) < 1)||decide (((c::l).length:Int) > 13))=true:=by simp at a ⊢;omega
   have f:decide ((c::l).length<=13)=false:=nt a;simp only[b,f,B1,K1];simp
def glue(cur:Q0 H1):Q0 (Q0 H1)->Q0 (Q0 H1)
 | []=>[cur]
 | p::ps=>(cur++p)::ps
theorem TI(line:Q0 H1)(n:line.length<=4000):∀(post a cur:Q0 H1) (acc:Q0 (Q0 H1)),line=a++(cur++post)->acc.length<=a.length->
  ZV (Zt line) (acc,(a.length:Int),((a++cur).length:Int))=some (acc++glue cur (Ya post))
 | [],a,cur,acc,e,k=>by
  have d:line=a++cur:=by rw[e];simp
  have hs:Zc line (a.length:Int) (line.length:Int)=some cur:=by
   unfold Zc;rw[DO (by rw[d];simp;omega),d,lV,lV];simp
  have t:a.length<=line.length:=by rw[d];simp
  rw[<-d]
  have g:Zt line (acc,(a.length:Int),(line.length:Int))=some (.next (acc++[cur],(line.length:Int)+1,(line.length:Int)+1)):=by
   unfold Zt;simp only[y0,lL,B1,oT,K1,hs,QO];rw[W2 ia,K1,Qs hQ hQ];rfl
  rw[ZK,g];simp only;rw[ZK];unfold Zt;have:decide ((line.length:Int)+1<=(line.length:Int))=false:=nt hQ;simp only[this,W1,Bm];simp[glue,Ya]
 | c::post,a,cur,acc,e,k=>by
  have d:line=(a++cur)++c::post:=by rw[e];simp
  have hi:=Xf d;have f:=YJ d;have o:a.length<=(a++cur).length:=by simp
  have q:decide (((a++cur).length:Int)<=(line.length:Int))=true:=aT hQ;have r:(((a++cur).length:Int)==(line.length:Int))=false:=by rw[oH];omega
  have s:((c.toNat:Int)==32)=(c==32):=by
   rw[ob,r6,r6];constructor
   .intro h;exact qA8.1 (by rw[show(32:H1).toNat=32 from rfl];omega)
   .intro h;subst h;rfl
  by_cases i:c=32
  .have g:Zt line (acc,(a.length:Int),((a++cur).length:Int))=some (.next (acc++[cur],((a++cur++[c]).length:Int),((a++cur++[c]).length:Int))):=by
    unfold Zt
    have hs:Zc line (a.length:Int) ((a++cur).length:Int)=some cur:=by
     unfold Zc;rw[DO hQ,d,lV,lV];simp
    simp only[q,B1,r,W1,Bm,Zq,f,K1,s,hs,QO,show(c==32)=true by simpa using i];rw[W2 ia,K1,Qs hQ hQ];simp;omega
   rw[ZK,g];have j:=TI line n post (a++cur++[c]) [] (acc++[cur]) (by rw[d];simp) (by simp at k ⊢;omega);rw[mo] at j
   simp only[j];subst i;have l:=Ny post;cases b:Ya post with
   | nil=>exact absurd b l
   | cons p ps=>simp[Ya,glue,b]
  .have g:Zt line (acc,(a.length:Int),((a++cur).length:Int))=some (.next (acc,(a.length:Int),((a++(cur++[c])).length:Int))):=by
    unfold Zt;simp only[q,B1,r,W1,Bm,Zq,f,K1,s,QO,show(c==32)=false by simpa using i];rw[Qs hQ hQ];simp;omega
   rw[ZK,g];have j:=TI line n post a (cur++[c]) acc (by rw[e];simp) k;simp only[j];have l:=Ny post;have m:(c==32)=false:=by simpa using i
   cases b:Ya post with
   | nil=>exact absurd b l
   | cons p ps=>simp[Ya,glue,b,m]
theorem T3(w:Q0 H1)(parts:Q0 (Q0 H1))(c:parts.length<=5000):∀(post pre:Q0 (Q0 H1)) (acc:Q0 Int),parts=pre++post->acc.length<=pre.length->
  ZV (JG parts) ((pre.length:Int),⟨w,acc⟩)=some (if post.all B6 then .inl ⟨w,acc++post.map λp=>(Xq p:Int)⟩ else .inr (⟨[],[]⟩,false))
 | [],pre,acc,e,d=>by
  rw[mo] at e;subst e
  rw[ZK];unfold JG;simp
 | x::post,pre,acc,e,d=>by
  have hi:=Xf e;have a:=YJ e
  have f:JG parts ((pre.length:Int),⟨w,acc⟩)=some (if B6 x then .next (((pre++[x]).length:Int),⟨w,acc++[(Xq x:Int)]⟩) else .done (.inr (⟨[],[]⟩,false))):=by
   unfold JG;simp only[Zq,a,K1,QO,show(decide<|(pre.length:Int) < (parts.length:Int))=true by simpa using hi,B1,uS];cases b:B6 x with
   | false=>simp
   | true=>
    simp only[B1,RW,W1,Bm];rw[W2 ia,K1,Qs hQ hQ];simp
  rw[ZK,f];cases b:B6 x with
  | false=>simp[b]
  | true=>
   refine Eq.trans (T3 w parts c post (pre++[x]) (acc++[(Xq x:Int)]) (by rw[e];simp) ia) ?_;simp[b]
theorem xT{c:Prop}[Decidable c]{a b:Q2 Bool}(d:∃x,a=some x)(e:∃x,b=some x):∃x,(if c then a else b)=some x:=by split<;>assumption
theorem wK{a:Q2 Bool}{k:Bool->Q2 Bool}(b:∃x,a=some x)(c:∀x,∃y,k x=some y):∃y,a.bind k=some y:=by
 obtain⟨x,rfl⟩:=b;exact c x
theorem kb(w:Q0 H1)(n:Int):∃b,Kw w n=some b:=by
 unfold Kw
 repeat (first | exact⟨_,rfl⟩ | refine xT ?_ ?_ | refine wK ?_ λ_=> ?_)
theorem Lc(n:Int):Kw FN n=some (decide (n≥6)&&(Int.tmod n 2==0)):=rfl
theorem yD(s:Q0 H1):(Ya s).length<=s.length+1:=by
 induction s with
 | nil=>simp[Ya]
 | cons c l a=>
  unfold Ya;split
  .simpa using a
  .split<;>rename_i he
   .simp
   .rw[he] at a;simp at a ⊢;omega
theorem jR(line:Q0 H1)(j:line.length<=4000):∃r,Yg line=some r/\∀w a,FB line= .ok (w,a)->∃b,r=(⟨w,a⟩,b)/\Kw w a.length=some b:=by
 have c:=TI line j line [] [] [] rfl<|So _;have d:=yD line;unfold Yg;cases hs:Ya line with
 | nil=>exact absurd hs (Ny line)
 | cons w ps=>
  rw[hs] at c d
  have f:FB line=if ps.all B6 then .ok (w,ps.map λp=>(Xq p:Int)) else .pan ⟨8⟩:=by unfold FB;rw[hs]
  have c:ZV (Zt line) (([]:Q0 (Q0 H1)),0,0)=some (w::ps):=c;rw[c,K1,show ZI (w::ps) 0=some w from rfl,K1];have e:=T3 w (w::ps) hQ ps [w] [] rfl ic;have e:ZV (JG<|w::ps) (1,⟨w,[]⟩)=_:=e;rw[e,K1];cases g:ps.all B6 with
  | false=>exact⟨_,rfl,λw a h=>by rw[f,g] at h;cases h⟩
  | true=>
   obtain⟨b,i⟩:=kb w ((ps.map λp=>(Xq p:Int)).length:Int);simp only[B1,lQ];rw[i,K1];refine⟨_,rfl,λw a h=> ?_⟩;rw[f,g] at h
   simp only[B1,Out.ok.injEq,T2] at h
   obtain⟨rfl,rfl⟩:=h;exact⟨b,rfl,i⟩
end
section
open Go.Dec
theorem yy{d:Wd}(b:d∈X0){n:Nat}(h:Xx d.least d.each n=true):Kw d.word n=some true:=by
 unfold X0 at b
 simp only[A4,oo,qAf] at b
 have c:∀a:Nat,Xx a 0 n=true->n=a:=λa h=>by
  have:(n:Int)=a:=by simpa[Xx] using h
  omega
 rcases b with rfl | rfl | rfl | rfl | rfl | rfl | rfl | rfl | rfl | rfl | rfl | rfl | rfl | rfl | rfl | rfl | rfl | rfl | rfl | rfl
 case inr.inl=>
  have h:(n:Int) > 3/\((n:Int) - 3)%2=0:=by simpa[Xx] using h
  show some (decide ((n:Int)≥5)&&(Int.tmod n 2==1))=some true;rw[oO hQ];simp only[UV,BY,TO,r6];omega
 case inr.inr.inr.inr.inr.inr.inr.inr.inr.inr.inr.inr.inl=>
  have h:(n:Int) > 4/\((n:Int) - 4)%2=0:=by simpa[Xx] using h
  rw[Lc,oO hQ];simp only[UV,BY,TO,r6];omega
 all_goals
  have e:=c _ h;subst e;rfl
theorem kB{line:Q0 H1}{w:Q0 H1}{a:Q0 Int}(e:line.length<=4000)(f:FB line= .ok (w,a))(g:∃d∈X0,d.word=w/\Xx d.least d.each a.length=true):Yg line=some (⟨w,a⟩,true):=by
 obtain⟨r,h,i⟩:=jR line e;obtain⟨b,rfl,c⟩:=i w a f;obtain⟨d,j,rfl,k⟩:=g;rw[yy j k] at c
 simp only[UV] at c
 rw[h,<-c]
end
section
open Go.Dec
def gr(w:Int×Int->Int):Q0 (Int×Int)->Int
 | []=>0
 | p::l=>w p+gr w l
abbrev cP(h:Ca.ZY):Int×Int:=(h.C.Number,h.C.Place)
def cG(l:Q0 Ca.ZY):Q0 (Int×Int):=l.map cP
abbrev cS(f:Int->Int)(j:Nat)(p:Int×Int):Int:=if p.2=(j:Int) then f p.1 else 0
structure cD(f:Int->Int)(all:List Ca.ZY)(B:Nat->Int)(M:Int):Prop where
 nd:(all.map (·.C.Number)).Nodup
 amt:∀(i:Nat) (h:Ca.ZY),all[i]? =some h->0<=f h.C.Number/\f h.C.Number<=h.C.Amount/\h.C.Room<=1073741824
 out:∀c,(∀h∈all,h.C.Number≠c)->f c=0
 bonds:∀j:Nat,j < 16->B j=gr (cS f j) (cG all)
 made:M=gr (λp=>f p.1) (cG all)
section
variable{f:Int->Int}{all:Q0 Ca.ZY}{B:Nat->Int}{M:Int}(E:cD f all B M)
include E
end
end
section
open Go.Dec
variable{L:QA}
theorem Ca.go_app{day:Int}{x:Ca.Ev}(d:x.Day<=day):∀(l:Q0 Ca.Ev) (n:Nat) (s c a:Ca.FA),(∀y∈l,y.Day<=day)->Ca.Hj day l n s=(.inl c,n+l.length)->Ca.YL (n+l.length) c x= .inl a->Ca.Hj day (l++[x]) n s=(.inl a,n+l.length+1)
 | [],n,s,c,a,_,h,b=>by
  simp only[Ca.Hj,T2,s8] at h
  obtain⟨rfl,_⟩:=h;have b:Ca.YL n s x= .inl a:=b;simp only[lQ,Ca.Hj,DO d,b];rfl
 | y::l,n,s,c,a,f,h,b=>by
  simp only[r7,Ca.Hj,DO<|f y ic] at h ⊢
  have e:n+(y::l).length=n+1+l.length:=by simp;omega
  rw[e] at h b ⊢
  cases hs:Ca.YL n s y with
  | inl g=>
   rw[hs] at h
   exact Ca.go_app d l (n+1) g c a (λz i=>f z<|by simp[i]) h b
  | inr q=>rw[hs] at h;simp at h
variable{cu:Ca.FA}
theorem Ca.go_day{d a:Int}:∀(l:Q0 Ca.Ev) (n:Nat) (s:Ca.FA),(∀y∈l,y.Day<=d)->d<=a->Ca.Hj a l n s=Ca.Hj d l n s
 | [],_,_,_,_=>rfl
 | y::l,n,s,b,h=>by
  have c:=b y ic;simp only[Ca.Hj,DO c,DO<|qBU c h];cases Ca.YL n s y with
  | inl e=>exact Ca.go_day l (n+1) e (λz f=>b z<|by simp[f]) h
  | inr q=>rfl
theorem Ex.T9{r:Ex.Fe}{day:Int}{x:Ex.Ev}(c:x.Day<=day):∀(l:Q0 Ex.Ev) (n:Nat) (s a:Ex.FA) (k:Nat),(∀y∈l,y.Day<=day)->Ex.Hj r day (l++[x]) n s=(.inl a,k)->
  ∃b,Ex.Hj r day l n s=(.inl b,n+l.length)/\Ex.YL r b x= .inl a/\k=n+l.length+1
 | [],n,s,a,k,_,h=>by
  simp only[lQ,Ex.Hj,DO c] at h
  refine⟨s,rfl,?_⟩;cases hs:Ex.YL r s x with
  | inl b=>
   rw[hs] at h
   simp only[T2,s8] at h
   exact⟨by rw[h.1],h.2.symm⟩
  | inr e=>rw[hs] at h;simp at h
 | y::l,n,s,a,k,d,h=>by
  simp only[r7,Ex.Hj,DO<|d y ic] at h ⊢
  cases hs:Ex.YL r s y with
  | inl b=>
   rw[hs] at h
   obtain⟨f,g,i,j⟩:=Ex.T9 c l (n+1) b a k (λz m=>d z<|by simp[m]) h;have e:n+(y::l).length=n+1+l.length:=by simp;omega
   rw[e];exact⟨f,g,i,j⟩
  | inr e=>rw[hs] at h;simp at h
structure BC(L:QA)(cu:Ca.FA):Prop where
 day:0<=L.day/\L.day<=65536
 days:∀y∈L.casks,y.Day<=L.day
 len:L.casks.length<=4096
 go:Ca.Hj L.day L.casks 0 ⟨[],0⟩=(.inl cu,L.casks.length)
theorem BC.nj(h:BC L cu):Ca.JV L.casks L.day=(.inl<|Ca.Ln L.day cu,L.casks.length):=by
 unfold Ca.JV;rw[Do (by have:=h.len;omega),Do<|by simpa using Ca.J2.2 h.day];unfold Ca.AV;rw[h.go]
theorem BC.later{a:QA}(h:BC L cu)(b:a.casks=L.casks)(d:L.day<=a.day)(e:a.day<=65536):BC a cu:=by
 refine⟨⟨by have:=h.day;omega,e⟩,λy c=> ?_,by rw[b];exact h.len,?_⟩
 .rw[b] at c;have:=h.days y c;omega
 .rw[b,Ca.go_day _ _ _ h.days d];exact h.go
theorem BC.step{j:QA}{x:QE}(h:BC L cu)(n:Hh L x j):∃b,BC j b/\Ca.OJ (Ca.Ln L.day cu) {x with Day:=L.day} L.casks.length b.all/\Ca.Ln L.day b=b.all/\Ca.XN {x with Day:=L.day}=true:=by
 obtain⟨rfl,all,f,k,t,a,o,_⟩:=n
 have c:∀y∈L.casks++[{x with Day:=L.day}],y.Day<=L.day:=λy d=>by
  rcases mb.1 d with d | d
  .exact h.days y d
  .simp only[ts] at d;subst d;exact y0 _
 have a:Ca.JV (L.casks++[{x with Day:=L.day}]) L.day=(.inl f,k):=a;unfold Ca.JV at a
 split at a
 .cases a
 .rename_i l;split at a
  .cases a
  .unfold Ca.AV at a
   cases m:Ca.Hj L.day (L.casks++[{x with Day:=L.day}]) 0 ⟨[],0⟩ with
   | mk q p=>
    rw[m] at a
    cases q with
    | inr e=>cases a
    | inl r=>
     obtain⟨u,g,i⟩:=Ca.T9 (day:=L.day) (x:={x with Day:=L.day}) (y0 _) L.casks 0 _ r p h.days m;rw[s5] at g i
     rw[h.go] at g
     simp only[T2,s8,and_true] at g
     subst g;obtain⟨_,_,l',e,s⟩:=Ca.D9 i;subst e;refine⟨⟨l',L.day⟩,⟨h.day,c,by show(L.casks++_).length<=4096;omega,?_⟩,s,?_,o⟩
     .have:=Ca.go_app (day:=L.day) (x:={x with Day:=L.day}) (y0 _) L.casks 0 _ _ _ h.days (by rw[s5];exact h.go) (by rw[s5];exact i);show Ca.Hj L.day (L.casks++_) 0 _=_;rw[this];simp
     .show l'.map (Ca.Kj<|L.day - L.day)=l';rw[qAG,show Ca.Kj 0=id from funext λh=>Ca.AG,qBa]
structure BD(r:Qw)(L:QA)(b:ZR):Prop where
 days:∀y∈L.duties,y.Day<=L.day
 len:L.duties.length<=4096
 go:∃eu,Ex.Hj r L.day L.duties 0 Ex.NI=(.inl eu,L.duties.length)/\eu.acc.B=b/\eu.day<=L.day
structure Calm(b:ZR):Prop where
 mov:b.Moving=[]
 found:b.Found=0
 lost:b.Lost=0
 charged:b.Charged=0
 exported:b.Exported=0
section
variable{r:Qw}{L L1:QA}{b:ZR}{n p:Int}(h:BD r L b)(hL:L.rules=some r)(hb:Calm b)
include h hL hb
end
end
section
open Go.Dec
def gL:Q0 QQ->Int
 | []=>0
 | x::l=>(if x.Kind==6 then x.Amount else 0)+gL l
structure DS(r:Qw)(L:QA)(b:ZR):Prop where
 rules:L.rules=some r
 day:0<=L.day
 bd:BD r L b
 calm:Calm b
 pays:b.Paid=gL L.duties
 least:0<=b.Used/\0<=b.Paid
 due:∀k:Int,0<=k->(∀n d,0<=d->Ex.Wp r n d=k*n)->b.Due=k*b.Used/\b.Paid<=b.Due
section
variable{r:Qw}{L L1:QA}{b:ZR}{n p:Int}(h:DS r L b)
include h
end
end
end Go.Proofs.YthfjpbooaofjcaaGreatDoor
section
set_option maxRecDepth 100000
set_option maxHeartbeats 4000000
namespace Go.Proofs.YthfjpbooaofjcaaGreatDoor
open Go.Dec Go.Proofs.Tryz Go.Shelf Go.RowKit Go.Maps Go.Sort
variable{α β:Type}{F0:Fz}{m:Q2 β}
theorem _root_.Go.Dec.KO.nl{α' β' :Type}{P:B2}{f:Nm}{args:C3 K2}{ρ:β'->Fz->K2->Prop}{C:Nat->Nat->Fz->Nat->α->HP}{C' :Nat->Nat->Fz->Nat->α'->HP}{c:Nat->Nat->β->Fz->Q0 HP}{g:β->β'}
  (h:∀γ γ' F,F0<=F->X6 P f args F [ZE γ (C γ γ') F [],ZE γ' (C' γ γ') F []] m (λr F v=>ρ (g r) F v) (c γ γ')):KO P f args F0 (m.map g) ρ:=by
 intro r a w R i;obtain⟨x,j,rfl⟩:=lW.1 a;obtain⟨le,n⟩:=i.aF;obtain⟨b,o⟩:=n.aF;have d:∀{α:Type} {γ:Nat} {C:Fz->Nat->α->HP} {F:Fz} {m:Mem},yr γ [] m->ZE γ C F [] m:=fun{α γ C F m} a=>⟨[],rfl,m,λ_=>none,λ_=>.inr rfl,Mem.sub.refl _,λ_ _ e=>by simp at e,a,trivial⟩
 refine(h F0.gn F0.rp.gn _ (Fz.le_trans le b) x j w R<|o.mono λm a=> ?_).mono λe w' ⟨p,v,l,e,hρ,q⟩=>⟨p,v,Fz.le_trans (Fz.le_trans le b) l,e,hρ,q.drop⟩;refine XR<|Y5 (l:=[_,_]) (k:=[R]) ?_;exact QT (λ_ h=>QR (λ_ h=>d h)<|QT (λ_ h=>Jx h) h)<|QR (λ_ h=>d h)<|Zm a
theorem _root_.Go.Dec.GG.mv{g:Gp}{r:β}{n:Nat}{D:Q0 AT}{S:Q0 (Nat×K2)}{F:Fz}{hs:Q0 HP}{T:S2}{c:Up α}{b:Nat}{x:α}(le:F0<=F)
  (k:∀vs,c F x vs->GG g (Hd n D S F<|pc b vs T::hs) m r):GG g (Hd n D S F<|Uy T c F0 b x::hs) m r:=
 GG.sg 0 (p' :=wc (λvs=>c F x vs) λvs=>[pc b vs T]) (λ_ ⟨vs,h,a⟩=>⟨vs,h F le,Jx a⟩) J (GG.tG 0 J λvs h=>k vs h)
def Xm(d:Qr)(a:Int×Qf):Q2 (UN (Int×Qf) Qf):=if(decide<|(Qy<|a.1+1) < (d.N.length:Int)) then((ZI d.N a.1).bind λe=>(ZI d.N<|Qy<|a.1+1).bind λf=>(Y1 a.2.rules.Rates<|[(Ze.mk e f)]).bind λb=>QO (Qy<|a.1+2) λc=>some<|.next (c,(Qf.mk a.2.day a.2.ruled<|{a.2.rules with Rates:=b}))) else(some<|.done a.2)
def Zj(A1:Q0 Qf)(j:Q2 Nat)(a:Qr):Q2 (Q0 Qf):=j.bind λi=>(A1[i]?).bind λx=>((if(a.Word==([100,97,121]:Q0 H1)) then((ZI a.N 0).bind λe=>some<|Qf.mk e x.ruled x.rules) else(if(a.Word==([114,117,108,101,115]:Q0 H1)) then((ZI a.N 0).bind λf=>(ZI a.N 1).bind λg=>(ZI a.N 2).bind λh=>(ZV (Xm a) (3,(Qf.mk x.day true<|Qw.mk ([]) f g h))).bind λb=>some b) else(some x)):Q2 (Qf)).bind λc=>some c:Q2 (Qf)).bind λd=>some<|A1.set i d
theorem Dv(F0:Fz)(U:Jw)(A1:Q0 Qf)(w2:Q2 Nat)(q:Q2 C1)(_u:Unit)(hq:ZT U.g32 F0 q w2)(p3:Qr)(p4:Q2 C1)(k5:Nat)(h6:QI 1 (Ex<|Zy .i64) F0 p4 k5 p3.N):X6 prog 10 #[.pointer q,(X4 p3 p4 k5)] F0 [Gn U F0 A1] (Zj A1 w2 p3) (λ_ _ v=>v= .tuple #[]) (λr F' =>[Gn U F' r]):=by
 refine X6.enter func10 J ntmps10 J λr R=> ?_;refine .o (Sub.refl _) (J:_=[Gn U F0 A1,R]) ?_;unfold Zj;refine .d λi e=>.d λx ex=> ?_;obtain⟨b,hb,rfl⟩:=hq.at e;have hi:i < A1.length:=(Fm.1 ex).1;refine .aY 0 J hb ex<|.mv Fz.r λvs ⟨p,k,a1,hr⟩=> ?_;subst a1;generalize hH:hole U.g32 (gD U) F0 i b A1=H;refine .o (Sub.refl _) (J:_=[pc b (KZ x p k) 32,H,R]) ?_;refine .q<|.g<|.sG (cs:=(QW p3 p4 k5)) J J J λb7 T S y=>.n<|.c<|.q<|.g<|.f J Ci J W9 J<|.U J V9 J y J<|.n<|.c<|.keep (.p [0,3,6] J) ?_;refine GG.sQ (σ:=Qf) (λV a w=>∃(D:Fz),T<=D/\Hd 68 [] [] D [gD U D b V,H,R] a w) (λsj=> ?_) λV a7=>GG.ex λa w ⟨D,W,Z⟩=>⟨_,Z,?_⟩
 .refine .k<|.q<|.g<|.si J U9 J J<|.s J J<|.n<|.c<|.keep (.p [0,3,6,7] J) ?_;refine GG.sQ (σ:=Qf) (λX a w=>∃(z:Fz),T<=z/\Hd 68 [] [] z [gD U z b X,H,R] a w) (λsj=> ?_) λX a7=>GG.ex λa w ⟨z,aH,Z⟩=>⟨_,Z,?_⟩
  .refine .i J (λaI=> ?_) λaI=> ?_
   .refine .g (.m J J<|.f J Ci J Te J<|.U J A8 J y J<|.idx J YK W3 (h6.mono S) J J λaJ bf bg bh bJ bK bj aK aL=>.U J V3 J aK (QF (k:=0) aL J)<|.nilCheck J J<|.f J dK J W3 J<|.store (cs' :=(KZ (Qf.mk aJ x.ruled x.rules) p k)) W3 J J J J (i:=0) J (K4 J) J x0<|.n<|.sg 0 (p' :=gD U T b<|Qf.mk aJ x.ruled x.rules) (λ_ hm=>⟨_,λ_ l=>⟨p,k,J,hr.mono<|Fz.t S l⟩,hm⟩) J ?_);exact .cg λe a w h=>by cases e;exact⟨J,⟨T,Fz.r,h.1.sub<|.k J,h.2⟩⟩
   .refine .q<|.g<|.si J U9 J J<|.s J J<|.n<|.c<|.i J (λaM=> ?_) λaM=> ?_
    .refine .q (.g<|.m J J<|.nilCheck J J<|.f J dK J W4 J<|.store (cs' :=(KZ (Qf.mk x.day true x.rules) p k)) W4 J J J J (i:=0) J (K4 J) J x0<|.n<|.c<|.q<|.keep (.p [0,3] J)<|.cz 16 Qd x0<|.m J J<|.f J Ci J Te J<|.U J A8 J y J<|.idx J YK W3 (h6.mono S) J J λaN bk bl bm bL bM bn aO aP=>.U J V3 J aO (QF (k:=0) aP J)<|.f J Ci J Te J<|.U J A8 J y J<|.idx J YK W3 (h6.mono S) J J λaQ bo bp bq bN bO br aR aS=>.U J V3 J aR (QF (k:=0) aS J)<|.f J Ci J Te J<|.U J A8 J y J<|.idx J YK W3 (h6.mono S) J J λaU bt bu bw bP bQ bx aV aW=>.U J V3 J aV (QF (k:=0) aW J) ?_);refine .build (cs:=(ZM (Qw.mk ([]) aN aQ aU) none 0).toArray) J OH bZ (SM _ OH) J J x0<|.nilCheck J J<|.f J dK J Lq J<|.sI<|.store (cs' :=(KZ (Qf.mk x.day true<|Qw.mk ([]) aN aQ aU) none 0)) Lq J J J J (i:=0) J (K4 J) J x0<|.n<|.sW 2 (Ex ZB) 90<|.c<|.q<|.g<|.s J J<|.n<|.c<|.k<|.keep (.p [0,3,4] J)<|.loop (fun(u:Int×Qf) a w=>∃(K:Fz) (p:Q2 C1) (k:Nat),T<=K/\Hd 68 [] [(0,(vP b 0)),(3,(vP b7 0)),(4,(vI u.1))] K [pc b (KZ u.2 p k) 32,Qg 2 (Ex ZB) K 90 p k u.2.rules.Rates,H,R] a w) (λE e a w=>e= .exit 1/\∃(F:Fz) (p:Q2 C1) (k:Nat),T<=F/\Hd 68 [] [] F [pc b (KZ E p k) 32,Qg 2 (Ex ZB) F 90 p k E.rules.Rates,H,R] a w) ?_ ?_ ?_
     .exact λa w h=>⟨T,none,0,Fz.r,h.1.sub<|.k J,h.2.mono λ_ hm=>YZ (ks:=[1,0,0,0]) hm⟩
     .intro u bz;refine GG.ex λa w ⟨K,M,P,A,Z⟩=>⟨_,Z,?_⟩;unfold Xm;refine .q<|.q<|.g<|.m J J<|.add J J J<|.f J Ci J Te J<|.U J A8 J (A.mem _ _ y) J<|.sO J J YK J<|.lss J J J<|.n<|.c<|.i J (λaX=> ?_) λaX=> ?_
      .refine .skip<|.c<|.q<|.k<|.keep (.p [0,3,4] J)<|.d λB a8=> ?_;obtain⟨bA,bB,b0,bR,bS,aY,aZ,aa⟩:=QI.aR (h6.mono<|Fz.t S A) a8;refine .d λC bC=> ?_;obtain⟨bD,bE,b1,bT,bU,ab,ad,ae⟩:=QI.aR (h6.mono<|Fz.t S A) bC;refine .d λI aB=>.dG 20 0 (λj=>[vT<|vP b 0,vT<|vP b 0,vT<|vP b 0,vT<|vP b<|0+2,vT<|vP b<|0+2+0,vT<|vS M u.2.rules.Rates P,vT<|vP b7<|0+1,vT<|vS p4 p3.N k5,vT<|vI u.1,vT<|vP bA bB,vT<|vI B,vT<|vP b7<|0+1,vT<|vS p4 p3.N k5,vT<|vI u.1,vT<|vI<|Qy<|u.1+1,vT<|vP bD bE,vT<|vI C,vT<|PC<|Ze.mk B C,((.slice (some ⟨j.n 180,0,none⟩) ([(Ze.mk B C)]).length 1),λG=>QI 2 (Ex ZB) G (some ⟨j.n 180,0,none⟩) 1<|[(Ze.mk B C)]),((vS (j.a 190) I<|j.n 190),λG=>j.f 190<=G)]) (λL j=>[pc b (KZ u.2 M P) 32,(bif L 19 then(Qg 2 (Ex ZB) (j.f 190) 90 (j.a 190) (j.n 190) I) else(Qg 2 (Ex ZB) K 90 M P u.2.rules.Rates)),H,R]) Qd x0 (λ_=>J) (λ_=>J) ?_ λj af ag Q=> ?_
       .refine .b (λ_ _ _ _=>.m J J<|.sU J J Fz.r)<|.b (λ_ _ _ _=>.m J J<|.sU J J Fz.r)<|.b (λ_ _ _ _=>.nilCheck J J<|.sU J J Fz.r)<|.b (λ_ _ _ _=>.f J dK J Lq J<|.sU J J Fz.r)<|.b (λ_ _ _ _=>.f J OH J vf J<|.sU J J Fz.r)<|.b (λ_ _ _ _=>.ca J gi J (i:=0) J J<|.sU J J Fz.r)<|.b (λ_ _ _ _=>.f J Ci J Te J<|.sU J J Fz.r)<|.b (λ_ _ _ ah=>.U J A8 J ((Fz.t A ah).mem _ _ y) J<|.sU J J Fz.r)<|.b (λ_ _ _ _=>.m J J<|.sU J J Fz.r)<|.b (λ_ _ _ _=>.aJ J YK W3 aa J J<|.sU J J Fz.r)<|.b (λ_ _ _ ai=>.U J V3 J (ai.mem _ _ aY) (QF (k:=0) aZ J)<|.sU J J Fz.r)<|.b (λ_ _ _ _=>.f J Ci J Te J<|.sU J J Fz.r)<|.b (λ_ _ _ aj=>.U J A8 J ((Fz.t A aj).mem _ _ y) J<|.sU J J Fz.r)<|.b (λ_ _ _ _=>.m J J<|.sU J J Fz.r)<|.b (λ_ _ _ _=>.add J J J<|.sU J J Fz.r)<|.b (λ_ _ _ _=>.aJ J YK W3 ae J J<|.sU J J Fz.r) ?_;refine .b (λ_ _ _ ak=>.U J V3 J (ak.mem _ _ ab) (QF (k:=0) ad J)<|.sU J J Fz.r)<|.b (λ_ _ _ _=>.build (cs:=(ZB<|Ze.mk B C).toArray) J wU de (Ap _ wU) J J x0<|.sU J J Fz.r)<|.a (λL j _ _ _ _ al _=> ?_) ?_
        .refine .sC (cs:=((ZB<|Ze.mk B C))) (zc:=((ZB<|Ze.mk 0 0))) J va ga de J J J x0 x0 λY an ao aC=> ?_;have aq:QI 2 (Ex ZB) an (some ⟨Y,0,none⟩) 1 ([(Ze.mk B C)]):=QI.ofRow aC (.cons Oy.mono J .nil) J J;exact .sa ({j with a:=j.a,n:=(ZF j.n 180 Y),c:=j.c,o:=j.o}) [true,true,true,true,true,true,true,true,true,true,true,true,true,true,true,true,true,true,false,false] J x0 J J ao (λ_ le=>aq.mono le)<|QC J<|QC ((KE (b:=Kh L 18 19)<|al 1 19 J).trans (KE<|al 1 19 J).symm)<|QC J<|QC J J
        refine .a (λ_ j ar au hL bF _ Q=> ?_) ?_
        .have av:=Q 18 _ (bF 1 18 J) J _ Fz.r;refine .au aB 1 Oy au J va va J J (congrArg some<|KE hL) av J J λaw ax=> ?_;exact .sa ({j with a:=ZF j.a 190 aw,n:=ZF j.n 190 ax,f:=ZF j.f 190 ar}) [true,true,true,true,true,true,true,true,true,true,true,true,true,true,true,true,true,true,true,false] J x0 J J Fz.r (λ_ le=>le)<|QC J<|QC (JX J)<|QC J<|QC J J
        exact .nil
       have ay:=Q 19 _ J;refine .o (.p [0,3,4,45,46,47,48,49,50,51,52,53,54,55,56,57,58,59,60,61,62,63,64] J) (J:_=[pc b (KZ u.2 M P) 32,Qg 2 (Ex ZB) (j.f 190) 90 (j.a 190) (j.n 190) I,H,R]) (.nilCheck J J<|.f J dK J Lq J<|.f J OH J vf J<|.store (cs' :=(KZ (Qf.mk u.2.day u.2.ruled<|{u.2.rules with Rates:=I}) (j.a 190)<|j.n 190)) vf J J J J (i:=0) J (K4 J) J x0<|.n<|.sg 1 (λ_ h=>WD ay h) J<|.k<|.c<|.g<|.m J J<|.add J J J<|.cv J J λbV bW=>.n ?_);exact .cg<|Qu.norm λa w h=>⟨af,_,_,(Fz.t A ag),h.1.sub<|.k J,h.2⟩
      .refine .cw J<|Qu.exit λa w h=>⟨J,K,M,P,A,h.1.sub<|.k J,h.2⟩
     .intro E b3 hk e a w hD;obtain⟨rfl,F,p,k,az,Z⟩:=hD;refine Q9 J<|GG.app ?_ hk a w Z;refine .sJ 1 J Fz.r λF1 l1 h1=>.sg 0 (p' :=gD U F1 b E) (λ_ hm=>⟨_,λ_ l=>⟨p,k,J,h1.mono l⟩,hm⟩) J ?_;exact .cg λe a w h=>by cases e;exact⟨J,⟨F1,Fz.t az l1,h.1.sub<|.k J,h.2⟩⟩
    .refine .skip<|.sg 0 (p' :=gD U T b x) (λ_ hm=>⟨_,λ_ l=>⟨p,k,J,hr.mono<|Fz.t S l⟩,hm⟩) J ?_;exact .cg λe a w h=>by cases e;exact⟨J,⟨T,Fz.r,h.1.sub<|.k J,h.2⟩⟩
  refine .k ?_;exact .cg λe a w h=>by cases e;exact⟨J,⟨z,aH,h.1.sub<|.k J,h.2⟩⟩
 subst hH;refine .az (Ws U) (Fz.t S W) hi (λ_ h=>h) ?_;exact .al [0,0] results10 (.nil) J (Fz.t S W) J
end Go.Proofs.YthfjpbooaofjcaaGreatDoor
end
namespace Go.Proofs.YthfjpbooaofjcaaGreatDoor
section
open Go.Dec
variable{W:Qf}
theorem I9(p:Qr)(j:p.N.length<=1000000)(d a b c:Int):∀(f pre:Q0 Int) (ps acc:Q0 (Int×Int)),p.N=pre++f->U0 f=some ps->acc.length<=pre.length->
  ZV (Xm p) ((pre.length:Int),⟨d,true,VZ a b c acc⟩)=some ⟨d,true,VZ a b c<|acc++ps⟩
 | [],pre,ps,acc,e,h,k=>by
  simp only[U0,UV] at h
  subst h;rw[mo] at e ⊢
  have g:decide ((pre.length:Int)+1 < (p.N.length:Int))=false:=by rw[e];simp;omega
  rw[ZK];unfold Xm;rw[e] at j
  rw[Qs (n:=(pre.length:Int)+1) hQ hQ];simp only[g,W1,Bm]
 | [x],pre,ps,acc,e,h,k=>by cases h
 | x::y::f,pre,ps,acc,e,h,k=>by
  simp only[U0,lW] at h
  obtain⟨m,o,rfl⟩:=h;have q:p.N=(pre++[x])++y::f:=by rw[e];simp
  have l:pre.length+2<=p.N.length:=by rw[e];simp
  have r:ZI p.N (pre.length:Int)=some x:=by rw[Zq,YJ e]
  have s:ZI p.N ((pre.length:Int)+1)=some y:=by
   have:=YJ q;rw[show((pre.length:Int)+1)=((pre++[x]).length:Int) by simp,Zq,this]
  have i:Y1 (VZ a b c acc).Rates [⟨x,y⟩]=some (VZ a b c<|acc++[(x,y)]).Rates:=by
   rw[W2 (by simp[VZ];omega)];simp[VZ]
  have t:Xm p ((pre.length:Int),⟨d,true,VZ a b c acc⟩)=some (.next (((pre++[x,y]).length:Int),⟨d,true,VZ a b c<|acc++[(x,y)]⟩)):=by
   unfold Xm;rw[Qs (n:=(pre.length:Int)+1) hQ hQ,Qs (n:=(pre.length:Int)+2) hQ hQ];have g:decide ((pre.length:Int)+1 < (p.N.length:Int))=true:=by simp;omega
   simp only[g,B1,r,s,K1,i,QO];simp[VZ]
  have:=I9 p j d a b c f (pre++[x,y]) m (acc++[(x,y)]) (by rw[e];simp) o ia;rw[ZK,t];simpa using this
theorem yJ{a b c:Int}{d:Q0 Int}{ps:Q0 (Int×Int)}(l:d.length<=100000)(e:U0 d=some ps):Zj [W] (some 0) ⟨Hn,a::b::c::d⟩=some [⟨W.day,true,VZ a b c ps⟩]:=by
 have:=I9 ⟨Hn,a::b::c::d⟩ ia W.day a b c d [a,b,c] ps [] rfl e ic;have h:ZV (Xm ⟨Hn,a::b::c::d⟩) (3,⟨W.day,true,⟨[],a,b,c⟩⟩)=some ⟨W.day,true,VZ a b c ps⟩:=this;unfold Zj;have f:(Hn==[100,97,121])=false:=by decide
 have g:(Hn==[114,117,108,101,115])=true:=by decide
 have i:ZI (a::b::c::d) 0=some a:=rfl;have j:ZI (a::b::c::d) 1=some b:=rfl;have k:ZI (a::b::c::d) 2=some c:=rfl;simp only[K1,C2,f,g,W1,Bm,B1,i,j,k,h,lb]
theorem w9{d:Int}:Zj [W] (some 0) ⟨LH,[d]⟩=some [⟨d,W.ruled,W.rules⟩]:=by
 unfold Zj;have a:ZI [d] 0=some d:=rfl;simp only[K1,C2,oT,B1,a,lb]
theorem I8{w:Q0 H1}{a:Q0 Int}(b:w≠LH)(c:w≠Hn):Zj [W] (some 0) ⟨w,a⟩=some [W]:=by
 unfold Zj;have d:(w==[100,97,121])=false:=by simpa using b
 have e:(w==[114,117,108,101,115])=false:=by simpa using c
 simp only[K1,C2,d,e,W1,Bm,lb]
end
end Go.Proofs.YthfjpbooaofjcaaGreatDoor
namespace Go.Proofs.YthfjpbooaofjcaaGreatDoor.Ca
section
open Go.Dec
variable{l:Q0 ZY}{n:Int}{c h:ZY}{i:Nat}
theorem E0:∀{a b:Q0 ZY},a.map (·.C.Number)=b.map (·.C.Number)->Z1 a n=Z1 b n
 | [],[],_=>rfl
 | [],_::_,h=>by simp at h
 | _::_,[],h=>by simp at h
 | x::a,y::b,h=>by
  simp only[Of,oA] at h
  simp only[Z1,h.1,E0 h.2]
theorem I6{h':ZY}(hi:l[i]? =some c)(b:h'.C.Number=c.C.Number):(l.set i h').map (·.C.Number)=l.map (·.C.Number):=by
 apply lM;intro j;simp only[tb,lg];by_cases e:i=j
 .subst e;have a:=(Fm.1 hi).1;have d:=(Fm.1 hi).2;simp[a,b,d]
 .simp[e]
theorem Hc{h':ZY}(a:(l.map (·.C.Number)).Nodup)(hi:l[i]? =some c)(f:h'.C.Number=c.C.Number)(n:Int):Jk (l.set i h') n=if n=c.C.Number then some h' else Jk l n:=by
 unfold Jk;rw[E0<|I6 hi f];have b:=(Fm.1 hi).1;by_cases e:n=c.C.Number
 .subst e;rw[DO rfl,Dg a hi,K1,x2 b]
 .rw[Do e];cases g:Z1 l n with
  | none=>rfl
  | some j=>
   obtain⟨h,d,k⟩:=Hb g;have:i≠j:=λm=>by subst m;rw[hi] at d;cases d;exact e k.symm
   simp only[K1];rw[sL this]
theorem Dt:∀{l:Q0 ZY},Z1 l n=none->Z1 (l++[h]) n=if h.C.Number==n then some l.length else none
 | [],_=>by simp[Z1]
 | y::l,e=>by
  simp only[Z1] at e
  by_cases a:(y.C.Number==n)=true
  .rw[DO a] at e;cases e
  .rw[Do a] at e
   have b:Z1 l n=none:=by simpa using e
   simp only[r7,Z1];rw[Do a,Dt b];split<;>simp
theorem Aw{j:Nat}:∀{l:Q0 ZY},Z1 l n=some j->Z1 (l++[h]) n=some j
 | [],e=>by cases e
 | y::l,e=>by
  simp only[Z1] at e
  simp only[r7,Z1];by_cases b:(y.C.Number==n)=true
  .rw[DO b] at e ⊢;exact e
  .rw[Do b] at e ⊢
   cases a:Z1 l n with
   | none=>rw[a] at e;cases e
   | some q=>rw[a] at e;rw[Aw a];exact e
theorem yu(b:Z1 l h.C.Number=none)(n:Int):Jk (l++[h]) n=if n=h.C.Number then some h else Jk l n:=by
 unfold Jk;by_cases e:n=h.C.Number
 .subst e;rw[DO rfl,Dt b];simp
 .rw[Do e];cases a:Z1 l n with
  | none=>
   rw[Dt a];have:(h.C.Number==n)=false:=by simpa using λd=>e d.symm
   simp[this]
  | some j=>
   rw[Aw a];obtain⟨x,f,_⟩:=Hb a;simp only[K1];rw[x8 (Fm.1 f).1]
theorem Dh(d:Int)(l:Q0 ZY)(n:Int):Jk (l.map<|Kj d) n=(Jk l n).map (Kj d):=by
 unfold Jk;rw[qo λh=>Pq];cases Z1 l n with
 | none=>rfl
 | some i=>simp
theorem H2(f:Z1 l n=some i)(h:l[i]? =some c):Jk l n=some c:=by simp[Jk,f,h]
theorem BR(h:Jk l n=some c):c.C.Number=n/\c∈l:=by
 unfold Jk at h
 cases a:Z1 l n with
 | none=>rw[a] at h;cases h
 | some i=>
  rw[a,K1] at h
  obtain⟨c',b,d⟩:=Hb a;rw[h] at b;cases b
  exact⟨d,S1 h⟩
theorem DE(f:Z1 l n=some i)(h:l[i]? =some c):c.C.Number=n:=(BR<|H2 f h).1
end
section
open Go.Dec
def RS(l:Q0 ZY)(n:Int):Int:=((Jk l n).map (·.C.Amount)).getD 0
structure Dr(f:Nat)(age:Int)(iw ap:Nat->Int)(h:ZY):Prop where
 amt:0 < h.C.Amount
 age:h.C.Age<=age
 iw:∀k,h.C.Woods k<=iw k
 ap:∀k,h.C.Places k<=ap k
 fill:(f:Int)∈h.Fills
structure Uq(f kn:Nat)(now:Int)(l:List ZY)(am wo pl:List (Int×Int))(age j3:Int)(iw ap:Nat->Int):Prop where
 am:∀n,(QZ am n).getD 0=RS l n
 wo:∀n h,Jk l n=some h->QZ wo n=some h.C.Wood
 pl:∀n h,Jk l n=some h->QZ pl n=some h.C.Place
 ag:0<=age/\age<=now
 wi:∀k,0<=iw k/\iw k<=now
 pa:∀k,0<=ap k/\ap k<=now
 drop:(j3= -1/\kn<=f)∨(f < kn/\∃h,Jk l j3=some h/\Dr f age iw ap h)
section
variable{f kn:Nat}{last age j3 n:Int}{l:Q0 ZY}{am wo pl:Q0 (Int×Int)}{iw ap:Nat->Int}{h o c s:ZY}
theorem Dr.nA(d:Dr f age iw ap s)(e:Nc last kn o)(i:0 < n)(hi:∀k,0<=iw k)(g:∀k,0<=ap k):Dr f age iw ap (JJ o s n):=by
 have j:=e.amt.1;refine⟨by rw[pour_amt'];omega,?_,λk=> ?_,λk=> ?_,?_⟩
 .unfold JJ;split
  .exact d.age
  .have:=d.age;have:=Xu (a:=o.C.Age) (b:=s.C.Age);show JS _ _<=_;omega
 .unfold JJ;split
  .exact d.iw k
  .show Gz _ _ k<=_;unfold Gz;have:=d.iw k;have:=Xu (a:=o.C.Woods k) (b:=s.C.Woods k);split
   .omega
   .have:=e.woods.out k hQ;have:=hi k;omega
 .unfold JJ;split
  .exact d.ap k
  .show Gz _ _ k<=_;unfold Gz;have:=d.ap k;have:=Xu (a:=o.C.Places k) (b:=s.C.Places k);split
   .omega
   .have:=e.places.out k hQ;have:=g k;omega
 .unfold JJ;split
  .exact d.fill
  .exact BL.2<|.inr d.fill
where
 pour_amt' :(JJ o s n).C.Amount=o.C.Amount+n:=by unfold JJ;split<;>rfl
theorem Dr.pZ(d:Dr f age iw ap o)(g:0 < n):Dr f age iw ap (JJ o s n):=by
 have i:=d.amt;have e:(o.C.Amount==0)=false:=by rw[oH];omega
 unfold JJ;rw[Do<|by simp[e]];refine⟨by show 0 < o.C.Amount+n;omega,?_,λk=> ?_,λk=> ?_,BL.2<|.inl d.fill⟩
 .have:=d.age;have:=Xu (a:=o.C.Age) (b:=s.C.Age);show JS _ _<=_;omega
 .show Gz _ _ k<=_;unfold Gz;have:=d.iw k;have:=Xu (a:=o.C.Woods k) (b:=s.C.Woods k);split<;>omega
 .show Gz _ _ k<=_;unfold Gz;have:=d.ap k;have:=Xu (a:=o.C.Places k) (b:=s.C.Places k);split<;>omega
theorem Dr.less(d:Dr f age iw ap c)(b:n < c.C.Amount):Dr f age iw ap (VF c n):=by
 have a:(c.C.Amount - n==0)=false:=by rw[oH];omega
 unfold VF;rw[Do<|by simp[a]];exact⟨by show 0 < c.C.Amount - n;omega,d.age,d.iw,d.ap,d.fill⟩
theorem Dr.filled(d:Nc last kn o)(j:0 < n)(g:0<=age)(hi:∀k,0<=iw k)(e:∀k,0<=ap k):Dr f age iw ap (JJ o (Gd f) n):=by
 have m:=d.amt.1;have i:=d.age.1;refine⟨by rw[show(JJ o (Gd f) n).C.Amount=o.C.Amount+n by unfold JJ;split<;>rfl];omega,?_,λk=> ?_,λk=> ?_,?_⟩
 .unfold JJ;split
  .exact g
  .have:=Xu (a:=o.C.Age) (b:=0);show JS o.C.Age 0<=_;omega
 .unfold JJ;split
  .exact hi k
  .show Gz _ zN k<=_;unfold Gz;have:=hi k;have:=Xu (a:=o.C.Woods k) (b:=zN k);split
   .have:zN k=0:=rfl;omega
   .have:=d.woods.out k hQ;omega
 .unfold JJ;split
  .exact e k
  .show Gz _ zN k<=_;unfold Gz;have:=e k;have:=Xu (a:=o.C.Places k) (b:=zN k);split
   .have:zN k=0:=rfl;omega
   .have:=d.places.out k hQ;omega
 .unfold JJ;split
  .simp[Gd]
  .exact BL.2<|.inr<|by simp[Gd]
theorem Dr.rQ(d:Dr f age iw ap h){w p:Nat}(a:h.C.Wood.toNat=w)(b:h.C.Place.toNat=p):Dr f (age+n) (ZF iw w<|iw w+n) (ZF ap p<|ap p+n) (Kj n h):=by
 subst a;subst b
 have hi:∀(g u:Nat->Int) (j k:Nat),g k<=u k->g j<=u j->ZF g j (g j+n) k<=ZF u j (u j+n) k:=λg u j k i m=>by
  by_cases e:k=j
  .subst e;rw[UF,UF];omega
  .rw[Wa e,Wa e];exact i
 unfold Kj;rw[DO d.amt];exact⟨d.amt,by have:=d.age;show h.C.Age+n<=age+n;omega,λk=>hi _ _ _ k (d.iw k)<|d.iw _,λk=>hi _ _ _ k (d.ap k)<|d.ap _,d.fill⟩
theorem M6:RS (l.map<|Kj n)=RS l:=by
 funext m;unfold RS;rw[Dh];cases Jk l m with
 | none=>rfl
 | some x=>simp only[RK];unfold Kj;split<;>rfl
theorem L7{g:Nat->Int}{j:Nat}(h:∀k,0<=g k/\g k<=last)(a:0<=n)(k:Nat):0<=ZF g j (g j+n) k/\ZF g j (g j+n) k<=last+n:=by
 by_cases e:k=j
 .subst e;rw[UF];have:=h k;omega
 .rw[Wa e];have:=h k;omega
theorem Uq.rQ(d:Uq f kn last l am wo pl age j3 iw ap)(x:Ah last kn l)(r:0<=n){w p:Nat}(z:((QZ wo j3).getD 0).toNat=w)(A:((QZ pl j3).getD 0).toNat=p):(j3 < 0->Uq f kn (last+n) (l.map<|Kj n) am wo pl age j3 iw ap)/\(0<=j3->Uq f kn (last+n) (l.map<|Kj n) am wo pl (age+n) j3 (ZF iw w<|iw w+n) (ZF ap p<|ap p+n)):=by
 have i:∀m h,Jk (l.map<|Kj n) m=some h->QZ wo m=some h.C.Wood:=λm h a=>by
  rw[Dh] at a
  cases e:Jk l m with
  | none=>rw[e] at a;cases a
  | some y=>
   rw[e] at a;simp only[RK,UV] at a
   rw[d.wo m y e,<-a];unfold Kj;split<;>rfl
 have j:∀m h,Jk (l.map<|Kj n) m=some h->QZ pl m=some h.C.Place:=λm h a=>by
  rw[Dh] at a
  cases e:Jk l m with
  | none=>rw[e] at a;cases a
  | some y=>
   rw[e] at a;simp only[RK,UV] at a
   rw[d.pl m y e,<-a];unfold Kj;split<;>rfl
 have B:=d.ag;refine⟨λt=>⟨λm=>by rw[M6];exact d.am m,i,j,by omega,λk=>by have:=d.wi k;omega,λk=>by have:=d.pa k;omega,?_⟩,λu=>⟨λm=>by rw[M6];exact d.am m,i,j,by omega,L7 d.wi r,L7 d.pa r,?_⟩⟩
 .rcases d.drop with q | ⟨q,h,g,v⟩
  .exact .inl q
  .have b:=BR g;have:=(x.each h b.2).num;omega
 .rcases d.drop with q | ⟨q,h,g,v⟩
  .omega
  .have b:=BR g;refine .inr ⟨q,Kj n h,by rw[Dh,g];rfl,v.rQ ?_ ?_⟩
   .rw[<-z,d.wo _ h g];rfl
   .rw[<-A,d.pl _ h g];rfl
end
end
section
open Go.Dec
section
variable{f kn:Nat}{now age j3:Int}{L:Q0 ZY}{am wo pl:Q0 (Int×Int)}{iw ap:Nat->Int}{x:Ev}{i:Nat}{c h' :ZY}
theorem xo(a:(L.map (·.C.Number)).Nodup)(hi:L[i]? =some c):RS L c.C.Number=c.C.Amount:=by
 unfold RS;rw[H2 (Dg a hi) hi];rfl
theorem IX(a:(L.map (·.C.Number)).Nodup)(hi:L[i]? =some c)(b:h'.C.Number=c.C.Number)(d:∀n,(QZ am n).getD 0=RS L n)(q:Int)(g:c.C.Number=q)(v:Int)(h:v=h'.C.Amount)(n:Int):(QZ (Qq am q v) n).getD 0=RS (L.set i h') n:=by
 rw[WO];unfold RS;rw[Hc a hi b,g];by_cases e:n=q
 .rw[DO (by simp[e]),DO e,h];rfl
 .rw[Do (by simp[e]),Do e];exact d n
theorem IY(a:(L.map (·.C.Number)).Nodup)(hi:L[i]? =some c)(b:h'.C.Number=c.C.Number)(d:∀n,(QZ am n).getD 0=RS L n)(g:h'.C.Amount=c.C.Amount)(n:Int):(QZ am n).getD 0=RS (L.set i h') n:=by
 rw[d];unfold RS;rw[Hc a hi b];split
 .rename_i e;subst e;rw[H2 (Dg a hi) hi];simp[g]
 .rfl
theorem HM{W:Za->Int}(a:(L.map (·.C.Number)).Nodup)(hi:L[i]? =some c)(g:h'.C.Number=c.C.Number)(d:∀n h,Jk L n=some h->QZ wo n=some (W h.C))(j:W h'.C=W c.C)(n:Int)(h:ZY)(b:Jk (L.set i h') n=some h):QZ wo n=some (W h.C):=by
 rw[Hc a hi g] at b
 split at b
 .rename_i e;cases b;rw[e,d _ c<|H2 (Dg a hi) hi,j]
 .exact d n h b
theorem vi{W:Za->Int}(b:(L.map (·.C.Number)).Nodup)(hi:L[i]? =some c)(d:h'.C.Number=c.C.Number)(g:∀n h,Jk L n=some h->QZ wo n=some (W h.C))(q:Int)(j:c.C.Number=q)(v:Int)(k:v=W h'.C)(n:Int)(h:ZY)(a:Jk (L.set i h') n=some h):QZ (Qq wo q v) n=some (W h.C):=by
 rw[WO];rw[Hc b hi d,j] at a
 by_cases e:n=q
 .rw[DO e] at a;cases a;rw[DO (by simp[e]),k]
 .rw[Do e] at a;rw[Do<|by simp[e]];exact g n h a
theorem drop_set(a:(L.map (·.C.Number)).Nodup)(hi:L[i]? =some c)(j:h'.C.Number=c.C.Number)(k:(j3= -1/\kn<=f)∨(f < kn/\∃h,Jk L j3=some h/\Dr f age iw ap h))(m:kn≠f)(l:j3=c.C.Number->Dr f age iw ap c->Dr f age iw ap h'):(j3= -1/\kn+1<=f)∨(f < kn+1/\∃h,Jk (L.set i h') j3=some h/\Dr f age iw ap h):=by
 rcases k with⟨d,b⟩ | ⟨d,h,b,g⟩
 .exact .inl ⟨d,by omega⟩
 .refine .inr ⟨by omega,?_⟩;rw[Hc a hi j];by_cases e:j3=c.C.Number
  .rw[DO e];rw[e,H2 (Dg a hi) hi] at b
   cases b;exact⟨_,rfl,l e g⟩
  .rw[Do e];exact⟨h,b,g⟩
theorem Uq.make(d:Uq f kn now L am wo pl age j3 iw ap)(o:XN x=true)(q:kn≠f)(fn:Z1 L x.Cask=none):Uq f (kn+1) now (L++[kO x]) am (Qq wo x.Cask x.Other) (Qq pl x.Cask x.Where) age j3 iw ap:=by
 have g:=yu (h:=kO x) fn;have l:Jk L x.Cask=none:=by simp[Jk,fn]
 have a:(kO x).C.Number=x.Cask:=rfl;have k:=(BX o).2.1;refine⟨λn=> ?_,λn h b=> ?_,λn h b=> ?_,d.ag,d.wi,d.pa,?_⟩
 .rw[d.am];unfold RS;rw[g n];split
  .rename_i e;rw[a] at e;subst e;rw[l];rfl
  .rfl
 .rw[g n] at b
  rw[WO];by_cases e:n=x.Cask
  .rw[DO (by rw[a];exact e)] at b;cases b;rw[DO<|by simp[e]];rfl
  .rw[Do (by rw[a];exact e)] at b;rw[Do<|by simp[e]];exact d.wo n h b
 .rw[g n] at b
  rw[WO];by_cases e:n=x.Cask
  .rw[DO (by rw[a];exact e)] at b;cases b;rw[DO<|by simp[e]];rfl
  .rw[Do (by rw[a];exact e)] at b;rw[Do<|by simp[e]];exact d.pl n h b
 .rcases d.drop with⟨m,j⟩ | ⟨m,h,j,p⟩
  .exact .inl ⟨m,by omega⟩
  .refine .inr ⟨by omega,h,?_,p⟩;rw[g j3,Do]
   .exact j
   .rw[a];intro e;rw[e,l] at j;cases j
variable(d:Uq f kn now L am wo pl age j3 iw ap)(kx:(L.map (·.C.Number)).Nodup)
include d kx
theorem Uq.fill(g:Nc now kn c)(j:x.Kind=1)(l:XN x=true)(fn:Z1 L x.Cask=some i)(hi:L[i]? =some c):Uq f (kn+1) now (L.set i<|JJ c (Gd kn) x.Amount) (Qq am x.Cask<|c.C.Amount+x.Amount) wo pl age (if kn=f then x.Cask else j3) iw ap:=by
 have b:=DE fn hi;have m:=(DF l<|.inl j).1;have a:(JJ c (Gd kn) x.Amount).C.Number=c.C.Number:=by unfold JJ;split<;>rfl
 refine⟨IX kx hi a d.am _ b _ (by unfold JJ;split<;>rfl),HM (W:=(·.Wood)) kx hi a d.wo (by unfold JJ;split<;>rfl),HM (W:=(·.Place)) kx hi a d.pl (by unfold JJ;split<;>rfl),d.ag,d.wi,d.pa,?_⟩;by_cases e:kn=f
 .rw[DO e];refine .inr ⟨by omega,JJ c (Gd kn) x.Amount,?_,?_⟩
  .rw[Hc kx hi a,DO b.symm]
  .subst e;exact Dr.filled g hQ d.ag.1 (λk=>(d.wi k).1) λk=>(d.pa k).1
 .rw[Do e];exact drop_set kx hi a d.drop e λ_ h=>h.pZ hQ
theorem Uq.rack{j:Nat}{o:ZY}{goes:Bool}(u:Nc now kn o)(E:x.Kind=2)(y:XN x=true)(H:kn≠f)(fn:Z1 L x.Cask=some i)(hi:L[i]? =some c)(z:Z1 L x.Other=some j)(n:L[j]? =some o)(ne:i≠j)(le:x.Amount<=c.C.Amount)
  (A:goes=true->j3=x.Cask) (F:j3=x.Cask->x.Amount=c.C.Amount->goes=true):Uq f (kn+1) now ((L.set j<|JJ o c x.Amount).set i<|VF c x.Amount) (Qq (Qq am x.Cask<|c.C.Amount - x.Amount) x.Other<|o.C.Amount+x.Amount) wo pl age (if goes=true then x.Other else j3) iw ap/\x.Cask≠x.Other:=by
 have p:=DE fn hi;have g:=DE z n;have v:x.Cask≠x.Other:=λe=>by rw[e,z] at fn;cases fn;exact ne rfl
 have I:=(DF y<|.inr<|.inl E).1;have q:(JJ o c x.Amount).C.Number=o.C.Number:=by unfold JJ;split<;>rfl
 have b:(VF c x.Amount).C.Number=c.C.Number:=by unfold VF;split<;>rfl
 rw[List.set_comm _ _<|qBR ne];have a:((L.set i<|VF c x.Amount).map (·.C.Number)).Nodup:=by rw[I6 hi b];exact kx
 have l:(L.set i<|VF c x.Amount)[j]? =some o:=by rw[sL ne];exact n
 refine⟨⟨IX a l q (IX kx hi b d.am _ p _ (less_amt' c x.Amount).symm) _ g _ (by unfold JJ;split<;>rfl),HM (W:=(·.Wood)) a l q (HM (W:=(·.Wood)) kx hi b d.wo (by unfold VF;split<;>rfl)) (by unfold JJ;split<;>rfl),HM (W:=(·.Place)) a l q (HM (W:=(·.Place)) kx hi b d.pl (by unfold VF;split<;>rfl)) (by unfold JJ;split<;>rfl),d.ag,d.wi,d.pa,?_⟩,v⟩;rcases d.drop with⟨B,m⟩ | ⟨B,h,m,r⟩
 .have G:=(BX y).2.1
  have:goes=false:=by
   cases s:goes with
   | false=>rfl
   | true=>have:=A s;omega
  rw[this,Do ic];exact .inl ⟨B,by omega⟩
 .refine .inr ⟨by omega,?_⟩;rw[Hc a l q];cases s:goes with
  | true=>
   have e:=A s;rw[DO rfl,DO g.symm];rw[e,<-p,H2 (Dg kx hi) hi] at m
   cases m;exact⟨_,rfl,r.nA u hQ (λk=>(d.wi k).1) λk=>(d.pa k).1⟩
  | false=>
   simp only[W1,Bm];rw[Hc kx hi b,g,p];by_cases w:j3=x.Other
   .rw[DO w];rw[w,<-g,H2 (Dg kx n) n] at m
    cases m;exact⟨_,rfl,r.pZ hQ⟩
   .rw[Do w];by_cases t:j3=x.Cask
    .rw[DO t];have D:x.Amount≠c.C.Amount:=λe=>by have:=F t e;rw[s] at this;cases this
     rw[t,<-p,H2 (Dg kx hi) hi] at m
     cases m;exact⟨_,rfl,r.less hQ⟩
    .rw[Do t];exact⟨h,m,r⟩
where
 less_amt' (h:ZY) (n:Int):(VF h n).C.Amount=h.C.Amount - n:=by
  unfold VF;split
  .rename_i e;have:=r6.1 e;show(0:Int)=_;omega
  .rfl
theorem Uq.drain(j:kn≠f)(fn:Z1 L x.Cask=some i)(hi:L[i]? =some c)(le:x.Amount<=c.C.Amount)(k:j3=x.Cask->x.Amount≠c.C.Amount):Uq f (kn+1) now (L.set i<|VF c x.Amount) (Qq am x.Cask<|c.C.Amount - x.Amount) wo pl age j3 iw ap:=by
 have g:=DE fn hi;have a:(VF c x.Amount).C.Number=c.C.Number:=by unfold VF;split<;>rfl
 have b:(VF c x.Amount).C.Amount=c.C.Amount - x.Amount:=by
  unfold VF;split
  .rename_i e;have:=r6.1 e;show(0:Int)=_;omega
  .rfl
 refine⟨IX kx hi a d.am _ g _ b.symm,HM (W:=(·.Wood)) kx hi a d.wo (by unfold VF;split<;>rfl),HM (W:=(·.Place)) kx hi a d.pl (by unfold VF;split<;>rfl),d.ag,d.wi,d.pa,?_⟩;refine drop_set kx hi a d.drop j λe h=>h.less ?_;have:=k<|e.trans g;omega
theorem Uq.carry(a:kn≠f)(fn:Z1 L x.Cask=some i)(hi:L[i]? =some c):Uq f (kn+1) now (L.set i {c with C:={c.C with Place:=x.Where}}) am wo (Qq pl x.Cask x.Where) age j3 iw ap:=by
 have b:=DE fn hi;refine⟨IY kx hi rfl d.am rfl,HM (W:=(·.Wood)) kx hi rfl d.wo rfl,vi (W:=(·.Place)) (h' :={c with C:={c.C with Place:=x.Where}}) kx hi rfl d.pl _ b _ rfl,d.ag,d.wi,d.pa,?_⟩;exact drop_set kx hi rfl d.drop a λ_ h=>⟨h.amt,h.age,h.iw,h.ap,h.fill⟩
theorem Uq.char(a:kn≠f)(fn:Z1 L x.Cask=some i)(hi:L[i]? =some c)(e:c.C.Amount<=0):Uq f (kn+1) now (L.set i {c with C:={c.C with Wood:=x.Where}}) am (Qq wo x.Cask x.Where) pl age j3 iw ap:=by
 have b:=DE fn hi;refine⟨IY kx hi rfl d.am rfl,vi (W:=(·.Wood)) (h' :={c with C:={c.C with Wood:=x.Where}}) kx hi rfl d.wo _ b _ rfl,HM (W:=(·.Place)) kx hi rfl d.pl rfl,d.ag,d.wi,d.pa,?_⟩;exact drop_set kx hi rfl d.drop a λ_ h=>by have:=h.amt;omega
theorem Uq.other(e:kn≠f)(hi:L[i]? =some c)(a:h'.C.Number=c.C.Number)(b:h'.C.Amount=c.C.Amount)(g:h'.C.Wood=c.C.Wood)(j:h'.C.Place=c.C.Place)(k:h'.C.Age=c.C.Age)(l:h'.C.Woods=c.C.Woods)(m:h'.C.Places=c.C.Places)(n:h'.Fills=c.Fills):Uq f (kn+1) now (L.set i h') am wo pl age j3 iw ap:=by
 refine⟨IY kx hi a d.am b,HM (W:=(·.Wood)) kx hi a d.wo g,HM (W:=(·.Place)) kx hi a d.pl j,d.ag,d.wi,d.pa,?_⟩;exact drop_set kx hi a d.drop e λ_ h=>⟨by rw[b];exact h.amt,by rw[k];exact h.age,by rw[l];exact h.iw,by rw[m];exact h.ap,by rw[n];exact h.fill⟩
end
end
end Go.Proofs.YthfjpbooaofjcaaGreatDoor.Ca
end
