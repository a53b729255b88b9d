/- For OfficeDue. -/
import Derived.Test.YtbjgigfhnlnbfaaGreatDoorPd9
noncomputable section
namespace Go.Dec
abbrev lU:=@Int.tmod_eq_emod_of_nonneg
abbrev la:=@beq_eq_false_iff_ne
abbrev lf:=@List.all_nil
abbrev eI:=@Int.natCast_add
abbrev oA:=@Int.natCast_one
abbrev oF:=@Nat.pow_le_pow_right
abbrev oR:=@or_false
abbrev oT:=@Nat.pow_succ
abbrev oZ:=@Int.mul_comm
abbrev ob:=@Int.le_trans
abbrev o1:=@UInt8.toNat_inj
abbrev o7:=@bne_iff_ne
abbrev iG:=@Nat.lt_irrefl
abbrev iU:=@Int.ediv_le_of_le_mul
abbrev iz:=@List.flatten_cons
end Go.Dec
namespace Go.Proofs.YtbjgigfhnlnbfaaGreatDoor.Bo
section
open Go.Dec
theorem xO(n:Nat)(h:n<=1000000):Uc (n:Int)=some []:=by
 unfold Uc;have b:Qz (0 - 0)=0:=by rw[Qi]<;>omega
 simp only[show ¬((n:Int) < 0) by omega,n1,H1,By,K1,QQ,b];rw[show((n:Int) - 0)=n by omega,Qi qz qz];by_cases a:(n:Int) > 0
 ·simp only[a,r6,B3];have:EW (n:Int)=some n:=by unfold EW;rw[Bm qz];simp
  rw[this];simp[ZV]
 ·simp only[a,n1,H1,By,K1]
theorem yh(a:Q0 (Q0 QB))(h:a.flatten.length<=1000000)(p:a.length<=1000):Vu a=some a.flatten:=by
 unfold Vu
 have f:=BH (body:=Y6 a) (fun(t:Int) i=>(t,(i:Int))) (λt _ x=>if Qz (t+(x.length:Int)) < 0 then none else some (.next<|Qz<|t+(x.length:Int))) (λt=>t) a
  (λt i x b=>by
   have hi:=Zm b;unfold Y6;simp only[Zy,b,K1,QQ];rw[Qi (n:=(i:Int)+1) qz qz];simp only[show(decide<|(i:Int) < (a.length:Int))=true by simpa using hi,B3];by_cases k:Qz (t+(x.length:Int)) < 0<;>simp[k,UP.ax])
  (λt=>by unfold Y6;simp) 0
 have g:=BH (body:=Y5 a) (fun(t:Q0 QB) i=>(t,(i:Int))) (λt _ x=>(YB t x).map .next) (λt=>t) a
  (λt i x b=>by
   have hi:=Zm b;unfold Y5;simp only[Zy,b,K1];rw[Qi (n:=(i:Int)+1) qz qz];simp only[show(decide<|(i:Int) < (a.length:Int))=true by simpa using hi,B3];cases YB t x<;>simp[UP.ax])
  (λt=>by unfold Y5;simp) []
 simp only[fm] at f g
 have m:∀(l:Q0 (Q0 QB)) (i:Nat) (t:Int),0<=t->t+l.flatten.length<=1000000->R6 (fun(t:Int) _ (x:Q0 QB)=>if Qz (t+(x.length:Int)) < 0 then none else some (.next<|Qz<|t+(x.length:Int))) (λt=>t) l i t=some (t+l.flatten.length):=by
  intro l
  induction l with
  | nil=>intro i t j c;simp[R6]
  | cons x l d=>
   intro i t j c;simp only[iz,hN,eI] at c
   have e:Qz (t+(x.length:Int))=t+x.length:=Qi qz qz;simp only[R6,e,show ¬(t+(x.length:Int) < 0) by omega,By];rw[d _ _ qz qz];simp;omega
 have o:∀(l:Q0 (Q0 QB)) (i:Nat) (t:Q0 QB),t.length+l.flatten.length<=1000000->R6 (λt _ x=>(YB t x).map .next) (λt=>t) l i t=some (t++l.flatten):=by
  intro l
  induction l with
  | nil=>intro i t j;simp[R6]
  | cons x l d=>
   intro i t c;simp only[iz,hN] at c
   have e:YB t x=some (t++x):=by unfold YB;rw[Bm qz]
   simp only[R6,e,E4];rw[d _ _ (by rw[hN];omega)];simp
 rw[f,m a 0 0 qz qz];simp only[K1,Int.zero_add];rw[xO _ h];simp only[K1];rw[g,o a 0 []<|by simpa using h];simp
def zy(x:QB):Prop:=0<=x.Lo/\x.Lo<=x.Hi/\x.Hi<=1099511627776
def EU(t:QB)(i:Nat)(y:QB):Q2 (UP QB<|Int×QB):=if y.Lo<=t.Hi+1 then some (.next<|QB.mk (JY t.Lo y.Lo)<|imax t.Hi y.Hi) else some (.done ((i:Int),t))
theorem MA:∀(r:Q0 QB) (i:Nat) (x:QB),XL r->zy x->(∀y∈r,x.Lo<=y.Hi+1)->
  ∃c j x',r=c++j/\R6 EU (λt=>((i+r.length:Nat),t)) r i x=some (((i+c.length:Nat):Int),x')/\zy x'/\(∀z∈j,x'.Hi+1 < z.Lo)/\(∀n,R4 x' n↔R4 x n∨mem c n)/\(∀b,b < x.Lo->(∀y∈r,b < y.Lo)->b < x'.Lo)
 | [],i,x,_,d,_=>⟨[],[],x,rfl,by simp[R6],d,by simp,λn=>by simp[mem],λb k _=>k⟩
 | y::r,i,x,l,d,m=>by
  have C:=l.ok y zh;have p:=m y zh;have f:=(j3.1 l.apart).1;by_cases o:y.Lo<=x.Hi+1
  ·have q:zy (QB.mk (JY x.Lo y.Lo)<|imax x.Hi y.Hi):=by
    simp only[zy,JY,imax] at d ⊢
    split<;>split<;>omega
   obtain⟨c,j,x',e,s,u,v,w,A⟩:=MA r (i+1) (QB.mk (JY x.Lo y.Lo)<|imax x.Hi y.Hi) l.tail q λz a=>by
    have:=f z a;have D:=l.ok z (by simp[a]);have:=m z (by simp[a]);show JY x.Lo y.Lo<=z.Hi+1;simp only[JY];split<;>omega
   refine⟨y::c,j,x',by rw[e];rfl,?_,u,v,λn=> ?_,λb k g=> ?_⟩
   ·simp only[R6,EU,o,B3];rw[show(i+(y::r).length)=(i+1+r.length) by simp;omega,show(i+(y::c).length)=(i+1+c.length) by simp;omega];exact s
   ·rw[w n,mem_cons];simp only[zy] at d
    simp only[R4,JY,imax];constructor
    ·rintro(h | h)
     ·by_cases B:x.Lo<=n/\n<=x.Hi
      ·exact .inl B
      ·refine .inr<|.inl ?_;split at h<;>split at h<;>omega
     ·exact .inr<|.inr h
    ·rintro(h | h | h)
     ·left;split<;>split<;>omega
     ·left;split<;>split<;>omega
     ·exact .inr h
   ·apply A
    ·have:=g y zh;show b < JY x.Lo y.Lo;simp only[JY];split<;>omega
    ·exact λz a=>g z<|by simp[a]
  ·refine⟨[],y::r,x,rfl,?_,d,λz a=> ?_,λn=>by simp[mem],λb k _=>k⟩
   ·simp only[R6,EU,o,By];simp
   ·rcases Tc.1 a with rfl | a
    ·omega
    ·have:=f z a;omega
theorem NH(f:QB->Bool):∀(r:Q0 QB) (i:Nat),R6 (fun(_:Unit) i x=>if f x then some (.next ()) else some (.done (i:Int))) (λ_=>((i+r.length:Nat):Int)) r i ()=some ((i+(r.takeWhile f).length:Nat):Int)
 | [],i=>by simp[R6]
 | x::r,i=>by
  cases a:f x with
  | true=>
   simp only[R6,a,B3,eE,kn];have:=NH f r<|i+1;rw[show i+(r.length+1)=i+1+r.length by omega,show i+((r.takeWhile f).length+1)=i+1+(r.takeWhile f).length by omega];exact this
  | false=>simp[R6,a]
theorem Ll{s:Q0 QB}{x:QB}(q:XL s)(Z:s.length<=1000)(u:zy x):∃k,VG s x=some k/\XL k/\k.length<=s.length+1/\∀n,mem k n↔mem s n∨R4 x n:=by
 unfold VG;have v:=u;simp only[zy] at v
 have I:=BH (body:=VX s x) (fun(_:Unit) i=>(i:Int)) (λ_ i y=>if decide (y.Hi < x.Lo - 1) then some (.next ()) else some (.done (i:Int))) (λ_=>((0+s.length:Nat):Int)) s
  (λt i y c=>by
   have hi:=Zm c;unfold VX;simp only[Zy,c,K1,QQ];rw[Qi (n:=(i:Int)+1) qz qz,Qi (n:=x.Lo - 1) qz qz];simp only[show(decide<|(i:Int) < (s.length:Int))=true by simpa using hi,B3,K1];by_cases w:y.Hi < x.Lo - 1<;>simp[w,UP.ax])
  (λt=>by unfold VX;simp) ()
 simp only[fm] at I
 rw[I,NH];simp only[K1,sf];generalize K:(λy:QB=>decide<|y.Hi < x.Lo - 1)=f;generalize g:s.takeWhile f=s1;generalize j:s.dropWhile f=s2;have hs:s=s1++s2:=by rw[<-g,<-j,List.takeWhile_append_dropWhile]
 have A:=hs▸q;obtain⟨L,d,e⟩:=A.split
 have P:∀y∈s1,y.Hi < x.Lo - 1:=by
  intro y c;rw[<-g] at c
  have:=List.all_takeWhile (p:=f) (l:=s);rw[If] at this
  have:=this y c;rw[<-K] at this
  simpa using this
 have Q:∀y∈s2,x.Lo<=y.Hi+1:=by
  intro y c;cases h:s2 with
  | nil=>rw[h] at c;cases c
  | cons z r=>
   have hz:¬z.Hi < x.Lo - 1:=by
    have:=List.head?_dropWhile_not (p:=f) (l:=s);rw[j,h] at this
    simp at this
    rw[<-K] at this
    simpa using this
   rw[h] at c d
   rcases Tc.1 c with rfl | c
   ·omega
   ·have:=(j3.1 d.apart).1 y c;have m:=d.ok y (by simp[c]);have oz:=d.ok z zh;omega
 obtain⟨M,B,x',er,R,C,D,E,F⟩:=MA s2 s1.length x d u Q
 have S:=AW (body:=VW s) (fun(t:QB) i=>((i:Int),t)) EU (λt=>(((s1.length+s2.length:Nat):Int),t)) s (λ_ t=>zy t)
  (λt i y c G=>by
   have hi:=Zm c;have m:zy y:=q.ok y<|T2 c;simp only[zy] at G m
   unfold VW EU;simp only[Zy,c,K1,QQ];rw[Qi (n:=(i:Int)+1) qz qz,Qi (n:=t.Hi+1) qz qz];simp only[show(decide<|(i:Int) < (s.length:Int))=true by simpa using hi,B3,K1];by_cases w:y.Lo<=t.Hi+1<;>simp[w,UP.ax])
  (λt i y t' c G h=>by
   have m:zy y:=q.ok y<|T2 c;unfold EU at h
   split at h
   ·simp only[UV,UP.next.injEq] at h
    subst h;simp only[zy,JY,imax] at G m ⊢
    split<;>split<;>omega
   ·simp at h)
  (λt _=>by unfold VW;rw[hs];simp) s2.length s1.length x (by rw[hs];simp) u
 have T:s.drop s1.length=s2:=by rw[hs];simp
 rw[S,T,R];simp only[K1];have N:s.length=s1.length+M.length+B.length:=by rw[hs,er];simp;omega
 have V:ZV s 0 (s1.length:Int)=some s1:=by
  unfold ZV;rw[Bm qz];rw[hs];simp
 have W:ZV s ((s1.length+M.length:Nat):Int) (s.length:Int)=some B:=by
  unfold ZV;rw[Bm qz];simp only[hQ];rw[hs,er];congr 1;rw[<-List.append_assoc,ld zh];rw[ey zh,me];apply OF;simp only[hN];omega
 rw[V,W];simp only[K1];rw[yh _ zg zh];refine⟨s1++x' ::B,by simp,?_,by simp;omega,λn=> ?_⟩
 ·rw[er] at d e
  obtain⟨m1,X,Y⟩:=d.split;refine L.append (X.aw C D) λa o b H=> ?_;rcases Tc.1 H with rfl | H
  ·have oa:=L.ok a o;apply F
   ·have:=P a o;omega
   ·intro y c;rw[er] at c
    exact e a o y c
  ·exact e a o b<|by simp[H]
 ·rw[mem_append,mem_cons,E,hs,er,mem_append,mem_append];constructor
  ·rintro(h | (h | h) | h)
   ·exact .inl<|.inl h
   ·exact .inr h
   ·exact .inl<|.inr<|.inl h
   ·exact .inl<|.inr<|.inr h
  ·rintro((h | h | h) | h)
   ·exact .inl h
   ·exact .inr<|.inl<|.inr h
   ·exact .inr<|.inr h
   ·exact .inr<|.inl<|.inl h
end
section
open Go.Dec
theorem Bh{α:Type}{l k:Q0 α}(h:l.length+k.length<=4294967296):YB l k=some (l++k):=by
 unfold YB;rw[Bm h]
theorem wE{α:Type}(x:α):YB [] [x]=some [x]:=by
 unfold YB;rw[Bm zh];rfl
theorem uD{n:Int}(a:0<=n)(h:n<=4294967296):gg 0 n=some 0:=by
 unfold gg;rw[Bm qz];simp only[oH]
theorem E7{s:Q0 QB}{x:QB}(G:XL s)(hl:s.length<=1000)(W:zy x)(X:∀n,R4 x n->mem s n):∃j,Yx s x=some j/\XL j/\j.length<=s.length+1/\∀n,mem j n↔mem s n/\¬R4 x n:=by
 unfold Yx;have A:=W;simp only[zy] at A
 obtain⟨Y,H,Z⟩:=(MZ G A.2.1).2 X;generalize I:(λy=>KP y x)=f;rw[show(λz=>some<|KP z x)=λz=>some (f z) by rw[<-I]];rw[CW s f qz]
 have K:∃i,s.findIdx? f=some i:=by
  cases h:s.findIdx? f with
  | some i=>exact⟨i,rfl⟩
  | none=>
   rw[iE] at h
   have:=h Y H;rw[<-I] at this
   simp[KP] at this
   omega
 obtain⟨i,hi⟩:=K;rw[hi];rw[oQ] at hi
 obtain⟨l,r,_⟩:=hi;generalize S:s[i]=y at r
 have T:y.Lo<=x.Lo/\x.Hi<=y.Hi:=by
  rw[<-I] at r;simpa[KP] using r
 have hs:s=s.take i++y::s.drop (i+1):=by
  rw[<-S,<-x2 l,eN]
 have m:s[i]? =some y:=by rw[<-S];exact C2 l
 have oy:=G.ok y<|T2 m;simp only[K1,Zy,m];rw[Qi (n:=x.Lo - 1) qz qz,Qi (n:=x.Hi+1) qz qz,Qi (n:=(s.length:Int)+1) qz qz,Qi (n:=(i:Int)+1) qz qz];have B:gg 0 ((s.length:Int)+1)=some 0:=uD qz qz;have L:ZV s 0 (i:Int)=some (s.take i):=by unfold ZV;rw[Bm qz];simp
 have M:ZV s ((i:Int)+1) (s.length:Int)=some (s.drop<|i+1):=by
  unfold ZV;rw[Bm qz];rw[show((i:Int)+1).toNat=i+1 by omega,OF zh]
 have ht:(s.take i).length=i:=by simp;omega
 have aA:(s.drop<|i+1).length=s.length - (i+1):=by simp
 generalize aB:s.take i=a at*
 generalize aC:s.drop (i+1)=b at*
 obtain⟨na,C,t⟩:=(hs▸G:XL (a++y::b)).split;have nb:=C.tail;have V:=(j3.1 C.apart).1;generalize e:(if x.Hi < y.Hi then[QB.mk (x.Hi+1) y.Hi] else[])=pr;generalize g:(if y.Lo < x.Lo then[QB.mk y.Lo<|x.Lo - 1] else[])=pl
 have run:((if decide (y.Lo < x.Lo)=true then(some y).bind λN=>(YB [] [QB.mk N.Lo<|x.Lo - 1]).bind λD=>some D else some []):Q2 (Q0 QB))=some pl:=by
  rw[<-g];by_cases h:y.Lo < x.Lo
  ·simp only[h,r6,B3,K1,wE]
  ·simp[h]
 have aF:pl.length<=1:=by rw[<-g];split<;>simp
 have aG:pr.length<=1:=by rw[<-e];split<;>simp
 have o:((if decide (x.Hi < y.Hi)=true then(some y).bind λE=>(YB pl [QB.mk (x.Hi+1) E.Hi]).bind λu=>some u else some pl):Q2 (Q0 QB))=some (pl++pr):=by
  rw[<-e];by_cases h:x.Hi < y.Hi
  ·simp only[h,r6,B3,K1];rw[Bh (by simp only[kn,hF];omega)];simp only[K1]
  ·simp[h]
 simp only[K1] at run o
 suffices F:∀z,z=a++(pl++pr)++b->∃j,some z=some j/\XL j/\j.length<=s.length+1/\∀n,mem j n↔mem s n/\¬R4 x n by
  refine Exists.imp (λj h=>⟨Eq.trans ?_ h.1,h.2⟩)<|F _ rfl;refine ZQ run<|ZQ o<|ZQ B<|ZQ L<|ZQ (a:=a) ?_<|ZQ (a:=a++(pl++pr)) ?_<|ZQ M<|ZQ (a:=a++(pl++pr)++b) ?_ rfl
  ·rw[List.replicate_zero,Bh (by simp only[hF];omega)];rfl
  ·exact Bh (by simp only[hN];omega)
  ·exact Bh (by simp only[hN];omega)
 intro z c;subst c
 have P:∀n,mem pl n↔y.Lo<=n/\n < x.Lo:=by
  intro n;rw[<-g];split
  ·simp only[mem_cons,Sy,oR,R4];omega
  ·simp only[Sy,false_iff];omega
 have mpr:∀n,mem pr n↔x.Hi < n/\n<=y.Hi:=by
  intro n;rw[<-e];split
  ·simp only[mem_cons,Sy,oR,R4];omega
  ·simp only[Sy,false_iff];omega
 have Q:XL pl:=by
  rw[<-g];split
  ·exact XL.nil.aw (by simp only;omega) zh
  ·exact XL.nil
 have R:XL pr:=by
  rw[<-e];split
  ·exact XL.nil.aw (by simp only;omega) zh
  ·exact XL.nil
 have v:∀z∈pl,z.Lo=y.Lo/\z.Hi=x.Lo - 1:=by
  intro z c;rw[<-g] at c;split at c
  ·simp at c;subst c;simp
  ·simp at c
 have w:∀z∈pr,z.Lo=x.Hi+1/\z.Hi=y.Hi:=by
  intro z c;rw[<-e] at c;split at c
  ·simp at c;subst c;simp
  ·simp at c
 refine⟨_,rfl,?_,?_,λn=> ?_⟩
 ·refine((na.append (Q.append R ?_) ?_).append nb ?_)
  ·intro p d q k;have:=v p d;have:=w q k;omega
  ·intro p d q k;have h1:=t p d y zh;rcases mn.1 k with k | k
   ·have:=v q k;omega
   ·have:=w q k;omega
  ·intro p d q k;have h1:=V q k;rcases mn.1 d with d | d
   ·exact t p d q<|by simp[k]
   ·rcases mn.1 d with d | d
    ·have:=v p d;omega
    ·have:=w p d;omega
 ·simp only[hN];omega
 ·rw[mem_append,mem_append,mem_append,P,mpr,hs,mem_append,mem_cons];simp only[R4];constructor
  ·rintro((h | h | h) | h)
   ·refine⟨.inl h,?_⟩;obtain⟨z,c,B⟩:=h;have:=t z c y zh;simp only[R4] at B;omega
   ·exact⟨.inr (.inl qz),by omega⟩
   ·exact⟨.inr (.inl qz),by omega⟩
   ·refine⟨.inr<|.inr h,?_⟩;obtain⟨z,c,B⟩:=h;have:=V z c;simp only[R4] at B;omega
  ·rintro⟨h | h | h,aI⟩
   ·exact .inl<|.inl h
   ·by_cases l:n < x.Lo
    ·exact .inl<|.inr<|.inl ⟨h.1,l⟩
    ·exact .inl<|.inr<|.inr ⟨by omega,h.2⟩
   ·exact .inr h
def has(e:QH)(n:Int):Prop:=e.First<=n/\n<=e.Last
instance(e:QH) (n:Int):Decidable (has e n):=by unfold has;infer_instance
def cur:Q0 QH->Int->Q2 QH:=λl n=>l.foldl (λo e=>if has e n then some e else o) none
def hand(l:Q0 QH)(n:Int):Prop:=∃e,cur l n=some e/\e.Kind=0
theorem jV(n:Int):cur [] n=none:=rfl
theorem BT(l:Q0 QH)(e:QH)(n:Int):cur (l++[e]) n=if has e n then some e else cur l n:=by simp[cur]
theorem Ed(l:Q0 QH)(e:QH)(n:Int):hand (l++[e]) n↔if has e n then e.Kind=0 else hand l n:=by
 unfold hand;rw[BT];split<;>simp
def xD(x:QH):Bool:=UX x
theorem jE(x:QH):xD x=true↔(0<=x.Kind/\x.Kind<=3)/\(x.Kind=1->0<=x.Batch/\x.Batch<=1073741824)/\0<=x.First/\x.First<=x.Last/\x.Last<=1099511627776:=by
 simp only[xD,UX,QV,Ka,BY,rm,AT,o7,ne_eq];constructor
 ·rintro⟨⟨b,a⟩,c⟩;refine⟨by omega,λh=> ?_,by omega⟩;rcases a with a | a
  ·exact absurd h a
  ·omega
 ·rintro⟨b,a,c⟩;refine⟨⟨by omega,?_⟩,by omega⟩;by_cases h:x.Kind=1
  ·right;have:=a h;omega
  ·left;exact h
open Classical in
def UD(pre:Q0 QH)(x:QH):Int:=if xD x=false then 1 else if x.Kind=0/\∃n,has x n/\cur pre n≠none then 5 else if x.Kind≠0/\∃n,has x n/\¬hand pre n then 4 else 0
structure Inv(pre:List QH)(t:Q7×Un×Int):Prop where
 ni:XL t.2.1.issued
 nh:XL t.2.1.hand
 li:t.2.1.issued.length<=pre.length
 lh:t.2.1.hand.length<=pre.length
 mi:∀n,mem t.2.1.issued n↔cur pre n≠none
 mh:∀n,mem t.2.1.hand n↔hand pre n
def amount(x:QH):Int:=Qz<|Qz (x.Last - x.First)+1
def yr(b:Q7)(x:QH):Q7:=if x.Kind=1 then{b with Stuck:=Qz (b.Stuck+amount x)} else if x.Kind=2 then{b with Spoiled:=Qz (b.Spoiled+amount x)} else if x.Kind=3 then{b with Returned:=Qz (b.Returned+amount x)} else b
def za:Q0 QH->Q7:=λl=>l.foldl yr<|Q7.mk [] 0 0 0
theorem St(l:Q0 QH)(x:QH):za (l++[x])=yr (za l) x:=by simp[za]
theorem Im{l pre post:Q0 QH}{x:QH}{t:Q7×Un×Int}(P:l=pre++x::post)(Q:l.length<=256)(c:Inv pre t)(D:t.1=za pre):(UD pre x≠0/\VC l ((pre.length:Int),t)=some (.done<|.inr (Q7.mk [] 0 0 0,(pre.length:Int),UD pre x)))∨
  (UD pre x=0/\∃t',VC l ((pre.length:Int),t)=some (.next (((pre.length+1:Nat):Int),t'))/\Inv (pre++[x]) t'/\t'.1=za (pre++[x])):=by
 have y:l[pre.length]? =some x:=by rw[P];simp
 have A:pre.length < l.length:=by rw[P];simp
 unfold VC;simp only[Zy,y,K1,show(decide<|(pre.length:Int) < (l.length:Int))=true by simpa using A,B3];by_cases d:xD x=true
 ·have i:UX x=true:=d;obtain⟨X,_,E,o,F⟩:=(jE x).1 d;have p:zy (QB.mk x.First x.Last):=⟨E,o,F⟩;have q:∀n,R4 (QB.mk x.First x.Last) n↔has x n:=λn=>Iff.rfl;have Y:=c.li;have l2:=c.lh;simp only[i,RK,H1,By];rw[Qi (n:=(pre.length:Int)+1) qz qz];by_cases a:x.Kind=0
  ·
    obtain⟨G,H,B⟩:=qF (s:=t.2.1.issued) (x:=QB.mk x.First x.Last) qz c.ni o;simp only[a,hW,B3,H,K1];cases j:G with
    | true=>
     left
     have:UD pre x=5:=by
      unfold UD;rw[B2 (by simp[d]),Bm];refine⟨a,?_⟩;obtain⟨n,r,u⟩:=B.1 j;exact⟨n,r,(c.mi n).1 u⟩
     rw[this];simp
    | false=>
     right;have v:¬∃n,R4 (QB.mk x.First x.Last) n/\mem t.2.1.issued n:=λh=>by have:=B.2 h;rw[j] at this;cases this
     have f:UD pre x=0:=by
      unfold UD;rw[B2 (by simp[d]),B2,B2<|by simp[a]];rintro⟨_,n,r,u⟩;exact v ⟨n,r,(c.mi n).2 u⟩
     obtain⟨Z,R,S,PZ,T⟩:=Ll c.ni qz p;obtain⟨I,K,L,Rk,M⟩:=Ll c.nh qz p;simp only[H1,By,R,K,K1,QQ];refine⟨f,_,rfl,⟨S,L,by simp;omega,by simp;omega,λn=> ?_,λn=> ?_⟩,?_⟩
     ·rw[T,BT,c.mi,q];split<;>simp_all
     ·rw[M,Ed,c.mh,q];split<;>simp_all
     ·rw[St];simp only[yr,a];simpa using D
  ·
    have N:(x.Kind==0)=false:=by simpa using a
    simp only[N,H1,By,K1];obtain⟨G,H,B⟩:=yd (s:=t.2.1.hand) (x:=QB.mk x.First x.Last) qz c.nh o;simp only[H,K1];cases j:G with
    | false=>
     left;have v:¬∀n,R4 (QB.mk x.First x.Last) n->mem t.2.1.hand n:=λh=>by have:=B.2 h;rw[j] at this;cases this
     have:UD pre x=4:=by
      unfold UD;rw[B2 (by simp[d]),B2 (by simp[a]),Bm];refine⟨a,?_⟩;obtain⟨n,V⟩:=Classical.not_forall.1 v;obtain⟨r,u⟩:=Classical.not_imp.1 V;exact⟨n,r,λW=>u<|(c.mh n).2 W⟩
     rw[this];simp
    | true=>
     right;have k:=B.1 j
     have f:UD pre x=0:=by
      unfold UD;rw[B2 (by simp[d]),B2 (by simp[a]),B2];rintro⟨_,n,r,u⟩;exact u<|(c.mh n).1<|k n r
     obtain⟨I,K,L,Rk,M⟩:=E7 c.nh qz p k;simp only[RK,H1,By,K,K1,QQ]
     have C:∀n,has x n->cur pre n≠none:=λn h=>by
      have:=(c.mh n).1<|k n h;obtain⟨e,he,_⟩:=this;rw[he];simp
     have m:∀(b:Q7) (z:Int),Inv (pre++[x]) (b,{t.2.1 with hand:=I},z):=λb z=>by
      refine⟨c.ni,L,by simp;omega,by simp;omega,λn=> ?_,λn=> ?_⟩
      ·show mem t.2.1.issued n↔_;rw[BT,c.mi];split
       ·rename_i h;simp[C n h]
       ·rfl
      ·show mem I n↔_;rw[M,Ed,c.mh,q];split
       ·rename_i h;simp[h,a]
       ·rename_i h;simp[h]
     have w:x.Kind=1∨x.Kind=2∨x.Kind=3:=by omega
     rcases w with g | g | g
     ·simp only[g,show VM 4 1=some 1 from rfl,K1,show((1:Nat)==0)=false from rfl,H1,By,hW,B3];exact⟨f,_,rfl,m _ _,by rw[St,<-D];simp[yr,g,amount]⟩
     ·simp only[g,show VM 4 2=some 2 from rfl,K1,show((2:Nat)==0)=false from rfl,show((2:Nat)==1)=false from rfl,H1,By,hW,B3];exact⟨f,_,rfl,m _ _,by rw[St,<-D];simp[yr,g,amount]⟩
     ·simp only[g,show VM 4 3=some 3 from rfl,K1,show((3:Nat)==0)=false from rfl,show((3:Nat)==1)=false from rfl,show((3:Nat)==2)=false from rfl,H1,By];exact⟨f,_,rfl,m _ _,by rw[St,<-D];simp[yr,g,amount]⟩
 ·left;have i:UX x=false:=by simpa[xD] using d
  have:UD pre x=1:=by unfold UD;rw[Bm<|by simpa using d]
  rw[this];simp[i]
end
section
open Go.Dec
variable{l:Q0 QH}
def kB:Q7:=Q7.mk [] 0 0 0
theorem RD(l:Q0 QH)(h:l.length<=256):(∃p x,Sr UD l p x/\YR l=some (kB,(p.length:Int),UD p x))∨
  (Wn UD l/\∃a,XL a/\(∀n,mem a n↔hand l n)/\a.length<=l.length/\YR l=some ({za l with Hand:=a},(l.length:Int),0)):=by
 unfold YR;simp only[show ¬((l.length:Int) > 256) by omega,n1,H1,By]
 have key:=G7 (body:=VC l) (λi (t:Q7×Un×Int)=>((i:Int),t)) UD (λi e=>.inr (kB,(i:Int),e)) (λt=>.inl (t.1,t.2.1,t.2.2)) (λpre t=>Inv pre t/\t.1=za pre) l
  (λpre x post t j _ g=>by
   rcases Im j h g.1 g.2 with⟨c,d⟩ | ⟨c,t',d,k,m⟩
   ·exact .inl ⟨c,d⟩
   ·exact .inr ⟨c,t',d,k,m⟩)
  (λt _ _=>by unfold VC;simp)
  l [] (kB,Un.mk [] [],0) rfl Wn.nil ⟨⟨XL.nil,XL.nil,by simp,by simp,λn=>by simp[Sy,jV],λn=>by simp[Sy,hand,jV]⟩,rfl⟩
 simp only[hF,fm] at key
 rcases key with⟨p,x,o,f⟩ | ⟨q,t,⟨b,r⟩,f⟩
 ·refine .inl ⟨p,x,o,?_⟩;refine ZQ f ?_;rfl
 ·refine .inr ⟨q,t.2.1.hand,b.nh,b.mh,b.lh,?_⟩;refine ZQ f ?_
  have s:UM t.2.1.hand=some t.2.1.hand:=by
   unfold UM;have:=b.lh;rw[Bh (by simp only[hF];omega)];simp
  simp only[s,K1,QQ,r]
theorem qh{pre:Q0 QH}{x:QH}(h:UD pre x=0):xD x=true/\(x.Kind=0->∀n,has x n->cur pre n=none)/\(x.Kind≠0->∀n,has x n->hand pre n):=by
 unfold UD at h
 split at h
 ·cases h
 ·rename_i d;split at h
  ·cases h
  ·rename_i e;split at h
   ·cases h
   ·rename_i f;refine⟨by simpa using d,λa n b=> ?_,λa n b=> ?_⟩
    ·apply lV;exact λc=>e ⟨a,n,b,c⟩
    ·apply lV;exact λc=>f ⟨a,n,b,c⟩
theorem xC{x:QH}(h:Wn UD (l++[x])):UD l x=0:=h l x [] rfl
theorem IZ(n:Int)(l:Q0 QH):Wn UD l->l.find? (λe=>decide<|e.Kind=1/\has e n)=(cur l n).filter (λe=>decide<|e.Kind=1):=by
 induction l using Cy with
 | niX=>intro _;rfl
 | snX l x d=>
  intro h;have d:=d h.init;obtain⟨_,g,i⟩:=qh<|xC h;rw[List.find?_append,BT,d];by_cases a:has x n
  ·by_cases f:x.Kind=0
   ·simp[g f n a,a,f,Option.filter]
   ·obtain⟨e,he,b⟩:=i f n a;rw[he];by_cases c:x.Kind=1
    ·simp[b,a,c,Option.filter]
    ·simp[b,a,c,Option.filter]
  ·simp[a]
def Lm(l:Q0 QH)(n:Int):Int×Int:=match(cur l n).filter (λe=>decide<|e.Kind=1) with | some e=>(e.Batch,0) | none=>(0,4)
theorem zU(l:Q0 QH)(n:Int)(h:l.length<=256):ZT (UY l n) 0=some (match l.find? (λe=>decide<|e.Kind=1/\has e n) with | some e=>.inr (e.Batch,0) | none=>.inl ()):=by
 have key:=BH (body:=UY l n) (fun(_:Unit) i=>(i:Int)) (λ_ _ x=>if decide (x.Kind=1/\has x n) then some (.done<|.inr (x.Batch,0)) else some (.next ())) (λ_=>.inl ()) l
  (λt i x b=>by
   have hi:=Zm b;unfold UY;simp only[Zy,b,K1];rw[Qi qz qz];simp only[show(decide<|(i:Int) < (l.length:Int))=true by simpa using hi,B3]
   have e:(x.Kind==1&&QV n x.First x.Last)=decide (x.Kind=1/\has x n):=by
    rw[lr,decide_eq_true_iff];simp only[BY,mb,QV,AT,eY];exact Iff.rfl
   rw[e];by_cases a:x.Kind=1/\has x n<;>simp[a,UP.ax])
  (λt=>by unfold UY;simp) ()
 simp only[fm] at key
 rw[key]
 clear key h
 generalize 0=i
 induction l generalizing i with
 | nil=>rfl
 | cons x l c=>
  simp only[R6,lI];by_cases a:x.Kind=1/\has x n
  ·simp[a]
  ·simp only[a,n1,H1,By];exact c<|i+1
theorem zT(n:Int)(h:l.length<=256)(a:Wn UD l):Vz l n=some (Lm l n):=by
 unfold Vz;rcases RD l h with⟨p,x,b,_⟩ | ⟨_,d,_,_,_,c⟩
 ·exact absurd a b.nH
 ·refine ZQ c ?_;simp only[oS,H1,By];rw[zU l n h,IZ n l a];unfold Lm;cases(cur l n).filter (λe=>decide<|e.Kind=1)<;>simp
theorem jj(n:Int){b:Q7}{i e:Int}(h:YR l=some (b,i,e))(he:e≠0):Vz l n=some (0,e):=by
 unfold Vz;refine ZQ h ?_;simp only[show(e != 0)=true by simpa using he,B3]
end
section
open Go.Dec
theorem R9(x:Int):ZI x=true↔0<=x/\x<=65536:=by
 simp only[ZI,QV,BY,AT,eY]
theorem Ls(p:Int)(a:0<=p):∀l:Q0 Int,(∀x∈l,0<=x/\x<=p)->0<=l.sum/\l.sum<=p*l.length
 | [],_=>by simp
 | x::l,h=>by
  have c:=h x zh;have d:=Ls p a l λy b=>h y (by simp[b]);rw[List.sum_cons,kn,eI,ov];simp only[oA,Int.mul_one];omega
theorem vZ(l:Q0 Int)(o:l.length<=1000):Xl l=some (if l.all ZI then(l.sum,true) else(0,false)):=by
 unfold Xl
 have key:=G7 (body:=Xh l) (λi (t:Int)=>(t,(i:Int))) (λ_ x=>if ZI x then 0 else 1) (λ_ _=>.inr (0,false)) (λt=>.inl t) (λpre t=>t=pre.sum) l
  (λpre x post t b d f=>by
   have k:=Vm b;have hi:=Xq b;unfold Xh;simp only[Zy,k,K1,QQ];rw[Qi (n:=(pre.length:Int)+1) qz qz];simp only[show(decide<|(pre.length:Int) < (l.length:Int))=true by simpa using hi,B3];cases g:ZI x with
   | false=>left;simp
   | true=>
    right;have m:=(R9 x).1 g
    have c:∀y∈pre,0<=y/\y<=65536:=by
     intro y h;obtain⟨s,r,rfl⟩:=lT h;have:=d s y r rfl;cases a:ZI y with
     | true=>exact(R9 y).1 a
     | false=>simp[a] at this
    have q:=Ls 65536 qz pre c;refine⟨by simp,t+x,?_,by rw[f];simp⟩;simp only[RK,H1,By];rw[Qi qz qz];simp)
  (λt _ _=>by unfold Xh;simp) l [] 0 rfl Wn.nil rfl
 simp only[hF,fm] at key
 rcases key with⟨p,x,⟨post,e,_,g⟩,j⟩ | ⟨d,t,f,j⟩
 ·have:l.all ZI=false:=by
   rw[e,lJ,s8];cases a:ZI x with
   | true=>simp[a] at g
   | false=>simp
  rw[this];exact ZQ j rfl
 ·have:l.all ZI=true:=by
   rw[If];intro y h;obtain⟨s,r,rfl⟩:=lT h;have:=d s y r rfl;cases a:ZI y with
   | true=>rfl
   | false=>simp[a] at this
  rw[this];exact ZQ j (by rw[f];rfl)
def wU(d:Qq):Bool:=
 (Fw 8 d.From.Woods).all ZI&&(Fw 8 d.From.Places).all ZI&&ZI d.From.Age&&decide (d.From.Age≥imax (Fw 8 d.From.Woods).sum (Fw 8 d.From.Places).sum)&&
 QV d.From.Number 0 1073741824&&QV d.Amount 1 1073741824&&Ka d.Strength 10000
structure dX(d:Qq):Prop where
 woods:∀i,i < 8->0<=d.From.Woods i/\d.From.Woods i<=65536
 places:∀i,i < 8->0<=d.From.Places i/\d.From.Places i<=65536
 age:0<=d.From.Age/\d.From.Age<=65536
 ageW:(Fw 8 d.From.Woods).sum<=d.From.Age
 ageP:(Fw 8 d.From.Places).sum<=d.From.Age
 num:0<=d.From.Number/\d.From.Number<=1073741824
 amt:1<=d.Amount/\d.Amount<=1073741824
 str:0<=d.Strength.Lo/\d.Strength.Lo<=d.Strength.Hi/\d.Strength.Hi<=10000
theorem yp{f:Nat->Int}{p:Int->Bool}{n:Nat}:(Fw n f).all p=true↔∀i,i < n->p (f i)=true:=by
 simp[Fw]
theorem O6(d:Qq):wU d=true↔dX d:=by
 simp only[wU,BY,yp,R9,AT,QV,Ka,imax,eY];constructor
 ·rintro⟨⟨⟨⟨⟨⟨a,b⟩,c⟩,e⟩,f⟩,g⟩,h⟩;refine⟨a,b,c,?_,?_,by omega,by omega,by omega⟩
  ·split at e<;>omega
  ·split at e<;>omega
 ·rintro⟨a,b,c,e,f,g,h,i⟩;refine⟨⟨⟨⟨⟨⟨a,b⟩,c⟩,?_⟩,by omega⟩,by omega⟩,by omega⟩;split<;>omega
theorem Tk(d:Qq):Ug d=some (wU d):=by
 unfold Ug;rw[vZ _ (by simp[Fw]),vZ _<|by simp[Fw]];simp only[K1,QQ,wU];cases a:(Fw 8 d.From.Woods).all ZI<;>cases b:(Fw 8 d.From.Places).all ZI<;>simp
def Vb(l:Q0 Qq):Int:=(l.map λd=>d.Amount).sum
def WV(l:Q0 Qq):Int:=(l.map λd=>d.Amount*d.Strength.Lo).sum
def UT(l:Q0 Qq):Int:=(l.map λd=>d.Amount*d.Strength.Hi).sum
theorem Lu(l:Q0 Qq)(d:Qq):Vb (l++[d])=Vb l+d.Amount:=by simp[Vb]
theorem NS(l:Q0 Qq)(d:Qq):WV (l++[d])=WV l+d.Amount*d.Strength.Lo:=by simp[WV]
theorem NT(l:Q0 Qq)(d:Qq):UT (l++[d])=UT l+d.Amount*d.Strength.Hi:=by simp[UT]
theorem FC{d:Qq}(h:dX d){x:Int}(a:0<=x)(b:x<=10000):0<=d.Amount*x/\d.Amount*x<=10737418240000:=by
 have c:=h.amt;constructor
 ·exact r7 qz a
 ·have:=eA c.2 b a qz;omega
theorem NM(l:Q0 Qq):(∀d∈l,dX d)->((l.length:Int)<=Vb l/\Vb l<=1073741824*l.length)/\(0<=WV l/\WV l<=UT l)/\UT l<=10737418240000*l.length/\UT l<=10000*Vb l:=by
 induction l using Cy with
 | niX=>intro _;simp[Vb,WV,UT]
 | snX l d b=>
  intro h;have a:=h d zh;obtain⟨e,f,g,i⟩:=b λx c=>h x (by simp[c]);rw[Lu,NS,NT,hN,ls,eI];have j:=a.amt;have hs:=a.str;have k:=FC a (x:=d.Strength.Lo) qz qz;have m:=FC a (x:=d.Strength.Hi) qz qz;have n:d.Amount*d.Strength.Lo<=d.Amount*d.Strength.Hi:=sp hs.2.1 qz;have o:d.Amount*d.Strength.Hi<=d.Amount*10000:=sp hs.2.2 qz;simp only[oA];refine⟨by omega,by omega,by omega,by omega⟩
def HF(b:QU):Bool:=b.Draughts.all wU&&QV (b.Draughts.length:Int) 1 16&&QV b.Water 0 17179869184&&Ka b.Shrink 1000
structure Valid(b:QU):Prop where
 ds:∀d∈b.Draughts,dX d
 len:1<=b.Draughts.length/\b.Draughts.length<=16
 water:0<=b.Water/\b.Water<=17179869184
 shrink:0<=b.Shrink.Lo/\b.Shrink.Lo<=b.Shrink.Hi/\b.Shrink.Hi<=1000
theorem FN(b:QU):HF b=true↔Valid b:=by
 simp only[HF,BY,If,O6,QV,Ka,AT,eY];constructor
 ·rintro⟨⟨⟨a,d⟩,c⟩,e⟩;exact⟨a,by omega,c,by omega⟩
 ·rintro⟨a,d,c,e⟩;exact⟨⟨⟨a,by omega⟩,c⟩,by omega⟩
theorem Ob(b:QU)(k:b.Draughts.length<=1000):∃x,WQ b=some (x,HF b)/\(HF b=true->x=Qf.mk b (Vb b.Draughts) (WV b.Draughts) (UT b.Draughts)):=by
 unfold WQ
 have key:(∃x,ZT (JF b) (0,Qf.mk b 0 0 0)=some (.inr (x,false))/\b.Draughts.all wU=false)∨(ZT (JF b) (0,Qf.mk b 0 0 0)=some (.inl<|Qf.mk b (Vb b.Draughts) (WV b.Draughts)<|UT b.Draughts)/\b.Draughts.all wU=true):=by
  have go:∀(post pre:Q0 Qq),b.Draughts=pre++post->(∀d∈pre,dX d)->(∃x,ZT (JF b) ((pre.length:Int),Qf.mk b (Vb pre) (WV pre)<|UT pre)=some (.inr (x,false))/\b.Draughts.all wU=false)∨(ZT (JF b) ((pre.length:Int),Qf.mk b (Vb pre) (WV pre)<|UT pre)=some (.inl<|Qf.mk b (Vb b.Draughts) (WV b.Draughts)<|UT b.Draughts)/\b.Draughts.all wU=true):=by
   intro post
   induction post with
   | nil=>
    intro pre e h;rw[mf] at e
    right;rw[<-e] at h ⊢
    refine⟨?_,by rw[If];exact λd f=>(O6 d).2<|h d f⟩;rw[ZJ];unfold JF;simp
   | cons d post m=>
    intro pre e h;have l:=Vm e;have hi:=Xq e;cases f:wU d with
    | false=>
     left
     have i:JF b ((pre.length:Int),Qf.mk b (Vb pre) (WV pre)<|UT pre)=some (.done<|.inr (Qf.mk b (Vb pre) (WV pre)<|UT pre,false)):=by
      unfold JF;simp only[Zy,l,K1,QQ,Tk,f];simp only[show(decide<|(pre.length:Int) < (b.Draughts.length:Int))=true by simpa using hi,B3];simp
     refine⟨Qf.mk b (Vb pre) (WV pre)<|UT pre,?_,?_⟩
     ·rw[ZJ,i]
     ·rw[e,lJ,s8,f];simp
    | true=>
     have c:=(O6 d).1 f;have hs:=c.str;obtain⟨o,p,q,_⟩:=NM pre h;have r:=FC c (x:=d.Strength.Lo) qz qz;have s:=FC c (x:=d.Strength.Hi) qz qz;have t:=c.amt
     have:=m (pre++[d]) (by rw[e];simp) λx g=>by
      rcases mn.1 g with g | g
      ·exact h x g
      ·simp only[nt] at g;subst g;exact c
     have i:JF b ((pre.length:Int),Qf.mk b (Vb pre) (WV pre)<|UT pre)=some (.next (((pre++[d]).length:Int),Qf.mk b (Vb<|pre++[d]) (WV<|pre++[d])<|UT<|pre++[d])):=by
      unfold JF;rw[Lu,NS,NT,hN,ls,eI];simp only[Zy,l,K1,QQ,Tk,f];simp only[show(decide<|(pre.length:Int) < (b.Draughts.length:Int))=true by simpa using hi,B3];rw[Qi (n:=d.Amount*d.Strength.Lo) qz qz,Qi (n:=d.Amount*d.Strength.Hi) qz qz,Qi (n:=(pre.length:Int)+1) qz qz,Qi (n:=Vb pre+d.Amount) qz qz,Qi (n:=WV pre+d.Amount*d.Strength.Lo) qz qz,Qi (n:=UT pre+d.Amount*d.Strength.Hi) qz qz];simp
     rw[ZJ,i];exact this
  exact go b.Draughts [] rfl zh
 rcases key with⟨x,j,a⟩ | ⟨j,a⟩
 ·refine⟨x,ZQ j ?_,λh=> ?_⟩
  ·simp only[HF,a,eB]
  ·simp only[HF,a,eB] at h;cases h
 ·refine⟨Qf.mk b (Vb b.Draughts) (WV b.Draughts)<|UT b.Draughts,ZQ j ?_,λ_=>rfl⟩;simp only[HF,a,rW];cases QV (b.Draughts.length:Int) 1 16<;>cases QV b.Water 0 17179869184<;>simp
end
section
open Go.Dec
variable{b:QU}{w:Int}
def vU(b:QU)(w:Int):QB:=QB.mk ((Vb b.Draughts+w)*(10000 - b.Shrink.Hi) / 10000) (((Vb b.Draughts+w)*(10000 - b.Shrink.Lo)+10000 - 1) / 10000)
def wh(b:QU)(w:Int):QB:=
 QB.mk (JY 10000<|WV b.Draughts*10000 / ((Vb b.Draughts+w)*(10000 - b.Shrink.Lo)))
  (JY 10000<|(UT b.Draughts*10000+(Vb b.Draughts+w)*(10000 - b.Shrink.Hi) - 1) / ((Vb b.Draughts+w)*(10000 - b.Shrink.Hi)))
structure cD(b:QU)(w:Int):Prop where
 a:1<=Vb b.Draughts/\Vb b.Draughts<=17179869184
 l:0<=WV b.Draughts/\WV b.Draughts<=UT b.Draughts/\UT b.Draughts<=171798691840000
 lh:UT b.Draughts<=10000*Vb b.Draughts
 small:9000<=(Vb b.Draughts+w)*(10000 - b.Shrink.Hi)/\(Vb b.Draughts+w)*(10000 - b.Shrink.Hi)<=343597383680000
 great:9000<=(Vb b.Draughts+w)*(10000 - b.Shrink.Lo)/\(Vb b.Draughts+w)*(10000 - b.Shrink.Lo)<=343597383680000
 le:(Vb b.Draughts+w)*(10000 - b.Shrink.Hi)<=(Vb b.Draughts+w)*(10000 - b.Shrink.Lo)
theorem bh(h:Valid b)(g:0<=w)(i:w<=17179869184):cD b w:=by
 obtain⟨j,k,l,e⟩:=NM b.Draughts h.ds;have m:=h.len;have hs:=h.shrink;have f:1<=Vb b.Draughts/\Vb b.Draughts<=17179869184:=by omega
 have d:∀x:Int,9000<=x->x<=10000->9000<=(Vb b.Draughts+w)*x/\(Vb b.Draughts+w)*x<=343597383680000:=by
  intro x a c;have n:1*9000<=(Vb b.Draughts+w)*x:=eA qz a qz qz;have o:(Vb b.Draughts+w)*x<=34359738368*10000:=eA qz c qz qz;omega
 exact⟨f,by omega,e,d _ qz qz,d _ qz qz,sp qz qz⟩
theorem Ln(h:Valid b)(d:0<=w)(e:w<=17179869184):YH (Qf.mk b (Vb b.Draughts) (WV b.Draughts)<|UT b.Draughts) w=some (vU b w):=by
 have c:=bh h d e;have f:=c.a;have g:=c.small;have i:=c.great;have hs:=h.shrink;unfold YH HM;simp only[QQ];rw[Qi (n:=Vb b.Draughts+w) qz qz,Qi (n:=10000 - b.Shrink.Lo) qz qz,Qi (n:=10000 - b.Shrink.Hi) qz qz];rw[Qi (n:=(Vb b.Draughts+w)*(10000 - b.Shrink.Lo)) qz qz,Qi (n:=(Vb b.Draughts+w)*(10000 - b.Shrink.Hi)) qz qz];rw[Qi (n:=(Vb b.Draughts+w)*(10000 - b.Shrink.Lo)+10000) qz qz,Qi (n:=(Vb b.Draughts+w)*(10000 - b.Shrink.Lo)+10000 - 1) qz qz];rw[Ns qz qz qz];simp only[K1];rw[mZ qz,Qi qz qz];rfl
theorem Il(h:Valid b)(d:0<=w)(e:w<=17179869184):Yj (Qf.mk b (Vb b.Draughts) (WV b.Draughts)<|UT b.Draughts) w=some (wh b w):=by
 have c:=bh h d e;have f:=c.a;have g:=c.small;have i:=c.great;have j:=c.l;have hs:=h.shrink;unfold Yj HM;simp only[QQ];rw[Qi (n:=Vb b.Draughts+w) qz qz,Qi (n:=10000 - b.Shrink.Lo) qz qz,Qi (n:=10000 - b.Shrink.Hi) qz qz];rw[Qi (n:=(Vb b.Draughts+w)*(10000 - b.Shrink.Lo)) qz qz,Qi (n:=(Vb b.Draughts+w)*(10000 - b.Shrink.Hi)) qz qz];rw[Qi (n:=WV b.Draughts*10000) qz qz,Qi (n:=UT b.Draughts*10000) qz qz];rw[Qi (n:=UT b.Draughts*10000+(Vb b.Draughts+w)*(10000 - b.Shrink.Hi)) qz qz,Qi (n:=UT b.Draughts*10000+(Vb b.Draughts+w)*(10000 - b.Shrink.Hi) - 1) qz qz];rw[Ns qz qz qz,Ns qz qz qz];rfl
def Dg(l:Q0 Qq)(f:Qq->Int):Int:=match l with
 | []=>0
 | d::r=>r.foldl (λm x=>JY m<|f x)<|f d
theorem yG{l:Q0 Qq}{d:Qq}{f:Qq->Int}(a:l≠[]):Dg (l++[d]) f=JY (Dg l f) (f d):=by
 cases l with
 | nil=>exact absurd rfl a
 | cons x r=>simp[Dg]
theorem MN(l:Q0 Qq)(f:Qq->Int)(a:l≠[])(h:l.length<=1000):Kk l (λd=>some<|f d)=some (Dg l f):=by
 cases l with
 | nil=>exact absurd rfl a
 | cons d r=>
  simp only[kn] at h
  unfold Kk;have e:ZW (d::r) 0=some d:=rfl
  have g:ZV (d::r) 1 ((d::r).length:Int)=some r:=by
   unfold ZV;rw[Bm (by simp only[kn];omega)];simp
  refine ZQ e<|ZQ rfl<|ZQ g ?_
  obtain⟨t',j,c⟩:=HN (body:=V6 (λd=>some<|f d) r) (λi (t:Int)=>(t,(i:Int))) (λt=>t) (λpre t=>t=Dg (d::pre) f) r
   (λpre x post t a k=>by
    have m:=Vm a;have hi:=Xq a;unfold V6;simp only[Zy,m,K1,QQ];rw[Qi qz qz];simp only[show(decide<|(pre.length:Int) < (r.length:Int))=true by simpa using hi,B3];refine⟨_,rfl,?_⟩;rw[<-s9,yG zh,k])
   (λt _=>by unfold V6;simp) r [] (f d) rfl rfl
  simp only[hF,fm] at c
  exact ZQ c<|by rw[j]
def LL(l:Q0 Qq):Q0 Int:=l.foldl (λacc d=>if d.From.Number∈acc then acc else acc++[d.From.Number]) []
theorem yF(l:Q0 Qq)(d:Qq):LL (l++[d])=if d.From.Number∈LL l then LL l else LL l++[d.From.Number]:=by
 unfold LL;rw[List.foldl_append];rfl
theorem RR(k:Int):∀ks:Q0 Int,Q4 (ks.map λx=>(x,true)) k true=(if k∈ks then ks else ks++[k]).map λx=>(x,true)
 | []=>by simp[Q4]
 | x::ks=>by
  simp only[Of,Q4];by_cases h:k=x
  ·subst h;simp
  ·have a:(k==x)=false:=by simpa using h
   simp only[a,H1,By];rw[RR k ks];by_cases c:k∈ks<;>simp[c,h]
theorem Mh(b:QU)(A L M:Int)(h:b.Draughts.length<=1000):Vy (Qf.mk b A L M)=some ((LL b.Draughts).length:Int):=by
 unfold Vy
 obtain⟨t',d,a⟩:=HN (body:=VB<|Qf.mk b A L M) (λi (t:Q0 (Int×Bool))=>(t,(i:Int))) (λt=>t) (λpre t=>t=(LL pre).map λx=>(x,true)) b.Draughts
  (λpre x post t c e=>by
   have f:=Vm c;have hi:=Xq c;unfold VB;simp only[Zy,f,K1,QQ];rw[Qi qz qz];simp only[show(decide<|(pre.length:Int) < (b.Draughts.length:Int))=true by simpa using hi,B3];refine⟨_,rfl,?_⟩;rw[e,RR,yF])
  (λt _=>by unfold VB;simp) b.Draughts [] [] rfl rfl
 simp only[hF,fm] at a
 exact ZQ a (by rw[d];simp)
structure jb(b:QU)(w:Int)(x:Qo):Prop where
 vol:x.Volume=vU b w
 str:x.Strength=wh b w
 age:x.Age=Dg b.Draughts λd=>d.From.Age
 woods:∀i,i < 8->x.Woods i=Dg b.Draughts λd=>d.From.Woods i
 places:∀i,i < 8->x.Places i=Dg b.Draughts λd=>d.From.Places i
 casks:x.Casks=((LL b.Draughts).length:Int)
theorem Lq{α:Type}(f:Nat->α)(i:Nat)(x:α):ZK f i x i=x:=by simp[ZK]
theorem NJ{α:Type}{f:Nat->α}{i j:Nat}{x:α}(h:j≠i):ZK f i x j=f j:=by
 have:Nat.beq j i=false:=by
  cases a:Nat.beq j i with
  | true=>exact absurd (kp a) h
  | false=>rfl
 simp[ZK,this]
theorem qW(h:Valid b):∃x,Yk (Qf.mk b (Vb b.Draughts) (WV b.Draughts)<|UT b.Draughts)=some x/\jb b b.Water x:=by
 have y:=h.len;have l:b.Draughts≠[]:=by intro e;rw[e] at y;simp at y
 unfold Yk;have C:=Ln h h.water.1 h.water.2;have D:=Il h h.water.1 h.water.2;have E:=Mh b (Vb b.Draughts) (WV b.Draughts) (UT b.Draughts) qz;have F:Kk b.Draughts (λx=>some<|Yz x)=some (Dg b.Draughts λd=>d.From.Age):=MN b.Draughts (λd=>d.From.Age) l qz;generalize a:({(Qo.mk (vU b b.Water) (wh b b.Water) 0 (λ_=>0) (λ_=>0) ((LL b.Draughts).length:Int)) with Age:=Dg b.Draughts λd=>d.From.Age}:Qo)=o
 obtain⟨m,⟨p,q⟩,z⟩:=H3 (body:=VA<|Qf.mk b (Vb b.Draughts) (WV b.Draughts)<|UT b.Draughts) (λi (t:Qo)=>((i:Int),t)) (λt=>t)
  (λn t=>(∀i,i < n->t.Woods i=Dg b.Draughts λd=>d.From.Woods i)/\∃f,t={o with Woods:=f}) 8
  (λi t hi ⟨r,f,s⟩=>by
   have u:Kk b.Draughts (λx=>Ki x (i:Int))=some (Dg b.Draughts λd=>d.From.Woods i):=by
    rw[show(λx=>Ki x (i:Int))=λx=>some (x.From.Woods i) from by
     funext x;unfold Ki;rw[GN hi];rfl]
    exact MN b.Draughts _ l qz
   refine⟨{t with Woods:=ZK t.Woods i (Dg b.Draughts λd=>d.From.Woods i)},?_,λj G=> ?_,?_⟩
   ·unfold VA;simp only[show(decide<|(i:Int) < 8)=true by simp;omega,B3];refine ZQ u<|ZQ (GN hi) ?_;simp only[QQ];rw[Qi qz qz];simp
   ·show ZK t.Woods i _ j=_;by_cases c:j=i
    ·subst c;exact Lq _ _ _
    ·rw[NJ c];exact r j qz
   ·exact⟨ZK t.Woods i<|Dg b.Draughts λd=>d.From.Woods i,by rw[s]⟩)
  (λt _=>by unfold VA;simp) 8 0 o rfl ⟨λi hi=>by omega,o.Woods,rfl⟩
 obtain⟨A,⟨v,I,g⟩,B⟩:=H3 (body:=Y8<|Qf.mk b (Vb b.Draughts) (WV b.Draughts)<|UT b.Draughts) (λi (t:Qo)=>((i:Int),t)) (λt=>t)
  (λn t=>(∀i,i < n->t.Places i=Dg b.Draughts λd=>d.From.Places i)/\∃f,t={m with Places:=f}) 8
  (λi t hi ⟨r,f,s⟩=>by
   have u:Kk b.Draughts (λx=>Kh x (i:Int))=some (Dg b.Draughts λd=>d.From.Places i):=by
    rw[show(λx=>Kh x (i:Int))=λx=>some (x.From.Places i) from by
     funext x;unfold Kh;rw[GN hi];rfl]
    exact MN b.Draughts _ l qz
   refine⟨{t with Places:=ZK t.Places i (Dg b.Draughts λd=>d.From.Places i)},?_,λj G=> ?_,?_⟩
   ·unfold Y8;simp only[show(decide<|(i:Int) < 8)=true by simp;omega,B3];refine ZQ u<|ZQ (GN hi) ?_;simp only[QQ];rw[Qi qz qz];simp
   ·show ZK t.Places i _ j=_;by_cases c:j=i
    ·subst c;exact Lq _ _ _
    ·rw[NJ c];exact r j qz
   ·exact⟨ZK t.Places i<|Dg b.Draughts λd=>d.From.Places i,by rw[s]⟩)
  (λt _=>by unfold Y8;simp) 8 0 m rfl ⟨λi hi=>by omega,m.Places,rfl⟩
 simp only[fm] at z B
 obtain⟨K,k⟩:=q;refine⟨A,?_,?_⟩
 ·refine ZQ C<|ZQ D<|ZQ E<|ZQ F ?_;simp only[QQ];rw[a];exact ZQ z<|ZQ B rfl
 ·have H:A.Woods=m.Woods:=by rw[g]
  refine⟨by rw[g,k,<-a],by rw[g,k,<-a],by rw[g,k,<-a],λi hi=>by rw[H];exact p i hi,v,by rw[g,k,<-a]⟩
theorem kY(b:QU)(a:b.Draughts.length<=1000):(HF b=false/\V0 b=some (Qo.mk (QB.mk 0 0) (QB.mk 0 0) 0 (λ_=>0) (λ_=>0) 0,1))∨(Valid b/\∃x,V0 b=some (x,0)/\jb b b.Water x):=by
 obtain⟨x,he,d⟩:=Ob b a;unfold V0;cases c:HF b with
 | false=>
  refine .inl ⟨rfl,ZQ he ?_⟩;rw[c];rfl
 | true=>
  have h:=(FN b).1 c;obtain⟨y,e,f⟩:=qW h;refine .inr ⟨h,y,ZQ he ?_,f⟩;rw[c,d c];simp only[RK,H1,By];exact ZQ e rfl
end
section
open Go.Dec
def DY(c:Qt):Bool:=
 if c.Kind==0 then ZI c.Number else if c.Kind==1 then ZI c.Number&&QV c.What 0 7 else if c.Kind==2 then ZI c.Number&&QV c.What 0 7 else
 if c.Kind==7 then JM c.What&&JM c.Number else QV c.Kind 0 7
theorem kI(c:Qt):Wj c=some (DY c):=by
 unfold Wj DY
 repeat' split
 all_goals rfl
structure gO(c:Qt):Prop where
 kind:0<=c.Kind/\c.Kind<=7
 what:c.Kind=1∨c.Kind=2->0<=c.What/\c.What<=7
 str:c.Kind=7->(0<=c.What/\c.What<=10000)/\0<=c.Number/\c.Number<=10000
theorem gO.of{c:Qt}(h:DY c=true):gO c:=by
 unfold DY at h
 simp only[mb,QV,JM] at h
 repeat' split at h
 all_goals simp only[BY,AT,eY,R9] at h
 all_goals exact⟨by omega,λh=>by omega,λh=>by omega⟩
theorem LO(s:Q0 Qt)(f:Qt->Bool)(c:s.length<=1000000):JR s (λx=>some<|f x)=some (s.any f):=by
 unfold JR Vq
 have key:=G7 (body:=Jq s λx=>some<|f x) (λi (_:Unit)=>(i:Int)) (λ_ x=>if f x then 1 else 0) (λi _=>.inr (i:Int)) (λ_=>.inl ()) (λ_ _=>True) s
  (λpre x post t c j l=>by
   have m:=Vm c;have hi:=Xq c;unfold Jq;simp only[Zy,m,K1];rw[Qi qz qz];simp only[show(decide<|(pre.length:Int) < (s.length:Int))=true by simpa using hi,B3];cases k:f x with
   | true=>left;simp
   | false=>right;exact⟨by simp,(),by simp⟩)
  (λt _ _=>by unfold Jq;simp) s [] () rfl Wn.nil trivial
 simp only[hF,fm] at key
 rcases key with⟨p,x,⟨post,e,_,k⟩,d⟩ | ⟨j,t,l,d⟩
 ·have g:f x=true:=by
   cases h:f x with
   | true=>rfl
   | false=>simp[h] at k
  have:s.any f=true:=by rw[e,List.any_append,iH,g];simp
  rw[this];refine ZQ (ZQ d rfl) ?_;simp
 ·have:s.any f=false:=by
   rw[List.any_eq_false];intro y n;obtain⟨a,b,e⟩:=lT n;have:=j a y b e;intro h;simp[h] at this
  rw[this];exact ZQ (ZQ d rfl) zh
def GP(l:Q0 Qt):Bool:=decide ((l.length:Int)<=32)&&l.all DY
theorem T6(l:Q0 Qt):Uh l=some (GP l):=by
 unfold Uh GP;by_cases h:(l.length:Int)<=32
 ·have e:(λx=>Jm x)=λx=>some (!DY x):=by
   funext x;unfold Jm;rw[kI];rfl
  simp only[h,r6,B3,e];rw[LO l _ qz];simp only[K1,rW,UV];rw[lr];simp
 ·simp only[h,n1,H1,By,K1,eB]
def liesAt(p:Qt->Bool):Nat->Q0 Qt->Q0 Int
 | _,[]=>[]
 | i,c::l=>if p c then liesAt p (i+1) l else(i:Int)::liesAt p (i+1) l
theorem AX(p:Qt->Bool):∀(l k:Q0 Qt) (i:Nat),liesAt p i (l++k)=liesAt p i l++liesAt p (i+l.length) k
 | [],k,i=>by simp[liesAt]
 | c::l,k,i=>by
  simp only[s9,liesAt,kn,AX p l k<|i+1];rw[show i+1+l.length=i+(l.length+1) by omega];split<;>simp
theorem MM(p:Qt->Bool):∀(l:Q0 Qt) (i:Nat),(liesAt p i l).length<=l.length
 | [],i=>by simp[liesAt]
 | c::l,i=>by
  have:=MM p l<|i+1;simp only[liesAt];split<;>simp<;>omega
def DM(b:QU)(x:Qo)(c:Qt):Bool:=
 if c.Kind=0 then decide (x.Age≥c.Number) else if c.Kind=1 then decide (x.Woods c.What.toNat≥c.Number) else if c.Kind=2 then decide (x.Places c.What.toNat≥c.Number) else if c.Kind=3 then x.Casks==1 else
 if c.Kind=4 then b.Water==0 else if c.Kind=5 then !b.Filtered else if c.Kind=6 then !b.Coloured else decide (x.Strength.Lo≥c.What - c.Number)&&decide (x.Strength.Hi<=c.What+c.Number)
theorem S3{i:Int}{n:Nat}(a:0<=i)(b:i < n):VM n i=some i.toNat:=by
 unfold VM;rw[Bm ⟨a,b⟩]
theorem wc(b:QU)(A L M:Int)(x:Qo)(c:Qt)(h:gO c):((Yi<|ZF.mk (Qf.mk b A L M) x).bind λr=>(VM 8 c.Kind).bind λj=>(r j) c)=some (DM b x c):=by
 have f:=h.kind;unfold Yi;simp only[K1];rw[S3 qz qz];simp only[K1];have a:c.Kind=0∨c.Kind=1∨c.Kind=2∨c.Kind=3∨c.Kind=4∨c.Kind=5∨c.Kind=6∨c.Kind=7:=by omega
 unfold DM;rcases a with e | e | e | e | e | e | e | e
 ·rw[e];rfl
 ·have d:=h.what<|.inl e;rw[e];show Jw c _=_;unfold Jw;rw[S3 qz qz];rfl
 ·have d:=h.what<|.inr e;rw[e];show Jv c _=_;unfold Jv;rw[S3 qz qz];rfl
 ·rw[e];rfl
 ·rw[e];rfl
 ·rw[e];rfl
 ·rw[e];rfl
 ·have hs:=h.str e;rw[e];show some (Yy c _)=_;unfold Yy;rw[Qi qz qz,Qi qz qz];rfl
theorem xG(b:QU)(A L M:Int)(x:Qo)(l:Q0 Qt)(n:l.length<=1000)(h:∀c∈l,gO c):UN (ZF.mk (Qf.mk b A L M) x) l=some (liesAt (DM b x) 0 l):=by
 unfold UN;obtain⟨r,g⟩:∃r,Yi (ZF.mk (Qf.mk b A L M) x)=some r:=⟨_,rfl⟩;refine ZQ g ?_
 obtain⟨t',m,j⟩:=HN (body:=VY l r) (λi (t:Q0 Int)=>(t,(i:Int))) (λt=>t) (λpre t=>t=liesAt (DM b x) 0 pre) l
  (λpre c post t d e=>by
   have f:=Vm d;have hi:=Xq d;have a:=wc b A L M x c<|h c<|T2 f;rw[g] at a
   simp only[K1] at a
   have o:=(h c<|T2 f).kind;rw[S3 qz qz] at a
   simp only[K1] at a
   have k:=MM (DM b x) pre 0;unfold VY;simp only[Zy,f,K1];rw[Qi qz qz,S3 qz qz];simp only[show(decide<|(pre.length:Int) < (l.length:Int))=true by simpa using hi,B3,K1,a];rw[AX];simp only[liesAt,sf];cases p:DM b x c with
   | true=>exact⟨t,by simp,by simpa using e⟩
   | false=>
    refine⟨t++[(pre.length:Int)],?_,by rw[e];simp⟩;simp only[u0,B3];rw[TI (by rw[e];simp only[kn,hF];omega)];simp)
  (λt _=>by unfold VY;simp) l [] [] rfl rfl
 simp only[hF,fm] at j
 exact ZQ j<|by rw[m]
theorem kL(b:QU)(l:Q0 Qt)(j:b.Draughts.length<=1000)(k:l.length<=1000):((HF b&&GP l)=false/\Ui b l=some ([],1))∨(Valid b/\GP l=true/\(∀c∈l,gO c)/\∃x,jb b b.Water x/\V0 b=some (x,0)/\Ui b l=some (liesAt (DM b x) 0 l,0)):=by
 obtain⟨x,he,g⟩:=Ob b j;unfold Ui Hh V0;cases d:HF b with
 | false=>
  refine .inl ⟨rfl,?_⟩;rw[he,d];rfl
 | true=>
  cases e:GP l with
  | false=>
   refine .inl ⟨rfl,?_⟩;rw[he,d,T6,e];rfl
  | true=>
   have h:=(FN b).1 d;obtain⟨y,i,m⟩:=qW h
   have a:∀c∈l,gO c:=by
    simp only[GP,BY,If] at e
    exact λc f=>gO.of<|e.2 c f
   refine .inr ⟨h,rfl,a,y,m,?_,?_⟩
   ·refine ZQ he ?_;rw[d,g d];simp only[RK,H1,By];exact ZQ i rfl
   ·rw[he,d,T6,e,g d];simp only[K1,RK,H1,By,i];exact ZQ (xG b _ _ _ y l k a) rfl
end
end Go.Proofs.YtbjgigfhnlnbfaaGreatDoor.Bo
namespace Go.Proofs.YtbjgigfhnlnbfaaGreatDoor
section
open Go.Dec
def Rn(c:DO):Bool:=decide (48<=c.toNat)&&decide (c.toNat<=57)
def Ww(s:Q0 DO):Nat:=s.foldl (λn c=>10*n+(c.toNat - 48)) 0
def Fh(s:Q0 DO):Bool:= !(s==[])&&decide (s.length<=13)&&(!(s.head? ==some 48)||s==[48])&&s.all Rn
def xE(s:Q0 DO):Out Qn Int:=if Fh s then .ok (Ww s:Int) else .pan ⟨8⟩
theorem Ss(s:Q0 DO)(c:DO):Ww (s++[c])=10*Ww s+(c.toNat - 48):=by simp[Ww]
theorem wa(s:Q0 DO)(h:s.all Rn=true):Ww s < 10^s.length:=by
 induction s using Cy with
 | niX=>simp[Ww]
 | snX l x b=>
  rw[lJ,BY] at h
  have c:=b h.1
  have a:x.toNat<=57:=by
   have a:=h.2;simp only[s8,lf,mw,Rn,BY,AT] at a
   exact a.2
  rw[Ss,hN,ls,oT];omega
theorem ko{s:Q0 DO}(h:s.all Rn=true)(a:s.length<=13):Ww s < 10000000000000:=
 eZ (wa s h) (by
  have:=oF (show 0 < 10 by omega) a;omega)
theorem be(n:Int)(a:0<=n)(b:n<=255):IntKind.u8.wrap n=n:=by
 unfold IntKind.wrap;have:((2:Int)^IntKind.u8.bits)=256:=by decide
 simp[IntKind.bits,IntKind.signed] at*
 omega
theorem RQ(s:Q0 DO)(hs:s.length<=13):∀(post pre:Q0 DO),s=pre++post->pre.all Rn=true->
  ZT (UE s) ((Ww pre:Int),(pre.length:Int))=some (if post.all Rn then .inl (Ww s:Int) else .inr ⟨8⟩)
 | [],pre,e,f=>by
  rw[mf] at e;subst e
  rw[ZJ];unfold UE;simp[XN]
 | c::post,pre,e,f=>by
  have hi:pre.length < s.length:=by rw[e];simp
  have d:(XN s)[pre.length]? =some (c.toNat:Int):=by rw[e];simp[XN]
  have l:=ko f qz;have m:c.toNat < 256:=c.toNat_lt
  have b:UE s ((Ww pre:Int),(pre.length:Int))=some (if Rn c then .next ((Ww (pre++[c]):Int),((pre++[c]).length:Int)) else .done (.inr ⟨8⟩)):=by
   unfold UE;simp only[Zy,d,K1,QQ,Zf,show(decide<|(pre.length:Int) < ((XN s).length:Int))=true by simpa[XN] using hi,B3];by_cases a:Rn c=true
   ·have g:=a;simp only[Rn,BY,AT] at g
    have h:(!(decide ((48:Int)<=(c.toNat:Int))&&decide ((c.toNat:Int)<=57)))=false:=by simp;omega
    simp only[h,H1,By,Qw];rw[be _ qz qz,Qi (n:=10*(Ww pre:Int)) qz qz,Qi (n:=(c.toNat:Int) - 48) qz qz,Qi qz qz,Qi qz qz];have i:10*(Ww pre:Int)+((c.toNat:Int) - 48)=(Ww (pre++[c]):Int):=by rw[Ss];omega
    have j:(pre.length:Int)+1=((pre++[c]).length:Int):=by simp
    rw[i,j,a];rfl
   ·have h:(!(decide ((48:Int)<=(c.toNat:Int))&&decide ((c.toNat:Int)<=57)))=true:=by
     simp only[Rn,BY,AT] at a
     simp;omega
    simp only[h,B3,Qw];simp[a]
  rw[ZJ,b];cases a:Rn c with
  | false=>simp[a]
  | true=>
   have k:=RQ s hs post (pre++[c]) (by rw[e];simp) (by rw[lJ,f];simp[a]);simp only[B3,k];simp[a]
theorem RN(s:Q0 DO):Wz s=some (xE s):=by
 unfold Wz xE Fh;cases s with
 | nil=>rfl
 | cons c l=>
  by_cases a:(c::l).length<=13
  ·have b:((!((c::l)==([]:Q0 DO)))&&(decide<|((c::l).length:Int)<=13))=true:=by simp at a ⊢;omega
   simp only[b,B3];have g:ZW (c::l) 0=some c:=rfl;simp only[g,K1]
   have i:(((c.toNat:Int) != 48)||((c::l)==([48]:Q0 DO)))=(!((c::l).head? ==some 48)||(c::l)==[48]):=by
    congr 1;rw[lr];simp only[o5,o7,ne_eq,r8,la,UV];constructor
    ·intro h e;subst e;exact h rfl
    ·intro h e;exact h<|o1.1 (by rw[show(48:DO).toNat=48 from rfl];omega)
   rw[i];have d:(!((c::l)==([]:Q0 DO))&&decide ((c::l).length<=13))=true:=by simp at a ⊢;omega
   simp only[d,rW];have j:YB ([]:Q0 DO) (c::l)=some (c::l):=by unfold YB;rw[Bm (by simp at a ⊢;omega)];rfl
   cases k:(!((c::l).head? ==some 48)||(c::l)==[48]) with
   | false=>simp[Zf,Qw]
   | true=>
    have f:=RQ (c::l) a (c::l) [] rfl rfl;simp only[hF,fm,show(Ww []:Int)=0 from rfl] at f
    simp only[Zf,Qw,RK,H1,By,j,K1,f,rW];cases(c::l).all Rn<;>rfl
  ·have b:((!((c::l)==([]:Q0 DO)))&&(decide<|((c::l).length:Int)<=13))=false:=by simp at a ⊢;omega
   have d:(!((c::l)==([]:Q0 DO))&&decide ((c::l).length<=13))=false:=by simp at a ⊢;omega
   simp only[b,d,H1,By,K1,Zf,u0,B3,Qw,eB]
def Jg:Q0 DO->Q0 (Q0 DO)
 | []=>[[]]
 | c::l=>if c==32 then[]::Jg l else match Jg l with
  | []=>[[c]]
  | p::ps=>(c::p)::ps
theorem Nb:∀(s:Q0 DO),Jg s≠[]
 | []=>by simp[Jg]
 | c::l=>by
  unfold Jg;split
  ·simp
  ·split<;>simp
theorem Em:∀(s:Q0 DO),(Go.Lib.index s [32]= -1/\Jg s=[s])∨(∃i:Nat,Go.Lib.index s [32]=i/\i < s.length/\Jg s=s.take i::Jg (s.drop<|i+1))
 | []=>.inl ⟨rfl,rfl⟩
 | c::l=>by
  by_cases a:c=32
  ·subst a;exact .inr ⟨0,rfl,by simp,by simp[Jg]⟩
  ·have e:([32]:Q0 DO).isPrefixOf (c::l)=false:=by
    simp only[List.isPrefixOf,mw,la,ne_eq];exact λh=>a h.symm
   have f:(c==32)=false:=by simpa using a
   rcases Em l with⟨b,d⟩ | ⟨i,b,d,g⟩
   ·refine .inl ⟨?_,?_⟩
    ·unfold Go.Lib.index;rw[e,b];rfl
    ·simp[Jg,f,d]
   ·refine .inr ⟨i+1,?_,by simpa using d,?_⟩
    ·unfold Go.Lib.index;rw[e,b];have:((i:Int)== -1)=false:=by rw[la];omega
     simp[this]
    ·simp[Jg,f,g]
def Hb(s:Q0 DO):Out Qn (Q0 DO×Q0 Int):=match Jg s with
 | []=>.pan ⟨8⟩
 | w::ps=>if ps.all Fh then .ok (w,ps.map λp=>(Ww p:Int)) else .pan ⟨8⟩
theorem EM(s:Q0 DO)(h:s.length<=1000000):(Jg s=[s]/\Jk ⟨s⟩ ()=some (s,false,⟨[]⟩))∨(∃p r,p.length+r.length < s.length/\Jg s=p::Jg r/\Jk ⟨s⟩ ()=some (p,true,⟨r⟩)):=by
 unfold Jk H9;simp only[show s.length < 4294967281 by omega,B3,K1,Go.Lib.cut];rcases Em s with⟨a,b⟩ | ⟨i,a,b,c⟩
 ·exact .inl ⟨b,by rw[a];rfl⟩
 ·refine .inr ⟨s.take i,s.drop<|i+1,by simp;omega,c,?_⟩;rw[a];simp
theorem EB:∀(k:Nat) (s:Q0 DO) (acc:Q0 Int),s.length<=k->s.length<=1000000->acc.length+s.length<=1000000->
  ZT (KJ ()) (acc,true,⟨s⟩)=some (if(Jg s).all Fh then .inl (acc++(Jg s).map (λp=>(Ww p:Int)),⟨[]⟩) else .inr ⟨8⟩)
 | k,s,acc,i,h,j=>by
  have d:∀x:Int,YB acc [x]=some (acc++[x]):=λx=>by unfold YB;rw[Bm zg]
  have e:∀a:Q0 Int,ZT (KJ ()) (a,false,⟨[]⟩)=some (.inl (a,⟨[]⟩)):=λa=>by rw[ZJ];rfl
  rcases EM s h with⟨f,g⟩ | ⟨p,r,l,f,g⟩
  ·have b:KJ () (acc,true,⟨s⟩)=some (if Fh s then .next (acc++[(Ww s:Int)],false,⟨[]⟩) else .done (.inr ⟨8⟩)):=by
    unfold KJ;simp only[B3,g,K1,RN,xE];cases c:Fh s<;>simp[Qw,d]
   rw[ZJ,b,f];cases c:Fh s<;>simp[c,e]
  ·have b:KJ () (acc,true,⟨s⟩)=some (if Fh p then .next (acc++[(Ww p:Int)],true,⟨r⟩) else .done (.inr ⟨8⟩)):=by
    unfold KJ;simp only[B3,g,K1,RN,xE];cases c:Fh p<;>simp[Qw,d]
   rw[ZJ,b,f];cases c:Fh p with
   | false=>simp[c]
   | true=>
    cases k with
    | zero=>omega
    | succ k=>
     simp only[B3,EB k r (acc++[(Ww p:Int)]) qz qz zg];simp[c]
theorem j1(s:Q0 DO)(h:s.length<=100000):Vv ⟨s⟩ ()=some (match Hb s with | .ok r=>.ok (r.1,r.2,⟨[]⟩) | .pan e=>.pan e):=by
 unfold Vv Hb;rcases EM s qz with⟨a,b⟩ | ⟨p,r,c,a,b⟩
 ·simp only[b,K1,a];rw[ZJ];unfold KJ;simp
 ·simp only[b,K1,a];rw[EB r.length r [] (S2 _) qz zg];cases d:(Jg r).all Fh<;>simp
def Dk:Nat->Nat->Q0 DO
 | 0,_=>[]
 | k+1,u=>if u < 10 then[UInt8.ofNat<|48+u] else Dk k (u / 10)++[UInt8.ofNat<|48+u%10]
theorem Tr:∀(k u:Nat),u < 10^k->0 < k->Dk k u=Go.Lib.decDigits u
 | 0,u,_,h=>absurd h (iG 0)
 | k+1,u,h,_=>by
  rw[Go.Lib.decDigits];unfold Dk;by_cases a:u < 10
  ·rw[Bm a,dif_pos a]
  ·rw[B2 a,dif_neg a];rw[oT] at h
   cases k with
   | zero=>omega
   | succ k=>rw[Tr (k+1) (u / 10) qz qz]
def WW(n:Int):Q0 DO:=if n < 0 then 45::Dk 20 n.natAbs else Dk 20 n.toNat
def IU(n:Int):Bool:=decide (-9223372036854775808<=n)&&decide (n<=9223372036854775807)
theorem yM{n:Int}(h:IU n=true):XU n=some (WW n):=by
 simp only[IU,BY,AT] at h
 unfold XU WW Go.Lib.itoa;rw[Bm h];congr 1;split
 ·rw[Tr _ _ qz qz]
 ·rw[Tr _ _ qz qz]
theorem H6{s t:Q0 DO}(h:s.length+t.length<=4294967296):SP s t=some (s++t):=by unfold SP;rw[Bm h]
theorem SL:∀(k u:Nat),(Dk k u).length<=k
 | 0,_=>S2 _
 | k+1,u=>by
  unfold Dk;split
  ·simp
  ·have:=SL k<|u / 10;simp;omega
theorem FH(n:Int):(WW n).length<=21:=by
 unfold WW;split
 ·have:=SL 20 n.natAbs;simp;omega
 ·have:=SL 20 n.toNat;omega
def HE(word:Q0 DO)(l:Q0 Int):Q0 DO:=word++l.flatMap λn=>32::WW n
theorem P8(w:Q0 DO)(l:Q0 Int)(x:Int):HE w (l++[x])=HE w l++32::WW x:=by simp[HE]
theorem NG(w:Q0 DO)(l:Q0 Int):(HE w l).length<=w.length+22*l.length:=by
 induction l using Cy with
 | niX=>simp[HE]
 | snX l x a=>have:=FH x;rw[P8];simp;omega
theorem No{w:Q0 DO}{l:Q0 Int}(g:w.length<=1000)(j:l.length<=100000)(h:l.all IU=true):Jj w l=some (HE w l):=by
 unfold Jj;rw[H6 zg]
 obtain⟨t,a,b⟩:=HN (body:=Xg l) (λi (t:Q0 DO)=>((i:Int),t)) (λt=>t) (λpre t=>t=HE w pre) l
  (λpre x post t e a=>by
   have c:=Vm e;have hi:=Xq e;have d:IU x=true:=by rw[e,lJ,s8] at h;simp only[BY] at h;exact h.2.1
   have k:=NG w pre;have m:=FH x;subst a;refine⟨HE w<|pre++[x],?_,rfl⟩;unfold Xg;simp only[Zy,c,K1,show(decide<|(pre.length:Int) < (l.length:Int))=true by simpa using hi,B3];rw[H6 zg,K1,yM d,K1,H6 zg,K1,Qi qz qz,P8];simp)
  (λt _=>by unfold Xg;simp) l [] (HE w []) rfl rfl
 simp only[hF,fm] at b
 have f:HE w []=w:=by simp[HE]
 rw[f] at b
 simp only[me,K1];exact ZQ b<|by rw[a]
end
section
open Go.Dec
variable{α β:Type}{l:Q0 QH}{m p:Q2 α}
def Le(p m:Q2 α):Prop:=∀x,p=some x->m=some x
theorem Le.rfl:Le p p:=λ_ h=>h
theorem Le.of(h:m=p):Le p m:=λ_ e=>h.trans e
theorem Le.none:Le .none m:=λ_ e=>by cases e
theorem Le.bind{α β:Type}{p m:Q2 α}{f g:α->Q2 β}(h:Le p m)(k:∀x,Le (f x)<|g x):Le (p.bind f) (m.bind g):=by
 intro y e;cases a:p with
 | none=>rw[a] at e;cases e
 | some x=>rw[a] at e;rw[h x a];exact k x y e
theorem Le.cO{p:Q2 β}{g:α->Q2 β}(x:α)(h:m=some x)(k:Le p (g x)):Le p (m.bind g):=by rw[h];exact k
theorem Le.ite{c:Bool}{a b d b' :Q2 α}(h:Le a d)(h' :Le b b'):Le (if c then a else b) (if c then d else b'):=by cases c<;>assumption
theorem Le.guard{c:Prop}[Decidable c]{a b:Q2 α}(h:c->Le a b):Le (if c then a else .none) b:=by
 by_cases d:c
 ·rw[Bm d];exact h d
 ·rw[B2 d];exact Le.none
abbrev RO(α:Type):=Q2<|Out Qn α
abbrev RL:=RO<|Q0 DO×QA
def V8(b:Bool)(e:Int)(k:RO β):RO β:=if b then k else some (.pan ⟨e⟩)
def HU(x:RO α)(k:α->RO β):RO β:=Qw x (λq=>some<|.pan q) k
theorem Sx(b:Bool)(e:Int):Zf b e=some (if b then .ok () else .pan ⟨e⟩):=by cases b<;>rfl
theorem Tu(e:Int):KT e=some (if e==0 then .ok () else .pan ⟨e⟩):=by
 unfold KT;rw[Sx];cases e==0<;>rfl
theorem Le.sU{b:Bool}{e:Int}{p:RO β}{g:Unit->RO β}(h:Le p (g ())):Le (V8 b e p) (Qw (Zf b e) (λq=>some<|.pan q) g):=by
 rw[Sx];cases b
 ·exact Le.rfl
 ·exact h
theorem Le.check{e:Int}{p:RO β}{g:Unit->RO β}(h:Le p (g ())):Le (V8 (e==0) e p) (Qw (KT e) (λq=>some<|.pan q) g):=by
 rw[Tu];unfold V8;cases e==0
 ·exact Le.rfl
 ·exact h
theorem Le.sX{p m:RO α}{f g:α->RO β}(h:Le p m)(k:∀x,Le (f x)<|g x):Le (HU p f) (Qw m (λq=>some<|.pan q) g):=by
 intro y e;unfold HU at e
 cases a:p with
 | none=>rw[a] at e;cases e
 | some x=>
  rw[a] at e;rw[h x a]
  cases x with
  | ok x=>exact k x y e
  | pan q=>exact e
theorem Ut{l k:Q0 α}(h:l.length+k.length<=4000000):YB l k=some (l++k):=by unfold YB;rw[Bm qz]
def CX(L:QA)(x:QE):RO QA:=if L.casks.length<=1000000 then V8 ((Ca.T7 (L.casks++[{x with Day:=L.day}]) L.day).2.2==0) (Ca.T7 (L.casks++[{x with Day:=L.day}]) L.day).2.2 (some<|.ok {L with casks:=L.casks++[{x with Day:=L.day}]}) else none
theorem FA(L:QA)(x:QE):Le (CX L x) (Za L () x):=by
 refine Le.guard λh=> ?_;unfold Za;simp only[QQ];refine Le.cO _ (Ut zg)<|Le.cO _ (Ca.AB _ _)<|Le.check Le.rfl
def atR(L:QA)(c:Int):ZU×Int:=Ca.Cw L.casks c L.day
theorem Et(L:QA)(c:Int):KX L () c=some (atR L c):=by
 unfold KX;rw[Ca.xv];rfl
def DR(r:Ql)(l:Q0 QM)(day:Int):Q3×Int×Int:=Ex.xA<|Ex.JZ r l day
def BR(L:QA)(x:QM):RO QA:=match L.rules with
 | none=>none
 | some r=>if r.Rates.length<=1000000/\L.duties.length<=1000000 then V8 ((DR r (L.duties++[{x with Day:=L.day}]) L.day).2.2==0) (DR r (L.duties++[{x with Day:=L.day}]) L.day).2.2 (some<|.ok {L with duties:=L.duties++[{x with Day:=L.day}]}) else none
theorem Tq(L:QA)(x:QM):Le (BR L x) (KU L () x):=by
 unfold BR;cases a:L.rules with
 | none=>exact Le.none
 | some r=>
  refine Le.guard λh=> ?_;unfold KU;simp only[QQ];refine Le.cO _ (Ut zg) ?_;rw[a];simp only[K1];rw[Ex.AB h.1 qz];exact Le.check Le.rfl
def w6(l:Q0 QH):Q0 Int:=l.flatMap λe=>[e.First,e.Last+1]
open Bo in
def Um(P:Int->Bool)(pre:Q0 QH)(x:QH):Bool:=(x.First::w6 pre).all λn=> !decide (has x n)||P n
theorem uF(n:Int):∀(l:Q0 Int) (a:Int),a<=n->∃m,m<=n/\a<=m/\(m=a∨m∈l)/\∀p∈l,p<=n->p<=m
 | [],a,h=>⟨a,h,IN _,.inl rfl,by simp⟩
 | p::l,a,h=>by
  by_cases i:p<=n/\a<=p
  ·obtain⟨m,e,f,b,g⟩:=uF n l p i.1;refine⟨m,e,by omega,?_,?_⟩
   ·rcases b with b | b
    ·exact .inr<|by simp[b]
    ·exact .inr<|by simp[b]
   ·intro q c d;rcases Tc.1 c with rfl | c
    ·exact f
    ·exact g q c d
  ·obtain⟨m,e,f,b,g⟩:=uF n l a h;refine⟨m,e,f,?_,?_⟩
   ·rcases b with b | b
    ·exact .inl b
    ·exact .inr<|by simp[b]
   ·intro q c d;rcases Tc.1 c with rfl | c
    ·omega
    ·exact g q c d
open Bo in
theorem yc{n m:Int}:∀(l:Q0 QH),(∀e∈l,has e n↔has e m)->cur l n=cur l m:=by
 intro l
 induction l using Cy with
 | niX=>intro _;rfl
 | snX l x b=>
  intro h;rw[BT,BT,b λe he=>h e<|by simp[he]];have:=h x zh;by_cases a:has x n
  ·rw[Bm a,Bm<|this.1 a]
  ·rw[B2 a,B2 λk=>a<|this.2 k]
open Bo in
theorem jZ{P:Int->Bool}{pre:Q0 QH}{x:QH}(f:∀n m,cur pre n=cur pre m->P n=P m):Um P pre x=true↔∀n,has x n->P n=true:=by
 unfold Um;rw[If];constructor
 ·intro h n a;obtain⟨m,g,i,b,d⟩:=uF n (w6 pre) x.First a.1;have j:=h m (by rcases b with b | b<;>simp[b]);have c:has x m:=⟨i,ob g a.2⟩
  have e:cur pre n=cur pre m:=yc pre λe he=>by
   have k:e.First<=n->e.First<=m:=d e.First (by unfold w6;simp only[List.mem_flatMap];exact⟨e,he,by simp⟩);have o:e.Last+1<=n->e.Last+1<=m:=d (e.Last+1) (by unfold w6;simp only[List.mem_flatMap];exact⟨e,he,by simp⟩);unfold has;omega
  rw[f n m e];simpa[c] using j
 ·intro h n _;by_cases a:has x n
  ·simp[a,h n a]
  ·simp[a]
open Bo in
def qZ(l:Q0 QH)(n:Int):Bool:=match cur l n with | none=>false | some e=>e.Kind==0
open Bo in
theorem yQ{n:Int}:qZ l n=true↔hand l n:=by
 unfold qZ hand;cases cur l n<;>simp
open Bo in
def kM(pre:Q0 QH)(x:QH):Int:=if !xD x then 1 else if x.Kind==0 then(if Um (λn=>(cur pre n).isNone) pre x then 0 else 5) else if Um (qZ pre) pre x then 0 else 4
open Bo in
theorem O2(pre:Q0 QH)(x:QH):UD pre x=kM pre x:=by
 unfold UD kM;by_cases g:xD x=false
 ·rw[Bm g];simp[g]
 rw[B2 g];have i:xD x=true:=by simpa using g
 simp only[i,RK,H1,By];by_cases f:x.Kind=0
 ·have b:=jZ (P:=λn=>(cur pre n).isNone) (pre:=pre) (x:=x) λn m e=>by rw[e]
  simp only[Option.isNone_iff_eq_none] at b
  have d:(x.Kind==0)=true:=by simpa using f
  rw[d,Bm rfl,B2 (c:=x.Kind≠0/\_) λh=>h.1 f];by_cases a:x.Kind=0/\∃n,has x n/\cur pre n≠none
  ·rw[Bm a,B2];intro h;obtain⟨_,n,j,k⟩:=a;exact k<|b.1 h n j
  ·rw[B2 a,Bm];exact b.2 λn o=>lV λh=>a ⟨f,n,o,h⟩
 ·have b:=jZ (P:=qZ pre) (pre:=pre) (x:=x) λn m e=>by unfold qZ;rw[e]
  simp only[yQ] at b
  have d:(x.Kind==0)=false:=by simpa using f
  rw[d,B2 (c:=x.Kind=0/\_) λh=>f h.1];simp only[H1,By];by_cases a:x.Kind≠0/\∃n,has x n/\¬hand pre n
  ·rw[Bm a,B2];intro h;obtain⟨_,n,j,k⟩:=a;exact k<|b.1 h n j
  ·rw[B2 a,Bm];exact b.2 λn o=>lV λh=>a ⟨f,n,o,h⟩
def LR:Q0 QH->Q0 QH->Int
 | _,[]=>0
 | pre,x::l=>if kM pre x==0 then LR (pre++[x]) l else kM pre x
open Bo in
theorem ud{p:Q0 QH}{x:QH}(h:Sr UD l p x):∀(r q:Q0 QH),p=q++r->Wn UD p->LR q (l.drop q.length)=UD p x:=by
 obtain⟨post,rfl,_,c⟩:=h;intro r
 induction r with
 | nil=>
  intro q e _;rw[mf] at e
  subst e;have a:(p++x::post).drop p.length=x::post:=by simp
  rw[a];unfold LR;rw[<-O2];have:(UD p x==0)=false:=by simpa using c
  rw[this];rfl
 | cons y r d=>
  intro q e b
  have a:(p++x::post).drop q.length=y::(p++x::post).drop (q++[y]).length:=by
   rw[e];simp
  rw[a];unfold LR;rw[<-O2,b q y r e];exact d (q++[y]) (by rw[e];simp) b
open Bo in
theorem jR(h:Wn UD l):∀(r q:Q0 QH),l=q++r->LR q r=0
 | [],q,_=>rfl
 | y::r,q,e=>by
  unfold LR;rw[<-O2,h q y r e];exact jR h r (q++[y]) (by rw[e];simp)
def Hx(l:Q0 QH):Int:=LR [] l
open Bo in
theorem Al(l:Q0 QH)(h:l.length<=256):∃b i,YR l=some (b,i,Hx l)/\(Hx l=0->Wn UD l):=by
 rcases RD l h with⟨p,x,c,d⟩ | ⟨a,j,_,_,_,d⟩
 ·have a:Wn UD p:=by obtain⟨post,e,a,_⟩:=c;exact a
  have e:Hx l=UD p x:=ud c p [] rfl a;rw[e];exact⟨_,_,d,λf=>by obtain⟨post,_,_,g⟩:=c;exact absurd f g⟩
 ·have e:Hx l=0:=jR a l [] rfl;rw[e];exact⟨_,_,d,λ_=>a⟩
def PG(L:QA)(x:QH):RO QA:=if L.stamps.length < 256 then V8 (Hx (L.stamps++[x])==0) (Hx<|L.stamps++[x]) (some<|.ok {L with stamps:=L.stamps++[x]}) else none
theorem NZ(L:QA)(x:QH):Le (PG L x) (K8 L () x):=by
 refine Le.guard λh=> ?_;unfold K8;refine Le.cO _ (Ut zg) ?_;obtain⟨b,i,a,_⟩:=Al (L.stamps++[x]) zg;refine Le.cO _ a<|Le.check Le.rfl
end
section
open Go.Dec
abbrev E9:Q0 DO:=[111,107]
def qI(L:QA):RL:=some<|.ok (E9,L)
def gz(L:QA):Q0 Int->RL
 | [d]=>V8 (decide<|d<=65536) 2 (V8 (decide<|d≥L.day) 7<|qI {L with day:=d})
 | _=>none
theorem gy(L:QA)(n:Q0 Int):Le (gz L n) (Kb L () n):=by
 rcases n with _ | ⟨d,_ | ⟨_,_⟩⟩
 ·exact Le.none
 ·unfold Kb;exact Le.cO d rfl<|Le.sU<|Le.cO d rfl<|Le.sU<|Le.cO d rfl Le.rfl
 ·exact Le.none
def XT:Q0 Int->Q2 (Q0<|Int×Int)
 | []=>some []
 | [_]=>none
 | a::b::l=>(XT l).map ((a,b):: ·)
def zY:Q0 Int->Q0 (Q0 Int)
 | []=>[]
 | [a]=>[[a]]
 | a::b::l=>[a,b]::zY l
theorem Me(l:Q0 Int):∀(d a:Nat),l.length<=a+2*d->SN 2 l d a=zY (l.drop a)
 | 0,a,h=>by
  have:l.drop a=[]:=j0 qz;rw[this];rfl
 | d+1,a,h=>by
  unfold SN;have c:=Me l d (a+2) qz;by_cases b:a < l.length
  ·rw[Bm b,c];have e:l.drop (a+2)=(l.drop a).drop 2:=by rw[eL]
   rw[e];rcases hd:l.drop a with _ | ⟨x,_ | ⟨y,r⟩⟩
   ·have:(l.drop a).length=l.length - a:=lO;rw[hd] at this
    simp at this
    omega
   ·rfl
   ·rfl
  ·rw[B2 b];have:l.drop a=[]:=j0 qz;rw[this];rfl
theorem Mf(l:Q0 Int)(h:l.length<=1000000):Vf l 2=some (zY l):=by
 unfold Vf WM;simp only[show decide ((2:Int) < 1)=false by decide,H1,By,K1];rw[Bm qz];have:=Me l l.length 0 qz;rw[show((2:Int).toNat)=2 from rfl,this];rfl
theorem Fg:∀{l:Q0 Int} {ps:Q0 (Int×Int)},XT l=some ps->zY l=ps.map (λp=>[p.1,p.2])/\2*ps.length=l.length
 | [],ps,h=>by simp only[XT,UV] at h;subst h;exact⟨rfl,rfl⟩
 | [_],ps,h=>by cases h
 | a::b::l,ps,h=>by
  simp only[XT,mo] at h
  obtain⟨e,c,rfl⟩:=h;obtain⟨d,f⟩:=Fg c;exact⟨by simp[zY,d],by simp;omega⟩
theorem Nq(r:Ql):∀(ps:Q0 (Int×Int)) (acc:Q0 Z4),acc.length+ps.length<=1000000->
  Y1 JT (ps.map λp=>[p.1,p.2]) {r with Rates:=acc}=some {r with Rates:=acc++ps.map λp=>⟨p.1,p.2⟩}
 | [],acc,_=>by simp[Y1]
 | p::ps,acc,h=>by
  simp only[Of,Y1]
  have a:JT [p.1,p.2] {r with Rates:=acc}=some {r with Rates:=acc++[⟨p.1,p.2⟩]}:=by
   unfold JT;have b:ZW [p.1,p.2] 0=some p.1:=rfl;have c:ZW [p.1,p.2] 1=some p.2:=rfl;simp only[b,c,K1];rw[Ut (by simp at h ⊢;omega)];rfl
  rw[a,K1,Nq r ps (acc++[(⟨p.1,p.2⟩:Z4)]) (by simp at h ⊢;omega)];simp
def X9(a b c:Int)(ps:Q0 (Int×Int)):Ql:=⟨ps.map λp=>⟨p.1,p.2⟩,a,b,c⟩
def Nk(L:QA):Q0 Int->RL
 | a::b::c::d=>if d.length<=1000000 then(XT d).bind λps=>V8 L.rules.isNone 5 (V8 (Ex.XJ<|X9 a b c ps) 1<|qI {L with rules:=some (X9 a b c ps)}) else none
 | _=>none
theorem vl(L:QA)(n:Q0 Int):Le (Nk L n) (KD L () n):=by
 rcases n with _ | ⟨a,_ | ⟨b,_ | ⟨c,d⟩⟩⟩
 ·exact Le.none
 ·exact Le.none
 ·exact Le.none
 refine Le.guard λh=> ?_;cases e:XT d with
 | none=>exact Le.none
 | some ps=>
  obtain⟨f,i⟩:=Fg e;unfold KD;simp only[K1];refine Le.sU<|Le.cO a rfl<|Le.cO b rfl<|Le.cO c rfl<|Le.cO d ?_<|Le.cO (zY d) (Mf d h) ?_
  ·unfold ZV;rw[Bm zg];simp only[hQ,kn,UV];exact OF zh
  rw[f];refine Le.cO (X9 a b c ps) ?_ ?_
  ·have:=Nq ⟨[],a,b,c⟩ ps [] zg;simpa[X9] using this
  refine Le.cO _ (Ex.vA (by simp[X9];omega)) ?_;cases j:Ex.XJ (X9 a b c ps) with
  | false=>simp only[u0,B3];rw[Tu];exact Le.rfl
  | true=>
   simp only[RK,H1,By];have g:(!Ex.Wa 0 0 17179869184|| !Ex.Wa 0 0 65536)=false:=by decide
   rw[g,Tu];exact Le.rfl
def uH(L:QA):Q0 Int->RL
 | [c,w,p,m,o]=>V8 (decide<|m<=1073741824) 2 (HU (CX L ⟨0,0,c,w,o,0,m,p⟩) qI)
 | _=>none
theorem xF(L:QA)(n:Q0 Int):Le (uH L n) (Kf L () n):=by
 rcases n with _ | ⟨c,_ | ⟨w,_ | ⟨p,_ | ⟨m,_ | ⟨o,_ | ⟨_,_⟩⟩⟩⟩⟩⟩
 iterate 5 exact Le.none
 ·unfold Kf;exact Le.cO m rfl<|Le.sU<|Le.cO c rfl<|Le.cO w rfl<|Le.cO p rfl<|Le.cO m rfl<|Le.cO o rfl<|Le.sX (FA _ _) λ_=>Le.rfl
 ·exact Le.none
def Ze(L:QA)(c:Int):Int:=(Qb L.pure c).getD 0
def Uj(n s:Int):Int:=Qz<|Int.tdiv (Qz<|n*s) 10000
def filled(L:QA)(c pure:Int):RO QA:=if pure > 0 then HU (BR L ⟨0,0,(atR L c).1.Place,0,0,pure⟩) λa=>some (.ok {a with pure:=Q4 a.pure c (Qz<|Ze a c+pure)}) else some<|.ok L
def ua(L:QA):Q0 Int->RL
 | [c,n,s]=>V8 (decide (1<=s)&&decide (s<=10000)) 2 (HU (CX L ⟨1,0,c,0,0,0,n,0⟩) λa=>HU (filled a c<|Uj n s) qI)
 | _=>none
theorem xS(L:QA)(n:Q0 Int):Le (ua L n) (Kr L () n):=by
 rcases n with _ | ⟨c,_ | ⟨n,_ | ⟨s,_ | ⟨_,_⟩⟩⟩⟩
 iterate 3 exact Le.none
 ·unfold Kr;refine Le.cO s rfl<|Le.cO (decide (1<=s)&&decide (s<=10000)) ?_<|Le.sU<|Le.cO c rfl<|Le.cO n rfl<|Le.sX (FA _ _) λb=>Le.cO n rfl<|Le.cO s rfl ?_
  ·cases h:decide (1<=s)<;>rfl
  simp only[QQ];unfold filled HU Uj Ze;by_cases d:Qz (Int.tdiv (Qz<|n*s) 10000) > 0
  ·simp only[d,r6,B3];rw[show ZW [c,n,s] 0=some c from rfl,K1,Et,K1];intro y e;cases a:BR b ⟨0,0,(atR b c).1.Place,0,0,Qz<|Int.tdiv (Qz<|n*s) 10000⟩ with
   | none=>rw[a] at e;cases e
   | some r=>
    rw[a] at e
    rw[Tq _ _ r a];cases r<;>exact e
  ·simp only[d,n1,H1,By];exact Le.rfl
 ·exact Le.none
def AU(L:QA)(c:ZU)(amount:Int):Q2 Int:=if amount==c.Amount then some (Ze L c.Number) else DC .i64 (Qz<|Ze L c.Number*amount) c.Amount
theorem k9(L:QA)(c:ZU)(amount:Int):Le (AU L c amount) (YE L () c amount):=by
 unfold AU YE;refine Le.ite Le.rfl<|Le.of ?_;unfold Ze;cases DC .i64 (Qz<|(Qb L.pure c.Number).getD 0*amount) c.Amount<;>rfl
def N9(L:QA)(fro to n:Int):RO QA:=if n==0||fro==to then some (.ok L) else HU (BR L ⟨1,0,fro,to,L.ids,n⟩) λa=>HU (BR a ⟨2,0,to,0,a.ids,n⟩) λb=>some<|.ok {b with ids:=Qz (b.ids+1)}
theorem jG(L:QA)(fro to n:Int):Le (N9 L fro to n) (YF L () fro to n):=by
 unfold YF;exact Le.ite Le.rfl<|Le.sX (Tq _ _) λ_=>Le.sX (Tq _ _) λ_=>Le.rfl
def WY(L:QA)(c v:Int):QA:={L with pure:=Q4 L.pure c v}
def vp(L:QA):Q0 Int->RL
 | [a,b,n]=>HU (CX L ⟨2,0,a,b,0,0,n,0⟩) λd=>(AU d (atR L a).1 n).bind λp=>HU (N9 d (atR L a).1.Place (atR L b).1.Place p) λc=>
  qI (WY (WY c a<|Qz<|Ze c a - p) b<|Qz<|Ze (WY c a<|Qz<|Ze c a - p) b+p)
 | _=>none
theorem wy(L:QA)(n:Q0 Int):Le (vp L n) (Kp L () n):=by
 rcases n with _ | ⟨a,_ | ⟨b,_ | ⟨n,_ | ⟨_,_⟩⟩⟩⟩
 iterate 3 exact Le.none
 ·unfold Kp;refine Le.cO a rfl<|Le.cO _ (Et _ _)<|Le.cO b rfl<|Le.cO _ (Et _ _)<|Le.cO a rfl<|Le.cO b rfl<|Le.cO n rfl<|Le.sX (FA _ _) λc=>Le.cO n rfl ?_;refine Le.bind (k9 _ _ _) λp=>Le.sX (jG _ _ _ _) λd=>Le.cO a rfl ?_;simp only[QQ];refine Le.cO b rfl Le.rfl
 ·exact Le.none
def kV(L:QA):Q0 Int->RL
 | [a,p]=>HU (CX L ⟨4,0,a,0,0,0,0,p⟩) λb=>HU (N9 b (atR L a).1.Place p<|Ze b a) qI
 | _=>none
theorem u9(L:QA)(n:Q0 Int):Le (kV L n) (Ke L () n):=by
 rcases n with _ | ⟨a,_ | ⟨p,_ | ⟨_,_⟩⟩⟩
 iterate 2 exact Le.none
 ·unfold Ke;exact Le.cO a rfl<|Le.cO _ (Et _ _)<|Le.cO a rfl<|Le.cO p rfl<|Le.sX (FA _ _) λb=>Le.cO p rfl<|Le.cO a rfl<|Le.sX (jG _ _ _ _) λc=>Le.rfl
 ·exact Le.none
def NK(k:Int)(L:QA):Q0 Int->RL
 | [c,p,t]=>HU (CX L ⟨k,0,c,0,p,t,0,0⟩) qI
 | _=>none
theorem wo(L:QA)(n:Q0 Int):Le (NK 5 L n) (Ko L () n):=by
 rcases n with _ | ⟨a,_ | ⟨b,_ | ⟨n,_ | ⟨_,_⟩⟩⟩⟩
 iterate 3 exact Le.none
 ·unfold Ko;exact Le.cO a rfl<|Le.cO b rfl<|Le.cO n rfl<|Le.sX (FA _ _) λ_=>Le.rfl
 ·exact Le.none
theorem j5(L:QA)(n:Q0 Int):Le (NK 6 L n) (KV L () n):=by
 rcases n with _ | ⟨a,_ | ⟨b,_ | ⟨n,_ | ⟨_,_⟩⟩⟩⟩
 iterate 3 exact Le.none
 ·unfold KV;exact Le.cO a rfl<|Le.cO b rfl<|Le.cO n rfl<|Le.sX (FA _ _) λ_=>Le.rfl
 ·exact Le.none
def uW(L:QA):Q0 Int->RL
 | [c,p]=>HU (CX L ⟨7,0,c,0,p,0,0,0⟩) qI
 | _=>none
theorem xP(L:QA)(n:Q0 Int):Le (uW L n) (Kq L () n):=by
 rcases n with _ | ⟨a,_ | ⟨p,_ | ⟨_,_⟩⟩⟩
 iterate 2 exact Le.none
 ·unfold Kq;exact Le.cO a rfl<|Le.cO p rfl<|Le.sX (FA _ _) λ_=>Le.rfl
 ·exact Le.none
def u6(L:QA):Q0 Int->RL
 | [c,w]=>HU (CX L ⟨8,0,c,0,0,0,0,w⟩) qI
 | _=>none
theorem xb(L:QA)(n:Q0 Int):Le (u6 L n) (Ks L () n):=by
 rcases n with _ | ⟨a,_ | ⟨p,_ | ⟨_,_⟩⟩⟩
 iterate 2 exact Le.none
 ·unfold Ks;exact Le.cO a rfl<|Le.cO p rfl<|Le.sX (FA _ _) λ_=>Le.rfl
 ·exact Le.none
def TW(k:Int)(L:QA):Q0 Int->RL
 | [a,b]=>HU (PG L ⟨k,a,b,0⟩) qI
 | _=>none
theorem uS(L:QA)(n:Q0 Int):Le (TW 0 L n) (Kd L () n):=by
 rcases n with _ | ⟨a,_ | ⟨p,_ | ⟨_,_⟩⟩⟩
 iterate 2 exact Le.none
 ·unfold Kd;exact Le.cO a rfl<|Le.cO p rfl<|Le.sX (NZ _ _) λ_=>Le.rfl
 ·exact Le.none
theorem vd(L:QA)(n:Q0 Int):Le (TW 2 L n) (Kc L () n):=by
 rcases n with _ | ⟨a,_ | ⟨p,_ | ⟨_,_⟩⟩⟩
 iterate 2 exact Le.none
 ·unfold Kc;exact Le.cO a rfl<|Le.cO p rfl<|Le.sX (NZ _ _) λ_=>Le.rfl
 ·exact Le.none
def Te(L:QA)(place num part:Int):RO QA:=if part > 0 then HU (BR L ⟨3,0,place,0,0,part⟩) λa=>some (.ok<|WY a num<|Qz<|Ze a num - part) else some<|.ok L
def BS(L:QA)(num amount:Int):RO (Qq×QA):=
 V8 ((atR L num).2==0) (atR L num).2 (HU (CX L ⟨3,0,num,0,0,0,amount,0⟩) λa=>(AU a (atR L num).1 amount).bind λp=>HU (Te a (atR L num).1.Place num p) λb=>
  (DC .i64 (Qz<|p*10000) amount).bind λlo=>(DC .i64 (Qz<|Qz (Qz (p*10000)+amount) - 1) amount).bind λhi=>some<|.ok (⟨(atR L num).1,amount,⟨lo,hi⟩⟩,b))
theorem kP(L:QA)(num amount:Int):Le (BS L num amount) (JH L () num amount):=by
 unfold JH;refine Le.cO _ (Et _ _)<|Le.check<|Le.sX (FA _ _) λc=>Le.bind (k9 _ _ _) λp=> ?_;unfold Te HU;by_cases b:p > 0
 ·simp only[b,r6,B3];intro y e;cases a:BR c ⟨3,0,(atR L num).1.Place,0,0,p⟩ with
  | none=>rw[a] at e;cases e
  | some r=>
   rw[a] at e
   rw[Tq _ _ r a];cases r<;>exact e
 ·simp only[b,n1,H1,By];exact Le.rfl
def Bx:Q0 (Int×Int)->QU->QA->RO (QU×QA)
 | [],b,L=>some (.ok (b,L))
 | x::xs,b,L=>HU (BS L x.1 x.2) λr=>if b.Draughts.length<=1000000 then Bx xs {b with Draughts:=b.Draughts++[r.1]} r.2 else none
theorem qm:∀(ps:Q0 (Int×Int)) (b:QU) (L:QA),Le (Bx ps b L) (LQ (VQ ()) (ps.map λp=>[p.1,p.2]) (b,L))
 | [],b,L=>Le.rfl
 | p::ps,b,L=>by
  simp only[Of,LQ,Bx];have d:VQ () [p.1,p.2] (b,L)=Qw (JH L () p.1 p.2) (λq=>some<|.pan q) λr=>(YB b.Draughts [r.1]).bind λl=>QQ {b with Draughts:=l} λx=>some (.ok (x,r.2)):=rfl;rw[d];intro y a;cases c:BS L p.1 p.2 with
  | none=>rw[c] at a;cases a
  | some r=>
   rw[c] at a
   rw[kP _ _ _ _ c];cases r with
   | pan q=>exact a
   | ok r=>
    by_cases h:b.Draughts.length<=1000000
    ·simp only[HU,Qw,Bm h] at a
     simp only[Qw,QQ];rw[Ut zg];exact qm ps _ _ y a
    ·simp only[HU,Qw,B2 h] at a;cases a
def vY(b:QU):Int:=Qz<|Int.tdiv (Bo.vU b b.Water).Lo 700
open Bo in
theorem Ph{b:QU}(c:b.Draughts.length<=1000)(a:HF b=true):∃k,X1 b 700=some (vY b,k,0):=by
 obtain⟨x,he,d⟩:=Ob b c;have h:=(FN b).1 a;unfold X1;rw[he,a,d a];have e:QV 700 1 1048576=true:=by decide
 simp only[K1,RK,H1,By,e];rw[Ln h h.water.1 h.water.2];exact⟨_,rfl⟩
def IC(L:QA):Q0 Int->RL
 | num::w::a::z::ds=>if ds.length<=1000000 then(XT ds).bind λps=>V8 (Qb L.batches num).isNone 5 (HU (Bx ps ⟨[],w,⟨0,0⟩,false,false⟩ L) λr=>
  if r.1.Draughts.length<=1000 then V8 (Bo.HF r.1) 1 (V8 (decide<|Qz (Qz (z - a)+1)<=vY r.1) 12<|HU (PG r.2 ⟨1,a,z,num⟩) λb=>qI {b with batches:=Q4 b.batches num r.1}) else none) else none
 | _=>none
theorem ym(L:QA)(n:Q0 Int):Le (IC L n) (KW L () n):=by
 rcases n with _ | ⟨num,_ | ⟨w,_ | ⟨a,_ | ⟨z,ds⟩⟩⟩⟩
 iterate 4 exact Le.none
 refine Le.guard λh=> ?_;cases f:XT ds with
 | none=>exact Le.none
 | some ps=>
  obtain⟨g,j⟩:=Fg f;unfold KW;simp only[K1,QQ];refine Le.cO num rfl<|Le.cO a rfl<|Le.cO z rfl ?_;have e:(!(Qb L.batches num).isSome)=(Qb L.batches num).isNone:=by cases Qb L.batches num<;>rfl
  rw[e];refine Le.sU<|Le.cO w rfl<|Le.cO ds ?_<|Le.cO (zY ds) (Mf ds h) ?_
  ·unfold ZV;rw[Bm zg];simp only[hQ,kn,UV];exact OF zh
  rw[g];refine Le.sX (qm _ _ _) λr=>Le.guard λd=> ?_;rcases Bo.kY r.1 d with⟨c,he⟩ | ⟨c,x,he,_⟩
  ·refine Le.cO _ he ?_;rw[c,Tu];exact Le.rfl
  ·have b:=(Bo.FN r.1).2 c;refine Le.cO _ he ?_;rw[b];obtain⟨k,i⟩:=Ph d b;refine Le.check (e:=0) ?_;refine Le.cO _ i ?_;exact Le.sU<|Le.sX (NZ _ _) λl=>Le.rfl
def gZ(L:QA):Q0 Int->RL
 | [a]=>HU (BR L ⟨6,0,0,0,0,a⟩) qI
 | _=>none
theorem gY(L:QA)(n:Q0 Int):Le (gZ L n) (K5 L () n):=by
 rcases n with _ | ⟨a,_ | ⟨_,_⟩⟩
 ·exact Le.none
 ·unfold K5;exact Le.cO a rfl<|Le.sX (Tq _ _) λ_=>Le.rfl
 ·exact Le.none
end
section
open Go.Dec
def LD(w:Q0 DO)(l:Q0 Int)(L:QA):RL:=if w.length<=1000/\l.length<=100000/\l.all IU=true then some (.ok (HE w l,L)) else none
theorem Ng(w:Q0 DO)(l:Q0 Int)(L:QA):Le (LD w l L) ((Jj w l).bind λr=>some<|.ok (r,L)):=Le.guard λh=>Le.cO _ (No h.1 h.2.1 h.2.2) Le.rfl
def PH(L:QA):Q0 Int->RL
 | [c]=>V8 ((atR L c).2==0) (atR L c).2 (LD [99,97,115,107] [(atR L c).1.Amount,(atR L c).1.Age,(atR L c).1.Owner,(atR L c).1.Creditor,Ze L c] L)
 | _=>none
theorem Ir(L:QA)(n:Q0 Int):Le (PH L n) (KB L () n):=by
 rcases n with _ | ⟨c,_ | ⟨_,_⟩⟩
 ·exact Le.none
 ·unfold KB;exact Le.cO c rfl<|Le.cO _ (Et _ _)<|Le.check<|Le.cO c rfl<|Ng _ _ _
 ·exact Le.none
def Mt(L:QA):Q2 Q3:=match L.rules with
 | none=>none
 | some r=>if r.Rates.length<=1000000 then some (DR r L.duties L.day).1 else none
theorem jY(L:QA):Le (Mt L) (YG L ()):=by
 unfold Mt YG;cases a:L.rules with
 | none=>exact Le.none
 | some r=>
  refine Le.guard λh=> ?_;rw[K1];exact Le.cO _ (Ex.AB h qz) Le.rfl
def PI(L:QA):Q0 Int->RL
 | [c]=>V8 (decide<|c < 16) 2 ((Mt L).bind λb=>(VM 16 c).bind λj=>LD [98,111,110,100] [b.Bonds j] L)
 | _=>none
theorem Is(L:QA)(n:Q0 Int):Le (PI L n) (KC L () n):=by
 rcases n with _ | ⟨c,_ | ⟨_,_⟩⟩
 ·exact Le.none
 ·unfold KC;exact Le.cO c rfl<|Le.sU<|Le.bind (jY _) λb=>Le.cO c rfl<|Le.bind Le.rfl λj=>Ng _ _ _
 ·exact Le.none
def FV(L:QA)(_:Q0 Int):RL:=(Mt L).bind λb=>LD [100,117,101] [b.Due,b.Paid] L
theorem zd(L:QA)(n:Q0 Int):Le (FV L n) (KO L () n):=by
 unfold KO;exact Le.bind (jY _) λb=>Ng _ _ _
def E8(l:Q0 QH)(n:Int):Q2 (Int×Int):=if l.length<=256 then some (if Hx l==0 then Bo.Lm l n else(0,Hx l)) else none
theorem vQ(l:Q0 QH)(n:Int):Le (E8 l n) (Vz l n):=by
 refine Le.guard λh=> ?_;obtain⟨b,i,a,c⟩:=Al l h;cases he:Hx l==0 with
 | true=>exact Le.of (Bo.zT n h<|c<|by simpa using he)
 | false=>exact Le.of<|Bo.jj n a<|by simpa using he
def An(L:QA):Q0 Int->RL
 | [c]=>(E8 L.stamps c).bind λr=>V8 (r.2==0) r.2 (LD [98,97,116,99,104] [r.1] L)
 | _=>none
theorem OG(L:QA)(n:Q0 Int):Le (An L n) (Z0 L () n):=by
 rcases n with _ | ⟨c,_ | ⟨_,_⟩⟩
 ·exact Le.none
 ·unfold Z0;exact Le.cO c rfl<|Le.bind (vQ _ _) λr=>Le.check<|Ng _ _ _
 ·exact Le.none
def uO(b:QU):Qo:=⟨Bo.vU b b.Water,Bo.wh b b.Water,Bo.Dg b.Draughts λd=>d.From.Age,λi=>Bo.Dg b.Draughts λd=>d.From.Woods i,λi=>Bo.Dg b.Draughts λd=>d.From.Places i,(Bo.LL b.Draughts).length⟩
open Bo in
theorem zZ{b:QU}{x:Qo}{c:Qt}(h:jb b b.Water x)(f:gO c):DM b x c=DM b (uO b) c:=by
 unfold DM;rw[h.age,h.casks,h.str];by_cases e:c.Kind=0
 ·rw[Bm e,Bm e];rfl
 rw[B2 e,B2 e];by_cases a:c.Kind=1
 ·rw[Bm a,Bm a,h.woods _ (by have:=f.what<|.inl a;omega)];rfl
 rw[B2 a,B2 a];by_cases d:c.Kind=2
 ·rw[Bm d,Bm d,h.places _ (by have:=f.what<|.inr d;omega)];rfl
 rw[B2 d,B2 d];rfl
def O7(b:QU)(c:Qt):Q2 (Bool×Int):=if b.Draughts.length<=1000 then some (if Bo.HF b&&Bo.DY c then(Bo.DM b (uO b) c,0) else(true,1)) else none
open Bo in
theorem u4{β:Type}(b:QU)(c:Qt)(k:Bool×Int->Q2 β)(g:Q0 Int×Int->Q2 β)(h:∀l e,Le (k (decide<|l.length=0,e))<|g (l,e)):Le ((O7 b c).bind k) ((Ui b [c]).bind g):=by
 unfold O7;by_cases f:b.Draughts.length<=1000
 ·rw[Bm f,K1];have j:GP [c]=DY c:=by simp[GP]
  rcases kL b [c] f zh with⟨d,i⟩ | ⟨d,m,a,x,o,_,i⟩
  ·rw[j] at d
   rw[i,d];exact h [] 1
  ·rw[j] at m
   rw[i,(FN b).2 d,m];simp only[Bool.and_self,B3,K1];rw[<-zZ o (a c zh)];cases n:DM b x c with
   | true=>
    have e:Bo.liesAt (DM b x) 0 [c]=[]:=by simp[Bo.liesAt,n]
    rw[e];exact h [] 0
   | false=>
    have e:Bo.liesAt (DM b x) 0 [c]=[0]:=by simp[Bo.liesAt,n]
    rw[e];exact h [0] 0
 ·rw[B2 f];exact Le.none
abbrev vR:Q0 DO:=[116,114,117,101]
abbrev zV:Q0 DO:=[102,97,108,115,101]
theorem xd(b:Bool):WD b=some (if b then vR else zV):=by cases b<;>rfl
def Hy(L:QA):Q0 Int->RL
 | [n,k,w,v]=>match Qb L.batches n with
  | none=>some (.pan ⟨4⟩)
  | some b=>(O7 b ⟨k,w,v⟩).bind λr=>V8 (r.2==0) r.2 (some<|.ok (if r.1 then vR else zV,L))
 | _=>none
theorem OI(L:QA)(n:Q0 Int):Le (Hy L n) (Z2 L () n):=by
 rcases n with _ | ⟨n,_ | ⟨k,_ | ⟨w,_ | ⟨v,_ | ⟨_,_⟩⟩⟩⟩⟩
 iterate 4 exact Le.none
 ·unfold Z2 Hy;refine Le.cO n rfl ?_;simp only[QQ];cases a:Qb L.batches n with
  | none=>
   simp only[lQ];rw[Sx];exact Le.rfl
  | some b=>
   simp only[eJ];rw[Sx];simp only[B3,Qw];refine Le.cO k rfl<|Le.cO w rfl<|Le.cO v rfl ?_;rw[eC];refine u4 b ⟨k,w,v⟩ _ _ λl e=> ?_;refine Le.check ?_;rw[xd];refine Le.of ?_;have:((l.length:Int)==0)=decide (l.length=0):=by rw[lr];simp
   rw[this];rfl
 ·exact Le.none
def Ao(L:QA):Q0 Int->RL
 | [c]=>V8 ((Ca.Na L.casks c L.day).2==0) (Ca.Na L.casks c L.day).2 (LD [102,105,108,108,115] (Ca.Na L.casks c L.day).1 L)
 | _=>none
theorem OH(L:QA)(n:Q0 Int):Le (Ao L n) (Z1 L () n):=by
 rcases n with _ | ⟨c,_ | ⟨_,_⟩⟩
 ·exact Le.none
 ·unfold Z1;exact Le.cO c rfl<|Le.cO _ (Ca.IP _ _ _)<|Le.check<|Ng _ _ _
 ·exact Le.none
structure Wd where
 word:List UInt8
 least:Int
 each:Int
 does:QA->List Int->RL
def HW:Q0 Wd:=[
 ⟨[100,97,121],1,0,gz⟩,⟨[114,117,108,101,115],3,2,Nk⟩,⟨[109,97,107,101],5,0,uH⟩,⟨[102,105,108,108],3,0,ua⟩,⟨[114,97,99,107],3,0,vp⟩,
 ⟨[99,97,114,114,121],2,0,kV⟩,⟨[115,101,108,108],3,0,NK 5⟩,⟨[112,108,101,100,103,101],3,0,NK 6⟩,⟨[102,114,101,101],2,0,uW⟩,⟨[99,104,97,114],2,0,u6⟩,
 ⟨[115,116,97,109,112,115],2,0,TW 0⟩,⟨[115,112,111,105,108],2,0,TW 2⟩,⟨[98,111,116,116,108,101],4,2,IC⟩,⟨[112,97,121],1,0,gZ⟩,⟨[99,97,115,107],1,0,PH⟩,
 ⟨[98,111,110,100],1,0,PI⟩,⟨[100,117,101],0,0,FV⟩,⟨[119,104,111,115,101],1,0,An⟩,⟨[99,108,97,105,109],4,0,Hy⟩,⟨[102,105,108,108,115],1,0,Ao⟩]
def Cv(w:Q0 DO):Q2 Wd:=HW.find? λd=>d.word==w
inductive Ez:List Wd->List (List UInt8×QW)->Prop where
 | nil:Ez [] []
 | cons {w:List UInt8} {a b:Int} {f:QA->List Int->RL} {g:QA×Unit×List Int->RL} {l:List Wd} {k:List (List UInt8×QW)} (h:∀L n,Le (f L n)<|g (L,(),n)) (r:Ez l k):Ez (⟨w,a,b,f⟩::l) ((w,⟨⟨a,b⟩,g⟩)::k)
theorem Ez.get{l:Q0 Wd}{k:Q0 (Q0 DO×QW)}(h:Ez l k)(w:Q0 DO):match l.find? (λd=>d.word==w) with
  | none=>Qb k w=none
  | some d=>∃g,Qb k w=some ⟨⟨d.least,d.each⟩,g⟩/\∀L n,Le (d.does L n) (g (L,(),n)):=by
 induction h with
 | nil=>rfl
 | @cons w' a b f g l k h r i=>
  by_cases c:w' =w
  ·subst c;simp only[lI,hW];exact⟨g,by simp[Qb],h⟩
  ·have e:(w' ==w)=false:=by simpa using c
   have j:(w==w')=false:=by simpa using λh=>c h.symm
   simp only[lI,e];have m:Qb ((w',(⟨⟨a,b⟩,g⟩:QW))::k) w=Qb k w:=by simp[Qb,j]
   rw[m];exact i
theorem ux:∃k,XV=some k/\Ez HW k:=by
 refine⟨_,by unfold XV;simp only[QQ];rfl,?_⟩;exact .cons gy<|.cons vl<|.cons xF<|.cons xS<|.cons wy<|.cons u9<|.cons wo<|.cons j5<|.cons xP<|.cons xb<|.cons uS<|.cons vd<|.cons ym<|.cons gY<|.cons Ir<|.cons Is<|.cons zd<|.cons OG<|.cons OI<|.cons OH .nil
end
section
open Go.Dec
def XM(least each:Int)(n:Int):Bool:=if each==0 then n==least else decide (n > least)&&(n - least)%each==0
theorem xQ(a b:Int)(n:Nat)(e:0<=a/\a<=100)(f:n<=1000000):Ud ⟨a,b⟩ (n:Int)=some (XM a b n):=by
 unfold Ud XM;simp only;cases h:b==0 with
 | true=>rfl
 | false=>
  have c:b≠0:=by simpa using h
  by_cases d:(n:Int) > a
  ·simp only[d,r6,B3,rW,H1,By];unfold jz;rw[B2 c,Qi qz qz,lU qz];rfl
  ·simp only[d,n1,H1,By,eB];rfl
def CU(L:QA)(line:Q0 DO):RL:=
 if line.length > 1000 then some (.pan ⟨3⟩) else match Hb line with
  | .pan q=>some (.pan q)
  | .ok w=>match Cv w.1 with
   | none=>some (.pan ⟨8⟩)
   | some d=>V8 (XM d.least d.each w.2.length) 8 (V8 (!L.rules.isNone||w.1==[100,97,121]||w.1==[114,117,108,101,115]) 6
    (if L.casks.length<=1000000/\L.duties.length<=1000000/\L.stamps.length<=1000000 then d.does L w.2 else none))
def uu(L:QA)(line:Q0 DO):Q2 (Q0 DO×Int×QA):=match CU L line with
 | none=>none
 | some (.pan q)=>some ([],q.e,L)
 | some (.ok r)=>some (r.1,0,r.2)
theorem wZ:∀d∈HW,(0<=d.least/\d.least<=100)/\(0<=d.each/\d.each<=100):=by
 unfold HW;simp only[Tc,eP,oR];rintro d (rfl | rfl | rfl | rfl | rfl | rfl | rfl | rfl | rfl | rfl | rfl | rfl | rfl | rfl | rfl | rfl | rfl | rfl | rfl | rfl)<;>exact⟨⟨by decide,by decide⟩,by decide,by decide⟩
theorem I3{line:Q0 DO}{w:Q0 DO×Q0 Int}(h:Hb line= .ok w):w.2.length<=line.length:=by
 have b:∀s:Q0 DO,(Jg s).length<=s.length+1:=by
  intro s
  induction s with
  | nil=>simp[Jg]
  | cons c l a=>
   unfold Jg;split
   ·simpa using a
   ·split<;>rename_i he
    ·simp
    ·rw[he] at a;simp at a ⊢;omega
 have:=b line;unfold Hb at h
 split at h
 ·cases h
 ·rename_i p ps he;rw[he] at this
  split at h
  ·simp only[Out.ok.injEq] at h
   subst h;simp at this ⊢
   omega
  ·cases h
theorem yg{L:QA}(h:L.casks.length<=1000000/\L.duties.length<=1000000/\L.stamps.length<=1000000):YZ L=some L:=by
 unfold YZ KN KL VP;rw[Ut zg,Ut zg,Ut zg];rfl
theorem TX{α:Type}{l:Q0 α}{i:Nat}{x:α}(h:l[i]? =some x):l.set i x=l:=by
 obtain⟨hi,rfl⟩:=Do.1 h;exact iT hi
theorem gH{A:Q0 Qr}{i:Nat}{L:QA}(n:A[i]? =some ⟨L,true⟩)(line:Q0 DO):Le ((uu L line).map λr=>(r.1,r.2.1,A.set i ⟨r.2.2,true⟩)) (WE A (some i) line):=by
 have a:=TX n;unfold uu CU WE;simp only[lR,H1,By,K1,n,RK];by_cases o:line.length > 1000
 ·have e:decide ((line.length:Int) > 1000)=true:=hR qz;rw[Bm o,e];simp only[E4,a];exact Le.rfl
 have e:decide ((line.length:Int) > 1000)=false:=bY qz;rw[B2 o,e,j1 line qz];simp only[H1,By];cases p:Hb line with
 | pan q=>simp only[E4,a];exact Le.rfl
 | ok w=>
  have s:=I3 p;obtain⟨k,t,c⟩:=ux;have f:=c.get w.1;simp only[Qw,t,K1];cases h:Cv w.1 with
  | none=>
   unfold Cv at h
   rw[h] at f
   rw[f];simp only[E4,a];exact Le.rfl
  | some d=>
   have u:d∈HW:=mq h;unfold Cv at h
   rw[h] at f
   obtain⟨g,f,j⟩:=f;rw[f];obtain⟨v,_⟩:=wZ d u;unfold XW;simp only;rw[xQ _ _ _ v qz,K1,Sx];unfold V8;cases B:XM d.least d.each w.2.length with
   | false=>simp only[H1,By,E4,a];exact Le.rfl
   | true=>
    simp only[B3,Qw]
    have x:((if(!L.rules.isNone)=true then some true else some (w.1==([100,97,121]:Q0 DO))).bind λz=>if z=true then some true else some (w.1==([114,117,108,101,115]:Q0 DO)))=some (!L.rules.isNone||w.1==[100,97,121]||w.1==[114,117,108,101,115]):=by
     cases L.rules.isNone<;>cases w.1==([100,97,121]:Q0 DO)<;>rfl
    rw[<-Option.bind_assoc,x,K1,Sx];cases hs:(!L.rules.isNone||w.1==[100,97,121]||w.1==[114,117,108,101,115]) with
    | false=>show Le (some ([],(6:Int),A.set i ⟨L,true⟩)) _;rw[a];exact Le.rfl
    | true=>
     simp only[B3];by_cases l:L.casks.length<=1000000/\L.duties.length<=1000000/\L.stamps.length<=1000000
     ·rw[Bm l,yg l];intro y b;cases m:d.does L w.2 with
      | none=>rw[m] at b;cases b
      | some r=>
       rw[m] at b
       simp only[K1,j _ _ _ m];cases r with
       | pan q=>have b:some (([]:Q0 DO),q.e,A.set i ⟨L,true⟩)=some y:=b;rw[a] at b;exact b
       | ok r=>exact b
     ·rw[B2 l];exact Le.none
def Ul:QA:=⟨0,none,[],[],[],[],[],0⟩
def Np(s:Q0 DO)(e:Int):Q0 DO:=if e==0 then s else HE zW [e]
def I9:Q0 (Q0 DO)->QA->Q0 DO->Q2 (QA×Q0 DO)
 | [],L,out=>some (L,out)
 | x::xs,L,out=>match uu L x with
  | none=>none
  | some r=>if IU r.2.1=true/\out.length+(Np r.1 r.2.1).length<=1000000000 then I9 xs r.2.2 (out++(Np r.1 r.2.1++[10])) else none
theorem OS:∀(l:Q0 (Q0 DO)) (L:QA) (out:Q0 DO),Le ((I9 l L out).map λr=>([(⟨r.1,true⟩:Qr)],r.2)) (Y1 (GF<|some 0) l ([⟨L,true⟩],out))
 | [],L,out=>Le.rfl
 | x::xs,L,out=>by
  unfold I9 Y1;cases c:uu L x with
  | none=>exact Le.none
  | some r=>
   by_cases b:IU r.2.1=true/\out.length+(Np r.1 r.2.1).length<=1000000000
   ·simp only;rw[Bm b];refine Le.cO ([⟨r.2.2,true⟩],out++(Np r.1 r.2.1++[10])) ?_<|OS xs _ _;have d:=gH (A:=[⟨L,true⟩]) (i:=0) rfl x (r.1,r.2.1,[⟨r.2.2,true⟩]) (by rw[c];rfl);unfold GF;rw[d,K1];have a:=b.2;unfold Np at a ⊢
    cases he:r.2.1==0 with
    | true=>
     have:(r.2.1 != 0)=false:=by simpa using he
     simp only[this,H1,By,B3];rw[he] at a
     simp only[B3] at a
     unfold XA;rw[H6 qz,K1,H6 zg];simp
    | false=>
     have:(r.2.1 != 0)=true:=by simpa using he
     simp only[this,B3,H1,By];rw[he] at a
     simp only[H1,By] at a
     rw[No j2 zh (by simpa using b.1),K1];unfold XA;rw[H6 qz,K1,H6 zg];simp
   ·simp only;rw[B2 b];exact Le.none
def vu(script:Q0 DO):Q2 (Q0 DO×Int):=if script.length > 262144 then some ([],3) else if !(script==[])&& !RY script then some ([],8) else(I9 (MK script) Ul []).map λr=>(r.2,0)
theorem xq(script:Q0 DO):Le (vu script) (Xz script):=by
 unfold vu Xz;by_cases c:script.length > 262144
 ·have e:decide ((script.length:Int) > 262144)=true:=hR qz;rw[Bm c,e];exact Le.rfl
 have e:decide ((script.length:Int) > 262144)=false:=bY qz;rw[B2 c,e];simp only[H1,By]
 have d:(if(!(script==([]:Q0 DO)))=true then(J5 script [10]).bind λh=>some (!h) else some false)=some (!(script==[])&& !RY script):=by
  cases script==([]:Q0 DO) with
  | true=>rfl
  | false=>simp only[u0,B3];rw[Tm _ qz];rfl
 rw[d,K1];refine Le.ite Le.rfl ?_;refine Le.cO (some 0,[⟨Ul,true⟩]) rfl ?_;intro y a;cases b:I9 (MK script) Ul [] with
 | none=>rw[b] at a;cases a
 | some r=>
  have:=OS (MK script) Ul [] ([⟨r.1,true⟩],r.2) (by rw[b];rfl);rw[this,K1];rw[b] at a
  exact a
end
end Go.Proofs.YtbjgigfhnlnbfaaGreatDoor
section
set_option maxRecDepth 100000
namespace Go.Proofs.YtbjgigfhnlnbfaaGreatDoor
open Go.Dec
theorem Iw:vu JO.1=some (JO.2,0):=by decide+kernel
theorem Mu:Wg=some true:=by
 unfold Wg;rw[xq _ _ Iw]
 decide+kernel
end Go.Proofs.YtbjgigfhnlnbfaaGreatDoor
end
namespace Go.Proofs.YtbjgigfhnlnbfaaGreatDoor.Ca
section
open Go.Dec
inductive M3(l:List ZY)(x:Ev)(num:Int):List ZY->Prop
 | make (k:x.Kind=0) (f:Js l x.Cask=none) (n:l.length < 256):M3 l x num (l++[Ol x])
 | fill (k:x.Kind=1) (i:Nat) (c:ZY) (f:Js l x.Cask=some i) (h:l[i]? =some c) (r:c.C.Amount+x.Amount<=c.C.Room):M3 l x num (l.set i<|Ua c (BL num) x.Amount)
 | rack (k:x.Kind=2) (i:Nat) (c:ZY) (f:Js l x.Cask=some i) (h:l[i]? =some c) (j:Nat) (o:ZY) (f' :Js l x.Other=some j) (h' :l[j]? =some o) (ne:i≠j)
  (ow:c.C.Owner=o.C.Owner) (c1:c.C.Creditor < 0) (c2:o.C.Creditor < 0) (a:x.Amount<=c.C.Amount) (r:o.C.Amount+x.Amount<=o.C.Room):M3 l x num ((l.set j<|Ua o c x.Amount).set i<|WG c x.Amount)
 | drain (k:x.Kind=3) (i:Nat) (c:ZY) (f:Js l x.Cask=some i) (h:l[i]? =some c) (c1:c.C.Creditor < 0) (a:x.Amount<=c.C.Amount):M3 l x num (l.set i<|WG c x.Amount)
 | carry (k:x.Kind=4) (i:Nat) (c:ZY) (f:Js l x.Cask=some i) (h:l[i]? =some c):M3 l x num (l.set i {c with C:={c.C with Place:=x.Where}})
 | sell (k:x.Kind=5) (i:Nat) (c:ZY) (f:Js l x.Cask=some i) (h:l[i]? =some c) (o:c.C.Owner=x.Person) (c1:c.C.Creditor < 0) (t:x.To≠c.C.Owner):M3 l x num (l.set i {c with C:={c.C with Owner:=x.To}})
 | pledge (k:x.Kind=6) (i:Nat) (c:ZY) (f:Js l x.Cask=some i) (h:l[i]? =some c) (o:c.C.Owner=x.Person) (c1:c.C.Creditor < 0):M3 l x num (l.set i {c with C:={c.C with Creditor:=x.To}})
 | free (k:x.Kind=7) (i:Nat) (c:ZY) (f:Js l x.Cask=some i) (h:l[i]? =some c) (c1:c.C.Creditor=x.Person):M3 l x num (l.set i {c with C:={c.C with Creditor:= -1}})
 | char (k:x.Kind=8) (i:Nat) (c:ZY) (f:Js l x.Cask=some i) (h:l[i]? =some c) (a:c.C.Amount<=0):M3 l x num (l.set i {c with C:={c.C with Wood:=x.Where}})
theorem uy{l l' :Q0 ZY}{i:Nat}{c:ZY}{x:Ev}{num:Int}(m:Xb x=true)(n:x.Kind≠0)(f:Js l x.Cask=some i)(a:l[i]? =some c)(h:XK l i c x num= .inl l'):M3 l x num l' :=by
 rcases kinds m with k | k | k | k | k | k | k | k | k
 ·exact absurd k n
 ·have h:AZ l i c x num= .inl l' :=by rw[<-h];unfold XK;rw[k];rfl
  unfold AZ at h
  split at h
  ·cases h
  ·cases h;exact .fill k i c f a qz
 ·have h:AO l i c x= .inl l' :=by rw[<-h];unfold XK;rw[k];rfl
  unfold AO at h
  split at h
  ·cases h
  ·rename_i j p;split at h
   ·cases h
   ·rename_i o b;unfold PL at h
    split at h
    ·cases h
    ·rename_i g;split at h
     ·cases h
     ·rename_i d;split at h
      ·cases h
      ·split at h
       ·cases h
       ·cases h;simp only[rm,o7,ne_eq,AT,ik,Decidable.not_not,eY] at d
        exact .rack k i c f a j o p b (λe=>g<|by simp[e]) d.1.1 qz qz qz qz
 ·have h:Bz l i c x= .inl l' :=by rw[<-h];unfold XK;rw[k];rfl
  unfold Bz at h
  split at h
  ·cases h
  ·split at h
   ·cases h
   ·cases h;exact .drain k i c f a qz qz
 ·have h:O8 l i c x= .inl l' :=by rw[<-h];unfold XK;rw[k];rfl
  cases h;exact .carry k i c f a
 ·have h:RG l i c x= .inl l' :=by rw[<-h];unfold XK;rw[k];rfl
  unfold RG at h
  split at h
  ·cases h
  ·rename_i d;split at h
   ·cases h
   ·rename_i q;cases h;simp only[rm,o7,ne_eq,AT,ik,Decidable.not_not,eY] at d
    exact .sell k i c f a d.1 qz λe=>q<|by simp[e]
 ·have h:DQ l i c x= .inl l' :=by rw[<-h];unfold XK;rw[k];rfl
  unfold DQ at h
  split at h
  ·cases h
  ·rename_i b;split at h
   ·cases h
   ·cases h;exact .pledge k i c f a (by simpa using b) qz
 ·have h:RT l i c x= .inl l' :=by rw[<-h];unfold XK;rw[k];rfl
  unfold RT at h
  split at h
  ·cases h
  ·rename_i b;cases h;exact .free k i c f a<|by simpa using b
 ·have h:Rb l i c x= .inl l' :=by rw[<-h];unfold XK;rw[k];rfl
  unfold Rb at h
  split at h
  ·cases h
  ·cases h;exact .char k i c f a qz
theorem O5{l l' :Q0 ZY}{x:Ev}{num:Int}(b:Xb x=true)(h:DB l x num= .inl l'):M3 l x num l' :=by
 unfold DB at h
 split at h
 ·rename_i a;unfold EX at h
  split at h
  ·cases h
  ·rename_i d;split at h
   ·cases h
   ·cases h;exact .make (mb.1 a) (by simpa using d) qz
 ·rename_i a;split at h
  ·cases h
  ·rename_i i hi;split at h
   ·cases h
   ·rename_i c f;exact uy b (λe=>a<|by simp[e]) hi f h
theorem Lw{n:Nat}{s c:DL}{x:Ev}(h:VI n s x= .inl c):Xb x=true/\s.last<=x.Day/\∃l',c=⟨l',x.Day⟩/\M3 (qy x.Day s) x n l' :=by
 unfold VI at h
 split at h
 ·cases h
 ·rename_i b;have b:Xb x=true:=by simpa using b
  split at h
  ·cases h
  ·rename_i d;split at h
   ·rename_i all a;cases h;exact⟨b,by omega,all,rfl,O5 b a⟩
   ·cases h
theorem gD{day:Int}:∀(l:Q0 Ev) (n:Nat) (s:DL) (r:DL ⊕ Int) (k:Nat),HV day l n s=(r,k)->k<=n+l.length
 | [],n,s,r,k,h=>by
  simp only[HV,L4] at h
  simp[<-h.2]
 | x::l,n,s,r,k,h=>by
  simp only[HV] at h
  split at h
  ·split at h
   ·have:=gD l _ _ _ _ h;simp;omega
   ·simp only[L4] at h
    simp[<-h.2]
  ·simp only[L4] at h
   simp[<-h.2]
theorem OS{l:Q0 Ev}{day:Int}{r:Q0 ZY ⊕ Int}{k:Nat}(h:JZ l day=(r,k)):k<=l.length:=by
 unfold JZ at h
 split at h
 ·simp only[L4] at h;omega
 ·split at h
  ·simp only[L4] at h;omega
  ·unfold AD at h
   cases a:HV day l 0 ⟨[],0⟩ with
   | mk b q=>
    have:=gD _ _ _ _ _ a;rw[a] at h
    cases b<;>(simp only[L4] at h;omega)
end
section
open Go.Dec
section
variable{V:Type}
theorem Av{k n:Int}{v:V}:∀{l:Q0 (Int×V)},Qb (Q4 l k v) n=if n==k then some v else Qb l n
 | []=>by simp[Q4,Qb]
 | x::l=>by
  simp only[Q4];by_cases h:k=x.1
  ·have:(k==x.1)=true:=by simp[h]
   rw[Bm this];simp only[Qb];by_cases a:n=k
   ·subst a;simp
   ·have b:(n==k)=false:=by simpa using a
    have c:(n==x.1)=false:=by simpa using λe=>a<|by rw[e,h]
    simp[b,c]
  ·have:(k==x.1)=false:=by simpa using h
   rw[B2<|by simp[this]];simp only[Qb];rw[Av (l:=l)];by_cases a:n=x.1
   ·have b:(n==x.1)=true:=by simp[a]
    have c:(n==k)=false:=by simpa using λe=>h<|by rw[<-e,a]
    simp[b,c]
   ·have b:(n==x.1)=false:=by simpa using a
    simp[b]
end
end
end Go.Proofs.YtbjgigfhnlnbfaaGreatDoor.Ca
section
namespace Go.Proofs.YtbjgigfhnlnbfaaGreatDoor.Ca
open Go.Dec
theorem S5{day:Int}{x:Ev}(c:x.Day<=day):∀(l:Q0 Ev) (n:Nat) (s a:DL) (k:Nat),(∀y∈l,y.Day<=day)->HV day (l++[x]) n s=(.inl a,k)->∃b,HV day l n s=(.inl b,n+l.length)/\VI (n+l.length) b x= .inl a
 | [],n,s,a,k,_,h=>by
  simp only[me,HV,Bm c] at h
  refine⟨s,rfl,?_⟩;show VI n s x=_;cases hs:VI n s x with
  | inl b=>rw[hs] at h;simp only[L4,hJ] at h;rw[h.1]
  | inr e=>rw[hs] at h;simp at h
 | y::l,n,s,a,k,d,h=>by
  simp only[s9,HV,Bm<|d y zh] at h ⊢
  cases hs:VI n s y with
  | inl b=>
   rw[hs] at h
   obtain⟨f,g,i⟩:=S5 c l (n+1) b a k (λz j=>d z<|by simp[j]) h;have e:n+(y::l).length=n+1+l.length:=by simp;omega
   rw[e];exact⟨f,g,i⟩
  | inr e=>rw[hs] at h;simp at h
theorem EH{l:Q0 Ev}{x:Ev}{day:Int}{a:Q0 ZY}{k:Nat}(b:x.Day=day)(g:∀y∈l,y.Day<=day)(h:JZ (l++[x]) day=(.inl a,k)):∃all,JZ l day=(.inl all,l.length)/\Xb x=true/\M3 all x l.length a:=by
 unfold JZ at h ⊢
 split at h
 ·cases h
 ·rename_i i;rw[B2 (by simp at i;omega)];split at h
  ·cases h
  ·rename_i j;rw[B2 j];unfold AD at h ⊢
   cases c:HV day (l++[x]) 0 ⟨[],0⟩ with
   | mk r k=>
    rw[c] at h
    cases r with
    | inr e=>cases h
    | inl m=>
     obtain⟨q,d,f⟩:=S5 qz l 0 _ m k g c;rw[sf] at d f
     obtain⟨n,_,l',e,o⟩:=Lw f;rw[d];refine⟨_,rfl,n,?_⟩;simp only[L4,hJ] at h
     rw[<-h.1,e]
     have p:qy day ⟨l',x.Day⟩=l' :=by
      unfold qy;show l'.map (JX<|day - x.Day)=l';rw[b,eM,show JX 0=id from funext λh=>Sw,iY]
     rw[p,<-b];exact o
theorem Rz{l:Q0 Ev}{day num:Int}{all:Q0 ZY}{k i:Nat}{c:ZY}(h:JZ l day=(.inl all,k))(a:Js all num=some i)(b:all[i]? =some c):Cw l num day=(c.C,0):=by
 unfold Cw Gq;rw[h];simp only[a,K1,b]
theorem ja{l:Q0 Ev}{day:Int}(h:(T7 l day).2.2=0):∃all k,JZ l day=(.inl all,k):=by
 unfold T7 at h
 split at h
 ·rename_i e k a;exact absurd h<|BA a
 ·rename_i all k a;exact⟨all,k,a⟩
theorem we{l:Q0 Ev}{num day:Int}(h:(Cw l num day).2=0):∃last n b,(Cw l num day).1=ZY.C b/\E0 last n b/\last<=65536:=by
 unfold Cw at h ⊢
 cases c:JZ l day with
 | mk r k=>
  rw[c] at h
  cases r with
  | inr e=>exact absurd h (BA c)
  | inl all=>
   obtain⟨d,_,g,f⟩:=Fc c;simp only at h ⊢
   cases a:Gq all num with
   | none=>rw[a] at h;cases h
   | some b=>
    unfold Gq at a
    cases hi:Js all num with
    | none=>rw[hi] at a;cases a
    | some i=>
     rw[hi] at a
     exact⟨day,k,b,rfl,d.each b<|T2 a,f⟩
theorem gR(l:Q0 Ev)(num day:Int):(Na l num day).1.length<=4096/\∀f∈(Na l num day).1,0<=f/\f < 4096:=by
 unfold Na;cases c:JZ l day with
 | mk r k=>
  cases r with
  | inr e=>simp
  | inl all=>
   obtain⟨d,h,j,m⟩:=Fc c;simp only;cases a:Gq all num with
   | none=>simp
   | some g=>
    unfold Gq at a
    cases hi:Js all num with
    | none=>rw[hi] at a;cases a
    | some i=>
     rw[hi] at a
     have b:=d.each g<|T2 a;have:=Am 0 b.fills.1 (n:=k) b.fills.2 qz;exact⟨by simp only;omega,λf a=>by have:=b.fills.2 f a;omega⟩
abbrev Er(e:Int):Prop:=1<=e/\e<=20
theorem wT{e k:Int}(h:(.inr k:Q0 ZY ⊕ Int)= .inr e)(a:decide (1<=k/\k<=20)=true:=by decide):Er e:=by
 simp only[ma] at h
 rw[<-h];exact lv a
theorem fI{l:Q0 ZY}{i:Nat}{c:ZY}{x:Ev}{n e:Int}(h:XK l i c x n= .inr e):Er e:=by
 unfold XK at h
 by_cases a:(x.Kind==1)=true
 ·rw[Bm a] at h
  unfold AZ at h
  split at h
  ·exact wT h
  ·cases h
 rw[B2 a] at h
 by_cases b:(x.Kind==2)=true
 ·rw[Bm b] at h
  unfold AO PL at h
  repeat' split at h
  all_goals first | (cases h;done) | exact wT h
 rw[B2 b] at h
 by_cases d:(x.Kind==3)=true
 ·rw[Bm d] at h
  unfold Bz at h
  repeat' split at h
  all_goals first | (cases h;done) | exact wT h
 rw[B2 d] at h
 by_cases f:(x.Kind==4)=true
 ·rw[Bm f] at h
  cases h
 rw[B2 f] at h
 by_cases g:(x.Kind==5)=true
 ·rw[Bm g] at h
  unfold RG at h
  repeat' split at h
  all_goals first | (cases h;done) | exact wT h
 rw[B2 g] at h
 by_cases j:(x.Kind==6)=true
 ·rw[Bm j] at h
  unfold DQ at h
  repeat' split at h
  all_goals first | (cases h;done) | exact wT h
 rw[B2 j] at h
 by_cases k:(x.Kind==7)=true
 ·rw[Bm k] at h
  unfold RT at h
  repeat' split at h
  all_goals first | (cases h;done) | exact wT h
 rw[B2 k] at h
 by_cases m:(x.Kind==8)=true
 ·rw[Bm m] at h
  unfold Rb at h
  repeat' split at h
  all_goals first | (cases h;done) | exact wT h
 rw[B2 m] at h
 cases h
theorem dB{l:Q0 ZY}{x:Ev}{n e:Int}(h:DB l x n= .inr e):Er e:=by
 unfold DB at h
 split at h
 ·unfold EX at h
  repeat' split at h
  all_goals first | (cases h;done) | exact wT h
 ·split at h
  ·exact wT h
  ·split at h
   ·exact wT h
   ·exact fI h
theorem wi{n:Nat}{s:DL}{x:Ev}{e:Int}(h:VI n s x= .inr e):Er e:=by
 unfold VI at h
 split at h
 ·simp only[ma] at h;subst h;exact⟨by decide,by decide⟩
 ·split at h
  ·simp only[ma] at h;subst h;exact⟨by decide,by decide⟩
  ·split at h
   ·cases h
   ·rename_i a he;simp only[ma] at h
    subst h;exact dB he
theorem gE{day:Int}:∀{l:Q0 Ev} {n:Nat} {s:DL} {e:Int} {k:Nat},HV day l n s=(.inr e,k)->Er e
 | [],n,s,e,k,h=>by simp[HV] at h
 | x::l,n,s,e,k,h=>by
  simp only[HV] at h
  split at h
  ·split at h
   ·exact gE h
   ·rename_i a he;simp only[L4,ma] at h
    rw[<-h.1];exact wi he
  ·simp at h
theorem OT{l:Q0 Ev}{day:Int}{e:Int}{k:Nat}(h:JZ l day=(.inr e,k)):Er e:=by
 unfold JZ at h
 split at h
 ·simp only[L4,ma] at h;rw[<-h.1];exact⟨by decide,by decide⟩
 ·split at h
  ·simp only[L4,ma] at h;rw[<-h.1];exact⟨by decide,by decide⟩
  ·unfold AD at h
   cases a:HV day l 0 ⟨[],0⟩ with
   | mk r q=>
    rw[a] at h
    cases r with
    | inl s=>simp at h
    | inr b=>
     simp only[L4,ma] at h
     rw[<-h.1];exact gE a
theorem fE{l:Q0 Ev}{day:Int}(h:(T7 l day).2.2≠0):Er (T7 l day).2.2:=by
 unfold T7 at h ⊢
 split
 ·rename_i e k a;exact OT a
 ·rename_i all k a;rw[a] at h;exact absurd rfl h
theorem kq{l:Q0 Ev}{num day:Int}(h:(Cw l num day).2≠0):Er (Cw l num day).2:=by
 unfold Cw at h ⊢
 cases a:JZ l day with
 | mk r k=>
  rw[a] at h
  cases r with
  | inr e=>exact OT a
  | inl all=>
   simp only at h ⊢
   cases b:Gq all num with
   | none=>exact⟨by decide,by decide⟩
   | some c=>rw[b] at h;exact absurd rfl h
theorem gS{l:Q0 Ev}{num day:Int}(h:(Na l num day).2≠0):Er (Na l num day).2:=by
 unfold Na at h ⊢
 cases a:JZ l day with
 | mk r k=>
  rw[a] at h
  cases r with
  | inr e=>exact OT a
  | inl all=>
   simp only at h ⊢
   cases b:Gq all num with
   | none=>exact⟨by decide,by decide⟩
   | some c=>rw[b] at h;exact absurd rfl h
end Go.Proofs.YtbjgigfhnlnbfaaGreatDoor.Ca
namespace Go.Proofs.YtbjgigfhnlnbfaaGreatDoor
open Go.Dec
open Ca (Er)
theorem gU{r:Ql}{day:Int}{l:Q0 QM}{e:Int}{k:Nat}(h:Ex.AD r day l 0 Ex.A8=(.inr e,k)):Er e:=by
 unfold Ex.AD at h
 cases b:Ex.HV r day l 0 Ex.A8 with
 | mk q j=>
  rw[b] at h
  cases q with
  | inl a=>simp at h
  | inr c=>
   simp only[L4,ma] at h
   have:=Ex.uU b;rw[<-h.1];unfold Er;omega
theorem xY{r:Ql}{l:Q0 QM}{day:Int}(h:(DR r l day).2.2≠0):Er (DR r l day).2.2:=by
 unfold DR at h ⊢
 cases b:Ex.JZ r l day with
 | mk q k=>
  rw[b] at h
  cases q with
  | inl a=>exact absurd rfl h
  | inr e=>
   show Er e
   clear h
   unfold Ex.JZ at b
   repeat' split at b
   all_goals first
    | (simp only[L4,ma] at b;rw[<-b.1];exact⟨by decide,by decide⟩)
    | exact gU b
open Bo in
theorem xV(pre:Q0 QH)(x:QH):kM pre x=0∨Er (kM pre x):=by
 unfold kM Er
 repeat' split
 all_goals decide
theorem jS:∀(l pre:Q0 QH),LR pre l=0∨Er (LR pre l)
 | [],_=>.inl rfl
 | x::l,pre=>by
  unfold LR;split
  ·exact jS l _
  ·exact xV pre x
theorem Ip{l:Q0 QH}(h:Hx l≠0):Er (Hx l):=(jS l []).resolve_left h
def Yq{α:Type}(P:α->Prop)(x:RO α):Prop:=∃r,x=some r/\(∀a,r= .ok a->P a)/\∀q,r= .pan q->Er q.e
section
variable{α β:Type}{P:β->Prop}{Q:α->Prop}
theorem Yq.pan{q:Qn}(h:Er q.e):Yq P (some<|.pan q):=⟨_,rfl,λ_ h=>(by cases h),λ_ e=>by cases e;exact h⟩
theorem Yq.ok{a:β}(h:P a):Yq P (some<|.ok a):=⟨_,rfl,λ_ e=>by cases e;exact h,λ_ e=>by cases e⟩
theorem Yq.sU{b:Bool}{e:Int}{k:RO β}(he:Er e)(h:b=true->Yq P k):Yq P (V8 b e k):=by
 unfold V8;cases b with
 | true=>exact h rfl
 | false=>exact Yq.pan he
theorem Yq.rL{e:Int}{k:RO β}(he:e≠0->Er e)(h:e=0->Yq P k):Yq P (V8 (e==0) e k):=by
 unfold V8;by_cases a:e=0
 ·rw[Bm<|by simpa using a];exact h a
 ·rw[B2<|by simpa using a];exact Yq.pan<|he a
theorem Yq.sX{x:RO α}{k:α->RO β}(h:Yq Q x)(h' :∀a,Q a->Yq P (k a)):Yq P (HU x k):=by
 obtain⟨r,rfl,b,c⟩:=h;cases r with
 | ok a=>exact h' a (b a rfl)
 | pan q=>exact Yq.pan<|c q rfl
theorem Yq.bind{x:Q2 α}{k:α->RO β}(h:∃a,x=some a/\Q a)(h' :∀a,Q a->Yq P (k a)):Yq P (x.bind k):=by
 obtain⟨a,rfl,b⟩:=h;exact h' a b
theorem Yq.imp{c:β->Prop}{x:RO β}(h:Yq P x)(h' :∀b,P b->c b):Yq c x:=by
 obtain⟨r,e,d,f⟩:=h;exact⟨r,e,λa g=>h' a<|d a g,f⟩
end
theorem er{n:Int}(h:decide (1<=n/\n<=20)=true:=by decide):Er n:=lv h
theorem OA(x:Int):IU (Qz x)=true:=by
 have e:IntKind.i64.bits=64:=rfl;simp only[IU,Qz,IntKind.wrap,e,BY,AT];simp only[IntKind.signed,true_and];split<;>omega
theorem Bt{x:Int}(h: -9223372036854775808<=x/\x<=9223372036854775807):IU x=true:=by simp[IU,h]
structure Inv(n s:Nat)(L:QA):Prop where
 casks:L.casks.length<=n
 duties:L.duties.length<=n
 stamps:L.stamps.length<=s
 days:∀x∈L.casks,x.Day<=L.day
 rules:∀r,L.rules=some r->r.Rates.length<=1000000
 batches:∀c b,Qb L.batches c=some b->b.Draughts.length<=1000
 pure:∀c,IU (Ze L c)=true
theorem Inv.up{n s n' a:Nat}{L:QA}(h:Inv n s L)(b:n<=n')(hs:s<=a):Inv n' a L:=⟨lN h.casks b,lN h.duties b,lN h.stamps hs,h.days,h.rules,h.batches,h.pure⟩
theorem Inv.start:Inv 0 0 Ul:=⟨S2 _,S2 _,S2 _,λ_ h=>(by cases h),λ_ h=>(by cases h),λ_ _ h=>(by cases h),λ_=>rfl⟩
theorem D9(L:QA)(c v k:Int):Ze (WY L c v) k=if k==c then v else Ze L k:=by
 unfold Ze WY;simp only;rw[Ca.Av];split<;>rfl
theorem Inv.set{n s:Nat}{L:QA}(h:Inv n s L){c v:Int}(a:IU v=true):Inv n s (WY L c v):=⟨h.casks,h.duties,h.stamps,h.days,h.rules,h.batches,λk=>by rw[D9];split;exact a;exact h.pure k⟩
def HS(L:QA)(x:QE)(b:QA):Prop:=b={L with casks:=L.casks++[{x with Day:=L.day}]}/\∃all a:Q0 Ca.ZY,∃k,Ca.JZ L.casks L.day=(.inl all,L.casks.length)/\Ca.JZ b.casks L.day=(.inl a,k)/\Ca.Xb {x with Day:=L.day}=true/\Ca.M3 all {x with Day:=L.day} L.casks.length a
theorem Inv.sV{n s:Nat}{L b:QA}{x:QE}(h:Inv n s L)(c:HS L x b):Inv (n+1) s b:=by
 obtain⟨rfl,_⟩:=c;refine⟨by have:=h.casks;simp;omega,by have:=h.duties;simp only;omega,h.stamps,λy a=> ?_,h.rules,h.batches,h.pure⟩;rcases mn.1 a with a | a
 ·exact h.days y a
 ·simp only[nt] at a;subst a;exact IN _
theorem GQ{n s:Nat}{L:QA}(h:Inv n s L)(f:n<=1000000)(x:QE):Yq (HS L x) (CX L x):=by
 unfold CX;rw[Bm (by have:=h.casks;omega)];refine Yq.rL Ca.fE λhe=>Yq.ok ⟨rfl,?_⟩;obtain⟨a,k,b⟩:=Ca.ja he;obtain⟨all,c,d,e⟩:=Ca.EH (x:={x with Day:=L.day}) rfl h.days b;exact⟨all,a,k,c,b,d,e⟩
def Xj(L:QA)(x:QM)(a:QA):Prop:=a={L with duties:=L.duties++[{x with Day:=L.day}]}/\∃r,L.rules=some r/\(DR r a.duties L.day).2.2=0
theorem Inv.sq{n s:Nat}{L a:QA}{x:QM}(h:Inv n s L)(b:Xj L x a):Inv (n+1) s a:=by
 obtain⟨rfl,_⟩:=b;exact⟨by have:=h.casks;simp only;omega,by have:=h.duties;simp;omega,h.stamps,h.days,h.rules,h.batches,h.pure⟩
theorem SI{n s:Nat}{L:QA}(h:Inv n s L)(c:n<=1000000)(b:L.rules.isNone=false)(x:QM):Yq (Xj L x) (BR L x):=by
 unfold BR
 obtain⟨r,a⟩:∃r,L.rules=some r:=by cases a:L.rules with
  | none=>rw[a] at b;cases b
  | some r=>exact⟨r,rfl⟩
 rw[a];show Yq _ (if _ then _ else _);rw[Bm ⟨h.rules r a,by have:=h.duties;omega⟩,<-a];exact Yq.rL xY λhe=>Yq.ok ⟨rfl,r,a,he⟩
def Mx(L:QA)(x:QH)(a:QA):Prop:=a={L with stamps:=L.stamps++[x]}/\Hx (L.stamps++[x])=0
theorem Inv.rk{n s:Nat}{L a:QA}{x:QH}(h:Inv n s L)(b:Mx L x a):Inv n (s+1) a:=by
 obtain⟨rfl,_⟩:=b;exact⟨h.casks,h.duties,by have:=h.stamps;simp;omega,h.days,h.rules,h.batches,h.pure⟩
theorem Lx{n s:Nat}{L:QA}(h:Inv n s L)(hs:s < 256)(x:QH):Yq (Mx L x) (PG L x):=by
 unfold PG;rw[Bm (by have:=h.stamps;omega)];exact Yq.rL Ip λhe=>Yq.ok ⟨rfl,he⟩
theorem HS.rules{L a:QA}{x:QE}(h:HS L x a):a.rules=L.rules:=by obtain⟨rfl,_⟩:=h;rfl
theorem Xj.rules{L a:QA}{x:QM}(h:Xj L x a):a.rules=L.rules:=by obtain⟨rfl,_⟩:=h;rfl
def dV(n s:Nat)(L a:QA):Prop:=Inv n s a/\a.rules=L.rules
theorem qM{n s:Nat}{L:QA}(h:Inv n s L)(g:n<=999000)(d:L.rules.isNone=false)(fro to a:Int):Yq (dV (n+2) s L) (N9 L fro to a):=by
 unfold N9;split
 ·exact Yq.ok ⟨h.up qz<|S2 _,rfl⟩
 ·refine Yq.sX (SI h qz d _) λi c=>Yq.sX (SI (h.sq c) qz (by rw[c.rules];exact d) _) λf e=>Yq.ok ?_;have b:=(h.sq c).sq e;exact⟨⟨b.casks,b.duties,b.stamps,b.days,b.rules,b.batches,b.pure⟩,by show f.rules=_;rw[e.rules,c.rules]⟩
theorem EL{L s:QA}{x:QE}(h:HS L x s)(b:x.Kind=2∨x.Kind=3):(atR L x.Cask).2=0/\1<=x.Amount/\x.Amount<=(atR L x.Cask).1.Amount:=by
 obtain⟨_,all,m,k,n,_,p,q⟩:=h;have d:=Ca.DW p (by rcases b with b | b<;>simp[b]);unfold atR;generalize e:({x with Day:=L.day}:QE)=y at p q d
 have t:y.Kind=x.Kind:=by rw[<-e]
 have g:y.Cask=x.Cask:=by rw[<-e]
 have l:y.Amount=x.Amount:=by rw[<-e]
 rw[l] at d
 rw[<-g];cases q with
 | rack k i c f h j o v h' ne w u z a r=>rw[Ca.Rz n f h];exact⟨rfl,d.1,by show _<=c.C.Amount;omega⟩
 | drain k i c f h u a=>rw[Ca.Rz n f h];exact⟨rfl,d.1,by show _<=c.C.Amount;omega⟩
 | make k=>omega
 | fill k=>omega
 | carry k=>omega
 | sell k=>omega
 | pledge k=>omega
 | free k=>omega
 | char k=>omega
theorem Nr{a b:Int}(c:b≠0):∃q,DC .i64 a b=some q:=by unfold DC;rw[B2 c];exact⟨_,rfl⟩
theorem qE{L d:QA}{x:QE}(h:HS L x d)(e:x.Kind=2∨x.Kind=3)(c:QA):∃p,AU c (atR L x.Cask).1 x.Amount=some p/\True:=by
 obtain⟨_,g,i⟩:=EL h e;unfold AU;split
 ·exact⟨_,rfl,trivial⟩
 ·obtain⟨q,f⟩:=Nr (a:=Qz<|Ze c (atR L x.Cask).1.Number*x.Amount) (b:=(atR L x.Cask).1.Amount) qz;exact⟨q,f,trivial⟩
abbrev My(n s:Nat)(L:QA)(r:Q0 DO×QA):Prop:=Inv n s r.2/\(r.1=E9∨r.2=L)/\r.1.length<=2300000
theorem Gh{n s:Nat}{a L:QA}(h:Inv n s L):Yq (My n s a) (qI L):=Yq.ok ⟨h,.inl rfl,by show(2:Nat)<=_;omega⟩
section
variable{n s:Nat}{L:QA}(h:Inv n s L)(hn:n<=900000)(hs:s < 256)(hr:L.rules.isNone=false)
include h
theorem TY{w:Q0 DO}{l:Q0 Int}(a:w.length<=1000)(b:l.length<=100000)(hi:l.all IU=true):Yq (My n s L) (LD w l L):=by
 unfold LD;rw[Bm ⟨a,b,hi⟩];exact Yq.ok ⟨h,.inr rfl,by have:=NG w l;show(HE w l).length<=_;omega⟩
theorem xa(d:Int):Yq (My n s L) (gz L [d]):=Yq.sU er λ_=>Yq.sU er λa=>Gh ⟨h.casks,h.duties,h.stamps,λx b=>ob (h.days x b) (by simpa using a),h.rules,h.batches,h.pure⟩
theorem jx(a b c:Int){d:Q0 Int}{ps:Q0 (Int×Int)}(e:XT d=some ps)(f:d.length<=1000000):Yq (My n s L) (Nk L<|a::b::c::d):=by
 show Yq _ (if _ then _ else _);rw[Bm f,e];refine Yq.sU er λ_=>Yq.sU er λ_=>Gh ⟨h.casks,h.duties,h.stamps,h.days,λr hr=> ?_,h.batches,h.pure⟩;simp only[UV] at hr
 subst hr;have:=(Fg e).2;simp[X9];omega
include hn
theorem uG(c w p m o:Int):Yq (My (n+1) s L) (uH L [c,w,p,m,o]):=Yq.sU er λ_=>Yq.sX (GQ h qz _) λ_ a=>Gh<|h.sV a
theorem Lr(k c p t:Int):Yq (My (n+1) s L) (NK k L [c,p,t]):=Yq.sX (GQ h qz _) λ_ a=>Gh<|h.sV a
theorem uV(c p:Int):Yq (My (n+1) s L) (uW L [c,p]):=Yq.sX (GQ h qz _) λ_ a=>Gh<|h.sV a
theorem u5(c p:Int):Yq (My (n+1) s L) (u6 L [c,p]):=Yq.sX (GQ h qz _) λ_ a=>Gh<|h.sV a
include hr
theorem uZ(c a b:Int):Yq (My (n+2) s L) (ua L [c,a,b]):=by
 refine Yq.sU er λ_=>Yq.sX (GQ h qz _) λg d=>Yq.sX (Q:=Inv (n+2) s) ?_ λf e=>Gh e;unfold filled;split
 ·refine Yq.sX (SI (h.sV d) qz (by rw[d.rules];exact hr) _) λf e=>Yq.ok ?_;exact((h.sV d).sq e).set<|OA _
 ·exact Yq.ok<|(h.sV d).up qz<|S2 _
theorem vo(a b m:Int):Yq (My (n+3) s L) (vp L [a,b,m]):=by
 refine Yq.sX (GQ h qz _) λd c=>Yq.bind (qE c (.inl rfl) d) λp _=>Yq.sX (qM (h.sV c) qz (by rw[c.rules];exact hr) _ _ _) λf e=> ?_;exact Gh<|(e.1.set<|OA _).set<|OA _
theorem yj(a p:Int):Yq (My (n+3) s L) (kV L [a,p]):=Yq.sX (GQ h qz _) λd b=>Yq.sX (qM (h.sV b) qz (by rw[b.rules];exact hr) _ _ _) λe c=>Gh c.1
theorem w7(a:Int):Yq (My (n+1) s L) (gZ L [a]):=Yq.sX (SI h qz hr _) λ_ b=>Gh<|h.sq b
omit hr hn
include hs
theorem NY(k a b:Int):Yq (My n (s+1) L) (TW k L [a,b]):=Yq.sX (Lx h hs _) λ_ c=>Gh<|h.rk c
end
theorem qn{n s:Nat}{L:QA}(h:Inv n s L)(m:n<=900000)(k:L.rules.isNone=false)(c a:Int):Yq (λr=>Inv (n+2) s r.2/\r.2.rules=L.rules) (BS L c a):=by
 refine Yq.rL Ca.kq λ_=>Yq.sX (GQ h qz _) λl d=>Yq.bind (qE d (.inr rfl) l) λp _=>Yq.sX (Q:=λe=>Inv (n+2) s e/\e.rules=L.rules) ?_ λe f=> ?_
 ·unfold Te;split
  ·refine Yq.sX (SI (h.sV d) qz (by rw[d.rules];exact k) _) λe f=>Yq.ok ⟨((h.sV d).sq f).set<|OA _,?_⟩;show e.rules=_;rw[f.rules,d.rules]
  ·exact Yq.ok ⟨(h.sV d).up qz<|S2 _,d.rules⟩
 ·have j:=(EL d<|.inr rfl).2.1;obtain⟨lo,g⟩:=Nr (a:=Qz<|p*10000) (b:=a) (by show a≠0;have:1<=a:=j;omega);obtain⟨hi,i⟩:=Nr (a:=Qz<|Qz (Qz (p*10000)+a) - 1) (b:=a) (by show a≠0;have:1<=a:=j;omega);rw[g,K1,i,K1];exact Yq.ok f
theorem Ek{s:Nat}{R:Q2 Ql}(c:R.isNone=false):∀(ps:Q0 (Int×Int)) (n:Nat) (L:QA) (b:QU),Inv n s L->n+2*ps.length<=900000->b.Draughts.length+ps.length<=1000->L.rules=R->
  Yq (λr=>Inv (n+2*ps.length) s r.2/\r.1.Draughts.length=b.Draughts.length+ps.length) (Bx ps b L)
 | [],n,L,b,h,_,_,_=>Yq.ok ⟨h,rfl⟩
 | p::ps,n,L,b,h,f,g,d=>by
  simp only[kn] at f g
  refine Yq.sX (qn h qz (by rw[d];exact c) p.1 p.2) λr a=> ?_;rw[Bm qz];refine(Ek c ps (n+2) r.2 _ a.1 qz zg<|by rw[a.2,d]).imp λq e=>⟨e.1.up zg<|S2 _,?_⟩;rw[e.2];simp;omega
section
variable{n s:Nat}{L:QA}(h:Inv n s L)(hn:n<=800000)(hs:s < 256)(hr:L.rules.isNone=false)
include h hn hs hr
theorem kX(c w a z:Int){ds:Q0 Int}{ps:Q0 (Int×Int)}(i:XT ds=some ps)(m:ds.length<=1000):Yq (My (n+1000) (s+1) L) (IC L<|c::w::a::z::ds):=by
 have j:=(Fg i).2;show Yq _ (if _ then _ else _);rw[Bm qz,i];refine Yq.sU er λ_=>Yq.sX (Ek hr ps n L _ h qz zg rfl) λr e=> ?_;have d:r.1.Draughts.length<=1000:=by rw[e.2];simp;omega
 rw[Bm d];refine Yq.sU er λ_=>Yq.sU er λ_=>Yq.sX (Lx e.1 hs _) λo l=>Gh ?_;have f:=(e.1.rk l).up (show _<=n+1000 by omega)<|S2 _;refine⟨f.casks,f.duties,f.stamps,f.days,f.rules,λk b g=> ?_,f.pure⟩;simp only at g
 rw[Ca.Av] at g
 split at g
 ·simp only[UV] at g;subst g;exact d
 ·exact f.batches k b g
omit hn hs hr
theorem OJ(c:Int):Yq (My n s L) (PH L [c]):=by
 refine Yq.rL Ca.kq λhe=>TY h j2 zh ?_;obtain⟨last,m,b,e,a,d⟩:=Ca.we (l:=L.casks) (num:=c) (day:=L.day) he;have f:=a.amt;have g:=a.room;have i:=a.age;have j:=a.owner;have k:=a.cred;simp only[atR,e,s8,lf,h.pure,mw,BY];exact⟨Bt qz,Bt qz,Bt qz,Bt qz⟩
theorem LA(c:Int):Yq (My n s L) (Ao L [c]):=by
 refine Yq.rL Ca.gS λ_=> ?_;obtain⟨d,a⟩:=Ca.gR L.casks c L.day;exact TY h j2 qz<|If.2 λx b=>Bt (by have:=a x b;omega)
theorem LB(a k w v:Int):Yq (My n s L) (Hy L [a,k,w,v]):=by
 unfold Hy;simp only;split
 ·exact Yq.pan er
 ·rename_i b d;unfold O7;rw[Bm<|h.batches a b d,K1];have c:∀b:Bool,(if b then vR else zV).length<=2300000:=λb=>by cases b<;>decide
  split
  ·exact Yq.rL (e:=0) (λh=>absurd rfl h) λ_=>Yq.ok ⟨h,.inr rfl,c _⟩
  ·exact Yq.rL (e:=1) (λ_=>er) λ_=>Yq.ok ⟨h,.inr rfl,c true⟩
include hr
theorem Es:∃r,L.rules=some r/\Mt L=some (DR r L.duties L.day).1:=by
 unfold Mt;cases a:L.rules with
 | none=>rw[a] at hr;cases hr
 | some r=>
  simp only;rw[Bm<|h.rules r a];exact⟨r,rfl,rfl⟩
end
theorem ID(r:Ql)(l:Q0 QM)(day:Int):(∀j,j < 16->IU ((DR r l day).1.Bonds j)=true)/\IU (DR r l day).1.Due=true/\IU (DR r l day).1.Paid=true:=by
 unfold DR;cases c:Ex.JZ r l day with
 | mk q k=>
  cases q with
  | inr e=>exact⟨λ_ _=>rfl,rfl,rfl⟩
  | inl a=>
   obtain⟨_,b,f,g⟩:=Ex.Fc c;have h:=Ex.PN c;have i:=Ex.xZ b qz;exact⟨λj d=>Bt (by have:=b.bonds j d;show _<=a.B.Bonds j/\a.B.Bonds j<=_;omega),Bt (by show _<=a.B.Due/\a.B.Due<=_;omega),Bt (by show _<=a.B.Paid/\a.B.Paid<=_;omega)⟩
open Bo in
theorem gP{l:Q0 QH}(n:Int)(a:Wn UD l):IU (Lm l n).1=true:=by
 unfold Lm;cases h:(cur l n).filter (λe=>decide<|e.Kind=1) with
 | none=>rfl
 | some e=>
  rw[<-IZ n l a] at h
  have b:=List.find?_some h;simp only[AT] at b
  obtain⟨pre,post,rfl⟩:=lT<|mq h;have:=((jE e).1 (qh<|a pre e post rfl).1).2.1 b.1;exact Bt (by show _<=e.Batch/\e.Batch<=_;omega)
section
variable{n s:Nat}{L:QA}(h:Inv n s L)
include h
theorem OK(b:L.rules.isNone=false){c:Int}(d:0<=c):Yq (My n s L) (PI L [c]):=by
 refine Yq.sU er λa=> ?_;obtain⟨r,_,e⟩:=Es h b;have a:c < 16:=by simpa using a
 rw[e,K1,Bo.S3 d qz,K1];exact TY h j2 zh (by simp only[s8,lf,mw];exact(ID r L.duties L.day).1 _ qz)
theorem Iq(a:L.rules.isNone=false)(l:Q0 Int):Yq (My n s L) (FV L l):=by
 unfold FV;obtain⟨r,_,b⟩:=Es h a;rw[b,K1];obtain⟨_,c,d⟩:=ID r L.duties L.day;exact TY h j2 zh<|by simp only[s8,lf,mw,c,d]
theorem M9(hs:s < 256)(c:Int):Yq (My n s L) (An L [c]):=by
 have b:L.stamps.length<=256:=by have:=h.stamps;omega
 show Yq _ ((E8 _ _).bind _);unfold E8;rw[Bm b,K1];obtain⟨_,_,_,d⟩:=Al L.stamps b;by_cases he:Hx L.stamps=0
 ·rw[Bm<|by simpa using he];refine Yq.rL (λa=> ?_) λ_=>TY h j2 zh (by simp only[s8,lf,mw];exact gP c<|d he);unfold Bo.Lm at a ⊢
  split
  ·rename_i e;rw[e] at a;exact absurd rfl a
  ·exact er
 ·rw[B2<|by simpa using he];exact Yq.rL Ip λf=>absurd f he
end
theorem vn{line:Q0 DO}{w:Q0 DO×Q0 Int}(h:Hb line= .ok w):∀x∈w.2,0<=x:=by
 unfold Hb at h
 split at h
 ·cases h
 ·split at h
  ·simp only[Out.ok.injEq] at h
   subst h;intro x a;obtain⟨p,_,rfl⟩:=n2.1 a;exact Int.natCast_nonneg _
  ·cases h
theorem As:∀(l:Q0 Int),l.length%2=0->∃ps,XT l=some ps
 | [],_=>⟨[],rfl⟩
 | [_],h=>by simp at h
 | a::b::l,h=>by
  obtain⟨ps,c⟩:=As l (by simp at h;omega);exact⟨(a,b)::ps,by simp[XT,c]⟩
theorem qc{a:Int}{l:Q0 Int}(h:XM a 0 l.length=true):(l.length:Int)=a:=by simpa[XM] using h
theorem gF{a:Int}{l:Q0 Int}(h:XM a 2 l.length=true):(l.length:Int) > a/\((l.length:Int) - a)%2=0:=by simpa[XM] using h
theorem PZ{l:Q0 Int}(h:XM 1 0 l.length=true):∃a,l=[a]:=by
 have:=qc h;rcases l with _ | ⟨a,_ | ⟨b,l⟩⟩<;>simp at this
 ·exact⟨a,rfl⟩
 ·omega
theorem Rk{l:Q0 Int}(h:XM 2 0 l.length=true):∃a b,l=[a,b]:=by
 have:=qc h;rcases l with _ | ⟨a,_ | ⟨b,_ | ⟨c,l⟩⟩⟩<;>simp at this
 ·exact⟨a,b,rfl⟩
 ·omega
theorem qT{l:Q0 Int}(h:XM 3 0 l.length=true):∃a b c,l=[a,b,c]:=by
 have:=qc h;rcases l with _ | ⟨a,_ | ⟨b,_ | ⟨c,_ | ⟨d,l⟩⟩⟩⟩<;>simp at this
 ·exact⟨a,b,c,rfl⟩
 ·omega
theorem fy{l:Q0 Int}(h:XM 4 0 l.length=true):∃a b c d,l=[a,b,c,d]:=by
 have:=qc h;rcases l with _ | ⟨a,_ | ⟨b,_ | ⟨c,_ | ⟨d,_ | ⟨e,l⟩⟩⟩⟩⟩<;>simp at this
 ·exact⟨a,b,c,d,rfl⟩
 ·omega
theorem fx{l:Q0 Int}(h:XM 5 0 l.length=true):∃a b c d e,l=[a,b,c,d,e]:=by
 have:=qc h;rcases l with _ | ⟨a,_ | ⟨b,_ | ⟨c,_ | ⟨d,_ | ⟨e,_ | ⟨f,l⟩⟩⟩⟩⟩⟩<;>simp at this
 ·exact⟨a,b,c,d,e,rfl⟩
 ·omega
theorem hZ{l:Q0 Int}(h:XM 3 2 l.length=true):∃a b c d ps,l=a::b::c::d/\XT d=some ps:=by
 have:=gF h;rcases l with _ | ⟨a,_ | ⟨b,_ | ⟨c,l⟩⟩⟩<;>simp only[kn,hF,eI,oA,fm] at this
 iterate 3 omega
 ·obtain⟨ps,e⟩:=As l qz;exact⟨a,b,c,l,ps,rfl,e⟩
theorem gA{l:Q0 Int}(h:XM 4 2 l.length=true):∃a b c d e ps,l=a::b::c::d::e/\XT e=some ps:=by
 have:=gF h;rcases l with _ | ⟨a,_ | ⟨b,_ | ⟨c,_ | ⟨d,l⟩⟩⟩⟩<;>simp only[kn,hF,eI,oA,fm] at this
 iterate 4 omega
 ·obtain⟨ps,f⟩:=As l qz;exact⟨a,b,c,d,l,ps,rfl,f⟩
theorem Wf{n s n' a:Nat}{L:QA}{x:RL}(h:Yq (My n s L) x)(b:n<=n')(hs:s<=a):Yq (My n' a L) x:=h.imp λ_ h=>⟨h.1.up b hs,h.2⟩
theorem uK{n s:Nat}{L:QA}(h:Inv n s L)(x:n<=700000)(hs:s < 256)(line:Q0 DO):Yq (My (n+1000) (s+1) L) (CU L line):=by
 unfold CU;split
 ·exact Yq.pan er
 rename_i v;cases j:Hb line with
 | pan q=>
  refine Yq.pan ?_;unfold Hb at j
  split at j
  ·cases j;exact er
  ·split at j
   ·cases j
   ·cases j;exact er
 | ok w=>
  simp only;cases m:Cv w.1 with
  | none=>exact Yq.pan er
  | some d=>
   refine Yq.sU er λf=>Yq.sU er λg=> ?_;rw[Bm ⟨by have:=h.casks;omega,by have:=h.duties;omega,by have:=h.stamps;omega⟩];have o:d∈HW:=mq m;have k:d.word=w.1:=by simpa using List.find?_some m
   have l:=vn j;have i:w.2.length<=1000:=by have:=I3 j;omega
   have g:d.word≠[100,97,121]->d.word≠[114,117,108,101,115]->L.rules.isNone=false:=λt u=>by
    rw[k] at t u
    simpa[t,u] using g
   clear j m k
   generalize w.2=p at f l i ⊢
   unfold HW at o
   simp only[Tc,eP,oR] at o
   rcases o with rfl | rfl | rfl | rfl | rfl | rfl | rfl | rfl | rfl | rfl | rfl | rfl | rfl | rfl | rfl | rfl | rfl | rfl | rfl | rfl
   ·obtain⟨a,rfl⟩:=PZ f;exact Wf (xa h a) qz qz
   ·obtain⟨a,b,c,p,ps,rfl,r⟩:=hZ f;exact Wf (jx h a b c r (by simp at i;omega)) qz qz
   ·obtain⟨a,b,c,d,e,rfl⟩:=fx f;exact Wf (uG h qz a b c d e) qz qz
   ·obtain⟨a,b,c,rfl⟩:=qT f;exact Wf (uZ h qz (g j2 j2) a b c) qz qz
   ·obtain⟨a,b,c,rfl⟩:=qT f;exact Wf (vo h qz (g j2 j2) a b c) qz qz
   ·obtain⟨a,b,rfl⟩:=Rk f;exact Wf (yj h qz (g j2 j2) a b) qz qz
   ·obtain⟨a,b,c,rfl⟩:=qT f;exact Wf (Lr h qz 5 a b c) qz qz
   ·obtain⟨a,b,c,rfl⟩:=qT f;exact Wf (Lr h qz 6 a b c) qz qz
   ·obtain⟨a,b,rfl⟩:=Rk f;exact Wf (uV h qz a b) qz qz
   ·obtain⟨a,b,rfl⟩:=Rk f;exact Wf (u5 h qz a b) qz qz
   ·obtain⟨a,b,rfl⟩:=Rk f;exact Wf (NY h hs 0 a b) qz qz
   ·obtain⟨a,b,rfl⟩:=Rk f;exact Wf (NY h hs 2 a b) qz qz
   ·obtain⟨a,b,c,d,p,ps,rfl,r⟩:=gA f;exact Wf (kX h qz hs (g j2 j2) a b c d r (by simp at i;omega)) qz qz
   ·obtain⟨a,rfl⟩:=PZ f;exact Wf (w7 h qz (g j2 j2) a) qz qz
   ·obtain⟨a,rfl⟩:=PZ f;exact Wf (OJ h a) qz qz
   ·obtain⟨a,rfl⟩:=PZ f;exact Wf (OK h (g j2 j2)<|l a zh) qz qz
   ·exact Wf (Iq h (g j2 j2) p) qz qz
   ·obtain⟨a,rfl⟩:=PZ f;exact Wf (M9 h hs a) qz qz
   ·obtain⟨a,b,c,d,rfl⟩:=fy f;exact Wf (LB h a b c d) qz qz
   ·obtain⟨a,rfl⟩:=PZ f;exact Wf (LA h a) qz qz
theorem gv{n s:Nat}{L:QA}(h:Inv n s L)(c:n<=700000)(hs:s < 256)(line:Q0 DO):∃a e b,uu L line=some (a,e,b)/\Inv (n+1000) (s+1) b/\((Er e/\a=[]/\b=L)∨(e=0/\CU L line=some (.ok (a,b))/\(a=E9∨b=L)/\a.length<=2300000)):=by
 obtain⟨r,d,f,g⟩:=uK h c hs line;unfold uu;rw[d];cases r with
 | pan q=>exact⟨_,_,_,rfl,h.up qz qz,.inl ⟨g q rfl,rfl,rfl⟩⟩
 | ok r=>
  obtain⟨i,j,k⟩:=f r rfl;exact⟨_,_,_,rfl,i,.inr ⟨rfl,rfl,j,k⟩⟩
end Go.Proofs.YtbjgigfhnlnbfaaGreatDoor
end
namespace Go.Proofs.YtbjgigfhnlnbfaaGreatDoor
section
open Go.Dec Go.Proofs.Tryz Go.Shelf Go.RowKit Go.Maps Go.Sort
set_option maxRecDepth 100000
set_option maxHeartbeats 4000000
abbrev cB:= @Tryz.underlying58
end
section
open Go.Dec
def WT(l:Q0 (Q0 DO)):Nat:=(l.map λx=>x.length+1).sum
theorem qd(l:Q0 (Q0 DO))(c:∀x∈l,x.length<=140737488351232):∀(post pre:Q0 (Q0 DO)),l=pre++post->pre.length<=41->
  ∃b:Int,ZT (Jo l) ((WT pre:Int),(pre.length:Int))=some b/\(l.length<=40->b=WT l)
 | [],pre,e,j=>by
  rw[mf] at e
  subst e;refine⟨WT l,?_,λ_=>rfl⟩;rw[ZJ];unfold Jo;simp
 | x::post,pre,e,j=>by
  have k:=Vm e;have hi:=Xq e;by_cases m:pre.length < 41
  ·have s:WT pre<=pre.length*140737488351233:=by
    have:∀(q:Q0 (Q0 DO)),(∀x∈q,x.length<=140737488351232)->WT q<=q.length*140737488351233:=by
     intro q
     induction q with
     | nil=>intro _;simp[WT]
     | cons y q o=>
      intro h;have g:=o λz p=>h z (by simp[p]);have i:=h y zh;have d:WT (y::q)=y.length+1+WT q:=by simp[WT]
      rw[d,kn];omega
    exact this pre λy r=>c y (by rw[e];simp[r])
   have t:=c x (by rw[e];simp)
   have a:Jo l ((WT pre:Int),(pre.length:Int))=some (.next ((WT (pre++[x]):Int),((pre++[x]).length:Int))):=by
    unfold Jo;have f:(decide ((pre.length:Int) < (l.length:Int))&&decide ((pre.length:Int) < 41))=true:=by simp;omega
    simp only[f,B3,Zy,k,K1,QQ];rw[Qi (n:=(WT pre:Int)+(x.length:Int)) qz qz,Qi qz qz,Qi qz qz];have d:WT (pre++[x])=WT pre+(x.length+1):=by simp[WT]
    rw[d];simp only[hN,ls];congr 4
   obtain⟨b,g,i⟩:=qd l c post (pre++[x]) (by rw[e];simp) zg;refine⟨b,?_,i⟩;rw[ZJ,a];exact g
  ·refine⟨WT pre,?_,λh=>by omega⟩;rw[ZJ];unfold Jo;have f:(decide ((pre.length:Int) < (l.length:Int))&&decide ((pre.length:Int) < 41))=false:=by simp;omega
   simp only[f,H1,By]
theorem gu(l:Q0 (Q0 DO))(a:∀x∈l,x.length<=140737488351232):∃b,Ub l=some b/\(b=true->l.length<=40/\WT l<=4000):=by
 obtain⟨b,c,d⟩:=qd l a l [] rfl zh;refine⟨_,by unfold Ub;exact ZQ c rfl,λh=> ?_⟩;simp only[BY,AT] at h
 have e:=d qz;omega
section
variable{A:Q0 Qr}{i:Nat}{L:QA}
theorem Mh(h:A[i]? =some ⟨L,true⟩)(a:L.casks.length<=1000000):VT A (some i)=some L.casks:=by
 unfold VT KN;simp only[lR,H1,By,K1,h,RK];rw[Ut zg];rfl
theorem yX(h:A[i]? =some ⟨L,true⟩)(a:L.duties.length<=1000000):Ys A (some i)=some L.duties:=by
 unfold Ys KL;simp only[lR,H1,By,K1,h,RK];rw[Ut zg];rfl
theorem w5(h:A[i]? =some ⟨L,true⟩)(c:Int):Vw A (some i) c=some (Ze L c):=by
 unfold Vw Ze;simp only[lR,H1,By,K1,h,RK]
theorem ur{n s:Nat}(h:A[i]? =some ⟨L,true⟩)(d:Inv n s L)(f:n<=700000)(hs:s < 256)(line:Q0 DO):∃a e b,WE A (some i) line=some (a,e,A.set i ⟨b,true⟩)/\uu L line=some (a,e,b)/\Inv (n+1000) (s+1) b/\((Ca.Er e/\a=[]/\b=L)∨(e=0/\CU L line=some (.ok (a,b))/\(a=E9∨b=L)/\a.length<=2300000)):=by
 obtain⟨a,e,b,c,g,j⟩:=gv d f hs line;exact⟨a,e,b,gH h line _ (by rw[c];rfl),c,g,j⟩
end
end
section
open Go.Dec
theorem jT:∀d:Nat,d < 10->Go.Dec.encS (IntKind.i32.wrap<|Qz<|48+(d:Int))=[UInt8.ofNat<|48+d]
 | 0,_=>by decide+kernel
 | 1,_=>by decide+kernel
 | 2,_=>by decide+kernel
 | 3,_=>by decide+kernel
 | 4,_=>by decide+kernel
 | 5,_=>by decide+kernel
 | 6,_=>by decide+kernel
 | 7,_=>by decide+kernel
 | 8,_=>by decide+kernel
 | 9,_=>by decide+kernel
 | d+10,h=>by omega
theorem Ih:∀(f k u:Nat),u < 10^f->f<=k->0 < f->f<=18->Kj k (u:Int)=some (Dk f u)
 | 0,k,u,_,_,e,_=>absurd e (iG 0)
 | f+1,0,u,_,h,_,_=>by omega
 | f+1,k+1,u,d,m,_,n=>by
  unfold Kj Dk;have g:decide ((u:Int) < (-9))=false:=bY qz;have i:decide ((u:Int) < 0)=false:=bY qz;rw[g,i];simp only[H1,By];by_cases a:u < 10
  ·rw[Bm a,Bm (hR qz),jT u a]
  ·rw[B2 a,B2 (by rw[bY qz];simp)];rw[oT] at d
   have c:0 < f:=by
    cases f with
    | zero=>simp at d;omega
    | succ f=>omega
   have b:u / 10 < 10^f:=by omega
   have o:10^f<=10^17:=oF qz qz;have j:Int.tdiv (u:Int) 10=((u / 10:Nat):Int):=by rw[mZ qz];omega
   have l:Int.tmod (u:Int) 10=((u%10:Nat):Int):=by rw[lU qz];omega
   rw[j,l,Qi qz qz,Ih f k (u / 10) b qz c qz,K1,jT (u%10) qz];have p:=SL f<|u / 10;rw[Ut zg];rfl
theorem Ra:∀(f g u:Nat),u < 10^f->0 < f->f<=g->Dk g u=Dk f u
 | f,g,u,h,a,b=>by
  have c:u < 10^g:=eZ h (oF qz b);rw[Tr g u c qz,Tr f u h a]
theorem OB{n:Int}(b:0<=n)(c:n < 1000000000000000000):JL n=some (WW n):=by
 obtain⟨u,rfl⟩:=eo b;have a:u < 10^18:=by omega
 unfold JL WW;rw[Ih 18 100 u a qz qz qz,B2 qz,hQ,Ra 18 20 u a qz qz]
end
section
open Go.Dec
variable{L L1:QA}{rep:Q0 DO}{β:Type}
theorem YX{b:Bool}{e:Int}{k:RO β}{r:β}(h:V8 b e k=some (.ok r)):b=true/\k=some (.ok r):=by
 unfold V8 at h
 cases b with
 | true=>exact⟨rfl,h⟩
 | false=>cases h
theorem Y2{α:Type}{x:RO α}{k:α->RO β}{r:β}(h:HU x k=some (.ok r)):∃a,x=some (.ok a)/\k a=some (.ok r):=by
 unfold HU at h
 cases x with
 | none=>cases h
 | some x=>
  cases x with
  | ok a=>exact⟨a,rfl,h⟩
  | pan q=>cases h
theorem Xn{c:Prop}[Decidable c]{a:Q2 β}{r:β}(h:(if c then a else none)=some r):c/\a=some r:=by
 by_cases b:c
 ·rw[Bm b] at h;exact⟨b,h⟩
 ·rw[B2 b] at h;cases h
theorem X3{x:QE}(c:∀y∈L.casks,y.Day<=L.day)(h:CX L x=some (.ok L1)):HS L x L1:=by
 obtain⟨_,h⟩:=Xn h;obtain⟨he,h⟩:=YX h;simp only[UV,Out.ok.injEq] at h
 subst h;refine⟨rfl,?_⟩;obtain⟨a,k,b⟩:=Ca.ja (by simpa using he);obtain⟨all,d,e,f⟩:=Ca.EH (x:={x with Day:=L.day}) rfl c b;exact⟨all,a,k,d,b,e,f⟩
theorem SJ{x:QM}(h:BR L x=some (.ok L1)):Xj L x L1:=by
 unfold BR at h
 split at h
 ·cases h
 ·rename_i r a;obtain⟨_,h⟩:=Xn h;obtain⟨he,h⟩:=YX h;simp only[UV,Out.ok.injEq] at h
  subst h;exact⟨by rw[a],r,a,by simpa using he⟩
theorem PF{x:QH}(h:PG L x=some (.ok L1)):L.stamps.length < 256/\Mx L x L1:=by
 obtain⟨a,h⟩:=Xn h;obtain⟨he,h⟩:=YX h;simp only[UV,Out.ok.injEq] at h
 subst h;exact⟨a,rfl,by simpa using he⟩
inductive Rf(L:QA)(fro to n:Int):QA->Prop where
 | stay (h:n=0∨fro=to):Rf L fro to n L
 | go (hn:n≠0) (hf:fro≠to) (L1 L2:QA) (d1:Xj L ⟨1,0,fro,to,L.ids,n⟩ L1) (d2:Xj L1 ⟨2,0,to,0,L1.ids,n⟩ L2):Rf L fro to n {L2 with ids:=Qz (L2.ids+1)}
theorem qN{fro to n:Int}(h:N9 L fro to n=some (.ok L1)):Rf L fro to n L1:=by
 unfold N9 at h
 split at h
 ·rename_i a;simp only[UV,Out.ok.injEq] at h
  subst h;exact .stay<|by simpa using a
 ·rename_i a;obtain⟨d,b,h⟩:=Y2 h;obtain⟨e,c,h⟩:=Y2 h;simp only[UV,Out.ok.injEq] at h
  subst h;simp only[rm,mb,ik] at a
  exact .go a.1 a.2 _ _ (SJ b)<|SJ c
abbrev fp:Q0 DO:=[100,97,121]
abbrev HX:Q0 DO:=[114,117,108,101,115]
abbrev HY:Q0 DO:=[102,105,108,108]
abbrev kj:Q0 DO:=[98,111,116,116,108,101]
abbrev P9:Q0 (Q0 DO):=[[115,101,108,108],[112,108,101,100,103,101],[102,114,101,101],[99,104,97,114],[115,116,97,109,112,115],[115,112,111,105,108],[109,97,107,101],[114,97,99,107],[99,97,114,114,121],[112,97,121]]
abbrev gQ:Q0 (Q0 DO):=[[99,97,115,107],[98,111,110,100],[100,117,101],[119,104,111,115,101],[99,108,97,105,109],[102,105,108,108,115]]
inductive Deed(L:QA):List UInt8->List Int->List UInt8->QA->Prop where
 | day (d:Int) (h1:d<=65536) (h2:L.day<=d):Deed L fp [d] E9 {L with day:=d}
 | rules (a b c:Int) (ns:List Int) (ps:List (Int×Int)) (hp:XT ns=some ps) (h0:L.rules=none) (h1:Ex.XJ (X9 a b c ps)=true):Deed L HX (a::b::c::ns) E9 {L with rules:=some (X9 a b c ps)}
 | make (w:List UInt8) (hw:w∈P9) (c v p m o:Int) (L1:QA) (hm:m<=1073741824) (h:HS L ⟨0,0,c,v,o,0,m,p⟩ L1):Deed L w [c,v,p,m,o] E9 L1
 | fill0 (c n s:Int) (L1:QA) (hs:1<=s/\s<=10000) (h:HS L ⟨1,0,c,0,0,0,n,0⟩ L1) (hp:¬Uj n s > 0):Deed L HY [c,n,s] E9 L1
 | fill (c n s:Int) (L1 L2:QA) (hs:1<=s/\s<=10000) (h:HS L ⟨1,0,c,0,0,0,n,0⟩ L1) (hp:Uj n s > 0) (d:Xj L1 ⟨0,0,(atR L1 c).1.Place,0,0,Uj n s⟩ L2):Deed L HY [c,n,s] E9 (WY L2 c<|Qz<|Ze L2 c+Uj n s)
 | rack (w:List UInt8) (hw:w∈P9) (a b n p:Int) (L1 L2:QA) (h:HS L ⟨2,0,a,b,0,0,n,0⟩ L1) (hp:AU L1 (atR L a).1 n=some p) (hm:Rf L1 (atR L a).1.Place (atR L b).1.Place p L2):Deed L w [a,b,n] E9 (WY (WY L2 a<|Qz<|Ze L2 a - p) b<|Qz<|Ze (WY L2 a<|Qz<|Ze L2 a - p) b+p)
 | carry (w:List UInt8) (hw:w∈P9) (a p:Int) (L1 L2:QA) (h:HS L ⟨4,0,a,0,0,0,0,p⟩ L1) (hm:Rf L1 (atR L a).1.Place p (Ze L1 a) L2):Deed L w [a,p] E9 L2
 | keep (w:List UInt8) (hw:w∈P9) (ns:List Int) (x:QE) (L1:QA) (hk:5<=x.Kind/\x.Kind<=8) (h:HS L x L1):Deed L w ns E9 L1
 | stamps (w:List UInt8) (hw:w∈P9) (ns:List Int) (x:QH) (L1:QA) (hk:x.Kind≠1) (hl:L.stamps.length < 256) (h:Mx L x L1):Deed L w ns E9 L1
 | pay (w:List UInt8) (hw:w∈P9) (a:Int) (L1:QA) (h:Xj L ⟨6,0,0,0,0,a⟩ L1):Deed L w [a] E9 L1
 | bottle (num v a z:Int) (ds:List Int) (ps:List (Int×Int)) (b:QU) (L1 L2:QA) (hp:XT ds=some ps) (h0:Qb L.batches num=none) (hd:Bx ps ⟨[],v,⟨0,0⟩,false,false⟩ L=some (.ok (b,L1)))
  (hv:Bo.HF b=true) (hs:Qz (Qz (z - a)+1)<=vY b) (hl:L1.stamps.length < 256) (h:Mx L1 ⟨1,a,z,num⟩ L2):Deed L kj (num::v::a::z::ds) E9 {L2 with batches:=Q4 L2.batches num b}
 | ask (d:Wd) (hd:d∈HW) (hw:d.word∈gQ) (ns:List Int) (rep:List UInt8) (h:d.does L ns=some (.ok (rep,L))):Deed L d.word ns rep L
theorem Hc(h:qI L=some (.ok (rep,L1))):rep=E9/\L1=L:=by
 simp only[qI,UV,Out.ok.injEq,L4] at h
 exact⟨h.1.symm,h.2.symm⟩
theorem TZ{w:Q0 DO}{l:Q0 Int}(h:LD w l L=some (.ok (rep,L1))):L1=L:=by
 obtain⟨_,h⟩:=Xn h;simp only[UV,Out.ok.injEq,L4] at h
 exact h.2.symm
theorem O5{z:QA}{line:Q0 DO}(n:∀y∈L.casks,y.Day<=L.day)(h:CU L line=some (.ok (rep,z))):∃w o,Hb line= .ok (w,o)/\(∃d∈HW,d.word=w/\XM d.least d.each o.length=true)/\(w≠fp->w≠HX->L.rules.isNone=false)/\Deed L w o rep z:=by
 unfold CU at h
 split at h
 ·cases h
 cases A:Hb line with
 | pan q=>rw[A] at h;cases h
 | ok w=>
  rw[A] at h
  simp only at h
  cases t:Cv w.1 with
  | none=>rw[t] at h;cases h
  | some d=>
   rw[t] at h
   obtain⟨i,h⟩:=YX h;obtain⟨u,h⟩:=YX h;obtain⟨_,h⟩:=Xn h;have l:d∈HW:=mq t;have v:d.word=w.1:=by simpa using List.find?_some t
   refine⟨w.1,w.2,rfl,⟨d,l,v,i⟩,λj f=>by simpa[j,f] using u,?_⟩;rw[<-v];have g:d.word∈gQ->z=L->Deed L d.word w.2 rep z:=λj f=>by subst f;exact .ask d l j _ _ h
   clear u t A
   generalize w.2=o at i h g ⊢
   unfold HW at l
   simp only[Tc,eP,oR] at l
   rcases l with rfl | rfl | rfl | rfl | rfl | rfl | rfl | rfl | rfl | rfl | rfl | rfl | rfl | rfl | rfl | rfl | rfl | rfl | rfl | rfl
   ·obtain⟨a,rfl⟩:=PZ i;obtain⟨j,h⟩:=YX h;obtain⟨f,h⟩:=YX h;obtain⟨rfl,rfl⟩:=Hc h;exact .day a (by simpa using j)<|by simpa using f
   ·obtain⟨a,b,c,o,ps,rfl,m⟩:=hZ i;obtain⟨_,h⟩:=Xn h;rw[m,K1] at h
    obtain⟨j,h⟩:=YX h;obtain⟨f,h⟩:=YX h;obtain⟨rfl,rfl⟩:=Hc h;exact .rules a b c o ps m (by simpa using j) f
   ·obtain⟨a,b,c,d,e,rfl⟩:=fx i;obtain⟨j,h⟩:=YX h;obtain⟨L1,f,h⟩:=Y2 h;obtain⟨rfl,rfl⟩:=Hc h;exact .make _ zh _ _ _ _ _ _ (by simpa using j)<|X3 n f
   ·obtain⟨a,b,c,rfl⟩:=qT i;obtain⟨j,h⟩:=YX h;obtain⟨L1,f,h⟩:=Y2 h;obtain⟨s,k,h⟩:=Y2 h;obtain⟨rfl,rfl⟩:=Hc h;simp only[BY,AT] at j
    unfold filled at k
    split at k
    ·rename_i m;obtain⟨s,B,k⟩:=Y2 k;simp only[UV,Out.ok.injEq] at k
     subst k;exact .fill a b c L1 s j (X3 n f) m<|SJ B
    ·rename_i m;simp only[UV,Out.ok.injEq] at k
     subst k;exact .fill0 a b c _ j (X3 n f) m
   ·obtain⟨a,b,c,rfl⟩:=qT i;obtain⟨L1,f,h⟩:=Y2 h;obtain⟨p,m,h⟩:=x8.1 h;obtain⟨s,k,h⟩:=Y2 h;obtain⟨rfl,rfl⟩:=Hc h;exact .rack _ zh a b c p L1 s (X3 n f) m<|qN k
   ·obtain⟨a,b,rfl⟩:=Rk i;obtain⟨L1,f,h⟩:=Y2 h;obtain⟨s,k,h⟩:=Y2 h;obtain⟨rfl,rfl⟩:=Hc h;exact .carry _ zh a b L1 _ (X3 n f)<|qN k
   ·obtain⟨a,b,c,rfl⟩:=qT i;obtain⟨L1,f,h⟩:=Y2 h;obtain⟨rfl,rfl⟩:=Hc h;exact .keep _ zh _ _ _ ⟨by dsimp only;omega,by dsimp only;omega⟩<|X3 n f
   ·obtain⟨a,b,c,rfl⟩:=qT i;obtain⟨L1,f,h⟩:=Y2 h;obtain⟨rfl,rfl⟩:=Hc h;exact .keep _ zh _ _ _ ⟨by dsimp only;omega,by dsimp only;omega⟩<|X3 n f
   ·obtain⟨a,b,rfl⟩:=Rk i;obtain⟨L1,f,h⟩:=Y2 h;obtain⟨rfl,rfl⟩:=Hc h;exact .keep _ zh _ _ _ ⟨by dsimp only;omega,by dsimp only;omega⟩<|X3 n f
   ·obtain⟨a,b,rfl⟩:=Rk i;obtain⟨L1,f,h⟩:=Y2 h;obtain⟨rfl,rfl⟩:=Hc h;exact .keep _ zh _ _ _ ⟨by dsimp only;omega,by dsimp only;omega⟩<|X3 n f
   ·obtain⟨a,b,rfl⟩:=Rk i;obtain⟨L1,f,h⟩:=Y2 h;obtain⟨rfl,rfl⟩:=Hc h;obtain⟨x,f⟩:=PF f;exact .stamps _ zh _ _ _ (by show(0:Int)≠1;decide) x f
   ·obtain⟨a,b,rfl⟩:=Rk i;obtain⟨L1,f,h⟩:=Y2 h;obtain⟨rfl,rfl⟩:=Hc h;obtain⟨x,f⟩:=PF f;exact .stamps _ zh _ _ _ (by show(2:Int)≠1;decide) x f
   ·obtain⟨a,b,c,d,o,ps,rfl,m⟩:=gA i;obtain⟨_,h⟩:=Xn h;rw[m,K1] at h
    obtain⟨j,h⟩:=YX h;obtain⟨r,f,h⟩:=Y2 h;obtain⟨_,h⟩:=Xn h;obtain⟨k,h⟩:=YX h;obtain⟨B,h⟩:=YX h;obtain⟨s,C,h⟩:=Y2 h;obtain⟨rfl,rfl⟩:=Hc h;obtain⟨x,C⟩:=PF C;exact .bottle a b c d o ps r.1 r.2 s m (by simpa using j) f k (by simpa using B) x C
   ·obtain⟨a,rfl⟩:=PZ i;obtain⟨L1,f,h⟩:=Y2 h;obtain⟨rfl,rfl⟩:=Hc h;exact .pay _ zh a _<|SJ f
   ·obtain⟨a,rfl⟩:=PZ i;refine g zh ?_;obtain⟨_,h⟩:=YX h;exact TZ h
   ·obtain⟨a,rfl⟩:=PZ i;refine g zh ?_;obtain⟨_,h⟩:=YX h;obtain⟨_,_,h⟩:=x8.1 h;obtain⟨_,_,h⟩:=x8.1 h;exact TZ h
   ·refine g zh ?_;obtain⟨_,_,h⟩:=x8.1 h;exact TZ h
   ·obtain⟨a,rfl⟩:=PZ i;refine g zh ?_;obtain⟨_,_,h⟩:=x8.1 h;obtain⟨_,h⟩:=YX h;exact TZ h
   ·obtain⟨a,b,c,d,rfl⟩:=fy i;refine g zh ?_;unfold Hy at h
    simp only at h
    split at h
    ·cases h
    ·obtain⟨_,_,h⟩:=x8.1 h;obtain⟨_,h⟩:=YX h;simp only[UV,Out.ok.injEq,L4] at h
     exact h.2.symm
   ·obtain⟨a,rfl⟩:=PZ i;refine g zh ?_;obtain⟨_,h⟩:=YX h;exact TZ h
end
section
open Go.Dec
theorem AV(s:Q0 DO)(hs:s.length<=13):∀(post pre:Q0 DO),s=pre++post->pre.all Rn=true->
  ZT (Jd s) ((Ww pre:Int),(pre.length:Int))=some (if post.all Rn then .inl (Ww s:Int) else .inr (0,false))
 | [],pre,e,g=>by
  rw[mf] at e;subst e
  rw[ZJ];unfold Jd;simp
 | c::post,pre,e,g=>by
  have hi:=Xq e;have f:=Vm e;have o:=ko g qz;have p:c.toNat < 256:=c.toNat_lt
  have b:Jd s ((Ww pre:Int),(pre.length:Int))=some (if Rn c then .next ((Ww (pre++[c]):Int),((pre++[c]).length:Int)) else .done (.inr (0,false))):=by
   unfold Jd;simp only[Zy,f,K1,QQ,show(decide<|(pre.length:Int) < (s.length:Int))=true by simpa using hi,B3];by_cases a:Rn c=true
   ·have d:=a;simp only[Rn,BY,AT] at d
    have i:decide ((c.toNat:Int) < 48)=false:=bY qz;have j:decide ((c.toNat:Int) > 57)=false:=bY qz;simp only[i,j,H1,By,K1];rw[be _ qz qz,Qi (n:=10*(Ww pre:Int)) qz qz,Qi (n:=(c.toNat:Int) - 48) qz qz,Qi qz qz,Qi qz qz];have k:10*(Ww pre:Int)+((c.toNat:Int) - 48)=(Ww (pre++[c]):Int):=by rw[Ss];omega
    have l:(pre.length:Int)+1=((pre++[c]).length:Int):=by simp
    rw[k,l,a];rfl
   ·have d:=a;simp only[Rn,BY,AT] at d
    rw[B2 a];by_cases h:(c.toNat:Int) < 48
    ·simp only[hR h,B3,K1]
    ·simp only[bY h,H1,By,K1,show decide ((c.toNat:Int) > 57)=true from hR qz,B3]
  rw[ZJ,b];cases a:Rn c with
  | false=>simp[a]
  | true=>
   have m:=AV s hs post (pre++[c]) (by rw[e];simp) (by rw[lJ,g];simp[a]);simp only[B3,m];simp[a]
theorem uA(s:Q0 DO):VS s=some (if Fh s then((Ww s:Int),true) else(0,false)):=by
 unfold VS Fh;cases s with
 | nil=>rfl
 | cons c l=>
  have g:=λhs=>AV (c::l) hs (c::l) [] rfl rfl;simp only[hF,fm,show(Ww []:Int)=0 from rfl] at g
  have i:ZW (c::l) 0=some c:=rfl;by_cases a:(c::l).length<=13
  ·have b:(decide (((c::l).length:Int) < 1)||decide (((c::l).length:Int) > 13))=false:=by simp at a ⊢;omega
   simp only[b,H1,By,i,K1,g a];by_cases e:c=48
   ·subst e;cases l with
    | nil=>rfl
    | cons d l=>
     have j:decide ((((48:DO)::d::l).length:Int) > 1)=true:=hR (by simp only[kn];omega);simp only[j,B3,show(((48:DO).toNat:Int)==48)=true from rfl,K1];simp
   ·have k:((c.toNat:Int)==48)=false:=by
     rw[la];intro h;exact e<|o1.1 (by rw[show(48:DO).toNat=48 from rfl];omega)
    simp only[k,ite_self,K1,H1,By];have f:decide ((c::l).length<=13)=true:=hR a;have m:((c::l).head? ==some 48)=false:=by simpa using e
    simp only[f,m];cases n:(c::l).all Rn<;>simp
  ·have b:(decide (((c::l).length:Int) < 1)||decide (((c::l).length:Int) > 13))=true:=by simp at a ⊢;omega
   have f:decide ((c::l).length<=13)=false:=bY a;simp only[b,f,B3,K1];simp
def glue(cur:Q0 DO):Q0 (Q0 DO)->Q0 (Q0 DO)
 | []=>[cur]
 | p::ps=>(cur++p)::ps
theorem Ar(line:Q0 DO)(n:line.length<=4000):∀(post a cur:Q0 DO) (acc:Q0 (Q0 DO)),line=a++(cur++post)->acc.length<=a.length->
  ZT (Zq line) (acc,(a.length:Int),((a++cur).length:Int))=some (acc++glue cur (Jg post))
 | [],a,cur,acc,e,k=>by
  have d:line=a++cur:=by rw[e];simp
  have hs:ZV line (a.length:Int) (line.length:Int)=some cur:=by
   unfold ZV;rw[Bm (by rw[d];simp;omega),d,hQ,hQ];simp
  have t:a.length<=line.length:=by rw[d];simp
  rw[<-d]
  have g:Zq line (acc,(a.length:Int),(line.length:Int))=some (.next (acc++[cur],(line.length:Int)+1,(line.length:Int)+1)):=by
   unfold Zq;simp only[IN,r6,B3,hW,K1,hs,QQ];rw[Ut zg,K1,Qi qz qz];rfl
  rw[ZJ,g];simp only;rw[ZJ];unfold Zq;have:decide ((line.length:Int)+1<=(line.length:Int))=false:=bY qz;simp only[this,H1,By];simp[glue,Jg]
 | c::post,a,cur,acc,e,k=>by
  have d:line=(a++cur)++c::post:=by rw[e];simp
  have hi:=Xq d;have f:=Vm d;have o:a.length<=(a++cur).length:=by simp
  have q:decide (((a++cur).length:Int)<=(line.length:Int))=true:=hR qz;have r:(((a++cur).length:Int)==(line.length:Int))=false:=by rw[la];omega
  have s:((c.toNat:Int)==32)=(c==32):=by
   rw[lr,mb,mb];constructor
   ·intro h;exact o1.1 (by rw[show(32:DO).toNat=32 from rfl];omega)
   ·intro h;subst h;rfl
  by_cases i:c=32
  ·have g:Zq line (acc,(a.length:Int),((a++cur).length:Int))=some (.next (acc++[cur],((a++cur++[c]).length:Int),((a++cur++[c]).length:Int))):=by
    unfold Zq
    have hs:ZV line (a.length:Int) ((a++cur).length:Int)=some cur:=by
     unfold ZV;rw[Bm qz,d,hQ,hQ];simp
    simp only[q,B3,r,H1,By,Zy,f,K1,s,hs,QQ,show(c==32)=true by simpa using i];rw[Ut zg,K1,Qi qz qz];simp;omega
   rw[ZJ,g];have j:=Ar line n post (a++cur++[c]) [] (acc++[cur]) (by rw[d];simp) (by simp at k ⊢;omega);rw[mf] at j
   simp only[j];subst i;have l:=Nb post;cases b:Jg post with
   | nil=>exact absurd b l
   | cons p ps=>simp[Jg,glue,b]
  ·have g:Zq line (acc,(a.length:Int),((a++cur).length:Int))=some (.next (acc,(a.length:Int),((a++(cur++[c])).length:Int))):=by
    unfold Zq;simp only[q,B3,r,H1,By,Zy,f,K1,s,QQ,show(c==32)=false by simpa using i];rw[Qi qz qz];simp;omega
   rw[ZJ,g];have j:=Ar line n post a (cur++[c]) acc (by rw[e];simp) k;simp only[j];have l:=Nb post;have m:(c==32)=false:=by simpa using i
   cases b:Jg post with
   | nil=>exact absurd b l
   | cons p ps=>simp[Jg,glue,b,m]
theorem Th(w:Q0 DO)(parts:Q0 (Q0 DO))(c:parts.length<=5000):∀(post pre:Q0 (Q0 DO)) (acc:Q0 Int),parts=pre++post->acc.length<=pre.length->
  ZT (JA parts) ((pre.length:Int),⟨w,acc⟩)=some (if post.all Fh then .inl ⟨w,acc++post.map λp=>(Ww p:Int)⟩ else .inr (⟨[],[]⟩,false))
 | [],pre,acc,e,d=>by
  rw[mf] at e;subst e
  rw[ZJ];unfold JA;simp
 | x::post,pre,acc,e,d=>by
  have hi:=Xq e;have a:=Vm e
  have f:JA parts ((pre.length:Int),⟨w,acc⟩)=some (if Fh x then .next (((pre++[x]).length:Int),⟨w,acc++[(Ww x:Int)]⟩) else .done (.inr (⟨[],[]⟩,false))):=by
   unfold JA;simp only[Zy,a,K1,QQ,show(decide<|(pre.length:Int) < (parts.length:Int))=true by simpa using hi,B3,uA];cases b:Fh x with
   | false=>simp
   | true=>
    simp only[B3,RK,H1,By];rw[Ut zg,K1,Qi qz qz];simp
  rw[ZJ,f];cases b:Fh x with
  | false=>simp[b]
  | true=>
   refine Eq.trans (Th w parts c post (pre++[x]) (acc++[(Ww x:Int)]) (by rw[e];simp) zg) ?_;simp[b]
theorem xK{c:Prop}[Decidable c]{a b:Q2 Bool}(d:∃x,a=some x)(e:∃x,b=some x):∃x,(if c then a else b)=some x:=by split<;>assumption
theorem wB{a:Q2 Bool}{k:Bool->Q2 Bool}(b:∃x,a=some x)(c:∀x,∃y,k x=some y):∃y,a.bind k=some y:=by
 obtain⟨x,rfl⟩:=b;exact c x
theorem kN(w:Q0 DO)(n:Int):∃b,Kn w n=some b:=by
 unfold Kn
 repeat (first | exact⟨_,rfl⟩ | refine xK ?_ ?_ | refine wB ?_ λ_=> ?_)
theorem LS(n:Int):Kn kj n=some (decide (n≥6)&&(Int.tmod n 2==0)):=rfl
theorem jn(s:Q0 DO):(Jg s).length<=s.length+1:=by
 induction s with
 | nil=>simp[Jg]
 | cons c l a=>
  unfold Jg;split
  ·simpa using a
  ·split<;>rename_i he
   ·simp
   ·rw[he] at a;simp at a ⊢;omega
theorem jA(line:Q0 DO)(j:line.length<=4000):∃r,YY line=some r/\∀w a,Hb line= .ok (w,a)->∃b,r=(⟨w,a⟩,b)/\Kn w a.length=some b:=by
 have c:=Ar line j line [] [] [] rfl<|S2 _;have d:=jn line;unfold YY;cases hs:Jg line with
 | nil=>exact absurd hs (Nb line)
 | cons w ps=>
  rw[hs] at c d
  have f:Hb line=if ps.all Fh then .ok (w,ps.map λp=>(Ww p:Int)) else .pan ⟨8⟩:=by unfold Hb;rw[hs]
  have c:ZT (Zq line) (([]:Q0 (Q0 DO)),0,0)=some (w::ps):=c;rw[c,K1,show ZW (w::ps) 0=some w from rfl,K1];have e:=Th w (w::ps) qz ps [w] [] rfl zh;have e:ZT (JA<|w::ps) (1,⟨w,[]⟩)=_:=e;rw[e,K1];cases g:ps.all Fh with
  | false=>exact⟨_,rfl,λw a h=>by rw[f,g] at h;cases h⟩
  | true=>
   obtain⟨b,i⟩:=kN w ((ps.map λp=>(Ww p:Int)).length:Int);simp only[B3,me];rw[i,K1];refine⟨_,rfl,λw a h=> ?_⟩;rw[f,g] at h
   simp only[B3,Out.ok.injEq,L4] at h
   obtain⟨rfl,rfl⟩:=h;exact⟨b,rfl,i⟩
theorem uv{d:Nat}(h:d < 10):(UInt8.ofNat<|48+d).toNat=48+d:=by simp;omega
theorem qq:∀(k u:Nat),u < 10^k->0 < k->(Dk k u).all Rn=true/\Ww (Dk k u)=u/\Dk k u≠[]/\((Dk k u).head? =some 48->u=0)
 | 0,_,_,h=>absurd h (iG 0)
 | k+1,u,g,_=>by
  unfold Dk;by_cases a:u < 10
  ·rw[Bm a];have e:=uv a;refine⟨?_,?_,by simp,λh=> ?_⟩
   ·simp only[s8,lf,mw,Rn,e,BY,AT];omega
   ·simp only[Ww,eH,List.foldl_nil,e];omega
   ·simp only[o5,UV] at h
    have:=congrArg UInt8.toNat h;rw[e,show(48:DO).toNat=48 from rfl] at this
    omega
  ·rw[B2 a];rw[oT] at g
   have b:0 < k:=by
    cases k with
    | zero=>simp at g;omega
    | succ k=>omega
   obtain⟨i,j,l,m⟩:=qq k (u / 10) qz b;have e:=uv (d:=u%10) qz;refine⟨?_,?_,by simp,λh=> ?_⟩
   ·rw[lJ,i];simp only[s8,lf,mw,rW,Rn,e,BY,AT];omega
   ·rw[Ss,j,e];omega
   ·rw[List.head?_append] at h
    cases f:(Dk k<|u / 10).head? with
    | none=>exact absurd (List.head?_eq_none_iff.1 f) l
    | some c=>
     rw[f] at h
     have:=m (by rw[f];exact h);omega
theorem yL{X:Int}(c:0<=X)(k:X < 10000000000000):Fh (WW X)=true/\(Ww (WW X):Int)=X/\(WW X).length<=13:=by
 obtain⟨u,rfl⟩:=eo c
 have e:WW (u:Int)=Dk 13 u:=by
  unfold WW;rw[B2 qz,hQ,Ra 13 20 u qz qz qz]
 rw[e];obtain⟨d,f,g,h⟩:=qq 13 u qz qz;have a:=SL 13 u;refine⟨?_,by rw[f],a⟩;unfold Fh;rw[d,hR a];have i:(Dk 13 u==[])=false:=by simpa using g
 rw[i];by_cases b:(Dk 13 u).head? =some 48
 ·have:=h b;subst this;rfl
 ·have j:((Dk 13 u).head? ==some 48)=false:=by simpa using b
  rw[j];rfl
theorem Ly:∀(s:Q0 DO),s.all Rn=true->Jg s=[s]
 | [],_=>rfl
 | c::l,h=>by
  simp only[s8,BY] at h
  have a:(c==32)=false:=by
   rw[la];rintro rfl;exact absurd h.1 j2
  unfold Jg;rw[a,Ly l h.2];rfl
end
section
open Go.Dec
theorem yV{d:Wd}(b:d∈HW){n:Nat}(h:XM d.least d.each n=true):Kn d.word n=some true:=by
 unfold HW at b
 simp only[Tc,eP,oR] at b
 have c:∀a:Nat,XM a 0 n=true->n=a:=λa h=>by
  have:(n:Int)=a:=by simpa[XM] using h
  omega
 rcases b with rfl | rfl | rfl | rfl | rfl | rfl | rfl | rfl | rfl | rfl | rfl | rfl | rfl | rfl | rfl | rfl | rfl | rfl | rfl | rfl
 case inr.inl=>
  have h:(n:Int) > 3/\((n:Int) - 3)%2=0:=by simpa[XM] using h
  show some (decide ((n:Int)≥5)&&(Int.tmod n 2==1))=some true;rw[lU qz];simp only[UV,BY,AT,mb];omega
 case inr.inr.inr.inr.inr.inr.inr.inr.inr.inr.inr.inr.inl=>
  have h:(n:Int) > 4/\((n:Int) - 4)%2=0:=by simpa[XM] using h
  rw[LS,lU qz];simp only[UV,BY,AT,mb];omega
 all_goals
  have e:=c _ h;subst e;rfl
theorem zt{line:Q0 DO}{w:Q0 DO}{a:Q0 Int}(e:line.length<=4000)(f:Hb line= .ok (w,a))(g:∃d∈HW,d.word=w/\XM d.least d.each a.length=true):YY line=some (⟨w,a⟩,true):=by
 obtain⟨r,h,i⟩:=jA line e;obtain⟨b,rfl,c⟩:=i w a f;obtain⟨d,j,rfl,k⟩:=g;rw[yV j k] at c
 simp only[UV] at c
 rw[h,<-c]
end
section
open Go.Dec
variable{w:Int×Int->Int}{all:Q0 Ca.ZY}{c:Ca.ZY}{i:Nat}
def HZ(w:Int×Int->Int):Q0 (Int×Int)->Int
 | []=>0
 | p::l=>w p+HZ w l
theorem NO{w':Int×Int->Int}:∀{l:Q0 (Int×Int)},(∀p∈l,w p=w' p)->HZ w l=HZ w' l
 | [],_=>rfl
 | p::l,h=>by unfold HZ;rw[NO λq a=>h q (by simp[a]),h p zh]
theorem NP:∀{l k:Q0 (Int×Int)},HZ w (l++k)=HZ w l+HZ w k
 | [],k=>by simp[HZ]
 | p::l,k=>by simp only[s9,HZ,NP (l:=l)];omega
theorem Ij{q:Int×Int}:∀{l:Q0 (Int×Int)} {i:Nat} {p:Int×Int},l[i]? =some p->HZ w (l.set i q)=HZ w l - w p+w q
 | [],i,p,h=>by simp at h
 | a::l,0,p,h=>by
  simp only[So,UV] at h
  subst h;simp only[lL,HZ];omega
 | a::l,i+1,p,h=>by
  simp only[ts] at h
  simp only[il,HZ,Ij (l:=l) h];omega
theorem NN{w':Int×Int->Int}:∀{l:Q0 (Int×Int)} {i:Nat} {p:Int×Int},(l.map Prod.fst).Nodup->l[i]? =some p->(∀q:Int×Int,q.1≠p.1->w' q=w q)->HZ w' l=HZ w l - w p+w' p
 | [],i,p,_,h,_=>by simp at h
 | a::l,0,p,b,h,d=>by
  simp only[So,UV] at h
  subst h;simp only[Of,mc] at b
  have:HZ w' l=HZ w l:=NO λq f=>d q λe=>b.1 (by rw[<-e];exact kx f);simp only[HZ,this];omega
 | a::l,i+1,p,b,h,d=>by
  simp only[ts] at h
  simp only[Of,mc] at b
  have g:a.1≠p.1:=λe=>b.1 (by rw[e];exact kx<|T2 h);simp only[HZ,NN (l:=l) b.2 h d,d a g];omega
theorem Nf{α:Type}:∀{l:Q0 α} {i:Nat} {x:α},l[i]? =some x->l.set i x=l
 | [],i,x,h=>by simp at h
 | a::l,0,x,h=>by simp at h;simp[h]
 | a::l,i+1,x,h=>by simp at h;simp[Nf h]
abbrev fY(h:Ca.ZY):Int×Int:=(h.C.Number,h.C.Place)
def IT(l:Q0 Ca.ZY):Q0 (Int×Int):=l.map fY
abbrev fZ(f:Int->Int)(j:Nat)(p:Int×Int):Int:=if p.2=(j:Int) then f p.1 else 0
structure CQ(f:Int->Int)(all:List Ca.ZY)(B:Nat->Int)(M:Int):Prop where
 nd:(all.map (·.C.Number)).Nodup
 amt:∀(i:Nat) (h:Ca.ZY),all[i]? =some h->0<=f h.C.Number/\f h.C.Number<=h.C.Amount/\h.C.Room<=1073741824
 out:∀c,(∀h∈all,h.C.Number≠c)->f c=0
 bonds:∀j:Nat,j < 16->B j=HZ (fZ f j) (IT all)
 made:M=HZ (λp=>f p.1) (IT all)
theorem z8(all:Q0 Ca.ZY):(IT all).map Prod.fst=all.map (·.C.Number):=by
 unfold IT;rw[lY];rfl
theorem z7(h:all[i]? =some c):(IT all)[i]? =some (fY c):=by
 unfold IT;rw[hP,h];rfl
theorem ga:IT (all.set i c)=(IT all).set i (fY c):=by
 unfold IT;rw[oY]
section
variable{f:Int->Int}{all:Q0 Ca.ZY}{B:Nat->Int}{M:Int}(E:CQ f all B M)
include E
theorem CQ.inj{k:Nat}{d:Ca.ZY}(b:all[i]? =some c)(g:all[k]? =some d)(e:c.C.Number=d.C.Number):i=k:=by
 have a:=Ca.R8 E.nd b;have h:=Ca.R8 E.nd g;rw[e,h] at a
 simpa using a.symm
theorem CQ.rM{v:Int}(a:all[i]? =some c)(m:0<=v/\v<=c.C.Amount):CQ (λk=>if k==c.C.Number then v else f k) all (λj=>B j+if c.C.Place=(j:Int) then v - f c.C.Number else 0) (M+(v - f c.C.Number)):=by
 have n:∀(g:Int->Int) (q:Int×Int),q.1≠c.C.Number->(if q.1==c.C.Number then v else f q.1)=f q.1:=λ_ q h=>by rw[B2<|by simpa using h]
 refine⟨E.nd,λk d b=> ?_,λk o=> ?_,λj s=> ?_,?_⟩
 ·have r:=E.amt k d b;by_cases e:d.C.Number=c.C.Number
  ·have:=E.inj b a e;subst this;rw[a] at b
   simp only[UV] at b
   subst b;simp only[hW,B3];exact⟨m.1,m.2,r.2.2⟩
  ·rw[B2<|by simpa using e];exact r
 ·rw[B2,E.out k o];have:=o c<|T2 a;simpa using λe=>this e.symm
 ·rw[NN (w:=fZ f j) (by rw[z8];exact E.nd) (z7 a) (λq l=>by simp only[fZ,n f q l]),<-E.bonds j s];simp only[fZ,hW,B3];split<;>omega
 ·rw[NN (w:=λp=>f p.1) (by rw[z8];exact E.nd) (z7 a) λq l=>n f q l,<-E.made];simp only[hW,B3];omega
theorem CQ.put{c':Ca.ZY}(a:all[i]? =some c)(b:c'.C.Number=c.C.Number)(g:c'.C.Place=c.C.Place∨f c.C.Number=0)(r:f c.C.Number<=c'.C.Amount)(s:c'.C.Room=c.C.Room):CQ f (all.set i c') B M:=by
 have l:i < all.length:=by
  rcases qs i all.length with h | h
  ·exact h
  ·rw[td h] at a;cases a
 have q:∀w:Int×Int->Int,w (fY c')=w (fY c)->HZ w (IT<|all.set i c')=HZ w (IT all):=λw e=>by
  rw[ga,Ij<|z7 a,e];omega
 refine⟨?_,λk d n=> ?_,λk o=> ?_,λj t=> ?_,?_⟩
 ·have:(all.set i c').map (·.C.Number)=all.map (·.C.Number):=by
   rw[oY];refine Nf ?_;rw[hP,a,b];rfl
  rw[this];exact E.nd
 ·by_cases o:i=k
  ·subst o;rw[y1 l] at n
   simp only[UV] at n
   subst n;have:=E.amt i c a;rw[b,s];exact⟨this.1,r,this.2.2⟩
  ·rw[u1 o] at n
   exact E.amt k d n
 ·refine E.out k λh u=> ?_;obtain⟨m,p⟩:=eS u;by_cases e:i=m
  ·subst e;rw[a] at p
   simp only[UV] at p
   subst p;rw[<-b];exact o c'<|T2<|y1 l
  ·exact o h<|T2 (by rw[u1 e];exact p)
 ·rw[q _ ?_]
  ·exact E.bonds j t
  ·simp only[fZ,b];rcases g with g | g
   ·rw[g]
   ·rw[g];split<;>split<;>rfl
 ·rw[q _<|by simp only[b]];exact E.made
theorem CQ.nx(d:Int):CQ f (all.map<|Ca.JX d) B M:=by
 have a:∀h:Ca.ZY,(Ca.JX d h).C.Number=h.C.Number/\(Ca.JX d h).C.Place=h.C.Place/\(Ca.JX d h).C.Amount=h.C.Amount/\(Ca.JX d h).C.Room=h.C.Room:=λh=>by unfold Ca.JX;split<;>exact⟨rfl,rfl,rfl,rfl⟩
 have e:IT (all.map<|Ca.JX d)=IT all:=by
  unfold IT;rw[lY];refine oL λh _=> ?_;simp only[Function.comp,fY,(a h).1,(a h).2.1]
 refine⟨?_,λk h b=> ?_,λc l=> ?_,λj m=>by rw[e];exact E.bonds j m,by rw[e];exact E.made⟩
 ·rw[lY];have:((λh:Ca.ZY=>h.C.Number)∘Ca.JX d)=λh=>h.C.Number:=funext λh=>(a h).1;rw[this];exact E.nd
 ·rw[hP] at b
  obtain⟨g,n,rfl⟩:=mo.1 b;rw[(a g).1,(a g).2.2.1,(a g).2.2.2];exact E.amt k g n
 ·refine E.out c λh b=> ?_;rw[<-(a h).1];exact l _<|kx b
theorem CQ.make{x:QE}(q:Ca.Js all x.Cask=none)(u:x.Amount<=1073741824):CQ f (all++[Ca.Ol x]) B M:=by
 have g:∀h∈all,h.C.Number≠x.Cask:=λh d e=>by
  obtain⟨i,hi⟩:=eS d;have:=Ca.R8 E.nd hi;rw[e,q] at this
  cases this
 have o:=E.out x.Cask g;have l:IT (all++[Ca.Ol x])=IT all++[(x.Cask,x.Where)]:=by simp[IT,Ca.Ol]
 refine⟨?_,λk h d=> ?_,λc r=>E.out c λh d=>r h (by simp[d]),λj s=> ?_,?_⟩
 ·rw[e0,ix];refine⟨E.nd,by simp,?_⟩;intro a t b p e;obtain⟨h,d,rfl⟩:=n2.1 t;simp only[Of,eW,nt] at p
  subst p;exact g h d e
 ·rcases qs k all.length with m | m
  ·rw[x4 m] at d
   exact E.amt k h d
  ·rw[ta m] at d
   have:h=Ca.Ol x:=by
    cases hi:k - all.length with
    | zero=>rw[hi] at d;simpa using d.symm
    | succ n=>rw[hi] at d;simp at d
   subst this;show 0<=f x.Cask/\f x.Cask<=0/\x.Amount<=_;omega
 ·rw[l,NP,<-E.bonds j s];simp only[HZ,fZ,o];split<;>omega
 ·rw[l,NP,<-E.made];simp only[HZ,o];omega
end
theorem CQ.ext{f a:Int->Int}{B b:Nat->Int}{M d:Int}(E:CQ f all B M)(g:∀k,a k=f k)(h:∀j,j < 16->b j=B j)(l:d=M):CQ a all b d:=by
 have:a=f:=funext g;subst this;exact⟨E.nd,E.amt,E.out,λj e=>by rw[h j e];exact E.bonds j e,by rw[l];exact E.made⟩
theorem Nv(h s:Ca.ZY)(n:Int):(Ca.Ua h s n).C.Number=h.C.Number/\(Ca.Ua h s n).C.Place=h.C.Place/\(Ca.Ua h s n).C.Amount=h.C.Amount+n/\(Ca.Ua h s n).C.Room=h.C.Room:=by
 unfold Ca.Ua;split<;>exact⟨rfl,rfl,rfl,rfl⟩
theorem Oq(h:Ca.ZY)(n:Int):(Ca.WG h n).C.Number=h.C.Number/\(Ca.WG h n).C.Place=h.C.Place/\(Ca.WG h n).C.Amount=h.C.Amount - n/\(Ca.WG h n).C.Room=h.C.Room:=by
 unfold Ca.WG;split
 ·rename_i e;exact⟨rfl,rfl,(by simpa using e:h.C.Amount - n=0).symm,rfl⟩
 ·exact⟨rfl,rfl,rfl,rfl⟩
end
section
open Go.Dec
variable{L L1:QA}{r:Ql}{b:Q3}{d:Int}
theorem Ca.go_app{day:Int}{x:Ca.Ev}(g:x.Day<=day):∀(l:Q0 Ca.Ev) (n:Nat) (s f a:Ca.DL),(∀y∈l,y.Day<=day)->Ca.HV day l n s=(.inl f,n+l.length)->Ca.VI (n+l.length) f x= .inl a->Ca.HV day (l++[x]) n s=(.inl a,n+l.length+1)
 | [],n,s,f,a,_,h,c=>by
  simp only[Ca.HV,L4,hJ] at h
  obtain⟨rfl,_⟩:=h;have c:Ca.VI n s x= .inl a:=c;simp only[me,Ca.HV,Bm g,c];rfl
 | y::l,n,s,f,a,i,h,c=>by
  simp only[s9,Ca.HV,Bm<|i y zh] at h ⊢
  have e:n+(y::l).length=n+1+l.length:=by simp;omega
  rw[e] at h c ⊢
  cases hs:Ca.VI n s y with
  | inl j=>
   rw[hs] at h
   exact Ca.go_app g l (n+1) j f a (λz k=>i z<|by simp[k]) h c
  | inr q=>rw[hs] at h;simp at h
variable{cu:Ca.DL}
theorem Ca.go_day{a:Int}:∀(l:Q0 Ca.Ev) (n:Nat) (s:Ca.DL),(∀y∈l,y.Day<=d)->d<=a->Ca.HV a l n s=Ca.HV d l n s
 | [],_,_,_,_=>rfl
 | y::l,n,s,c,h=>by
  have e:=c y zh;simp only[Ca.HV,Bm e,Bm<|ob e h];cases Ca.VI n s y with
  | inl f=>exact Ca.go_day l (n+1) f (λz g=>c z<|by simp[g]) h
  | inr q=>rfl
theorem Ex.S5{r:Ex.Gy}{day:Int}{x:Ex.Ev}(f:x.Day<=day):∀(l:Q0 Ex.Ev) (n:Nat) (s a:Ex.DL) (k:Nat),(∀y∈l,y.Day<=day)->Ex.HV r day (l++[x]) n s=(.inl a,k)->
  ∃c,Ex.HV r day l n s=(.inl c,n+l.length)/\Ex.VI r c x= .inl a/\k=n+l.length+1
 | [],n,s,a,k,_,h=>by
  simp only[me,Ex.HV,Bm f] at h
  refine⟨s,rfl,?_⟩;cases hs:Ex.VI r s x with
  | inl c=>
   rw[hs] at h
   simp only[L4,hJ] at h
   exact⟨by rw[h.1],h.2.symm⟩
  | inr e=>rw[hs] at h;simp at h
 | y::l,n,s,a,k,g,h=>by
  simp only[s9,Ex.HV,Bm<|g y zh] at h ⊢
  cases hs:Ex.VI r s y with
  | inl c=>
   rw[hs] at h
   obtain⟨i,j,m,o⟩:=Ex.S5 f l (n+1) c a k (λz p=>g z<|by simp[p]) h;have e:n+(y::l).length=n+1+l.length:=by simp;omega
   rw[e];exact⟨i,j,m,o⟩
  | inr e=>rw[hs] at h;simp at h
theorem Ex.go_day{r:Ex.Gy}{a:Int}:∀(l:Q0 Ex.Ev) (n:Nat) (s:Ex.DL),(∀y∈l,y.Day<=d)->d<=a->Ex.HV r a l n s=Ex.HV r d l n s
 | [],_,_,_,_=>rfl
 | y::l,n,s,c,h=>by
  have e:=c y zh;simp only[Ex.HV,Bm e,Bm<|ob e h];cases Ex.VI r s y with
  | inl f=>exact Ex.go_day l (n+1) f (λz g=>c z<|by simp[g]) h
  | inr q=>rfl
structure BC(L:QA)(cu:Ca.DL):Prop where
 day:0<=L.day/\L.day<=65536
 days:∀y∈L.casks,y.Day<=L.day
 len:L.casks.length<=4096
 go:Ca.HV L.day L.casks 0 ⟨[],0⟩=(.inl cu,L.casks.length)
theorem BC.pe(h:BC L cu):Ca.JZ L.casks L.day=(.inl<|Ca.qy L.day cu,L.casks.length):=by
 unfold Ca.JZ;rw[B2 (by have:=h.len;omega),B2<|by simpa using Ca.Jf.2 h.day];unfold Ca.AD;rw[h.go]
theorem BC.later{a:QA}(h:BC L cu)(c:a.casks=L.casks)(f:L.day<=a.day)(g:a.day<=65536):BC a cu:=by
 refine⟨⟨by have:=h.day;omega,g⟩,λy e=> ?_,by rw[c];exact h.len,?_⟩
 ·rw[c] at e;have:=h.days y e;omega
 ·rw[c,Ca.go_day _ _ _ h.days f];exact h.go
theorem BC.step{x:QE}(h:BC L cu)(o:HS L x L1):∃c,BC L1 c/\Ca.M3 (Ca.qy L.day cu) {x with Day:=L.day} L.casks.length c.all/\Ca.qy L.day c=c.all/\Ca.Xb {x with Day:=L.day}=true:=by
 obtain⟨rfl,all,i,k,v,a,p,_⟩:=o
 have f:∀y∈L.casks++[{x with Day:=L.day}],y.Day<=L.day:=λy g=>by
  rcases mn.1 g with g | g
  ·exact h.days y g
  ·simp only[nt] at g;subst g;exact IN _
 have a:Ca.JZ (L.casks++[{x with Day:=L.day}]) L.day=(.inl i,k):=a;unfold Ca.JZ at a
 split at a
 ·cases a
 ·rename_i m;split at a
  ·cases a
  ·unfold Ca.AD at a
   cases n:Ca.HV L.day (L.casks++[{x with Day:=L.day}]) 0 ⟨[],0⟩ with
   | mk q s=>
    rw[n] at a
    cases q with
    | inr e=>cases a
    | inl t=>
     obtain⟨w,j,l⟩:=Ca.S5 (day:=L.day) (x:={x with Day:=L.day}) (IN _) L.casks 0 _ t s h.days n;rw[sf] at j l
     rw[h.go] at j
     simp only[L4,hJ,o8] at j
     subst j;obtain⟨_,_,l',e,u⟩:=Ca.Lw l;subst e;refine⟨⟨l',L.day⟩,⟨h.day,f,by show(L.casks++_).length<=4096;omega,?_⟩,u,?_,p⟩
     ·have:=Ca.go_app (day:=L.day) (x:={x with Day:=L.day}) (IN _) L.casks 0 _ _ _ h.days (by rw[sf];exact h.go) (by rw[sf];exact l);show Ca.HV L.day (L.casks++_) 0 _=_;rw[this];simp
     ·show l'.map (Ca.JX<|L.day - L.day)=l';rw[eM,show Ca.JX 0=id from funext λh=>Ca.Sw,iY]
structure BD(r:Ql)(L:QA)(b:Q3):Prop where
 days:∀y∈L.duties,y.Day<=L.day
 len:L.duties.length<=4096
 go:∃eu,Ex.HV r L.day L.duties 0 Ex.A8=(.inl eu,L.duties.length)/\eu.acc.B=b/\eu.day<=L.day
theorem BD.later{a:QA}(h:BD r L b)(c:a.duties=L.duties)(f:L.day<=a.day):BD r a b:=by
 obtain⟨g,i,j,k⟩:=h.go;exact⟨λy e=>by rw[c] at e;have:=h.days y e;omega,by rw[c];exact h.len,g,by rw[c,Ex.go_day _ _ _ h.days f];exact i,j,by omega⟩
theorem N3{t:Int}{s:Ex.Acc}(h:s.B.Moving=[]):(Ex.Uw r t d s).B=s.B:=by
 obtain⟨b,i,q⟩:=s;obtain⟨e,a,f,g,j,k,l,m,n,c⟩:=b;have h:a=[]:=h;subst h;simp[Ex.Uw,Ex.YS]
theorem BD.pe(h:BD r L b)(e:Ex.XJ r=true)(f:0<=L.day/\L.day<=65536)(g:b.Moving=[]):DR r L.duties L.day=(b,(L.duties.length:Int),0):=by
 obtain⟨a,i,c,_⟩:=h.go;unfold DR Ex.JZ;rw[B2 (by simp[e]),B2 (by have:=h.len;omega),B2<|by simpa using Ex.Jf.2 f];unfold Ex.AD;rw[i];show((Ex.Uw r a.day L.day a.acc).B,_,_)=_;rw[N3 (by rw[c];exact g),c]
theorem BD.step{x:QM}(h:BD r L b)(w:L.rules=some r)(z:Xj L x L1):∃s a,s.B=b/\0<=L.day/\Ex.VL r/\Ex.Xb {x with Day:=L.day}=true/\(∃t,t<=L.day/\Ex.DB r (Ex.Uw r t L.day s) {x with Day:=L.day}= .inl a)/\BD r L1 a.B:=by
 obtain⟨rfl,I,g,he⟩:=z;rw[w] at g
 simp only[UV] at g
 subst g
 have i:∀y∈L.duties++[{x with Day:=L.day}],y.Day<=L.day:=λy j=>by
  rcases mn.1 j with j | j
  ·exact h.days y j
  ·simp only[nt] at j;subst j;exact IN _
 have he:(Ex.xA<|Ex.JZ r (L.duties++[{x with Day:=L.day}]) L.day).2.2=0:=he;cases c:Ex.JZ r (L.duties++[{x with Day:=L.day}]) L.day with
 | mk q k=>
  cases q with
  | inr e=>
   rw[c] at he
   have:=Ex.BA c;exact absurd he this
  | inl a0=>
   have l:=Ex.PN c;obtain⟨o,_,m,_⟩:=Ex.Fc c;unfold Ex.JZ at c
   split at c
   ·simp at c
   ·split at c
    ·simp at c
    ·split at c
     ·simp at c
     ·unfold Ex.AD at c
      cases p:Ex.HV r L.day (L.duties++[{x with Day:=L.day}]) 0 Ex.A8 with
      | mk q A=>
       rw[p] at c
       cases q with
       | inr e=>simp at c
       | inl C=>
        obtain⟨K,n,f,D⟩:=Ex.S5 (day:=L.day) (x:={x with Day:=L.day}) (IN _) L.duties 0 _ C A h.days p;obtain⟨v,E,F,G⟩:=h.go;rw[sf] at n
        rw[E] at n
        simp only[L4,hJ,o8] at n
        subst n;unfold Ex.VI at f
        split at f
        ·cases f
        ·rename_i H;split at f
         ·cases f
         ·split at f
          ·rename_i a u;simp only[hJ] at f
           subst f;refine⟨v.acc,a,F,m.1,o,by simpa using H,⟨v.day,G,u⟩,i,l,⟨a,L.day⟩,?_,rfl,IN _⟩;show Ex.HV r L.day (L.duties++_) 0 _=_;rw[p,D];simp
          ·cases f
structure Calm(b:Q3):Prop where
 mov:b.Moving=[]
 found:b.Found=0
 lost:b.Lost=0
 charged:b.Charged=0
 exported:b.Exported=0
section
variable{r:Ql}{L L1:QA}{b:Q3}{n p:Int}(h:BD r L b)(hL:L.rules=some r)(hb:Calm b)
include h hL hb
theorem BD.made(f:Xj L ⟨0,0,p,0,0,n⟩ L1):∃b',BD r L1 b'/\Calm b'/\(0<=p/\p<=15)/\b'.Bonds=ZK b.Bonds p.toNat (b.Bonds p.toNat+n)/\b'.Made=b.Made+n/\b'.Used=b.Used/\b'.Due=b.Due/\b'.Paid=b.Paid:=by
 obtain⟨s,a,hs,_,_,g,⟨t,_,c⟩,i⟩:=h.step hL f;have j:=N3 (r:=r) (t:=t) (d:=L.day) (s:=s) (by rw[hs];exact hb.mov);have e:=(Ex.GO g<|.inl rfl).1;have c:Ex.DX _ _= .inl a:=c;unfold Ex.DX at c
 split at c
 ·cases c
 ·simp only[hJ] at c
  subst c;refine⟨_,i,⟨?_,?_,?_,?_,?_⟩,e,?_,?_,?_,?_,?_⟩<;>simp only[Ex.UR,Ex.Zp,j,hs,hb.mov,hb.found,hb.lost,hb.charged,hb.exported]
theorem BD.used(f:Xj L ⟨3,0,p,0,0,n⟩ L1):∃b',BD r L1 b'/\Calm b'/\(0<=p/\p<=15)/\b'.Bonds=ZK b.Bonds p.toNat (b.Bonds p.toNat - n)/\b'.Made=b.Made/\b'.Used=b.Used+n/\b'.Due=b.Due+Ex.Ux r n L.day/\b'.Paid=b.Paid:=by
 obtain⟨s,a,hs,_,_,g,⟨t,_,c⟩,i⟩:=h.step hL f;have j:=N3 (r:=r) (t:=t) (d:=L.day) (s:=s) (by rw[hs];exact hb.mov);have e:=(Ex.GO g<|.inr<|.inl rfl).1;have c:Ex.GH r _ _= .inl a:=c;unfold Ex.GH at c
 split at c
 ·cases c
 ·simp only[hJ] at c
  subst c;refine⟨_,i,⟨?_,?_,?_,?_,?_⟩,e,?_,?_,?_,?_,?_⟩<;>simp only[Ex.M5,Ex.UR,Ex.Zp,j,hs,hb.mov,hb.found,hb.lost,hb.charged,hb.exported]
theorem BD.nF(g:Xj L ⟨6,0,0,0,0,n⟩ L1):∃b',BD r L1 b'/\Calm b'/\b'.Bonds=b.Bonds/\b'.Made=b.Made/\b'.Used=b.Used/\b'.Due=b.Due/\b'.Paid=b.Paid+n/\n<=b.Due - b.Paid/\1<=n:=by
 obtain⟨s,a,hs,_,_,i,⟨t,_,e⟩,j⟩:=h.step hL g;have f:=N3 (r:=r) (t:=t) (d:=L.day) (s:=s) (by rw[hs];exact hb.mov);have e:Ex.qD _ _= .inl a:=e;unfold Ex.qD at e
 split at e
 ·cases e
 ·rename_i c;simp only[hJ] at e
  subst e;rw[f,hs] at c
  have k:1<=n:=by
   have:Ex.Wa L.day 0 65536=true/\Ex.Wa n 1 72057594037927936=true:=by simpa[Ex.Xb] using i
   exact(Ex.Jf.1 this.2).1
  refine⟨_,j,⟨?_,?_,?_,?_,?_⟩,?_,?_,?_,?_,?_,(by have c:¬n > b.Due - b.Paid:=c;omega),k⟩<;>simp only[f,hs,hb.mov,hb.found,hb.lost,hb.charged,hb.exported]
theorem BD.pA{F:QA}{q i:Int}(v:Xj L ⟨1,0,p,q,i,n⟩ L1)(K:Xj L1 ⟨2,0,q,0,i,n⟩ F)(M:p≠q):∃b',BD r F b'/\Calm b'/\(0<=p/\p<=15)/\(0<=q/\q<=15)/\b'.Bonds=ZK (ZK b.Bonds p.toNat<|b.Bonds p.toNat - n) q.toNat (b.Bonds q.toNat+n)/\b'.Made=b.Made/\b'.Used=b.Used/\b'.Due=b.Due/\b'.Paid=b.Paid:=by
 obtain⟨s,a,hs,h0,l,N,⟨t,_,f⟩,P⟩:=h.step hL v;have G:=N3 (r:=r) (t:=t) (d:=L.day) (s:=s) (by rw[hs];exact hb.mov);obtain⟨w,x,_,H⟩:=Ex.O0 N rfl;have w:0<=p/\p<=15:=w;have x:0<=q/\q<=15:=x;have H:1<=n/\n<=17179869184:=H;have z:L1.rules=some r:=by rw[v.rules];exact hL
 have m:L1.day=L.day:=by obtain⟨rfl,_⟩:=v;rfl
 obtain⟨A,I,o,_,_,Q,⟨R,S,e⟩,T⟩:=P.step z K;have f:Ex.RF _ _= .inl a:=f;unfold Ex.RF at f
 split at f
 ·cases f
 split at f
 ·cases f
 split at f
 ·cases f
 simp only[hJ] at f
 have g:a.B.Moving=[⟨i,p,q,L.day,n⟩]:=by
  rw[<-f];show Ex.BJ _ (Ex.Uw r t L.day s).B.Moving=_;rw[G,hs,hb.mov];rfl
 have C:a.B.Bonds=ZK b.Bonds p.toNat (b.Bonds p.toNat - n)/\a.B.Made=b.Made/\a.B.Used=b.Used/\a.B.Due=b.Due/\a.B.Paid=b.Paid/\a.B.Found=0/\a.B.Lost=0/\a.B.Charged=0/\a.B.Exported=0:=by
  rw[<-f];refine⟨?_,?_,?_,?_,?_,?_,?_,?_,?_⟩<;>simp only[Ex.UR,Ex.Zp,G,hs,hb.found,hb.lost,hb.charged,hb.exported]
 have V:0<=r.Transit:=l.transit.1
 have u:(Ex.Uw r R L1.day A).B=a.B:=by
  have j:A.B.Moving=[⟨i,p,q,L.day,n⟩]:=by rw[o];exact g
  have D:(decide<|L1.day < Ex.ZM r ⟨i,p,q,L.day,n⟩)=true:=by
   rw[m];exact hR (by show L.day < L.day+r.Transit+1;omega)
  rw[<-o];obtain⟨c,ci,cs⟩:=A;obtain⟨b1,W,b3,b4,b5,b6,b7,b8,b9,X⟩:=c;have j:W=[⟨i,p,q,L.day,n⟩]:=j;subst j;simp[Ex.Uw,Ex.YS,D]
 have e:Ex.FZ r _ _= .inl I:=e;unfold Ex.FZ at e
 rw[u,g] at e
 simp only[lI,hW] at e
 split at e
 ·cases e
 split at e
 ·cases e
 simp only[hJ] at e
 obtain⟨Y,Z,f3,f4,f5,f6,f7,f8,f9⟩:=C;have z1:imax 0 0=0:=rfl;have z2:∀y:Int,0<=y->JY 0 y=0:=λy hy=>by unfold JY;split<;>omega
 have k:0<=n*r.Loss / 10000:=eU (r7 qz l.loss.1) qz;have E:b.Bonds q.toNat=ZK b.Bonds p.toNat (b.Bonds p.toNat - n) q.toNat:=(Ex.Uo qz).symm;refine⟨I.B,T,⟨?_,?_,?_,?_,?_⟩,w,x,?_,?_,?_,?_,?_⟩<;>rw[<-e]<;>simp only[Ex.Ov,Ex.BF,Ex.UR,Ex.Zp,u,g,Y,Z,f3,f4,f5,f6,f7,f8,f9,z1,z2 _ k,Ex.Ux,eM,Int.zero_mul,oc,Int.zero_ediv,E];simp
end
end
section
open Go.Dec
variable{L L1:QA}{r:Ql}{b:Q3}{n:Int}
def BB:Q0 QM->Int
 | []=>0
 | x::l=>(if x.Kind==6 then x.Amount else 0)+BB l
theorem EI(l:Q0 QM)(x:QM):BB (l++[x])=BB l+if x.Kind==6 then x.Amount else 0:=by
 induction l with
 | nil=>simp[BB]
 | cons y l a=>simp only[s9,BB,a];omega
def HH(l:Q0 QE):Q0 Int:=(l.filter λx=>x.Kind==0).map (·.Cask)
theorem MG(l:Q0 QE)(x:QE):HH (l++[x])=if x.Kind==0 then HH l++[x.Cask] else HH l:=by
 unfold HH;rw[List.filter_append,e0];cases h:x.Kind==0<;>simp[h]
structure DS(r:Ql)(L:QA)(b:Q3):Prop where
 rules:L.rules=some r
 day:0<=L.day
 bd:BD r L b
 calm:Calm b
 pays:b.Paid=BB L.duties
 least:0<=b.Used/\0<=b.Paid
 due:∀k:Int,0<=k->(∀n d,0<=d->Ex.Ux r n d=k*n)->b.Due=k*b.Used/\b.Paid<=b.Due
theorem DS.later{a:QA}(h:DS r L b)(d:a.rules=L.rules)(c:a.duties=L.duties)(e:L.day<=a.day):DS r a b:=⟨by rw[d,h.rules],by have:=h.day;omega,h.bd.later c e,h.calm,by rw[c];exact h.pays,h.least,h.due⟩
theorem Xj.pays{x:QM}(h:Xj L x L1):BB L1.duties=BB L.duties+if x.Kind==6 then x.Amount else 0:=by
 obtain⟨rfl,_⟩:=h;exact EI _ _
structure y9(L L1:QA):Prop where
 casks:L1.casks=L.casks
 day:L1.day=L.day
 pure:∀k,Ze L1 k=Ze L k
theorem Xj.same{x:QM}(h:Xj L x L1):y9 L L1:=by
 obtain⟨rfl,_⟩:=h;exact⟨rfl,rfl,λ_=>rfl⟩
theorem y9.trans{a:QA}(h:y9 L L1)(k:y9 L1 a):y9 L a:=⟨by rw[k.casks,h.casks],by rw[k.day,h.day],λj=>by rw[k.pure,h.pure]⟩
section
variable{r:Ql}{L L1:QA}{b:Q3}{n p:Int}(h:DS r L b)
include h
theorem DS.made(a:Xj L ⟨0,0,p,0,0,n⟩ L1):∃b',DS r L1 b'/\(∀j:Nat,b'.Bonds j=b.Bonds j+if p=(j:Int) then n else 0)/\b'.Made=b.Made+n/\b'.Used=b.Used:=by
 obtain⟨b',f,g,s,i,l,c,m,d⟩:=h.bd.made h.rules h.calm a;refine⟨b',⟨by rw[a.rules,h.rules],by rw[a.same.day];exact h.day,f,g,?_,by rw[c,d];exact h.least,λk o q=>by rw[c,m,d];exact h.due k o q⟩,λj=> ?_,l,c⟩
 ·rw[d,a.pays,h.pays];simp
 ·rw[i];by_cases e:p=(j:Int)
  ·subst e;rw[Bm rfl,hQ,Ex.Va]
  ·rw[B2 e,Ex.Uo qz];omega
theorem DS.used(a:Xj L ⟨3,0,p,0,0,n⟩ L1)(l:0<=n):∃b',DS r L1 b'/\(∀j:Nat,b'.Bonds j=b.Bonds j - if p=(j:Int) then n else 0)/\b'.Made=b.Made/\b'.Used=b.Used+n:=by
 obtain⟨b',m,o,v,q,s,c,t,d⟩:=h.bd.used h.rules h.calm a;refine⟨b',⟨by rw[a.rules,h.rules],by rw[a.same.day];exact h.day,m,o,?_,by rw[c,d];have:=h.least;omega,λk f g=> ?_⟩,λj=> ?_,s,c⟩
 ·rw[d,a.pays,h.pays];simp
 ·obtain⟨i,u⟩:=h.due k f g;have:=r7 f l;rw[c,t,d,g _ _ h.day,i,ov];rw[i] at u
  exact⟨rfl,by omega⟩
 ·rw[q];by_cases e:p=(j:Int)
  ·subst e;rw[Bm rfl,hQ,Ex.Va]
  ·rw[B2 e,Ex.Uo qz];omega
theorem DS.nF(a:Xj L ⟨6,0,0,0,0,n⟩ L1):∃b',DS r L1 b'/\b'.Bonds=b.Bonds/\b'.Made=b.Made/\b'.Used=b.Used:=by
 obtain⟨b',e,f,g,i,c,j,d,q,s⟩:=h.bd.nF h.rules h.calm a;refine⟨b',⟨by rw[a.rules,h.rules],by rw[a.same.day];exact h.day,e,f,?_,by rw[c,d];have:=h.least;omega,λk l m=> ?_⟩,g,i,c⟩
 ·rw[d,a.pays,h.pays];simp
 ·obtain⟨o,t⟩:=h.due k l m;rw[c,j,d];exact⟨o,by omega⟩
theorem DS.pA{q:Int}(i:Rf L p q n L1):∃b',DS r L1 b'/\(∀j:Nat,b'.Bonds j=b.Bonds j - (if p=(j:Int) then n else 0)+if q=(j:Int) then n else 0)/\b'.Made=b.Made/\b'.Used=b.Used/\y9 L L1:=by
 cases i with
 | stay hs=>
  refine⟨b,h,λj=> ?_,rfl,rfl,rfl,rfl,λ_=>rfl⟩;rcases hs with hs | hs
  ·subst hs;simp
  ·subst hs;omega
 | go y l L1 d a c=>
  have hs:=a.same.trans c.same;have hi:L1.ids=L.ids:=by obtain⟨rfl,_⟩:=a;rfl
  rw[hi] at c
  obtain⟨b',m,o,z,s,t,u,f,v,g⟩:=h.bd.pA h.rules h.calm a c l;refine⟨b',⟨by show d.rules=_;rw[c.rules,a.rules,h.rules],by show 0<=d.day;rw[hs.day];exact h.day,m.later rfl<|IN _,o,?_,by rw[f,g];exact h.least,λk w x=>by rw[f,v,g];exact h.due k w x⟩,λj=> ?_,u,f,hs.casks,hs.day,hs.pure⟩
  ·show b'.Paid=BB d.duties;rw[g,c.pays,a.pays,h.pays];simp
  ·rw[t];by_cases e:q=(j:Int)
   ·subst e;rw[hQ,Ex.Va,B2 qz,Bm rfl];omega
   ·rw[B2 e,Ex.Uo qz];by_cases e:p=(j:Int)
    ·subst e;rw[Bm rfl,hQ,Ex.Va];omega
    ·rw[B2 e,Ex.Uo qz];omega
end
structure Ai(r:Ql)(L:QA)(cu:Ca.DL)(b:Q3):Prop where
 rok:Ex.XJ r=true
 ds:DS r L b
 bc:BC L cu
 nums:cu.all.map (·.C.Number)=HH L.casks
 ev:CQ (Ze L) cu.all b.Bonds (b.Made - b.Used)
theorem yE{l l' :Q0 Ca.ZY}{x:QE}(h:Ca.M3 l x n l'):l'.map (·.C.Number)=if x.Kind==0 then l.map (·.C.Number)++[x.Cask] else l.map (·.C.Number):=by
 have hs:∀(l:Q0 Ca.ZY) {i:Nat} {c c' :Ca.ZY},l[i]? =some c->c'.C.Number=c.C.Number->(l.set i c').map (·.C.Number)=l.map (·.C.Number):=λl i c c' g e=>by
  rw[oY];refine Nf ?_;rw[hP,g,e];rfl
 cases h with
 | make k f n=>rw[Bm<|by simp[k]];simp[Ca.Ol]
 | fill k i c f h r=>rw[B2<|by simp[k]];exact hs l h (Nv _ _ _).1
 | rack k i c f h j o m h' ne p d q a r=>
  rw[B2 (by simp[k]),hs _ (by rw[u1<|iP ne];exact h) (Oq _ _).1];exact hs l h' (Nv _ _ _).1
 | drain k i c f h d a=>rw[B2<|by simp[k]];exact hs l h (Oq _ _).1
 | carry k i c f h=>rw[B2<|by simp[k]];exact hs l h rfl
 | sell k i c f h o d t=>rw[B2<|by simp[k]];exact hs l h rfl
 | pledge k i c f h o d=>rw[B2<|by simp[k]];exact hs l h rfl
 | free k i c f h d=>rw[B2<|by simp[k]];exact hs l h rfl
 | char k i c f h a=>rw[B2<|by simp[k]];exact hs l h rfl
structure dY(r:Ql)(L L1:QA)(b:Q3)(x:QE)(l:List Ca.ZY)(cu' :Ca.DL):Prop where
 ds:DS r L1 b
 bc:BC L1 cu'
 nums:cu'.all.map (·.C.Number)=HH L1.casks
 ev:CQ (Ze L1) l b.Bonds (b.Made - b.Used)
 evd:Ca.M3 l {x with Day:=L.day} L.casks.length cu'.all
 ok:Ca.TP L.day L.casks.length l
 fine:Ca.Xb {x with Day:=L.day}=true
 at0:∀{i:Nat} {c:Ca.ZY} {num:Int},Ca.Js l num=some i->l[i]? =some c->atR L num=(c.C,0)/\c.C.Number=num
 at1:∀{i:Nat} {c:Ca.ZY} {num:Int},Ca.Js cu'.all num=some i->cu'.all[i]? =some c->atR L1 num=(c.C,0)
theorem Ai.sV{j:Ca.DL}{x:QE}(h:Ai r L j b)(l:HS L x L1):∃a,dY r L L1 b x (Ca.qy L.day j) a:=by
 obtain⟨a,m,o,p,q⟩:=h.bc.step l;have d:L1={L with casks:=L.casks++[{x with Day:=L.day}]}:=l.1;refine⟨a,?_,m,?_,?_,o,(Ca.Fc h.bc.pe).1,q,λf g=> ?_,fun{i} {c} {num} f g=> ?_⟩
 ·rw[d];exact h.ds.later rfl rfl<|IN _
 ·rw[yE o]
  have e:(Ca.qy L.day j).map (·.C.Number)=HH L.casks:=by
   rw[<-h.nums];unfold Ca.qy;rw[lY];refine oL λc _=> ?_;simp only[Function.comp];unfold Ca.JX;split<;>rfl
  rw[e,d];exact(MG _ _).symm
 ·rw[d];exact h.ev.nx _
 ·obtain⟨c',k,e⟩:=Ca.FJ f;rw[g] at k
  simp only[UV] at k
  subst k;exact⟨Ca.Rz h.bc.pe f g,e⟩
 ·have s:L1.day=L.day:=by rw[d]
  refine Ca.Rz m.pe (i:=i) ?_ ?_<;>rw[s,p]
  ·exact f
  ·exact g
theorem EN{c:ZU}{p:Int}(j:0<=Ze L c.Number/\Ze L c.Number<=c.Amount/\c.Amount<=1073741824)(l:1<=n/\n<=c.Amount)(h:AU L c n=some p):0<=p/\p<=Ze L c.Number/\p<=n/\Ze L c.Number - p<=c.Amount - n:=by
 unfold AU at h
 generalize Ze L c.Number=f at*
 generalize c.Amount=A at*
 obtain⟨g,m,o⟩:=j;split at h
 ·rename_i e;have e:n=A:=by simpa using e
  simp only[UV] at h
  omega
 ·have i:0<=f*n:=r7 g qz;have q:f*n<=1073741824*1073741824:=eA qz qz qz qz;have k:Qz (f*n)=f*n:=Qi qz qz;obtain⟨s,a⟩:=gW h;rw[k,mZ i] at a
  have t:0<=f*n / A:=eU i qz;have u:f*n / A<=f:=iU qz (sp qz g);have v:f*n / A<=n:=iU qz (by rw[oZ f n];exact sp qz qz)
  have w:f+n - A<=f*n / A:=Int.le_ediv_of_mul_le qz (by
   have:=r7 (show 0<=A - f by omega) (show 0<=A - n by omega);simp only[Int.sub_mul,Int.mul_sub,Int.add_mul] at this ⊢
   rw[oZ A n] at this
   omega)
  have d:IntKind.i64.wrap (f*n / A)=f*n / A:=Qi qz qz;rw[d] at a
  subst a;omega
end
section
open Go.Dec
variable{r:Ql}{L L':QA}{b:Q3}{n:Int}{w:Q0 DO}{ns:Q0 Int}{cu:Ca.DL}
theorem OQ{α:Type}{l:Q0 α}{i:Nat}{c c' :α}(h:l[i]? =some c):(l.set i c')[i]? =some c' :=y1 (by
 rcases qs i l.length with k | k
 ·exact k
 ·rw[td k] at h;cases h)
theorem CQ.keep{f:Int->Int}{l l' :Q0 Ca.ZY}{B:Nat->Int}{M:Int}{x:QE}(E:CQ f l B M)(h:Ca.M3 l x n l')(m:x.Kind≠2/\x.Kind≠3/\x.Kind≠4)(a:x.Kind=0->x.Amount<=1073741824)(d:x.Kind=1->0<=x.Amount):CQ f l' B M:=by
 cases h with
 | make k f n=>exact E.make f (a k)
 | fill k i c f h r=>
  obtain⟨e,g,o,j⟩:=Nv c (Ca.BL n) x.Amount;have:=E.amt i c h;have:=d k;exact E.put h e (.inl g) qz j
 | rack k=>omega
 | drain k=>omega
 | carry k=>omega
 | sell k i c f h=>exact E.put h rfl (.inl rfl) (E.amt i c h).2.1 rfl
 | pledge k i c f h=>exact E.put h rfl (.inl rfl) (E.amt i c h).2.1 rfl
 | free k i c f h=>exact E.put h rfl (.inl rfl) (E.amt i c h).2.1 rfl
 | char k i c f h=>exact E.put h rfl (.inl rfl) (E.amt i c h).2.1 rfl
theorem DV{s:Int}(a:0<=n/\n<=1099511627776)(hs:1<=s/\s<=10000):Uj n s=n*s / 10000/\0<=n*s / 10000/\n*s / 10000<=n:=by
 have c:0<=n*s:=r7 a.1 qz;have e:n*s<=n*10000:=sp hs.2 a.1;have d:Qz (n*s)=n*s:=Qi qz qz;unfold Uj;rw[d,mZ c];generalize n*s=m at*
 exact⟨Qi qz qz,by omega,by omega⟩
section
variable{r:Ql}{L L1 L2:QA}{cu:Ca.DL}{b:Q3}(h:Ai r L cu b)
include h
theorem Ai.later(d:L1.rules=L.rules)(a:L1.casks=L.casks)(e:L1.duties=L.duties)(c:L.day<=L1.day)(f:L1.day<=65536)(g:∀k,Ze L1 k=Ze L k):Ai r L1 cu b:=⟨h.rok,h.ds.later d e c,h.bc.later a c f,by rw[a];exact h.nums,h.ev.ext g (λ_ _=>rfl) rfl⟩
theorem Ai.keep{x:QE}(c:HS L x L1)(d:x.Kind≠2/\x.Kind≠3/\x.Kind≠4)(f:x.Kind=0->x.Amount<=1073741824):∃a,Ai r L1 a b:=by
 obtain⟨a,Q⟩:=h.sV c;exact⟨a,h.rok,Q.ds,Q.bc,Q.nums,Q.ev.keep Q.evd d f λe=>by have:=(Ca.DW Q.fine<|.inl e).1;omega⟩
theorem Ai.fill{c s:Int}(hs:1<=s/\s<=10000)(A:HS L ⟨1,0,c,0,0,0,n,0⟩ L1)(d:Xj L1 ⟨0,0,(atR L1 c).1.Place,0,0,Uj n s⟩ L2):∃o b',Ai r (WY L2 c<|Qz<|Ze L2 c+Uj n s) o b'/\b'.Made=b.Made+Uj n s:=by
 obtain⟨⟨u,t'⟩,Q⟩:=h.sV A;have B:1<=n/\n<=1099511627776:=Ca.DW Q.fine<|.inl rfl;obtain⟨E,F,G⟩:=DV (n:=n) (s:=s) ⟨by omega,B.2⟩ hs;rw[<-E] at F G
 generalize Uj n s=q at*
 have x:CQ (Ze L1) u b.Bonds (b.Made - b.Used):=Q.ev.keep Q.evd zh zh λ_=>by show 0<=n;omega
 have H:Ca.M3 (Ca.qy L.day cu) _ _ u:=Q.evd;cases H with
 | make k=>cases k
 | rack k=>cases k
 | drain k=>cases k
 | carry k=>cases k
 | sell k=>cases k
 | pledge k=>cases k
 | free k=>cases k
 | char k=>cases k
 | fill k i a f g y=>
  obtain⟨m,I,K,S⟩:=Nv a (Ca.BL L.casks.length) n;have p:=OQ (c' :=Ca.Ua a (Ca.BL L.casks.length) n) g;have l:a.C.Number=c:=(Q.at0 f g).2;have t:=Q.at1 (num:=c) (by rw[<-l,<-m];exact Ca.R8 x.nd p) p;rw[t] at d
  obtain⟨b',D,M,z,N⟩:=Q.ds.made d;have P:=Q.ev.amt i a g;rw[l] at P
  have y:a.C.Amount+n<=a.C.Room:=y;have e:=d.same;have R:Qz (Ze L2 c+q)=Ze L1 c+q:=by rw[e.pure];exact Qi qz qz
  refine⟨_,b',⟨h.rok,D.later rfl rfl<|IN _,Q.bc.later e.casks (by show L1.day<=L2.day;rw[e.day];exact IN _) (by show L2.day<=_;rw[e.day];exact Q.bc.day.2),by show _=HH L2.casks;rw[e.casks];exact Q.nums,?_⟩,z⟩;refine(x.rM p (v:=Ze L1 c+q) ⟨by omega,by rw[K];omega⟩).ext (λk=> ?_) (λj _=> ?_) ?_
  ·rw[D9,R,m,l,e.pure]
  ·rw[M,m,l,I];split<;>omega
  ·rw[z,N,m,l];omega
theorem Ai.rack{a c p:Int}(N:HS L ⟨2,0,a,c,0,0,n,0⟩ L1)(F:AU L1 (atR L a).1 n=some p)(A:Rf L1 (atR L a).1.Place (atR L c).1.Place p L2):∃B b',Ai r (WY (WY L2 a<|Qz<|Ze L2 a - p) c<|Qz<|Ze (WY L2 a<|Qz<|Ze L2 a - p) c+p) B b'/\b'.Made=b.Made:=by
 obtain⟨⟨P,t'⟩,Q⟩:=h.sV N;have R:1<=n/\n<=1099511627776:=Ca.DW Q.fine<|.inr<|.inl rfl;have S:Ca.M3 (Ca.qy L.day cu) _ _ P:=Q.evd;cases S with
 | make k=>cases k
 | fill k=>cases k
 | drain k=>cases k
 | carry k=>cases k
 | sell k=>cases k
 | pledge k=>cases k
 | free k=>cases k
 | char k=>cases k
 | rack k i l f g j o T y ne ow c1 c2 am G=>
  obtain⟨t,q⟩:=Q.at0 f g;obtain⟨m,d⟩:=Q.at0 T y;have q:l.C.Number=a:=q;have d:o.C.Number=c:=d;have t:atR L a=_:=t;have m:atR L c=_:=m;rw[t] at F A
  rw[m] at A
  have V:=Q.ev.amt i l g;have W:=Q.ev.amt j o y;have am:n<=l.C.Amount:=am;have G:o.C.Amount+n<=o.C.Room:=G;have hk:=(Q.ok.each l<|T2 g).amt.2;obtain⟨p0,X,p2,Y⟩:=EN (L:=L1) (c:=l.C) qz ⟨R.1,am⟩ F;rw[q] at V X Y
  rw[d] at W
  have E:c≠a:=λe=>ne (Q.ev.inj g y<|by rw[q,d,e]);obtain⟨b',D,Z,H,hU,u⟩:=Q.ds.pA A;obtain⟨l1,l2,l3,l4⟩:=Oq l n;obtain⟨z,I,s3,s4⟩:=Nv o l n;have E1:=Q.ev.rM g (v:=Ze L1 a - p) ⟨by omega,by omega⟩;have E2:=E1.put g l1 (.inl l2) (by simp only[q,hW,B3];omega) l4;have K:((Ca.qy L.day cu).set i<|Ca.WG l n)[j]? =some o:=by rw[u1 ne];exact y
  have s:(c==a)=false:=by simpa using E
  have E3:=E2.put K z (.inl I) (by rw[q,d,s];simp only[H1,By];omega) s4;have M:=E3.rM (OQ K) (v:=Ze L1 c+p) ⟨by omega,by omega⟩;have w1:Qz (Ze L2 a - p)=Ze L1 a - p:=by rw[u.pure];exact Qi qz qz
  have w2:Qz (Ze (WY L2 a<|Qz<|Ze L2 a - p) c+p)=Ze L1 c+p:=by
   rw[D9,s,B2 zh,u.pure];exact Qi qz qz
  have x:((Ca.qy L.day cu).set i<|Ca.WG l n).set j (Ca.Ua o l n)=((Ca.qy L.day cu).set j<|Ca.Ua o l n).set i (Ca.WG l n):=List.set_comm _ _ ne;rw[x] at M
  refine⟨_,b',⟨h.rok,D.later rfl rfl<|IN _,Q.bc.later u.casks (by show L1.day<=L2.day;rw[u.day];exact IN _) (by show L2.day<=_;rw[u.day];exact Q.bc.day.2),by show _=HH L2.casks;rw[u.casks];exact Q.nums,?_⟩,H⟩;refine M.ext (λk=> ?_) (λj _=> ?_) ?_
  ·rw[w2,D9,D9,w1,z,q,d,u.pure]
  ·rw[Z,z,I,q,d,s];simp only[H1,By];split<;>split<;>omega
  ·rw[H,hU,z,q,d,s];simp only[H1,By];omega
theorem Ai.carry{a p:Int}(t:HS L ⟨4,0,a,0,0,0,0,p⟩ L1)(q:Rf L1 (atR L a).1.Place p (Ze L1 a) L2):∃o b',Ai r L2 o b'/\b'.Made=b.Made:=by
 obtain⟨⟨u,t'⟩,Q⟩:=h.sV t;have x:Ca.M3 (Ca.qy L.day cu) _ _ u:=Q.evd;cases x with
 | make k=>cases k
 | fill k=>cases k
 | rack k=>cases k
 | drain k=>cases k
 | sell k=>cases k
 | pledge k=>cases k
 | free k=>cases k
 | char k=>cases k
 | carry k i c f g=>
  obtain⟨d,l⟩:=Q.at0 f g;have l:c.C.Number=a:=l;have d:atR L a=_:=d;rw[d] at q
  have y:=Q.ev.amt i c g;rw[l] at y
  obtain⟨b',D,z,s,A,m⟩:=Q.ds.pA q;have B:=Q.ev.rM g (v:=0) ⟨by omega,by omega⟩;have E:=B.put (c' :={c with C:={c.C with Place:=p}}) g rfl (.inr zh) (by simp only[hW,B3];omega) rfl;have F:=E.rM (OQ g) (v:=Ze L1 a) ⟨by omega,by show _<=c.C.Amount;omega⟩;refine⟨_,b',⟨h.rok,D,Q.bc.later m.casks (by rw[m.day];exact IN _) (by rw[m.day];exact Q.bc.day.2),by rw[m.casks];exact Q.nums,?_⟩,s⟩;refine F.ext (λk=> ?_) (λj _=> ?_) ?_
  ·rw[m.pure];show _=if k==c.C.Number then _ else _
   rw[l];by_cases e:k=a
   ·subst e;simp
   ·simp[e]
  ·rw[z];show _=b.Bonds j+(if c.C.Place=(j:Int) then 0 - Ze L1 c.C.Number else 0)+(if p=(j:Int) then Ze L1 a - (if c.C.Number==c.C.Number then 0 else _) else 0);rw[l];simp only[hW,B3];split<;>split<;>omega
  ·rw[s,A];show _=b.Made - b.Used+(0 - Ze L1 c.C.Number)+(Ze L1 a - (if c.C.Number==c.C.Number then 0 else _));rw[l];simp only[hW,B3];omega
theorem Ai.rY{num:Int}{q:Qq}(a:BS L num n=some (.ok (q,L2))):∃x b',Ai r L2 x b'/\b'.Made=b.Made:=by
 unfold BS at a
 obtain⟨_,a⟩:=YX a;obtain⟨L1,E,a⟩:=Y2 a;obtain⟨p,z,a⟩:=x8.1 a;obtain⟨Z,m,a⟩:=Y2 a;obtain⟨_,_,a⟩:=x8.1 a;obtain⟨_,_,a⟩:=x8.1 a;simp only[UV,Out.ok.injEq,L4] at a
 obtain⟨_,rfl⟩:=a;have F:=X3 h.bc.days E;obtain⟨⟨G,t'⟩,Q⟩:=h.sV F;have H:1<=n/\n<=1099511627776:=Ca.DW Q.fine<|.inr<|.inr rfl;have I:Ca.M3 (Ca.qy L.day cu) _ _ G:=Q.evd;cases I with
 | make k=>cases k
 | fill k=>cases k
 | rack k=>cases k
 | carry k=>cases k
 | sell k=>cases k
 | pledge k=>cases k
 | free k=>cases k
 | char k=>cases k
 | drain k i s f g c1 am=>
  obtain⟨o,l⟩:=Q.at0 f g;have l:s.C.Number=num:=l;have o:atR L num=_:=o;rw[o] at z m
  have K:=Q.ev.amt i s g;have am:n<=s.C.Amount:=am;have hk:=(Q.ok.each s<|T2 g).amt.2;obtain⟨M,N,p2,P⟩:=EN (L:=L1) (c:=s.C) qz ⟨H.1,am⟩ z;rw[l] at K N P
  obtain⟨R,l2,l3,S⟩:=Oq s n;have T:=Q.ev.rM g (v:=Ze L1 num - p) ⟨by omega,by omega⟩;have A:=T.put g R (.inl l2) (by simp only[l,hW,B3];omega) S;unfold Te at m
  split at m
  ·obtain⟨u,V,m⟩:=Y2 m;simp only[UV,Out.ok.injEq] at m
   subst m;have d:=SJ V;obtain⟨b',D,W,B,X⟩:=Q.ds.used d M;have t:=d.same;have Y:Qz (Ze u num - p)=Ze L1 num - p:=by rw[t.pure];exact Qi qz qz
   refine⟨_,b',⟨h.rok,D.later rfl rfl<|IN _,Q.bc.later t.casks (by show L1.day<=u.day;rw[t.day];exact IN _) (by show u.day<=_;rw[t.day];exact Q.bc.day.2),by show _=HH u.casks;rw[t.casks];exact Q.nums,?_⟩,B⟩;refine A.ext (λk=> ?_) (λj _=> ?_) ?_
   ·rw[D9,Y,l,t.pure]
   ·rw[W,l];split<;>omega
   ·rw[B,X,l];omega
  ·simp only[UV,Out.ok.injEq] at m
   subst m;have y:p=0:=by omega
   subst y;refine⟨_,b,⟨h.rok,Q.ds,Q.bc,Q.nums,A.ext (λk=> ?_) (λj _=> ?_) ?_⟩,rfl⟩
   ·rw[l];by_cases e:k=num
    ·subst e;simp
    ·simp[e]
   ·rw[l];split<;>omega
   ·rw[l];omega
end
theorem Ai.nA:∀(ps:Q0 (Int×Int)) {x y:QU} {L c:QA} {cu:Ca.DL} {b:Q3},Ai r L cu b->Bx ps x L=some (.ok (y,c))->∃d b',Ai r c d b'/\b'.Made=b.Made
 | [],x,y,L,c,cu,b,h,a=>by
  simp only[Bx,UV,Out.ok.injEq,L4] at a
  obtain⟨_,rfl⟩:=a;exact⟨cu,b,h,rfl⟩
 | p::ps,x,y,L,c,cu,b,h,a=>by
  unfold Bx at a
  obtain⟨⟨q,m⟩,e,a⟩:=Y2 a;obtain⟨_,a⟩:=Xn a;obtain⟨o,s,f,g⟩:=h.rY e;obtain⟨i,j,k,l⟩:=Ai.nA ps f a;exact⟨i,j,k,by rw[l,g]⟩
def MH(w:Q0 DO):Q0 Int->Int
 | [_,n,s]=>if w=HY then n*s / 10000 else 0
 | _=>0
theorem SA(h:w≠HY):MH w ns=0:=by
 unfold MH;split
 ·rw[B2 h]
 ·rfl
theorem Ai.mR{q:Q0 DO}(h:Ai r L cu b)(E:Deed L w ns q L'):∃f b',Ai r L' f b'/\b'.Made=b.Made+MH w ns:=by
 have g:∀{w:Q0 DO},w∈P9->MH w ns=0:=λi=>SA λe=>by subst e;revert i;decide
 have day:L.day<=65536:=h.bc.day.2;cases E with
 | day d F I=>
  exact⟨cu,b,h.later rfl rfl rfl I F λ_=>rfl,by rw[SA j2];omega⟩
 | rules a c d ns ps l A F=>rw[h.ds.rules] at A;cases A
 | make w i c v p m o k t j=>
  obtain⟨f,h'⟩:=h.keep j zh λ_=>t;exact⟨f,b,h',by rw[g i];omega⟩
 | fill0 c n s k hs j l=>
  obtain⟨f,h'⟩:=h.keep j zh zh;obtain⟨_,Q⟩:=h.sV j;have y:1<=n/\n<=1099511627776:=Ca.DW Q.fine<|.inl rfl;obtain⟨B,K,M⟩:=DV (n:=n) (s:=s) ⟨by omega,y.2⟩ hs;refine⟨f,b,h',?_⟩;show b.Made=b.Made+if HY=HY then n*s / 10000 else 0
  rw[Bm rfl];rw[B] at l
  omega
 | fill c n s k G hs j l d=>
  obtain⟨_,Q⟩:=h.sV j;have y:1<=n/\n<=1099511627776:=Ca.DW Q.fine<|.inl rfl;obtain⟨B,K,M⟩:=DV (n:=n) (s:=s) ⟨by omega,y.2⟩ hs;obtain⟨f,b',h',e⟩:=h.fill hs j d;refine⟨f,b',h',?_⟩;show b'.Made=b.Made+if HY=HY then n*s / 10000 else 0
  rw[Bm rfl,e,B]
 | rack w i a c n p k G j l t=>
  obtain⟨f,b',h',e⟩:=h.rack j l t;exact⟨f,b',h',by rw[e,g i];omega⟩
 | carry w i a p k _ j t=>
  obtain⟨f,b',h',e⟩:=h.carry j t;exact⟨f,b',h',by rw[e,g i];omega⟩
 | keep w i ns x k N j=>
  obtain⟨f,h'⟩:=h.keep j ⟨by omega,by omega,by omega⟩ λe=>by omega
  exact⟨f,b,h',by rw[g i];omega⟩
 | stamps w i ns x k N P hs=>
  obtain⟨rfl,_⟩:=hs;exact⟨cu,b,h.later rfl rfl rfl (IN _) day λ_=>rfl,by rw[g i];omega⟩
 | pay w i a k d=>
  obtain⟨b',D,R,H,S⟩:=h.ds.nF d;have u:=d.same;exact⟨cu,b',⟨h.rok,D,h.bc.later u.casks (by rw[u.day];exact IN _) (by rw[u.day];exact day),by rw[u.casks];exact h.nums,h.ev.ext u.pure (λ_ _=>by rw[R])<|by rw[H,S]⟩,by rw[H,g i];omega⟩
 | bottle num v a z ds ps x k G l A T y hs P C=>
  obtain⟨f,b',h',e⟩:=Ai.nA ps h T;obtain⟨rfl,_⟩:=C;exact⟨f,b',h'.later rfl rfl rfl (IN _) h'.bc.day.2 λ_=>rfl,by rw[e,SA j2];omega⟩
 | ask d E i ns q V=>
  exact⟨cu,b,h,by rw[SA λe=>by rw[e] at i;revert i;decide];omega⟩
theorem Ai.word{i:Q0 DO}(h:Ai r L cu b)(j:Deed L w ns i L'):w≠HX/\((w≠HY/\MH w ns=0)∨∃c n s,w=HY/\ns=[c,n,s]/\Uj n s=n*s / 10000/\0<=n*s / 10000/\n*s / 10000<=1099511627776):=by
 have no:∀{w:Q0 DO},w≠HY->w≠HX->w≠HX/\((w≠HY/\MH w ns=0)∨∃c n s,w=HY/\ns=[c,n,s]/\Uj n s=n*s / 10000/\0<=n*s / 10000/\n*s / 10000<=1099511627776):=λk o=>⟨o,.inl ⟨k,SA k⟩⟩;have rest:∀w∈P9,w≠HY/\w≠HX:=by decide
 have ask:∀w∈gQ,w≠HY/\w≠HX:=by decide
 have l:∀{g:QA} {c n s:Int},1<=s/\s<=10000->HS L ⟨1,0,c,0,0,0,n,0⟩ g->Uj n s=n*s / 10000/\0<=n*s / 10000/\n*s / 10000<=1099511627776:=fun{g c n s} hs f=>by
  obtain⟨_,Q⟩:=h.sV f;have p:1<=n/\n<=1099511627776:=Ca.DW Q.fine<|.inl rfl;obtain⟨q,t,u⟩:=DV ⟨by omega,p.2⟩ hs;exact⟨q,t,by omega⟩
 cases j with
 | day=>exact no j2 j2
 | rules a c d ns ps v m=>rw[h.ds.rules] at m;cases m
 | make w e=>exact no (rest w e).1 (rest w e).2
 | fill0 c n s g hs f=>exact⟨by decide,.inr ⟨c,n,s,rfl,rfl,l hs f⟩⟩
 | fill c n s g x hs f=>exact⟨by decide,.inr ⟨c,n,s,rfl,rfl,l hs f⟩⟩
 | rack w e=>exact no (rest w e).1 (rest w e).2
 | carry w e=>exact no (rest w e).1 (rest w e).2
 | keep w e=>exact no (rest w e).1 (rest w e).2
 | stamps w e=>exact no (rest w e).1 (rest w e).2
 | pay w e=>exact no (rest w e).1 (rest w e).2
 | bottle=>exact no j2 j2
 | ask d j e=>exact no (ask _ e).1 (ask _ e).2
structure wS(L:QA):Prop where
 rules:L.rules=none
 casks:L.casks=[]
 duties:L.duties=[]
 day:0<=L.day/\L.day<=65536
 pure:∀k,Ze L k=0
theorem wS.start:wS Ul:=⟨rfl,rfl,rfl,by decide,λ_=>rfl⟩
theorem wS.mO(h:wS L)(d:Ex.XJ r=true)(e:L' ={L with rules:=some r}):∃cu b,Ai r L' cu b/\b.Made=0/\b.Paid=0:=by
 subst e;refine⟨⟨[],0⟩,Ex.A8.acc.B,⟨d,⟨rfl,h.day.1,⟨λy a=> ?_,?_,Ex.A8,?_,rfl,h.day.1⟩,⟨rfl,rfl,rfl,rfl,rfl⟩,?_,⟨IN _,IN _⟩,λk _ _=>⟨?_,IN _⟩⟩,⟨h.day,λy a=> ?_,?_,?_⟩,?_,⟨iB,λi c f=> ?_,λk _=>h.pure k,λj _=>rfl,rfl⟩⟩,rfl,rfl⟩
 ·rw[show({L with rules:=some r}:QA).duties=[] from h.duties] at a;cases a
 ·show L.duties.length<=_;rw[h.duties];decide
 ·show Ex.HV r L.day L.duties 0 _=(_,L.duties.length);rw[h.duties];rfl
 ·show _=BB L.duties;rw[h.duties];rfl
 ·show(0:Int)=k*0;omega
 ·rw[show({L with rules:=some r}:QA).casks=[] from h.casks] at a;cases a
 ·show L.casks.length<=_;rw[h.casks];decide
 ·show Ca.HV L.day L.casks 0 _=(_,L.casks.length);rw[h.casks];rfl
 ·show _=HH L.casks;rw[h.casks];rfl
 ·simp at f
end
end Go.Proofs.YtbjgigfhnlnbfaaGreatDoor
end
