/- OfficeRefused is true whatever its inputs are: no condition but the row's own. -/
import Derived.Test.YtijhfeohbhedkaaGreatDoorPo9
import Derived.Test.YtijhfeohbhedkaaGreatDoorTie
import Derived.Test.YtijhfeohbhedkaaGreatDoorCards
import Derived.ChangeMaps5
noncomputable section
namespace Go.Dec
abbrev nc:=@Int.natCast_add
abbrev mT:=@List.all_nil
abbrev mV:=@Int.natCast_one
abbrev mj:=@beq_eq_false_iff_ne
abbrev lX:=@bne_iff_ne
abbrev lZ:=@MakeChecks.laidMetH_plain
abbrev eC:=@or_false
abbrev eV:=@List.flatten_cons
abbrev eY:=@Decidable.not_not
end Go.Dec
namespace Go.Proofs.YtijhfeohbhedkaaGreatDoor.Bo
section
open Go.Dec
theorem uL(n:Nat)(h:n<=1000000):UK (n:Int)=some []:=by
 unfold UK;have e0:ZC (0 - 0)=0:=by rw[Qq]<;>omega
 simp only[show ¬((n:Int) < 0) by omega,pw,By,PP,DO,QT,e0];rw[show((n:Int) - 0)=n by omega,Qq (by omega)<|by omega];by_cases hn:(n:Int) > 0
 ·simp only[hn,pv,OF];have:LD (n:Int)=some n:=by unfold LD;rw[T2<|by omega];simp
  rw[this];simp[ZX]
 ·simp only[hn,pw,By,PP,DO]
theorem k9(ls:UV (UV QB))(h:ls.flatten.length<=1000000)(h2:ls.length<=1000):Ve ls=some ls.flatten:=by
 unfold Ve
 have k1:=DY (body:=Yw ls) (fun(t:Int) i=>(t,(i:Int))) (λt _ x=>if ZC (t+(x.length:Int)) < 0 then none else some (.next<|ZC<|t+(x.length:Int))) (λt=>t) ls
  (λt i x hx=>by
   have hi:=Zr hx;unfold Yw;simp only[KI,hx,DO,QT];rw[Qq (n:=(i:Int)+1) (by omega)<|by omega];simp only[show(decide<|(i:Int) < (ls.length:Int))=true by simpa using hi,OF];by_cases hc:ZC (t+(x.length:Int)) < 0<;>simp[hc,UI.cG])
  (λt=>by unfold Yw;simp) 0
 have k2:=DY (body:=Yv ls) (fun(t:UV QB) i=>(t,(i:Int))) (λt _ x=>(Vn t x).map .next) (λt=>t) ls
  (λt i x hx=>by
   have hi:=Zr hx;unfold Yv;simp only[KI,hx,DO];rw[Qq (n:=(i:Int)+1) (by omega)<|by omega];simp only[show(decide<|(i:Int) < (ls.length:Int))=true by simpa using hi,OF];cases Vn t x<;>simp[UI.cG])
  (λt=>by unfold Yv;simp) []
 simp only[pb] at k1 k2
 have g1:∀(l:UV (UV QB)) (i:Nat) (t:Int),0<=t->t+l.flatten.length<=1000000->P5 (fun(t:Int) _ (x:UV QB)=>if ZC (t+(x.length:Int)) < 0 then none else some (.next<|ZC<|t+(x.length:Int))) (λt=>t) l i t=some (t+l.flatten.length):=by
  intro l
  induction l with
  | nil=>intro i t h0 h1;simp[P5]
  | cons x l ih=>
   intro i t h0 h1;simp only[eV,pV,nc] at h1
   have e:ZC (t+(x.length:Int))=t+x.length:=Qq (by omega) (by omega);simp only[P5,e,show ¬(t+(x.length:Int) < 0) by omega,PP];rw[ih _ _ (by omega)<|by omega];simp;omega
 have g2:∀(l:UV (UV QB)) (i:Nat) (t:UV QB),t.length+l.flatten.length<=1000000->P5 (λt _ x=>(Vn t x).map .next) (λt=>t) l i t=some (t++l.flatten):=by
  intro l
  induction l with
  | nil=>intro i t h0;simp[P5]
  | cons x l ih=>
   intro i t h1;simp only[eV,pV] at h1
   have e:Vn t x=some (t++x):=by unfold Vn;rw[T2<|by omega]
   simp only[P5,e,dO];rw[ih _ _ (by rw[pV];omega)];simp
 rw[k1,g1 ls 0 0 (by omega)<|by omega];simp only[DO,Int.zero_add];rw[uL _ h];simp only[DO];rw[k2,g2 ls 0 []<|by simpa using h];simp
def qC(x:QB):Prop:=0<=x.Lo/\x.Lo<=x.Hi/\x.Hi<=1099511627776
def LB(t:QB)(i:Nat)(y:QB):H1 (UI QB<|Int×QB):=if y.Lo<=t.Hi+1 then some (.next<|QB.mk (Je t.Lo y.Lo)<|imax t.Hi y.Hi) else some (.done ((i:Int),t))
theorem R5:∀(r:UV QB) (i:Nat) (x:QB),Wv r->qC x->(∀y∈r,x.Lo<=y.Hi+1)->
  ∃r1 r2 x',r=r1++r2/\P5 LB (λt=>((i+r.length:Nat),t)) r i x=some (((i+r1.length:Nat):Int),x')/\qC x'/\(∀z∈r2,x'.Hi+1 < z.Lo)/\(∀n,P3 x' n↔P3 x n∨mem r1 n)/\(∀b,b < x.Lo->(∀y∈r,b < y.Lo)->b < x'.Lo)
 | [],i,x,_,hx,_=>⟨[],[],x,rfl,by simp[P5],hx,by simp,λn=>by simp[mem],λb hb _=>hb⟩
 | y::r,i,x,hr,hx,hy=>by
  have oy:=hr.ok y (by simp);have hy0:=hy y (by simp);have hap:=(aT.1 hr.apart).1;by_cases hc:y.Lo<=x.Hi+1
  ·have ox:qC (QB.mk (Je x.Lo y.Lo)<|imax x.Hi y.Hi):=by
    simp only[qC,Je,imax] at hx ⊢
    split<;>split<;>omega
   obtain⟨r1,r2,x',e,hg,h1,h2,h3,h4⟩:=R5 r (i+1) (QB.mk (Je x.Lo y.Lo)<|imax x.Hi y.Hi) hr.tail ox λz hz=>by
    have:=hap z hz;have oz:=hr.ok z (by simp[hz]);have:=hy z (by simp[hz]);show Je x.Lo y.Lo<=z.Hi+1;simp only[Je];split<;>omega
   refine⟨y::r1,r2,x',by rw[e];rfl,?_,h1,h2,λn=> ?_,λb hb hbr=> ?_⟩
   ·simp only[P5,LB,hc,OF];rw[show(i+(y::r).length)=(i+1+r.length) by simp;omega,show(i+(y::r1).length)=(i+1+r1.length) by simp;omega];exact hg
   ·rw[h3 n,mem_cons];simp only[qC] at hx
    simp only[P3,Je,imax];constructor
    ·rintro(h | h)
     ·by_cases h5:x.Lo<=n/\n<=x.Hi
      ·exact .inl h5
      ·refine .inr<|.inl ?_;split at h<;>split at h<;>omega
     ·exact .inr<|.inr h
    ·rintro(h | h | h)
     ·left;split<;>split<;>omega
     ·left;split<;>split<;>omega
     ·exact .inr h
   ·apply h4
    ·have:=hbr y (by simp);show b < Je x.Lo y.Lo;simp only[Je];split<;>omega
    ·exact λz hz=>hbr z<|by simp[hz]
  ·refine⟨[],y::r,x,rfl,?_,hx,λz hz=> ?_,λn=>by simp[mem],λb hb _=>hb⟩
   ·simp only[P5,LB,hc,PP];simp
   ·rcases y1.1 hz with rfl | hz
    ·omega
    ·have:=hap z hz;omega
theorem RD(f:QB->Bool):∀(r:UV QB) (i:Nat),P5 (fun(_:Unit) i x=>if f x then some (.next ()) else some (.done (i:Int))) (λ_=>((i+r.length:Nat):Int)) r i ()=some ((i+(r.takeWhile f).length:Nat):Int)
 | [],i=>by simp[P5]
 | x::r,i=>by
  cases hf:f x with
  | true=>
   simp only[P5,hf,OF,nW,s5];have:=RD f r<|i+1;rw[show i+(r.length+1)=i+1+r.length by omega,show i+((r.takeWhile f).length+1)=i+1+(r.takeWhile f).length by omega];exact this
  | false=>simp[P5,hf]
theorem Mb{s:UV QB}{x:QB}(hn:Wv s)(hl:s.length<=1000)(hx:qC x):∃s',Y7 s x=some s'/\Wv s'/\s'.length<=s.length+1/\∀n,mem s' n↔mem s n∨P3 x n:=by
 unfold Y7;have hx' :=hx;simp only[qC] at hx'
 have k1:=DY (body:=VK s x) (fun(_:Unit) i=>(i:Int)) (λ_ i y=>if decide (y.Hi < x.Lo - 1) then some (.next ()) else some (.done (i:Int))) (λ_=>((0+s.length:Nat):Int)) s
  (λt i y hy=>by
   have hi:=Zr hy;unfold VK;simp only[KI,hy,DO,QT];rw[Qq (n:=(i:Int)+1) (by omega) (by omega),Qq (n:=x.Lo - 1) (by omega)<|by omega];simp only[show(decide<|(i:Int) < (s.length:Int))=true by simpa using hi,OF,DO];by_cases hc:y.Hi < x.Lo - 1<;>simp[hc,UI.cG])
  (λt=>by unfold VK;simp) ()
 simp only[pb] at k1
 rw[k1,RD];simp only[DO,rC];generalize hw:(λy:QB=>decide<|y.Hi < x.Lo - 1)=f;generalize hs1:s.takeWhile f=s1;generalize hs2:s.dropWhile f=s2;have hs:s=s1++s2:=by rw[<-hs1,<-hs2,List.takeWhile_append_dropWhile]
 have hsp:=hs▸hn;obtain⟨n1,n2,n12⟩:=hsp.split
 have h1:∀y∈s1,y.Hi < x.Lo - 1:=by
  intro y hy;rw[<-hs1] at hy
  have:=List.all_takeWhile (p:=f) (l:=s);rw[s8] at this
  have:=this y hy;rw[<-hw] at this
  simpa using this
 have h2:∀y∈s2,x.Lo<=y.Hi+1:=by
  intro y hy;cases h:s2 with
  | nil=>rw[h] at hy;cases hy
  | cons z r=>
   have hz:¬z.Hi < x.Lo - 1:=by
    have:=List.head?_dropWhile_not (p:=f) (l:=s);rw[hs2,h] at this
    simp at this
    rw[<-hw] at this
    simpa using this
   rw[h] at hy n2
   rcases y1.1 hy with rfl | hy
   ·omega
   ·have:=(aT.1 n2.apart).1 y hy;have oy:=n2.ok y (by simp[hy]);have oz:=n2.ok z (by simp);omega
 obtain⟨r1,r2,x',er,hg,hx1,hx2,hx3,hx4⟩:=R5 s2 s1.length x n2 hx h2
 have k2:=Sj (body:=VJ s) (fun(t:QB) i=>((i:Int),t)) LB (λt=>(((s1.length+s2.length:Nat):Int),t)) s (λ_ t=>qC t)
  (λt i y hy ot=>by
   have hi:=Zr hy;have oy:qC y:=hn.ok y<|s7 hy;simp only[qC] at ot oy
   unfold VJ LB;simp only[KI,hy,DO,QT];rw[Qq (n:=(i:Int)+1) (by omega) (by omega),Qq (n:=t.Hi+1) (by omega)<|by omega];simp only[show(decide<|(i:Int) < (s.length:Int))=true by simpa using hi,OF,DO];by_cases hc:y.Lo<=t.Hi+1<;>simp[hc,UI.cG])
  (λt i y t' hy ot h=>by
   have oy:qC y:=hn.ok y<|s7 hy;unfold LB at h
   split at h
   ·simp only[BY,UI.next.injEq] at h
    subst h;simp only[qC,Je,imax] at ot oy ⊢
    split<;>split<;>omega
   ·simp at h)
  (λt _=>by unfold VJ;rw[hs];simp) s2.length s1.length x (by rw[hs];simp) hx
 have hd:s.drop s1.length=s2:=by rw[hs];simp
 rw[k2,hd,hg];simp only[DO];have hlen:s.length=s1.length+r1.length+r2.length:=by rw[hs,er];simp;omega
 have e1:ZX s 0 (s1.length:Int)=some s1:=by
  unfold ZX;rw[T2<|by omega];rw[hs];simp
 have e2:ZX s ((s1.length+r1.length:Nat):Int) (s.length:Int)=some r2:=by
  unfold ZX;rw[T2<|by omega];simp only[rV];rw[hs,er];congr 1;rw[<-eW,nH<|by simp];rw[mS (by simp),rZ];apply s4;simp only[pV];omega
 rw[e1,e2];simp only[DO];rw[k9 _ (by simp;omega)<|by simp];refine⟨s1++x' ::r2,by simp,?_,by simp;omega,λn=> ?_⟩
 ·rw[er] at n2 n12
  obtain⟨m1,m2,m12⟩:=n2.split;refine n1.append (m2.cF hx1 hx2) λa ha b hb=> ?_;rcases y1.1 hb with rfl | hb
  ·have oa:=n1.ok a ha;apply hx4
   ·have:=h1 a ha;omega
   ·intro y hy;rw[er] at hy
    exact n12 a ha y hy
  ·exact n12 a ha b<|by simp[hb]
 ·rw[mem_append,mem_cons,hx3,hs,er,mem_append,mem_append];constructor
  ·rintro(h | (h | h) | h)
   ·exact .inl<|.inl h
   ·exact .inr h
   ·exact .inl<|.inr<|.inl h
   ·exact .inl<|.inr<|.inr h
  ·rintro((h | h | h) | h)
   ·exact .inl h
   ·exact .inr<|.inl<|.inr h
   ·exact .inr<|.inr h
   ·exact .inr<|.inl<|.inl h
end
section
open Go.Dec
theorem Dx{α:Type}{l k:UV α}(h:l.length+k.length<=4294967296):Vn l k=some (l++k):=by
 unfold Vn;rw[T2 h]
theorem y9{α:Type}(x:α):Vn [] [x]=some [x]:=by
 unfold Vn;rw[T2<|by simp];rfl
theorem yI{n:Int}(h0:0<=n)(h:n<=4294967296):wW 0 n=some 0:=by
 unfold wW;rw[T2<|by omega];simp only[mc]
theorem Lt{s:UV QB}{x:QB}(hn:Wv s)(hl:s.length<=1000)(hx:qC x)(hc:∀n,P3 x n->mem s n):∃s',Yq s x=some s'/\Wv s'/\s'.length<=s.length+1/\∀n,mem s' n↔mem s n/\¬P3 x n:=by
 unfold Yq;have hx' :=hx;simp only[qC] at hx'
 obtain⟨y0,hy0,hy1⟩:=(NW hn hx'.2.1).2 hc;generalize hf:(λy=>KH y x)=f;rw[show(λz=>some<|KH z x)=λz=>some (f z) by rw[<-hf]];rw[Bh s f<|by omega]
 have hex:∃i,s.findIdx? f=some i:=by
  cases h:s.findIdx? f with
  | some i=>exact⟨i,rfl⟩
  | none=>
   rw[lb] at h
   have:=h y0 hy0;rw[<-hf] at this
   simp[KH] at this
   omega
 obtain⟨i,hi⟩:=hex;rw[hi];rw[mv] at hi
 obtain⟨hlt,hfi,_⟩:=hi;generalize hy:s[i]=y at hfi
 have hcov:y.Lo<=x.Lo/\x.Hi<=y.Hi:=by
  rw[<-hf] at hfi;simpa[KH] using hfi
 have hs:s=s.take i++y::s.drop (i+1):=by
  rw[<-hy,<-pR hlt,r6]
 have hget:s[i]? =some y:=by rw[<-hy];exact Rw hlt
 have oy:=hn.ok y<|s7 hget;simp only[DO,KI,hget];rw[Qq (n:=x.Lo - 1) (by omega) (by omega),Qq (n:=x.Hi+1) (by omega) (by omega),Qq (n:=(s.length:Int)+1) (by omega) (by omega),Qq (n:=(i:Int)+1) (by omega)<|by omega];have hm:wW 0 ((s.length:Int)+1)=some 0:=yI (by omega) (by omega);have hs0:ZX s 0 (i:Int)=some (s.take i):=by unfold ZX;rw[T2<|by omega];simp
 have hs1:ZX s ((i:Int)+1) (s.length:Int)=some (s.drop<|i+1):=by
  unfold ZX;rw[T2<|by omega];rw[show((i:Int)+1).toNat=i+1 by omega,s4<|by simp]
 have ht:(s.take i).length=i:=by simp;omega
 have hdl:(s.drop<|i+1).length=s.length - (i+1):=by simp
 generalize hta:s.take i=a at*
 generalize htb:s.drop (i+1)=b at*
 obtain⟨na,nyb,nab⟩:=(hs▸hn:Wv (a++y::b)).split;have nb:=nyb.tail;have yb:=(aT.1 nyb.apart).1;generalize hl1:(if x.Hi < y.Hi then[QB.mk (x.Hi+1) y.Hi] else[])=pr;generalize hl2:(if y.Lo < x.Lo then[QB.mk y.Lo<|x.Lo - 1] else[])=pl
 have run:((if decide (y.Lo < x.Lo)=true then(some y).bind λx46=>(Vn [] [QB.mk x46.Lo<|x.Lo - 1]).bind λl_62=>some l_62 else some []):H1 (UV QB))=some pl:=by
  rw[<-hl2];by_cases h:y.Lo < x.Lo
  ·simp only[h,pv,OF,DO,y9]
  ·simp[h]
 have hpl:pl.length<=1:=by rw[<-hl2];split<;>simp
 have hpr:pr.length<=1:=by rw[<-hl1];split<;>simp
 have run2:((if decide (x.Hi < y.Hi)=true then(some y).bind λx140=>(Vn pl [QB.mk (x.Hi+1) x140.Hi]).bind λl_156=>some l_156 else some pl):H1 (UV QB))=some (pl++pr):=by
  rw[<-hl1];by_cases h:x.Hi < y.Hi
  ·simp only[h,pv,OF,DO];rw[Dx (by simp only[s5,pS];omega)];simp only[DO]
  ·simp[h]
 simp only[DO] at run run2
 suffices hrun:∀z,z=a++(pl++pr)++b->∃s',some z=some s'/\Wv s'/\s'.length<=s.length+1/\∀n,mem s' n↔mem s n/\¬P3 x n by
  refine Exists.imp (λs' h=>⟨Eq.trans ?_ h.1,h.2⟩)<|hrun _ rfl;refine ZM run<|ZM run2<|ZM hm<|ZM hs0<|ZM (a:=a) ?_<|ZM (a:=a++(pl++pr)) ?_<|ZM hs1<|ZM (a:=a++(pl++pr)++b) ?_ rfl
  ·rw[List.replicate_zero,Dx (by simp only[pS];omega)];rfl
  ·exact Dx (by simp only[pV];omega)
  ·exact Dx (by simp only[pV];omega)
 intro z hz;subst hz
 have mpl:∀n,mem pl n↔y.Lo<=n/\n < x.Lo:=by
  intro n;rw[<-hl2];split
  ·simp only[mem_cons,SA,eC,P3];omega
  ·simp only[SA,false_iff];omega
 have mpr:∀n,mem pr n↔x.Hi < n/\n<=y.Hi:=by
  intro n;rw[<-hl1];split
  ·simp only[mem_cons,SA,eC,P3];omega
  ·simp only[SA,false_iff];omega
 have npl:Wv pl:=by
  rw[<-hl2];split
  ·exact Wv.nil.cF (by simp only;omega)<|by simp
  ·exact Wv.nil
 have npr:Wv pr:=by
  rw[<-hl1];split
  ·exact Wv.nil.cF (by simp only;omega)<|by simp
  ·exact Wv.nil
 have bpl:∀z∈pl,z.Lo=y.Lo/\z.Hi=x.Lo - 1:=by
  intro z hz;rw[<-hl2] at hz;split at hz
  ·simp at hz;subst hz;simp
  ·simp at hz
 have bpr:∀z∈pr,z.Lo=x.Hi+1/\z.Hi=y.Hi:=by
  intro z hz;rw[<-hl1] at hz;split at hz
  ·simp at hz;subst hz;simp
  ·simp at hz
 refine⟨_,rfl,?_,?_,λn=> ?_⟩
 ·refine((na.append (npl.append npr ?_) ?_).append nb ?_)
  ·intro p hp q hq;have:=bpl p hp;have:=bpr q hq;omega
  ·intro p hp q hq;have h1:=nab p hp y (by simp);rcases ra.1 hq with hq | hq
   ·have:=bpl q hq;omega
   ·have:=bpr q hq;omega
  ·intro p hp q hq;have h1:=yb q hq;rcases ra.1 hp with hp | hp
   ·exact nab p hp q<|by simp[hq]
   ·rcases ra.1 hp with hp | hp
    ·have:=bpl p hp;omega
    ·have:=bpr p hp;omega
 ·simp only[pV];omega
 ·rw[mem_append,mem_append,mem_append,mpl,mpr,hs,mem_append,mem_cons];simp only[P3];constructor
  ·rintro((h | h | h) | h)
   ·refine⟨.inl h,?_⟩;obtain⟨z,hz,hm⟩:=h;have:=nab z hz y (by simp);simp only[P3] at hm;omega
   ·exact⟨.inr (.inl<|by omega),by omega⟩
   ·exact⟨.inr (.inl<|by omega),by omega⟩
   ·refine⟨.inr<|.inr h,?_⟩;obtain⟨z,hz,hm⟩:=h;have:=yb z hz;simp only[P3] at hm;omega
  ·rintro⟨h | h | h,hno⟩
   ·exact .inl<|.inl h
   ·by_cases hlt:n < x.Lo
    ·exact .inl<|.inr<|.inl ⟨h.1,hlt⟩
    ·exact .inl<|.inr<|.inr ⟨by omega,h.2⟩
   ·exact .inr h
def has(e:QJ)(n:Int):Prop:=e.First<=n/\n<=e.Last
instance(e:QJ) (n:Int):Decidable (has e n):=by unfold has;infer_instance
def cur:UV QJ->Int->H1 QJ:=λl n=>l.foldl (λo e=>if has e n then some e else o) none
def hand(l:UV QJ)(n:Int):Prop:=∃e,cur l n=some e/\e.Kind=0
theorem zd(n:Int):cur [] n=none:=rfl
theorem Dh(l:UV QJ)(e:QJ)(n:Int):cur (l++[e]) n=if has e n then some e else cur l n:=by simp[cur]
theorem LO(l:UV QJ)(e:QJ)(n:Int):hand (l++[e]) n↔if has e n then e.Kind=0 else hand l n:=by
 unfold hand;rw[Dh];split<;>simp
def v8(x:QJ):Bool:=UG x
theorem zF(x:QJ):v8 x=true↔(0<=x.Kind/\x.Kind<=3)/\(x.Kind=1->0<=x.Batch/\x.Batch<=1073741824)/\0<=x.First/\x.First<=x.Last/\x.Last<=1099511627776:=by
 simp only[v8,UG,QV,KV,TO,rD,x7,lX,ne_eq];constructor
 ·rintro⟨⟨h1,h2⟩,h3⟩;refine⟨by omega,λh=> ?_,by omega⟩;rcases h2 with h2 | h2
  ·exact absurd h h2
  ·omega
 ·rintro⟨h1,h2,h3⟩;refine⟨⟨by omega,?_⟩,by omega⟩;by_cases h:x.Kind=1
  ·right;have:=h2 h;omega
  ·left;exact h
open Classical in
def Vs(pre:UV QJ)(x:QJ):Int:=if v8 x=false then 1 else if x.Kind=0/\∃n,has x n/\cur pre n≠none then 5 else if x.Kind≠0/\∃n,has x n/\¬hand pre n then 4 else 0
structure Inv(pre:List QJ)(t:Q4×UW×Int):Prop where
 ni:Wv t.2.1.issued
 nh:Wv t.2.1.hand
 li:t.2.1.issued.length<=pre.length
 lh:t.2.1.hand.length<=pre.length
 mi:∀n,mem t.2.1.issued n↔cur pre n≠none
 mh:∀n,mem t.2.1.hand n↔hand pre n
def amount(x:QJ):Int:=ZC<|ZC (x.Last - x.First)+1
def jI(b:Q4)(x:QJ):Q4:=if x.Kind=1 then{b with Stuck:=ZC (b.Stuck+amount x)} else if x.Kind=2 then{b with Spoiled:=ZC (b.Spoiled+amount x)} else if x.Kind=3 then{b with Returned:=ZC (b.Returned+amount x)} else b
def Is:UV QJ->Q4:=λl=>l.foldl jI<|Q4.mk [] 0 0 0
theorem C5(l:UV QJ)(x:QJ):Is (l++[x])=jI (Is l) x:=by simp[Is]
theorem OH{l pre post:UV QJ}{x:QJ}{t:Q4×UW×Int}(hl:l=pre++x::post)(h256:l.length<=256)(hI:Inv pre t)(hB:t.1=Is pre):(Vs pre x≠0/\Y1 l ((pre.length:Int),t)=some (.done<|.inr (Q4.mk [] 0 0 0,(pre.length:Int),Vs pre x)))∨
  (Vs pre x=0/\∃t',Y1 l ((pre.length:Int),t)=some (.next (((pre.length+1:Nat):Int),t'))/\Inv (pre++[x]) t'/\t'.1=Is (pre++[x])):=by
 have hget:l[pre.length]? =some x:=by rw[hl];simp
 have hlen:pre.length < l.length:=by rw[hl];simp
 unfold Y1;simp only[KI,hget,DO,show(decide<|(pre.length:Int) < (l.length:Int))=true by simpa using hlen,OF];by_cases hok:v8 x=true
 ·have hok' :UG x=true:=hok;obtain⟨hk,_,hx0,hx1,hx2⟩:=(zF x).1 hok;have hxs:qC (QB.mk x.First x.Last):=⟨hx0,hx1,hx2⟩;have hin:∀n,P3 (QB.mk x.First x.Last) n↔has x n:=λn=>eX;have l1:=hI.li;have l2:=hI.lh;simp only[hok',wt,By,PP];rw[Qq (n:=(pre.length:Int)+1) (by omega)<|by omega];by_cases hk0:x.Kind=0
  ·
    obtain⟨bo,ho,hb⟩:=Oi (s:=t.2.1.issued) (x:=QB.mk x.First x.Last) (by omega) hI.ni hx1;simp only[hk0,rn,OF,ho,DO];cases hbo:bo with
    | true=>
     left
     have:Vs pre x=5:=by
      unfold Vs;rw[RW (by simp[hok]),T2];refine⟨hk0,?_⟩;obtain⟨n,h1,h2⟩:=hb.1 hbo;exact⟨n,h1,(hI.mi n).1 h2⟩
     rw[this];simp
    | false=>
     right;have hno:¬∃n,P3 (QB.mk x.First x.Last) n/\mem t.2.1.issued n:=λh=>by have:=hb.2 h;rw[hbo] at this;cases this
     have herr:Vs pre x=0:=by
      unfold Vs;rw[RW (by simp[hok]),RW,RW<|by simp[hk0]];rintro⟨_,n,h1,h2⟩;exact hno ⟨n,h1,(hI.mi n).2 h2⟩
     obtain⟨s1,e1,n1,qK,m1⟩:=Mb hI.ni (by omega) hxs;obtain⟨s2,e2,n2,qJ,m2⟩:=Mb hI.nh (by omega) hxs;simp only[By,PP,e1,e2,DO,QT];refine⟨herr,_,rfl,⟨n1,n2,by simp;omega,by simp;omega,λn=> ?_,λn=> ?_⟩,?_⟩
     ·rw[m1,Dh,hI.mi,hin];split<;>simp_all
     ·rw[m2,LO,hI.mh,hin];split<;>simp_all
     ·rw[C5];simp only[jI,hk0];simpa using hB
  ·
    have hkb:(x.Kind==0)=false:=by simpa using hk0
    simp only[hkb,By,PP,DO];obtain⟨bo,ho,hb⟩:=ku (s:=t.2.1.hand) (x:=QB.mk x.First x.Last) (by omega) hI.nh hx1;simp only[ho,DO];cases hbo:bo with
    | false=>
     left;have hno:¬∀n,P3 (QB.mk x.First x.Last) n->mem t.2.1.hand n:=λh=>by have:=hb.2 h;rw[hbo] at this;cases this
     have:Vs pre x=4:=by
      unfold Vs;rw[RW (by simp[hok]),RW (by simp[hk0]),T2];refine⟨hk0,?_⟩;obtain⟨n,hn⟩:=Classical.not_forall.1 hno;obtain⟨h1,h2⟩:=Classical.not_imp.1 hn;exact⟨n,h1,λh3=>h2<|(hI.mh n).2 h3⟩
     rw[this];simp
    | true=>
     right;have hall:=hb.1 hbo
     have herr:Vs pre x=0:=by
      unfold Vs;rw[RW (by simp[hok]),RW (by simp[hk0]),RW];rintro⟨_,n,h1,h2⟩;exact h2<|(hI.mh n).1<|hall n h1
     obtain⟨s2,e2,n2,qJ,m2⟩:=Lt hI.nh (by omega) hxs hall;simp only[wt,By,PP,e2,DO,QT]
     have hcur:∀n,has x n->cur pre n≠none:=λn h=>by
      have:=(hI.mh n).1<|hall n h;obtain⟨e,he,_⟩:=this;rw[he];simp
     have inv' :∀(b:Q4) (z:Int),Inv (pre++[x]) (b,{t.2.1 with hand:=s2},z):=λb z=>by
      refine⟨hI.ni,n2,by simp;omega,by simp;omega,λn=> ?_,λn=> ?_⟩
      ·show mem t.2.1.issued n↔_;rw[Dh,hI.mi];split
       ·rename_i h;simp[hcur n h]
       ·rfl
      ·show mem s2 n↔_;rw[m2,LO,hI.mh,hin];split
       ·rename_i h;simp[h,hk0]
       ·rename_i h;simp[h]
     have hcase:x.Kind=1∨x.Kind=2∨x.Kind=3:=by omega
     rcases hcase with hk1 | hk1 | hk1
     ·simp only[hk1,show Yj 4 1=some 1 from rfl,DO,show((1:Nat)==0)=false from rfl,By,PP,rn,OF];exact⟨herr,_,rfl,inv' _ _,by rw[C5,<-hB];simp[jI,hk1,amount]⟩
     ·simp only[hk1,show Yj 4 2=some 2 from rfl,DO,show((2:Nat)==0)=false from rfl,show((2:Nat)==1)=false from rfl,By,PP,rn,OF];exact⟨herr,_,rfl,inv' _ _,by rw[C5,<-hB];simp[jI,hk1,amount]⟩
     ·simp only[hk1,show Yj 4 3=some 3 from rfl,DO,show((3:Nat)==0)=false from rfl,show((3:Nat)==1)=false from rfl,show((3:Nat)==2)=false from rfl,By,PP];exact⟨herr,_,rfl,inv' _ _,by rw[C5,<-hB];simp[jI,hk1,amount]⟩
 ·left;have hok' :UG x=false:=by simpa[v8] using hok
  have:Vs pre x=1:=by unfold Vs;rw[T2<|by simpa using hok]
  rw[this];simp[hok']
end
section
open Go.Dec
variable{l:UV QJ}
def qF:Q4:=Q4.mk [] 0 0 0
theorem PL(l:UV QJ)(h:l.length<=256):(∃p x,C4 Vs l p x/\YG l=some (qF,(p.length:Int),Vs p x))∨
  (WQ Vs l/\∃hd,Wv hd/\(∀n,mem hd n↔hand l n)/\hd.length<=l.length/\YG l=some ({Is l with Hand:=hd},(l.length:Int),0)):=by
 unfold YG;simp only[show ¬((l.length:Int) > 256) by omega,pw,By,PP]
 have key:=Ge (body:=Y1 l) (λi (t:Q4×UW×Int)=>((i:Int),t)) Vs (λi e=>.inr (qF,(i:Int),e)) (λt=>.inl (t.1,t.2.1,t.2.2)) (λpre t=>Inv pre t/\t.1=Is pre) l
  (λpre x post t hl _ ht=>by
   rcases OH hl h ht.1 ht.2 with⟨h1,h2⟩ | ⟨h1,t',h2,h3,h4⟩
   ·exact .inl ⟨h1,h2⟩
   ·exact .inr ⟨h1,t',h2,h3,h4⟩)
  (λt _ _=>by unfold Y1;simp)
  l [] (qF,UW.mk [] [],0) rfl WQ.nil ⟨⟨Wv.nil,Wv.nil,by simp,by simp,λn=>by simp[SA,zd],λn=>by simp[SA,hand,zd]⟩,rfl⟩
 simp only[pS,pb] at key
 rcases key with⟨p,x,hb,hr⟩ | ⟨ho,t,⟨hI,hB⟩,hr⟩
 ·refine .inl ⟨p,x,hb,?_⟩;refine ZM hr ?_;rfl
 ·refine .inr ⟨ho,t.2.1.hand,hI.nh,hI.mh,hI.lh,?_⟩;refine ZM hr ?_
  have hc:V2 t.2.1.hand=some t.2.1.hand:=by
   unfold V2;have:=hI.lh;rw[Dx (by simp only[pS];omega)];simp
  simp only[hc,DO,QT,hB]
theorem ID{pre:UV QJ}{x:QJ}(h:Vs pre x=0):v8 x=true/\(x.Kind=0->∀n,has x n->cur pre n=none)/\(x.Kind≠0->∀n,has x n->hand pre n):=by
 unfold Vs at h
 split at h
 ·cases h
 ·rename_i h1;split at h
  ·cases h
  ·rename_i h2;split at h
   ·cases h
   ·rename_i h3;refine⟨by simpa using h1,λhk n hn=> ?_,λhk n hn=> ?_⟩
    ·apply r7;exact λhc=>h2 ⟨hk,n,hn,hc⟩
    ·apply r7;exact λhc=>h3 ⟨hk,n,hn,hc⟩
theorem v7{x:QJ}(h:WQ Vs (l++[x])):Vs l x=0:=h l x [] rfl
theorem E8(n:Int)(l:UV QJ):WQ Vs l->l.find? (λe=>decide<|e.Kind=1/\has e n)=(cur l n).filter (λe=>decide<|e.Kind=1):=by
 induction l using CB with
 | h0=>intro _;rfl
 | hs l x ih=>
  intro h;have ih:=ih h.init;obtain⟨_,h0,h1⟩:=ID<|v7 h;rw[List.find?_append,Dh,ih];by_cases hn:has x n
  ·by_cases hk:x.Kind=0
   ·simp[h0 hk n hn,hn,hk,Option.filter]
   ·obtain⟨e,he,hek⟩:=h1 hk n hn;rw[he];by_cases hk1:x.Kind=1
    ·simp[hek,hn,hk1,Option.filter]
    ·simp[hek,hn,hk1,Option.filter]
  ·simp[hn]
def Mc(l:UV QJ)(n:Int):Int×Int:=match(cur l n).filter (λe=>decide<|e.Kind=1) with | some e=>(e.Batch,0) | none=>(0,4)
theorem Ik(l:UV QJ)(n:Int)(h:l.length<=256):ZW (UH l n) 0=some (match l.find? (λe=>decide<|e.Kind=1/\has e n) with | some e=>.inr (e.Batch,0) | none=>.inl ()):=by
 have key:=DY (body:=UH l n) (fun(_:Unit) i=>(i:Int)) (λ_ _ x=>if decide (x.Kind=1/\has x n) then some (.done<|.inr (x.Batch,0)) else some (.next ())) (λ_=>.inl ()) l
  (λt i x hx=>by
   have hi:=Zr hx;unfold UH;simp only[KI,hx,DO];rw[Qq (by omega)<|by omega];simp only[show(decide<|(i:Int) < (l.length:Int))=true by simpa using hi,OF]
   have e:(x.Kind==1&&QV n x.First x.Last)=decide (x.Kind=1/\has x n):=by
    rw[ng,decide_eq_true_iff];simp only[TO,rh,QV,x7,mA];exact eX
   rw[e];by_cases hc:x.Kind=1/\has x n<;>simp[hc,UI.cG])
  (λt=>by unfold UH;simp) ()
 simp only[pb] at key
 rw[key]
 clear key h
 generalize 0=i
 induction l generalizing i with
 | nil=>rfl
 | cons x l ih=>
  simp only[P5,rk];by_cases hc:x.Kind=1/\has x n
  ·simp[hc]
  ·simp only[hc,pw,By,PP];exact ih<|i+1
theorem Ij(n:Int)(h:l.length<=256)(ho:WQ Vs l):Vi l n=some (Mc l n):=by
 unfold Vi;rcases PL l h with⟨p,x,hb,_⟩ | ⟨_,hd,_,_,_,hr⟩
 ·exact absurd ho hb.az
 ·refine ZM hr ?_;simp only[nR,By,PP];rw[Ik l n h,E8 n l ho];unfold Mc;cases(cur l n).filter (λe=>decide<|e.Kind=1)<;>simp
theorem zu(n:Int){b:Q4}{i e:Int}(h:YG l=some (b,i,e))(he:e≠0):Vi l n=some (0,e):=by
 unfold Vi;refine ZM h ?_;simp only[show(e != 0)=true by simpa using he,OF]
end
section
open Go.Dec
theorem P7(x:Int):ZG x=true↔0<=x/\x<=65536:=by
 simp only[ZG,QV,TO,x7,mA]
theorem Mh(p:Int)(hp:0<=p):∀l:UV Int,(∀x∈l,0<=x/\x<=p)->0<=l.sum/\l.sum<=p*l.length
 | [],_=>by simp
 | x::l,h=>by
  have h1:=h x (by simp);have h2:=Mh p hp l λy hy=>h y (by simp[hy]);rw[List.sum_cons,s5,nc,eG];simp only[mV,Int.mul_one];omega
theorem jq(l:UV Int)(hl:l.length<=1000):XS l=some (if l.all ZG then(l.sum,true) else(0,false)):=by
 unfold XS
 have key:=Ge (body:=XN l) (λi (t:Int)=>(t,(i:Int))) (λ_ x=>if ZG x then 0 else 1) (λ_ _=>.inr (0,false)) (λt=>.inl t) (λpre t=>t=pre.sum) l
  (λpre x post t hl' ho ht=>by
   have hg:=Ul hl';have hi:=HE hl';unfold XN;simp only[KI,hg,DO,QT];rw[Qq (n:=(pre.length:Int)+1) (by omega)<|by omega];simp only[show(decide<|(pre.length:Int) < (l.length:Int))=true by simpa using hi,OF];cases hx:ZG x with
   | false=>left;simp
   | true=>
    right;have hx' :=(P7 x).1 hx
    have hall:∀y∈pre,0<=y/\y<=65536:=by
     intro y hy;obtain⟨s,r,rfl⟩:=nJ hy;have:=ho s y r rfl;cases hd:ZG y with
     | true=>exact(P7 y).1 hd
     | false=>simp[hd] at this
    have hb:=Mh 65536 (by omega) pre hall;refine⟨by simp,t+x,?_,by rw[ht];simp⟩;simp only[wt,By,PP];rw[Qq (by omega)<|by omega];simp)
  (λt _ _=>by unfold XN;simp) l [] 0 rfl WQ.nil rfl
 simp only[pS,pb] at key
 rcases key with⟨p,x,⟨post,e,_,hx⟩,hr⟩ | ⟨ho,t,ht,hr⟩
 ·have:l.all ZG=false:=by
   rw[e,r8,rK];cases hd:ZG x with
   | true=>simp[hd] at hx
   | false=>simp
  rw[this];exact ZM hr rfl
 ·have:l.all ZG=true:=by
   rw[s8];intro y hy;obtain⟨s,r,rfl⟩:=nJ hy;have:=ho s y r rfl;cases hd:ZG y with
   | true=>rfl
   | false=>simp[hd] at this
  rw[this];exact ZM hr (by rw[ht];rfl)
def vR(d:Qn):Bool:=
 (FP 8 d.From.Woods).all ZG&&(FP 8 d.From.Places).all ZG&&ZG d.From.Age&&decide (d.From.Age≥imax (FP 8 d.From.Woods).sum (FP 8 d.From.Places).sum)&&
 QV d.From.Number 0 1073741824&&QV d.Amount 1 1073741824&&KV d.Strength 10000
structure xw(d:Qn):Prop where
 woods:∀i,i < 8->0<=d.From.Woods i/\d.From.Woods i<=65536
 places:∀i,i < 8->0<=d.From.Places i/\d.From.Places i<=65536
 age:0<=d.From.Age/\d.From.Age<=65536
 ageW:(FP 8 d.From.Woods).sum<=d.From.Age
 ageP:(FP 8 d.From.Places).sum<=d.From.Age
 num:0<=d.From.Number/\d.From.Number<=1073741824
 amt:1<=d.Amount/\d.Amount<=1073741824
 str:0<=d.Strength.Lo/\d.Strength.Lo<=d.Strength.Hi/\d.Strength.Hi<=10000
theorem jG{f:Nat->Int}{p:Int->Bool}{n:Nat}:(FP n f).all p=true↔∀i,i < n->p (f i)=true:=by
 simp[FP,s8]
theorem Ej(d:Qn):vR d=true↔xw d:=by
 simp only[vR,TO,jG,P7,x7,QV,KV,imax,mA];constructor
 ·rintro⟨⟨⟨⟨⟨⟨h1,h2⟩,h3⟩,h4⟩,h5⟩,h6⟩,h7⟩;refine⟨h1,h2,h3,?_,?_,by omega,by omega,by omega⟩
  ·split at h4<;>omega
  ·split at h4<;>omega
 ·rintro⟨h1,h2,h3,h4,h5,h6,h7,h8⟩;refine⟨⟨⟨⟨⟨⟨h1,h2⟩,h3⟩,?_⟩,by omega⟩,by omega⟩,by omega⟩;split<;>omega
theorem Ax(d:Qn):UO d=some (vR d):=by
 unfold UO;rw[jq _ (by simp[FP]),jq _<|by simp[FP]];simp only[DO,QT,vR];cases h1:(FP 8 d.From.Woods).all ZG<;>cases h2:(FP 8 d.From.Places).all ZG<;>simp
def VO(l:UV Qn):Int:=(l.map λd=>d.Amount).sum
def U8(l:UV Qn):Int:=(l.map λd=>d.Amount*d.Strength.Lo).sum
def UC(l:UV Qn):Int:=(l.map λd=>d.Amount*d.Strength.Hi).sum
theorem Mi(l:UV Qn)(d:Qn):VO (l++[d])=VO l+d.Amount:=by simp[VO]
theorem RN(l:UV Qn)(d:Qn):U8 (l++[d])=U8 l+d.Amount*d.Strength.Lo:=by simp[U8]
theorem RQ(l:UV Qn)(d:Qn):UC (l++[d])=UC l+d.Amount*d.Strength.Hi:=by simp[UC]
theorem Gj{d:Qn}(h:xw d){x:Int}(h0:0<=x)(h1:x<=10000):0<=d.Amount*x/\d.Amount*x<=10737418240000:=by
 have ha:=h.amt;constructor
 ·exact ri (by omega) h0
 ·have:=mD ha.2 h1 h0 (by omega);omega
theorem RJ(l:UV Qn):(∀d∈l,xw d)->((l.length:Int)<=VO l/\VO l<=1073741824*l.length)/\(0<=U8 l/\U8 l<=UC l)/\UC l<=10737418240000*l.length/\UC l<=10000*VO l:=by
 induction l using CB with
 | h0=>intro _;simp[VO,U8,UC]
 | hs l d ih=>
  intro h;have hd:=h d (by simp);obtain⟨h1,h2,h3,h4⟩:=ih λx hx=>h x (by simp[hx]);rw[Mi,RN,RQ,pV,nO,nc];have ha:=hd.amt;have hs:=hd.str;have b1:=Gj hd (x:=d.Strength.Lo) (by omega) (by omega);have b2:=Gj hd (x:=d.Strength.Hi) (by omega) (by omega);have b3:d.Amount*d.Strength.Lo<=d.Amount*d.Strength.Hi:=rM hs.2.1 (by omega);have b4:d.Amount*d.Strength.Hi<=d.Amount*10000:=rM hs.2.2 (by omega);simp only[mV];refine⟨by omega,by omega,by omega,by omega⟩
def X7(b:QU):Bool:=b.Draughts.all vR&&QV (b.Draughts.length:Int) 1 16&&QV b.Water 0 17179869184&&KV b.Shrink 1000
structure Valid(b:QU):Prop where
 ds:∀d∈b.Draughts,xw d
 len:1<=b.Draughts.length/\b.Draughts.length<=16
 water:0<=b.Water/\b.Water<=17179869184
 shrink:0<=b.Shrink.Lo/\b.Shrink.Lo<=b.Shrink.Hi/\b.Shrink.Hi<=1000
theorem Gv(b:QU):X7 b=true↔Valid b:=by
 simp only[X7,TO,s8,Ej,QV,KV,x7,mA];constructor
 ·rintro⟨⟨⟨h1,h2⟩,h3⟩,h4⟩;exact⟨h1,by omega,h3,by omega⟩
 ·rintro⟨h1,h2,h3,h4⟩;exact⟨⟨⟨h1,by omega⟩,h3⟩,by omega⟩
theorem EN(b:QU)(hlen:b.Draughts.length<=1000):∃x,U0 b=some (x,X7 b)/\(X7 b=true->x=Qf.mk b (VO b.Draughts) (U8 b.Draughts) (UC b.Draughts)):=by
 unfold U0
 have key:(∃x,ZW (JA b) (0,Qf.mk b 0 0 0)=some (.inr (x,false))/\b.Draughts.all vR=false)∨(ZW (JA b) (0,Qf.mk b 0 0 0)=some (.inl<|Qf.mk b (VO b.Draughts) (U8 b.Draughts)<|UC b.Draughts)/\b.Draughts.all vR=true):=by
  have go:∀(post pre:UV Qn),b.Draughts=pre++post->(∀d∈pre,xw d)->(∃x,ZW (JA b) ((pre.length:Int),Qf.mk b (VO pre) (U8 pre)<|UC pre)=some (.inr (x,false))/\b.Draughts.all vR=false)∨(ZW (JA b) ((pre.length:Int),Qf.mk b (VO pre) (U8 pre)<|UC pre)=some (.inl<|Qf.mk b (VO b.Draughts) (U8 b.Draughts)<|UC b.Draughts)/\b.Draughts.all vR=true):=by
   intro post
   induction post with
   | nil=>
    intro pre e h;rw[rb] at e
    right;rw[<-e] at h ⊢
    refine⟨?_,by rw[s8];exact λd hd=>(Ej d).2<|h d hd⟩;rw[ZQ];unfold JA;simp
   | cons d post ih=>
    intro pre e h;have hg:=Ul e;have hi:=HE e;cases hd:vR d with
    | false=>
     left
     have hb:JA b ((pre.length:Int),Qf.mk b (VO pre) (U8 pre)<|UC pre)=some (.done<|.inr (Qf.mk b (VO pre) (U8 pre)<|UC pre,false)):=by
      unfold JA;simp only[KI,hg,DO,QT,Ax,hd];simp only[show(decide<|(pre.length:Int) < (b.Draughts.length:Int))=true by simpa using hi,OF];simp
     refine⟨Qf.mk b (VO pre) (U8 pre)<|UC pre,?_,?_⟩
     ·rw[ZQ,hb]
     ·rw[e,r8,rK,hd];simp
    | true=>
     have hd' :=(Ej d).1 hd;have hs:=hd'.str;obtain⟨b1,b2,b3,_⟩:=RJ pre h;have b4:=Gj hd' (x:=d.Strength.Lo) (by omega) (by omega);have b5:=Gj hd' (x:=d.Strength.Hi) (by omega) (by omega);have ha:=hd'.amt
     have:=ih (pre++[d]) (by rw[e];simp) λx hx=>by
      rcases ra.1 hx with hx | hx
      ·exact h x hx
      ·simp only[rP] at hx;subst hx;exact hd'
     have hb:JA b ((pre.length:Int),Qf.mk b (VO pre) (U8 pre)<|UC pre)=some (.next (((pre++[d]).length:Int),Qf.mk b (VO<|pre++[d]) (U8<|pre++[d])<|UC<|pre++[d])):=by
      unfold JA;rw[Mi,RN,RQ,pV,nO,nc];simp only[KI,hg,DO,QT,Ax,hd];simp only[show(decide<|(pre.length:Int) < (b.Draughts.length:Int))=true by simpa using hi,OF];rw[Qq (n:=d.Amount*d.Strength.Lo) (by omega) (by omega),Qq (n:=d.Amount*d.Strength.Hi) (by omega) (by omega),Qq (n:=(pre.length:Int)+1) (by omega) (by omega),Qq (n:=VO pre+d.Amount) (by omega) (by omega),Qq (n:=U8 pre+d.Amount*d.Strength.Lo) (by omega) (by omega),Qq (n:=UC pre+d.Amount*d.Strength.Hi) (by omega)<|by omega];simp
     rw[ZQ,hb];exact this
  exact go b.Draughts [] rfl<|by simp
 rcases key with⟨x,hr,hall⟩ | ⟨hr,hall⟩
 ·refine⟨x,ZM hr ?_,λh=> ?_⟩
  ·simp only[X7,hall,nm]
  ·simp only[X7,hall,nm] at h;cases h
 ·refine⟨Qf.mk b (VO b.Draughts) (U8 b.Draughts)<|UC b.Draughts,ZM hr ?_,λ_=>rfl⟩;simp only[X7,hall,rL];cases QV (b.Draughts.length:Int) 1 16<;>cases QV b.Water 0 17179869184<;>simp
end
section
open Go.Dec
variable{b:QU}{w:Int}
def jl(b:QU)(w:Int):QB:=QB.mk ((VO b.Draughts+w)*(10000 - b.Shrink.Hi) / 10000) (((VO b.Draughts+w)*(10000 - b.Shrink.Lo)+10000 - 1) / 10000)
def ve(b:QU)(w:Int):QB:=
 QB.mk (Je 10000<|U8 b.Draughts*10000 / ((VO b.Draughts+w)*(10000 - b.Shrink.Lo)))
  (Je 10000<|(UC b.Draughts*10000+(VO b.Draughts+w)*(10000 - b.Shrink.Hi) - 1) / ((VO b.Draughts+w)*(10000 - b.Shrink.Hi)))
structure fI(b:QU)(w:Int):Prop where
 a:1<=VO b.Draughts/\VO b.Draughts<=17179869184
 l:0<=U8 b.Draughts/\U8 b.Draughts<=UC b.Draughts/\UC b.Draughts<=171798691840000
 lh:UC b.Draughts<=10000*VO b.Draughts
 small:9000<=(VO b.Draughts+w)*(10000 - b.Shrink.Hi)/\(VO b.Draughts+w)*(10000 - b.Shrink.Hi)<=343597383680000
 great:9000<=(VO b.Draughts+w)*(10000 - b.Shrink.Lo)/\(VO b.Draughts+w)*(10000 - b.Shrink.Lo)<=343597383680000
 le:(VO b.Draughts+w)*(10000 - b.Shrink.Hi)<=(VO b.Draughts+w)*(10000 - b.Shrink.Lo)
theorem gv(h:Valid b)(h0:0<=w)(h1:w<=17179869184):fI b w:=by
 obtain⟨b1,b2,b3,b4⟩:=RJ b.Draughts h.ds;have hl:=h.len;have hs:=h.shrink;have ha:1<=VO b.Draughts/\VO b.Draughts<=17179869184:=by omega
 have mb:∀x:Int,9000<=x->x<=10000->9000<=(VO b.Draughts+w)*x/\(VO b.Draughts+w)*x<=343597383680000:=by
  intro x hx1 hx2;have m1:1*9000<=(VO b.Draughts+w)*x:=mD (by omega) hx1 (by omega) (by omega);have m2:(VO b.Draughts+w)*x<=34359738368*10000:=mD (by omega) hx2 (by omega) (by omega);omega
 exact⟨ha,by omega,b4,mb _ (by omega) (by omega),mb _ (by omega) (by omega),rM (by omega)<|by omega⟩
theorem Md(h:Valid b)(h0:0<=w)(h1:w<=17179869184):J7 (Qf.mk b (VO b.Draughts) (U8 b.Draughts)<|UC b.Draughts) w=some (jl b w):=by
 have hb:=gv h h0 h1;have b1:=hb.a;have b2:=hb.small;have b3:=hb.great;have hs:=h.shrink;unfold J7 Xz;simp only[QT];rw[Qq (n:=VO b.Draughts+w) (by omega) (by omega),Qq (n:=10000 - b.Shrink.Lo) (by omega) (by omega),Qq (n:=10000 - b.Shrink.Hi) (by omega)<|by omega];rw[Qq (n:=(VO b.Draughts+w)*(10000 - b.Shrink.Lo)) (by omega) (by omega),Qq (n:=(VO b.Draughts+w)*(10000 - b.Shrink.Hi)) (by omega)<|by omega];rw[Qq (n:=(VO b.Draughts+w)*(10000 - b.Shrink.Lo)+10000) (by omega) (by omega),Qq (n:=(VO b.Draughts+w)*(10000 - b.Shrink.Lo)+10000 - 1) (by omega)<|by omega];rw[Ro (by omega) (by omega)<|by omega];simp only[DO];rw[rz (by omega),Qq (by omega)<|by omega];rfl
theorem OG(h:Valid b)(h0:0<=w)(h1:w<=17179869184):YY (Qf.mk b (VO b.Draughts) (U8 b.Draughts)<|UC b.Draughts) w=some (ve b w):=by
 have hb:=gv h h0 h1;have b1:=hb.a;have b2:=hb.small;have b3:=hb.great;have b4:=hb.l;have hs:=h.shrink;unfold YY Xz;simp only[QT];rw[Qq (n:=VO b.Draughts+w) (by omega) (by omega),Qq (n:=10000 - b.Shrink.Lo) (by omega) (by omega),Qq (n:=10000 - b.Shrink.Hi) (by omega)<|by omega];rw[Qq (n:=(VO b.Draughts+w)*(10000 - b.Shrink.Lo)) (by omega) (by omega),Qq (n:=(VO b.Draughts+w)*(10000 - b.Shrink.Hi)) (by omega)<|by omega];rw[Qq (n:=U8 b.Draughts*10000) (by omega) (by omega),Qq (n:=UC b.Draughts*10000) (by omega)<|by omega];rw[Qq (n:=UC b.Draughts*10000+(VO b.Draughts+w)*(10000 - b.Shrink.Hi)) (by omega) (by omega),Qq (n:=UC b.Draughts*10000+(VO b.Draughts+w)*(10000 - b.Shrink.Hi) - 1) (by omega)<|by omega];rw[Ro (by omega) (by omega) (by omega),Ro (by omega) (by omega)<|by omega];rfl
def Fw(l:UV Qn)(f:Qn->Int):Int:=match l with
 | []=>0
 | d::r=>r.foldl (λm x=>Je m<|f x)<|f d
theorem kV{l:UV Qn}{d:Qn}{f:Qn->Int}(hl:l≠[]):Fw (l++[d]) f=Je (Fw l f) (f d):=by
 cases l with
 | nil=>exact absurd rfl hl
 | cons x r=>simp[Fw]
theorem NF(l:UV Qn)(f:Qn->Int)(hl:l≠[])(h:l.length<=1000):Kh l (λd=>some<|f d)=some (Fw l f):=by
 cases l with
 | nil=>exact absurd rfl hl
 | cons d r=>
  simp only[s5] at h
  unfold Kh;have h0:Za (d::r) 0=some d:=rfl
  have h1:ZX (d::r) 1 ((d::r).length:Int)=some r:=by
   unfold ZX;rw[T2 (by simp only[s5];omega)];simp
  refine ZM h0<|ZM rfl<|ZM h1 ?_
  obtain⟨t',k1,k2⟩:=X0 (body:=Vl (λd=>some<|f d) r) (λi (t:Int)=>(t,(i:Int))) (λt=>t) (λpre t=>t=Fw (d::pre) f) r
   (λpre x post t hl ht=>by
    have hg:=Ul hl;have hi:=HE hl;unfold Vl;simp only[KI,hg,DO,QT];rw[Qq (by omega)<|by omega];simp only[show(decide<|(pre.length:Int) < (r.length:Int))=true by simpa using hi,OF];refine⟨_,rfl,?_⟩;rw[<-rS,kV (by simp),ht])
   (λt _=>by unfold Vl;simp) r [] (f d) rfl rfl
  simp only[pS,pb] at k2
  exact ZM k2<|by rw[k1]
def ME(l:UV Qn):UV Int:=l.foldl (λacc d=>if d.From.Number∈acc then acc else acc++[d.From.Number]) []
theorem kU(l:UV Qn)(d:Qn):ME (l++[d])=if d.From.Number∈ME l then ME l else ME l++[d.From.Number]:=by
 unfold ME;rw[List.foldl_append];rfl
theorem PY(k:Int):∀ks:UV Int,Qw (ks.map λx=>(x,true)) k true=(if k∈ks then ks else ks++[k]).map λx=>(x,true)
 | []=>by simp[Qw]
 | x::ks=>by
  simp only[s6,Qw];by_cases h:k=x
  ·subst h;simp
  ·have hb:(k==x)=false:=by simpa using h
   simp only[hb,By,PP];rw[PY k ks];by_cases hm:k∈ks<;>simp[hm,h]
theorem Di(b:QU)(A L M:Int)(h:b.Draughts.length<=1000):Vh (Qf.mk b A L M)=some ((ME b.Draughts).length:Int):=by
 unfold Vh
 obtain⟨t',k1,k2⟩:=X0 (body:=Y0<|Qf.mk b A L M) (λi (t:UV (Int×Bool))=>(t,(i:Int))) (λt=>t) (λpre t=>t=(ME pre).map λx=>(x,true)) b.Draughts
  (λpre x post t hl ht=>by
   have hg:=Ul hl;have hi:=HE hl;unfold Y0;simp only[KI,hg,DO,QT];rw[Qq (by omega)<|by omega];simp only[show(decide<|(pre.length:Int) < (b.Draughts.length:Int))=true by simpa using hi,OF];refine⟨_,rfl,?_⟩;rw[ht,PY,kU])
  (λt _=>by unfold Y0;simp) b.Draughts [] [] rfl rfl
 simp only[pS,pb] at k2
 exact ZM k2 (by rw[k1];simp)
structure zk(b:QU)(w:Int)(x:Qm):Prop where
 vol:x.Volume=jl b w
 str:x.Strength=ve b w
 age:x.Age=Fw b.Draughts λd=>d.From.Age
 woods:∀i,i < 8->x.Woods i=Fw b.Draughts λd=>d.From.Woods i
 places:∀i,i < 8->x.Places i=Fw b.Draughts λd=>d.From.Places i
 casks:x.Casks=((ME b.Draughts).length:Int)
theorem Mf{α:Type}(f:Nat->α)(i:Nat)(x:α):ZL f i x i=x:=by simp[ZL]
theorem RG{α:Type}{f:Nat->α}{i j:Nat}{x:α}(h:j≠i):ZL f i x j=f j:=by
 have:Nat.beq j i=false:=by
  cases hb:Nat.beq j i with
  | true=>exact absurd (pM hb) h
  | false=>rfl
 simp[ZL,this]
theorem O0(h:Valid b):∃x,YZ (Qf.mk b (VO b.Draughts) (U8 b.Draughts)<|UC b.Draughts)=some x/\zk b b.Water x:=by
 have hl:=h.len;have hne:b.Draughts≠[]:=by intro e;rw[e] at hl;simp at hl
 unfold YZ;have e1:=Md h h.water.1 h.water.2;have e2:=OG h h.water.1 h.water.2;have e3:=Di b (VO b.Draughts) (U8 b.Draughts) (UC b.Draughts) (by omega);have e4:Kh b.Draughts (λx=>some<|Ys x)=some (Fw b.Draughts λd=>d.From.Age):=NF b.Draughts (λd=>d.From.Age) hne (by omega);generalize hx0:({(Qm.mk (jl b b.Water) (ve b b.Water) 0 (λ_=>0) (λ_=>0) ((ME b.Draughts).length:Int)) with Age:=Fw b.Draughts λd=>d.From.Age}:Qm)=x0
 obtain⟨x1,⟨h1a,h1b⟩,k1⟩:=HZ (body:=Yz<|Qf.mk b (VO b.Draughts) (U8 b.Draughts)<|UC b.Draughts) (λi (t:Qm)=>((i:Int),t)) (λt=>t)
  (λn t=>(∀i,i < n->t.Woods i=Fw b.Draughts λd=>d.From.Woods i)/\∃f,t={x0 with Woods:=f}) 8
  (λi t hi ⟨ht,f,hf⟩=>by
   have e5:Kh b.Draughts (λx=>Ke x (i:Int))=some (Fw b.Draughts λd=>d.From.Woods i):=by
    rw[show(λx=>Ke x (i:Int))=λx=>some (x.From.Woods i) from by
     funext x;unfold Ke;rw[Hq hi];rfl]
    exact NF b.Draughts _ hne<|by omega
   refine⟨{t with Woods:=ZL t.Woods i (Fw b.Draughts λd=>d.From.Woods i)},?_,λj hj=> ?_,?_⟩
   ·unfold Yz;simp only[show(decide<|(i:Int) < 8)=true by simp;omega,OF];refine ZM e5<|ZM (Hq hi) ?_;simp only[QT];rw[Qq (by omega)<|by omega];simp
   ·show ZL t.Woods i _ j=_;by_cases hji:j=i
    ·subst hji;exact Mf _ _ _
    ·rw[RG hji];exact ht j<|by omega
   ·exact⟨ZL t.Woods i<|Fw b.Draughts λd=>d.From.Woods i,by rw[hf]⟩)
  (λt _=>by unfold Yz;simp) 8 0 x0 rfl ⟨λi hi=>by omega,x0.Woods,rfl⟩
 obtain⟨x2,⟨h2a,f2,h2b⟩,k2⟩:=HZ (body:=Yy<|Qf.mk b (VO b.Draughts) (U8 b.Draughts)<|UC b.Draughts) (λi (t:Qm)=>((i:Int),t)) (λt=>t)
  (λn t=>(∀i,i < n->t.Places i=Fw b.Draughts λd=>d.From.Places i)/\∃f,t={x1 with Places:=f}) 8
  (λi t hi ⟨ht,f,hf⟩=>by
   have e5:Kh b.Draughts (λx=>Kd x (i:Int))=some (Fw b.Draughts λd=>d.From.Places i):=by
    rw[show(λx=>Kd x (i:Int))=λx=>some (x.From.Places i) from by
     funext x;unfold Kd;rw[Hq hi];rfl]
    exact NF b.Draughts _ hne<|by omega
   refine⟨{t with Places:=ZL t.Places i (Fw b.Draughts λd=>d.From.Places i)},?_,λj hj=> ?_,?_⟩
   ·unfold Yy;simp only[show(decide<|(i:Int) < 8)=true by simp;omega,OF];refine ZM e5<|ZM (Hq hi) ?_;simp only[QT];rw[Qq (by omega)<|by omega];simp
   ·show ZL t.Places i _ j=_;by_cases hji:j=i
    ·subst hji;exact Mf _ _ _
    ·rw[RG hji];exact ht j<|by omega
   ·exact⟨ZL t.Places i<|Fw b.Draughts λd=>d.From.Places i,by rw[hf]⟩)
  (λt _=>by unfold Yy;simp) 8 0 x1 rfl ⟨λi hi=>by omega,x1.Places,rfl⟩
 simp only[pb] at k1 k2
 obtain⟨f1,h1c⟩:=h1b;refine⟨x2,?_,?_⟩
 ·refine ZM e1<|ZM e2<|ZM e3<|ZM e4 ?_;simp only[QT];rw[hx0];exact ZM k1<|ZM k2 rfl
 ·have hw:x2.Woods=x1.Woods:=by rw[h2b]
  refine⟨by rw[h2b,h1c,<-hx0],by rw[h2b,h1c,<-hx0],by rw[h2b,h1c,<-hx0],λi hi=>by rw[hw];exact h1a i hi,h2a,by rw[h2b,h1c,<-hx0]⟩
theorem qf(b:QU)(hlen:b.Draughts.length<=1000):(X7 b=false/\Vj b=some (Qm.mk (QB.mk 0 0) (QB.mk 0 0) 0 (λ_=>0) (λ_=>0) 0,1))∨(Valid b/\∃x,Vj b=some (x,0)/\zk b b.Water x):=by
 obtain⟨x,he,hx⟩:=EN b hlen;unfold Vj;cases hv:X7 b with
 | false=>
  refine .inl ⟨rfl,ZM he ?_⟩;rw[hv];rfl
 | true=>
  have h:=(Gv b).1 hv;obtain⟨y,k1,k2⟩:=O0 h;refine .inr ⟨h,y,ZM he ?_,k2⟩;rw[hv,hx hv];simp only[wt,By,PP];exact ZM k1 rfl
end
section
open Go.Dec
def Fs(c:Qr):Bool:=
 if c.Kind==0 then ZG c.Number else if c.Kind==1 then ZG c.Number&&QV c.What 0 7 else if c.Kind==2 then ZG c.Number&&QV c.What 0 7 else
 if c.Kind==7 then JI c.What&&JI c.Number else QV c.Kind 0 7
theorem qO(c:Qr):WM c=some (Fs c):=by
 unfold WM Fs
 repeat' split
 all_goals rfl
structure wI(c:Qr):Prop where
 kind:0<=c.Kind/\c.Kind<=7
 what:c.Kind=1∨c.Kind=2->0<=c.What/\c.What<=7
 str:c.Kind=7->(0<=c.What/\c.What<=10000)/\0<=c.Number/\c.Number<=10000
theorem wI.of{c:Qr}(h:Fs c=true):wI c:=by
 unfold Fs at h
 simp only[rh,QV,JI] at h
 repeat' split at h
 all_goals simp only[TO,x7,mA,P7] at h
 all_goals exact⟨by omega,λh=>by omega,λh=>by omega⟩
theorem MG(s:UV Qr)(f:Qr->Bool)(hl:s.length<=1000000):JN s (λx=>some<|f x)=some (s.any f):=by
 unfold JN Va
 have key:=Ge (body:=Jh s λx=>some<|f x) (λi (_:Unit)=>(i:Int)) (λ_ x=>if f x then 1 else 0) (λi _=>.inr (i:Int)) (λ_=>.inl ()) (λ_ _=>True) s
  (λpre x post t hl ho ht=>by
   have hg:=Ul hl;have hi:=HE hl;unfold Jh;simp only[KI,hg,DO];rw[Qq (by omega)<|by omega];simp only[show(decide<|(pre.length:Int) < (s.length:Int))=true by simpa using hi,OF];cases hx:f x with
   | true=>left;simp
   | false=>right;exact⟨by simp,(),by simp⟩)
  (λt _ _=>by unfold Jh;simp) s [] () rfl WQ.nil trivial
 simp only[pS,pb] at key
 rcases key with⟨p,x,⟨post,e,_,hx⟩,hr⟩ | ⟨ho,t,ht,hr⟩
 ·have hfx:f x=true:=by
   cases h:f x with
   | true=>rfl
   | false=>simp[h] at hx
  have:s.any f=true:=by rw[e,List.any_append,lg,hfx];simp
  rw[this];refine ZM (ZM hr rfl) ?_;simp
 ·have:s.any f=false:=by
   rw[List.any_eq_false];intro y hy;obtain⟨a,b,e⟩:=nJ hy;have:=ho a y b e;intro h;simp[h] at this
  rw[this];exact ZM (ZM hr rfl)<|by simp
def Hr(l:UV Qr):Bool:=decide ((l.length:Int)<=32)&&l.all Fs
theorem TL(l:UV Qr):UP l=some (Hr l):=by
 unfold UP Hr;by_cases h:(l.length:Int)<=32
 ·have e:(λx=>Jb x)=λx=>some (!Fs x):=by
   funext x;unfold Jb;rw[qO];rfl
  simp only[h,pv,OF,e];rw[MG l _<|by omega];simp only[DO,rL,BY];rw[ng];simp[s8]
 ·simp only[h,pw,By,PP,DO,nm]
def liesAt(p:Qr->Bool):Nat->UV Qr->UV Int
 | _,[]=>[]
 | i,c::l=>if p c then liesAt p (i+1) l else(i:Int)::liesAt p (i+1) l
theorem Sk(p:Qr->Bool):∀(l k:UV Qr) (i:Nat),liesAt p i (l++k)=liesAt p i l++liesAt p (i+l.length) k
 | [],k,i=>by simp[liesAt]
 | c::l,k,i=>by
  simp only[rS,liesAt,s5,Sk p l k<|i+1];rw[show i+1+l.length=i+(l.length+1) by omega];split<;>simp
theorem ND(p:Qr->Bool):∀(l:UV Qr) (i:Nat),(liesAt p i l).length<=l.length
 | [],i=>by simp[liesAt]
 | c::l,i=>by
  have:=ND p l<|i+1;simp only[liesAt];split<;>simp<;>omega
def Fi(b:QU)(x:Qm)(c:Qr):Bool:=
 if c.Kind=0 then decide (x.Age≥c.Number) else if c.Kind=1 then decide (x.Woods c.What.toNat≥c.Number) else if c.Kind=2 then decide (x.Places c.What.toNat≥c.Number) else if c.Kind=3 then x.Casks==1 else
 if c.Kind=4 then b.Water==0 else if c.Kind=5 then !b.Filtered else if c.Kind=6 then !b.Coloured else decide (x.Strength.Lo≥c.What - c.Number)&&decide (x.Strength.Hi<=c.What+c.Number)
theorem SC{i:Int}{n:Nat}(h0:0<=i)(h1:i < n):Yj n i=some i.toNat:=by
 unfold Yj;rw[T2 ⟨h0,h1⟩]
theorem vb(b:QU)(A L M:Int)(x:Qm)(c:Qr)(h:wI c):((YX<|ZD.mk (Qf.mk b A L M) x).bind λr=>(Yj 8 c.Kind).bind λj=>(r j) c)=some (Fi b x c):=by
 have hk:=h.kind;unfold YX;simp only[DO];rw[SC (by omega)<|by omega];simp only[DO];have hc:c.Kind=0∨c.Kind=1∨c.Kind=2∨c.Kind=3∨c.Kind=4∨c.Kind=5∨c.Kind=6∨c.Kind=7:=by omega
 unfold Fi;rcases hc with e | e | e | e | e | e | e | e
 ·rw[e];rfl
 ·have hw:=h.what<|.inl e;rw[e];show Jq c _=_;unfold Jq;rw[SC (by omega)<|by omega];rfl
 ·have hw:=h.what<|.inr e;rw[e];show Jo c _=_;unfold Jo;rw[SC (by omega)<|by omega];rfl
 ·rw[e];rfl
 ·rw[e];rfl
 ·rw[e];rfl
 ·rw[e];rfl
 ·have hs:=h.str e;rw[e];show some (Yr c _)=_;unfold Yr;rw[Qq (by omega) (by omega),Qq (by omega)<|by omega];rfl
theorem uD(b:QU)(A L M:Int)(x:Qm)(l:UV Qr)(hl:l.length<=1000)(h:∀c∈l,wI c):V6 (ZD.mk (Qf.mk b A L M) x) l=some (liesAt (Fi b x) 0 l):=by
 unfold V6;obtain⟨r,hr⟩:∃r,YX (ZD.mk (Qf.mk b A L M) x)=some r:=⟨_,rfl⟩;refine ZM hr ?_
 obtain⟨t',k1,k2⟩:=X0 (body:=VL l r) (λi (t:UV Int)=>(t,(i:Int))) (λt=>t) (λpre t=>t=liesAt (Fi b x) 0 pre) l
  (λpre c post t hl' ht=>by
   have hg:=Ul hl';have hi:=HE hl';have ht' :=vb b A L M x c<|h c<|s7 hg;rw[hr] at ht'
   simp only[DO] at ht'
   have hk:=(h c<|s7 hg).kind;rw[SC (by omega)<|by omega] at ht'
   simp only[DO] at ht'
   have hlen:=ND (Fi b x) pre 0;unfold VL;simp only[KI,hg,DO];rw[Qq (by omega) (by omega),SC (by omega)<|by omega];simp only[show(decide<|(pre.length:Int) < (l.length:Int))=true by simpa using hi,OF,DO,ht'];rw[Sk];simp only[liesAt,rC];cases hp:Fi b x c with
   | true=>exact⟨t,by simp,by simpa using ht⟩
   | false=>
    refine⟨t++[(pre.length:Int)],?_,by rw[ht];simp⟩;simp only[tO,OF];rw[AS (by rw[ht];simp only[s5,pS];omega)];simp)
  (λt _=>by unfold VL;simp) l [] [] rfl rfl
 simp only[pS,pb] at k2
 exact ZM k2<|by rw[k1]
theorem qR(b:QU)(l:UV Qr)(hb:b.Draughts.length<=1000)(hl:l.length<=1000):((X7 b&&Hr l)=false/\UQ b l=some ([],1))∨(Valid b/\Hr l=true/\(∀c∈l,wI c)/\∃x,zk b b.Water x/\Vj b=some (x,0)/\UQ b l=some (liesAt (Fi b x) 0 l,0)):=by
 obtain⟨x,he,hx⟩:=EN b hb;unfold UQ HD Vj;cases hv:X7 b with
 | false=>
  refine .inl ⟨rfl,?_⟩;rw[he,hv];rfl
 | true=>
  cases hc:Hr l with
  | false=>
   refine .inl ⟨rfl,?_⟩;rw[he,hv,TL,hc];rfl
  | true=>
   have h:=(Gv b).1 hv;obtain⟨y,k1,k2⟩:=O0 h
   have hall:∀c∈l,wI c:=by
    simp only[Hr,TO,s8] at hc
    exact λc hcl=>wI.of<|hc.2 c hcl
   refine .inr ⟨h,rfl,hall,y,k2,?_,?_⟩
   ·refine ZM he ?_;rw[hv,hx hv];simp only[wt,By,PP];exact ZM k1 rfl
   ·rw[he,hv,TL,hc,hx hv];simp only[DO,wt,By,PP,k1];exact ZM (uD b _ _ _ y l hl hall) rfl
end
end Go.Proofs.YtijhfeohbhedkaaGreatDoor.Bo
namespace Go.Proofs.YtijhfeohbhedkaaGreatDoor
section
open Go.Dec
def jb(c:AC):Bool:=decide (48<=c.toNat)&&decide (c.toNat<=57)
def DN(s:UV AC):Nat:=s.foldl (λn c=>10*n+(c.toNat - 48)) 0
def R4(s:UV AC):Bool:= !(s==[])&&decide (s.length<=13)&&(!(s.head? ==some 48)||s==[48])&&s.all jb
def uA(s:UV AC):Out Qk Int:=if R4 s then .ok (DN s:Int) else .pan ⟨8⟩
theorem Me(s:UV AC)(c:AC):DN (s++[c])=10*DN s+(c.toNat - 48):=by simp[DN]
theorem vY(s:UV AC)(h:s.all jb=true):DN s < 10^s.length:=by
 induction s using CB with
 | h0=>simp[DN]
 | hs l x ih=>
  rw[r8,TO] at h
  have h1:=ih h.1
  have h2:x.toNat<=57:=by
   have h2:=h.2;simp only[rK,mT,nN,jb,TO,x7] at h2
   exact h2.2
  rw[Me,pV,nO,Nat.pow_succ];omega
theorem vZ{s:UV AC}(h:s.all jb=true)(hl:s.length<=13):DN s < 10000000000000:=
 mq (vY s h) (by
  have:=Nat.pow_le_pow_right (show 0 < 10 by omega) hl;omega)
theorem fA(n:Int)(h0:0<=n)(h1:n<=255):IntKind.u8.wrap n=n:=by
 unfold IntKind.wrap;have:((2:Int)^IntKind.u8.bits)=256:=by decide
 simp[IntKind.bits,IntKind.signed] at*
 omega
theorem PX(s:UV AC)(hs:s.length<=13):∀(post pre:UV AC),s=pre++post->pre.all jb=true->
  ZW (Vt s) ((DN pre:Int),(pre.length:Int))=some (if post.all jb then .inl (DN s:Int) else .inr ⟨8⟩)
 | [],pre,e,hp=>by
  rw[rb] at e;subst e
  rw[ZQ];unfold Vt;simp[WZ]
 | c::post,pre,e,hp=>by
  have hi:pre.length < s.length:=by rw[e];simp
  have hget:(WZ s)[pre.length]? =some (c.toNat:Int):=by rw[e];simp[WZ]
  have hv:=vZ hp (by omega);have h3:c.toNat < 256:=c.toNat_lt
  have hbody:Vt s ((DN pre:Int),(pre.length:Int))=some (if jb c then .next ((DN (pre++[c]):Int),((pre++[c]).length:Int)) else .done (.inr ⟨8⟩)):=by
   unfold Vt;simp only[KI,hget,DO,QT,Zb,show(decide<|(pre.length:Int) < ((WZ s).length:Int))=true by simpa[WZ] using hi,OF];by_cases hd:jb c=true
   ·have hd' :=hd;simp only[jb,TO,x7] at hd'
    have ed:(!(decide ((48:Int)<=(c.toNat:Int))&&decide ((c.toNat:Int)<=57)))=false:=by simp;omega
    simp only[ed,By,PP,Qu];rw[fA _ (by omega) (by omega),Qq (n:=10*(DN pre:Int)) (by omega) (by omega),Qq (n:=(c.toNat:Int) - 48) (by omega) (by omega),Qq (by omega) (by omega),Qq (by omega)<|by omega];have e1:10*(DN pre:Int)+((c.toNat:Int) - 48)=(DN (pre++[c]):Int):=by rw[Me];omega
    have e2:(pre.length:Int)+1=((pre++[c]).length:Int):=by simp
    rw[e1,e2,hd];rfl
   ·have ed:(!(decide ((48:Int)<=(c.toNat:Int))&&decide ((c.toNat:Int)<=57)))=true:=by
     simp only[jb,TO,x7] at hd
     simp;omega
    simp only[ed,OF,Qu];simp[hd]
  rw[ZQ,hbody];cases hd:jb c with
  | false=>simp[hd]
  | true=>
   have ih:=PX s hs post (pre++[c]) (by rw[e];simp) (by rw[r8,hp];simp[hd]);simp only[OF,ih];simp[hd]
theorem PW(s:UV AC):Wc s=some (uA s):=by
 unfold Wc uA R4;cases s with
 | nil=>rfl
 | cons c l=>
  by_cases hl:(c::l).length<=13
  ·have e1:((!((c::l)==([]:UV AC)))&&(decide<|((c::l).length:Int)<=13))=true:=by simp at hl ⊢;omega
   simp only[e1,OF];have e2:Za (c::l) 0=some c:=rfl;simp only[e2,DO]
   have e3:(((c.toNat:Int) != 48)||((c::l)==([48]:UV AC)))=(!((c::l).head? ==some 48)||(c::l)==[48]):=by
    congr 1;rw[ng];simp only[List.head?_cons,lX,ne_eq,po,mj,BY];constructor
    ·intro h hc;subst hc;exact h rfl
    ·intro h hc;exact h<|UInt8.toNat_inj.1 (by rw[show(48:AC).toNat=48 from rfl];omega)
   rw[e3];have e4:(!((c::l)==([]:UV AC))&&decide ((c::l).length<=13))=true:=by simp at hl ⊢;omega
   simp only[e4,rL];have ea:Vn ([]:UV AC) (c::l)=some (c::l):=by unfold Vn;rw[T2 (by simp at hl ⊢;omega)];rfl
   cases hz:(!((c::l).head? ==some 48)||(c::l)==[48]) with
   | false=>simp[Zb,Qu]
   | true=>
    have hk:=PX (c::l) hl (c::l) [] rfl rfl;simp only[pS,pb,show(DN []:Int)=0 from rfl] at hk
    simp only[Zb,Qu,wt,By,PP,ea,DO,hk,rL];cases(c::l).all jb<;>rfl
  ·have e1:((!((c::l)==([]:UV AC)))&&(decide<|((c::l).length:Int)<=13))=false:=by simp at hl ⊢;omega
   have e4:(!((c::l)==([]:UV AC))&&decide ((c::l).length<=13))=false:=by simp at hl ⊢;omega
   simp only[e1,e4,By,PP,DO,Zb,tO,OF,Qu,nm]
def Wr:UV AC->UV (UV AC)
 | []=>[[]]
 | c::l=>if c==32 then[]::Wr l else match Wr l with
  | []=>[[c]]
  | p::ps=>(c::p)::ps
theorem La:∀(s:UV AC),(Go.Lib.index s [32]= -1/\Wr s=[s])∨(∃i:Nat,Go.Lib.index s [32]=i/\i < s.length/\Wr s=s.take i::Wr (s.drop<|i+1))
 | []=>.inl ⟨rfl,rfl⟩
 | c::l=>by
  by_cases hc:c=32
  ·subst hc;exact .inr ⟨0,rfl,by simp,by simp[Wr]⟩
  ·have h0:([32]:UV AC).isPrefixOf (c::l)=false:=by
    simp only[List.isPrefixOf,nN,mj,ne_eq];exact λh=>hc h.symm
   have hb:(c==32)=false:=by simpa using hc
   rcases La l with⟨h1,h2⟩ | ⟨i,h1,h2,h3⟩
   ·refine .inl ⟨?_,?_⟩
    ·unfold Go.Lib.index;rw[h0,h1];rfl
    ·simp[Wr,hb,h2]
   ·refine .inr ⟨i+1,?_,by simpa using h2,?_⟩
    ·unfold Go.Lib.index;rw[h0,h1];have:((i:Int)== -1)=false:=by rw[mj];omega
     simp[this]
    ·simp[Wr,hb,h3]
def Sc(s:UV AC):Out Qk (UV AC×UV Int):=match Wr s with
 | []=>.pan ⟨8⟩
 | w::ps=>if ps.all R4 then .ok (w,ps.map λp=>(DN p:Int)) else .pan ⟨8⟩
theorem M4(s:UV AC)(h:s.length<=1000000):(Wr s=[s]/\JZ ⟨s⟩ ()=some (s,false,⟨[]⟩))∨(∃p r,p.length+r.length < s.length/\Wr s=p::Wr r/\JZ ⟨s⟩ ()=some (p,true,⟨r⟩)):=by
 unfold JZ Hf;simp only[show s.length < 4294967281 by omega,OF,DO,Go.Lib.cut];rcases La s with⟨h1,h2⟩ | ⟨i,h1,h2,h3⟩
 ·exact .inl ⟨h2,by rw[h1];rfl⟩
 ·refine .inr ⟨s.take i,s.drop<|i+1,by simp;omega,h3,?_⟩;rw[h1];simp
theorem Mu:∀(k:Nat) (s:UV AC) (acc:UV Int),s.length<=k->s.length<=1000000->acc.length+s.length<=1000000->
  ZW (KC ()) (acc,true,⟨s⟩)=some (if(Wr s).all R4 then .inl (acc++(Wr s).map (λp=>(DN p:Int)),⟨[]⟩) else .inr ⟨8⟩)
 | k,s,acc,hk,hl,ha=>by
  have hap:∀x:Int,Vn acc [x]=some (acc++[x]):=λx=>by unfold Vn;rw[T2 (by simp;omega)]
  have hend:∀a:UV Int,ZW (KC ()) (a,false,⟨[]⟩)=some (.inl (a,⟨[]⟩)):=λa=>by rw[ZQ];rfl
  rcases M4 s hl with⟨h1,h2⟩ | ⟨p,r,h0,h1,h2⟩
  ·have hbody:KC () (acc,true,⟨s⟩)=some (if R4 s then .next (acc++[(DN s:Int)],false,⟨[]⟩) else .done (.inr ⟨8⟩)):=by
    unfold KC;simp only[OF,h2,DO,PW,uA];cases hn:R4 s<;>simp[Qu,hap]
   rw[ZQ,hbody,h1];cases hn:R4 s<;>simp[hn,hend]
  ·have hbody:KC () (acc,true,⟨s⟩)=some (if R4 p then .next (acc++[(DN p:Int)],true,⟨r⟩) else .done (.inr ⟨8⟩)):=by
    unfold KC;simp only[OF,h2,DO,PW,uA];cases hn:R4 p<;>simp[Qu,hap]
   rw[ZQ,hbody,h1];cases hn:R4 p with
   | false=>simp[hn]
   | true=>
    cases k with
    | zero=>omega
    | succ k=>
     simp only[OF,Mu k r (acc++[(DN p:Int)]) (by omega) (by omega) (by simp;omega)];simp[hn]
theorem kI(s:UV AC)(h:s.length<=100000):Vf ⟨s⟩ ()=some (match Sc s with | .ok r=>.ok (r.1,r.2,⟨[]⟩) | .pan e=>.pan e):=by
 unfold Vf Sc;rcases M4 s (by omega) with⟨h1,h2⟩ | ⟨p,r,h0,h1,h2⟩
 ·simp only[h2,DO,h1];rw[ZQ];unfold KC;simp
 ·simp only[h2,DO,h1];rw[Mu r.length r [] (If _) (by omega) (by simp;omega)];cases hn:(Wr r).all R4<;>simp
def qX:Nat->Nat->UV AC
 | 0,_=>[]
 | k+1,u=>if u < 10 then[UInt8.ofNat<|48+u] else qX k (u / 10)++[UInt8.ofNat<|48+u%10]
theorem Ei:∀(k u:Nat),u < 10^k->0 < k->qX k u=Go.Lib.decDigits u
 | 0,u,_,h=>absurd h (Nat.lt_irrefl 0)
 | k+1,u,h,_=>by
  rw[Go.Lib.decDigits];unfold qX;by_cases h1:u < 10
  ·rw[T2 h1,dif_pos h1]
  ·rw[RW h1,dif_neg h1];rw[Nat.pow_succ] at h
   cases k with
   | zero=>omega
   | succ k=>rw[Ei (k+1) (u / 10) (by omega)<|by omega]
def LN(n:Int):UV AC:=if n < 0 then 45::qX 20 n.natAbs else qX 20 n.toNat
def E6(n:Int):Bool:=decide (-9223372036854775808<=n)&&decide (n<=9223372036854775807)
theorem kb{n:Int}(h:E6 n=true):W8 n=some (LN n):=by
 simp only[E6,TO,x7] at h
 unfold W8 LN Go.Lib.itoa;rw[T2 h];congr 1;split
 ·rw[Ei _ _ (by omega)<|by omega]
 ·rw[Ei _ _ (by omega)<|by omega]
theorem Hb{s t:UV AC}(h:s.length+t.length<=4294967296):Cc s t=some (s++t):=by unfold Cc;rw[T2 h]
theorem NU:∀(k u:Nat),(qX k u).length<=k
 | 0,_=>If _
 | k+1,u=>by
  unfold qX;split
  ·simp
  ·have:=NU k<|u / 10;simp;omega
theorem LM(n:Int):(LN n).length<=21:=by
 unfold LN;split
 ·have:=NU 20 n.natAbs;simp;omega
 ·have:=NU 20 n.toNat;omega
def X6(word:UV AC)(l:UV Int):UV AC:=word++l.flatMap λn=>32::LN n
theorem PI(w:UV AC)(l:UV Int)(x:Int):X6 w (l++[x])=X6 w l++32::LN x:=by simp[X6]
theorem RB(w:UV AC)(l:UV Int):(X6 w l).length<=w.length+22*l.length:=by
 induction l using CB with
 | h0=>simp[X6]
 | hs l x ih=>have:=LM x;rw[PI];simp;omega
theorem Rj{w:UV AC}{l:UV Int}(hw:w.length<=1000)(hl:l.length<=100000)(h:l.all E6=true):JY w l=some (X6 w l):=by
 unfold JY;rw[Hb (by simp;omega)]
 obtain⟨t,ht,hr⟩:=X0 (body:=XM l) (λi (t:UV AC)=>((i:Int),t)) (λt=>t) (λpre t=>t=X6 w pre) l
  (λpre x post t e ht=>by
   have hg:=Ul e;have hi:=HE e;have hx:E6 x=true:=by rw[e,r8,rK] at h;simp only[TO] at h;exact h.2.1
   have h1:=RB w pre;have h2:=LM x;subst ht;refine⟨X6 w<|pre++[x],?_,rfl⟩;unfold XM;simp only[KI,hg,DO,show(decide<|(pre.length:Int) < (l.length:Int))=true by simpa using hi,OF];rw[Hb (by simp;omega),DO,kb hx,DO,Hb (by simp;omega),DO,Qq (by omega) (by omega),PI];simp)
  (λt _=>by unfold XM;simp) l [] (X6 w []) rfl rfl
 simp only[pS,pb] at hr
 have e0:X6 w []=w:=by simp[X6]
 rw[e0] at hr
 simp only[rZ,DO];exact ZM hr<|by rw[ht]
end
section
open Go.Dec
variable{α β:Type}{l:UV QJ}{m p:H1 α}
def Le(p m:H1 α):Prop:=∀x,p=some x->m=some x
theorem Le.rfl:Le p p:=λ_ h=>h
theorem Le.of(h:m=p):Le p m:=λ_ e=>h.trans e
theorem Le.none:Le .none m:=λ_ e=>by cases e
theorem Le.bind{α β:Type}{p m:H1 α}{f g:α->H1 β}(h:Le p m)(k:∀x,Le (f x)<|g x):Le (p.bind f) (m.bind g):=by
 intro y e;cases hp:p with
 | none=>rw[hp] at e;cases e
 | some x=>rw[hp] at e;rw[h x hp];exact k x y e
theorem Le.fV{p:H1 β}{g:α->H1 β}(x:α)(h:m=some x)(k:Le p (g x)):Le p (m.bind g):=by rw[h];exact k
theorem Le.ite{c:Bool}{a b a' b' :H1 α}(h:Le a a')(h' :Le b b'):Le (if c then a else b) (if c then a' else b'):=by cases c<;>assumption
theorem Le.guard{c:Prop}[Decidable c]{a b:H1 α}(h:c->Le a b):Le (if c then a else .none) b:=by
 by_cases hc:c
 ·rw[T2 hc];exact h hc
 ·rw[RW hc];exact Le.none
abbrev RO(α:Type):=H1<|Out Qk α
abbrev RL:=RO<|UV AC×QA
def WB(b:Bool)(e:Int)(k:RO β):RO β:=if b then k else some (.pan ⟨e⟩)
def HJ(x:RO α)(k:α->RO β):RO β:=Qu x (λq=>some<|.pan q) k
theorem C9(b:Bool)(e:Int):Zb b e=some (if b then .ok () else .pan ⟨e⟩):=by cases b<;>rfl
theorem TB(e:Int):KO e=some (if e==0 then .ok () else .pan ⟨e⟩):=by
 unfold KO;rw[C9];cases e==0<;>rfl
theorem Le.dh{b:Bool}{e:Int}{p:RO β}{g:Unit->RO β}(h:Le p (g ())):Le (WB b e p) (Qu (Zb b e) (λq=>some<|.pan q) g):=by
 rw[C9];cases b
 ·exact Le.rfl
 ·exact h
theorem Le.check{e:Int}{p:RO β}{g:Unit->RO β}(h:Le p (g ())):Le (WB (e==0) e p) (Qu (KO e) (λq=>some<|.pan q) g):=by
 rw[TB];unfold WB;cases e==0
 ·exact Le.rfl
 ·exact h
theorem Le.dm{p m:RO α}{f g:α->RO β}(h:Le p m)(k:∀x,Le (f x)<|g x):Le (HJ p f) (Qu m (λq=>some<|.pan q) g):=by
 intro y e;unfold HJ at e
 cases hp:p with
 | none=>rw[hp] at e;cases e
 | some x=>
  rw[hp] at e;rw[h x hp]
  cases x with
  | ok x=>exact k x y e
  | pan q=>exact e
theorem Hk{l k:UV α}(h:l.length+k.length<=4000000):Vn l k=some (l++k):=by unfold Vn;rw[T2<|by omega]
def Cd(L:QA)(x:QE):RO QA:=if L.casks.length<=1000000 then WB ((Ca.TM (L.casks++[{x with Day:=L.day}]) L.day).2.2==0) (Ca.TM (L.casks++[{x with Day:=L.day}]) L.day).2.2 (some<|.ok {L with casks:=L.casks++[{x with Day:=L.day}]}) else none
theorem Gh(L:QA)(x:QE):Le (Cd L x) (ZU L () x):=by
 refine Le.guard λh=> ?_;unfold ZU;simp only[QT];refine Le.fV _ (Hk (by simp;omega))<|Le.fV _ (Ca.SO _ _)<|Le.check Le.rfl
def atR(L:QA)(c:Int):ZP×Int:=Ca.B9 L.casks c L.day
theorem Lh(L:QA)(c:Int):KS L () c=some (atR L c):=by
 unfold KS;rw[Ca.uw];rfl
def Be(r:Qz)(l:UV QM)(day:Int):ZR×Int×Int:=Ex.wT<|Ex.Yi r l day
def CX(L:QA)(x:QM):RO QA:=match L.rules with
 | none=>none
 | some r=>if r.Rates.length<=1000000/\L.duties.length<=1000000 then WB ((Be r (L.duties++[{x with Day:=L.day}]) L.day).2.2==0) (Be r (L.duties++[{x with Day:=L.day}]) L.day).2.2 (some<|.ok {L with duties:=L.duties++[{x with Day:=L.day}]}) else none
theorem A7(L:QA)(x:QM):Le (CX L x) (KP L () x):=by
 unfold CX;cases hr:L.rules with
 | none=>exact Le.none
 | some r=>
  refine Le.guard λh=> ?_;unfold KP;simp only[QT];refine Le.fV _ (Hk (by simp;omega)) ?_;rw[hr];simp only[DO];rw[Ex.SO h.1<|by omega];exact Le.check Le.rfl
def vu(l:UV QJ):UV Int:=l.flatMap λe=>[e.First,e.Last+1]
open Bo in
def US(P:Int->Bool)(pre:UV QJ)(x:QJ):Bool:=(x.First::vu pre).all λn=> !decide (has x n)||P n
theorem yK(n:Int):∀(l:UV Int) (a:Int),a<=n->∃m,m<=n/\a<=m/\(m=a∨m∈l)/\∀p∈l,p<=n->p<=m
 | [],a,h=>⟨a,h,pn _,.inl rfl,by simp⟩
 | p::l,a,h=>by
  by_cases hp:p<=n/\a<=p
  ·obtain⟨m,h1,h2,h3,h4⟩:=yK n l p hp.1;refine⟨m,h1,by omega,?_,?_⟩
   ·rcases h3 with h3 | h3
    ·exact .inr<|by simp[h3]
    ·exact .inr<|by simp[h3]
   ·intro q hq hqn;rcases y1.1 hq with rfl | hq
    ·exact h2
    ·exact h4 q hq hqn
  ·obtain⟨m,h1,h2,h3,h4⟩:=yK n l a h;refine⟨m,h1,h2,?_,?_⟩
   ·rcases h3 with h3 | h3
    ·exact .inl h3
    ·exact .inr<|by simp[h3]
   ·intro q hq hqn;rcases y1.1 hq with rfl | hq
    ·omega
    ·exact h4 q hq hqn
open Bo in
theorem kr{n m:Int}:∀(l:UV QJ),(∀e∈l,has e n↔has e m)->cur l n=cur l m:=by
 intro l
 induction l using CB with
 | h0=>intro _;rfl
 | hs l x ih=>
  intro h;rw[Dh,Dh,ih λe he=>h e<|by simp[he]];have:=h x (by simp);by_cases hx:has x n
  ·rw[T2 hx,T2<|this.1 hx]
  ·rw[RW hx,RW λk=>hx<|this.2 k]
open Bo in
theorem zi{P:Int->Bool}{pre:UV QJ}{x:QJ}(hP:∀n m,cur pre n=cur pre m->P n=P m):US P pre x=true↔∀n,has x n->P n=true:=by
 unfold US;rw[s8];constructor
 ·intro h n hn;obtain⟨m,h1,h2,h3,h4⟩:=yK n (vu pre) x.First hn.1;have hm:=h m (by rcases h3 with h3 | h3<;>simp[h3]);have hxm:has x m:=⟨h2,Int.le_trans h1 hn.2⟩
  have e:cur pre n=cur pre m:=kr pre λe he=>by
   have p1:e.First<=n->e.First<=m:=h4 e.First (by unfold vu;simp only[List.mem_flatMap];exact⟨e,he,by simp⟩);have p2:e.Last+1<=n->e.Last+1<=m:=h4 (e.Last+1) (by unfold vu;simp only[List.mem_flatMap];exact⟨e,he,by simp⟩);unfold has;omega
  rw[hP n m e];simpa[hxm] using hm
 ·intro h n _;by_cases hn:has x n
  ·simp[hn,h n hn]
  ·simp[hn]
open Bo in
def O3(l:UV QJ)(n:Int):Bool:=match cur l n with | none=>false | some e=>e.Kind==0
open Bo in
theorem kf{n:Int}:O3 l n=true↔hand l n:=by
 unfold O3 hand;cases cur l n<;>simp
open Bo in
def qS(pre:UV QJ)(x:QJ):Int:=if !v8 x then 1 else if x.Kind==0 then(if US (λn=>(cur pre n).isNone) pre x then 0 else 5) else if US (O3 pre) pre x then 0 else 4
open Bo in
theorem Ef(pre:UV QJ)(x:QJ):Vs pre x=qS pre x:=by
 unfold Vs qS;by_cases h1:v8 x=false
 ·rw[T2 h1];simp[h1]
 rw[RW h1];have h1' :v8 x=true:=by simpa using h1
 simp only[h1',wt,By,PP];by_cases hk:x.Kind=0
 ·have a1:=zi (P:=λn=>(cur pre n).isNone) (pre:=pre) (x:=x) λn m e=>by rw[e]
  simp only[Option.isNone_iff_eq_none] at a1
  have hkb:(x.Kind==0)=true:=by simpa using hk
  rw[hkb,T2 rfl,RW (c:=x.Kind≠0/\_) λh=>h.1 hk];by_cases ha:x.Kind=0/\∃n,has x n/\cur pre n≠none
  ·rw[T2 ha,RW];intro h;obtain⟨_,n,h2,h3⟩:=ha;exact h3<|a1.1 h n h2
  ·rw[RW ha,T2];exact a1.2 λn hn=>r7 λh=>ha ⟨hk,n,hn,h⟩
 ·have a1:=zi (P:=O3 pre) (pre:=pre) (x:=x) λn m e=>by unfold O3;rw[e]
  simp only[kf] at a1
  have hkb:(x.Kind==0)=false:=by simpa using hk
  rw[hkb,RW (c:=x.Kind=0/\_) λh=>hk h.1];simp only[By,PP];by_cases ha:x.Kind≠0/\∃n,has x n/\¬hand pre n
  ·rw[T2 ha,RW];intro h;obtain⟨_,n,h2,h3⟩:=ha;exact h3<|a1.1 h n h2
  ·rw[RW ha,T2];exact a1.2 λn hn=>r7 λh=>ha ⟨hk,n,hn,h⟩
def MJ:UV QJ->UV QJ->Int
 | _,[]=>0
 | pre,x::l=>if qS pre x==0 then MJ (pre++[x]) l else qS pre x
open Bo in
theorem yl{p:UV QJ}{x:QJ}(h:C4 Vs l p x):∀(r q:UV QJ),p=q++r->WQ Vs p->MJ q (l.drop q.length)=Vs p x:=by
 obtain⟨post,rfl,_,hx⟩:=h;intro r
 induction r with
 | nil=>
  intro q e _;rw[rb] at e
  subst e;have e1:(p++x::post).drop p.length=x::post:=by simp
  rw[e1];unfold MJ;rw[<-Ef];have:(Vs p x==0)=false:=by simpa using hx
  rw[this];rfl
 | cons y r ih=>
  intro q e ho
  have e1:(p++x::post).drop q.length=y::(p++x::post).drop (q++[y]).length:=by
   rw[e];simp
  rw[e1];unfold MJ;rw[<-Ef,ho q y r e];exact ih (q++[y]) (by rw[e];simp) ho
open Bo in
theorem zX(h:WQ Vs l):∀(r q:UV QJ),l=q++r->MJ q r=0
 | [],q,_=>rfl
 | y::r,q,e=>by
  unfold MJ;rw[<-Ef,h q y r e];exact zX h r (q++[y]) (by rw[e];simp)
def HU(l:UV QJ):Int:=MJ [] l
open Bo in
theorem Sy(l:UV QJ)(h:l.length<=256):∃b i,YG l=some (b,i,HU l)/\(HU l=0->WQ Vs l):=by
 rcases PL l h with⟨p,x,hb,hr⟩ | ⟨ho,hd,_,_,_,hr⟩
 ·have ho:WQ Vs p:=by obtain⟨post,e,ho,_⟩:=hb;exact ho
  have e:HU l=Vs p x:=yl hb p [] rfl ho;rw[e];exact⟨_,_,hr,λh0=>by obtain⟨post,_,_,hx⟩:=hb;exact absurd h0 hx⟩
 ·have e:HU l=0:=zX ho l [] rfl;rw[e];exact⟨_,_,hr,λ_=>ho⟩
def RY(L:QA)(x:QJ):RO QA:=if L.stamps.length < 256 then WB (HU (L.stamps++[x])==0) (HU<|L.stamps++[x]) (some<|.ok {L with stamps:=L.stamps++[x]}) else none
theorem RX(L:QA)(x:QJ):Le (RY L x) (K4 L () x):=by
 refine Le.guard λh=> ?_;unfold K4;refine Le.fV _ (Hk (by simp;omega)) ?_;obtain⟨b,i,hr,_⟩:=Sy (L.stamps++[x]) (by simp;omega);refine Le.fV _ hr<|Le.check Le.rfl
end
section
open Go.Dec
abbrev xS:UV AC:=[111,107]
def kT(L:QA):RL:=some<|.ok (xS,L)
def wm(L:QA):UV Int->RL
 | [d]=>WB (decide<|d<=65536) 2 (WB (decide<|d≥L.day) 7<|kT {L with day:=d})
 | _=>none
theorem wk(L:QA)(n:UV Int):Le (wm L n) (KW L () n):=by
 rcases n with _ | ⟨d,_ | ⟨_,_⟩⟩
 ·exact Le.none
 ·unfold KW;exact Le.fV d rfl<|Le.dh<|Le.fV d rfl<|Le.dh<|Le.fV d rfl Le.rfl
 ·exact Le.none
def X9:UV Int->H1 (UV<|Int×Int)
 | []=>some []
 | [_]=>none
 | a::b::l=>(X9 l).map ((a,b):: ·)
def Iq:UV Int->UV (UV Int)
 | []=>[]
 | [a]=>[[a]]
 | a::b::l=>[a,b]::Iq l
theorem Na(l:UV Int):∀(d a:Nat),l.length<=a+2*d->Cb 2 l d a=Iq (l.drop a)
 | 0,a,h=>by
  have:l.drop a=[]:=pQ (by omega);rw[this];rfl
 | d+1,a,h=>by
  unfold Cb;have ih:=Na l d (a+2) (by omega);by_cases ha:a < l.length
  ·rw[T2 ha,ih];have e:l.drop (a+2)=(l.drop a).drop 2:=by rw[nl]
   rw[e];rcases hd:l.drop a with _ | ⟨x,_ | ⟨y,r⟩⟩
   ·have:(l.drop a).length=l.length - a:=rp;rw[hd] at this
    simp at this
    omega
   ·rfl
   ·rfl
  ·rw[RW ha];have:l.drop a=[]:=pQ (by omega);rw[this];rfl
theorem Nb(l:UV Int)(h:l.length<=1000000):VS l 2=some (Iq l):=by
 unfold VS Uw;simp only[show decide ((2:Int) < 1)=false by decide,By,PP,DO];rw[T2<|by omega];have:=Na l l.length 0 (by omega);rw[show((2:Int).toNat)=2 from rfl,this];rfl
theorem FA:∀{l:UV Int} {ps:UV (Int×Int)},X9 l=some ps->Iq l=ps.map (λp=>[p.1,p.2])/\2*ps.length=l.length
 | [],ps,h=>by simp only[X9,BY] at h;subst h;exact⟨rfl,rfl⟩
 | [_],ps,h=>by cases h
 | a::b::l,ps,h=>by
  simp only[X9,rl] at h
  obtain⟨qs,hq,rfl⟩:=h;obtain⟨h1,h2⟩:=FA hq;exact⟨by simp[Iq,h1],by simp;omega⟩
theorem Rm(r:Qz):∀(ps:UV (Int×Int)) (acc:UV Zy),acc.length+ps.length<=1000000->
  Yu JQ (ps.map λp=>[p.1,p.2]) {r with Rates:=acc}=some {r with Rates:=acc++ps.map λp=>⟨p.1,p.2⟩}
 | [],acc,_=>by simp[Yu]
 | p::ps,acc,h=>by
  simp only[s6,Yu]
  have hb:JQ [p.1,p.2] {r with Rates:=acc}=some {r with Rates:=acc++[⟨p.1,p.2⟩]}:=by
   unfold JQ;have e0:Za [p.1,p.2] 0=some p.1:=rfl;have e1:Za [p.1,p.2] 1=some p.2:=rfl;simp only[e0,e1,DO];rw[Hk (by simp at h ⊢;omega)];rfl
  rw[hb,DO,Rm r ps (acc++[(⟨p.1,p.2⟩:Zy)]) (by simp at h ⊢;omega)];simp
def D3(a b c:Int)(ps:UV (Int×Int)):Qz:=⟨ps.map λp=>⟨p.1,p.2⟩,a,b,c⟩
def Iy(L:QA):UV Int->RL
 | a::b::c::ns=>if ns.length<=1000000 then(X9 ns).bind λps=>WB L.rules.isNone 5 (WB (Ex.G6<|D3 a b c ps) 1<|kT {L with rules:=some (D3 a b c ps)}) else none
 | _=>none
theorem jy(L:QA)(n:UV Int):Le (Iy L n) (Z6 L () n):=by
 rcases n with _ | ⟨a,_ | ⟨b,_ | ⟨c,ns⟩⟩⟩
 ·exact Le.none
 ·exact Le.none
 ·exact Le.none
 refine Le.guard λh=> ?_;cases hp:X9 ns with
 | none=>exact Le.none
 | some ps=>
  obtain⟨h1,h2⟩:=FA hp;unfold Z6;simp only[DO];refine Le.dh<|Le.fV a rfl<|Le.fV b rfl<|Le.fV c rfl<|Le.fV ns ?_<|Le.fV (Iq ns) (Nb ns h) ?_
  ·unfold ZX;rw[T2 (by simp;omega)];simp only[rV,s5,BY];exact s4<|by simp
  rw[h1];refine Le.fV (D3 a b c ps) ?_ ?_
  ·have:=Rm ⟨[],a,b,c⟩ ps [] (by simp;omega);simpa[D3] using this
  refine Le.fV _ (Ex.jY (by simp[D3];omega)) ?_;cases hr:Ex.G6 (D3 a b c ps) with
  | false=>simp only[tO,OF];rw[TB];exact Le.rfl
  | true=>
   simp only[wt,By,PP];have e1:(!Ex.Wt 0 0 17179869184|| !Ex.Wt 0 0 65536)=false:=by decide
   rw[e1,TB];exact Le.rfl
def yM(L:QA):UV Int->RL
 | [c,w,p,m,o]=>WB (decide<|m<=1073741824) 2 (HJ (Cd L ⟨0,0,c,w,o,0,m,p⟩) kT)
 | _=>none
theorem uC(L:QA)(n:UV Int):Le (yM L n) (Ka L () n):=by
 rcases n with _ | ⟨c,_ | ⟨w,_ | ⟨p,_ | ⟨m,_ | ⟨o,_ | ⟨_,_⟩⟩⟩⟩⟩⟩
 iterate 5 exact Le.none
 ·unfold Ka;exact Le.fV m rfl<|Le.dh<|Le.fV c rfl<|Le.fV w rfl<|Le.fV p rfl<|Le.fV m rfl<|Le.fV o rfl<|Le.dm (Gh _ _) λ_=>Le.rfl
 ·exact Le.none
def Ws(L:QA)(c:Int):Int:=(Qa L.pure c).getD 0
def IA(n s:Int):Int:=ZC<|Int.tdiv (ZC<|n*s) 10000
def filled(L:QA)(c pure:Int):RO QA:=if pure > 0 then HJ (CX L ⟨0,0,(atR L c).1.Place,0,0,pure⟩) λL2=>some (.ok {L2 with pure:=Qw L2.pure c (ZC<|Ws L2 c+pure)}) else some<|.ok L
def yh(L:QA):UV Int->RL
 | [c,n,s]=>WB (decide (1<=s)&&decide (s<=10000)) 2 (HJ (Cd L ⟨1,0,c,0,0,0,n,0⟩) λL1=>HJ (filled L1 c<|IA n s) kT)
 | _=>none
theorem uP(L:QA)(n:UV Int):Le (yh L n) (Kn L () n):=by
 rcases n with _ | ⟨c,_ | ⟨n,_ | ⟨s,_ | ⟨_,_⟩⟩⟩⟩
 iterate 3 exact Le.none
 ·unfold Kn;refine Le.fV s rfl<|Le.fV (decide (1<=s)&&decide (s<=10000)) ?_<|Le.dh<|Le.fV c rfl<|Le.fV n rfl<|Le.dm (Gh _ _) λL1=>Le.fV n rfl<|Le.fV s rfl ?_
  ·cases h:decide (1<=s)<;>rfl
  simp only[QT];unfold filled HJ IA Ws;by_cases hp:ZC (Int.tdiv (ZC<|n*s) 10000) > 0
  ·simp only[hp,pv,OF];rw[show Za [c,n,s] 0=some c from rfl,DO,Lh,DO];intro y e;cases hd:CX L1 ⟨0,0,(atR L1 c).1.Place,0,0,ZC<|Int.tdiv (ZC<|n*s) 10000⟩ with
   | none=>rw[hd] at e;cases e
   | some r=>
    rw[hd] at e
    rw[A7 _ _ r hd];cases r<;>exact e
  ·simp only[hp,pw,By,PP];exact Le.rfl
 ·exact Le.none
def M5(L:QA)(c:ZP)(amount:Int):H1 Int:=if amount==c.Amount then some (Ws L c.Number) else G7 .i64 (ZC<|Ws L c.Number*amount) c.Amount
theorem qz(L:QA)(c:ZP)(amount:Int):Le (M5 L c amount) (J4 L () c amount):=by
 unfold M5 J4;refine Le.ite Le.rfl<|Le.of ?_;unfold Ws;cases G7 .i64 (ZC<|(Qa L.pure c.Number).getD 0*amount) c.Amount<;>rfl
def Ot(L:QA)(fro to n:Int):RO QA:=if n==0||fro==to then some (.ok L) else HJ (CX L ⟨1,0,fro,to,L.ids,n⟩) λL1=>HJ (CX L1 ⟨2,0,to,0,L1.ids,n⟩) λL2=>some<|.ok {L2 with ids:=ZC (L2.ids+1)}
theorem zG(L:QA)(fro to n:Int):Le (Ot L fro to n) (J5 L () fro to n):=by
 unfold J5;exact Le.ite Le.rfl<|Le.dm (A7 _ _) λ_=>Le.dm (A7 _ _) λ_=>Le.rfl
def D2(L:QA)(c v:Int):QA:={L with pure:=Qw L.pure c v}
def j5(L:QA):UV Int->RL
 | [a,b,n]=>HJ (Cd L ⟨2,0,a,b,0,0,n,0⟩) λL1=>(M5 L1 (atR L a).1 n).bind λp=>HJ (Ot L1 (atR L a).1.Place (atR L b).1.Place p) λL2=>
  kT (D2 (D2 L2 a<|ZC<|Ws L2 a - p) b<|ZC<|Ws (D2 L2 a<|ZC<|Ws L2 a - p) b+p)
 | _=>none
theorem vq(L:QA)(n:UV Int):Le (j5 L n) (Kl L () n):=by
 rcases n with _ | ⟨a,_ | ⟨b,_ | ⟨n,_ | ⟨_,_⟩⟩⟩⟩
 iterate 3 exact Le.none
 ·unfold Kl;refine Le.fV a rfl<|Le.fV _ (Lh _ _)<|Le.fV b rfl<|Le.fV _ (Lh _ _)<|Le.fV a rfl<|Le.fV b rfl<|Le.fV n rfl<|Le.dm (Gh _ _) λL1=>Le.fV n rfl ?_;refine Le.bind (qz _ _ _) λp=>Le.dm (zG _ _ _ _) λL2=>Le.fV a rfl ?_;simp only[QT];refine Le.fV b rfl Le.rfl
 ·exact Le.none
def qc(L:QA):UV Int->RL
 | [a,p]=>HJ (Cd L ⟨4,0,a,0,0,0,0,p⟩) λL1=>HJ (Ot L1 (atR L a).1.Place p<|Ws L1 a) kT
 | _=>none
theorem y4(L:QA)(n:UV Int):Le (qc L n) (KZ L () n):=by
 rcases n with _ | ⟨a,_ | ⟨p,_ | ⟨_,_⟩⟩⟩
 iterate 2 exact Le.none
 ·unfold KZ;exact Le.fV a rfl<|Le.fV _ (Lh _ _)<|Le.fV a rfl<|Le.fV p rfl<|Le.dm (Gh _ _) λL1=>Le.fV p rfl<|Le.fV a rfl<|Le.dm (zG _ _ _ _) λL2=>Le.rfl
 ·exact Le.none
def RH(k:Int)(L:QA):UV Int->RL
 | [c,p,t]=>HJ (Cd L ⟨k,0,c,0,p,t,0,0⟩) kT
 | _=>none
theorem vj(L:QA)(n:UV Int):Le (RH 5 L n) (Kk L () n):=by
 rcases n with _ | ⟨a,_ | ⟨b,_ | ⟨n,_ | ⟨_,_⟩⟩⟩⟩
 iterate 3 exact Le.none
 ·unfold Kk;exact Le.fV a rfl<|Le.fV b rfl<|Le.fV n rfl<|Le.dm (Gh _ _) λ_=>Le.rfl
 ·exact Le.none
theorem kK(L:QA)(n:UV Int):Le (RH 6 L n) (KQ L () n):=by
 rcases n with _ | ⟨a,_ | ⟨b,_ | ⟨n,_ | ⟨_,_⟩⟩⟩⟩
 iterate 3 exact Le.none
 ·unfold KQ;exact Le.fV a rfl<|Le.fV b rfl<|Le.fV n rfl<|Le.dm (Gh _ _) λ_=>Le.rfl
 ·exact Le.none
def yd(L:QA):UV Int->RL
 | [c,p]=>HJ (Cd L ⟨7,0,c,0,p,0,0,0⟩) kT
 | _=>none
theorem uM(L:QA)(n:UV Int):Le (yd L n) (Km L () n):=by
 rcases n with _ | ⟨a,_ | ⟨p,_ | ⟨_,_⟩⟩⟩
 iterate 2 exact Le.none
 ·unfold Km;exact Le.fV a rfl<|Le.fV p rfl<|Le.dm (Gh _ _) λ_=>Le.rfl
 ·exact Le.none
def y2(L:QA):UV Int->RL
 | [c,w]=>HJ (Cd L ⟨8,0,c,0,0,0,0,w⟩) kT
 | _=>none
theorem uY(L:QA)(n:UV Int):Le (y2 L n) (Ko L () n):=by
 rcases n with _ | ⟨a,_ | ⟨p,_ | ⟨_,_⟩⟩⟩
 iterate 2 exact Le.none
 ·unfold Ko;exact Le.fV a rfl<|Le.fV p rfl<|Le.dm (Gh _ _) λ_=>Le.rfl
 ·exact Le.none
def Ai(k:Int)(L:QA):UV Int->RL
 | [a,b]=>HJ (RY L ⟨k,a,b,0⟩) kT
 | _=>none
theorem yX(L:QA)(n:UV Int):Le (Ai 0 L n) (KY L () n):=by
 rcases n with _ | ⟨a,_ | ⟨p,_ | ⟨_,_⟩⟩⟩
 iterate 2 exact Le.none
 ·unfold KY;exact Le.fV a rfl<|Le.fV p rfl<|Le.dm (RX _ _) λ_=>Le.rfl
 ·exact Le.none
theorem jt(L:QA)(n:UV Int):Le (Ai 2 L n) (KX L () n):=by
 rcases n with _ | ⟨a,_ | ⟨p,_ | ⟨_,_⟩⟩⟩
 iterate 2 exact Le.none
 ·unfold KX;exact Le.fV a rfl<|Le.fV p rfl<|Le.dm (RX _ _) λ_=>Le.rfl
 ·exact Le.none
def Rl(L:QA)(place num part:Int):RO QA:=if part > 0 then HJ (CX L ⟨3,0,place,0,0,part⟩) λL2=>some (.ok<|D2 L2 num<|ZC<|Ws L2 num - part) else some<|.ok L
def A8(L:QA)(num amount:Int):RO (Qn×QA):=
 WB ((atR L num).2==0) (atR L num).2 (HJ (Cd L ⟨3,0,num,0,0,0,amount,0⟩) λL1=>(M5 L1 (atR L num).1 amount).bind λp=>HJ (Rl L1 (atR L num).1.Place num p) λL2=>
  (G7 .i64 (ZC<|p*10000) amount).bind λlo=>(G7 .i64 (ZC<|ZC (ZC (p*10000)+amount) - 1) amount).bind λhi=>some<|.ok (⟨(atR L num).1,amount,⟨lo,hi⟩⟩,L2))
theorem qV(L:QA)(num amount:Int):Le (A8 L num amount) (JD L () num amount):=by
 unfold JD;refine Le.fV _ (Lh _ _)<|Le.check<|Le.dm (Gh _ _) λL1=>Le.bind (qz _ _ _) λp=> ?_;unfold Rl HJ;by_cases hp:p > 0
 ·simp only[hp,pv,OF];intro y e;cases hd:CX L1 ⟨3,0,(atR L num).1.Place,0,0,p⟩ with
  | none=>rw[hd] at e;cases e
  | some r=>
   rw[hd] at e
   rw[A7 _ _ r hd];cases r<;>exact e
 ·simp only[hp,pw,By,PP];exact Le.rfl
def NQ:UV (Int×Int)->QU->QA->RO (QU×QA)
 | [],b,L=>some (.ok (b,L))
 | x::xs,b,L=>HJ (A8 L x.1 x.2) λr=>if b.Draughts.length<=1000000 then NQ xs {b with Draughts:=b.Draughts++[r.1]} r.2 else none
theorem IJ:∀(ps:UV (Int×Int)) (b:QU) (L:QA),Le (NQ ps b L) (MI (VF ()) (ps.map λp=>[p.1,p.2]) (b,L))
 | [],b,L=>Le.rfl
 | p::ps,b,L=>by
  simp only[s6,MI,NQ];have hb:VF () [p.1,p.2] (b,L)=Qu (JD L () p.1 p.2) (λq=>some<|.pan q) λr=>(Vn b.Draughts [r.1]).bind λl=>QT {b with Draughts:=l} λx=>some (.ok (x,r.2)):=rfl;rw[hb];intro y hy;cases hd:A8 L p.1 p.2 with
  | none=>rw[hd] at hy;cases hy
  | some r=>
   rw[hd] at hy
   rw[qV _ _ _ _ hd];cases r with
   | pan q=>exact hy
   | ok r=>
    by_cases h:b.Draughts.length<=1000000
    ·simp only[HJ,Qu,T2 h] at hy
     simp only[Qu,QT];rw[Hk (by simp;omega)];exact IJ ps _ _ y hy
    ·simp only[HJ,Qu,RW h] at hy;cases hy
def ux(b:QU):Int:=ZC<|Int.tdiv (Bo.jl b b.Water).Lo 700
open Bo in
theorem Tp{b:QU}(hl:b.Draughts.length<=1000)(hv:X7 b=true):∃k,Xi b 700=some (ux b,k,0):=by
 obtain⟨x,he,hx⟩:=EN b hl;have h:=(Gv b).1 hv;unfold Xi;rw[he,hv,hx hv];have e:QV 700 1 1048576=true:=by decide
 simp only[DO,wt,By,PP,e];rw[Md h h.water.1 h.water.2];exact⟨_,rfl⟩
def Ep(L:QA):UV Int->RL
 | num::w::a::z::ds=>if ds.length<=1000000 then(X9 ds).bind λps=>WB (Qa L.batches num).isNone 5 (HJ (NQ ps ⟨[],w,⟨0,0⟩,false,false⟩ L) λr=>
  if r.1.Draughts.length<=1000 then WB (Bo.X7 r.1) 1 (WB (decide<|ZC (ZC (z - a)+1)<=ux r.1) 12<|HJ (RY r.2 ⟨1,a,z,num⟩) λL2=>kT {L2 with batches:=Qw L2.batches num r.1}) else none) else none
 | _=>none
theorem jD(L:QA)(n:UV Int):Le (Ep L n) (KR L () n):=by
 rcases n with _ | ⟨num,_ | ⟨w,_ | ⟨a,_ | ⟨z,ds⟩⟩⟩⟩
 iterate 4 exact Le.none
 refine Le.guard λh=> ?_;cases hp:X9 ds with
 | none=>exact Le.none
 | some ps=>
  obtain⟨h1,h2⟩:=FA hp;unfold KR;simp only[DO,QT];refine Le.fV num rfl<|Le.fV a rfl<|Le.fV z rfl ?_;have e:(!(Qa L.batches num).isSome)=(Qa L.batches num).isNone:=by cases Qa L.batches num<;>rfl
  rw[e];refine Le.dh<|Le.fV w rfl<|Le.fV ds ?_<|Le.fV (Iq ds) (Nb ds h) ?_
  ·unfold ZX;rw[T2 (by simp;omega)];simp only[rV,s5,BY];exact s4<|by simp
  rw[h1];refine Le.dm (IJ _ _ _) λr=>Le.guard λhr=> ?_;rcases Bo.qf r.1 hr with⟨hv,he⟩ | ⟨hv,x,he,_⟩
  ·refine Le.fV _ he ?_;rw[hv,TB];exact Le.rfl
  ·have hvb:=(Bo.Gv r.1).2 hv;refine Le.fV _ he ?_;rw[hvb];obtain⟨k,hk⟩:=Tp hr hvb;refine Le.check (e:=0) ?_;refine Le.fV _ hk ?_;exact Le.dh<|Le.dm (RX _ _) λL2=>Le.rfl
def wS(L:QA):UV Int->RL
 | [a]=>HJ (CX L ⟨6,0,0,0,0,a⟩) kT
 | _=>none
theorem wR(L:QA)(n:UV Int):Le (wS L n) (Kw L () n):=by
 rcases n with _ | ⟨a,_ | ⟨_,_⟩⟩
 ·exact Le.none
 ·unfold Kw;exact Le.fV a rfl<|Le.dm (A7 _ _) λ_=>Le.rfl
 ·exact Le.none
end
section
open Go.Dec
def OQ(w:UV AC)(l:UV Int)(L:QA):RL:=if w.length<=1000/\l.length<=100000/\l.all E6=true then some (.ok (X6 w l,L)) else none
theorem Rc(w:UV AC)(l:UV Int)(L:QA):Le (OQ w l L) ((JY w l).bind λr=>some<|.ok (r,L)):=Le.guard λh=>Le.fV _ (Rj h.1 h.2.1 h.2.2) Le.rfl
def TU(L:QA):UV Int->RL
 | [c]=>WB ((atR L c).2==0) (atR L c).2 (OQ [99,97,115,107] [(atR L c).1.Amount,(atR L c).1.Age,(atR L c).1.Owner,(atR L c).1.Creditor,Ws L c] L)
 | _=>none
theorem OK(L:QA)(n:UV Int):Le (TU L n) (Z4 L () n):=by
 rcases n with _ | ⟨c,_ | ⟨_,_⟩⟩
 ·exact Le.none
 ·unfold Z4;exact Le.fV c rfl<|Le.fV _ (Lh _ _)<|Le.check<|Le.fV c rfl<|Rc _ _ _
 ·exact Le.none
def Lg(L:QA):H1 ZR:=match L.rules with
 | none=>none
 | some r=>if r.Rates.length<=1000000 then some (Be r L.duties L.day).1 else none
theorem zg(L:QA):Le (Lg L) (J6 L ()):=by
 unfold Lg J6;cases hr:L.rules with
 | none=>exact Le.none
 | some r=>
  refine Le.guard λh=> ?_;rw[DO];exact Le.fV _ (Ex.SO h<|by omega) Le.rfl
def TV(L:QA):UV Int->RL
 | [c]=>WB (decide<|c < 16) 2 ((Lg L).bind λb=>(Yj 16 c).bind λj=>OQ [98,111,110,100] [b.Bonds j] L)
 | _=>none
theorem OL(L:QA)(n:UV Int):Le (TV L n) (Z5 L () n):=by
 rcases n with _ | ⟨c,_ | ⟨_,_⟩⟩
 ·exact Le.none
 ·unfold Z5;exact Le.fV c rfl<|Le.dh<|Le.bind (zg _) λb=>Le.fV c rfl<|Le.bind Le.rfl λj=>Rc _ _ _
 ·exact Le.none
def Aj(L:QA)(_:UV Int):RL:=(Lg L).bind λb=>OQ [100,117,101] [b.Due,b.Paid] L
theorem Iv(L:QA)(n:UV Int):Le (Aj L n) (KG L () n):=by
 unfold KG;exact Le.bind (zg _) λb=>Rc _ _ _
def Lu(l:UV QJ)(n:Int):H1 (Int×Int):=if l.length<=256 then some (if HU l==0 then Bo.Mc l n else(0,HU l)) else none
theorem jj(l:UV QJ)(n:Int):Le (Lu l n) (Vi l n):=by
 refine Le.guard λh=> ?_;obtain⟨b,i,hr,ho⟩:=Sy l h;cases he:HU l==0 with
 | true=>exact Le.of (Bo.Ij n h<|ho<|by simpa using he)
 | false=>exact Le.of<|Bo.zu n hr<|by simpa using he
def S1(L:QA):UV Int->RL
 | [c]=>(Lu L.stamps c).bind λr=>WB (r.2==0) r.2 (OQ [98,97,116,99,104] [r.1] L)
 | _=>none
theorem Lz(L:QA)(n:UV Int):Le (S1 L n) (Zu L () n):=by
 rcases n with _ | ⟨c,_ | ⟨_,_⟩⟩
 ·exact Le.none
 ·unfold Zu;exact Le.fV c rfl<|Le.bind (jj _ _) λr=>Le.check<|Rc _ _ _
 ·exact Le.none
def yV(b:QU):Qm:=⟨Bo.jl b b.Water,Bo.ve b b.Water,Bo.Fw b.Draughts λd=>d.From.Age,λi=>Bo.Fw b.Draughts λd=>d.From.Woods i,λi=>Bo.Fw b.Draughts λd=>d.From.Places i,(Bo.ME b.Draughts).length⟩
open Bo in
theorem Ir{b:QU}{x:Qm}{c:Qr}(h:zk b b.Water x)(hc:wI c):Fi b x c=Fi b (yV b) c:=by
 unfold Fi;rw[h.age,h.casks,h.str];by_cases h0:c.Kind=0
 ·rw[T2 h0,T2 h0];rfl
 rw[RW h0,RW h0];by_cases h1:c.Kind=1
 ·rw[T2 h1,T2 h1,h.woods _ (by have:=hc.what<|.inl h1;omega)];rfl
 rw[RW h1,RW h1];by_cases h2:c.Kind=2
 ·rw[T2 h2,T2 h2,h.places _ (by have:=hc.what<|.inr h2;omega)];rfl
 rw[RW h2,RW h2];rfl
def Ek(b:QU)(c:Qr):H1 (Bool×Int):=if b.Draughts.length<=1000 then some (if Bo.X7 b&&Bo.Fs c then(Bo.Fi b (yV b) c,0) else(true,1)) else none
open Bo in
theorem yy{β:Type}(b:QU)(c:Qr)(k:Bool×Int->H1 β)(g:UV Int×Int->H1 β)(h:∀l e,Le (k (decide<|l.length=0,e))<|g (l,e)):Le ((Ek b c).bind k) ((UQ b [c]).bind g):=by
 unfold Ek;by_cases hb:b.Draughts.length<=1000
 ·rw[T2 hb,DO];have ec:Hr [c]=Fs c:=by simp[Hr]
  rcases qR b [c] hb (by simp) with⟨hv,hr⟩ | ⟨hv,hc,hall,x,hx,_,hr⟩
  ·rw[ec] at hv
   rw[hr,hv];exact h [] 1
  ·rw[ec] at hc
   rw[hr,(Gv b).2 hv,hc];simp only[Bool.and_self,OF,DO];rw[<-Ir hx (hall c<|by simp)];cases ht:Fi b x c with
   | true=>
    have e:Bo.liesAt (Fi b x) 0 [c]=[]:=by simp[Bo.liesAt,ht]
    rw[e];exact h [] 0
   | false=>
    have e:Bo.liesAt (Fi b x) 0 [c]=[0]:=by simp[Bo.liesAt,ht]
    rw[e];exact h [0] 0
 ·rw[RW hb];exact Le.none
abbrev jk:UV AC:=[116,114,117,101]
abbrev Il:UV AC:=[102,97,108,115,101]
theorem ua(b:Bool):Ur b=some (if b then jk else Il):=by cases b<;>rfl
def G4(L:QA):UV Int->RL
 | [n,k,w,v]=>match Qa L.batches n with
  | none=>some (.pan ⟨4⟩)
  | some b=>(Ek b ⟨k,w,v⟩).bind λr=>WB (r.2==0) r.2 (some<|.ok (if r.1 then jk else Il,L))
 | _=>none
theorem L4(L:QA)(n:UV Int):Le (G4 L n) (Zw L () n):=by
 rcases n with _ | ⟨n,_ | ⟨k,_ | ⟨w,_ | ⟨v,_ | ⟨_,_⟩⟩⟩⟩⟩
 iterate 4 exact Le.none
 ·unfold Zw G4;refine Le.fV n rfl ?_;simp only[QT];cases hb:Qa L.batches n with
  | none=>
   simp only[nI];rw[C9];exact Le.rfl
  | some b=>
   simp only[nj];rw[C9];simp only[OF,Qu];refine Le.fV k rfl<|Le.fV w rfl<|Le.fV v rfl ?_;rw[nU];refine yy b ⟨k,w,v⟩ _ _ λl e=> ?_;refine Le.check ?_;rw[ua];refine Le.of ?_;have:((l.length:Int)==0)=decide (l.length=0):=by rw[ng];simp
   rw[this];rfl
 ·exact Le.none
def S2(L:QA):UV Int->RL
 | [c]=>WB ((Ca.RZ L.casks c L.day).2==0) (Ca.RZ L.casks c L.day).2 (OQ [102,105,108,108,115] (Ca.RZ L.casks c L.day).1 L)
 | _=>none
theorem L3(L:QA)(n:UV Int):Le (S2 L n) (Zv L () n):=by
 rcases n with _ | ⟨c,_ | ⟨_,_⟩⟩
 ·exact Le.none
 ·unfold Zv;exact Le.fV c rfl<|Le.fV _ (Ca.E3 _ _ _)<|Le.check<|Rc _ _ _
 ·exact Le.none
structure Wd where
 word:List UInt8
 least:Int
 each:Int
 does:QA->List Int->RL
def Sx:UV Wd:=[
 ⟨[100,97,121],1,0,wm⟩,⟨[114,117,108,101,115],3,2,Iy⟩,⟨[109,97,107,101],5,0,yM⟩,⟨[102,105,108,108],3,0,yh⟩,⟨[114,97,99,107],3,0,j5⟩,
 ⟨[99,97,114,114,121],2,0,qc⟩,⟨[115,101,108,108],3,0,RH 5⟩,⟨[112,108,101,100,103,101],3,0,RH 6⟩,⟨[102,114,101,101],2,0,yd⟩,⟨[99,104,97,114],2,0,y2⟩,
 ⟨[115,116,97,109,112,115],2,0,Ai 0⟩,⟨[115,112,111,105,108],2,0,Ai 2⟩,⟨[98,111,116,116,108,101],4,2,Ep⟩,⟨[112,97,121],1,0,wS⟩,⟨[99,97,115,107],1,0,TU⟩,
 ⟨[98,111,110,100],1,0,TV⟩,⟨[100,117,101],0,0,Aj⟩,⟨[119,104,111,115,101],1,0,S1⟩,⟨[99,108,97,105,109],4,0,G4⟩,⟨[102,105,108,108,115],1,0,S2⟩]
def RC(w:UV AC):H1 Wd:=Sx.find? λd=>d.word==w
inductive Ln:List Wd->List (List UInt8×QX)->Prop where
 | nil:Ln [] []
 | cons {w:List UInt8} {a b:Int} {f:QA->List Int->RL} {g:QA×Unit×List Int->RL} {l:List Wd} {k:List (List UInt8×QX)} (h:∀L n,Le (f L n)<|g (L,(),n)) (r:Ln l k):Ln (⟨w,a,b,f⟩::l) ((w,⟨⟨a,b⟩,g⟩)::k)
theorem Ln.get{l:UV Wd}{k:UV (UV AC×QX)}(h:Ln l k)(w:UV AC):match l.find? (λd=>d.word==w) with
  | none=>Qa k w=none
  | some d=>∃g,Qa k w=some ⟨⟨d.least,d.each⟩,g⟩/\∀L n,Le (d.does L n) (g (L,(),n)):=by
 induction h with
 | nil=>rfl
 | @cons w' a b f g l k h r ih=>
  by_cases hw:w' =w
  ·subst hw;simp only[rk,rn];exact⟨g,by simp[Qa],h⟩
  ·have e:(w' ==w)=false:=by simpa using hw
   have e' :(w==w')=false:=by simpa using λh=>hw h.symm
   simp only[rk,e];have em:Qa ((w',(⟨⟨a,b⟩,g⟩:QX))::k) w=Qa k w:=by simp[Qa,e']
   rw[em];exact ih
theorem yu:∃k,XA=some k/\Ln Sx k:=by
 refine⟨_,by unfold XA;simp only[QT];rfl,?_⟩;exact .cons wk<|.cons jy<|.cons uC<|.cons uP<|.cons vq<|.cons y4<|.cons vj<|.cons kK<|.cons uM<|.cons uY<|.cons yX<|.cons jt<|.cons jD<|.cons wR<|.cons OK<|.cons OL<|.cons Iv<|.cons Lz<|.cons L4<|.cons L3 .nil
end
section
open Go.Dec
def FG(least each:Int)(n:Int):Bool:=if each==0 then n==least else decide (n > least)&&(n - least)%each==0
theorem uN(a b:Int)(n:Nat)(ha:0<=a/\a<=100)(hn:n<=1000000):UL ⟨a,b⟩ (n:Int)=some (FG a b n):=by
 unfold UL FG;simp only;cases h:b==0 with
 | true=>rfl
 | false=>
  have hb0:b≠0:=by simpa using h
  by_cases hg:(n:Int) > a
  ·simp only[hg,pv,OF,rL,By,PP];unfold kH;rw[RW hb0,Qq (by omega) (by omega),Int.tmod_eq_emod_of_nonneg<|by omega];rfl
  ·simp only[hg,pw,By,PP,nm];rfl
def LJ(L:QA)(line:UV AC):RL:=
 if line.length > 1000 then some (.pan ⟨3⟩) else match Sc line with
  | .pan q=>some (.pan q)
  | .ok w=>match RC w.1 with
   | none=>some (.pan ⟨8⟩)
   | some d=>WB (FG d.least d.each w.2.length) 8 (WB (!L.rules.isNone||w.1==[100,97,121]||w.1==[114,117,108,101,115]) 6
    (if L.casks.length<=1000000/\L.duties.length<=1000000/\L.stamps.length<=1000000 then d.does L w.2 else none))
def wj(L:QA)(line:UV AC):H1 (UV AC×Int×QA):=match LJ L line with
 | none=>none
 | some (.pan q)=>some ([],q.e,L)
 | some (.ok r)=>some (r.1,0,r.2)
theorem vX:∀d∈Sx,(0<=d.least/\d.least<=100)/\(0<=d.each/\d.each<=100):=by
 unfold Sx;simp only[y1,lP,eC];rintro d (rfl | rfl | rfl | rfl | rfl | rfl | rfl | rfl | rfl | rfl | rfl | rfl | rfl | rfl | rfl | rfl | rfl | rfl | rfl | rfl)<;>exact⟨⟨by decide,by decide⟩,by decide,by decide⟩
theorem OX{line:UV AC}{w:UV AC×UV Int}(h:Sc line= .ok w):w.2.length<=line.length:=by
 have hl:∀s:UV AC,(Wr s).length<=s.length+1:=by
  intro s
  induction s with
  | nil=>simp[Wr]
  | cons c l ih=>
   unfold Wr;split
   ·simpa using ih
   ·split<;>rename_i he
    ·simp
    ·rw[he] at ih;simp at ih ⊢;omega
 have:=hl line;unfold Sc at h
 split at h
 ·cases h
 ·rename_i p ps he;rw[he] at this
  split at h
  ·simp only[Out.ok.injEq] at h
   subst h;simp at this ⊢
   omega
  ·cases h
theorem kz{L:QA}(h:L.casks.length<=1000000/\L.duties.length<=1000000/\L.stamps.length<=1000000):YM L=some L:=by
 unfold YM KF KE VE;rw[Hk (by simp;omega),Hk (by simp;omega),Hk (by simp;omega)];rfl
theorem Ak{α:Type}{l:UV α}{i:Nat}{x:α}(h:l[i]? =some x):l.set i x=l:=by
 obtain⟨hi,rfl⟩:=So.1 h;exact eA hi
theorem wC{A:UV Qp}{i:Nat}{L:QA}(hA:A[i]? =some ⟨L,true⟩)(line:UV AC):Le ((wj L line).map λr=>(r.1,r.2.1,A.set i ⟨r.2.2,true⟩)) (UE A (some i) line):=by
 have hself:=Ak hA;unfold wj LJ UE;simp only[rr,By,PP,DO,hA,wt];by_cases hl:line.length > 1000
 ·have e:decide ((line.length:Int) > 1000)=true:=rI (by omega);rw[T2 hl,e];simp only[dO,hself];exact Le.rfl
 have e:decide ((line.length:Int) > 1000)=false:=rY (by omega);rw[RW hl,e,kI line<|by omega];simp only[By,PP];cases hr:Sc line with
 | pan q=>simp only[dO,hself];exact Le.rfl
 | ok w=>
  have hwl:=OX hr;obtain⟨k,hk,hrows⟩:=yu;have hg:=hrows.get w.1;simp only[Qu,hk,DO];cases hw:RC w.1 with
  | none=>
   unfold RC at hw
   rw[hw] at hg
   rw[hg];simp only[dO,hself];exact Le.rfl
  | some d=>
   have hd:d∈Sx:=re hw;unfold RC at hw
   rw[hw] at hg
   obtain⟨g,hg,hle⟩:=hg;rw[hg];obtain⟨ha,_⟩:=vX d hd;unfold XB;simp only;rw[uN _ _ _ ha (by omega),DO,C9];unfold WB;cases hf:FG d.least d.each w.2.length with
   | false=>simp only[By,PP,dO,hself];exact Le.rfl
   | true=>
    simp only[OF,Qu]
    have ez:((if(!L.rules.isNone)=true then some true else some (w.1==([100,97,121]:UV AC))).bind λz1=>if z1=true then some true else some (w.1==([114,117,108,101,115]:UV AC)))=some (!L.rules.isNone||w.1==[100,97,121]||w.1==[114,117,108,101,115]):=by
     cases L.rules.isNone<;>cases w.1==([100,97,121]:UV AC)<;>rfl
    rw[<-Option.bind_assoc,ez,DO,C9];cases hs:(!L.rules.isNone||w.1==[100,97,121]||w.1==[114,117,108,101,115]) with
    | false=>show Le (some ([],(6:Int),A.set i ⟨L,true⟩)) _;rw[hself];exact Le.rfl
    | true=>
     simp only[OF];by_cases hc:L.casks.length<=1000000/\L.duties.length<=1000000/\L.stamps.length<=1000000
     ·rw[T2 hc,kz hc];intro y hy;cases hx:d.does L w.2 with
      | none=>rw[hx] at hy;cases hy
      | some r=>
       rw[hx] at hy
       simp only[DO,hle _ _ _ hx];cases r with
       | pan q=>have hy:some (([]:UV AC),q.e,A.set i ⟨L,true⟩)=some y:=hy;rw[hself] at hy;exact hy
       | ok r=>exact hy
     ·rw[RW hc];exact Le.none
def FH:QA:=⟨0,none,[],[],[],[],[],0⟩
def Rk(s:UV AC)(e:Int):UV AC:=if e==0 then s else X6 Im [e]
def Oc:UV (UV AC)->QA->UV AC->H1 (QA×UV AC)
 | [],L,out=>some (L,out)
 | x::xs,L,out=>match wj L x with
  | none=>none
  | some r=>if E6 r.2.1=true/\out.length+(Rk r.1 r.2.1).length<=1000000000 then Oc xs r.2.2 (out++(Rk r.1 r.2.1++[10])) else none
theorem EE:∀(l:UV (UV AC)) (L:QA) (out:UV AC),Le ((Oc l L out).map λr=>([(⟨r.1,true⟩:Qp)],r.2)) (Yu (Hj<|some 0) l ([⟨L,true⟩],out))
 | [],L,out=>Le.rfl
 | x::xs,L,out=>by
  unfold Oc Yu;cases hd:wj L x with
  | none=>exact Le.none
  | some r=>
   by_cases hc:E6 r.2.1=true/\out.length+(Rk r.1 r.2.1).length<=1000000000
   ·simp only;rw[T2 hc];refine Le.fV ([⟨r.2.2,true⟩],out++(Rk r.1 r.2.1++[10])) ?_<|EE xs _ _;have h1:=wC (A:=[⟨L,true⟩]) (i:=0) rfl x (r.1,r.2.1,[⟨r.2.2,true⟩]) (by rw[hd];rfl);unfold Hj;rw[h1,DO];have hl:=hc.2;unfold Rk at hl ⊢
    cases he:r.2.1==0 with
    | true=>
     have:(r.2.1 != 0)=false:=by simpa using he
     simp only[this,By,PP,OF];rw[he] at hl
     simp only[OF] at hl
     unfold Wk;rw[Hb (by omega),DO,Hb (by simp;omega)];simp
    | false=>
     have:(r.2.1 != 0)=true:=by simpa using he
     simp only[this,OF,By,PP];rw[he] at hl
     simp only[By,PP] at hl
     rw[Rj (by decide) (by simp) (by simpa using hc.1),DO];unfold Wk;rw[Hb (by omega),DO,Hb (by simp;omega)];simp
   ·simp only;rw[RW hc];exact Le.none
def yA(script:UV AC):H1 (UV AC×Int):=if script.length > 262144 then some ([],3) else if !(script==[])&& !Pd script then some ([],8) else(Oc (NB script) FH []).map λr=>(r.2,0)
theorem uq(script:UV AC):Le (yA script) (Xg script):=by
 unfold yA Xg;by_cases hl:script.length > 262144
 ·have e:decide ((script.length:Int) > 262144)=true:=rI (by omega);rw[T2 hl,e];exact Le.rfl
 have e:decide ((script.length:Int) > 262144)=false:=rY (by omega);rw[RW hl,e];simp only[By,PP]
 have ez:(if(!(script==([]:UV AC)))=true then(Jy script [10]).bind λh=>some (!h) else some false)=some (!(script==[])&& !Pd script):=by
  cases script==([]:UV AC) with
  | true=>rfl
  | false=>simp only[tO,OF];rw[Az _<|by omega];rfl
 rw[ez,DO];refine Le.ite Le.rfl ?_;refine Le.fV (some 0,[⟨FH,true⟩]) rfl ?_;intro y hy;cases hp:Oc (NB script) FH [] with
 | none=>rw[hp] at hy;cases hy
 | some r=>
  have:=EE (NB script) FH [] ([⟨r.1,true⟩],r.2) (by rw[hp];rfl);rw[this,DO];rw[hp] at hy
  exact hy
end
end Go.Proofs.YtijhfeohbhedkaaGreatDoor
section
set_option maxRecDepth 100000
namespace Go.Proofs.YtijhfeohbhedkaaGreatDoor
open Go.Dec
theorem OR:yA JK.1=some (JK.2,0):=by decide+kernel
theorem Np:WJ=some true:=by
 unfold WJ;rw[uq _ _ OR]
 decide+kernel
end Go.Proofs.YtijhfeohbhedkaaGreatDoor
end
namespace Go.Proofs.YtijhfeohbhedkaaGreatDoor.Ca
section
open Go.Dec
inductive zl(l:List Zg)(x:Ev)(num:Int):List Zg->Prop
 | make (k:x.Kind=0) (f:Yb l x.Cask=none) (n:l.length < 256):zl l x num (l++[uB x])
 | fill (k:x.Kind=1) (i:Nat) (c:Zg) (f:Yb l x.Cask=some i) (h:l[i]? =some c) (r:c.C.Amount+x.Amount<=c.C.Room):zl l x num (l.set i<|W2 c (Sn num) x.Amount)
 | rack (k:x.Kind=2) (i:Nat) (c:Zg) (f:Yb l x.Cask=some i) (h:l[i]? =some c) (j:Nat) (o:Zg) (f' :Yb l x.Other=some j) (h' :l[j]? =some o) (ne:i≠j)
  (ow:c.C.Owner=o.C.Owner) (c1:c.C.Creditor < 0) (c2:o.C.Creditor < 0) (a:x.Amount<=c.C.Amount) (r:o.C.Amount+x.Amount<=o.C.Room):zl l x num ((l.set j<|W2 o c x.Amount).set i<|Xj c x.Amount)
 | drain (k:x.Kind=3) (i:Nat) (c:Zg) (f:Yb l x.Cask=some i) (h:l[i]? =some c) (c1:c.C.Creditor < 0) (a:x.Amount<=c.C.Amount):zl l x num (l.set i<|Xj c x.Amount)
 | carry (k:x.Kind=4) (i:Nat) (c:Zg) (f:Yb l x.Cask=some i) (h:l[i]? =some c):zl l x num (l.set i {c with C:={c.C with Place:=x.Where}})
 | sell (k:x.Kind=5) (i:Nat) (c:Zg) (f:Yb l x.Cask=some i) (h:l[i]? =some c) (o:c.C.Owner=x.Person) (c1:c.C.Creditor < 0) (t:x.To≠c.C.Owner):zl l x num (l.set i {c with C:={c.C with Owner:=x.To}})
 | pledge (k:x.Kind=6) (i:Nat) (c:Zg) (f:Yb l x.Cask=some i) (h:l[i]? =some c) (o:c.C.Owner=x.Person) (c1:c.C.Creditor < 0):zl l x num (l.set i {c with C:={c.C with Creditor:=x.To}})
 | free (k:x.Kind=7) (i:Nat) (c:Zg) (f:Yb l x.Cask=some i) (h:l[i]? =some c) (c1:c.C.Creditor=x.Person):zl l x num (l.set i {c with C:={c.C with Creditor:= -1}})
 | char (k:x.Kind=8) (i:Nat) (c:Zg) (f:Yb l x.Cask=some i) (h:l[i]? =some c) (a:c.C.Amount<=0):zl l x num (l.set i {c with C:={c.C with Wood:=x.Where}})
theorem yv{l l' :UV Zg}{i:Nat}{c:Zg}{x:Ev}{num:Int}(hv:Xa x=true)(h0:x.Kind≠0)(f:Yb l x.Cask=some i)(hc:l[i]? =some c)(h:Wu l i c x num= .inl l'):zl l x num l' :=by
 rcases kinds hv with k | k | k | k | k | k | k | k | k
 ·exact absurd k h0
 ·have h:Sp l i c x num= .inl l' :=by rw[<-h];unfold Wu;rw[k];rfl
  unfold Sp at h
  split at h
  ·cases h
  ·cases h;exact .fill k i c f hc<|by omega
 ·have h:Sd l i c x= .inl l' :=by rw[<-h];unfold Wu;rw[k];rfl
  unfold Sd at h
  split at h
  ·cases h
  ·rename_i j hj;split at h
   ·cases h
   ·rename_i o ho;unfold TY at h
    split at h
    ·cases h
    ·rename_i hij;split at h
     ·cases h
     ·rename_i hr;split at h
      ·cases h
      ·split at h
       ·cases h
       ·cases h;simp only[rD,lX,ne_eq,x7,not_or,eY,mA] at hr
        exact .rack k i c f hc j o hj ho (λe=>hij<|by simp[e]) hr.1.1 (by omega) (by omega) (by omega)<|by omega
 ·have h:BF l i c x= .inl l' :=by rw[<-h];unfold Wu;rw[k];rfl
  unfold BF at h
  split at h
  ·cases h
  ·split at h
   ·cases h
   ·cases h;exact .drain k i c f hc (by omega)<|by omega
 ·have h:El l i c x= .inl l' :=by rw[<-h];unfold Wu;rw[k];rfl
  cases h;exact .carry k i c f hc
 ·have h:PO l i c x= .inl l' :=by rw[<-h];unfold Wu;rw[k];rfl
  unfold PO at h
  split at h
  ·cases h
  ·rename_i hr;split at h
   ·cases h
   ·rename_i ht;cases h;simp only[rD,lX,ne_eq,x7,not_or,eY,mA] at hr
    exact .sell k i c f hc hr.1 (by omega) λe=>ht<|by simp[e]
 ·have h:Fm l i c x= .inl l' :=by rw[<-h];unfold Wu;rw[k];rfl
  unfold Fm at h
  split at h
  ·cases h
  ·rename_i ho;split at h
   ·cases h
   ·cases h;exact .pledge k i c f hc (by simpa using ho)<|by omega
 ·have h:Pa l i c x= .inl l' :=by rw[<-h];unfold Wu;rw[k];rfl
  unfold Pa at h
  split at h
  ·cases h
  ·rename_i ho;cases h;exact .free k i c f hc<|by simpa using ho
 ·have h:Pf l i c x= .inl l' :=by rw[<-h];unfold Wu;rw[k];rfl
  unfold Pf at h
  split at h
  ·cases h
  ·cases h;exact .char k i c f hc<|by omega
theorem uW{l l' :UV Zg}{x:Ev}{num:Int}(hv:Xa x=true)(h:FX l x num= .inl l'):zl l x num l' :=by
 unfold FX at h
 split at h
 ·rename_i hk;unfold LF at h
  split at h
  ·cases h
  ·rename_i hf;split at h
   ·cases h
   ·cases h;exact .make (rh.1 hk) (by simpa using hf)<|by omega
 ·rename_i hk;split at h
  ·cases h
  ·rename_i i hi;split at h
   ·cases h
   ·rename_i c hc;exact yv hv (λe=>hk<|by simp[e]) hi hc h
theorem zz{n:Nat}{s s' :AY}{x:Ev}(h:Up n s x= .inl s'):Xa x=true/\s.last<=x.Day/\∃l',s' =⟨l',x.Day⟩/\zl (gB x.Day s) x n l' :=by
 unfold Up at h
 split at h
 ·cases h
 ·rename_i hv;have hv:Xa x=true:=by simpa using hv
  split at h
  ·cases h
  ·rename_i hd;split at h
   ·rename_i all hall;cases h;exact⟨hv,by omega,all,rfl,uW hv hall⟩
   ·cases h
theorem u6{day:Int}:∀(l:UV Ev) (n:Nat) (s:AY) (r:AY ⊕ Int) (k:Nat),Bq day l n s=(r,k)->k<=n+l.length
 | [],n,s,r,k,h=>by
  simp only[Bq,pO] at h
  simp[<-h.2]
 | x::l,n,s,r,k,h=>by
  simp only[Bq] at h
  split at h
  ·split at h
   ·have:=u6 l _ _ _ _ h;simp;omega
   ·simp only[pO] at h
    simp[<-h.2]
  ·simp only[pO] at h
   simp[<-h.2]
theorem EE{l:UV Ev}{day:Int}{r:UV Zg ⊕ Int}{k:Nat}(h:Yi l day=(r,k)):k<=l.length:=by
 unfold Yi at h
 split at h
 ·simp only[pO] at h;omega
 ·split at h
  ·simp only[pO] at h;omega
  ·unfold Pk at h
   cases hg:Bq day l 0 ⟨[],0⟩ with
   | mk r' q=>
    have:=u6 _ _ _ _ _ hg;rw[hg] at h
    cases r' <;>(simp only[pO] at h;omega)
end
section
open Go.Dec
section
variable{V:Type}
theorem S8{k n:Int}{v:V}:∀{l:UV (Int×V)},Qa (Qw l k v) n=if n==k then some v else Qa l n
 | []=>by simp[Qw,Qa]
 | x::l=>by
  simp only[Qw];by_cases h:k=x.1
  ·have:(k==x.1)=true:=by simp[h]
   rw[T2 this];simp only[Qa];by_cases h2:n=k
   ·subst h2;simp
   ·have e1:(n==k)=false:=by simpa using h2
    have e2:(n==x.1)=false:=by simpa using λe=>h2<|by rw[e,h]
    simp[e1,e2]
  ·have:(k==x.1)=false:=by simpa using h
   rw[RW<|by simp[this]];simp only[Qa];rw[S8 (l:=l)];by_cases h2:n=x.1
   ·have e1:(n==x.1)=true:=by simp[h2]
    have e2:(n==k)=false:=by simpa using λe=>h<|by rw[<-e,h2]
    simp[e1,e2]
   ·have e1:(n==x.1)=false:=by simpa using h2
    simp[e1]
end
end
end Go.Proofs.YtijhfeohbhedkaaGreatDoor.Ca
section
namespace Go.Proofs.YtijhfeohbhedkaaGreatDoor.Ca
open Go.Dec
theorem zO{day:Int}{x:Ev}(hx:x.Day<=day):∀(l:UV Ev) (n:Nat) (s s' :AY) (k:Nat),(∀y∈l,y.Day<=day)->Bq day (l++[x]) n s=(.inl s',k)->∃s1,Bq day l n s=(.inl s1,n+l.length)/\Up (n+l.length) s1 x= .inl s'
 | [],n,s,s',k,_,h=>by
  simp only[rZ,Bq,T2 hx] at h
  refine⟨s,rfl,?_⟩;show Up n s x=_;cases hs:Up n s x with
  | inl s1=>rw[hs] at h;simp only[pO,rE] at h;rw[h.1]
  | inr e=>rw[hs] at h;simp at h
 | y::l,n,s,s',k,hd,h=>by
  simp only[rS,Bq,T2<|hd y<|by simp] at h ⊢
  cases hs:Up n s y with
  | inl s1=>
   rw[hs] at h
   obtain⟨s2,g1,g2⟩:=zO hx l (n+1) s1 s' k (λz hz=>hd z<|by simp[hz]) h;have e:n+(y::l).length=n+1+l.length:=by simp;omega
   rw[e];exact⟨s2,g1,g2⟩
  | inr e=>rw[hs] at h;simp at h
theorem kL{l:UV Ev}{x:Ev}{day:Int}{all' :UV Zg}{k:Nat}(hx:x.Day=day)(hd:∀y∈l,y.Day<=day)(h:Yi (l++[x]) day=(.inl all',k)):∃all,Yi l day=(.inl all,l.length)/\Xa x=true/\zl all x l.length all' :=by
 unfold Yi at h ⊢
 split at h
 ·cases h
 ·rename_i hl;rw[RW (by simp at hl;omega)];split at h
  ·cases h
  ·rename_i hb;rw[RW hb];unfold Pk at h ⊢
   cases hg:Bq day (l++[x]) 0 ⟨[],0⟩ with
   | mk r k=>
    rw[hg] at h
    cases r with
    | inr e=>cases h
    | inl s' =>
     obtain⟨s1,g1,g2⟩:=zO (by omega) l 0 _ s' k hd hg;rw[rC] at g1 g2
     obtain⟨hv,_,l',e,hD⟩:=zz g2;rw[g1];refine⟨_,rfl,hv,?_⟩;simp only[pO,rE] at h
     rw[<-h.1,e]
     have e0:gB day ⟨l',x.Day⟩=l' :=by
      unfold gB;show l'.map (Vw<|day - x.Day)=l';rw[hx,mU,show Vw 0=id from funext λh=>As,List.map_id]
     rw[e0,<-hx];exact hD
theorem qt{l:UV Ev}{day num:Int}{all:UV Zg}{k i:Nat}{c:Zg}(h:Yi l day=(.inl all,k))(hf:Yb all num=some i)(hc:all[i]? =some c):B9 l num day=(c.C,0):=by
 unfold B9 GP;rw[h];simp only[hf,DO,hc]
theorem uc{l:UV Ev}{day:Int}(h:(TM l day).2.2=0):∃all k,Yi l day=(.inl all,k):=by
 unfold TM at h
 split at h
 ·rename_i e k hp;exact absurd h<|C6 hp
 ·rename_i all k hp;exact⟨all,k,hp⟩
theorem vc{l:UV Ev}{num day:Int}(h:(B9 l num day).2=0):∃last n hh,(B9 l num day).1=Zg.C hh/\Lq last n hh/\last<=65536:=by
 unfold B9 at h ⊢
 cases hp:Yi l day with
 | mk r k=>
  rw[hp] at h
  cases r with
  | inr e=>exact absurd h (C6 hp)
  | inl all=>
   obtain⟨h1,_,h3,h4⟩:=CG hp;simp only at h ⊢
   cases hf:GP all num with
   | none=>rw[hf] at h;cases h
   | some hh=>
    unfold GP at hf
    cases hi:Yb all num with
    | none=>rw[hi] at hf;cases hf
    | some i=>
     rw[hi] at hf
     exact⟨day,k,hh,rfl,h1.each hh<|s7 hf,h4⟩
theorem wK(l:UV Ev)(num day:Int):(RZ l num day).1.length<=4096/\∀f∈(RZ l num day).1,0<=f/\f < 4096:=by
 unfold RZ;cases hp:Yi l day with
 | mk r k=>
  cases r with
  | inr e=>simp
  | inl all=>
   obtain⟨h1,h2,h3,h4⟩:=CG hp;simp only;cases hf:GP all num with
   | none=>simp
   | some hh=>
    unfold GP at hf
    cases hi:Yb all num with
    | none=>rw[hi] at hf;cases hf
    | some i=>
     rw[hi] at hf
     have ho:=h1.each hh<|s7 hf;have:=Sz 0 ho.fills.1 (n:=k) ho.fills.2 (by omega);exact⟨by simp only;omega,λf hf=>by have:=ho.fills.2 f hf;omega⟩
abbrev Er(e:Int):Prop:=1<=e/\e<=20
theorem vQ{e k:Int}(h:(.inr k:UV Zg ⊕ Int)= .inr e)(hk:decide (1<=k/\k<=20)=true:=by decide):Er e:=by
 simp only[rB] at h
 rw[<-h];exact nQ hk
theorem w5{l:UV Zg}{i:Nat}{c:Zg}{x:Ev}{n e:Int}(h:Wu l i c x n= .inr e):Er e:=by
 unfold Wu at h
 by_cases k1:(x.Kind==1)=true
 ·rw[T2 k1] at h
  unfold Sp at h
  split at h
  ·exact vQ h
  ·cases h
 rw[RW k1] at h
 by_cases k2:(x.Kind==2)=true
 ·rw[T2 k2] at h
  unfold Sd TY at h
  repeat' split at h
  all_goals first | (cases h;done) | exact vQ h
 rw[RW k2] at h
 by_cases k3:(x.Kind==3)=true
 ·rw[T2 k3] at h
  unfold BF at h
  repeat' split at h
  all_goals first | (cases h;done) | exact vQ h
 rw[RW k3] at h
 by_cases k4:(x.Kind==4)=true
 ·rw[T2 k4] at h
  cases h
 rw[RW k4] at h
 by_cases k5:(x.Kind==5)=true
 ·rw[T2 k5] at h
  unfold PO at h
  repeat' split at h
  all_goals first | (cases h;done) | exact vQ h
 rw[RW k5] at h
 by_cases k6:(x.Kind==6)=true
 ·rw[T2 k6] at h
  unfold Fm at h
  repeat' split at h
  all_goals first | (cases h;done) | exact vQ h
 rw[RW k6] at h
 by_cases k7:(x.Kind==7)=true
 ·rw[T2 k7] at h
  unfold Pa at h
  repeat' split at h
  all_goals first | (cases h;done) | exact vQ h
 rw[RW k7] at h
 by_cases k8:(x.Kind==8)=true
 ·rw[T2 k8] at h
  unfold Pf at h
  repeat' split at h
  all_goals first | (cases h;done) | exact vQ h
 rw[RW k8] at h
 cases h
theorem xa{l:UV Zg}{x:Ev}{n e:Int}(h:FX l x n= .inr e):Er e:=by
 unfold FX at h
 split at h
 ·unfold LF at h
  repeat' split at h
  all_goals first | (cases h;done) | exact vQ h
 ·split at h
  ·exact vQ h
  ·split at h
   ·exact vQ h
   ·exact w5 h
theorem vf{n:Nat}{s:AY}{x:Ev}{e:Int}(h:Up n s x= .inr e):Er e:=by
 unfold Up at h
 split at h
 ·simp only[rB] at h;subst h;exact⟨by decide,by decide⟩
 ·split at h
  ·simp only[rB] at h;subst h;exact⟨by decide,by decide⟩
  ·split at h
   ·cases h
   ·rename_i e' he;simp only[rB] at h
    subst h;exact xa he
theorem u7{day:Int}:∀{l:UV Ev} {n:Nat} {s:AY} {e:Int} {k:Nat},Bq day l n s=(.inr e,k)->Er e
 | [],n,s,e,k,h=>by simp[Bq] at h
 | x::l,n,s,e,k,h=>by
  simp only[Bq] at h
  split at h
  ·split at h
   ·exact u7 h
   ·rename_i e' he;simp only[pO,rB] at h
    rw[<-h.1];exact vf he
  ·simp at h
theorem EF{l:UV Ev}{day:Int}{e:Int}{k:Nat}(h:Yi l day=(.inr e,k)):Er e:=by
 unfold Yi at h
 split at h
 ·simp only[pO,rB] at h;rw[<-h.1];exact⟨by decide,by decide⟩
 ·split at h
  ·simp only[pO,rB] at h;rw[<-h.1];exact⟨by decide,by decide⟩
  ·unfold Pk at h
   cases hg:Bq day l 0 ⟨[],0⟩ with
   | mk r q=>
    rw[hg] at h
    cases r with
    | inl s=>simp at h
    | inr e' =>
     simp only[pO,rB] at h
     rw[<-h.1];exact u7 hg
theorem wx{l:UV Ev}{day:Int}(h:(TM l day).2.2≠0):Er (TM l day).2.2:=by
 unfold TM at h ⊢
 split
 ·rename_i e k hp;exact EF hp
 ·rename_i all k hp;rw[hp] at h;exact absurd rfl h
theorem qu{l:UV Ev}{num day:Int}(h:(B9 l num day).2≠0):Er (B9 l num day).2:=by
 unfold B9 at h ⊢
 cases hp:Yi l day with
 | mk r k=>
  rw[hp] at h
  cases r with
  | inr e=>exact EF hp
  | inl all=>
   simp only at h ⊢
   cases hf:GP all num with
   | none=>exact⟨by decide,by decide⟩
   | some hh=>rw[hf] at h;exact absurd rfl h
theorem wL{l:UV Ev}{num day:Int}(h:(RZ l num day).2≠0):Er (RZ l num day).2:=by
 unfold RZ at h ⊢
 cases hp:Yi l day with
 | mk r k=>
  rw[hp] at h
  cases r with
  | inr e=>exact EF hp
  | inl all=>
   simp only at h ⊢
   cases hf:GP all num with
   | none=>exact⟨by decide,by decide⟩
   | some hh=>rw[hf] at h;exact absurd rfl h
end Go.Proofs.YtijhfeohbhedkaaGreatDoor.Ca
namespace Go.Proofs.YtijhfeohbhedkaaGreatDoor
open Go.Dec
open Ca (Er)
theorem wN{r:Qz}{day:Int}{l:UV QM}{e:Int}{k:Nat}(h:Ex.Pk r day l 0 Ex.NV=(.inr e,k)):Er e:=by
 unfold Ex.Pk at h
 cases hg:Ex.Bq r day l 0 Ex.NV with
 | mk q j=>
  rw[hg] at h
  cases q with
  | inl a=>simp at h
  | inr e' =>
   simp only[pO,rB] at h
   have:=Ex.ya hg;rw[<-h.1];unfold Er;omega
theorem uU{r:Qz}{l:UV QM}{day:Int}(h:(Be r l day).2.2≠0):Er (Be r l day).2.2:=by
 unfold Be at h ⊢
 cases hp:Ex.Yi r l day with
 | mk q k=>
  rw[hp] at h
  cases q with
  | inl a=>exact absurd rfl h
  | inr e=>
   show Er e
   clear h
   unfold Ex.Yi at hp
   repeat' split at hp
   all_goals first
    | (simp only[pO,rB] at hp;rw[<-hp.1];exact⟨by decide,by decide⟩)
    | exact wN hp
open Bo in
theorem uR(pre:UV QJ)(x:QJ):qS pre x=0∨Er (qS pre x):=by
 unfold qS Er
 repeat' split
 all_goals decide
theorem zY:∀(l pre:UV QJ),MJ pre l=0∨Er (MJ pre l)
 | [],_=>.inl rfl
 | x::l,pre=>by
  unfold MJ;split
  ·exact zY l _
  ·exact uR pre x
theorem OI{l:UV QJ}(h:HU l≠0):Er (HU l):=(zY l []).resolve_left h
def Yk{α:Type}(P:α->Prop)(x:RO α):Prop:=∃r,x=some r/\(∀a,r= .ok a->P a)/\∀q,r= .pan q->Er q.e
section
variable{α β:Type}{P:β->Prop}{Q:α->Prop}
theorem Yk.pan{q:Qk}(h:Er q.e):Yk P (some<|.pan q):=⟨_,rfl,λ_ h=>(by cases h),λ_ e=>by cases e;exact h⟩
theorem Yk.ok{a:β}(h:P a):Yk P (some<|.ok a):=⟨_,rfl,λ_ e=>by cases e;exact h,λ_ e=>by cases e⟩
theorem Yk.dh{b:Bool}{e:Int}{k:RO β}(he:Er e)(h:b=true->Yk P k):Yk P (WB b e k):=by
 unfold WB;cases b with
 | true=>exact h rfl
 | false=>exact Yk.pan he
theorem Yk.aN{e:Int}{k:RO β}(he:e≠0->Er e)(h:e=0->Yk P k):Yk P (WB (e==0) e k):=by
 unfold WB;by_cases h0:e=0
 ·rw[T2<|by simpa using h0];exact h h0
 ·rw[RW<|by simpa using h0];exact Yk.pan<|he h0
theorem Yk.dm{x:RO α}{k:α->RO β}(h:Yk Q x)(h' :∀a,Q a->Yk P (k a)):Yk P (HJ x k):=by
 obtain⟨r,rfl,hr,hp⟩:=h;cases r with
 | ok a=>exact h' a (hr a rfl)
 | pan q=>exact Yk.pan<|hp q rfl
theorem Yk.bind{x:H1 α}{k:α->RO β}(h:∃a,x=some a/\Q a)(h' :∀a,Q a->Yk P (k a)):Yk P (x.bind k):=by
 obtain⟨a,rfl,ha⟩:=h;exact h' a ha
theorem Yk.imp{P' :β->Prop}{x:RO β}(h:Yk P x)(h' :∀b,P b->P' b):Yk P' x:=by
 obtain⟨r,e,hr,hp⟩:=h;exact⟨r,e,λa ha=>h' a<|hr a ha,hp⟩
end
theorem er{n:Int}(h:decide (1<=n/\n<=20)=true:=by decide):Er n:=nQ h
theorem Lv(x:Int):E6 (ZC x)=true:=by
 have e:IntKind.i64.bits=64:=rfl;simp only[E6,ZC,IntKind.wrap,e,TO,x7];simp only[IntKind.signed,true_and,rL,x7];split<;>omega
theorem BB{x:Int}(h: -9223372036854775808<=x/\x<=9223372036854775807):E6 x=true:=by simp[E6,h]
structure Inv(n s:Nat)(L:QA):Prop where
 casks:L.casks.length<=n
 duties:L.duties.length<=n
 stamps:L.stamps.length<=s
 days:∀x∈L.casks,x.Day<=L.day
 rules:∀r,L.rules=some r->r.Rates.length<=1000000
 batches:∀c b,Qa L.batches c=some b->b.Draughts.length<=1000
 pure:∀c,E6 (Ws L c)=true
theorem Inv.up{n s n' s' :Nat}{L:QA}(h:Inv n s L)(hn:n<=n')(hs:s<=s'):Inv n' s' L:=⟨rm h.casks hn,rm h.duties hn,rm h.stamps hs,h.days,h.rules,h.batches,h.pure⟩
theorem Inv.start:Inv 0 0 FH:=⟨If _,If _,If _,λ_ h=>(by cases h),λ_ h=>(by cases h),λ_ _ h=>(by cases h),λ_=>rfl⟩
theorem j7(L:QA)(c v k:Int):Ws (D2 L c v) k=if k==c then v else Ws L k:=by
 unfold Ws D2;simp only;rw[Ca.S8];split<;>rfl
theorem Inv.set{n s:Nat}{L:QA}(h:Inv n s L){c v:Int}(hv:E6 v=true):Inv n s (D2 L c v):=⟨h.casks,h.duties,h.stamps,h.days,h.rules,h.batches,λk=>by rw[j7];split;exact hv;exact h.pure k⟩
def Lr(L:QA)(x:QE)(L1:QA):Prop:=L1={L with casks:=L.casks++[{x with Day:=L.day}]}/\∃all all' :UV Ca.Zg,∃k,Ca.Yi L.casks L.day=(.inl all,L.casks.length)/\Ca.Yi L1.casks L.day=(.inl all',k)/\Ca.Xa {x with Day:=L.day}=true/\Ca.zl all {x with Day:=L.day} L.casks.length all'
theorem Inv.bh{n s:Nat}{L L1:QA}{x:QE}(h:Inv n s L)(h1:Lr L x L1):Inv (n+1) s L1:=by
 obtain⟨rfl,_⟩:=h1;refine⟨by have:=h.casks;simp;omega,by have:=h.duties;simp only;omega,h.stamps,λy hy=> ?_,h.rules,h.batches,h.pure⟩;rcases ra.1 hy with hy | hy
 ·exact h.days y hy
 ·simp only[rP] at hy;subst hy;exact pn _
theorem Ht{n s:Nat}{L:QA}(h:Inv n s L)(hn:n<=1000000)(x:QE):Yk (Lr L x) (Cd L x):=by
 unfold Cd;rw[T2 (by have:=h.casks;omega)];refine Yk.aN Ca.wx λhe=>Yk.ok ⟨rfl,?_⟩;obtain⟨all',k,hp⟩:=Ca.uc he;obtain⟨all,h1,h2,h3⟩:=Ca.kL (x:={x with Day:=L.day}) rfl h.days hp;exact⟨all,all',k,h1,hp,h2,h3⟩
def zm(L:QA)(x:QM)(L1:QA):Prop:=L1={L with duties:=L.duties++[{x with Day:=L.day}]}/\∃r,L.rules=some r/\(Be r L1.duties L.day).2.2=0
theorem Inv.bD{n s:Nat}{L L1:QA}{x:QM}(h:Inv n s L)(h1:zm L x L1):Inv (n+1) s L1:=by
 obtain⟨rfl,_⟩:=h1;exact⟨by have:=h.casks;simp only;omega,by have:=h.duties;simp;omega,h.stamps,h.days,h.rules,h.batches,h.pure⟩
theorem CW{n s:Nat}{L:QA}(h:Inv n s L)(hn:n<=1000000)(hr:L.rules.isNone=false)(x:QM):Yk (zm L x) (CX L x):=by
 unfold CX
 obtain⟨r,hL⟩:∃r,L.rules=some r:=by cases hL:L.rules with
  | none=>rw[hL] at hr;cases hr
  | some r=>exact⟨r,rfl⟩
 rw[hL];show Yk _ (if _ then _ else _);rw[T2 ⟨h.rules r hL,by have:=h.duties;omega⟩,<-hL];exact Yk.aN uU λhe=>Yk.ok ⟨rfl,r,hL,he⟩
def vK(L:QA)(x:QJ)(L1:QA):Prop:=L1={L with stamps:=L.stamps++[x]}/\HU (L.stamps++[x])=0
theorem Inv.aj{n s:Nat}{L L1:QA}{x:QJ}(h:Inv n s L)(h1:vK L x L1):Inv n (s+1) L1:=by
 obtain⟨rfl,_⟩:=h1;exact⟨h.casks,h.duties,by have:=h.stamps;simp;omega,h.days,h.rules,h.batches,h.pure⟩
theorem Mk{n s:Nat}{L:QA}(h:Inv n s L)(hs:s < 256)(x:QJ):Yk (vK L x) (RY L x):=by
 unfold RY;rw[T2 (by have:=h.stamps;omega)];exact Yk.aN OI λhe=>Yk.ok ⟨rfl,he⟩
theorem Lr.rules{L L1:QA}{x:QE}(h:Lr L x L1):L1.rules=L.rules:=by obtain⟨rfl,_⟩:=h;rfl
theorem zm.rules{L L1:QA}{x:QM}(h:zm L x L1):L1.rules=L.rules:=by obtain⟨rfl,_⟩:=h;rfl
def xu(n s:Nat)(L L1:QA):Prop:=Inv n s L1/\L1.rules=L.rules
theorem Oq{n s:Nat}{L:QA}(h:Inv n s L)(hn:n<=999000)(hr:L.rules.isNone=false)(fro to a:Int):Yk (xu (n+2) s L) (Ot L fro to a):=by
 unfold Ot;split
 ·exact Yk.ok ⟨h.up (by omega)<|If _,rfl⟩
 ·refine Yk.dm (CW h (by omega) hr _) λL1 h1=>Yk.dm (CW (h.bD h1) (by omega) (by rw[h1.rules];exact hr) _) λL2 h2=>Yk.ok ?_;have h3:=(h.bD h1).bD h2;exact⟨⟨h3.casks,h3.duties,h3.stamps,h3.days,h3.rules,h3.batches,h3.pure⟩,by show L2.rules=_;rw[h2.rules,h1.rules]⟩
theorem M3{L L1:QA}{x:QE}(h:Lr L x L1)(hk:x.Kind=2∨x.Kind=3):(atR L x.Cask).2=0/\1<=x.Amount/\x.Amount<=(atR L x.Cask).1.Amount:=by
 obtain⟨_,all,all',k,h1,_,hv,hD⟩:=h;have ha:=Ca.NN hv (by rcases hk with hk | hk<;>simp[hk]);unfold atR;generalize hy:({x with Day:=L.day}:QE)=y at hv hD ha
 have hyk:y.Kind=x.Kind:=by rw[<-hy]
 have hyc:y.Cask=x.Cask:=by rw[<-hy]
 have hya:y.Amount=x.Amount:=by rw[<-hy]
 rw[hya] at ha
 rw[<-hyc];cases hD with
 | rack k i c f h j o f' h' ne ow c1 c2 a r=>rw[Ca.qt h1 f h];exact⟨rfl,ha.1,by show _<=c.C.Amount;omega⟩
 | drain k i c f h c1 a=>rw[Ca.qt h1 f h];exact⟨rfl,ha.1,by show _<=c.C.Amount;omega⟩
 | make k=>omega
 | fill k=>omega
 | carry k=>omega
 | sell k=>omega
 | pledge k=>omega
 | free k=>omega
 | char k=>omega
theorem Rn{a b:Int}(hb:b≠0):∃q,G7 .i64 a b=some q:=by unfold G7;rw[RW hb];exact⟨_,rfl⟩
theorem Oh{L L1:QA}{x:QE}(h:Lr L x L1)(hk:x.Kind=2∨x.Kind=3)(L2:QA):∃p,M5 L2 (atR L x.Cask).1 x.Amount=some p/\True:=by
 obtain⟨_,h2,h3⟩:=M3 h hk;unfold M5;split
 ·exact⟨_,rfl,trivial⟩
 ·obtain⟨q,hq⟩:=Rn (a:=ZC<|Ws L2 (atR L x.Cask).1.Number*x.Amount) (b:=(atR L x.Cask).1.Amount) (by omega);exact⟨q,hq,trivial⟩
abbrev Nu(n s:Nat)(L:QA)(r:UV AC×QA):Prop:=Inv n s r.2/\(r.1=xS∨r.2=L)/\r.1.length<=2300000
theorem GF{n s:Nat}{L0 L:QA}(h:Inv n s L):Yk (Nu n s L0) (kT L):=Yk.ok ⟨h,.inl rfl,by show(2:Nat)<=_;omega⟩
section
variable{n s:Nat}{L:QA}(h:Inv n s L)(hn:n<=900000)(hs:s < 256)(hr:L.rules.isNone=false)
include h
theorem Al{w:UV AC}{l:UV Int}(hw:w.length<=1000)(hl:l.length<=100000)(hi:l.all E6=true):Yk (Nu n s L) (OQ w l L):=by
 unfold OQ;rw[T2 ⟨hw,hl,hi⟩];exact Yk.ok ⟨h,.inr rfl,by have:=RB w l;show(X6 w l).length<=_;omega⟩
theorem uX(d:Int):Yk (Nu n s L) (wm L [d]):=Yk.dh er λ_=>Yk.dh er λhd=>GF ⟨h.casks,h.duties,h.stamps,λx hx=>Int.le_trans (h.days x hx) (by simpa using hd),h.rules,h.batches,h.pure⟩
theorem kF(a b c:Int){ns:UV Int}{ps:UV (Int×Int)}(hp:X9 ns=some ps)(hl:ns.length<=1000000):Yk (Nu n s L) (Iy L<|a::b::c::ns):=by
 show Yk _ (if _ then _ else _);rw[T2 hl,hp];refine Yk.dh er λ_=>Yk.dh er λ_=>GF ⟨h.casks,h.duties,h.stamps,h.days,λr hr=> ?_,h.batches,h.pure⟩;simp only[BY] at hr
 subst hr;have:=(FA hp).2;simp[D3];omega
include hn
theorem yL(c w p m o:Int):Yk (Nu (n+1) s L) (yM L [c,w,p,m,o]):=Yk.dh er λ_=>Yk.dm (Ht h (by omega) _) λ_ h1=>GF<|h.bh h1
theorem Mg(k c p t:Int):Yk (Nu (n+1) s L) (RH k L [c,p,t]):=Yk.dm (Ht h (by omega) _) λ_ h1=>GF<|h.bh h1
theorem yc(c p:Int):Yk (Nu (n+1) s L) (yd L [c,p]):=Yk.dm (Ht h (by omega) _) λ_ h1=>GF<|h.bh h1
theorem yz(c p:Int):Yk (Nu (n+1) s L) (y2 L [c,p]):=Yk.dm (Ht h (by omega) _) λ_ h1=>GF<|h.bh h1
include hr
theorem yg(c a b:Int):Yk (Nu (n+2) s L) (yh L [c,a,b]):=by
 refine Yk.dh er λ_=>Yk.dm (Ht h (by omega) _) λL1 h1=>Yk.dm (Q:=Inv (n+2) s) ?_ λL2 h2=>GF h2;unfold filled;split
 ·refine Yk.dm (CW (h.bh h1) (by omega) (by rw[h1.rules];exact hr) _) λL2 h2=>Yk.ok ?_;exact((h.bh h1).bD h2).set<|Lv _
 ·exact Yk.ok<|(h.bh h1).up (by omega)<|If _
theorem j4(a b m:Int):Yk (Nu (n+3) s L) (j5 L [a,b,m]):=by
 refine Yk.dm (Ht h (by omega) _) λL1 h1=>Yk.bind (Oh h1 (.inl rfl) L1) λp _=>Yk.dm (Oq (h.bh h1) (by omega) (by rw[h1.rules];exact hr) _ _ _) λL2 h2=> ?_;exact GF<|(h2.1.set<|Lv _).set<|Lv _
theorem jB(a p:Int):Yk (Nu (n+3) s L) (qc L [a,p]):=Yk.dm (Ht h (by omega) _) λL1 h1=>Yk.dm (Oq (h.bh h1) (by omega) (by rw[h1.rules];exact hr) _ _ _) λL2 h2=>GF h2.1
theorem vw(a:Int):Yk (Nu (n+1) s L) (wS L [a]):=Yk.dm (CW h (by omega) hr _) λ_ h1=>GF<|h.bD h1
omit hr hn
include hs
theorem RV(k a b:Int):Yk (Nu n (s+1) L) (Ai k L [a,b]):=Yk.dm (Mk h hs _) λ_ h1=>GF<|h.aj h1
end
theorem IK{n s:Nat}{L:QA}(h:Inv n s L)(hn:n<=900000)(hr:L.rules.isNone=false)(c a:Int):Yk (λr=>Inv (n+2) s r.2/\r.2.rules=L.rules) (A8 L c a):=by
 refine Yk.aN Ca.qu λ_=>Yk.dm (Ht h (by omega) _) λL1 h1=>Yk.bind (Oh h1 (.inr rfl) L1) λp _=>Yk.dm (Q:=λL2=>Inv (n+2) s L2/\L2.rules=L.rules) ?_ λL2 h2=> ?_
 ·unfold Rl;split
  ·refine Yk.dm (CW (h.bh h1) (by omega) (by rw[h1.rules];exact hr) _) λL2 h2=>Yk.ok ⟨((h.bh h1).bD h2).set<|Lv _,?_⟩;show L2.rules=_;rw[h2.rules,h1.rules]
  ·exact Yk.ok ⟨(h.bh h1).up (by omega)<|If _,h1.rules⟩
 ·have ha:=(M3 h1<|.inr rfl).2.1;obtain⟨lo,hlo⟩:=Rn (a:=ZC<|p*10000) (b:=a) (by show a≠0;have:1<=a:=ha;omega);obtain⟨hi,hhi⟩:=Rn (a:=ZC<|ZC (ZC (p*10000)+a) - 1) (b:=a) (by show a≠0;have:1<=a:=ha;omega);rw[hlo,DO,hhi,DO];exact Yk.ok h2
theorem LY{s:Nat}{R:H1 Qz}(hr:R.isNone=false):∀(ps:UV (Int×Int)) (n:Nat) (L:QA) (b:QU),Inv n s L->n+2*ps.length<=900000->b.Draughts.length+ps.length<=1000->L.rules=R->
  Yk (λr=>Inv (n+2*ps.length) s r.2/\r.1.Draughts.length=b.Draughts.length+ps.length) (NQ ps b L)
 | [],n,L,b,h,_,_,_=>Yk.ok ⟨h,rfl⟩
 | p::ps,n,L,b,h,hn,hb,hR=>by
  simp only[s5] at hn hb
  refine Yk.dm (IK h (by omega) (by rw[hR];exact hr) p.1 p.2) λr hr' => ?_;rw[T2<|by omega];refine(LY hr ps (n+2) r.2 _ hr'.1 (by omega) (by simp;omega)<|by rw[hr'.2,hR]).imp λq hq=>⟨hq.1.up (by simp;omega)<|If _,?_⟩;rw[hq.2];simp;omega
section
variable{n s:Nat}{L:QA}(h:Inv n s L)(hn:n<=800000)(hs:s < 256)(hr:L.rules.isNone=false)
include h hn hs hr
theorem qe(c w a z:Int){ds:UV Int}{ps:UV (Int×Int)}(hp:X9 ds=some ps)(hl:ds.length<=1000):Yk (Nu (n+1000) (s+1) L) (Ep L<|c::w::a::z::ds):=by
 have hps:=(FA hp).2;show Yk _ (if _ then _ else _);rw[T2 (by omega),hp];refine Yk.dh er λ_=>Yk.dm (LY hr ps n L _ h (by omega) (by simp;omega) rfl) λr hr' => ?_;have hlen:r.1.Draughts.length<=1000:=by rw[hr'.2];simp;omega
 rw[T2 hlen];refine Yk.dh er λ_=>Yk.dh er λ_=>Yk.dm (Mk hr'.1 hs _) λL2 h2=>GF ?_;have h3:=(hr'.1.aj h2).up (show _<=n+1000 by omega)<|If _;refine⟨h3.casks,h3.duties,h3.stamps,h3.days,h3.rules,λk b hb=> ?_,h3.pure⟩;simp only at hb
 rw[Ca.S8] at hb
 split at hb
 ·simp only[BY] at hb;subst hb;exact hlen
 ·exact h3.batches k b hb
omit hn hs hr
theorem L5(c:Int):Yk (Nu n s L) (TU L [c]):=by
 refine Yk.aN Ca.qu λhe=>Al h (by decide) (by simp) ?_;obtain⟨last,m,hh,e,ho,hl⟩:=Ca.vc (l:=L.casks) (num:=c) (day:=L.day) he;have h1:=ho.amt;have h2:=ho.room;have h3:=ho.age;have h4:=ho.owner;have h5:=ho.cred;simp only[atR,e,rK,mT,h.pure,nN,TO];exact⟨BB (by omega),BB (by omega),BB (by omega),BB<|by omega⟩
theorem N4(c:Int):Yk (Nu n s L) (S2 L [c]):=by
 refine Yk.aN Ca.wL λ_=> ?_;obtain⟨h1,h2⟩:=Ca.wK L.casks c L.day;exact Al h (by decide) (by omega)<|s8.2 λx hx=>BB (by have:=h2 x hx;omega)
theorem N5(a k w v:Int):Yk (Nu n s L) (G4 L [a,k,w,v]):=by
 unfold G4;simp only;split
 ·exact Yk.pan er
 ·rename_i b hb;unfold Ek;rw[T2<|h.batches a b hb,DO];have hw:∀b:Bool,(if b then jk else Il).length<=2300000:=λb=>by cases b<;>decide
  split
  ·exact Yk.aN (e:=0) (λh=>absurd rfl h) λ_=>Yk.ok ⟨h,.inr rfl,hw _⟩
  ·exact Yk.aN (e:=1) (λ_=>er) λ_=>Yk.ok ⟨h,.inr rfl,hw true⟩
include hr
theorem Lf:∃r,L.rules=some r/\Lg L=some (Be r L.duties L.day).1:=by
 unfold Lg;cases hL:L.rules with
 | none=>rw[hL] at hr;cases hr
 | some r=>
  simp only;rw[T2<|h.rules r hL];exact⟨r,rfl,rfl⟩
end
theorem zh(r:Qz)(l:UV QM)(day:Int):(∀j,j < 16->E6 ((Be r l day).1.Bonds j)=true)/\E6 (Be r l day).1.Due=true/\E6 (Be r l day).1.Paid=true:=by
 unfold Be;cases hp:Ex.Yi r l day with
 | mk q k=>
  cases q with
  | inr e=>exact⟨λ_ _=>rfl,rfl,rfl⟩
  | inl a=>
   obtain⟨_,hok,hd,hk⟩:=Ex.CG hp;have hl:=Ex.M0 hp;have h1:=Ex.uV hok (by omega);exact⟨λj hj=>BB (by have:=hok.bonds j hj;show _<=a.B.Bonds j/\a.B.Bonds j<=_;omega),BB (by show _<=a.B.Due/\a.B.Due<=_;omega),BB (by show _<=a.B.Paid/\a.B.Paid<=_;omega)⟩
open Bo in
theorem wJ{l:UV QJ}(n:Int)(ho:WQ Vs l):E6 (Mc l n).1=true:=by
 unfold Mc;cases h:(cur l n).filter (λe=>decide<|e.Kind=1) with
 | none=>rfl
 | some e=>
  rw[<-E8 n l ho] at h
  have hk:=List.find?_some h;simp only[x7] at hk
  obtain⟨pre,post,rfl⟩:=nJ<|re h;have:=((zF e).1 (ID<|ho pre e post rfl).1).2.1 hk.1;exact BB (by show _<=e.Batch/\e.Batch<=_;omega)
section
variable{n s:Nat}{L:QA}(h:Inv n s L)
include h
theorem L6(hr:L.rules.isNone=false){c:Int}(h0:0<=c):Yk (Nu n s L) (TV L [c]):=by
 refine Yk.dh er λhc=> ?_;obtain⟨r,_,hb⟩:=Lf h hr;have hc:c < 16:=by simpa using hc
 rw[hb,DO,Bo.SC h0 (by omega),DO];exact Al h (by decide) (by simp) (by simp only[rK,mT,nN];exact(zh r L.duties L.day).1 _<|by omega)
theorem OJ(hr:L.rules.isNone=false)(l:UV Int):Yk (Nu n s L) (Aj L l):=by
 unfold Aj;obtain⟨r,_,hb⟩:=Lf h hr;rw[hb,DO];obtain⟨_,h1,h2⟩:=zh r L.duties L.day;exact Al h (by decide) (by simp)<|by simp only[rK,mT,nN,h1,h2]
theorem N3(hs:s < 256)(c:Int):Yk (Nu n s L) (S1 L [c]):=by
 have hl:L.stamps.length<=256:=by have:=h.stamps;omega
 show Yk _ ((Lu _ _).bind _);unfold Lu;rw[T2 hl,DO];obtain⟨_,_,_,ho⟩:=Sy L.stamps hl;by_cases he:HU L.stamps=0
 ·rw[T2<|by simpa using he];refine Yk.aN (λhw=> ?_) λ_=>Al h (by decide) (by simp) (by simp only[rK,mT,nN];exact wJ c<|ho he);unfold Bo.Mc at hw ⊢
  split
  ·rename_i e;rw[e] at hw;exact absurd rfl hw
  ·exact er
 ·rw[RW<|by simpa using he];exact Yk.aN OI λh0=>absurd h0 he
end
theorem j2{line:UV AC}{w:UV AC×UV Int}(h:Sc line= .ok w):∀x∈w.2,0<=x:=by
 unfold Sc at h
 split at h
 ·cases h
 ·split at h
  ·simp only[Out.ok.injEq] at h
   subst h;intro x hx;obtain⟨p,_,rfl⟩:=rG.1 hx;exact Int.natCast_nonneg _
  ·cases h
theorem S6:∀(l:UV Int),l.length%2=0->∃ps,X9 l=some ps
 | [],_=>⟨[],rfl⟩
 | [_],h=>by simp at h
 | a::b::l,h=>by
  obtain⟨ps,hp⟩:=S6 l (by simp at h;omega);exact⟨(a,b)::ps,by simp[X9,hp]⟩
theorem O7{a:Int}{l:UV Int}(h:FG a 0 l.length=true):(l.length:Int)=a:=by simpa[FG] using h
theorem u9{a:Int}{l:UV Int}(h:FG a 2 l.length=true):(l.length:Int) > a/\((l.length:Int) - a)%2=0:=by simpa[FG] using h
theorem qK{l:UV Int}(h:FG 1 0 l.length=true):∃a,l=[a]:=by
 have:=O7 h;rcases l with _ | ⟨a,_ | ⟨b,l⟩⟩<;>simp at this
 ·exact⟨a,rfl⟩
 ·omega
theorem qJ{l:UV Int}(h:FG 2 0 l.length=true):∃a b,l=[a,b]:=by
 have:=O7 h;rcases l with _ | ⟨a,_ | ⟨b,_ | ⟨c,l⟩⟩⟩<;>simp at this
 ·exact⟨a,b,rfl⟩
 ·omega
theorem uF{l:UV Int}(h:FG 3 0 l.length=true):∃a b c,l=[a,b,c]:=by
 have:=O7 h;rcases l with _ | ⟨a,_ | ⟨b,_ | ⟨c,_ | ⟨d,l⟩⟩⟩⟩<;>simp at this
 ·exact⟨a,b,c,rfl⟩
 ·omega
theorem gL{l:UV Int}(h:FG 4 0 l.length=true):∃a b c d,l=[a,b,c,d]:=by
 have:=O7 h;rcases l with _ | ⟨a,_ | ⟨b,_ | ⟨c,_ | ⟨d,_ | ⟨e,l⟩⟩⟩⟩⟩<;>simp at this
 ·exact⟨a,b,c,d,rfl⟩
 ·omega
theorem gK{l:UV Int}(h:FG 5 0 l.length=true):∃a b c d e,l=[a,b,c,d,e]:=by
 have:=O7 h;rcases l with _ | ⟨a,_ | ⟨b,_ | ⟨c,_ | ⟨d,_ | ⟨e,_ | ⟨f,l⟩⟩⟩⟩⟩⟩<;>simp at this
 ·exact⟨a,b,c,d,e,rfl⟩
 ·omega
theorem xX{l:UV Int}(h:FG 3 2 l.length=true):∃a b c ns ps,l=a::b::c::ns/\X9 ns=some ps:=by
 have:=u9 h;rcases l with _ | ⟨a,_ | ⟨b,_ | ⟨c,l⟩⟩⟩<;>simp only[s5,pS,nc,mV,pb] at this
 iterate 3 omega
 ·obtain⟨ps,hp⟩:=S6 l (by omega);exact⟨a,b,c,l,ps,rfl,hp⟩
theorem xY{l:UV Int}(h:FG 4 2 l.length=true):∃a b c d ns ps,l=a::b::c::d::ns/\X9 ns=some ps:=by
 have:=u9 h;rcases l with _ | ⟨a,_ | ⟨b,_ | ⟨c,_ | ⟨d,l⟩⟩⟩⟩<;>simp only[s5,pS,nc,mV,pb] at this
 iterate 4 omega
 ·obtain⟨ps,hp⟩:=S6 l (by omega);exact⟨a,b,c,d,l,ps,rfl,hp⟩
theorem WI{n s n' s' :Nat}{L:QA}{x:RL}(h:Yk (Nu n s L) x)(hn:n<=n')(hs:s<=s'):Yk (Nu n' s' L) x:=h.imp λ_ h=>⟨h.1.up hn hs,h.2⟩
theorem yQ{n s:Nat}{L:QA}(h:Inv n s L)(hn:n<=700000)(hs:s < 256)(line:UV AC):Yk (Nu (n+1000) (s+1) L) (LJ L line):=by
 unfold LJ;split
 ·exact Yk.pan er
 rename_i hll;cases hr:Sc line with
 | pan q=>
  refine Yk.pan ?_;unfold Sc at hr
  split at hr
  ·cases hr;exact er
  ·split at hr
   ·cases hr
   ·cases hr;exact er
 | ok w=>
  simp only;cases hw:RC w.1 with
  | none=>exact Yk.pan er
  | some d=>
   refine Yk.dh er λhf=>Yk.dh er λhst=> ?_;rw[T2 ⟨by have:=h.casks;omega,by have:=h.duties;omega,by have:=h.stamps;omega⟩];have hd:d∈Sx:=re hw;have hdw:d.word=w.1:=by simpa using List.find?_some hw
   have hnn:=j2 hr;have hlen:w.2.length<=1000:=by have:=OX hr;omega
   have hst:d.word≠[100,97,121]->d.word≠[114,117,108,101,115]->L.rules.isNone=false:=λh1 h2=>by
    rw[hdw] at h1 h2
    simpa[h1,h2] using hst
   clear hr hw hdw
   generalize w.2=ns at hf hnn hlen ⊢
   unfold Sx at hd
   simp only[y1,lP,eC] at hd
   rcases hd with rfl | rfl | rfl | rfl | rfl | rfl | rfl | rfl | rfl | rfl | rfl | rfl | rfl | rfl | rfl | rfl | rfl | rfl | rfl | rfl
   ·obtain⟨a,rfl⟩:=qK hf;exact WI (uX h a) (by omega)<|by omega
   ·obtain⟨a,b,c,ns,ps,rfl,hp⟩:=xX hf;exact WI (kF h a b c hp (by simp at hlen;omega)) (by omega)<|by omega
   ·obtain⟨a,b,c,d,e,rfl⟩:=gK hf;exact WI (yL h (by omega) a b c d e) (by omega)<|by omega
   ·obtain⟨a,b,c,rfl⟩:=uF hf;exact WI (yg h (by omega) (hst (by decide)<|by decide) a b c) (by omega)<|by omega
   ·obtain⟨a,b,c,rfl⟩:=uF hf;exact WI (j4 h (by omega) (hst (by decide)<|by decide) a b c) (by omega)<|by omega
   ·obtain⟨a,b,rfl⟩:=qJ hf;exact WI (jB h (by omega) (hst (by decide)<|by decide) a b) (by omega)<|by omega
   ·obtain⟨a,b,c,rfl⟩:=uF hf;exact WI (Mg h (by omega) 5 a b c) (by omega)<|by omega
   ·obtain⟨a,b,c,rfl⟩:=uF hf;exact WI (Mg h (by omega) 6 a b c) (by omega)<|by omega
   ·obtain⟨a,b,rfl⟩:=qJ hf;exact WI (yc h (by omega) a b) (by omega)<|by omega
   ·obtain⟨a,b,rfl⟩:=qJ hf;exact WI (yz h (by omega) a b) (by omega)<|by omega
   ·obtain⟨a,b,rfl⟩:=qJ hf;exact WI (RV h hs 0 a b) (by omega)<|by omega
   ·obtain⟨a,b,rfl⟩:=qJ hf;exact WI (RV h hs 2 a b) (by omega)<|by omega
   ·obtain⟨a,b,c,d,ns,ps,rfl,hp⟩:=xY hf;exact WI (qe h (by omega) hs (hst (by decide)<|by decide) a b c d hp (by simp at hlen;omega)) (by omega)<|by omega
   ·obtain⟨a,rfl⟩:=qK hf;exact WI (vw h (by omega) (hst (by decide)<|by decide) a) (by omega)<|by omega
   ·obtain⟨a,rfl⟩:=qK hf;exact WI (L5 h a) (by omega)<|by omega
   ·obtain⟨a,rfl⟩:=qK hf;exact WI (L6 h (hst (by decide)<|by decide)<|hnn a<|by simp) (by omega)<|by omega
   ·exact WI (OJ h (hst (by decide)<|by decide) ns) (by omega)<|by omega
   ·obtain⟨a,rfl⟩:=qK hf;exact WI (N3 h hs a) (by omega)<|by omega
   ·obtain⟨a,b,c,d,rfl⟩:=gL hf;exact WI (N5 h a b c d) (by omega)<|by omega
   ·obtain⟨a,rfl⟩:=qK hf;exact WI (N4 h a) (by omega)<|by omega
theorem wh{n s:Nat}{L:QA}(h:Inv n s L)(hn:n<=700000)(hs:s < 256)(line:UV AC):∃rep e L',wj L line=some (rep,e,L')/\Inv (n+1000) (s+1) L'/\((Er e/\rep=[]/\L' =L)∨(e=0/\LJ L line=some (.ok (rep,L'))/\(rep=xS∨L' =L)/\rep.length<=2300000)):=by
 obtain⟨r,hr,h1,h2⟩:=yQ h hn hs line;unfold wj;rw[hr];cases r with
 | pan q=>exact⟨_,_,_,rfl,h.up (by omega) (by omega),.inl ⟨h2 q rfl,rfl,rfl⟩⟩
 | ok r=>
  obtain⟨h3,h4,h5⟩:=h1 r rfl;exact⟨_,_,_,rfl,h3,.inr ⟨rfl,rfl,h4,h5⟩⟩
end Go.Proofs.YtijhfeohbhedkaaGreatDoor
end
namespace Go.Proofs.YtijhfeohbhedkaaGreatDoor
section
open Go.Dec Go.Proofs.Tryz Go.Shelf Go.RowKit Go.Maps Go.Sort
set_option maxRecDepth 100000
set_option maxHeartbeats 4000000
abbrev fG:= @Tryz.sizeOf57
end
section
open Go.Dec
def XL(l:UV (UV AC)):Nat:=(l.map λx=>x.length+1).sum
theorem O8(l:UV (UV AC))(hm:∀x∈l,x.length<=140737488351232):∀(post pre:UV (UV AC)),l=pre++post->pre.length<=41->
  ∃b:Int,ZW (Jg l) ((XL pre:Int),(pre.length:Int))=some b/\(l.length<=40->b=XL l)
 | [],pre,e,hp=>by
  rw[rb] at e
  subst e;refine⟨XL l,?_,λ_=>rfl⟩;rw[ZQ];unfold Jg;simp
 | x::post,pre,e,hp=>by
  have hg:=Ul e;have hi:=HE e;by_cases h41:pre.length < 41
  ·have hb:XL pre<=pre.length*140737488351233:=by
    have:∀(q:UV (UV AC)),(∀x∈q,x.length<=140737488351232)->XL q<=q.length*140737488351233:=by
     intro q
     induction q with
     | nil=>intro _;simp[XL]
     | cons y q ih=>
      intro h;have h1:=ih λz hz=>h z (by simp[hz]);have h2:=h y (by simp);have e1:XL (y::q)=y.length+1+XL q:=by simp[XL]
      rw[e1,s5];omega
    exact this pre λy hy=>hm y (by rw[e];simp[hy])
   have hx:=hm x (by rw[e];simp)
   have hbody:Jg l ((XL pre:Int),(pre.length:Int))=some (.next ((XL (pre++[x]):Int),((pre++[x]).length:Int))):=by
    unfold Jg;have c1:(decide ((pre.length:Int) < (l.length:Int))&&decide ((pre.length:Int) < 41))=true:=by simp;omega
    simp only[c1,OF,KI,hg,DO,QT];rw[Qq (n:=(XL pre:Int)+(x.length:Int)) (by omega) (by omega),Qq (by omega) (by omega),Qq (by omega)<|by omega];have e1:XL (pre++[x])=XL pre+(x.length+1):=by simp[XL]
    rw[e1];simp only[pV,nO];congr 4
   obtain⟨b,h1,h2⟩:=O8 l hm post (pre++[x]) (by rw[e];simp) (by simp;omega);refine⟨b,?_,h2⟩;rw[ZQ,hbody];exact h1
  ·refine⟨XL pre,?_,λh=>by omega⟩;rw[ZQ];unfold Jg;have c1:(decide ((pre.length:Int) < (l.length:Int))&&decide ((pre.length:Int) < 41))=false:=by simp;omega
   simp only[c1,By,PP]
theorem wg(l:UV (UV AC))(hm:∀x∈l,x.length<=140737488351232):∃b,UJ l=some b/\(b=true->l.length<=40/\XL l<=4000):=by
 obtain⟨b,h1,h2⟩:=O8 l hm l [] rfl (by simp);refine⟨_,by unfold UJ;exact ZM h1 rfl,λh=> ?_⟩;simp only[TO,x7] at h
 have h3:=h2 (by omega);omega
theorem kj(x:QE):IG x x=true:=by simp[IG]
theorem qT(x:QM):NO x x=true:=by simp[NO]
theorem Re(a:UV QE)(h:a.length<=1000000):JC a a=some true:=by
 unfold JC;simp only[nR,By,PP]
 obtain⟨t,ht,hr⟩:=X0 (body:=Jf a a) (λi (_:Unit)=>(i:Int)) (λ_=>.inl ()) (λ_ _=>True) a
  (λpre x post t e _=>by
   have hg:=Ul e;have hi:=HE e;refine⟨(),?_,trivial⟩;unfold Jf;simp only[KI,hg,DO,show(decide<|(pre.length:Int) < (a.length:Int))=true by simpa using hi,OF,kj,wt,By,PP,QT];rw[Qq (by omega)<|by omega];simp)
  (λt _=>by unfold Jf;simp) a [] () rfl trivial
 exact ZM hr rfl
theorem PQ(a:UV QM)(h:a.length<=1000000):K0 a a=some true:=by
 unfold K0;simp only[nR,By,PP]
 obtain⟨t,ht,hr⟩:=X0 (body:=JP a a) (λi (_:Unit)=>(i:Int)) (λ_=>.inl ()) (λ_ _=>True) a
  (λpre x post t e _=>by
   have hg:=Ul e;have hi:=HE e;refine⟨(),?_,trivial⟩;unfold JP;simp only[KI,hg,DO,show(decide<|(pre.length:Int) < (a.length:Int))=true by simpa using hi,OF,qT,wt,By,PP,QT];rw[Qq (by omega)<|by omega];simp)
  (λt _=>by unfold JP;simp) a [] () rfl trivial
 exact ZM hr rfl
section
variable{A:UV Qp}{i:Nat}{L:QA}
theorem Di(h:A[i]? =some ⟨L,true⟩)(hl:L.casks.length<=1000000):Kp A (some i)=some L.casks:=by
 unfold Kp KF;simp only[rr,By,PP,DO,h,wt];rw[Hk (by simp;omega)];rfl
theorem SM(h:A[i]? =some ⟨L,true⟩)(hl:L.duties.length<=1000000):Kb A (some i)=some L.duties:=by
 unfold Kb KE;simp only[rr,By,PP,DO,h,wt];rw[Hk (by simp;omega)];rfl
theorem qx(h:A[i]? =some ⟨L,true⟩)(c:Int):YN A (some i) c=some (Ws L c):=by
 unfold YN Ws;simp only[rr,By,PP,DO,h,wt]
theorem za{n s:Nat}(h:A[i]? =some ⟨L,true⟩)(hI:Inv n s L)(hn:n<=700000)(hs:s < 256)(line:UV AC):∃rep e L',UE A (some i) line=some (rep,e,A.set i ⟨L',true⟩)/\wj L line=some (rep,e,L')/\Inv (n+1000) (s+1) L'/\((Ca.Er e/\rep=[]/\L' =L)∨(e=0/\LJ L line=some (.ok (rep,L'))/\(rep=xS∨L' =L)/\rep.length<=2300000)):=by
 obtain⟨rep,e,L',h1,h2,h3⟩:=wh hI hn hs line;exact⟨rep,e,L',wC h line _ (by rw[h1];rfl),h1,h2,h3⟩
end
end
section
open Go.Dec Go.Proofs.Tryz Go.Shelf Go.RowKit Go.Maps Go.Sort
set_option maxRecDepth 100000
set_option maxHeartbeats 4000000
def KN(l2:(UV<|UV AC))(c:ON×(UV Qp))(e:ON×(UV Qp))(a:Int×(UV Qp)):H1 (UI (Int×(UV Qp))<|(UV Qp) ⊕ (Bool×(UV Qp))):=if(decide<|a.1 < (l2.length:Int)) then((Kp a.2 c.1).bind λf=>(Kb a.2 c.1).bind λg=>(Za l2 a.1).bind λh=>(UE a.2 c.1 h).bind λb=>if(b.2.1 != 0) then((if(!(b.1==([]:UV AC))) then some true else((Kp b.2.2 c.1).bind λi=>(JC i f).bind λj=>some<|!j)).bind λk=>(if k then some true else((Kb b.2.2 c.1).bind λl=>(K0 l g).bind λm=>some<|!m)).bind λz116=>if z116 then(some<|.done<|.inr (false,b.2.2)) else(QT (ZC<|a.1+1) λi119=>some<|.next (i119,b.2.2))) else(if(!(b.1==([111,107]:UV AC))) then(QT (ZC<|a.1+1) λi122=>some<|.next (i122,b.2.2)) else((Za l2 a.1).bind λn=>(UE b.2.2 e.1 n).bind λd=>if((!(d.1==([111,107]:UV AC)))||(d.2.1 != 0)) then(some<|.done<|.inr (false,d.2.2)) else(QT (ZC<|a.1+1) λi143=>some<|.next (i143,d.2.2))))) else(some<|.done<|.inl a.2)
def Kx(A1:UV Qp)(l2:(UV<|UV AC))(which6:Int):H1 (Bool×(UV Qp)):=(UJ l2).bind λr9=>if(!r9) then(WJ.bind λr13=>some (r13,A1)) else((WS A1).bind λr14=>(WS r14.2).bind λr21=>(if((r14.1).isNone||((r21.1).isNone)) then some true else((r14.1).bind λi33=>(r21.1).bind λi38=>(r21.2[i33]?).bind λx43=>(r21.2[i38]?).bind λx45=>some<|i33==i38)).bind λz50=>if z50 then(some (false,r21.2)) else((ZW (KN l2 r14 r21) (0,r21.2)).bind λb0=>match b0 with | .inl b145=>((UE b145 r14.1 ([100,117,101]:UV AC)).bind λr150=>(UE r150.2.2 r21.1 ([100,117,101]:UV AC)).bind λr154=>(if((r150.1==r154.1)&&(r150.2.1==r154.2.1)) then((Kp r154.2.2 r14.1).bind λr163=>(Kp r154.2.2 r21.1).bind λr170=>(JC r163 r170).bind λr179=>some r179) else some false).bind λz183=>(if z183 then((Kb r154.2.2 r14.1).bind λr186=>(Kb r154.2.2 r21.1).bind λr193=>(K0 r186 r193).bind λr202=>some r202) else some false).bind λz206=>(if z206 then((YN r154.2.2 r14.1 which6).bind λr209=>(YN r154.2.2 r21.1 which6).bind λr213=>some<|r209==r213) else some false).bind λz220=>(if z220 then(WJ.bind λr225=>some r225) else some false).bind λz229=>some (z229,r154.2.2)) | .inr b145=>(some (b145.1,b145.2))))
theorem H3(F0:Fz)(hT:Xo F0)(U:Js)(A1:UV Qp)(l2:(UV<|UV AC))(p3:H1 Of)(k4:Nat)(h5:QG 1 (Ex y5) F0 p3 k4 l2)(which6:Int):Xc prog 5 #[(vS p3 l2 k4),(vI which6)] F0 [Vm U F0 A1] (Kx A1 l2 which6) (λr _ v=>v=(.bool r.1)) (λr F' =>[Vm U F' r.2]):=by
 refine Xc.enter func5 J ntmps5 J λr R=> ?_;refine .o (Sub.refl _) (J:_=[Vm U F0 A1,R]) ?_;unfold Kx;refine .w 9<|.fW J call6 J J J (AJ _ l2 p3 k4 h5) ?_;rintro r9 F7 _ - l8 rfl;refine .w 3<|.i J (λhb10=> ?_) λhb10=> ?_
 ·refine .w 2<|.fW J call7 J J J (Cj _<|hT.mono l8) ?_;rintro r13 F11 _ - l12 rfl;refine .w 3<|.fZ 0 (Jl U) (Fz.t l8 l12) J ?_;exact .du [0,0] results5 (.tmp J<|.nil) J (Fz.t l8 l12) J
 ·refine .w 4<|.fZ 0 (Jl U) l8 J<|.fh [0] J call8 J J J J (BM _ U A1) ?_;rintro r14 F15 _ e17 l16 ⟨p18,k19,rfl,h20⟩;refine .pick [0,0] (J:_=[Vm U F15 r14.2,R])<|.fh [0] J call8 J J J J (BM _ U r14.2) ?_;rintro r21 F22 _ e24 l23 ⟨p25,k26,rfl,h27⟩;refine .pick [0,0] (J:_=[Vm U F22 r21.2,R])<|.w 8<|.dC (h20.mono l23) J xF J J<|.m J J<|.sn (b:=(r14.1).isNone) (b' :=(r21.1).isNone) 3 29 (λhb28=> ?_) (λhb29=> ?_) λF30 l31=> ?_
  ·refine .fO hb28 J J<|.m J J<|.fO hb28 J J<|.dC h27 J xF J J<|.fP hb28 J J J ?_;exact .fin 3 J J (by kernel_rfl) Fz.r
  ·refine .fK hb29 J J J<|.fK hb29 J J J<|.fN hb29 J J J ?_;exact .fin 3 J J (by kernel_rfl) Fz.r
  refine .m J J<|.orM (b:=((r14.1).isNone||((r21.1).isNone))) 4 34 (λhb32 z51=> ?_) (λhb47=> ?_) λz50 F48 l49=> ?_
  ·refine .fO hb32 J J<|.m J J<|.fO hb32 J J<|.m J J<|.fO hb32 J J<|.d λi33 e34=> ?_;obtain⟨b35,hb36,hp37⟩:=(h20.mono<|Fz.t l23 l31).at e34;refine .d λi38 e39=> ?_;obtain⟨b40,hb41,hp42⟩:=(h27.mono l31).at e39;refine .d λx43 e44=>.d λx45 e46=>.tF 0 J hb36 hp37 hb41 hp42 e44 e46 J xF fG J J<|.fP hb32 J J J ?_;exact .dY 4 J J (by kernel_rfl) Fz.r
  ·refine .fK hb47 J J J<|.fK hb47 J J J<|.fK hb47 J J J<|.fN hb47 J J J ?_;exact .fin 4 J J (by kernel_rfl) Fz.r
  refine .w 2<|.i J (λhb52=> ?_) λhb52=> ?_
  ·refine .w 5<|.fZ 0 (Jl U) (Fz.t l31 l49) J ?_;exact .du [0,0] results5 (.tmp J<|.nil) J (Fz.t l8<|Fz.t l16<|Fz.t l23<|Fz.t l31 l49) J
  ·refine .w 9 (.fM (.p [0,1,5,6,7] J)<|.fZ 0 (Jl U) (Fz.t l31 l49) J<|.loop (fun(s53:Int×(UV Qp)) a w=>∃(F54:Fz),F48<=F54/\Hd 133 [] [(0,(vS p3 l2 k4)),(1,(vI which6)),(5,(.pointer p18)),(6,(.pointer p25)),(7,(vI s53.1))] F54 [Vm U F54 s53.2,R] a w) (λb0 e a w=>match b0 with | .inl b145=>e= .exit 0/\∃(F146:Fz),F48<=F146/\Hd 133 [] [(1,(vI which6)),(5,(.pointer p18)),(6,(.pointer p25))] F146 [Vm U F146 b145,R] a w | .inr b145=>e= .ret/\∃(F148:Fz),F48<=F148/\Hd 133 [] [(4,(.bool b145.1))] F148 [Vm U F148 b145.2,R] a w) ?_ ?_ ?_)
   ·exact λa w h=>⟨F48,Fz.r,h.1.sub<|.k J,h.2⟩
   ·intro s53 ctl;refine GC.ex λa w ⟨F54,l55,hA⟩=>⟨_,hA,?_⟩;unfold KN;refine .w 5<|.fq J J xQ J<|.w 3<|.i J (λhb56=> ?_) λhb56=> ?_
    ·refine .w 7<|.fh [0] J call13 J J J J (Ub _ U s53.2 r14.1 p18 k19<|h20.mono<|Fz.t l23<|Fz.t l31<|Fz.t l49 l55) ?_;rintro r57 F58 _ e60 l59 ⟨p61,k62,rfl,h63⟩;refine .pick [0,0] (J:_=[Vm U F58 s53.2,R])<|.m J J<|.fh [0] J call14 J J J J (UA _ U s53.2 r14.1 p18 k19<|h20.mono<|Fz.t l23<|Fz.t l31<|Fz.t l49<|Fz.t l55 l59) ?_;rintro r64 F65 _ e67 l66 ⟨p68,k69,rfl,h70⟩;refine .pick [0,0] (J:_=[Vm U F65 s53.2,R])<|.w 9<|.idx J xQ W9 (h5.mono<|Fz.t l8<|Fz.t l16<|Fz.t l23<|Fz.t l31<|Fz.t l49<|Fz.t l55<|Fz.t l59 l66) J J λx71 b72 o73 T74 fr75 cs76 e77 hm78 hv79=>.fJ J V9 J hm78 (QO (k:=0) hv79 J)<|.fh [0] J call9 J J J J (Hw _ (hT.mono<|Fz.t l8<|Fz.t l16<|Fz.t l23<|Fz.t l31<|Fz.t l49<|Fz.t l55<|Fz.t l59 l66) U s53.2 r14.1 p18 k19 (h20.mono<|Fz.t l23<|Fz.t l31<|Fz.t l49<|Fz.t l55<|Fz.t l59 l66) x71) ?_;rintro r81 F82 _ e84 l83 rfl;refine .pick [0,0] (J:_=[Vm U F82 r81.2.2,R])<|.w 6<|.fM (.p [0,1,5,6,7,8,9,10,11] J)<|.w 8<|.i J (λhb85=> ?_) λhb85=> ?_
     ·refine .w 4<|.su J U9 J J<|.m J J<|.pH (b:=(!(r81.1==([]:UV AC)))) 6 64 (λG=>[Vm U G r81.2.2,R]) (λhb86 z101=> ?_) (λhb97=> ?_) λz100 F98 l99=> ?_
      ·refine .fO hb86 J J<|.m J J<|.fO hb86 J J<|.fh [0] J call13 J J J J (Ub _ U r81.2.2 r14.1 p18 k19<|h20.mono<|Fz.t l23<|Fz.t l31<|Fz.t l49<|Fz.t l55<|Fz.t l59<|Fz.t l66 l83) ?_;rintro r87 F88 _ e90 l89 ⟨p91,k92,rfl,h93⟩;refine .pick [0,0] (J:_=[Vm U F88 r81.2.2,R])<|.fO hb86 J J<|.m J J<|.fO hb86 J J<|.fW J call15 J J J (Xl _ r87 p91 k92 h93 r57 p61 k62<|h63.mono<|Fz.t l66<|Fz.t l83 l89) ?_;rintro r96 F94 _ - l95 rfl;refine .fO hb86 J J<|.not J J<|.fP hb86 J J J<|.fZ 0 (Jl U) l95 J ?_;exact .bx 6 J J (by kernel_rfl) (Fz.t l89 l95) J
      ·refine .fK hb97 J J J<|.fK hb97 J J J<|.fK hb97 J J J<|.fK hb97 J J J<|.fK hb97 J J J<|.fN hb97 J J J ?_;exact .bx 6 J J (by kernel_rfl) Fz.r J
      refine .m J J<|.pH (b:=z100) 6 71 (λG=>[Vm U G r81.2.2,R]) (λhb102 z117=> ?_) (λhb113=> ?_) λz116 F114 l115=> ?_
      ·refine .fO hb102 J J<|.m J J<|.fO hb102 J J<|.fh [0] J call14 J J J J (UA _ U r81.2.2 r14.1 p18 k19<|h20.mono<|Fz.t l23<|Fz.t l31<|Fz.t l49<|Fz.t l55<|Fz.t l59<|Fz.t l66<|Fz.t l83 l99) ?_;rintro r103 F104 _ e106 l105 ⟨p107,k108,rfl,h109⟩;refine .pick [0,0] (J:_=[Vm U F104 r81.2.2,R])<|.fO hb102 J J<|.m J J<|.fO hb102 J J<|.fW J call16 J J J (XX _ r103 p107 k108 h109 r64 p68 k69<|h70.mono<|Fz.t l83<|Fz.t l99 l105) ?_;rintro r112 F110 _ - l111 rfl;refine .fO hb102 J J<|.not J J<|.fP hb102 J J J<|.fZ 0 (Jl U) l111 J ?_;exact .bx 6 J J (by kernel_rfl) (Fz.t l105 l111) J
      ·refine .fK hb113 J J J<|.fK hb113 J J J<|.fK hb113 J J J<|.fK hb113 J J J<|.fK hb113 J J J<|.fN hb113 J J J ?_;exact .bx 6 J J (by kernel_rfl) Fz.r J
      refine .w 2<|.i J (λhb118=> ?_) λhb118=> ?_
      ·refine .w 5<|.fy<|Q3.ret λa w h=>⟨J,F114,(Fz.t l55<|Fz.t l59<|Fz.t l66<|Fz.t l83<|Fz.t l99 l115),h.1.sub<|.k J,h.2⟩
      ·refine .w 2<|.exit J<|.w 4<|.fe J J λi119 e120=>.n ?_;exact .n<|Q3.norm λa w h=>⟨F114,(Fz.t l55<|Fz.t l59<|Fz.t l66<|Fz.t l83<|Fz.t l99 l115),h.1.sub<|.k J,h.2⟩
     ·refine .w 6<|.su J U9 J J<|.w 2<|.i J (λhb121=> ?_) λhb121=> ?_
      ·refine .exit J<|.w 4<|.fe J J λi122 e123=>.n ?_;exact .n<|Q3.norm λa w h=>⟨F82,(Fz.t l55<|Fz.t l59<|Fz.t l66 l83),h.1.sub<|.k J,h.2⟩
      ·refine .w 7<|.idx J xQ W9 (h5.mono<|Fz.t l8<|Fz.t l16<|Fz.t l23<|Fz.t l31<|Fz.t l49<|Fz.t l55<|Fz.t l59<|Fz.t l66 l83) J J λx124 b125 o126 T127 fr128 cs129 e130 hm131 hv132=>.fJ J V9 J hm131 (QO (k:=0) hv132 J)<|.fh [0] J call9 J J J J (Hw _ (hT.mono<|Fz.t l8<|Fz.t l16<|Fz.t l23<|Fz.t l31<|Fz.t l49<|Fz.t l55<|Fz.t l59<|Fz.t l66 l83) U r81.2.2 r21.1 p25 k26 (h27.mono<|Fz.t l31<|Fz.t l49<|Fz.t l55<|Fz.t l59<|Fz.t l66 l83) x124) ?_;rintro r134 F135 _ e137 l136 rfl;refine .pick [0,0] (J:_=[Vm U F135 r134.2.2,R])<|.w 10<|.su J U9 J J<|.m J J<|.sn (b:=(!(r134.1==([111,107]:UV AC)))) (b' :=(r134.2.1 != 0)) 3 88 (λhb138=> ?_) (λhb139=> ?_) λF140 l141=> ?_
       ·refine .fO hb138 J J<|.m J J<|.fO hb138 J J<|.neq J J J<|.fP hb138 J J J ?_;exact .fin 3 J J (by kernel_rfl) Fz.r
       ·refine .fK hb139 J J J<|.fK hb139 J J J<|.fN hb139 J J J ?_;exact .fin 3 J J (by kernel_rfl) Fz.r
       refine .n<|.fM (.p [0,1,5,6,7,88] J)<|.c<|.i J (λhb142=> ?_) λhb142=> ?_
       ·refine .w 5<|.fZ 0 (Jl U) l141 J<|.fy<|Q3.ret λa w h=>⟨J,F140,(Fz.t l55<|Fz.t l59<|Fz.t l66<|Fz.t l83<|Fz.t l136 l141),h.1.sub<|.k J,h.2⟩
       ·refine .w 6<|.fe J J λi143 e144=>.n<|.fZ 0 (Jl U) l141 J ?_;exact .n<|Q3.norm λa w h=>⟨F140,(Fz.t l55<|Fz.t l59<|Fz.t l66<|Fz.t l83<|Fz.t l136 l141),h.1.sub<|.k J,h.2⟩
    ·refine .fY J<|Q3.exit λa w h=>⟨J,F54,l55,h.1.sub<|.k J,h.2⟩
   ·intro b145 hb0 hk e a w hD;rcases b145 with b145 | b145
    ·obtain⟨rfl,F146,l147,hA⟩:=hD;refine ZA J<|GE.app ?_ hk a w hA;refine .w 4<|.fh [0] J call9 J J J J (Hw _ (hT.mono<|Fz.t l8<|Fz.t l16<|Fz.t l23<|Fz.t l31<|Fz.t l49 l147) U b145 r14.1 p18 k19 (h20.mono<|Fz.t l23<|Fz.t l31<|Fz.t l49 l147) ([100,117,101]:UV AC)) ?_;rintro r150 F151 _ e153 l152 rfl;refine .pick [0,0] (J:_=[Vm U F151 r150.2.2,R])<|.w 10<|.fh [0] J call9 J J J J (Hw _ (hT.mono<|Fz.t l8<|Fz.t l16<|Fz.t l23<|Fz.t l31<|Fz.t l49<|Fz.t l147 l152) U r150.2.2 r21.1 p25 k26 (h27.mono<|Fz.t l31<|Fz.t l49<|Fz.t l147 l152) ([100,117,101]:UV AC)) ?_;rintro r154 F155 _ e157 l156 rfl;refine .pick [0,0] (J:_=[Vm U F155 r154.2.2,R])<|.w 11<|.sZ J U9 J J<|.m J J<|.fx (b:=(r150.1==r154.1)) (b' :=(r150.2.1==r154.2.1)) 4 106 (λhb158=> ?_) (λhb159=> ?_) λF160 l161=> ?_
     ·refine .fO hb158 J J<|.m J J<|.fO hb158 J J<|.m J J<|.fO hb158 J J<|.eql J J J<|.fN hb158 J J J ?_;exact .fin 4 J J (by kernel_rfl) Fz.r
     ·refine .fK hb159 J J J<|.fK hb159 J J J<|.fK hb159 J J J<|.fP hb159 J J J ?_;exact .fin 4 J J (by kernel_rfl) Fz.r
     refine .m J J<|.tM (b:=((r150.1==r154.1)&&(r150.2.1==r154.2.1))) 6 113 (λG=>[Vm U G r154.2.2,R]) (λhb162 z184=> ?_) (λhb180=> ?_) λz183 F181 l182=> ?_
     ·refine .fO hb162 J J<|.m J J<|.fO hb162 J J<|.fZ 0 (Jl U) l161 J<|.fh [0] J call13 J J J J (Ub _ U r154.2.2 r14.1 p18 k19<|h20.mono<|Fz.t l23<|Fz.t l31<|Fz.t l49<|Fz.t l147<|Fz.t l152<|Fz.t l156 l161) ?_;rintro r163 F164 _ e166 l165 ⟨p167,k168,rfl,h169⟩;refine .pick [0,0] (J:_=[Vm U F164 r154.2.2,R])<|.fO hb162 J J<|.m J J<|.fO hb162 J J<|.fh [0] J call13 J J J J (Ub _ U r154.2.2 r21.1 p25 k26<|h27.mono<|Fz.t l31<|Fz.t l49<|Fz.t l147<|Fz.t l152<|Fz.t l156<|Fz.t l161 l165) ?_;rintro r170 F171 _ e173 l172 ⟨p174,k175,rfl,h176⟩;refine .pick [0,0] (J:_=[Vm U F171 r154.2.2,R])<|.fO hb162 J J<|.fW J call15 J J J (Xl _ r163 p167 k168 (h169.mono l172) r170 p174 k175 h176) ?_;rintro r179 F177 _ - l178 rfl;refine .fN hb162 J J J<|.fZ 0 (Jl U) l178 J ?_;exact .bx 6 J J (by kernel_rfl) (Fz.t l165<|Fz.t l172 l178) J
     ·refine .fK hb180 J J J<|.fK hb180 J J J<|.fK hb180 J J J<|.fK hb180 J J J<|.fK hb180 J J J<|.fP hb180 J J J<|.fZ 0 (Jl U) l161 J ?_;exact .bx 6 J J (by kernel_rfl) Fz.r J
     refine .m J J<|.tM (b:=z183) 6 120 (λG=>[Vm U G r154.2.2,R]) (λhb185 z207=> ?_) (λhb203=> ?_) λz206 F204 l205=> ?_
     ·refine .fO hb185 J J<|.m J J<|.fO hb185 J J<|.fh [0] J call14 J J J J (UA _ U r154.2.2 r14.1 p18 k19<|h20.mono<|Fz.t l23<|Fz.t l31<|Fz.t l49<|Fz.t l147<|Fz.t l152<|Fz.t l156<|Fz.t l161 l182) ?_;rintro r186 F187 _ e189 l188 ⟨p190,k191,rfl,h192⟩;refine .pick [0,0] (J:_=[Vm U F187 r154.2.2,R])<|.fO hb185 J J<|.m J J<|.fO hb185 J J<|.fh [0] J call14 J J J J (UA _ U r154.2.2 r21.1 p25 k26<|h27.mono<|Fz.t l31<|Fz.t l49<|Fz.t l147<|Fz.t l152<|Fz.t l156<|Fz.t l161<|Fz.t l182 l188) ?_;rintro r193 F194 _ e196 l195 ⟨p197,k198,rfl,h199⟩;refine .pick [0,0] (J:_=[Vm U F194 r154.2.2,R])<|.fO hb185 J J<|.fW J call16 J J J (XX _ r186 p190 k191 (h192.mono l195) r193 p197 k198 h199) ?_;rintro r202 F200 _ - l201 rfl;refine .fN hb185 J J J<|.fZ 0 (Jl U) l201 J ?_;exact .bx 6 J J (by kernel_rfl) (Fz.t l188<|Fz.t l195 l201) J
     ·refine .fK hb203 J J J<|.fK hb203 J J J<|.fK hb203 J J J<|.fK hb203 J J J<|.fK hb203 J J J<|.fP hb203 J J J ?_;exact .bx 6 J J (by kernel_rfl) Fz.r J
     refine .m J J<|.tM (b:=z206) 8 129 (λG=>[Vm U G r154.2.2,R]) (λhb208 z221=> ?_) (λhb217=> ?_) λz220 F218 l219=> ?_
     ·refine .fO hb208 J J<|.m J J<|.fO hb208 J J<|.m J J<|.fO hb208 J J<|.fh [0] J call17 J J J J (Hv _ U r154.2.2 r14.1 p18 k19 (h20.mono<|Fz.t l23<|Fz.t l31<|Fz.t l49<|Fz.t l147<|Fz.t l152<|Fz.t l156<|Fz.t l161<|Fz.t l182 l205) which6) ?_;rintro r209 F210 _ e212 l211 rfl;refine .pick [0,0] (J:_=[Vm U F210 r154.2.2,R])<|.fO hb208 J J<|.m J J<|.fO hb208 J J<|.m J J<|.fO hb208 J J<|.fh [0] J call17 J J J J (Hv _ U r154.2.2 r21.1 p25 k26 (h27.mono<|Fz.t l31<|Fz.t l49<|Fz.t l147<|Fz.t l152<|Fz.t l156<|Fz.t l161<|Fz.t l182<|Fz.t l205 l211) which6) ?_;rintro r213 F214 _ e216 l215 rfl;refine .pick [0,0] (J:_=[Vm U F214 r154.2.2,R])<|.fO hb208 J J<|.eql J J J<|.fN hb208 J J J ?_;exact .bx 8 J J (by kernel_rfl) (Fz.t l211 l215) J
     ·refine .fK hb217 J J J<|.fK hb217 J J J<|.fK hb217 J J J<|.fK hb217 J J J<|.fK hb217 J J J<|.fK hb217 J J J<|.fK hb217 J J J<|.fP hb217 J J J ?_;exact .bx 8 J J (by kernel_rfl) Fz.r J
     refine .m J J<|.andM (b:=z220) 2 132 (λhb222 z230=> ?_) (λhb226=> ?_) λz229 F227 l228=> ?_
     ·refine .fO hb222 J J<|.fW J call7 J J J (Cj _<|hT.mono<|Fz.t l8<|Fz.t l16<|Fz.t l23<|Fz.t l31<|Fz.t l49<|Fz.t l147<|Fz.t l152<|Fz.t l156<|Fz.t l161<|Fz.t l182<|Fz.t l205 l219) ?_;rintro r225 F223 _ - l224 rfl;refine .fN hb222 J J J ?_;exact .dY 2 J J (by kernel_rfl) l224
     ·refine .fK hb226 J J J<|.fP hb226 J J J ?_;exact .fin 2 J J (by kernel_rfl) Fz.r
     refine .w 2<|.fM (.p [4] J)<|.c<|.fZ 0 (Jl U) l228 J ?_;exact .du [0,0] results5 (.tmp J<|.nil) J (Fz.t l8<|Fz.t l16<|Fz.t l23<|Fz.t l31<|Fz.t l49<|Fz.t l147<|Fz.t l152<|Fz.t l156<|Fz.t l161<|Fz.t l182<|Fz.t l205<|Fz.t l219 l228) J
    obtain⟨rfl,F148,l149,hA⟩:=hD;exact Jd<|(Gp [0,0] results5 (.tmp J<|.nil) J (Fz.t l8<|Fz.t l16<|Fz.t l23<|Fz.t l31<|Fz.t l49 l149) J) hk a w hA
def YD(l2:(UV<|UV AC))(a:Int):H1 Bool:=(Kx [] l2 a).map Prod.fst
theorem GJ(F0:Fz)(hT:Xo F0)(l2:(UV<|UV AC))(a:H1 Of)(b:Nat)(d:QG 1 (Ex y5) F0 a b l2)(c:Int):Z9 prog 5 #[(vS a l2 b),(vI c)] F0 (YD l2 c) (λr _ v=>v=(.bool r)):=Z9.tf (C:=λγ=>xy<|Js.mk 0 0 0 γ 0 0 0 0 0) λγ F le=>H3 F (hT.mono le) (Js.mk 0 0 0 γ 0 0 0 0 0) [] l2 a b (d.mono le) c
end
section
open Go.Dec
abbrev two(L:QA):UV Qp:=[⟨L,true⟩,⟨L,true⟩]
theorem EB{l pre post:UV (UV AC)}{x:UV AC}{r r' :ON×UV Qp}(h0:r.1=some 0)(h1:r'.1=some 1){L:QA}(e:l=pre++x::post)(hp:pre.length < 40)(hI:Inv (1000*pre.length) pre.length L):∃L',KN l r r' ((pre.length:Int),two L)=some (.next (((pre++[x]).length:Int),two L'))/\Inv (1000*(pre++[x]).length) (pre++[x]).length L' :=by
 have hg:=Ul e;have hi:=HE e;have hL:=hI.casks;have hD:=hI.duties;have en:((pre.length:Int)+1)=((pre++[x]).length:Int):=by simp
 have hw:ZC ((pre.length:Int)+1)=((pre++[x]).length:Int):=by rw[Qq (by omega) (by omega),en]
 obtain⟨rep,er,L',hdo,hdoR,hI',hc⟩:=za (A:=two L) (i:=0) rfl hI (by omega) (by omega) x;have hI'' :Inv (1000*(pre++[x]).length) (pre++[x]).length L' :=hI'.up (by simp;omega) (by simp);refine⟨L',?_,hI''⟩;have hset:(two L).set 0 ⟨L',true⟩=[⟨L',true⟩,⟨L,true⟩]:=rfl;rw[hset] at hdo
 unfold KN;simp only[show(decide<|(pre.length:Int) < (l.length:Int))=true by simpa using hi,OF,h0,h1];rw[Di (L:=L) rfl (by omega),DO,SM (L:=L) rfl (by omega),DO];simp only[KI,hg,DO,hdo];rcases hc with⟨hE,rfl,rfl⟩ | ⟨rfl,_,hc,_⟩
 ·have hne:(er != 0)=true:=by have:=hE.1;simp;omega
  simp only[hne,OF];rw[Di (L:=L') rfl (by omega),SM (L:=L') rfl<|by omega];simp only[DO,Re _ (show L'.casks.length<=1000000 by omega),PQ _ (show L'.duties.length<=1000000 by omega),QT,hw];rfl
 ·simp only[nR,By,PP];by_cases hr:rep=xS
  ·subst hr;obtain⟨rep2,er2,L2,hdo2,hdoR2,_,_⟩:=za (A:=[⟨L',true⟩,⟨L,true⟩]) (i:=1) rfl hI (by omega) (by omega) x;rw[hdoR] at hdoR2
   simp only[BY,pO] at hdoR2
   obtain⟨rfl,rfl,rfl⟩:=hdoR2;simp only[rn,wt,By,PP,hdo2,DO,nR,ny,QT,hw];rfl
  ·have hL' :L' =L:=hc.resolve_left hr;subst hL';have hb:(rep==([111,107]:UV AC))=false:=by simpa using hr
   simp only[hb,tO,OF,QT,hw]
theorem Aq{l:UV (UV AC)}(hl:l.length<=40){r r' :ON×UV Qp}(h0:r.1=some 0)(h1:r'.1=some 1):∀(post pre:UV (UV AC)) (L:QA),l=pre++post->Inv (1000*pre.length) pre.length L->
  ∃L',ZW (KN l r r') ((pre.length:Int),two L)=some (.inl<|two L')/\Inv 40000 40 L'
 | [],pre,L,e,hI=>by
  rw[rb] at e
  subst e;refine⟨L,?_,hI.up (by omega) hl⟩;rw[ZQ];unfold KN;simp
 | x::post,pre,L,e,hI=>by
  have hi:=HE e;obtain⟨L',hb,hI'⟩:=EB h0 h1 e (by omega) hI;obtain⟨L2,h2,h3⟩:=Aq hl h0 h1 post (pre++[x]) L' (by rw[e];simp) hI';refine⟨L2,?_,h3⟩;rw[ZQ,hb];exact h2
theorem EA(l:UV (UV AC))(which:Int)(hm:∀x∈l,x.length<=140737488351232):YD l which=some true:=by
 unfold YD
 suffices h:∃A,Kx [] l which=some (true,A) by obtain⟨A,h⟩:=h;rw[h];rfl
 unfold Kx;obtain⟨b,hf,hfit⟩:=wg l hm;rw[hf,DO];cases b with
 | false=>
  simp only[tO,OF,Np,DO];exact⟨_,rfl⟩
 | true=>
  obtain⟨hl,_⟩:=hfit rfl;simp only[wt,By,PP];have hn1:WS []=some (some 0,[⟨FH,true⟩]):=rfl;have hn2:WS [⟨FH,true⟩]=some (some 1,two FH):=rfl;rw[hn1,DO];simp only;rw[hn2,DO];obtain⟨L,hloop,hI⟩:=Aq hl (r:=(some 0,[⟨FH,true⟩])) (r' :=(some 1,two FH)) rfl rfl l [] FH rfl Inv.start;simp only[pS,pb] at hloop
  simp only[rr,ny,By,PP,DO,IF,px];have h01:((0:Nat)==1)=false:=rfl;simp only[h01,By,PP,hloop,DO];obtain⟨rep,er,L1,hd1,hr1,hI1,_⟩:=za (A:=two L) (i:=0) rfl hI (by omega) (by omega) [100,117,101];have e1:(two L).set 0 ⟨L1,true⟩=[⟨L1,true⟩,⟨L,true⟩]:=rfl;rw[e1] at hd1
  obtain⟨rep2,er2,L2,hd2,hr2,_,_⟩:=za (A:=[⟨L1,true⟩,⟨L,true⟩]) (i:=1) rfl hI (by omega) (by omega) [100,117,101];rw[hr1] at hr2
  simp only[BY,pO] at hr2
  obtain⟨rfl,rfl,rfl⟩:=hr2;have e2:([⟨L1,true⟩,⟨L,true⟩]:UV Qp).set 1 ⟨L1,true⟩=two L1:=rfl;rw[e2] at hd2
  have hc:=hI1.casks;have hd:=hI1.duties;simp only[hd1,hd2,DO,rn,Bool.and_self,OF];rw[Di (L:=L1) (i:=0) rfl (by omega),Di (L:=L1) (i:=1) rfl (by omega),SM (L:=L1) (i:=0) rfl (by omega),SM (L:=L1) (i:=1) rfl (by omega),qx (L:=L1) (i:=0) rfl,qx (L:=L1) (i:=1) rfl];simp only[DO,Re _ (show L1.casks.length<=1000000 by omega),PQ _ (show L1.duties.length<=1000000 by omega),OF,rn,Np];exact⟨_,rfl⟩
end
section
open Go.Dec Go.Shelf Go.RowKit Go.Maps Go.Sort Go.ChangeShapes Go.WideShapes Go.ChangeAt
theorem Tryz.own:ownKnob Tryz.prog.godebug=none:=by kernel_rfl
theorem Tryz.laidOut:laidOutB Tryz.prog=true:=by kernel_rfl
theorem IU{α:Type}{a:Nm α}{l:UV α}(h:a.toList=l):a=l.toArray:=by rw[<-h]
theorem xZ:Tryz.prog.globalNamed "internal/strconv.uint64pow10"=some 1:=by kernel_rfl
theorem gH:(Tryz.prog.globals[1]?).map (·.type)=some 280:=by kernel_rfl
theorem uZ:Tryz.prog.cellsOf 256=1:=by kernel_rfl
theorem y3:Tryz.prog.cellsOf 280=20:=by kernel_rfl
theorem j8:(Rows.laid_internal_strconv_uint64pow10:DataW Unit)=Go.Lib.tabData .u64 Go.Lib.pow10Tab:=by kernel_rfl
theorem zH:((begin Tryz.prog (λ_ _=>0) default).world.heap[0]?).bind Obj.row? =some (#[.int .i64 0],3):=by kernel_rfl
theorem qL{W:AT}(h:laidMetH Tryz.prog Rows.officeRefusedRow.laid W):laidMet Tryz.prog Rows.officeRefusedRow.laid W:=by
 rwa[lZ _ _ _<|by kernel_rfl] at h
set_option maxRecDepth 100000 in
theorem vd{W:AT}(h:laidMetH Tryz.prog Rows.officeRefusedRow.laid W)(hsh:W.ShapedOpen Tryz.prog):Xo (FW W):=by
 obtain⟨ps,hl,_,_⟩:=qL h;refine⟨?_,?_⟩
 ·obtain⟨g,t,cs,fuel,p,T,fr,hg,ht,hh,hd⟩:=zK 2 rfl hl;obtain rfl:=u2<|xZ.symm.trans hg;obtain rfl:=u2<|gH.symm.trans ht;have hc:=Go.Lib.cells_of_tab Tryz.underlying280 Tryz.underlying256 uZ y3 (by rw[<-j8];exact hd);exact⟨1,T,fr,xZ,by rw[show(FW W).mem 1=W.heap[1]? from rfl,hh,IU hc];rfl⟩
 ·obtain⟨m,hm⟩:=lJ (P:=Tryz.prog) (g:=0) (t:=3) (zero:=#[.int .i64 0]) hsh (nQ<|by kernel_rfl) zH rfl (by kernel_rfl) (by kernel_rfl) Tryz.underlying3;obtain⟨T,fr,hb⟩:=NI hsh (nQ<|by kernel_rfl) zH rfl hm;exact⟨m,T,fr,hb⟩
end
section
open Go.Dec
open Go.ChangeShapes Go.WideShapes Go.ChangeAt Go.RowKit
def XV:Prop:=∀(a0:(UV<|UV AC)) (a1:Int),(∀y∈a0,y.length<=140737488351232)->(Lit.int .i64 a1).wf=true->YD a0 a1=some true
set_option maxRecDepth 100000 in
theorem CO(law:XV)(os:Os)(started:os.Started)(H:Type)(enc:IN×Do->H):ReturnsInHanded {} Tryz.checked os 5 .any (λw args=>(Rows.officeRefusedSpec.pre enc Tryz.prog Tryz.f5 Rows.officeRefusedRow.domain false w args/\laidMetH Tryz.prog Rows.officeRefusedRow.laid w)/\sizedMet enc Tryz.prog Tryz.f5 (OpenSpec.ofChange Rows.officeRefusedSpec) false w args) (Rows.officeRefusedSpec.post enc Tryz.prog Tryz.f5 false true false false):=by
 refine qI (C:=Tryz.checked) (X:=λw=>laidMetH Tryz.prog Rows.officeRefusedRow.laid w) (λ_ _ hh h=>h.of_heap hh) Tryz.own started (by kernel_rfl) Tryz.func5
  (ChangeSpec.witness_shaped (enc:=enc) (C:=Tryz.checked) (os:=os) (X:=λw _=>laidMetH Tryz.prog Rows.officeRefusedRow.laid w) false (World.laidAll Tryz.prog os Rows.officeRefusedRow.laid) #[.slice none 0 0,.int .i64 0] 12 (World.laidAll_os _ _ _) (World.shaped_of_ZipB (by kernel_rfl)<|by kernel_rfl) (by kernel_rfl) (by kernel_rfl) (by kernel_rfl)
   (by rw[lZ _ _ _<|by kernel_rfl];exact laidMet_laidAll _ (by kernel_rfl)<|by kernel_rfl)) ?_
 intro W base args ds gs before hval hW hsh hL hz;have hT:Xo (FW W):=vd hL hsh;refine MF (P:=Tryz.prog) Tryz.laidOut (by kernel_rfl) rfl (by kernel_rfl) (by kernel_rfl:Tryz.f5.resultTypes=#[4]) Tryz.underlying4 (λds h=> ?_) base args ds gs before (λps hval hA hw=> ?_) hval hW hz
 ·match ds,h with
  | [d0,d1],_=>rfl
 ·rw[Tryz.params5] at hA hval hw
  obtain⟨v0,l0,d0,_,_,_,e0,rfl,_,t0,hA⟩:=trodAll_cons hA;have w0:=Ae hw
  replace hw:=Ad hw
  obtain⟨v1,l1,d1,_,_,_,e1,rfl,_,t1,hA⟩:=trodAll_cons hA;have w1:=Ae hw
  replace hw:=Ad hw
  obtain⟨e2,_,_⟩:=trodAll_nil hA;subst e2 e1;obtain rfl:args=[v0,v1].toArray:=by rw[<-e0]
  obtain⟨m0,p0,k0,o0,rfl,h0⟩:=ub Tryz.underlying22 Tryz.underlying9 (by kernel_rfl) (hval 0 _ _ rfl rfl) t0 w0;obtain⟨m1,o1,rfl⟩:=wv Tryz.underlying3 (hval 1 _ _ rfl rfl) t1;have hl:=law m0 m1 o0 o1;have hc:=GJ (FW W) hT m0 p0 k0 h0 m1;rw[hl] at hc
  exact hc
theorem S3(law:XV):Rows.OfficeRefusedSaid:=
 OpenClaim.holds_of_wide 5 Tryz.f5 rfl rfl rfl rfl rfl rfl rfl ⟨rfl,rfl,rfl,rfl,rfl⟩ rfl rfl rfl rfl rfl (by kernel_rfl) Tryz.func5 (by kernel_rfl)
  (nQ<|by kernel_rfl) (by unfold Func.isWrapper;first | (rw[T2<|by decide+kernel];kernel_rfl) | (rw[RW<|by decide+kernel];exact⟨rfl,rfl⟩))
  (λos started H enc _=>CO law os started H enc)
theorem AI(law:XV):Rows.OfficeRefusedCardSaid:=
 Claim7.holds_tied_plain_at .later [] [.data,.data,.data] true (true, "c3690034eadd7a36c941eea13291f4061a7740d19768c65b3e27dc31bc54f328") true (S3 law) (λ_ h=>by cases h) (by kernel_rfl) (λ_ h=>by cases h) officeRefused_row_tie rfl ⟨rfl,rfl⟩ (by kernel_rfl) rfl
  (λf fn hf hfn=>by
   obtain rfl:f=5:=u2 ((show Tryz.prog.funcNamed "wormtub/wormtublaw15.OfficeRefused"=some 5 by kernel_rfl).symm.trans hf) |>.symm;obtain rfl:fn=Tryz.f5:=(u2<|Tryz.func5.symm.trans hfn).symm
   exact⟨by kernel_rfl,λj t ht=>by
    have hall:(Tryz.f5.params.toList.all λu=> !Tryz.prog.wantsStandIn u)=true:=by kernel_rfl
    have hm:=Array.mem_of_getElem? ht;exact(show Tryz.prog.wantsStandIn t=false by first | (simp at hm;done) | simpa using List.all_eq_true.1 hall t (by simpa using hm))⟩)
  (by kernel_rfl)
end
section
theorem Aw:XV:=λl which h _=>EA l which h
theorem officeRefused_holds:Rows.OfficeRefusedCardSaid:=AI Aw
end
end Go.Proofs.YtijhfeohbhedkaaGreatDoor
end
