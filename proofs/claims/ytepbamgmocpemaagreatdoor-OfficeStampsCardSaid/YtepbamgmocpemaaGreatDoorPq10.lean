/- OfficeStamps is true whatever its inputs are: no condition but the row's own. -/
import Derived.Test.YtepbamgmocpemaaGreatDoorPq9
import Derived.Test.YtepbamgmocpemaaGreatDoorTie
import Derived.Test.YtepbamgmocpemaaGreatDoorCards
import Derived.ChangeMaps5
noncomputable section
namespace Go.Dec
abbrev lH:=@beq_eq_false_iff_ne
abbrev lT:=@Int.tmod_eq_emod_of_nonneg
abbrev lV:=@List.all_nil
abbrev lb:=@Int.natCast_add
abbrev eo:=@Int.natCast_one
abbrev oB:=@Nat.pow_le_pow_right
abbrev oM:=@or_false
abbrev oN:=@Nat.pow_succ
abbrev oc:=@UInt8.toNat_inj
abbrev om:=@bne_iff_ne
abbrev oq:=@MakeChecks.laidMetH_plain
abbrev o6:=@Nat.lt_irrefl
abbrev iH:=@Int.le_trans
abbrev ig:=@List.flatten_cons
abbrev il:=@Decidable.not_not
end Go.Dec
namespace Go.Proofs.YtepbamgmocpemaaGreatDoor.Bo
section
open Go.Dec
theorem wL(n:Nat)(h:n<=1000000):UT (n:Int)=some []:=by
 unfold UT;have e0:Q5 (0 - 0)=0:=by rw[Qn]<;>omega
 simp only[show ¬((n:Int) < 0) by omega,nk,By,T2,DO,QR,e0];rw[show((n:Int) - 0)=n by omega,Qn (by omega)<|by omega];by_cases hn:(n:Int) > 0
 ·simp only[hn,nc,Rw];have:L8 (n:Int)=some n:=by unfold L8;rw[TO<|by omega];simp
  rw[this];simp[ZW]
 ·simp only[hn,nk,By,T2,DO]
theorem jy(ls:UV (UV QB))(h:ls.flatten.length<=1000000)(h2:ls.length<=1000):Vo ls=some ls.flatten:=by
 unfold Vo
 have k1:=Dr (body:=Y0 ls) (fun(t:Int) i=>(t,(i:Int))) (λt _ x=>if Q5 (t+(x.length:Int)) < 0 then none else some (.next<|Q5<|t+(x.length:Int))) (λt=>t) ls
  (λt i x hx=>by
   have hi:=Zt hx;unfold Y0;simp only[Zw,hx,DO,QR];rw[Qn (n:=(i:Int)+1) (by omega)<|by omega];simp only[show(decide<|(i:Int) < (ls.length:Int))=true by simpa using hi,Rw];by_cases hc:Q5 (t+(x.length:Int)) < 0<;>simp[hc,UK.sk])
  (λt=>by unfold Y0;simp) 0
 have k2:=Dr (body:=Yz ls) (fun(t:UV QB) i=>(t,(i:Int))) (λt _ x=>(J3 t x).map .next) (λt=>t) ls
  (λt i x hx=>by
   have hi:=Zt hx;unfold Yz;simp only[Zw,hx,DO];rw[Qn (n:=(i:Int)+1) (by omega)<|by omega];simp only[show(decide<|(i:Int) < (ls.length:Int))=true by simpa using hi,Rw];cases J3 t x<;>simp[UK.sk])
  (λt=>by unfold Yz;simp) []
 simp only[nR] at k1 k2
 have g1:∀(l:UV (UV QB)) (i:Nat) (t:Int),0<=t->t+l.flatten.length<=1000000->Rv (fun(t:Int) _ (x:UV QB)=>if Q5 (t+(x.length:Int)) < 0 then none else some (.next<|Q5<|t+(x.length:Int))) (λt=>t) l i t=some (t+l.flatten.length):=by
  intro l
  induction l with
  | nil=>intro i t h0 h1;simp[Rv]
  | cons x l ih=>
   intro i t h0 h1;simp only[ig,nH,lb] at h1
   have e:Q5 (t+(x.length:Int))=t+x.length:=Qn (by omega) (by omega);simp only[Rv,e,show ¬(t+(x.length:Int) < 0) by omega,T2];rw[ih _ _ (by omega)<|by omega];simp;omega
 have g2:∀(l:UV (UV QB)) (i:Nat) (t:UV QB),t.length+l.flatten.length<=1000000->Rv (λt _ x=>(J3 t x).map .next) (λt=>t) l i t=some (t++l.flatten):=by
  intro l
  induction l with
  | nil=>intro i t h0;simp[Rv]
  | cons x l ih=>
   intro i t h1;simp only[ig,nH] at h1
   have e:J3 t x=some (t++x):=by unfold J3;rw[TO<|by omega]
   simp only[Rv,e,x7];rw[ih _ _ (by rw[nH];omega)];simp
 rw[k1,g1 ls 0 0 (by omega)<|by omega];simp only[DO,Int.zero_add];rw[wL _ h];simp only[DO];rw[k2,g2 ls 0 []<|by simpa using h];simp
def zF(x:QB):Prop:=0<=x.Lo/\x.Lo<=x.Hi/\x.Hi<=1099511627776
def L6(t:QB)(i:Nat)(y:QB):H1 (UK QB<|Int×QB):=if y.Lo<=t.Hi+1 then some (.next<|QB.mk (Jj t.Lo y.Lo)<|imax t.Hi y.Hi) else some (.done ((i:Int),t))
theorem Nu:∀(r:UV QB) (i:Nat) (x:QB),XB r->zF x->(∀y∈r,x.Lo<=y.Hi+1)->
  ∃r1 r2 x',r=r1++r2/\Rv L6 (λt=>((i+r.length:Nat),t)) r i x=some (((i+r1.length:Nat):Int),x')/\zF x'/\(∀z∈r2,x'.Hi+1 < z.Lo)/\(∀n,Rt x' n↔Rt x n∨mem r1 n)/\(∀b,b < x.Lo->(∀y∈r,b < y.Lo)->b < x'.Lo)
 | [],i,x,_,hx,_=>⟨[],[],x,rfl,by simp[Rv],hx,by simp,λn=>by simp[mem],λb hb _=>hb⟩
 | y::r,i,x,hr,hx,hy=>by
  have oy:=hr.ok y (by simp);have hy0:=hy y (by simp);have hap:=(aT.1 hr.apart).1;by_cases hc:y.Lo<=x.Hi+1
  ·have ox:zF (QB.mk (Jj x.Lo y.Lo)<|imax x.Hi y.Hi):=by
    simp only[zF,Jj,imax] at hx ⊢
    split<;>split<;>omega
   obtain⟨r1,r2,x',e,hg,h1,h2,h3,h4⟩:=Nu r (i+1) (QB.mk (Jj x.Lo y.Lo)<|imax x.Hi y.Hi) hr.tail ox λz hz=>by
    have:=hap z hz;have oz:=hr.ok z (by simp[hz]);have:=hy z (by simp[hz]);show Jj x.Lo y.Lo<=z.Hi+1;simp only[Jj];split<;>omega
   refine⟨y::r1,r2,x',by rw[e];rfl,?_,h1,h2,λn=> ?_,λb hb hbr=> ?_⟩
   ·simp only[Rv,L6,hc,Rw];rw[show(i+(y::r).length)=(i+1+r.length) by simp;omega,show(i+(y::r1).length)=(i+1+r1.length) by simp;omega];exact hg
   ·rw[h3 n,mem_cons];simp only[zF] at hx
    simp only[Rt,Jj,imax];constructor
    ·rintro(h | h)
     ·by_cases h5:x.Lo<=n/\n<=x.Hi
      ·exact .inl h5
      ·refine .inr<|.inl ?_;split at h<;>split at h<;>omega
     ·exact .inr<|.inr h
    ·rintro(h | h | h)
     ·left;split<;>split<;>omega
     ·left;split<;>split<;>omega
     ·exact .inr h
   ·apply h4
    ·have:=hbr y (by simp);show b < Jj x.Lo y.Lo;simp only[Jj];split<;>omega
    ·exact λz hz=>hbr z<|by simp[hz]
  ·refine⟨[],y::r,x,rfl,?_,hx,λz hz=> ?_,λn=>by simp[mem],λb hb _=>hb⟩
   ·simp only[Rv,L6,hc,T2];simp
   ·rcases j9.1 hz with rfl | hz
    ·omega
    ·have:=hap z hz;omega
theorem R5(f:QB->Bool):∀(r:UV QB) (i:Nat),Rv (fun(_:Unit) i x=>if f x then some (.next ()) else some (.done (i:Int))) (λ_=>((i+r.length:Nat):Int)) r i ()=some ((i+(r.takeWhile f).length:Nat):Int)
 | [],i=>by simp[Rv]
 | x::r,i=>by
  cases hf:f x with
  | true=>
   simp only[Rv,hf,Rw,lX,s6];have:=R5 f r<|i+1;rw[show i+(r.length+1)=i+1+r.length by omega,show i+((r.takeWhile f).length+1)=i+1+(r.takeWhile f).length by omega];exact this
  | false=>simp[Rv,hf]
theorem LQ{s:UV QB}{x:QB}(hn:XB s)(hl:s.length<=1000)(hx:zF x):∃s',VC s x=some s'/\XB s'/\s'.length<=s.length+1/\∀n,mem s' n↔mem s n∨Rt x n:=by
 unfold VC;have hx' :=hx;simp only[zF] at hx'
 have k1:=Dr (body:=VS s x) (fun(_:Unit) i=>(i:Int)) (λ_ i y=>if decide (y.Hi < x.Lo - 1) then some (.next ()) else some (.done (i:Int))) (λ_=>((0+s.length:Nat):Int)) s
  (λt i y hy=>by
   have hi:=Zt hy;unfold VS;simp only[Zw,hy,DO,QR];rw[Qn (n:=(i:Int)+1) (by omega) (by omega),Qn (n:=x.Lo - 1) (by omega)<|by omega];simp only[show(decide<|(i:Int) < (s.length:Int))=true by simpa using hi,Rw,DO];by_cases hc:y.Hi < x.Lo - 1<;>simp[hc,UK.sk])
  (λt=>by unfold VS;simp) ()
 simp only[nR] at k1
 rw[k1,R5];simp only[DO,nl];generalize hw:(λy:QB=>decide<|y.Hi < x.Lo - 1)=f;generalize hs1:s.takeWhile f=s1;generalize hs2:s.dropWhile f=s2;have hs:s=s1++s2:=by rw[<-hs1,<-hs2,List.takeWhile_append_dropWhile]
 have hsp:=hs▸hn;obtain⟨n1,n2,n12⟩:=hsp.split
 have h1:∀y∈s1,y.Hi < x.Lo - 1:=by
  intro y hy;rw[<-hs1] at hy
  have:=List.all_takeWhile (p:=f) (l:=s);rw[s7] at this
  have:=this y hy;rw[<-hw] at this
  simpa using this
 have h2:∀y∈s2,x.Lo<=y.Hi+1:=by
  intro y hy;cases h:s2 with
  | nil=>rw[h] at hy;cases hy
  | cons z r=>
   have hz:¬z.Hi < x.Lo - 1:=by
    have:=List.head?_dropWhile_not (p:=f) (l:=s);rw[hs2,h] at this
    simp at this
    rw[<-hw] at this
    simpa using this
   rw[h] at hy n2
   rcases j9.1 hy with rfl | hy
   ·omega
   ·have:=(aT.1 n2.apart).1 y hy;have oy:=n2.ok y (by simp[hy]);have oz:=n2.ok z (by simp);omega
 obtain⟨r1,r2,x',er,hg,hx1,hx2,hx3,hx4⟩:=Nu s2 s1.length x n2 hx h2
 have k2:=AI (body:=VR s) (fun(t:QB) i=>((i:Int),t)) L6 (λt=>(((s1.length+s2.length:Nat):Int),t)) s (λ_ t=>zF t)
  (λt i y hy ot=>by
   have hi:=Zt hy;have oy:zF y:=hn.ok y<|s8 hy;simp only[zF] at ot oy
   unfold VR L6;simp only[Zw,hy,DO,QR];rw[Qn (n:=(i:Int)+1) (by omega) (by omega),Qn (n:=t.Hi+1) (by omega)<|by omega];simp only[show(decide<|(i:Int) < (s.length:Int))=true by simpa using hi,Rw,DO];by_cases hc:y.Lo<=t.Hi+1<;>simp[hc,UK.sk])
  (λt i y t' hy ot h=>by
   have oy:zF y:=hn.ok y<|s8 hy;unfold L6 at h
   split at h
   ·simp only[BY,UK.next.injEq] at h
    subst h;simp only[zF,Jj,imax] at ot oy ⊢
    split<;>split<;>omega
   ·simp at h)
  (λt _=>by unfold VR;rw[hs];simp) s2.length s1.length x (by rw[hs];simp) hx
 have hd:s.drop s1.length=s2:=by rw[hs];simp
 rw[k2,hd,hg];simp only[DO];have hlen:s.length=s1.length+r1.length+r2.length:=by rw[hs,er];simp;omega
 have e1:ZW s 0 (s1.length:Int)=some s1:=by
  unfold ZW;rw[TO<|by omega];rw[hs];simp
 have e2:ZW s ((s1.length+r1.length:Nat):Int) (s.length:Int)=some r2:=by
  unfold ZW;rw[TO<|by omega];simp only[nW];rw[hs,er];congr 1;rw[<-ij,lJ<|by simp];rw[ef (by simp),mN];apply s5;simp only[nH];omega
 rw[e1,e2];simp only[DO];rw[jy _ (by simp;omega)<|by simp];refine⟨s1++x' ::r2,by simp,?_,by simp;omega,λn=> ?_⟩
 ·rw[er] at n2 n12
  obtain⟨m1,m2,m12⟩:=n2.split;refine n1.append (m2.si hx1 hx2) λa ha b hb=> ?_;rcases j9.1 hb with rfl | hb
  ·have oa:=n1.ok a ha;apply hx4
   ·have:=h1 a ha;omega
   ·intro y hy;rw[er] at hy
    exact n12 a ha y hy
  ·exact n12 a ha b<|by simp[hb]
 ·rw[mem_append,mem_cons,hx3,hs,er,mem_append,mem_append];constructor
  ·rintro(h | (h | h) | h)
   ·exact .inl<|.inl h
   ·exact .inr h
   ·exact .inl<|.inr<|.inl h
   ·exact .inl<|.inr<|.inr h
  ·rintro((h | h | h) | h)
   ·exact .inl h
   ·exact .inr<|.inl<|.inr h
   ·exact .inr<|.inr h
   ·exact .inr<|.inl<|.inl h
end
section
open Go.Dec
theorem BE{α:Type}{l k:UV α}(h:l.length+k.length<=4294967296):J3 l k=some (l++k):=by
 unfold J3;rw[TO h]
theorem uI{α:Type}(x:α):J3 [] [x]=some [x]:=by
 unfold J3;rw[TO<|by simp];rfl
theorem vH{n:Int}(h0:0<=n)(h:n<=4294967296):xj 0 n=some 0:=by
 unfold xj;rw[TO<|by omega];simp only[oD]
theorem Eg{s:UV QB}{x:QB}(hn:XB s)(hl:s.length<=1000)(hx:zF x)(hc:∀n,Rt x n->mem s n):∃s',Yt s x=some s'/\XB s'/\s'.length<=s.length+1/\∀n,mem s' n↔mem s n/\¬Rt x n:=by
 unfold Yt;have hx' :=hx;simp only[zF] at hx'
 obtain⟨y0,hy0,hy1⟩:=(MI hn hx'.2.1).2 hc;generalize hf:(λy=>KO y x)=f;rw[show(λz=>some<|KO z x)=λz=>some (f z) by rw[<-hf]];rw[B6 s f<|by omega]
 have hex:∃i,s.findIdx? f=some i:=by
  cases h:s.findIdx? f with
  | some i=>exact⟨i,rfl⟩
  | none=>
   rw[o3] at h
   have:=h y0 hy0;rw[<-hf] at this
   simp[KO] at this
   omega
 obtain⟨i,hi⟩:=hex;rw[hi];rw[oL] at hi
 obtain⟨hlt,hfi,_⟩:=hi;generalize hy:s[i]=y at hfi
 have hcov:y.Lo<=x.Lo/\x.Hi<=y.Hi:=by
  rw[<-hf] at hfi;simpa[KO] using hfi
 have hs:s=s.take i++y::s.drop (i+1):=by
  rw[<-hy,<-nD hlt,ln]
 have hget:s[i]? =some y:=by rw[<-hy];exact Nm hlt
 have oy:=hn.ok y<|s8 hget;simp only[DO,Zw,hget];rw[Qn (n:=x.Lo - 1) (by omega) (by omega),Qn (n:=x.Hi+1) (by omega) (by omega),Qn (n:=(s.length:Int)+1) (by omega) (by omega),Qn (n:=(i:Int)+1) (by omega)<|by omega];have hm:xj 0 ((s.length:Int)+1)=some 0:=vH (by omega) (by omega);have hs0:ZW s 0 (i:Int)=some (s.take i):=by unfold ZW;rw[TO<|by omega];simp
 have hs1:ZW s ((i:Int)+1) (s.length:Int)=some (s.drop<|i+1):=by
  unfold ZW;rw[TO<|by omega];rw[show((i:Int)+1).toNat=i+1 by omega,s5<|by simp]
 have ht:(s.take i).length=i:=by simp;omega
 have hdl:(s.drop<|i+1).length=s.length - (i+1):=by simp
 generalize hta:s.take i=a at*
 generalize htb:s.drop (i+1)=b at*
 obtain⟨na,nyb,nab⟩:=(hs▸hn:XB (a++y::b)).split;have nb:=nyb.tail;have yb:=(aT.1 nyb.apart).1;generalize hl1:(if x.Hi < y.Hi then[QB.mk (x.Hi+1) y.Hi] else[])=pr;generalize hl2:(if y.Lo < x.Lo then[QB.mk y.Lo<|x.Lo - 1] else[])=pl
 have run:((if decide (y.Lo < x.Lo)=true then(some y).bind λx46=>(J3 [] [QB.mk x46.Lo<|x.Lo - 1]).bind λl_62=>some l_62 else some []):H1 (UV QB))=some pl:=by
  rw[<-hl2];by_cases h:y.Lo < x.Lo
  ·simp only[h,nc,Rw,DO,uI]
  ·simp[h]
 have hpl:pl.length<=1:=by rw[<-hl2];split<;>simp
 have hpr:pr.length<=1:=by rw[<-hl1];split<;>simp
 have run2:((if decide (x.Hi < y.Hi)=true then(some y).bind λx140=>(J3 pl [QB.mk (x.Hi+1) x140.Hi]).bind λl_156=>some l_156 else some pl):H1 (UV QB))=some (pl++pr):=by
  rw[<-hl1];by_cases h:x.Hi < y.Hi
  ·simp only[h,nc,Rw,DO];rw[BE (by simp only[s6,nG];omega)];simp only[DO]
  ·simp[h]
 simp only[DO] at run run2
 suffices hrun:∀z,z=a++(pl++pr)++b->∃s',some z=some s'/\XB s'/\s'.length<=s.length+1/\∀n,mem s' n↔mem s n/\¬Rt x n by
  refine Exists.imp (λs' h=>⟨Eq.trans ?_ h.1,h.2⟩)<|hrun _ rfl;refine ZR run<|ZR run2<|ZR hm<|ZR hs0<|ZR (a:=a) ?_<|ZR (a:=a++(pl++pr)) ?_<|ZR hs1<|ZR (a:=a++(pl++pr)++b) ?_ rfl
  ·rw[List.replicate_zero,BE (by simp only[nG];omega)];rfl
  ·exact BE (by simp only[nH];omega)
  ·exact BE (by simp only[nH];omega)
 intro z hz;subst hz
 have mpl:∀n,mem pl n↔y.Lo<=n/\n < x.Lo:=by
  intro n;rw[<-hl2];split
  ·simp only[mem_cons,Sd,oM,Rt];omega
  ·simp only[Sd,false_iff];omega
 have mpr:∀n,mem pr n↔x.Hi < n/\n<=y.Hi:=by
  intro n;rw[<-hl1];split
  ·simp only[mem_cons,Sd,oM,Rt];omega
  ·simp only[Sd,false_iff];omega
 have npl:XB pl:=by
  rw[<-hl2];split
  ·exact XB.nil.si (by simp only;omega)<|by simp
  ·exact XB.nil
 have npr:XB pr:=by
  rw[<-hl1];split
  ·exact XB.nil.si (by simp only;omega)<|by simp
  ·exact XB.nil
 have bpl:∀z∈pl,z.Lo=y.Lo/\z.Hi=x.Lo - 1:=by
  intro z hz;rw[<-hl2] at hz;split at hz
  ·simp at hz;subst hz;simp
  ·simp at hz
 have bpr:∀z∈pr,z.Lo=x.Hi+1/\z.Hi=y.Hi:=by
  intro z hz;rw[<-hl1] at hz;split at hz
  ·simp at hz;subst hz;simp
  ·simp at hz
 refine⟨_,rfl,?_,?_,λn=> ?_⟩
 ·refine((na.append (npl.append npr ?_) ?_).append nb ?_)
  ·intro p hp q hq;have:=bpl p hp;have:=bpr q hq;omega
  ·intro p hp q hq;have h1:=nab p hp y (by simp);rcases mH.1 hq with hq | hq
   ·have:=bpl q hq;omega
   ·have:=bpr q hq;omega
  ·intro p hp q hq;have h1:=yb q hq;rcases mH.1 hp with hp | hp
   ·exact nab p hp q<|by simp[hq]
   ·rcases mH.1 hp with hp | hp
    ·have:=bpl p hp;omega
    ·have:=bpr p hp;omega
 ·simp only[nH];omega
 ·rw[mem_append,mem_append,mem_append,mpl,mpr,hs,mem_append,mem_cons];simp only[Rt];constructor
  ·rintro((h | h | h) | h)
   ·refine⟨.inl h,?_⟩;obtain⟨z,hz,hm⟩:=h;have:=nab z hz y (by simp);simp only[Rt] at hm;omega
   ·exact⟨.inr (.inl<|by omega),by omega⟩
   ·exact⟨.inr (.inl<|by omega),by omega⟩
   ·refine⟨.inr<|.inr h,?_⟩;obtain⟨z,hz,hm⟩:=h;have:=yb z hz;simp only[Rt] at hm;omega
  ·rintro⟨h | h | h,hno⟩
   ·exact .inl<|.inl h
   ·by_cases hlt:n < x.Lo
    ·exact .inl<|.inr<|.inl ⟨h.1,hlt⟩
    ·exact .inl<|.inr<|.inr ⟨by omega,h.2⟩
   ·exact .inr h
def has(e:QH)(n:Int):Prop:=e.First<=n/\n<=e.Last
instance(e:QH) (n:Int):Decidable (has e n):=by unfold has;infer_instance
def cur:UV QH->Int->H1 QH:=λl n=>l.foldl (λo e=>if has e n then some e else o) none
def hand(l:UV QH)(n:Int):Prop:=∃e,cur l n=some e/\e.Kind=0
theorem kb(n:Int):cur [] n=none:=rfl
theorem GD(l:UV QH)(e:QH)(n:Int):cur (l++[e]) n=if has e n then some e else cur l n:=by simp[cur]
theorem EG(l:UV QH)(e:QH)(n:Int):hand (l++[e]) n↔if has e n then e.Kind=0 else hand l n:=by
 unfold hand;rw[GD];split<;>simp
def uY(x:QH):Bool:=UQ x
theorem Ro(x:QH):uY x=true↔(0<=x.Kind/\x.Kind<=3)/\(x.Kind=1->0<=x.Batch/\x.Batch<=1073741824)/\0<=x.First/\x.First<=x.Last/\x.Last<=1099511627776:=by
 simp only[uY,UQ,QW,Ka,AT,nq,IR,om,ne_eq];constructor
 ·rintro⟨⟨h1,h2⟩,h3⟩;refine⟨by omega,λh=> ?_,by omega⟩;rcases h2 with h2 | h2
  ·exact absurd h h2
  ·omega
 ·rintro⟨h1,h2,h3⟩;refine⟨⟨by omega,?_⟩,by omega⟩;by_cases h:x.Kind=1
  ·right;have:=h2 h;omega
  ·left;exact h
open Classical in
def V6(pre:UV QH)(x:QH):Int:=if uY x=false then 1 else if x.Kind=0/\∃n,has x n/\cur pre n≠none then 5 else if x.Kind≠0/\∃n,has x n/\¬hand pre n then 4 else 0
structure Inv(pre:List QH)(t:Q7×Ue×Int):Prop where
 ni:XB t.2.1.issued
 nh:XB t.2.1.hand
 li:t.2.1.issued.length<=pre.length
 lh:t.2.1.hand.length<=pre.length
 mi:∀n,mem t.2.1.issued n↔cur pre n≠none
 mh:∀n,mem t.2.1.hand n↔hand pre n
def amount(x:QH):Int:=Q5<|Q5 (x.Last - x.First)+1
def yB(b:Q7)(x:QH):Q7:=if x.Kind=1 then{b with Stuck:=Q5 (b.Stuck+amount x)} else if x.Kind=2 then{b with Spoiled:=Q5 (b.Spoiled+amount x)} else if x.Kind=3 then{b with Returned:=Q5 (b.Returned+amount x)} else b
def qg:UV QH->Q7:=λl=>l.foldl yB<|Q7.mk [] 0 0 0
theorem SX(l:UV QH)(x:QH):qg (l++[x])=yB (qg l) x:=by simp[qg]
theorem CY{l pre post:UV QH}{x:QH}{t:Q7×Ue×Int}(hl:l=pre++x::post)(h256:l.length<=256)(hI:Inv pre t)(hB:t.1=qg pre):(V6 pre x≠0/\Y7 l ((pre.length:Int),t)=some (.done<|.inr (Q7.mk [] 0 0 0,(pre.length:Int),V6 pre x)))∨
  (V6 pre x=0/\∃t',Y7 l ((pre.length:Int),t)=some (.next (((pre.length+1:Nat):Int),t'))/\Inv (pre++[x]) t'/\t'.1=qg (pre++[x])):=by
 have hget:l[pre.length]? =some x:=by rw[hl];simp
 have hlen:pre.length < l.length:=by rw[hl];simp
 unfold Y7;simp only[Zw,hget,DO,show(decide<|(pre.length:Int) < (l.length:Int))=true by simpa using hlen,Rw];by_cases hok:uY x=true
 ·have hok' :UQ x=true:=hok;obtain⟨hk,_,hx0,hx1,hx2⟩:=(Ro x).1 hok;have hxs:zF (QB.mk x.First x.Last):=⟨hx0,hx1,hx2⟩;have hin:∀n,Rt (QB.mk x.First x.Last) n↔has x n:=λn=>ik;have l1:=hI.li;have l2:=hI.lh;simp only[hok',x6,By,T2];rw[Qn (n:=(pre.length:Int)+1) (by omega)<|by omega];by_cases hk0:x.Kind=0
  ·
    obtain⟨bo,ho,hb⟩:=Ie (s:=t.2.1.issued) (x:=QB.mk x.First x.Last) (by omega) hI.ni hx1;simp only[hk0,mf,Rw,ho,DO];cases hbo:bo with
    | true=>
     left
     have:V6 pre x=5:=by
      unfold V6;rw[RW (by simp[hok]),TO];refine⟨hk0,?_⟩;obtain⟨n,h1,h2⟩:=hb.1 hbo;exact⟨n,h1,(hI.mi n).1 h2⟩
     rw[this];simp
    | false=>
     right;have hno:¬∃n,Rt (QB.mk x.First x.Last) n/\mem t.2.1.issued n:=λh=>by have:=hb.2 h;rw[hbo] at this;cases this
     have herr:V6 pre x=0:=by
      unfold V6;rw[RW (by simp[hok]),RW,RW<|by simp[hk0]];rintro⟨_,n,h1,h2⟩;exact hno ⟨n,h1,(hI.mi n).2 h2⟩
     obtain⟨s1,e1,n1,PN,m1⟩:=LQ hI.ni (by omega) hxs;obtain⟨s2,e2,n2,Ra,m2⟩:=LQ hI.nh (by omega) hxs;simp only[By,T2,e1,e2,DO,QR];refine⟨herr,_,rfl,⟨n1,n2,by simp;omega,by simp;omega,λn=> ?_,λn=> ?_⟩,?_⟩
     ·rw[m1,GD,hI.mi,hin];split<;>simp_all
     ·rw[m2,EG,hI.mh,hin];split<;>simp_all
     ·rw[SX];simp only[yB,hk0];simpa using hB
  ·
    have hkb:(x.Kind==0)=false:=by simpa using hk0
    simp only[hkb,By,T2,DO];obtain⟨bo,ho,hb⟩:=ju (s:=t.2.1.hand) (x:=QB.mk x.First x.Last) (by omega) hI.nh hx1;simp only[ho,DO];cases hbo:bo with
    | false=>
     left;have hno:¬∀n,Rt (QB.mk x.First x.Last) n->mem t.2.1.hand n:=λh=>by have:=hb.2 h;rw[hbo] at this;cases this
     have:V6 pre x=4:=by
      unfold V6;rw[RW (by simp[hok]),RW (by simp[hk0]),TO];refine⟨hk0,?_⟩;obtain⟨n,hn⟩:=Classical.not_forall.1 hno;obtain⟨h1,h2⟩:=Classical.not_imp.1 hn;exact⟨n,h1,λh3=>h2<|(hI.mh n).2 h3⟩
     rw[this];simp
    | true=>
     right;have hall:=hb.1 hbo
     have herr:V6 pre x=0:=by
      unfold V6;rw[RW (by simp[hok]),RW (by simp[hk0]),RW];rintro⟨_,n,h1,h2⟩;exact h2<|(hI.mh n).1<|hall n h1
     obtain⟨s2,e2,n2,Ra,m2⟩:=Eg hI.nh (by omega) hxs hall;simp only[x6,By,T2,e2,DO,QR]
     have hcur:∀n,has x n->cur pre n≠none:=λn h=>by
      have:=(hI.mh n).1<|hall n h;obtain⟨e,he,_⟩:=this;rw[he];simp
     have inv' :∀(b:Q7) (z:Int),Inv (pre++[x]) (b,{t.2.1 with hand:=s2},z):=λb z=>by
      refine⟨hI.ni,n2,by simp;omega,by simp;omega,λn=> ?_,λn=> ?_⟩
      ·show mem t.2.1.issued n↔_;rw[GD,hI.mi];split
       ·rename_i h;simp[hcur n h]
       ·rfl
      ·show mem s2 n↔_;rw[m2,EG,hI.mh,hin];split
       ·rename_i h;simp[h,hk0]
       ·rename_i h;simp[h]
     have hcase:x.Kind=1∨x.Kind=2∨x.Kind=3:=by omega
     rcases hcase with hk1 | hk1 | hk1
     ·simp only[hk1,show VJ 4 1=some 1 from rfl,DO,show((1:Nat)==0)=false from rfl,By,T2,mf,Rw];exact⟨herr,_,rfl,inv' _ _,by rw[SX,<-hB];simp[yB,hk1,amount]⟩
     ·simp only[hk1,show VJ 4 2=some 2 from rfl,DO,show((2:Nat)==0)=false from rfl,show((2:Nat)==1)=false from rfl,By,T2,mf,Rw];exact⟨herr,_,rfl,inv' _ _,by rw[SX,<-hB];simp[yB,hk1,amount]⟩
     ·simp only[hk1,show VJ 4 3=some 3 from rfl,DO,show((3:Nat)==0)=false from rfl,show((3:Nat)==1)=false from rfl,show((3:Nat)==2)=false from rfl,By,T2];exact⟨herr,_,rfl,inv' _ _,by rw[SX,<-hB];simp[yB,hk1,amount]⟩
 ·left;have hok' :UQ x=false:=by simpa[uY] using hok
  have:V6 pre x=1:=by unfold V6;rw[TO<|by simpa using hok]
  rw[this];simp[hok']
end
section
open Go.Dec
variable{l:UV QH}
def zK:Q7:=Q7.mk [] 0 0 0
theorem P5(l:UV QH)(h:l.length<=256):(∃p x,SU V6 l p x/\YK l=some (zK,(p.length:Int),V6 p x))∨
  (Wa V6 l/\∃hd,XB hd/\(∀n,mem hd n↔hand l n)/\hd.length<=l.length/\YK l=some ({qg l with Hand:=hd},(l.length:Int),0)):=by
 unfold YK;simp only[show ¬((l.length:Int) > 256) by omega,nk,By,T2]
 have key:=G4 (body:=Y7 l) (λi (t:Q7×Ue×Int)=>((i:Int),t)) V6 (λi e=>.inr (zK,(i:Int),e)) (λt=>.inl (t.1,t.2.1,t.2.2)) (λpre t=>Inv pre t/\t.1=qg pre) l
  (λpre x post t hl _ ht=>by
   rcases CY hl h ht.1 ht.2 with⟨h1,h2⟩ | ⟨h1,t',h2,h3,h4⟩
   ·exact .inl ⟨h1,h2⟩
   ·exact .inr ⟨h1,t',h2,h3,h4⟩)
  (λt _ _=>by unfold Y7;simp)
  l [] (zK,Ue.mk [] [],0) rfl Wa.nil ⟨⟨XB.nil,XB.nil,by simp,by simp,λn=>by simp[Sd,kb],λn=>by simp[Sd,hand,kb]⟩,rfl⟩
 simp only[nG,nR] at key
 rcases key with⟨p,x,hb,hr⟩ | ⟨ho,t,⟨hI,hB⟩,hr⟩
 ·refine .inl ⟨p,x,hb,?_⟩;refine ZR hr ?_;rfl
 ·refine .inr ⟨ho,t.2.1.hand,hI.nh,hI.mh,hI.lh,?_⟩;refine ZR hr ?_
  have hc:UI t.2.1.hand=some t.2.1.hand:=by
   unfold UI;have:=hI.lh;rw[BE (by simp only[nG];omega)];simp
  simp only[hc,DO,QR,hB]
theorem MC{pre:UV QH}{x:QH}(h:V6 pre x=0):uY x=true/\(x.Kind=0->∀n,has x n->cur pre n=none)/\(x.Kind≠0->∀n,has x n->hand pre n):=by
 unfold V6 at h
 split at h
 ·cases h
 ·rename_i h1;split at h
  ·cases h
  ·rename_i h2;split at h
   ·cases h
   ·rename_i h3;refine⟨by simpa using h1,λhk n hn=> ?_,λhk n hn=> ?_⟩
    ·apply mX;exact λhc=>h2 ⟨hk,n,hn,hc⟩
    ·apply mX;exact λhc=>h3 ⟨hk,n,hn,hc⟩
theorem kI{x:QH}(h:Wa V6 (l++[x])):V6 l x=0:=h l x [] rfl
theorem Oz(n:Int)(l:UV QH):Wa V6 l->l.find? (λe=>decide<|e.Kind=1/\has e n)=(cur l n).filter (λe=>decide<|e.Kind=1):=by
 induction l using CZ with
 | h0=>intro _;rfl
 | hs l x ih=>
  intro h;have ih:=ih h.init;obtain⟨_,h0,h1⟩:=MC<|kI h;rw[List.find?_append,GD,ih];by_cases hn:has x n
  ·by_cases hk:x.Kind=0
   ·simp[h0 hk n hn,hn,hk,Option.filter]
   ·obtain⟨e,he,hek⟩:=h1 hk n hn;rw[he];by_cases hk1:x.Kind=1
    ·simp[hek,hn,hk1,Option.filter]
    ·simp[hek,hn,hk1,Option.filter]
  ·simp[hn]
def P1(l:UV QH)(n:Int):Int×Int:=match(cur l n).filter (λe=>decide<|e.Kind=1) with | some e=>(e.Batch,0) | none=>(0,4)
theorem AZ(l:UV QH)(n:Int)(h:l.length<=256):ZQ (UR l n) 0=some (match l.find? (λe=>decide<|e.Kind=1/\has e n) with | some e=>.inr (e.Batch,0) | none=>.inl ()):=by
 have key:=Dr (body:=UR l n) (fun(_:Unit) i=>(i:Int)) (λ_ _ x=>if decide (x.Kind=1/\has x n) then some (.done<|.inr (x.Batch,0)) else some (.next ())) (λ_=>.inl ()) l
  (λt i x hx=>by
   have hi:=Zt hx;unfold UR;simp only[Zw,hx,DO];rw[Qn (by omega)<|by omega];simp only[show(decide<|(i:Int) < (l.length:Int))=true by simpa using hi,Rw]
   have e:(x.Kind==1&&QW n x.First x.Last)=decide (x.Kind=1/\has x n):=by
    rw[lO,decide_eq_true_iff];simp only[AT,mB,QW,IR,eD];exact ik
   rw[e];by_cases hc:x.Kind=1/\has x n<;>simp[hc,UK.sk])
  (λt=>by unfold UR;simp) ()
 simp only[nR] at key
 rw[key]
 clear key h
 generalize 0=i
 induction l generalizing i with
 | nil=>rfl
 | cons x l ih=>
  simp only[Rv,ma];by_cases hc:x.Kind=1/\has x n
  ·simp[hc]
  ·simp only[hc,nk,By,T2];exact ih<|i+1
theorem qZ(n:Int)(h:l.length<=256)(ho:Wa V6 l):Vs l n=some (P1 l n):=by
 unfold Vs;rcases P5 l h with⟨p,x,hb,_⟩ | ⟨_,hd,_,_,_,hr⟩
 ·exact absurd ho hb.pd
 ·refine ZR hr ?_;simp only[eP,By,T2];rw[AZ l n h,Oz n l ho];unfold P1;cases(cur l n).filter (λe=>decide<|e.Kind=1)<;>simp
theorem jA(n:Int){b:Q7}{i e:Int}(h:YK l=some (b,i,e))(he:e≠0):Vs l n=some (0,e):=by
 unfold Vs;refine ZR h ?_;simp only[show(e != 0)=true by simpa using he,Rw]
end
section
open Go.Dec
theorem Ry(x:Int):ZI x=true↔0<=x/\x<=65536:=by
 simp only[ZI,QW,AT,IR,eD]
theorem LV(p:Int)(hp:0<=p):∀l:UV Int,(∀x∈l,0<=x/\x<=p)->0<=l.sum/\l.sum<=p*l.length
 | [],_=>by simp
 | x::l,h=>by
  have h1:=h x (by simp);have h2:=LV p hp l λy hy=>h y (by simp[hy]);rw[List.sum_cons,s6,lb,iN];simp only[eo,Int.mul_one];omega
theorem yl(l:UV Int)(hl:l.length<=1000):Xd l=some (if l.all ZI then(l.sum,true) else(0,false)):=by
 unfold Xd
 have key:=G4 (body:=XZ l) (λi (t:Int)=>(t,(i:Int))) (λ_ x=>if ZI x then 0 else 1) (λ_ _=>.inr (0,false)) (λt=>.inl t) (λpre t=>t=pre.sum) l
  (λpre x post t hl' ho ht=>by
   have hg:=VD hl';have hi:=XQ hl';unfold XZ;simp only[Zw,hg,DO,QR];rw[Qn (n:=(pre.length:Int)+1) (by omega)<|by omega];simp only[show(decide<|(pre.length:Int) < (l.length:Int))=true by simpa using hi,Rw];cases hx:ZI x with
   | false=>left;simp
   | true=>
    right;have hx' :=(Ry x).1 hx
    have hall:∀y∈pre,0<=y/\y<=65536:=by
     intro y hy;obtain⟨s,r,rfl⟩:=mr hy;have:=ho s y r rfl;cases hd:ZI y with
     | true=>exact(Ry y).1 hd
     | false=>simp[hd] at this
    have hb:=LV 65536 (by omega) pre hall;refine⟨by simp,t+x,?_,by rw[ht];simp⟩;simp only[x6,By,T2];rw[Qn (by omega)<|by omega];simp)
  (λt _ _=>by unfold XZ;simp) l [] 0 rfl Wa.nil rfl
 simp only[nG,nR] at key
 rcases key with⟨p,x,⟨post,e,_,hx⟩,hr⟩ | ⟨ho,t,ht,hr⟩
 ·have:l.all ZI=false:=by
   rw[e,mV,nZ];cases hd:ZI x with
   | true=>simp[hd] at hx
   | false=>simp
  rw[this];exact ZR hr rfl
 ·have:l.all ZI=true:=by
   rw[s7];intro y hy;obtain⟨s,r,rfl⟩:=mr hy;have:=ho s y r rfl;cases hd:ZI y with
   | true=>rfl
   | false=>simp[hd] at this
  rw[this];exact ZR hr (by rw[ht];rfl)
def ua(d:Qq):Bool:=
 (Fm 8 d.From.Woods).all ZI&&(Fm 8 d.From.Places).all ZI&&ZI d.From.Age&&decide (d.From.Age≥imax (Fm 8 d.From.Woods).sum (Fm 8 d.From.Places).sum)&&
 QW d.From.Number 0 1073741824&&QW d.Amount 1 1073741824&&Ka d.Strength 10000
structure fP(d:Qq):Prop where
 woods:∀i,i < 8->0<=d.From.Woods i/\d.From.Woods i<=65536
 places:∀i,i < 8->0<=d.From.Places i/\d.From.Places i<=65536
 age:0<=d.From.Age/\d.From.Age<=65536
 ageW:(Fm 8 d.From.Woods).sum<=d.From.Age
 ageP:(Fm 8 d.From.Places).sum<=d.From.Age
 num:0<=d.From.Number/\d.From.Number<=1073741824
 amt:1<=d.Amount/\d.Amount<=1073741824
 str:0<=d.Strength.Lo/\d.Strength.Lo<=d.Strength.Hi/\d.Strength.Hi<=10000
theorem j8{f:Nat->Int}{p:Int->Bool}{n:Nat}:(Fm n f).all p=true↔∀i,i < n->p (f i)=true:=by
 simp[Fm,s7]
theorem OX(d:Qq):ua d=true↔fP d:=by
 simp only[ua,AT,j8,Ry,IR,QW,Ka,imax,eD];constructor
 ·rintro⟨⟨⟨⟨⟨⟨h1,h2⟩,h3⟩,h4⟩,h5⟩,h6⟩,h7⟩;refine⟨h1,h2,h3,?_,?_,by omega,by omega,by omega⟩
  ·split at h4<;>omega
  ·split at h4<;>omega
 ·rintro⟨h1,h2,h3,h4,h5,h6,h7,h8⟩;refine⟨⟨⟨⟨⟨⟨h1,h2⟩,h3⟩,?_⟩,by omega⟩,by omega⟩,by omega⟩;split<;>omega
theorem TW(d:Qq):UY d=some (ua d):=by
 unfold UY;rw[yl _ (by simp[Fm]),yl _<|by simp[Fm]];simp only[DO,QR,ua];cases h1:(Fm 8 d.From.Woods).all ZI<;>cases h2:(Fm 8 d.From.Places).all ZI<;>simp
def VF(l:UV Qq):Int:=(l.map λd=>d.Amount).sum
def WH(l:UV Qq):Int:=(l.map λd=>d.Amount*d.Strength.Lo).sum
def UN(l:UV Qq):Int:=(l.map λd=>d.Amount*d.Strength.Hi).sum
theorem T4(l:UV Qq)(d:Qq):VF (l++[d])=VF l+d.Amount:=by simp[VF]
theorem NF(l:UV Qq)(d:Qq):WH (l++[d])=WH l+d.Amount*d.Strength.Lo:=by simp[WH]
theorem NG(l:UV Qq)(d:Qq):UN (l++[d])=UN l+d.Amount*d.Strength.Hi:=by simp[UN]
theorem FA{d:Qq}(h:fP d){x:Int}(h0:0<=x)(h1:x<=10000):0<=d.Amount*x/\d.Amount*x<=10737418240000:=by
 have ha:=h.amt;constructor
 ·exact mZ (by omega) h0
 ·have:=eI ha.2 h1 h0 (by omega);omega
theorem NC(l:UV Qq):(∀d∈l,fP d)->((l.length:Int)<=VF l/\VF l<=1073741824*l.length)/\(0<=WH l/\WH l<=UN l)/\UN l<=10737418240000*l.length/\UN l<=10000*VF l:=by
 induction l using CZ with
 | h0=>intro _;simp[VF,WH,UN]
 | hs l d ih=>
  intro h;have hd:=h d (by simp);obtain⟨h1,h2,h3,h4⟩:=ih λx hx=>h x (by simp[hx]);rw[T4,NF,NG,nH,mu,lb];have ha:=hd.amt;have hs:=hd.str;have b1:=FA hd (x:=d.Strength.Lo) (by omega) (by omega);have b2:=FA hd (x:=d.Strength.Hi) (by omega) (by omega);have b3:d.Amount*d.Strength.Lo<=d.Amount*d.Strength.Hi:=mK hs.2.1 (by omega);have b4:d.Amount*d.Strength.Hi<=d.Amount*10000:=mK hs.2.2 (by omega);simp only[eo];refine⟨by omega,by omega,by omega,by omega⟩
def X8(b:QU):Bool:=b.Draughts.all ua&&QW (b.Draughts.length:Int) 1 16&&QW b.Water 0 17179869184&&Ka b.Shrink 1000
structure Valid(b:QU):Prop where
 ds:∀d∈b.Draughts,fP d
 len:1<=b.Draughts.length/\b.Draughts.length<=16
 water:0<=b.Water/\b.Water<=17179869184
 shrink:0<=b.Shrink.Lo/\b.Shrink.Lo<=b.Shrink.Hi/\b.Shrink.Hi<=1000
theorem FH(b:QU):X8 b=true↔Valid b:=by
 simp only[X8,AT,s7,OX,QW,Ka,IR,eD];constructor
 ·rintro⟨⟨⟨h1,h2⟩,h3⟩,h4⟩;exact⟨h1,by omega,h3,by omega⟩
 ·rintro⟨h1,h2,h3,h4⟩;exact⟨⟨⟨h1,by omega⟩,h3⟩,by omega⟩
theorem OA(b:QU)(hlen:b.Draughts.length<=1000):∃x,WB b=some (x,X8 b)/\(X8 b=true->x=Qh.mk b (VF b.Draughts) (WH b.Draughts) (UN b.Draughts)):=by
 unfold WB
 have key:(∃x,ZQ (JF b) (0,Qh.mk b 0 0 0)=some (.inr (x,false))/\b.Draughts.all ua=false)∨(ZQ (JF b) (0,Qh.mk b 0 0 0)=some (.inl<|Qh.mk b (VF b.Draughts) (WH b.Draughts)<|UN b.Draughts)/\b.Draughts.all ua=true):=by
  have go:∀(post pre:UV Qq),b.Draughts=pre++post->(∀d∈pre,fP d)->(∃x,ZQ (JF b) ((pre.length:Int),Qh.mk b (VF pre) (WH pre)<|UN pre)=some (.inr (x,false))/\b.Draughts.all ua=false)∨(ZQ (JF b) ((pre.length:Int),Qh.mk b (VF pre) (WH pre)<|UN pre)=some (.inl<|Qh.mk b (VF b.Draughts) (WH b.Draughts)<|UN b.Draughts)/\b.Draughts.all ua=true):=by
   intro post
   induction post with
   | nil=>
    intro pre e h;rw[np] at e
    right;rw[<-e] at h ⊢
    refine⟨?_,by rw[s7];exact λd hd=>(OX d).2<|h d hd⟩;rw[ZC];unfold JF;simp
   | cons d post ih=>
    intro pre e h;have hg:=VD e;have hi:=XQ e;cases hd:ua d with
    | false=>
     left
     have hb:JF b ((pre.length:Int),Qh.mk b (VF pre) (WH pre)<|UN pre)=some (.done<|.inr (Qh.mk b (VF pre) (WH pre)<|UN pre,false)):=by
      unfold JF;simp only[Zw,hg,DO,QR,TW,hd];simp only[show(decide<|(pre.length:Int) < (b.Draughts.length:Int))=true by simpa using hi,Rw];simp
     refine⟨Qh.mk b (VF pre) (WH pre)<|UN pre,?_,?_⟩
     ·rw[ZC,hb]
     ·rw[e,mV,nZ,hd];simp
    | true=>
     have hd' :=(OX d).1 hd;have hs:=hd'.str;obtain⟨b1,b2,b3,_⟩:=NC pre h;have b4:=FA hd' (x:=d.Strength.Lo) (by omega) (by omega);have b5:=FA hd' (x:=d.Strength.Hi) (by omega) (by omega);have ha:=hd'.amt
     have:=ih (pre++[d]) (by rw[e];simp) λx hx=>by
      rcases mH.1 hx with hx | hx
      ·exact h x hx
      ·simp only[nx] at hx;subst hx;exact hd'
     have hb:JF b ((pre.length:Int),Qh.mk b (VF pre) (WH pre)<|UN pre)=some (.next (((pre++[d]).length:Int),Qh.mk b (VF<|pre++[d]) (WH<|pre++[d])<|UN<|pre++[d])):=by
      unfold JF;rw[T4,NF,NG,nH,mu,lb];simp only[Zw,hg,DO,QR,TW,hd];simp only[show(decide<|(pre.length:Int) < (b.Draughts.length:Int))=true by simpa using hi,Rw];rw[Qn (n:=d.Amount*d.Strength.Lo) (by omega) (by omega),Qn (n:=d.Amount*d.Strength.Hi) (by omega) (by omega),Qn (n:=(pre.length:Int)+1) (by omega) (by omega),Qn (n:=VF pre+d.Amount) (by omega) (by omega),Qn (n:=WH pre+d.Amount*d.Strength.Lo) (by omega) (by omega),Qn (n:=UN pre+d.Amount*d.Strength.Hi) (by omega)<|by omega];simp
     rw[ZC,hb];exact this
  exact go b.Draughts [] rfl<|by simp
 rcases key with⟨x,hr,hall⟩ | ⟨hr,hall⟩
 ·refine⟨x,ZR hr ?_,λh=> ?_⟩
  ·simp only[X8,hall,ll]
  ·simp only[X8,hall,ll] at h;cases h
 ·refine⟨Qh.mk b (VF b.Draughts) (WH b.Draughts)<|UN b.Draughts,ZR hr ?_,λ_=>rfl⟩;simp only[X8,hall,mA];cases QW (b.Draughts.length:Int) 1 16<;>cases QW b.Water 0 17179869184<;>simp
end
section
open Go.Dec
variable{b:QU}{w:Int}
def jB(b:QU)(w:Int):QB:=QB.mk ((VF b.Draughts+w)*(10000 - b.Shrink.Hi) / 10000) (((VF b.Draughts+w)*(10000 - b.Shrink.Lo)+10000 - 1) / 10000)
def ui(b:QU)(w:Int):QB:=
 QB.mk (Jj 10000<|WH b.Draughts*10000 / ((VF b.Draughts+w)*(10000 - b.Shrink.Lo)))
  (Jj 10000<|(UN b.Draughts*10000+(VF b.Draughts+w)*(10000 - b.Shrink.Hi) - 1) / ((VF b.Draughts+w)*(10000 - b.Shrink.Hi)))
structure dn(b:QU)(w:Int):Prop where
 a:1<=VF b.Draughts/\VF b.Draughts<=17179869184
 l:0<=WH b.Draughts/\WH b.Draughts<=UN b.Draughts/\UN b.Draughts<=171798691840000
 lh:UN b.Draughts<=10000*VF b.Draughts
 small:9000<=(VF b.Draughts+w)*(10000 - b.Shrink.Hi)/\(VF b.Draughts+w)*(10000 - b.Shrink.Hi)<=343597383680000
 great:9000<=(VF b.Draughts+w)*(10000 - b.Shrink.Lo)/\(VF b.Draughts+w)*(10000 - b.Shrink.Lo)<=343597383680000
 le:(VF b.Draughts+w)*(10000 - b.Shrink.Hi)<=(VF b.Draughts+w)*(10000 - b.Shrink.Lo)
theorem dT(h:Valid b)(h0:0<=w)(h1:w<=17179869184):dn b w:=by
 obtain⟨b1,b2,b3,b4⟩:=NC b.Draughts h.ds;have hl:=h.len;have hs:=h.shrink;have ha:1<=VF b.Draughts/\VF b.Draughts<=17179869184:=by omega
 have mb:∀x:Int,9000<=x->x<=10000->9000<=(VF b.Draughts+w)*x/\(VF b.Draughts+w)*x<=343597383680000:=by
  intro x hx1 hx2;have m1:1*9000<=(VF b.Draughts+w)*x:=eI (by omega) hx1 (by omega) (by omega);have m2:(VF b.Draughts+w)*x<=34359738368*10000:=eI (by omega) hx2 (by omega) (by omega);omega
 exact⟨ha,by omega,b4,mb _ (by omega) (by omega),mb _ (by omega) (by omega),mK (by omega)<|by omega⟩
theorem LR(h:Valid b)(h0:0<=w)(h1:w<=17179869184):YB (Qh.mk b (VF b.Draughts) (WH b.Draughts)<|UN b.Draughts) w=some (jB b w):=by
 have hb:=dT h h0 h1;have b1:=hb.a;have b2:=hb.small;have b3:=hb.great;have hs:=h.shrink;unfold YB HG;simp only[QR];rw[Qn (n:=VF b.Draughts+w) (by omega) (by omega),Qn (n:=10000 - b.Shrink.Lo) (by omega) (by omega),Qn (n:=10000 - b.Shrink.Hi) (by omega)<|by omega];rw[Qn (n:=(VF b.Draughts+w)*(10000 - b.Shrink.Lo)) (by omega) (by omega),Qn (n:=(VF b.Draughts+w)*(10000 - b.Shrink.Hi)) (by omega)<|by omega];rw[Qn (n:=(VF b.Draughts+w)*(10000 - b.Shrink.Lo)+10000) (by omega) (by omega),Qn (n:=(VF b.Draughts+w)*(10000 - b.Shrink.Lo)+10000 - 1) (by omega)<|by omega];rw[Nc (by omega) (by omega)<|by omega];simp only[DO];rw[mG (by omega),Qn (by omega)<|by omega];rfl
theorem O8(h:Valid b)(h0:0<=w)(h1:w<=17179869184):Yb (Qh.mk b (VF b.Draughts) (WH b.Draughts)<|UN b.Draughts) w=some (ui b w):=by
 have hb:=dT h h0 h1;have b1:=hb.a;have b2:=hb.small;have b3:=hb.great;have b4:=hb.l;have hs:=h.shrink;unfold Yb HG;simp only[QR];rw[Qn (n:=VF b.Draughts+w) (by omega) (by omega),Qn (n:=10000 - b.Shrink.Lo) (by omega) (by omega),Qn (n:=10000 - b.Shrink.Hi) (by omega)<|by omega];rw[Qn (n:=(VF b.Draughts+w)*(10000 - b.Shrink.Lo)) (by omega) (by omega),Qn (n:=(VF b.Draughts+w)*(10000 - b.Shrink.Hi)) (by omega)<|by omega];rw[Qn (n:=WH b.Draughts*10000) (by omega) (by omega),Qn (n:=UN b.Draughts*10000) (by omega)<|by omega];rw[Qn (n:=UN b.Draughts*10000+(VF b.Draughts+w)*(10000 - b.Shrink.Hi)) (by omega) (by omega),Qn (n:=UN b.Draughts*10000+(VF b.Draughts+w)*(10000 - b.Shrink.Hi) - 1) (by omega)<|by omega];rw[Nc (by omega) (by omega) (by omega),Nc (by omega) (by omega)<|by omega];rfl
def DQ(l:UV Qq)(f:Qq->Int):Int:=match l with
 | []=>0
 | d::r=>r.foldl (λm x=>Jj m<|f x)<|f d
theorem jc{l:UV Qq}{d:Qq}{f:Qq->Int}(hl:l≠[]):DQ (l++[d]) f=Jj (DQ l f) (f d):=by
 cases l with
 | nil=>exact absurd rfl hl
 | cons x r=>simp[DQ]
theorem N3(l:UV Qq)(f:Qq->Int)(hl:l≠[])(h:l.length<=1000):Kl l (λd=>some<|f d)=some (DQ l f):=by
 cases l with
 | nil=>exact absurd rfl hl
 | cons d r=>
  simp only[s6] at h
  unfold Kl;have h0:ZK (d::r) 0=some d:=rfl
  have h1:ZW (d::r) 1 ((d::r).length:Int)=some r:=by
   unfold ZW;rw[TO (by simp only[s6];omega)];simp
  refine ZR h0<|ZR rfl<|ZR h1 ?_
  obtain⟨t',k1,k2⟩:=HH (body:=Vx (λd=>some<|f d) r) (λi (t:Int)=>(t,(i:Int))) (λt=>t) (λpre t=>t=DQ (d::pre) f) r
   (λpre x post t hl ht=>by
    have hg:=VD hl;have hi:=XQ hl;unfold Vx;simp only[Zw,hg,DO,QR];rw[Qn (by omega)<|by omega];simp only[show(decide<|(pre.length:Int) < (r.length:Int))=true by simpa using hi,Rw];refine⟨_,rfl,?_⟩;rw[<-mQ,jc (by simp),ht])
   (λt _=>by unfold Vx;simp) r [] (f d) rfl rfl
  simp only[nG,nR] at k2
  exact ZR k2<|by rw[k1]
def M1(l:UV Qq):UV Int:=l.foldl (λacc d=>if d.From.Number∈acc then acc else acc++[d.From.Number]) []
theorem jb(l:UV Qq)(d:Qq):M1 (l++[d])=if d.From.Number∈M1 l then M1 l else M1 l++[d.From.Number]:=by
 unfold M1;rw[List.foldl_append];rfl
theorem RE(k:Int):∀ks:UV Int,Qx (ks.map λx=>(x,true)) k true=(if k∈ks then ks else ks++[k]).map λx=>(x,true)
 | []=>by simp[Qx]
 | x::ks=>by
  simp only[s4,Qx];by_cases h:k=x
  ·subst h;simp
  ·have hb:(k==x)=false:=by simpa using h
   simp only[hb,By,T2];rw[RE k ks];by_cases hm:k∈ks<;>simp[hm,h]
theorem uC(b:QU)(A L M:Int)(h:b.Draughts.length<=1000):Vr (Qh.mk b A L M)=some ((M1 b.Draughts).length:Int):=by
 unfold Vr
 obtain⟨t',k1,k2⟩:=HH (body:=Y6<|Qh.mk b A L M) (λi (t:UV (Int×Bool))=>(t,(i:Int))) (λt=>t) (λpre t=>t=(M1 pre).map λx=>(x,true)) b.Draughts
  (λpre x post t hl ht=>by
   have hg:=VD hl;have hi:=XQ hl;unfold Y6;simp only[Zw,hg,DO,QR];rw[Qn (by omega)<|by omega];simp only[show(decide<|(pre.length:Int) < (b.Draughts.length:Int))=true by simpa using hi,Rw];refine⟨_,rfl,?_⟩;rw[ht,RE,jb])
  (λt _=>by unfold Y6;simp) b.Draughts [] [] rfl rfl
 simp only[nG,nR] at k2
 exact ZR k2 (by rw[k1];simp)
structure kl(b:QU)(w:Int)(x:Qp):Prop where
 vol:x.Volume=jB b w
 str:x.Strength=ui b w
 age:x.Age=DQ b.Draughts λd=>d.From.Age
 woods:∀i,i < 8->x.Woods i=DQ b.Draughts λd=>d.From.Woods i
 places:∀i,i < 8->x.Places i=DQ b.Draughts λd=>d.From.Places i
 casks:x.Casks=((M1 b.Draughts).length:Int)
theorem LS{α:Type}(f:Nat->α)(i:Nat)(x:α):ZM f i x i=x:=by simp[ZM]
theorem R8{α:Type}{f:Nat->α}{i j:Nat}{x:α}(h:j≠i):ZM f i x j=f j:=by
 have:Nat.beq j i=false:=by
  cases hb:Nat.beq j i with
  | true=>exact absurd (rW hb) h
  | false=>rfl
 simp[ZM,this]
theorem Iw(h:Valid b):∃x,Yc (Qh.mk b (VF b.Draughts) (WH b.Draughts)<|UN b.Draughts)=some x/\kl b b.Water x:=by
 have hl:=h.len;have hne:b.Draughts≠[]:=by intro e;rw[e] at hl;simp at hl
 unfold Yc;have e1:=LR h h.water.1 h.water.2;have e2:=O8 h h.water.1 h.water.2;have e3:=uC b (VF b.Draughts) (WH b.Draughts) (UN b.Draughts) (by omega);have e4:Kl b.Draughts (λx=>some<|Yv x)=some (DQ b.Draughts λd=>d.From.Age):=N3 b.Draughts (λd=>d.From.Age) hne (by omega);generalize hx0:({(Qp.mk (jB b b.Water) (ui b b.Water) 0 (λ_=>0) (λ_=>0) ((M1 b.Draughts).length:Int)) with Age:=DQ b.Draughts λd=>d.From.Age}:Qp)=x0
 obtain⟨x1,⟨h1a,h1b⟩,k1⟩:=Hu (body:=Y5<|Qh.mk b (VF b.Draughts) (WH b.Draughts)<|UN b.Draughts) (λi (t:Qp)=>((i:Int),t)) (λt=>t)
  (λn t=>(∀i,i < n->t.Woods i=DQ b.Draughts λd=>d.From.Woods i)/\∃f,t={x0 with Woods:=f}) 8
  (λi t hi ⟨ht,f,hf⟩=>by
   have e5:Kl b.Draughts (λx=>Ki x (i:Int))=some (DQ b.Draughts λd=>d.From.Woods i):=by
    rw[show(λx=>Ki x (i:Int))=λx=>some (x.From.Woods i) from by
     funext x;unfold Ki;rw[GA hi];rfl]
    exact N3 b.Draughts _ hne<|by omega
   refine⟨{t with Woods:=ZM t.Woods i (DQ b.Draughts λd=>d.From.Woods i)},?_,λj hj=> ?_,?_⟩
   ·unfold Y5;simp only[show(decide<|(i:Int) < 8)=true by simp;omega,Rw];refine ZR e5<|ZR (GA hi) ?_;simp only[QR];rw[Qn (by omega)<|by omega];simp
   ·show ZM t.Woods i _ j=_;by_cases hji:j=i
    ·subst hji;exact LS _ _ _
    ·rw[R8 hji];exact ht j<|by omega
   ·exact⟨ZM t.Woods i<|DQ b.Draughts λd=>d.From.Woods i,by rw[hf]⟩)
  (λt _=>by unfold Y5;simp) 8 0 x0 rfl ⟨λi hi=>by omega,x0.Woods,rfl⟩
 obtain⟨x2,⟨h2a,f2,h2b⟩,k2⟩:=Hu (body:=Y2<|Qh.mk b (VF b.Draughts) (WH b.Draughts)<|UN b.Draughts) (λi (t:Qp)=>((i:Int),t)) (λt=>t)
  (λn t=>(∀i,i < n->t.Places i=DQ b.Draughts λd=>d.From.Places i)/\∃f,t={x1 with Places:=f}) 8
  (λi t hi ⟨ht,f,hf⟩=>by
   have e5:Kl b.Draughts (λx=>Kh x (i:Int))=some (DQ b.Draughts λd=>d.From.Places i):=by
    rw[show(λx=>Kh x (i:Int))=λx=>some (x.From.Places i) from by
     funext x;unfold Kh;rw[GA hi];rfl]
    exact N3 b.Draughts _ hne<|by omega
   refine⟨{t with Places:=ZM t.Places i (DQ b.Draughts λd=>d.From.Places i)},?_,λj hj=> ?_,?_⟩
   ·unfold Y2;simp only[show(decide<|(i:Int) < 8)=true by simp;omega,Rw];refine ZR e5<|ZR (GA hi) ?_;simp only[QR];rw[Qn (by omega)<|by omega];simp
   ·show ZM t.Places i _ j=_;by_cases hji:j=i
    ·subst hji;exact LS _ _ _
    ·rw[R8 hji];exact ht j<|by omega
   ·exact⟨ZM t.Places i<|DQ b.Draughts λd=>d.From.Places i,by rw[hf]⟩)
  (λt _=>by unfold Y2;simp) 8 0 x1 rfl ⟨λi hi=>by omega,x1.Places,rfl⟩
 simp only[nR] at k1 k2
 obtain⟨f1,h1c⟩:=h1b;refine⟨x2,?_,?_⟩
 ·refine ZR e1<|ZR e2<|ZR e3<|ZR e4 ?_;simp only[QR];rw[hx0];exact ZR k1<|ZR k2 rfl
 ·have hw:x2.Woods=x1.Woods:=by rw[h2b]
  refine⟨by rw[h2b,h1c,<-hx0],by rw[h2b,h1c,<-hx0],by rw[h2b,h1c,<-hx0],λi hi=>by rw[hw];exact h1a i hi,h2a,by rw[h2b,h1c,<-hx0]⟩
theorem zk(b:QU)(hlen:b.Draughts.length<=1000):(X8 b=false/\Vt b=some (Qp.mk (QB.mk 0 0) (QB.mk 0 0) 0 (λ_=>0) (λ_=>0) 0,1))∨(Valid b/\∃x,Vt b=some (x,0)/\kl b b.Water x):=by
 obtain⟨x,he,hx⟩:=OA b hlen;unfold Vt;cases hv:X8 b with
 | false=>
  refine .inl ⟨rfl,ZR he ?_⟩;rw[hv];rfl
 | true=>
  have h:=(FH b).1 hv;obtain⟨y,k1,k2⟩:=Iw h;refine .inr ⟨h,y,ZR he ?_,k2⟩;rw[hv,hx hv];simp only[x6,By,T2];exact ZR k1 rfl
end
section
open Go.Dec
def DJ(c:Qt):Bool:=
 if c.Kind==0 then ZI c.Number else if c.Kind==1 then ZI c.Number&&QW c.What 0 7 else if c.Kind==2 then ZI c.Number&&QW c.What 0 7 else
 if c.Kind==7 then JL c.What&&JL c.Number else QW c.Kind 0 7
theorem zT(c:Qt):WV c=some (DJ c):=by
 unfold WV DJ
 repeat' split
 all_goals rfl
structure xU(c:Qt):Prop where
 kind:0<=c.Kind/\c.Kind<=7
 what:c.Kind=1∨c.Kind=2->0<=c.What/\c.What<=7
 str:c.Kind=7->(0<=c.What/\c.What<=10000)/\0<=c.Number/\c.Number<=10000
theorem xU.of{c:Qt}(h:DJ c=true):xU c:=by
 unfold DJ at h
 simp only[mB,QW,JL] at h
 repeat' split at h
 all_goals simp only[AT,IR,eD,Ry] at h
 all_goals exact⟨by omega,λh=>by omega,λh=>by omega⟩
theorem M3(s:UV Qt)(f:Qt->Bool)(hl:s.length<=1000000):JR s (λx=>some<|f x)=some (s.any f):=by
 unfold JR Vh
 have key:=G4 (body:=Jl s λx=>some<|f x) (λi (_:Unit)=>(i:Int)) (λ_ x=>if f x then 1 else 0) (λi _=>.inr (i:Int)) (λ_=>.inl ()) (λ_ _=>True) s
  (λpre x post t hl ho ht=>by
   have hg:=VD hl;have hi:=XQ hl;unfold Jl;simp only[Zw,hg,DO];rw[Qn (by omega)<|by omega];simp only[show(decide<|(pre.length:Int) < (s.length:Int))=true by simpa using hi,Rw];cases hx:f x with
   | true=>left;simp
   | false=>right;exact⟨by simp,(),by simp⟩)
  (λt _ _=>by unfold Jl;simp) s [] () rfl Wa.nil trivial
 simp only[nG,nR] at key
 rcases key with⟨p,x,⟨post,e,_,hx⟩,hr⟩ | ⟨ho,t,ht,hr⟩
 ·have hfx:f x=true:=by
   cases h:f x with
   | true=>rfl
   | false=>simp[h] at hx
  have:s.any f=true:=by rw[e,List.any_append,o7,hfx];simp
  rw[this];refine ZR (ZR hr rfl) ?_;simp
 ·have:s.any f=false:=by
   rw[List.any_eq_false];intro y hy;obtain⟨a,b,e⟩:=mr hy;have:=ho a y b e;intro h;simp[h] at this
  rw[this];exact ZR (ZR hr rfl)<|by simp
def GF(l:UV Qt):Bool:=decide ((l.length:Int)<=32)&&l.all DJ
theorem Tt(l:UV Qt):UZ l=some (GF l):=by
 unfold UZ GF;by_cases h:(l.length:Int)<=32
 ·have e:(λx=>Ji x)=λx=>some (!DJ x):=by
   funext x;unfold Ji;rw[zT];rfl
  simp only[h,nc,Rw,e];rw[M3 l _<|by omega];simp only[DO,mA,BY];rw[lO];simp[s7]
 ·simp only[h,nk,By,T2,DO,ll]
def liesAt(p:Qt->Bool):Nat->UV Qt->UV Int
 | _,[]=>[]
 | i,c::l=>if p c then liesAt p (i+1) l else(i:Int)::liesAt p (i+1) l
theorem AK(p:Qt->Bool):∀(l k:UV Qt) (i:Nat),liesAt p i (l++k)=liesAt p i l++liesAt p (i+l.length) k
 | [],k,i=>by simp[liesAt]
 | c::l,k,i=>by
  simp only[mQ,liesAt,s6,AK p l k<|i+1];rw[show i+1+l.length=i+(l.length+1) by omega];split<;>simp
theorem N2(p:Qt->Bool):∀(l:UV Qt) (i:Nat),(liesAt p i l).length<=l.length
 | [],i=>by simp[liesAt]
 | c::l,i=>by
  have:=N2 p l<|i+1;simp only[liesAt];split<;>simp<;>omega
def DC(b:QU)(x:Qp)(c:Qt):Bool:=
 if c.Kind=0 then decide (x.Age≥c.Number) else if c.Kind=1 then decide (x.Woods c.What.toNat≥c.Number) else if c.Kind=2 then decide (x.Places c.What.toNat≥c.Number) else if c.Kind=3 then x.Casks==1 else
 if c.Kind=4 then b.Water==0 else if c.Kind=5 then !b.Filtered else if c.Kind=6 then !b.Coloured else decide (x.Strength.Lo≥c.What - c.Number)&&decide (x.Strength.Hi<=c.What+c.Number)
theorem Sg{i:Int}{n:Nat}(h0:0<=i)(h1:i < n):VJ n i=some i.toNat:=by
 unfold VJ;rw[TO ⟨h0,h1⟩]
theorem uf(b:QU)(A L M:Int)(x:Qp)(c:Qt)(h:xU c):((Ya<|ZF.mk (Qh.mk b A L M) x).bind λr=>(VJ 8 c.Kind).bind λj=>(r j) c)=some (DC b x c):=by
 have hk:=h.kind;unfold Ya;simp only[DO];rw[Sg (by omega)<|by omega];simp only[DO];have hc:c.Kind=0∨c.Kind=1∨c.Kind=2∨c.Kind=3∨c.Kind=4∨c.Kind=5∨c.Kind=6∨c.Kind=7:=by omega
 unfold DC;rcases hc with e | e | e | e | e | e | e | e
 ·rw[e];rfl
 ·have hw:=h.what<|.inl e;rw[e];show Js c _=_;unfold Js;rw[Sg (by omega)<|by omega];rfl
 ·have hw:=h.what<|.inr e;rw[e];show Jr c _=_;unfold Jr;rw[Sg (by omega)<|by omega];rfl
 ·rw[e];rfl
 ·rw[e];rfl
 ·rw[e];rfl
 ·rw[e];rfl
 ·have hs:=h.str e;rw[e];show some (Yu c _)=_;unfold Yu;rw[Qn (by omega) (by omega),Qn (by omega)<|by omega];rfl
theorem wD(b:QU)(A L M:Int)(x:Qp)(l:UV Qt)(hl:l.length<=1000)(h:∀c∈l,xU c):UJ (ZF.mk (Qh.mk b A L M) x) l=some (liesAt (DC b x) 0 l):=by
 unfold UJ;obtain⟨r,hr⟩:∃r,Ya (ZF.mk (Qh.mk b A L M) x)=some r:=⟨_,rfl⟩;refine ZR hr ?_
 obtain⟨t',k1,k2⟩:=HH (body:=VT l r) (λi (t:UV Int)=>(t,(i:Int))) (λt=>t) (λpre t=>t=liesAt (DC b x) 0 pre) l
  (λpre c post t hl' ht=>by
   have hg:=VD hl';have hi:=XQ hl';have ht' :=uf b A L M x c<|h c<|s8 hg;rw[hr] at ht'
   simp only[DO] at ht'
   have hk:=(h c<|s8 hg).kind;rw[Sg (by omega)<|by omega] at ht'
   simp only[DO] at ht'
   have hlen:=N2 (DC b x) pre 0;unfold VT;simp only[Zw,hg,DO];rw[Qn (by omega) (by omega),Sg (by omega)<|by omega];simp only[show(decide<|(pre.length:Int) < (l.length:Int))=true by simpa using hi,Rw,DO,ht'];rw[AK];simp only[liesAt,nl];cases hp:DC b x c with
   | true=>exact⟨t,by simp,by simpa using ht⟩
   | false=>
    refine⟨t++[(pre.length:Int)],?_,by rw[ht];simp⟩;simp only[r6,Rw];rw[Ay (by rw[ht];simp only[s6,nG];omega)];simp)
  (λt _=>by unfold VT;simp) l [] [] rfl rfl
 simp only[nG,nR] at k2
 exact ZR k2<|by rw[k1]
theorem zW(b:QU)(l:UV Qt)(hb:b.Draughts.length<=1000)(hl:l.length<=1000):((X8 b&&GF l)=false/\Ua b l=some ([],1))∨(Valid b/\GF l=true/\(∀c∈l,xU c)/\∃x,kl b b.Water x/\Vt b=some (x,0)/\Ua b l=some (liesAt (DC b x) 0 l,0)):=by
 obtain⟨x,he,hx⟩:=OA b hb;unfold Ua HW Vt;cases hv:X8 b with
 | false=>
  refine .inl ⟨rfl,?_⟩;rw[he,hv];rfl
 | true=>
  cases hc:GF l with
  | false=>
   refine .inl ⟨rfl,?_⟩;rw[he,hv,Tt,hc];rfl
  | true=>
   have h:=(FH b).1 hv;obtain⟨y,k1,k2⟩:=Iw h
   have hall:∀c∈l,xU c:=by
    simp only[GF,AT,s7] at hc
    exact λc hcl=>xU.of<|hc.2 c hcl
   refine .inr ⟨h,rfl,hall,y,k2,?_,?_⟩
   ·refine ZR he ?_;rw[hv,hx hv];simp only[x6,By,T2];exact ZR k1 rfl
   ·rw[he,hv,Tt,hc,hx hv];simp only[DO,x6,By,T2,k1];exact ZR (wD b _ _ _ y l hl hall) rfl
end
end Go.Proofs.YtepbamgmocpemaaGreatDoor.Bo
namespace Go.Proofs.YtepbamgmocpemaaGreatDoor
section
open Go.Dec
def Re(c:So):Bool:=decide (48<=c.toNat)&&decide (c.toNat<=57)
def Wn(s:UV So):Nat:=s.foldl (λn c=>10*n+(c.toNat - 48)) 0
def Gz(s:UV So):Bool:= !(s==[])&&decide (s.length<=13)&&(!(s.head? ==some 48)||s==[48])&&s.all Re
def wA(s:UV So):Out Qo Int:=if Gz s then .ok (Wn s:Int) else .pan ⟨8⟩
theorem SW(s:UV So)(c:So):Wn (s++[c])=10*Wn s+(c.toNat - 48):=by simp[Wn]
theorem ud(s:UV So)(h:s.all Re=true):Wn s < 10^s.length:=by
 induction s using CZ with
 | h0=>simp[Wn]
 | hs l x ih=>
  rw[mV,AT] at h
  have h1:=ih h.1
  have h2:x.toNat<=57:=by
   have h2:=h.2;simp only[nZ,lV,mY,Re,AT,IR] at h2
   exact h2.2
  rw[SW,nH,mu,oN];omega
theorem Ej{s:UV So}(h:s.all Re=true)(hl:s.length<=13):Wn s < 10000000000000:=
 eF (ud s h) (by
  have:=oB (show 0 < 10 by omega) hl;omega)
theorem dQ(n:Int)(h0:0<=n)(h1:n<=255):IntKind.u8.wrap n=n:=by
 unfold IntKind.wrap;have:((2:Int)^IntKind.u8.bits)=256:=by decide
 simp[IntKind.bits,IntKind.signed] at*
 omega
theorem RD(s:UV So)(hs:s.length<=13):∀(post pre:UV So),s=pre++post->pre.all Re=true->
  ZQ (V7 s) ((Wn pre:Int),(pre.length:Int))=some (if post.all Re then .inl (Wn s:Int) else .inr ⟨8⟩)
 | [],pre,e,hp=>by
  rw[np] at e;subst e
  rw[ZC];unfold V7;simp[XC]
 | c::post,pre,e,hp=>by
  have hi:pre.length < s.length:=by rw[e];simp
  have hget:(XC s)[pre.length]? =some (c.toNat:Int):=by rw[e];simp[XC]
  have hv:=Ej hp (by omega);have h3:c.toNat < 256:=c.toNat_lt
  have hbody:V7 s ((Wn pre:Int),(pre.length:Int))=some (if Re c then .next ((Wn (pre++[c]):Int),((pre++[c]).length:Int)) else .done (.inr ⟨8⟩)):=by
   unfold V7;simp only[Zw,hget,DO,QR,Zf,show(decide<|(pre.length:Int) < ((XC s).length:Int))=true by simpa[XC] using hi,Rw];by_cases hd:Re c=true
   ·have hd' :=hd;simp only[Re,AT,IR] at hd'
    have ed:(!(decide ((48:Int)<=(c.toNat:Int))&&decide ((c.toNat:Int)<=57)))=false:=by simp;omega
    simp only[ed,By,T2,Qw];rw[dQ _ (by omega) (by omega),Qn (n:=10*(Wn pre:Int)) (by omega) (by omega),Qn (n:=(c.toNat:Int) - 48) (by omega) (by omega),Qn (by omega) (by omega),Qn (by omega)<|by omega];have e1:10*(Wn pre:Int)+((c.toNat:Int) - 48)=(Wn (pre++[c]):Int):=by rw[SW];omega
    have e2:(pre.length:Int)+1=((pre++[c]).length:Int):=by simp
    rw[e1,e2,hd];rfl
   ·have ed:(!(decide ((48:Int)<=(c.toNat:Int))&&decide ((c.toNat:Int)<=57)))=true:=by
     simp only[Re,AT,IR] at hd
     simp;omega
    simp only[ed,Rw,Qw];simp[hd]
  rw[ZC,hbody];cases hd:Re c with
  | false=>simp[hd]
  | true=>
   have ih:=RD s hs post (pre++[c]) (by rw[e];simp) (by rw[mV,hp];simp[hd]);simp only[Rw,ih];simp[hd]
theorem RC(s:UV So):Wq s=some (wA s):=by
 unfold Wq wA Gz;cases s with
 | nil=>rfl
 | cons c l=>
  by_cases hl:(c::l).length<=13
  ·have e1:((!((c::l)==([]:UV So)))&&(decide<|((c::l).length:Int)<=13))=true:=by simp at hl ⊢;omega
   simp only[e1,Rw];have e2:ZK (c::l) 0=some c:=rfl;simp only[e2,DO]
   have e3:(((c.toNat:Int) != 48)||((c::l)==([48]:UV So)))=(!((c::l).head? ==some 48)||(c::l)==[48]):=by
    congr 1;rw[lO];simp only[og,om,ne_eq,ng,lH,BY];constructor
    ·intro h hc;subst hc;exact h rfl
    ·intro h hc;exact h<|oc.1 (by rw[show(48:So).toNat=48 from rfl];omega)
   rw[e3];have e4:(!((c::l)==([]:UV So))&&decide ((c::l).length<=13))=true:=by simp at hl ⊢;omega
   simp only[e4,mA];have ea:J3 ([]:UV So) (c::l)=some (c::l):=by unfold J3;rw[TO (by simp at hl ⊢;omega)];rfl
   cases hz:(!((c::l).head? ==some 48)||(c::l)==[48]) with
   | false=>simp[Zf,Qw]
   | true=>
    have hk:=RD (c::l) hl (c::l) [] rfl rfl;simp only[nG,nR,show(Wn []:Int)=0 from rfl] at hk
    simp only[Zf,Qw,x6,By,T2,ea,DO,hk,mA];cases(c::l).all Re<;>rfl
  ·have e1:((!((c::l)==([]:UV So)))&&(decide<|((c::l).length:Int)<=13))=false:=by simp at hl ⊢;omega
   have e4:(!((c::l)==([]:UV So))&&decide ((c::l).length<=13))=false:=by simp at hl ⊢;omega
   simp only[e1,e4,By,T2,DO,Zf,r6,Rw,Qw,ll]
def Jc:UV So->UV (UV So)
 | []=>[[]]
 | c::l=>if c==32 then[]::Jc l else match Jc l with
  | []=>[[c]]
  | p::ps=>(c::p)::ps
theorem NO:∀(s:UV So),Jc s≠[]
 | []=>by simp[Jc]
 | c::l=>by
  unfold Jc;split
  ·simp
  ·split<;>simp
theorem ER:∀(s:UV So),(Go.Lib.index s [32]= -1/\Jc s=[s])∨(∃i:Nat,Go.Lib.index s [32]=i/\i < s.length/\Jc s=s.take i::Jc (s.drop<|i+1))
 | []=>.inl ⟨rfl,rfl⟩
 | c::l=>by
  by_cases hc:c=32
  ·subst hc;exact .inr ⟨0,rfl,by simp,by simp[Jc]⟩
  ·have h0:([32]:UV So).isPrefixOf (c::l)=false:=by
    simp only[List.isPrefixOf,mY,lH,ne_eq];exact λh=>hc h.symm
   have hb:(c==32)=false:=by simpa using hc
   rcases ER l with⟨h1,h2⟩ | ⟨i,h1,h2,h3⟩
   ·refine .inl ⟨?_,?_⟩
    ·unfold Go.Lib.index;rw[h0,h1];rfl
    ·simp[Jc,hb,h2]
   ·refine .inr ⟨i+1,?_,by simpa using h2,?_⟩
    ·unfold Go.Lib.index;rw[h0,h1];have:((i:Int)== -1)=false:=by rw[lH];omega
     simp[this]
    ·simp[Jc,hb,h3]
def HQ(s:UV So):Out Qo (UV So×UV Int):=match Jc s with
 | []=>.pan ⟨8⟩
 | w::ps=>if ps.all Gz then .ok (w,ps.map λp=>(Wn p:Int)) else .pan ⟨8⟩
theorem Lw(s:UV So)(h:s.length<=1000000):(Jc s=[s]/\Jg ⟨s⟩ ()=some (s,false,⟨[]⟩))∨(∃p r,p.length+r.length < s.length/\Jc s=p::Jc r/\Jg ⟨s⟩ ()=some (p,true,⟨r⟩)):=by
 unfold Jg H0;simp only[show s.length < 4294967281 by omega,Rw,DO,Go.Lib.cut];rcases ER s with⟨h1,h2⟩ | ⟨i,h1,h2,h3⟩
 ·exact .inl ⟨h2,by rw[h1];rfl⟩
 ·refine .inr ⟨s.take i,s.drop<|i+1,by simp;omega,h3,?_⟩;rw[h1];simp
theorem Lj:∀(k:Nat) (s:UV So) (acc:UV Int),s.length<=k->s.length<=1000000->acc.length+s.length<=1000000->
  ZQ (KK ()) (acc,true,⟨s⟩)=some (if(Jc s).all Gz then .inl (acc++(Jc s).map (λp=>(Wn p:Int)),⟨[]⟩) else .inr ⟨8⟩)
 | k,s,acc,hk,hl,ha=>by
  have hap:∀x:Int,J3 acc [x]=some (acc++[x]):=λx=>by unfold J3;rw[TO (by simp;omega)]
  have hend:∀a:UV Int,ZQ (KK ()) (a,false,⟨[]⟩)=some (.inl (a,⟨[]⟩)):=λa=>by rw[ZC];rfl
  rcases Lw s hl with⟨h1,h2⟩ | ⟨p,r,h0,h1,h2⟩
  ·have hbody:KK () (acc,true,⟨s⟩)=some (if Gz s then .next (acc++[(Wn s:Int)],false,⟨[]⟩) else .done (.inr ⟨8⟩)):=by
    unfold KK;simp only[Rw,h2,DO,RC,wA];cases hn:Gz s<;>simp[Qw,hap]
   rw[ZC,hbody,h1];cases hn:Gz s<;>simp[hn,hend]
  ·have hbody:KK () (acc,true,⟨s⟩)=some (if Gz p then .next (acc++[(Wn p:Int)],true,⟨r⟩) else .done (.inr ⟨8⟩)):=by
    unfold KK;simp only[Rw,h2,DO,RC,wA];cases hn:Gz p<;>simp[Qw,hap]
   rw[ZC,hbody,h1];cases hn:Gz p with
   | false=>simp[hn]
   | true=>
    cases k with
    | zero=>omega
    | succ k=>
     simp only[Rw,Lj k r (acc++[(Wn p:Int)]) (by omega) (by omega) (by simp;omega)];simp[hn]
theorem jR(s:UV So)(h:s.length<=100000):Vp ⟨s⟩ ()=some (match HQ s with | .ok r=>.ok (r.1,r.2,⟨[]⟩) | .pan e=>.pan e):=by
 unfold Vp HQ;rcases Lw s (by omega) with⟨h1,h2⟩ | ⟨p,r,h0,h1,h2⟩
 ·simp only[h2,DO,h1];rw[ZC];unfold KK;simp
 ·simp only[h2,DO,h1];rw[Lj r.length r [] (IN _) (by omega) (by simp;omega)];cases hn:(Jc r).all Gz<;>simp
def DU:Nat->Nat->UV So
 | 0,_=>[]
 | k+1,u=>if u < 10 then[UInt8.ofNat<|48+u] else DU k (u / 10)++[UInt8.ofNat<|48+u%10]
theorem Te:∀(k u:Nat),u < 10^k->0 < k->DU k u=Go.Lib.decDigits u
 | 0,u,_,h=>absurd h (o6 0)
 | k+1,u,h,_=>by
  rw[Go.Lib.decDigits];unfold DU;by_cases h1:u < 10
  ·rw[TO h1,dif_pos h1]
  ·rw[RW h1,dif_neg h1];rw[oN] at h
   cases k with
   | zero=>omega
   | succ k=>rw[Te (k+1) (u / 10) (by omega)<|by omega]
def XR(n:Int):UV So:=if n < 0 then 45::DU 20 n.natAbs else DU 20 n.toNat
def OK(n:Int):Bool:=decide (-9223372036854775808<=n)&&decide (n<=9223372036854775807)
theorem ji{n:Int}(h:OK n=true):XK n=some (XR n):=by
 simp only[OK,AT,IR] at h
 unfold XK XR Go.Lib.itoa;rw[TO h];congr 1;split
 ·rw[Te _ _ (by omega)<|by omega]
 ·rw[Te _ _ (by omega)<|by omega]
theorem Hx{s t:UV So}(h:s.length+t.length<=4294967296):Cy s t=some (s++t):=by unfold Cy;rw[TO h]
theorem Cv:∀(k u:Nat),(DU k u).length<=k
 | 0,_=>IN _
 | k+1,u=>by
  unfold DU;split
  ·simp
  ·have:=Cv k<|u / 10;simp;omega
theorem Sf(n:Int):(XR n).length<=21:=by
 unfold XR;split
 ·have:=Cv 20 n.natAbs;simp;omega
 ·have:=Cv 20 n.toNat;omega
def X7(word:UV So)(l:UV Int):UV So:=word++l.flatMap λn=>32::XR n
theorem P0(w:UV So)(l:UV Int)(x:Int):X7 w (l++[x])=X7 w l++32::XR x:=by simp[X7]
theorem R4(w:UV So)(l:UV Int):(X7 w l).length<=w.length+22*l.length:=by
 induction l using CZ with
 | h0=>simp[X7]
 | hs l x ih=>have:=Sf x;rw[P0];simp;omega
theorem NX{w:UV So}{l:UV Int}(hw:w.length<=1000)(hl:l.length<=100000)(h:l.all OK=true):Jf w l=some (X7 w l):=by
 unfold Jf;rw[Hx (by simp;omega)]
 obtain⟨t,ht,hr⟩:=HH (body:=XY l) (λi (t:UV So)=>((i:Int),t)) (λt=>t) (λpre t=>t=X7 w pre) l
  (λpre x post t e ht=>by
   have hg:=VD e;have hi:=XQ e;have hx:OK x=true:=by rw[e,mV,nZ] at h;simp only[AT] at h;exact h.2.1
   have h1:=R4 w pre;have h2:=Sf x;subst ht;refine⟨X7 w<|pre++[x],?_,rfl⟩;unfold XY;simp only[Zw,hg,DO,show(decide<|(pre.length:Int) < (l.length:Int))=true by simpa using hi,Rw];rw[Hx (by simp;omega),DO,ji hx,DO,Hx (by simp;omega),DO,Qn (by omega) (by omega),P0];simp)
  (λt _=>by unfold XY;simp) l [] (X7 w []) rfl rfl
 simp only[nG,nR] at hr
 have e0:X7 w []=w:=by simp[X7]
 rw[e0] at hr
 simp only[mN,DO];exact ZR hr<|by rw[ht]
end
section
open Go.Dec
variable{α β:Type}{l:UV QH}{m p:H1 α}
def Le(p m:H1 α):Prop:=∀x,p=some x->m=some x
theorem Le.rfl:Le p p:=λ_ h=>h
theorem Le.of(h:m=p):Le p m:=λ_ e=>h.trans e
theorem Le.none:Le .none m:=λ_ e=>by cases e
theorem Le.bind{α β:Type}{p m:H1 α}{f g:α->H1 β}(h:Le p m)(k:∀x,Le (f x)<|g x):Le (p.bind f) (m.bind g):=by
 intro y e;cases hp:p with
 | none=>rw[hp] at e;cases e
 | some x=>rw[hp] at e;rw[h x hp];exact k x y e
theorem Le.dz{p:H1 β}{g:α->H1 β}(x:α)(h:m=some x)(k:Le p (g x)):Le p (m.bind g):=by rw[h];exact k
theorem Le.ite{c:Bool}{a b a' b' :H1 α}(h:Le a a')(h' :Le b b'):Le (if c then a else b) (if c then a' else b'):=by cases c<;>assumption
theorem Le.guard{c:Prop}[Decidable c]{a b:H1 α}(h:c->Le a b):Le (if c then a else .none) b:=by
 by_cases hc:c
 ·rw[TO hc];exact h hc
 ·rw[RW hc];exact Le.none
abbrev RO(α:Type):=H1<|Out Qo α
abbrev RL:=RO<|UV So×QA
def Ul(b:Bool)(e:Int)(k:RO β):RO β:=if b then k else some (.pan ⟨e⟩)
def HM(x:RO α)(k:α->RO β):RO β:=Qw x (λq=>some<|.pan q) k
theorem Sc(b:Bool)(e:Int):Zf b e=some (if b then .ok () else .pan ⟨e⟩):=by cases b<;>rfl
theorem Th(e:Int):KR e=some (if e==0 then .ok () else .pan ⟨e⟩):=by
 unfold KR;rw[Sc];cases e==0<;>rfl
theorem Le.cH{b:Bool}{e:Int}{p:RO β}{g:Unit->RO β}(h:Le p (g ())):Le (Ul b e p) (Qw (Zf b e) (λq=>some<|.pan q) g):=by
 rw[Sc];cases b
 ·exact Le.rfl
 ·exact h
theorem Le.check{e:Int}{p:RO β}{g:Unit->RO β}(h:Le p (g ())):Le (Ul (e==0) e p) (Qw (KR e) (λq=>some<|.pan q) g):=by
 rw[Th];unfold Ul;cases e==0
 ·exact Le.rfl
 ·exact h
theorem Le.cK{p m:RO α}{f g:α->RO β}(h:Le p m)(k:∀x,Le (f x)<|g x):Le (HM p f) (Qw m (λq=>some<|.pan q) g):=by
 intro y e;unfold HM at e
 cases hp:p with
 | none=>rw[hp] at e;cases e
 | some x=>
  rw[hp] at e;rw[h x hp]
  cases x with
  | ok x=>exact k x y e
  | pan q=>exact e
theorem Wl{l k:UV α}(h:l.length+k.length<=4000000):J3 l k=some (l++k):=by unfold J3;rw[TO<|by omega]
def B7(L:QA)(x:QF):RO QA:=if L.casks.length<=1000000 then Ul ((Ca.Tu (L.casks++[{x with Day:=L.day}]) L.day).2.2==0) (Ca.Tu (L.casks++[{x with Day:=L.day}]) L.day).2.2 (some<|.ok {L with casks:=L.casks++[{x with Day:=L.day}]}) else none
theorem G7(L:QA)(x:QF):Le (B7 L x) (Za L () x):=by
 refine Le.guard λh=> ?_;unfold Za;simp only[QR];refine Le.dz _ (Wl (by simp;omega))<|Le.dz _ (Ca.Su _ _)<|Le.check Le.rfl
def atR(L:QA)(c:Int):ZU×Int:=Ca.CW L.casks c L.day
theorem EX(L:QA)(c:Int):KY L () c=some (atR L c):=by
 unfold KY;rw[Ca.w8];rfl
def B0(r:Q4)(l:UV QP)(day:Int):ZV×Int×Int:=Ex.xg<|Ex.Ym r l day
def D1(L:QA)(x:QP):RO QA:=match L.rules with
 | none=>none
 | some r=>if r.Rates.length<=1000000/\L.duties.length<=1000000 then Ul ((B0 r (L.duties++[{x with Day:=L.day}]) L.day).2.2==0) (B0 r (L.duties++[{x with Day:=L.day}]) L.day).2.2 (some<|.ok {L with duties:=L.duties++[{x with Day:=L.day}]}) else none
theorem Tb(L:QA)(x:QP):Le (D1 L x) (KS L () x):=by
 unfold D1;cases hr:L.rules with
 | none=>exact Le.none
 | some r=>
  refine Le.guard λh=> ?_;unfold KS;simp only[QR];refine Le.dz _ (Wl (by simp;omega)) ?_;rw[hr];simp only[DO];rw[Ex.Su h.1<|by omega];exact Le.check Le.rfl
def u3(l:UV QH):UV Int:=l.flatMap λe=>[e.First,e.Last+1]
open Bo in
def Uc(P:Int->Bool)(pre:UV QH)(x:QH):Bool:=(x.First::u3 pre).all λn=> !decide (has x n)||P n
theorem vK(n:Int):∀(l:UV Int) (a:Int),a<=n->∃m,m<=n/\a<=m/\(m=a∨m∈l)/\∀p∈l,p<=n->p<=m
 | [],a,h=>⟨a,h,nQ _,.inl rfl,by simp⟩
 | p::l,a,h=>by
  by_cases hp:p<=n/\a<=p
  ·obtain⟨m,h1,h2,h3,h4⟩:=vK n l p hp.1;refine⟨m,h1,by omega,?_,?_⟩
   ·rcases h3 with h3 | h3
    ·exact .inr<|by simp[h3]
    ·exact .inr<|by simp[h3]
   ·intro q hq hqn;rcases j9.1 hq with rfl | hq
    ·exact h2
    ·exact h4 q hq hqn
  ·obtain⟨m,h1,h2,h3,h4⟩:=vK n l a h;refine⟨m,h1,h2,?_,?_⟩
   ·rcases h3 with h3 | h3
    ·exact .inl h3
    ·exact .inr<|by simp[h3]
   ·intro q hq hqn;rcases j9.1 hq with rfl | hq
    ·omega
    ·exact h4 q hq hqn
open Bo in
theorem jt{n m:Int}:∀(l:UV QH),(∀e∈l,has e n↔has e m)->cur l n=cur l m:=by
 intro l
 induction l using CZ with
 | h0=>intro _;rfl
 | hs l x ih=>
  intro h;rw[GD,GD,ih λe he=>h e<|by simp[he]];have:=h x (by simp);by_cases hx:has x n
  ·rw[TO hx,TO<|this.1 hx]
  ·rw[RW hx,RW λk=>hx<|this.2 k]
open Bo in
theorem kh{P:Int->Bool}{pre:UV QH}{x:QH}(hP:∀n m,cur pre n=cur pre m->P n=P m):Uc P pre x=true↔∀n,has x n->P n=true:=by
 unfold Uc;rw[s7];constructor
 ·intro h n hn;obtain⟨m,h1,h2,h3,h4⟩:=vK n (u3 pre) x.First hn.1;have hm:=h m (by rcases h3 with h3 | h3<;>simp[h3]);have hxm:has x m:=⟨h2,iH h1 hn.2⟩
  have e:cur pre n=cur pre m:=jt pre λe he=>by
   have p1:e.First<=n->e.First<=m:=h4 e.First (by unfold u3;simp only[List.mem_flatMap];exact⟨e,he,by simp⟩);have p2:e.Last+1<=n->e.Last+1<=m:=h4 (e.Last+1) (by unfold u3;simp only[List.mem_flatMap];exact⟨e,he,by simp⟩);unfold has;omega
  rw[hP n m e];simpa[hxm] using hm
 ·intro h n _;by_cases hn:has x n
  ·simp[hn,h n hn]
  ·simp[hn]
open Bo in
def Iz(l:UV QH)(n:Int):Bool:=match cur l n with | none=>false | some e=>e.Kind==0
open Bo in
theorem jl{n:Int}:Iz l n=true↔hand l n:=by
 unfold Iz hand;cases cur l n<;>simp
open Bo in
def zX(pre:UV QH)(x:QH):Int:=if !uY x then 1 else if x.Kind==0 then(if Uc (λn=>(cur pre n).isNone) pre x then 0 else 5) else if Uc (Iz pre) pre x then 0 else 4
open Bo in
theorem OT(pre:UV QH)(x:QH):V6 pre x=zX pre x:=by
 unfold V6 zX;by_cases h1:uY x=false
 ·rw[TO h1];simp[h1]
 rw[RW h1];have h1' :uY x=true:=by simpa using h1
 simp only[h1',x6,By,T2];by_cases hk:x.Kind=0
 ·have a1:=kh (P:=λn=>(cur pre n).isNone) (pre:=pre) (x:=x) λn m e=>by rw[e]
  simp only[Option.isNone_iff_eq_none] at a1
  have hkb:(x.Kind==0)=true:=by simpa using hk
  rw[hkb,TO rfl,RW (c:=x.Kind≠0/\_) λh=>h.1 hk];by_cases ha:x.Kind=0/\∃n,has x n/\cur pre n≠none
  ·rw[TO ha,RW];intro h;obtain⟨_,n,h2,h3⟩:=ha;exact h3<|a1.1 h n h2
  ·rw[RW ha,TO];exact a1.2 λn hn=>mX λh=>ha ⟨hk,n,hn,h⟩
 ·have a1:=kh (P:=Iz pre) (pre:=pre) (x:=x) λn m e=>by unfold Iz;rw[e]
  simp only[jl] at a1
  have hkb:(x.Kind==0)=false:=by simpa using hk
  rw[hkb,RW (c:=x.Kind=0/\_) λh=>hk h.1];simp only[By,T2];by_cases ha:x.Kind≠0/\∃n,has x n/\¬hand pre n
  ·rw[TO ha,RW];intro h;obtain⟨_,n,h2,h3⟩:=ha;exact h3<|a1.1 h n h2
  ·rw[RW ha,TO];exact a1.2 λn hn=>mX λh=>ha ⟨hk,n,hn,h⟩
def M6:UV QH->UV QH->Int
 | _,[]=>0
 | pre,x::l=>if zX pre x==0 then M6 (pre++[x]) l else zX pre x
open Bo in
theorem vk{p:UV QH}{x:QH}(h:SU V6 l p x):∀(r q:UV QH),p=q++r->Wa V6 p->M6 q (l.drop q.length)=V6 p x:=by
 obtain⟨post,rfl,_,hx⟩:=h;intro r
 induction r with
 | nil=>
  intro q e _;rw[np] at e
  subst e;have e1:(p++x::post).drop p.length=x::post:=by simp
  rw[e1];unfold M6;rw[<-OT];have:(V6 p x==0)=false:=by simpa using hx
  rw[this];rfl
 | cons y r ih=>
  intro q e ho
  have e1:(p++x::post).drop q.length=y::(p++x::post).drop (q++[y]).length:=by
   rw[e];simp
  rw[e1];unfold M6;rw[<-OT,ho q y r e];exact ih (q++[y]) (by rw[e];simp) ho
open Bo in
theorem kW(h:Wa V6 l):∀(r q:UV QH),l=q++r->M6 q r=0
 | [],q,_=>rfl
 | y::r,q,e=>by
  unfold M6;rw[<-OT,h q y r e];exact kW h r (q++[y]) (by rw[e];simp)
def Wc(l:UV QH):Int:=M6 [] l
open Bo in
theorem BF(l:UV QH)(h:l.length<=256):∃b i,YK l=some (b,i,Wc l)/\(Wc l=0->Wa V6 l):=by
 rcases P5 l h with⟨p,x,hb,hr⟩ | ⟨ho,hd,_,_,_,hr⟩
 ·have ho:Wa V6 p:=by obtain⟨post,e,ho,_⟩:=hb;exact ho
  have e:Wc l=V6 p x:=vk hb p [] rfl ho;rw[e];exact⟨_,_,hr,λh0=>by obtain⟨post,_,_,hx⟩:=hb;exact absurd h0 hx⟩
 ·have e:Wc l=0:=kW ho l [] rfl;rw[e];exact⟨_,_,hr,λ_=>ho⟩
def T7(L:QA)(x:QH):RO QA:=if L.stamps.length < 256 then Ul (Wc (L.stamps++[x])==0) (Wc<|L.stamps++[x]) (some<|.ok {L with stamps:=L.stamps++[x]}) else none
theorem NM(L:QA)(x:QH):Le (T7 L x) (K6 L () x):=by
 refine Le.guard λh=> ?_;unfold K6;refine Le.dz _ (Wl (by simp;omega)) ?_;obtain⟨b,i,hr,_⟩:=BF (L.stamps++[x]) (by simp;omega);refine Le.dz _ hr<|Le.check Le.rfl
end
section
open Go.Dec
abbrev qW:UV So:=[111,107]
def zG(L:QA):RL:=some<|.ok (qW,L)
def xw(L:QA):UV Int->RL
 | [d]=>Ul (decide<|d<=65536) 2 (Ul (decide<|d≥L.day) 7<|zG {L with day:=d})
 | _=>none
theorem xv(L:QA)(n:UV Int):Le (xw L n) (Kb L () n):=by
 rcases n with _ | ⟨d,_ | ⟨_,_⟩⟩
 ·exact Le.none
 ·unfold Kb;exact Le.dz d rfl<|Le.cH<|Le.dz d rfl<|Le.cH<|Le.dz d rfl Le.rfl
 ·exact Le.none
def WO:UV Int->H1 (UV<|Int×Int)
 | []=>some []
 | [_]=>none
 | a::b::l=>(WO l).map ((a,b):: ·)
def qe:UV Int->UV (UV Int)
 | []=>[]
 | [a]=>[[a]]
 | a::b::l=>[a,b]::qe l
theorem MM(l:UV Int):∀(d a:Nat),l.length<=a+2*d->Cx 2 l d a=qe (l.drop a)
 | 0,a,h=>by
  have:l.drop a=[]:=nC (by omega);rw[this];rfl
 | d+1,a,h=>by
  unfold Cx;have ih:=MM l d (a+2) (by omega);by_cases ha:a < l.length
  ·rw[TO ha,ih];have e:l.drop (a+2)=(l.drop a).drop 2:=by rw[lk]
   rw[e];rcases hd:l.drop a with _ | ⟨x,_ | ⟨y,r⟩⟩
   ·have:(l.drop a).length=l.length - a:=mg;rw[hd] at this
    simp at this
    omega
   ·rfl
   ·rfl
  ·rw[RW ha];have:l.drop a=[]:=nC (by omega);rw[this];rfl
theorem MN(l:UV Int)(h:l.length<=1000000):VZ l 2=some (qe l):=by
 unfold VZ U4;simp only[show decide ((2:Int) < 1)=false by decide,By,T2,DO];rw[TO<|by omega];have:=MM l l.length 0 (by omega);rw[show((2:Int).toNat)=2 from rfl,this];rfl
theorem FU:∀{l:UV Int} {ps:UV (Int×Int)},WO l=some ps->qe l=ps.map (λp=>[p.1,p.2])/\2*ps.length=l.length
 | [],ps,h=>by simp only[WO,BY] at h;subst h;exact⟨rfl,rfl⟩
 | [_],ps,h=>by cases h
 | a::b::l,ps,h=>by
  simp only[WO,mI] at h
  obtain⟨qs,hq,rfl⟩:=h;obtain⟨h1,h2⟩:=FU hq;exact⟨by simp[qe,h1],by simp;omega⟩
theorem Na(r:Q4):∀(ps:UV (Int×Int)) (acc:UV Z5),acc.length+ps.length<=1000000->
  Yx JT (ps.map λp=>[p.1,p.2]) {r with Rates:=acc}=some {r with Rates:=acc++ps.map λp=>⟨p.1,p.2⟩}
 | [],acc,_=>by simp[Yx]
 | p::ps,acc,h=>by
  simp only[s4,Yx]
  have hb:JT [p.1,p.2] {r with Rates:=acc}=some {r with Rates:=acc++[⟨p.1,p.2⟩]}:=by
   unfold JT;have e0:ZK [p.1,p.2] 0=some p.1:=rfl;have e1:ZK [p.1,p.2] 1=some p.2:=rfl;simp only[e0,e1,DO];rw[Wl (by simp at h ⊢;omega)];rfl
  rw[hb,DO,Na r ps (acc++[(⟨p.1,p.2⟩:Z5)]) (by simp at h ⊢;omega)];simp
def Gx(a b c:Int)(ps:UV (Int×Int)):Q4:=⟨ps.map λp=>⟨p.1,p.2⟩,a,b,c⟩
def ql(L:QA):UV Int->RL
 | a::b::c::ns=>if ns.length<=1000000 then(WO ns).bind λps=>Ul L.rules.isNone 5 (Ul (Ex.GW<|Gx a b c ps) 1<|zG {L with rules:=some (Gx a b c ps)}) else none
 | _=>none
theorem yw(L:QA)(n:UV Int):Le (ql L n) (KE L () n):=by
 rcases n with _ | ⟨a,_ | ⟨b,_ | ⟨c,ns⟩⟩⟩
 ·exact Le.none
 ·exact Le.none
 ·exact Le.none
 refine Le.guard λh=> ?_;cases hp:WO ns with
 | none=>exact Le.none
 | some ps=>
  obtain⟨h1,h2⟩:=FU hp;unfold KE;simp only[DO];refine Le.cH<|Le.dz a rfl<|Le.dz b rfl<|Le.dz c rfl<|Le.dz ns ?_<|Le.dz (qe ns) (MN ns h) ?_
  ·unfold ZW;rw[TO (by simp;omega)];simp only[nW,s6,BY];exact s5<|by simp
  rw[h1];refine Le.dz (Gx a b c ps) ?_ ?_
  ·have:=Na ⟨[],a,b,c⟩ ps [] (by simp;omega);simpa[Gx] using this
  refine Le.dz _ (Ex.yR (by simp[Gx];omega)) ?_;cases hr:Ex.GW (Gx a b c ps) with
  | false=>simp only[r6,Rw];rw[Th];exact Le.rfl
  | true=>
   simp only[x6,By,T2];have e1:(!Ex.W8 0 0 17179869184|| !Ex.W8 0 0 65536)=false:=by decide
   rw[e1,Th];exact Le.rfl
def vM(L:QA):UV Int->RL
 | [c,w,p,m,o]=>Ul (decide<|m<=1073741824) 2 (HM (B7 L ⟨0,0,c,w,o,0,m,p⟩) zG)
 | _=>none
theorem wC(L:QA)(n:UV Int):Le (vM L n) (Kf L () n):=by
 rcases n with _ | ⟨c,_ | ⟨w,_ | ⟨p,_ | ⟨m,_ | ⟨o,_ | ⟨_,_⟩⟩⟩⟩⟩⟩
 iterate 5 exact Le.none
 ·unfold Kf;exact Le.dz m rfl<|Le.cH<|Le.dz c rfl<|Le.dz w rfl<|Le.dz p rfl<|Le.dz m rfl<|Le.dz o rfl<|Le.cK (G7 _ _) λ_=>Le.rfl
 ·exact Le.none
def U7(L:QA)(c:Int):Int:=(Qc L.pure c).getD 0
def Dt(n s:Int):Int:=Q5<|Int.tdiv (Q5<|n*s) 10000
def filled(L:QA)(c pure:Int):RO QA:=if pure > 0 then HM (D1 L ⟨0,0,(atR L c).1.Place,0,0,pure⟩) λL2=>some (.ok {L2 with pure:=Qx L2.pure c (Q5<|U7 L2 c+pure)}) else some<|.ok L
def vh(L:QA):UV Int->RL
 | [c,n,s]=>Ul (decide (1<=s)&&decide (s<=10000)) 2 (HM (B7 L ⟨1,0,c,0,0,0,n,0⟩) λL1=>HM (filled L1 c<|Dt n s) zG)
 | _=>none
theorem wP(L:QA)(n:UV Int):Le (vh L n) (Kr L () n):=by
 rcases n with _ | ⟨c,_ | ⟨n,_ | ⟨s,_ | ⟨_,_⟩⟩⟩⟩
 iterate 3 exact Le.none
 ·unfold Kr;refine Le.dz s rfl<|Le.dz (decide (1<=s)&&decide (s<=10000)) ?_<|Le.cH<|Le.dz c rfl<|Le.dz n rfl<|Le.cK (G7 _ _) λL1=>Le.dz n rfl<|Le.dz s rfl ?_
  ·cases h:decide (1<=s)<;>rfl
  simp only[QR];unfold filled HM Dt U7;by_cases hp:Q5 (Int.tdiv (Q5<|n*s) 10000) > 0
  ·simp only[hp,nc,Rw];rw[show ZK [c,n,s] 0=some c from rfl,DO,EX,DO];intro y e;cases hd:D1 L1 ⟨0,0,(atR L1 c).1.Place,0,0,Q5<|Int.tdiv (Q5<|n*s) 10000⟩ with
   | none=>rw[hd] at e;cases e
   | some r=>
    rw[hd] at e
    rw[Tb _ _ r hd];cases r<;>exact e
  ·simp only[hp,nk,By,T2];exact Le.rfl
 ·exact Le.none
def No(L:QA)(c:ZU)(amount:Int):H1 Int:=if amount==c.Amount then some (U7 L c.Number) else BK .i64 (Q5<|U7 L c.Number*amount) c.Amount
theorem kD(L:QA)(c:ZU)(amount:Int):Le (No L c amount) (J8 L () c amount):=by
 unfold No J8;refine Le.ite Le.rfl<|Le.of ?_;unfold U7;cases BK .i64 (Q5<|(Qc L.pure c.Number).getD 0*amount) c.Amount<;>rfl
def Nt(L:QA)(fro to n:Int):RO QA:=if n==0||fro==to then some (.ok L) else HM (D1 L ⟨1,0,fro,to,L.ids,n⟩) λL1=>HM (D1 L1 ⟨2,0,to,0,L1.ids,n⟩) λL2=>some<|.ok {L2 with ids:=Q5 (L2.ids+1)}
theorem kJ(L:QA)(fro to n:Int):Le (Nt L fro to n) (J9 L () fro to n):=by
 unfold J9;exact Le.ite Le.rfl<|Le.cK (Tb _ _) λ_=>Le.cK (Tb _ _) λ_=>Le.rfl
def X2(L:QA)(c v:Int):QA:={L with pure:=Qx L.pure c v}
def yz(L:QA):UV Int->RL
 | [a,b,n]=>HM (B7 L ⟨2,0,a,b,0,0,n,0⟩) λL1=>(No L1 (atR L a).1 n).bind λp=>HM (Nt L1 (atR L a).1.Place (atR L b).1.Place p) λL2=>
  zG (X2 (X2 L2 a<|Q5<|U7 L2 a - p) b<|Q5<|U7 (X2 L2 a<|Q5<|U7 L2 a - p) b+p)
 | _=>none
theorem uy(L:QA)(n:UV Int):Le (yz L n) (Kp L () n):=by
 rcases n with _ | ⟨a,_ | ⟨b,_ | ⟨n,_ | ⟨_,_⟩⟩⟩⟩
 iterate 3 exact Le.none
 ·unfold Kp;refine Le.dz a rfl<|Le.dz _ (EX _ _)<|Le.dz b rfl<|Le.dz _ (EX _ _)<|Le.dz a rfl<|Le.dz b rfl<|Le.dz n rfl<|Le.cK (G7 _ _) λL1=>Le.dz n rfl ?_;refine Le.bind (kD _ _ _) λp=>Le.cK (kJ _ _ _ _) λL2=>Le.dz a rfl ?_;simp only[QR];refine Le.dz b rfl Le.rfl
 ·exact Le.none
def zh(L:QA):UV Int->RL
 | [a,p]=>HM (B7 L ⟨4,0,a,0,0,0,0,p⟩) λL1=>HM (Nt L1 (atR L a).1.Place p<|U7 L1 a) zG
 | _=>none
theorem uD(L:QA)(n:UV Int):Le (zh L n) (Ke L () n):=by
 rcases n with _ | ⟨a,_ | ⟨p,_ | ⟨_,_⟩⟩⟩
 iterate 2 exact Le.none
 ·unfold Ke;exact Le.dz a rfl<|Le.dz _ (EX _ _)<|Le.dz a rfl<|Le.dz p rfl<|Le.cK (G7 _ _) λL1=>Le.dz p rfl<|Le.dz a rfl<|Le.cK (kJ _ _ _ _) λL2=>Le.rfl
 ·exact Le.none
def NA(k:Int)(L:QA):UV Int->RL
 | [c,p,t]=>HM (B7 L ⟨k,0,c,0,p,t,0,0⟩) zG
 | _=>none
theorem uq(L:QA)(n:UV Int):Le (NA 5 L n) (Ko L () n):=by
 rcases n with _ | ⟨a,_ | ⟨b,_ | ⟨n,_ | ⟨_,_⟩⟩⟩⟩
 iterate 3 exact Le.none
 ·unfold Ko;exact Le.dz a rfl<|Le.dz b rfl<|Le.dz n rfl<|Le.cK (G7 _ _) λ_=>Le.rfl
 ·exact Le.none
theorem jT(L:QA)(n:UV Int):Le (NA 6 L n) (KT L () n):=by
 rcases n with _ | ⟨a,_ | ⟨b,_ | ⟨n,_ | ⟨_,_⟩⟩⟩⟩
 iterate 3 exact Le.none
 ·unfold KT;exact Le.dz a rfl<|Le.dz b rfl<|Le.dz n rfl<|Le.cK (G7 _ _) λ_=>Le.rfl
 ·exact Le.none
def vc(L:QA):UV Int->RL
 | [c,p]=>HM (B7 L ⟨7,0,c,0,p,0,0,0⟩) zG
 | _=>none
theorem wM(L:QA)(n:UV Int):Le (vc L n) (Kq L () n):=by
 rcases n with _ | ⟨a,_ | ⟨p,_ | ⟨_,_⟩⟩⟩
 iterate 2 exact Le.none
 ·unfold Kq;exact Le.dz a rfl<|Le.dz p rfl<|Le.cK (G7 _ _) λ_=>Le.rfl
 ·exact Le.none
def uA(L:QA):UV Int->RL
 | [c,w]=>HM (B7 L ⟨8,0,c,0,0,0,0,w⟩) zG
 | _=>none
theorem wZ(L:QA)(n:UV Int):Le (uA L n) (Ks L () n):=by
 rcases n with _ | ⟨a,_ | ⟨p,_ | ⟨_,_⟩⟩⟩
 iterate 2 exact Le.none
 ·unfold Ks;exact Le.dz a rfl<|Le.dz p rfl<|Le.cK (G7 _ _) λ_=>Le.rfl
 ·exact Le.none
def TG(k:Int)(L:QA):UV Int->RL
 | [a,b]=>HM (T7 L ⟨k,a,b,0⟩) zG
 | _=>none
theorem vY(L:QA)(n:UV Int):Le (TG 0 L n) (Kd L () n):=by
 rcases n with _ | ⟨a,_ | ⟨p,_ | ⟨_,_⟩⟩⟩
 iterate 2 exact Le.none
 ·unfold Kd;exact Le.dz a rfl<|Le.dz p rfl<|Le.cK (NM _ _) λ_=>Le.rfl
 ·exact Le.none
theorem yo(L:QA)(n:UV Int):Le (TG 2 L n) (Kc L () n):=by
 rcases n with _ | ⟨a,_ | ⟨p,_ | ⟨_,_⟩⟩⟩
 iterate 2 exact Le.none
 ·unfold Kc;exact Le.dz a rfl<|Le.dz p rfl<|Le.cK (NM _ _) λ_=>Le.rfl
 ·exact Le.none
def TQ(L:QA)(place num part:Int):RO QA:=if part > 0 then HM (D1 L ⟨3,0,place,0,0,part⟩) λL2=>some (.ok<|X2 L2 num<|Q5<|U7 L2 num - part) else some<|.ok L
def Td(L:QA)(num amount:Int):RO (Qq×QA):=
 Ul ((atR L num).2==0) (atR L num).2 (HM (B7 L ⟨3,0,num,0,0,0,amount,0⟩) λL1=>(No L1 (atR L num).1 amount).bind λp=>HM (TQ L1 (atR L num).1.Place num p) λL2=>
  (BK .i64 (Q5<|p*10000) amount).bind λlo=>(BK .i64 (Q5<|Q5 (Q5 (p*10000)+amount) - 1) amount).bind λhi=>some<|.ok (⟨(atR L num).1,amount,⟨lo,hi⟩⟩,L2))
theorem za(L:QA)(num amount:Int):Le (Td L num amount) (JH L () num amount):=by
 unfold JH;refine Le.dz _ (EX _ _)<|Le.check<|Le.cK (G7 _ _) λL1=>Le.bind (kD _ _ _) λp=> ?_;unfold TQ HM;by_cases hp:p > 0
 ·simp only[hp,nc,Rw];intro y e;cases hd:D1 L1 ⟨3,0,(atR L num).1.Place,0,0,p⟩ with
  | none=>rw[hd] at e;cases e
  | some r=>
   rw[hd] at e
   rw[Tb _ _ r hd];cases r<;>exact e
 ·simp only[hp,nk,By,T2];exact Le.rfl
def BX:UV (Int×Int)->QU->QA->RO (QU×QA)
 | [],b,L=>some (.ok (b,L))
 | x::xs,b,L=>HM (Td L x.1 x.2) λr=>if b.Draughts.length<=1000000 then BX xs {b with Draughts:=b.Draughts++[r.1]} r.2 else none
theorem qB:∀(ps:UV (Int×Int)) (b:QU) (L:QA),Le (BX ps b L) (M5 (VM ()) (ps.map λp=>[p.1,p.2]) (b,L))
 | [],b,L=>Le.rfl
 | p::ps,b,L=>by
  simp only[s4,M5,BX];have hb:VM () [p.1,p.2] (b,L)=Qw (JH L () p.1 p.2) (λq=>some<|.pan q) λr=>(J3 b.Draughts [r.1]).bind λl=>QR {b with Draughts:=l} λx=>some (.ok (x,r.2)):=rfl;rw[hb];intro y hy;cases hd:Td L p.1 p.2 with
  | none=>rw[hd] at hy;cases hy
  | some r=>
   rw[hd] at hy
   rw[za _ _ _ _ hd];cases r with
   | pan q=>exact hy
   | ok r=>
    by_cases h:b.Draughts.length<=1000000
    ·simp only[HM,Qw,TO h] at hy
     simp only[Qw,QR];rw[Wl (by simp;omega)];exact qB ps _ _ y hy
    ·simp only[HM,Qw,RW h] at hy;cases hy
def z6(b:QU):Int:=Q5<|Int.tdiv (Bo.jB b b.Water).Lo 700
open Bo in
theorem PY{b:QU}(hl:b.Draughts.length<=1000)(hv:X8 b=true):∃k,Xs b 700=some (z6 b,k,0):=by
 obtain⟨x,he,hx⟩:=OA b hl;have h:=(FH b).1 hv;unfold Xs;rw[he,hv,hx hv];have e:QW 700 1 1048576=true:=by decide
 simp only[DO,x6,By,T2,e];rw[LR h h.water.1 h.water.2];exact⟨_,rfl⟩
def Od(L:QA):UV Int->RL
 | num::w::a::z::ds=>if ds.length<=1000000 then(WO ds).bind λps=>Ul (Qc L.batches num).isNone 5 (HM (BX ps ⟨[],w,⟨0,0⟩,false,false⟩ L) λr=>
  if r.1.Draughts.length<=1000 then Ul (Bo.X8 r.1) 1 (Ul (decide<|Q5 (Q5 (z - a)+1)<=z6 r.1) 12<|HM (T7 r.2 ⟨1,a,z,num⟩) λL2=>zG {L2 with batches:=Qx L2.batches num r.1}) else none) else none
 | _=>none
theorem j5(L:QA)(n:UV Int):Le (Od L n) (KU L () n):=by
 rcases n with _ | ⟨num,_ | ⟨w,_ | ⟨a,_ | ⟨z,ds⟩⟩⟩⟩
 iterate 4 exact Le.none
 refine Le.guard λh=> ?_;cases hp:WO ds with
 | none=>exact Le.none
 | some ps=>
  obtain⟨h1,h2⟩:=FU hp;unfold KU;simp only[DO,QR];refine Le.dz num rfl<|Le.dz a rfl<|Le.dz z rfl ?_;have e:(!(Qc L.batches num).isSome)=(Qc L.batches num).isNone:=by cases Qc L.batches num<;>rfl
  rw[e];refine Le.cH<|Le.dz w rfl<|Le.dz ds ?_<|Le.dz (qe ds) (MN ds h) ?_
  ·unfold ZW;rw[TO (by simp;omega)];simp only[nW,s6,BY];exact s5<|by simp
  rw[h1];refine Le.cK (qB _ _ _) λr=>Le.guard λhr=> ?_;rcases Bo.zk r.1 hr with⟨hv,he⟩ | ⟨hv,x,he,_⟩
  ·refine Le.dz _ he ?_;rw[hv,Th];exact Le.rfl
  ·have hvb:=(Bo.FH r.1).2 hv;refine Le.dz _ he ?_;rw[hvb];obtain⟨k,hk⟩:=PY hr hvb;refine Le.check (e:=0) ?_;refine Le.dz _ hk ?_;exact Le.cH<|Le.cK (NM _ _) λL2=>Le.rfl
def xf(L:QA):UV Int->RL
 | [a]=>HM (D1 L ⟨6,0,0,0,0,a⟩) zG
 | _=>none
theorem xe(L:QA)(n:UV Int):Le (xf L n) (K3 L () n):=by
 rcases n with _ | ⟨a,_ | ⟨_,_⟩⟩
 ·exact Le.none
 ·unfold K3;exact Le.dz a rfl<|Le.cK (Tb _ _) λ_=>Le.rfl
 ·exact Le.none
end
section
open Go.Dec
def NS(w:UV So)(l:UV Int)(L:QA):RL:=if w.length<=1000/\l.length<=100000/\l.all OK=true then some (.ok (X7 w l,L)) else none
theorem NR(w:UV So)(l:UV Int)(L:QA):Le (NS w l L) ((Jf w l).bind λr=>some<|.ok (r,L)):=Le.guard λh=>Le.dz _ (NX h.1 h.2.1 h.2.2) Le.rfl
def T8(L:QA):UV Int->RL
 | [c]=>Ul ((atR L c).2==0) (atR L c).2 (NS [99,97,115,107] [(atR L c).1.Amount,(atR L c).1.Age,(atR L c).1.Owner,(atR L c).1.Creditor,U7 L c] L)
 | _=>none
theorem ID(L:QA)(n:UV Int):Le (T8 L n) (KC L () n):=by
 rcases n with _ | ⟨c,_ | ⟨_,_⟩⟩
 ·exact Le.none
 ·unfold KC;exact Le.dz c rfl<|Le.dz _ (EX _ _)<|Le.check<|Le.dz c rfl<|NR _ _ _
 ·exact Le.none
def EW(L:QA):H1 ZV:=match L.rules with
 | none=>none
 | some r=>if r.Rates.length<=1000000 then some (B0 r L.duties L.day).1 else none
theorem kf(L:QA):Le (EW L) (YA L ()):=by
 unfold EW YA;cases hr:L.rules with
 | none=>exact Le.none
 | some r=>
  refine Le.guard λh=> ?_;rw[DO];exact Le.dz _ (Ex.Su h<|by omega) Le.rfl
def T9(L:QA):UV Int->RL
 | [c]=>Ul (decide<|c < 16) 2 ((EW L).bind λb=>(VJ 16 c).bind λj=>NS [98,111,110,100] [b.Bonds j] L)
 | _=>none
theorem IE(L:QA)(n:UV Int):Le (T9 L n) (KD L () n):=by
 rcases n with _ | ⟨c,_ | ⟨_,_⟩⟩
 ·exact Le.none
 ·unfold KD;exact Le.dz c rfl<|Le.cH<|Le.bind (kf _) λb=>Le.dz c rfl<|Le.bind Le.rfl λj=>NR _ _ _
 ·exact Le.none
def TH(L:QA)(_:UV Int):RL:=(EW L).bind λb=>NS [100,117,101] [b.Due,b.Paid] L
theorem qi(L:QA)(n:UV Int):Le (TH L n) (KN L () n):=by
 unfold KN;exact Le.bind (kf _) λb=>NR _ _ _
def T3(l:UV QH)(n:Int):H1 (Int×Int):=if l.length<=256 then some (if Wc l==0 then Bo.P1 l n else(0,Wc l)) else none
theorem yf(l:UV QH)(n:Int):Le (T3 l n) (Vs l n):=by
 refine Le.guard λh=> ?_;obtain⟨b,i,hr,ho⟩:=BF l h;cases he:Wc l==0 with
 | true=>exact Le.of (Bo.qZ n h<|ho<|by simpa using he)
 | false=>exact Le.of<|Bo.jA n hr<|by simpa using he
def FO(L:QA):UV Int->RL
 | [c]=>(T3 L.stamps c).bind λr=>Ul (r.2==0) r.2 (NS [98,97,116,99,104] [r.1] L)
 | _=>none
theorem En(L:QA)(n:UV Int):Le (FO L n) (Z0 L () n):=by
 rcases n with _ | ⟨c,_ | ⟨_,_⟩⟩
 ·exact Le.none
 ·unfold Z0;exact Le.dz c rfl<|Le.bind (yf _ _) λr=>Le.check<|NR _ _ _
 ·exact Le.none
def vW(b:QU):Qp:=⟨Bo.jB b b.Water,Bo.ui b b.Water,Bo.DQ b.Draughts λd=>d.From.Age,λi=>Bo.DQ b.Draughts λd=>d.From.Woods i,λi=>Bo.DQ b.Draughts λd=>d.From.Places i,(Bo.M1 b.Draughts).length⟩
open Bo in
theorem qf{b:QU}{x:Qp}{c:Qt}(h:kl b b.Water x)(hc:xU c):DC b x c=DC b (vW b) c:=by
 unfold DC;rw[h.age,h.casks,h.str];by_cases h0:c.Kind=0
 ·rw[TO h0,TO h0];rfl
 rw[RW h0,RW h0];by_cases h1:c.Kind=1
 ·rw[TO h1,TO h1,h.woods _ (by have:=hc.what<|.inl h1;omega)];rfl
 rw[RW h1,RW h1];by_cases h2:c.Kind=2
 ·rw[TO h2,TO h2,h.places _ (by have:=hc.what<|.inr h2;omega)];rfl
 rw[RW h2,RW h2];rfl
def OY(b:QU)(c:Qt):H1 (Bool×Int):=if b.Draughts.length<=1000 then some (if Bo.X8 b&&Bo.DJ c then(Bo.DC b (vW b) c,0) else(true,1)) else none
open Bo in
theorem v7{β:Type}(b:QU)(c:Qt)(k:Bool×Int->H1 β)(g:UV Int×Int->H1 β)(h:∀l e,Le (k (decide<|l.length=0,e))<|g (l,e)):Le ((OY b c).bind k) ((Ua b [c]).bind g):=by
 unfold OY;by_cases hb:b.Draughts.length<=1000
 ·rw[TO hb,DO];have ec:GF [c]=DJ c:=by simp[GF]
  rcases zW b [c] hb (by simp) with⟨hv,hr⟩ | ⟨hv,hc,hall,x,hx,_,hr⟩
  ·rw[ec] at hv
   rw[hr,hv];exact h [] 1
  ·rw[ec] at hc
   rw[hr,(FH b).2 hv,hc];simp only[Bool.and_self,Rw,DO];rw[<-qf hx (hall c<|by simp)];cases ht:DC b x c with
   | true=>
    have e:Bo.liesAt (DC b x) 0 [c]=[]:=by simp[Bo.liesAt,ht]
    rw[e];exact h [] 0
   | false=>
    have e:Bo.liesAt (DC b x) 0 [c]=[0]:=by simp[Bo.liesAt,ht]
    rw[e];exact h [0] 0
 ·rw[RW hb];exact Le.none
abbrev yg:UV So:=[116,114,117,101]
abbrev qb:UV So:=[102,97,108,115,101]
theorem wb(b:Bool):Ux b=some (if b then yg else qb):=by cases b<;>rfl
def Hn(L:QA):UV Int->RL
 | [n,k,w,v]=>match Qc L.batches n with
  | none=>some (.pan ⟨4⟩)
  | some b=>(OY b ⟨k,w,v⟩).bind λr=>Ul (r.2==0) r.2 (some<|.ok (if r.1 then yg else qb,L))
 | _=>none
theorem Ep(L:QA)(n:UV Int):Le (Hn L n) (Z2 L () n):=by
 rcases n with _ | ⟨n,_ | ⟨k,_ | ⟨w,_ | ⟨v,_ | ⟨_,_⟩⟩⟩⟩⟩
 iterate 4 exact Le.none
 ·unfold Z2 Hn;refine Le.dz n rfl ?_;simp only[QR];cases hb:Qc L.batches n with
  | none=>
   simp only[ml];rw[Sc];exact Le.rfl
  | some b=>
   simp only[ld];rw[Sc];simp only[Rw,Qw];refine Le.dz k rfl<|Le.dz w rfl<|Le.dz v rfl ?_;rw[lU];refine v7 b ⟨k,w,v⟩ _ _ λl e=> ?_;refine Le.check ?_;rw[wb];refine Le.of ?_;have:((l.length:Int)==0)=decide (l.length=0):=by rw[lO];simp
   rw[this];rfl
 ·exact Le.none
def Ab(L:QA):UV Int->RL
 | [c]=>Ul ((Ca.NN L.casks c L.day).2==0) (Ca.NN L.casks c L.day).2 (NS [102,105,108,108,115] (Ca.NN L.casks c L.day).1 L)
 | _=>none
theorem Eo(L:QA)(n:UV Int):Le (Ab L n) (Z1 L () n):=by
 rcases n with _ | ⟨c,_ | ⟨_,_⟩⟩
 ·exact Le.none
 ·unfold Z1;exact Le.dz c rfl<|Le.dz _ (Ca.Ot _ _ _)<|Le.check<|NR _ _ _
 ·exact Le.none
structure Wd where
 word:List UInt8
 least:Int
 each:Int
 does:QA->List Int->RL
def Hm:UV Wd:=[
 ⟨[100,97,121],1,0,xw⟩,⟨[114,117,108,101,115],3,2,ql⟩,⟨[109,97,107,101],5,0,vM⟩,⟨[102,105,108,108],3,0,vh⟩,⟨[114,97,99,107],3,0,yz⟩,
 ⟨[99,97,114,114,121],2,0,zh⟩,⟨[115,101,108,108],3,0,NA 5⟩,⟨[112,108,101,100,103,101],3,0,NA 6⟩,⟨[102,114,101,101],2,0,vc⟩,⟨[99,104,97,114],2,0,uA⟩,
 ⟨[115,116,97,109,112,115],2,0,TG 0⟩,⟨[115,112,111,105,108],2,0,TG 2⟩,⟨[98,111,116,116,108,101],4,2,Od⟩,⟨[112,97,121],1,0,xf⟩,⟨[99,97,115,107],1,0,T8⟩,
 ⟨[98,111,110,100],1,0,T9⟩,⟨[100,117,101],0,0,TH⟩,⟨[119,104,111,115,101],1,0,FO⟩,⟨[99,108,97,105,109],4,0,Hn⟩,⟨[102,105,108,108,115],1,0,Ab⟩]
def AY(w:UV So):H1 Wd:=Hm.find? λd=>d.word==w
inductive Eb:List Wd->List (List UInt8×QX)->Prop where
 | nil:Eb [] []
 | cons {w:List UInt8} {a b:Int} {f:QA->List Int->RL} {g:QA×Unit×List Int->RL} {l:List Wd} {k:List (List UInt8×QX)} (h:∀L n,Le (f L n)<|g (L,(),n)) (r:Eb l k):Eb (⟨w,a,b,f⟩::l) ((w,⟨⟨a,b⟩,g⟩)::k)
theorem Eb.get{l:UV Wd}{k:UV (UV So×QX)}(h:Eb l k)(w:UV So):match l.find? (λd=>d.word==w) with
  | none=>Qc k w=none
  | some d=>∃g,Qc k w=some ⟨⟨d.least,d.each⟩,g⟩/\∀L n,Le (d.does L n) (g (L,(),n)):=by
 induction h with
 | nil=>rfl
 | @cons w' a b f g l k h r ih=>
  by_cases hw:w' =w
  ·subst hw;simp only[ma,mf];exact⟨g,by simp[Qc],h⟩
  ·have e:(w' ==w)=false:=by simpa using hw
   have e' :(w==w')=false:=by simpa using λh=>hw h.symm
   simp only[ma,e];have em:Qc ((w',(⟨⟨a,b⟩,g⟩:QX))::k) w=Qc k w:=by simp[Qc,e']
   rw[em];exact ih
theorem vw:∃k,XL=some k/\Eb Hm k:=by
 refine⟨_,by unfold XL;simp only[QR];rfl,?_⟩;exact .cons xv<|.cons yw<|.cons wC<|.cons wP<|.cons uy<|.cons uD<|.cons uq<|.cons jT<|.cons wM<|.cons wZ<|.cons vY<|.cons yo<|.cons j5<|.cons xe<|.cons ID<|.cons IE<|.cons qi<|.cons En<|.cons Ep<|.cons Eo .nil
end
section
open Go.Dec
def Gh(least each:Int)(n:Int):Bool:=if each==0 then n==least else decide (n > least)&&(n - least)%each==0
theorem wN(a b:Int)(n:Nat)(ha:0<=a/\a<=100)(hn:n<=1000000):UU ⟨a,b⟩ (n:Int)=some (Gh a b n):=by
 unfold UU Gh;simp only;cases h:b==0 with
 | true=>rfl
 | false=>
  have hb0:b≠0:=by simpa using h
  by_cases hg:(n:Int) > a
  ·simp only[hg,nc,Rw,mA,By,T2];unfold PC;rw[RW hb0,Qn (by omega) (by omega),lT<|by omega];rfl
  ·simp only[hg,nk,By,T2,ll];rfl
def AJ(L:QA)(line:UV So):RL:=
 if line.length > 1000 then some (.pan ⟨3⟩) else match HQ line with
  | .pan q=>some (.pan q)
  | .ok w=>match AY w.1 with
   | none=>some (.pan ⟨8⟩)
   | some d=>Ul (Gh d.least d.each w.2.length) 8 (Ul (!L.rules.isNone||w.1==[100,97,121]||w.1==[114,117,108,101,115]) 6
    (if L.casks.length<=1000000/\L.duties.length<=1000000/\L.stamps.length<=1000000 then d.does L w.2 else none))
def wX(L:QA)(line:UV So):H1 (UV So×Int×QA):=match AJ L line with
 | none=>none
 | some (.pan q)=>some ([],q.e,L)
 | some (.ok r)=>some (r.1,0,r.2)
theorem uc:∀d∈Hm,(0<=d.least/\d.least<=100)/\(0<=d.each/\d.each<=100):=by
 unfold Hm;simp only[j9,lu,oM];rintro d (rfl | rfl | rfl | rfl | rfl | rfl | rfl | rfl | rfl | rfl | rfl | rfl | rfl | rfl | rfl | rfl | rfl | rfl | rfl | rfl)<;>exact⟨⟨by decide,by decide⟩,by decide,by decide⟩
theorem NZ{line:UV So}{w:UV So×UV Int}(h:HQ line= .ok w):w.2.length<=line.length:=by
 have hl:∀s:UV So,(Jc s).length<=s.length+1:=by
  intro s
  induction s with
  | nil=>simp[Jc]
  | cons c l ih=>
   unfold Jc;split
   ·simpa using ih
   ·split<;>rename_i he
    ·simp
    ·rw[he] at ih;simp at ih ⊢;omega
 have:=hl line;unfold HQ at h
 split at h
 ·cases h
 ·rename_i p ps he;rw[he] at this
  split at h
  ·simp only[Out.ok.injEq] at h
   subst h;simp at this ⊢
   omega
  ·cases h
theorem jx{L:QA}(h:L.casks.length<=1000000/\L.duties.length<=1000000/\L.stamps.length<=1000000):YR L=some L:=by
 unfold YR Vj Vi VL;rw[Wl (by simp;omega),Wl (by simp;omega),Wl (by simp;omega)];rfl
theorem TI{α:Type}{l:UV α}{i:Nat}{x:α}(h:l[i]? =some x):l.set i x=l:=by
 obtain⟨hi,rfl⟩:=AC.1 h;exact iI hi
theorem xM{A:UV Qr}{i:Nat}{L:QA}(hA:A[i]? =some ⟨L,true⟩)(line:UV So):Le ((wX L line).map λr=>(r.1,r.2.1,A.set i ⟨r.2.2,true⟩)) (WZ A (some i) line):=by
 have hself:=TI hA;unfold wX AJ WZ;simp only[eE,By,T2,DO,hA,x6];by_cases hl:line.length > 1000
 ·have e:decide ((line.length:Int) > 1000)=true:=nM (by omega);rw[TO hl,e];simp only[x7,hself];exact Le.rfl
 have e:decide ((line.length:Int) > 1000)=false:=nE (by omega);rw[RW hl,e,jR line<|by omega];simp only[By,T2];cases hr:HQ line with
 | pan q=>simp only[x7,hself];exact Le.rfl
 | ok w=>
  have hwl:=NZ hr;obtain⟨k,hk,hrows⟩:=vw;have hg:=hrows.get w.1;simp only[Qw,hk,DO];cases hw:AY w.1 with
  | none=>
   unfold AY at hw
   rw[hw] at hg
   rw[hg];simp only[x7,hself];exact Le.rfl
  | some d=>
   have hd:d∈Hm:=mJ hw;unfold AY at hw
   rw[hw] at hg
   obtain⟨g,hg,hle⟩:=hg;rw[hg];obtain⟨ha,_⟩:=uc d hd;unfold XM;simp only;rw[wN _ _ _ ha (by omega),DO,Sc];unfold Ul;cases hf:Gh d.least d.each w.2.length with
   | false=>simp only[By,T2,x7,hself];exact Le.rfl
   | true=>
    simp only[Rw,Qw]
    have ez:((if(!L.rules.isNone)=true then some true else some (w.1==([100,97,121]:UV So))).bind λz1=>if z1=true then some true else some (w.1==([114,117,108,101,115]:UV So)))=some (!L.rules.isNone||w.1==[100,97,121]||w.1==[114,117,108,101,115]):=by
     cases L.rules.isNone<;>cases w.1==([100,97,121]:UV So)<;>rfl
    rw[<-Option.bind_assoc,ez,DO,Sc];cases hs:(!L.rules.isNone||w.1==[100,97,121]||w.1==[114,117,108,101,115]) with
    | false=>show Le (some ([],(6:Int),A.set i ⟨L,true⟩)) _;rw[hself];exact Le.rfl
    | true=>
     simp only[Rw];by_cases hc:L.casks.length<=1000000/\L.duties.length<=1000000/\L.stamps.length<=1000000
     ·rw[TO hc,jx hc];intro y hy;cases hx:d.does L w.2 with
      | none=>rw[hx] at hy;cases hy
      | some r=>
       rw[hx] at hy
       simp only[DO,hle _ _ _ hx];cases r with
       | pan q=>have hy:some (([]:UV So),q.e,A.set i ⟨L,true⟩)=some y:=hy;rw[hself] at hy;exact hy
       | ok r=>exact hy
     ·rw[RW hc];exact Le.none
def Ff:QA:=⟨0,none,[],[],[],[],[],0⟩
def NY(s:UV So)(e:Int):UV So:=if e==0 then s else X7 qc [e]
def IY:UV (UV So)->QA->UV So->H1 (QA×UV So)
 | [],L,out=>some (L,out)
 | x::xs,L,out=>match wX L x with
  | none=>none
  | some r=>if OK r.2.1=true/\out.length+(NY r.1 r.2.1).length<=1000000000 then IY xs r.2.2 (out++(NY r.1 r.2.1++[10])) else none
theorem E1:∀(l:UV (UV So)) (L:QA) (out:UV So),Le ((IY l L out).map λr=>([(⟨r.1,true⟩:Qr)],r.2)) (Yx (H4<|some 0) l ([⟨L,true⟩],out))
 | [],L,out=>Le.rfl
 | x::xs,L,out=>by
  unfold IY Yx;cases hd:wX L x with
  | none=>exact Le.none
  | some r=>
   by_cases hc:OK r.2.1=true/\out.length+(NY r.1 r.2.1).length<=1000000000
   ·simp only;rw[TO hc];refine Le.dz ([⟨r.2.2,true⟩],out++(NY r.1 r.2.1++[10])) ?_<|E1 xs _ _;have h1:=xM (A:=[⟨L,true⟩]) (i:=0) rfl x (r.1,r.2.1,[⟨r.2.2,true⟩]) (by rw[hd];rfl);unfold H4;rw[h1,DO];have hl:=hc.2;unfold NY at hl ⊢
    cases he:r.2.1==0 with
    | true=>
     have:(r.2.1 != 0)=false:=by simpa using he
     simp only[this,By,T2,Rw];rw[he] at hl
     simp only[Rw] at hl
     unfold Wx;rw[Hx (by omega),DO,Hx (by simp;omega)];simp
    | false=>
     have:(r.2.1 != 0)=true:=by simpa using he
     simp only[this,Rw,By,T2];rw[he] at hl
     simp only[By,T2] at hl
     rw[NX (by decide) (by simp) (by simpa using hc.1),DO];unfold Wx;rw[Hx (by omega),DO,Hx (by simp;omega)];simp
   ·simp only;rw[RW hc];exact Le.none
def y5(script:UV So):H1 (UV So×Int):=if script.length > 262144 then some ([],3) else if !(script==[])&& !RM script then some ([],8) else(IY (N0 script) Ff []).map λr=>(r.2,0)
theorem w4(script:UV So):Le (y5 script) (Xq script):=by
 unfold y5 Xq;by_cases hl:script.length > 262144
 ·have e:decide ((script.length:Int) > 262144)=true:=nM (by omega);rw[TO hl,e];exact Le.rfl
 have e:decide ((script.length:Int) > 262144)=false:=nE (by omega);rw[RW hl,e];simp only[By,T2]
 have ez:(if(!(script==([]:UV So)))=true then(Jz script [10]).bind λh=>some (!h) else some false)=some (!(script==[])&& !RM script):=by
  cases script==([]:UV So) with
  | true=>rfl
  | false=>simp only[r6,Rw];rw[TY _<|by omega];rfl
 rw[ez,DO];refine Le.ite Le.rfl ?_;refine Le.dz (some 0,[⟨Ff,true⟩]) rfl ?_;intro y hy;cases hp:IY (N0 script) Ff [] with
 | none=>rw[hp] at hy;cases hy
 | some r=>
  have:=E1 (N0 script) Ff [] ([⟨r.1,true⟩],r.2) (by rw[hp];rfl);rw[this,DO];rw[hp] at hy
  exact hy
end
end Go.Proofs.YtepbamgmocpemaaGreatDoor
section
set_option maxRecDepth 100000
namespace Go.Proofs.YtepbamgmocpemaaGreatDoor
open Go.Dec
theorem IJ:y5 JO.1=some (JO.2,0):=by decide+kernel
theorem MZ:WS=some true:=by
 unfold WS;rw[w4 _ _ IJ]
 decide+kernel
end Go.Proofs.YtepbamgmocpemaaGreatDoor
end
namespace Go.Proofs.YtepbamgmocpemaaGreatDoor.Ca
section
open Go.Dec
inductive ko(l:List Zj)(x:Ev)(num:Int):List Zj->Prop
 | make (k:x.Kind=0) (f:Ye l x.Cask=none) (n:l.length < 256):ko l x num (l++[wB x])
 | fill (k:x.Kind=1) (i:Nat) (c:Zj) (f:Ye l x.Cask=some i) (h:l[i]? =some c) (r:c.C.Amount+x.Amount<=c.C.Room):ko l x num (l.set i<|XH c (AM num) x.Amount)
 | rack (k:x.Kind=2) (i:Nat) (c:Zj) (f:Ye l x.Cask=some i) (h:l[i]? =some c) (j:Nat) (o:Zj) (f' :Ye l x.Other=some j) (h' :l[j]? =some o) (ne:i≠j)
  (ow:c.C.Owner=o.C.Owner) (c1:c.C.Creditor < 0) (c2:o.C.Creditor < 0) (a:x.Amount<=c.C.Amount) (r:o.C.Amount+x.Amount<=o.C.Room):ko l x num ((l.set j<|XH o c x.Amount).set i<|Xt c x.Amount)
 | drain (k:x.Kind=3) (i:Nat) (c:Zj) (f:Ye l x.Cask=some i) (h:l[i]? =some c) (c1:c.C.Creditor < 0) (a:x.Amount<=c.C.Amount):ko l x num (l.set i<|Xt c x.Amount)
 | carry (k:x.Kind=4) (i:Nat) (c:Zj) (f:Ye l x.Cask=some i) (h:l[i]? =some c):ko l x num (l.set i {c with C:={c.C with Place:=x.Where}})
 | sell (k:x.Kind=5) (i:Nat) (c:Zj) (f:Ye l x.Cask=some i) (h:l[i]? =some c) (o:c.C.Owner=x.Person) (c1:c.C.Creditor < 0) (t:x.To≠c.C.Owner):ko l x num (l.set i {c with C:={c.C with Owner:=x.To}})
 | pledge (k:x.Kind=6) (i:Nat) (c:Zj) (f:Ye l x.Cask=some i) (h:l[i]? =some c) (o:c.C.Owner=x.Person) (c1:c.C.Creditor < 0):ko l x num (l.set i {c with C:={c.C with Creditor:=x.To}})
 | free (k:x.Kind=7) (i:Nat) (c:Zj) (f:Ye l x.Cask=some i) (h:l[i]? =some c) (c1:c.C.Creditor=x.Person):ko l x num (l.set i {c with C:={c.C with Creditor:= -1}})
 | char (k:x.Kind=8) (i:Nat) (c:Zj) (f:Ye l x.Cask=some i) (h:l[i]? =some c) (a:c.C.Amount<=0):ko l x num (l.set i {c with C:={c.C with Wood:=x.Where}})
theorem vx{l l' :UV Zj}{i:Nat}{c:Zj}{x:Ev}{num:Int}(hv:Xk x=true)(h0:x.Kind≠0)(f:Ye l x.Cask=some i)(hc:l[i]? =some c)(h:XA l i c x num= .inl l'):ko l x num l' :=by
 rcases kinds hv with k | k | k | k | k | k | k | k | k
 ·exact absurd k h0
 ·have h:AN l i c x num= .inl l' :=by rw[<-h];unfold XA;rw[k];rfl
  unfold AN at h
  split at h
  ·cases h
  ·cases h;exact .fill k i c f hc<|by omega
 ·have h:AB l i c x= .inl l' :=by rw[<-h];unfold XA;rw[k];rfl
  unfold AB at h
  split at h
  ·cases h
  ·rename_i j hj;split at h
   ·cases h
   ·rename_i o ho;unfold PD at h
    split at h
    ·cases h
    ·rename_i hij;split at h
     ·cases h
     ·rename_i hr;split at h
      ·cases h
      ·split at h
       ·cases h
       ·cases h;simp only[nq,om,ne_eq,IR,iV,il,eD] at hr
        exact .rack k i c f hc j o hj ho (λe=>hij<|by simp[e]) hr.1.1 (by omega) (by omega) (by omega)<|by omega
 ·have h:BZ l i c x= .inl l' :=by rw[<-h];unfold XA;rw[k];rfl
  unfold BZ at h
  split at h
  ·cases h
  ·split at h
   ·cases h
   ·cases h;exact .drain k i c f hc (by omega)<|by omega
 ·have h:OZ l i c x= .inl l' :=by rw[<-h];unfold XA;rw[k];rfl
  cases h;exact .carry k i c f hc
 ·have h:P7 l i c x= .inl l' :=by rw[<-h];unfold XA;rw[k];rfl
  unfold P7 at h
  split at h
  ·cases h
  ·rename_i hr;split at h
   ·cases h
   ·rename_i ht;cases h;simp only[nq,om,ne_eq,IR,iV,il,eD] at hr
    exact .sell k i c f hc hr.1 (by omega) λe=>ht<|by simp[e]
 ·have h:DG l i c x= .inl l' :=by rw[<-h];unfold XA;rw[k];rfl
  unfold DG at h
  split at h
  ·cases h
  ·rename_i ho;split at h
   ·cases h
   ·cases h;exact .pledge k i c f hc (by simpa using ho)<|by omega
 ·have h:RG l i c x= .inl l' :=by rw[<-h];unfold XA;rw[k];rfl
  unfold RG at h
  split at h
  ·cases h
  ·rename_i ho;cases h;exact .free k i c f hc<|by simpa using ho
 ·have h:RR l i c x= .inl l' :=by rw[<-h];unfold XA;rw[k];rfl
  unfold RR at h
  split at h
  ·cases h
  ·cases h;exact .char k i c f hc<|by omega
theorem OW{l l' :UV Zj}{x:Ev}{num:Int}(hv:Xk x=true)(h:Ft l x num= .inl l'):ko l x num l' :=by
 unfold Ft at h
 split at h
 ·rename_i hk;unfold L9 at h
  split at h
  ·cases h
  ·rename_i hf;split at h
   ·cases h
   ·cases h;exact .make (mB.1 hk) (by simpa using hf)<|by omega
 ·rename_i hk;split at h
  ·cases h
  ·rename_i i hi;split at h
   ·cases h
   ·rename_i c hc;exact vx hv (λe=>hk<|by simp[e]) hi hc h
theorem jF{n:Nat}{s s' :A7}{x:Ev}(h:Uv n s x= .inl s'):Xk x=true/\s.last<=x.Day/\∃l',s' =⟨l',x.Day⟩/\ko (fW x.Day s) x n l' :=by
 unfold Uv at h
 split at h
 ·cases h
 ·rename_i hv;have hv:Xk x=true:=by simpa using hv
  split at h
  ·cases h
  ·rename_i hd;split at h
   ·rename_i all hall;cases h;exact⟨hv,by omega,all,rfl,OW hv hall⟩
   ·cases h
theorem xJ{day:Int}:∀(l:UV Ev) (n:Nat) (s:A7) (r:A7 ⊕ Int) (k:Nat),CD day l n s=(r,k)->k<=n+l.length
 | [],n,s,r,k,h=>by
  simp only[CD,bY] at h
  simp[<-h.2]
 | x::l,n,s,r,k,h=>by
  simp only[CD] at h
  split at h
  ·split at h
   ·have:=xJ l _ _ _ _ h;simp;omega
   ·simp only[bY] at h
    simp[<-h.2]
  ·simp only[bY] at h
   simp[<-h.2]
theorem E1{l:UV Ev}{day:Int}{r:UV Zj ⊕ Int}{k:Nat}(h:Ym l day=(r,k)):k<=l.length:=by
 unfold Ym at h
 split at h
 ·simp only[bY] at h;omega
 ·split at h
  ·simp only[bY] at h;omega
  ·unfold RV at h
   cases hg:CD day l 0 ⟨[],0⟩ with
   | mk r' q=>
    have:=xJ _ _ _ _ _ hg;rw[hg] at h
    cases r' <;>(simp only[bY] at h;omega)
end
section
open Go.Dec
section
variable{V:Type}
theorem FV{k n:Int}{v:V}:∀{l:UV (Int×V)},Qc (Qx l k v) n=if n==k then some v else Qc l n
 | []=>by simp[Qx,Qc]
 | x::l=>by
  simp only[Qx];by_cases h:k=x.1
  ·have:(k==x.1)=true:=by simp[h]
   rw[TO this];simp only[Qc];by_cases h2:n=k
   ·subst h2;simp
   ·have e1:(n==k)=false:=by simpa using h2
    have e2:(n==x.1)=false:=by simpa using λe=>h2<|by rw[e,h]
    simp[e1,e2]
  ·have:(k==x.1)=false:=by simpa using h
   rw[RW<|by simp[this]];simp only[Qc];rw[FV (l:=l)];by_cases h2:n=x.1
   ·have e1:(n==x.1)=true:=by simp[h2]
    have e2:(n==k)=false:=by simpa using λe=>h<|by rw[<-e,h2]
    simp[e1,e2]
   ·have e1:(n==x.1)=false:=by simpa using h2
    simp[e1]
end
end
end Go.Proofs.YtepbamgmocpemaaGreatDoor.Ca
section
namespace Go.Proofs.YtepbamgmocpemaaGreatDoor.Ca
open Go.Dec
theorem kO{day:Int}{x:Ev}(hx:x.Day<=day):∀(l:UV Ev) (n:Nat) (s s' :A7) (k:Nat),(∀y∈l,y.Day<=day)->CD day (l++[x]) n s=(.inl s',k)->∃s1,CD day l n s=(.inl s1,n+l.length)/\Uv (n+l.length) s1 x= .inl s'
 | [],n,s,s',k,_,h=>by
  simp only[mN,CD,TO hx] at h
  refine⟨s,rfl,?_⟩;show Uv n s x=_;cases hs:Uv n s x with
  | inl s1=>rw[hs] at h;simp only[bY,nz] at h;rw[h.1]
  | inr e=>rw[hs] at h;simp at h
 | y::l,n,s,s',k,hd,h=>by
  simp only[mQ,CD,TO<|hd y<|by simp] at h ⊢
  cases hs:Uv n s y with
  | inl s1=>
   rw[hs] at h
   obtain⟨s2,g1,g2⟩:=kO hx l (n+1) s1 s' k (λz hz=>hd z<|by simp[hz]) h;have e:n+(y::l).length=n+1+l.length:=by simp;omega
   rw[e];exact⟨s2,g1,g2⟩
  | inr e=>rw[hs] at h;simp at h
theorem Lr{l:UV Ev}{x:Ev}{day:Int}{all' :UV Zj}{k:Nat}(hx:x.Day=day)(hd:∀y∈l,y.Day<=day)(h:Ym (l++[x]) day=(.inl all',k)):∃all,Ym l day=(.inl all,l.length)/\Xk x=true/\ko all x l.length all' :=by
 unfold Ym at h ⊢
 split at h
 ·cases h
 ·rename_i hl;rw[RW (by simp at hl;omega)];split at h
  ·cases h
  ·rename_i hb;rw[RW hb];unfold RV at h ⊢
   cases hg:CD day (l++[x]) 0 ⟨[],0⟩ with
   | mk r k=>
    rw[hg] at h
    cases r with
    | inr e=>cases h
    | inl s' =>
     obtain⟨s1,g1,g2⟩:=kO (by omega) l 0 _ s' k hd hg;rw[nl] at g1 g2
     obtain⟨hv,_,l',e,hD⟩:=jF g2;rw[g1];refine⟨_,rfl,hv,?_⟩;simp only[bY,nz] at h
     rw[<-h.1,e]
     have e0:fW day ⟨l',x.Day⟩=l' :=by
      unfold fW;show l'.map (UB<|day - x.Day)=l';rw[hx,eg,show UB 0=id from funext λh=>TS,List.map_id]
     rw[e0,<-hx];exact hD
theorem zy{l:UV Ev}{day num:Int}{all:UV Zj}{k i:Nat}{c:Zj}(h:Ym l day=(.inl all,k))(hf:Ye all num=some i)(hc:all[i]? =some c):CW l num day=(c.C,0):=by
 unfold CW Gi;rw[h];simp only[hf,DO,hc]
theorem ki{l:UV Ev}{day:Int}(h:(Tu l day).2.2=0):∃all k,Ym l day=(.inl all,k):=by
 unfold Tu at h
 split at h
 ·rename_i e k hp;exact absurd h<|Sa hp
 ·rename_i all k hp;exact⟨all,k,hp⟩
theorem ug{l:UV Ev}{num day:Int}(h:(CW l num day).2=0):∃last n hh,(CW l num day).1=Zj.C hh/\Ec last n hh/\last<=65536:=by
 unfold CW at h ⊢
 cases hp:Ym l day with
 | mk r k=>
  rw[hp] at h
  cases r with
  | inr e=>exact absurd h (Sa hp)
  | inl all=>
   obtain⟨h1,_,h3,h4⟩:=Cf hp;simp only at h ⊢
   cases hf:Gi all num with
   | none=>rw[hf] at h;cases h
   | some hh=>
    unfold Gi at hf
    cases hi:Ye all num with
    | none=>rw[hi] at hf;cases hf
    | some i=>
     rw[hi] at hf
     exact⟨day,k,hh,rfl,h1.each hh<|s8 hf,h4⟩
theorem xX(l:UV Ev)(num day:Int):(NN l num day).1.length<=4096/\∀f∈(NN l num day).1,0<=f/\f < 4096:=by
 unfold NN;cases hp:Ym l day with
 | mk r k=>
  cases r with
  | inr e=>simp
  | inl all=>
   obtain⟨h1,h2,h3,h4⟩:=Cf hp;simp only;cases hf:Gi all num with
   | none=>simp
   | some hh=>
    unfold Gi at hf
    cases hi:Ye all num with
    | none=>rw[hi] at hf;cases hf
    | some i=>
     rw[hi] at hf
     have ho:=h1.each hh<|s8 hf;have:=Aa 0 ho.fills.1 (n:=k) ho.fills.2 (by omega);exact⟨by simp only;omega,λf hf=>by have:=ho.fills.2 f hf;omega⟩
abbrev Er(e:Int):Prop:=1<=e/\e<=20
theorem uZ{e k:Int}(h:(.inr k:UV Zj ⊕ Int)= .inr e)(hk:decide (1<=k/\k<=20)=true:=by decide):Er e:=by
 simp only[nw] at h
 rw[<-h];exact lQ hk
theorem gE{l:UV Zj}{i:Nat}{c:Zj}{x:Ev}{n e:Int}(h:XA l i c x n= .inr e):Er e:=by
 unfold XA at h
 by_cases k1:(x.Kind==1)=true
 ·rw[TO k1] at h
  unfold AN at h
  split at h
  ·exact uZ h
  ·cases h
 rw[RW k1] at h
 by_cases k2:(x.Kind==2)=true
 ·rw[TO k2] at h
  unfold AB PD at h
  repeat' split at h
  all_goals first | (cases h;done) | exact uZ h
 rw[RW k2] at h
 by_cases k3:(x.Kind==3)=true
 ·rw[TO k3] at h
  unfold BZ at h
  repeat' split at h
  all_goals first | (cases h;done) | exact uZ h
 rw[RW k3] at h
 by_cases k4:(x.Kind==4)=true
 ·rw[TO k4] at h
  cases h
 rw[RW k4] at h
 by_cases k5:(x.Kind==5)=true
 ·rw[TO k5] at h
  unfold P7 at h
  repeat' split at h
  all_goals first | (cases h;done) | exact uZ h
 rw[RW k5] at h
 by_cases k6:(x.Kind==6)=true
 ·rw[TO k6] at h
  unfold DG at h
  repeat' split at h
  all_goals first | (cases h;done) | exact uZ h
 rw[RW k6] at h
 by_cases k7:(x.Kind==7)=true
 ·rw[TO k7] at h
  unfold RG at h
  repeat' split at h
  all_goals first | (cases h;done) | exact uZ h
 rw[RW k7] at h
 by_cases k8:(x.Kind==8)=true
 ·rw[TO k8] at h
  unfold RR at h
  repeat' split at h
  all_goals first | (cases h;done) | exact uZ h
 rw[RW k8] at h
 cases h
theorem gr{l:UV Zj}{x:Ev}{n e:Int}(h:Ft l x n= .inr e):Er e:=by
 unfold Ft at h
 split at h
 ·unfold L9 at h
  repeat' split at h
  all_goals first | (cases h;done) | exact uZ h
 ·split at h
  ·exact uZ h
  ·split at h
   ·exact uZ h
   ·exact gE h
theorem uj{n:Nat}{s:A7}{x:Ev}{e:Int}(h:Uv n s x= .inr e):Er e:=by
 unfold Uv at h
 split at h
 ·simp only[nw] at h;subst h;exact⟨by decide,by decide⟩
 ·split at h
  ·simp only[nw] at h;subst h;exact⟨by decide,by decide⟩
  ·split at h
   ·cases h
   ·rename_i e' he;simp only[nw] at h
    subst h;exact gr he
theorem xK{day:Int}:∀{l:UV Ev} {n:Nat} {s:A7} {e:Int} {k:Nat},CD day l n s=(.inr e,k)->Er e
 | [],n,s,e,k,h=>by simp[CD] at h
 | x::l,n,s,e,k,h=>by
  simp only[CD] at h
  split at h
  ·split at h
   ·exact xK h
   ·rename_i e' he;simp only[bY,nw] at h
    rw[<-h.1];exact uj he
  ·simp at h
theorem E2{l:UV Ev}{day:Int}{e:Int}{k:Nat}(h:Ym l day=(.inr e,k)):Er e:=by
 unfold Ym at h
 split at h
 ·simp only[bY,nw] at h;rw[<-h.1];exact⟨by decide,by decide⟩
 ·split at h
  ·simp only[bY,nw] at h;rw[<-h.1];exact⟨by decide,by decide⟩
  ·unfold RV at h
   cases hg:CD day l 0 ⟨[],0⟩ with
   | mk r q=>
    rw[hg] at h
    cases r with
    | inl s=>simp at h
    | inr e' =>
     simp only[bY,nw] at h
     rw[<-h.1];exact xK hg
theorem gA{l:UV Ev}{day:Int}(h:(Tu l day).2.2≠0):Er (Tu l day).2.2:=by
 unfold Tu at h ⊢
 split
 ·rename_i e k hp;exact E2 hp
 ·rename_i all k hp;rw[hp] at h;exact absurd rfl h
theorem zz{l:UV Ev}{num day:Int}(h:(CW l num day).2≠0):Er (CW l num day).2:=by
 unfold CW at h ⊢
 cases hp:Ym l day with
 | mk r k=>
  rw[hp] at h
  cases r with
  | inr e=>exact E2 hp
  | inl all=>
   simp only at h ⊢
   cases hf:Gi all num with
   | none=>exact⟨by decide,by decide⟩
   | some hh=>rw[hf] at h;exact absurd rfl h
theorem xY{l:UV Ev}{num day:Int}(h:(NN l num day).2≠0):Er (NN l num day).2:=by
 unfold NN at h ⊢
 cases hp:Ym l day with
 | mk r k=>
  rw[hp] at h
  cases r with
  | inr e=>exact E2 hp
  | inl all=>
   simp only at h ⊢
   cases hf:Gi all num with
   | none=>exact⟨by decide,by decide⟩
   | some hh=>rw[hf] at h;exact absurd rfl h
end Go.Proofs.YtepbamgmocpemaaGreatDoor.Ca
namespace Go.Proofs.YtepbamgmocpemaaGreatDoor
open Go.Dec
open Ca (Er)
theorem xa{r:Q4}{day:Int}{l:UV QP}{e:Int}{k:Nat}(h:Ex.RV r day l 0 Ex.MH=(.inr e,k)):Er e:=by
 unfold Ex.RV at h
 cases hg:Ex.CD r day l 0 Ex.MH with
 | mk q j=>
  rw[hg] at h
  cases q with
  | inl a=>simp at h
  | inr e' =>
   simp only[bY,nw] at h
   have:=Ex.va hg;rw[<-h.1];unfold Er;omega
theorem wV{r:Q4}{l:UV QP}{day:Int}(h:(B0 r l day).2.2≠0):Er (B0 r l day).2.2:=by
 unfold B0 at h ⊢
 cases hp:Ex.Ym r l day with
 | mk q k=>
  rw[hp] at h
  cases q with
  | inl a=>exact absurd rfl h
  | inr e=>
   show Er e
   clear h
   unfold Ex.Ym at hp
   repeat' split at hp
   all_goals first
    | (simp only[bY,nw] at hp;rw[<-hp.1];exact⟨by decide,by decide⟩)
    | exact xa hp
open Bo in
theorem wS(pre:UV QH)(x:QH):zX pre x=0∨Er (zX pre x):=by
 unfold zX Er
 repeat' split
 all_goals decide
theorem kX:∀(l pre:UV QH),M6 pre l=0∨Er (M6 pre l)
 | [],_=>.inl rfl
 | x::l,pre=>by
  unfold M6;split
  ·exact kX l _
  ·exact wS pre x
theorem IB{l:UV QH}(h:Wc l≠0):Er (Wc l):=(kX l []).resolve_left h
def Yn{α:Type}(P:α->Prop)(x:RO α):Prop:=∃r,x=some r/\(∀a,r= .ok a->P a)/\∀q,r= .pan q->Er q.e
section
variable{α β:Type}{P:β->Prop}{Q:α->Prop}
theorem Yn.pan{q:Qo}(h:Er q.e):Yn P (some<|.pan q):=⟨_,rfl,λ_ h=>(by cases h),λ_ e=>by cases e;exact h⟩
theorem Yn.ok{a:β}(h:P a):Yn P (some<|.ok a):=⟨_,rfl,λ_ e=>by cases e;exact h,λ_ e=>by cases e⟩
theorem Yn.cH{b:Bool}{e:Int}{k:RO β}(he:Er e)(h:b=true->Yn P k):Yn P (Ul b e k):=by
 unfold Ul;cases b with
 | true=>exact h rfl
 | false=>exact Yn.pan he
theorem Yn.tr{e:Int}{k:RO β}(he:e≠0->Er e)(h:e=0->Yn P k):Yn P (Ul (e==0) e k):=by
 unfold Ul;by_cases h0:e=0
 ·rw[TO<|by simpa using h0];exact h h0
 ·rw[RW<|by simpa using h0];exact Yn.pan<|he h0
theorem Yn.cK{x:RO α}{k:α->RO β}(h:Yn Q x)(h' :∀a,Q a->Yn P (k a)):Yn P (HM x k):=by
 obtain⟨r,rfl,hr,hp⟩:=h;cases r with
 | ok a=>exact h' a (hr a rfl)
 | pan q=>exact Yn.pan<|hp q rfl
theorem Yn.bind{x:H1 α}{k:α->RO β}(h:∃a,x=some a/\Q a)(h' :∀a,Q a->Yn P (k a)):Yn P (x.bind k):=by
 obtain⟨a,rfl,ha⟩:=h;exact h' a ha
theorem Yn.imp{P' :β->Prop}{x:RO β}(h:Yn P x)(h' :∀b,P b->P' b):Yn P' x:=by
 obtain⟨r,e,hr,hp⟩:=h;exact⟨r,e,λa ha=>h' a<|hr a ha,hp⟩
end
theorem er{n:Int}(h:decide (1<=n/\n<=20)=true:=by decide):Er n:=lQ h
theorem Ei(x:Int):OK (Q5 x)=true:=by
 have e:IntKind.i64.bits=64:=rfl;simp only[OK,Q5,IntKind.wrap,e,AT,IR];simp only[IntKind.signed,true_and,mA,IR];split<;>omega
theorem BT{x:Int}(h: -9223372036854775808<=x/\x<=9223372036854775807):OK x=true:=by simp[OK,h]
structure Inv(n s:Nat)(L:QA):Prop where
 casks:L.casks.length<=n
 duties:L.duties.length<=n
 stamps:L.stamps.length<=s
 days:∀x∈L.casks,x.Day<=L.day
 rules:∀r,L.rules=some r->r.Rates.length<=1000000
 batches:∀c b,Qc L.batches c=some b->b.Draughts.length<=1000
 pure:∀c,OK (U7 L c)=true
theorem Inv.up{n s n' s' :Nat}{L:QA}(h:Inv n s L)(hn:n<=n')(hs:s<=s'):Inv n' s' L:=⟨me h.casks hn,me h.duties hn,me h.stamps hs,h.days,h.rules,h.batches,h.pure⟩
theorem Inv.start:Inv 0 0 Ff:=⟨IN _,IN _,IN _,λ_ h=>(by cases h),λ_ h=>(by cases h),λ_ _ h=>(by cases h),λ_=>rfl⟩
theorem y3(L:QA)(c v k:Int):U7 (X2 L c v) k=if k==c then v else U7 L k:=by
 unfold U7 X2;simp only;rw[Ca.FV];split<;>rfl
theorem Inv.set{n s:Nat}{L:QA}(h:Inv n s L){c v:Int}(hv:OK v=true):Inv n s (X2 L c v):=⟨h.casks,h.duties,h.stamps,h.days,h.rules,h.batches,λk=>by rw[y3];split;exact hv;exact h.pure k⟩
def Fs(L:QA)(x:QF)(L1:QA):Prop:=L1={L with casks:=L.casks++[{x with Day:=L.day}]}/\∃all all' :UV Ca.Zj,∃k,Ca.Ym L.casks L.day=(.inl all,L.casks.length)/\Ca.Ym L1.casks L.day=(.inl all',k)/\Ca.Xk {x with Day:=L.day}=true/\Ca.ko all {x with Day:=L.day} L.casks.length all'
theorem Inv.sK{n s:Nat}{L L1:QA}{x:QF}(h:Inv n s L)(h1:Fs L x L1):Inv (n+1) s L1:=by
 obtain⟨rfl,_⟩:=h1;refine⟨by have:=h.casks;simp;omega,by have:=h.duties;simp only;omega,h.stamps,λy hy=> ?_,h.rules,h.batches,h.pure⟩;rcases mH.1 hy with hy | hy
 ·exact h.days y hy
 ·simp only[nx] at hy;subst hy;exact nQ _
theorem GH{n s:Nat}{L:QA}(h:Inv n s L)(hn:n<=1000000)(x:QF):Yn (Fs L x) (B7 L x):=by
 unfold B7;rw[TO (by have:=h.casks;omega)];refine Yn.tr Ca.gA λhe=>Yn.ok ⟨rfl,?_⟩;obtain⟨all',k,hp⟩:=Ca.ki he;obtain⟨all,h1,h2,h3⟩:=Ca.Lr (x:={x with Day:=L.day}) rfl h.days hp;exact⟨all,all',k,h1,hp,h2,h3⟩
def SV(L:QA)(x:QP)(L1:QA):Prop:=L1={L with duties:=L.duties++[{x with Day:=L.day}]}/\∃r,L.rules=some r/\(B0 r L1.duties L.day).2.2=0
theorem Inv.ca{n s:Nat}{L L1:QA}{x:QP}(h:Inv n s L)(h1:SV L x L1):Inv (n+1) s L1:=by
 obtain⟨rfl,_⟩:=h1;exact⟨by have:=h.casks;simp only;omega,by have:=h.duties;simp;omega,h.stamps,h.days,h.rules,h.batches,h.pure⟩
theorem Cs{n s:Nat}{L:QA}(h:Inv n s L)(hn:n<=1000000)(hr:L.rules.isNone=false)(x:QP):Yn (SV L x) (D1 L x):=by
 unfold D1
 obtain⟨r,hL⟩:∃r,L.rules=some r:=by cases hL:L.rules with
  | none=>rw[hL] at hr;cases hr
  | some r=>exact⟨r,rfl⟩
 rw[hL];show Yn _ (if _ then _ else _);rw[TO ⟨h.rules r hL,by have:=h.duties;omega⟩,<-hL];exact Yn.tr wV λhe=>Yn.ok ⟨rfl,r,hL,he⟩
def Mf(L:QA)(x:QH)(L1:QA):Prop:=L1={L with stamps:=L.stamps++[x]}/\Wc (L.stamps++[x])=0
theorem Inv.stamp{n s:Nat}{L L1:QA}{x:QH}(h:Inv n s L)(h1:Mf L x L1):Inv n (s+1) L1:=by
 obtain⟨rfl,_⟩:=h1;exact⟨h.casks,h.duties,by have:=h.stamps;simp;omega,h.days,h.rules,h.batches,h.pure⟩
theorem LX{n s:Nat}{L:QA}(h:Inv n s L)(hs:s < 256)(x:QH):Yn (Mf L x) (T7 L x):=by
 unfold T7;rw[TO (by have:=h.stamps;omega)];exact Yn.tr IB λhe=>Yn.ok ⟨rfl,he⟩
theorem Fs.rules{L L1:QA}{x:QF}(h:Fs L x L1):L1.rules=L.rules:=by obtain⟨rfl,_⟩:=h;rfl
theorem SV.rules{L L1:QA}{x:QP}(h:SV L x L1):L1.rules=L.rules:=by obtain⟨rfl,_⟩:=h;rfl
def fN(n s:Nat)(L L1:QA):Prop:=Inv n s L1/\L1.rules=L.rules
theorem Il{n s:Nat}{L:QA}(h:Inv n s L)(hn:n<=999000)(hr:L.rules.isNone=false)(fro to a:Int):Yn (fN (n+2) s L) (Nt L fro to a):=by
 unfold Nt;split
 ·exact Yn.ok ⟨h.up (by omega)<|IN _,rfl⟩
 ·refine Yn.cK (Cs h (by omega) hr _) λL1 h1=>Yn.cK (Cs (h.ca h1) (by omega) (by rw[h1.rules];exact hr) _) λL2 h2=>Yn.ok ?_;have h3:=(h.ca h1).ca h2;exact⟨⟨h3.casks,h3.duties,h3.stamps,h3.days,h3.rules,h3.batches,h3.pure⟩,by show L2.rules=_;rw[h2.rules,h1.rules]⟩
theorem Lv{L L1:QA}{x:QF}(h:Fs L x L1)(hk:x.Kind=2∨x.Kind=3):(atR L x.Cask).2=0/\1<=x.Amount/\x.Amount<=(atR L x.Cask).1.Amount:=by
 obtain⟨_,all,all',k,h1,_,hv,hD⟩:=h;have ha:=Ca.MB hv (by rcases hk with hk | hk<;>simp[hk]);unfold atR;generalize hy:({x with Day:=L.day}:QF)=y at hv hD ha
 have hyk:y.Kind=x.Kind:=by rw[<-hy]
 have hyc:y.Cask=x.Cask:=by rw[<-hy]
 have hya:y.Amount=x.Amount:=by rw[<-hy]
 rw[hya] at ha
 rw[<-hyc];cases hD with
 | rack k i c f h j o f' h' ne ow c1 c2 a r=>rw[Ca.zy h1 f h];exact⟨rfl,ha.1,by show _<=c.C.Amount;omega⟩
 | drain k i c f h c1 a=>rw[Ca.zy h1 f h];exact⟨rfl,ha.1,by show _<=c.C.Amount;omega⟩
 | make k=>omega
 | fill k=>omega
 | carry k=>omega
 | sell k=>omega
 | pledge k=>omega
 | free k=>omega
 | char k=>omega
theorem Nb{a b:Int}(hb:b≠0):∃q,BK .i64 a b=some q:=by unfold BK;rw[RW hb];exact⟨_,rfl⟩
theorem Ic{L L1:QA}{x:QF}(h:Fs L x L1)(hk:x.Kind=2∨x.Kind=3)(L2:QA):∃p,No L2 (atR L x.Cask).1 x.Amount=some p/\True:=by
 obtain⟨_,h2,h3⟩:=Lv h hk;unfold No;split
 ·exact⟨_,rfl,trivial⟩
 ·obtain⟨q,hq⟩:=Nb (a:=Q5<|U7 L2 (atR L x.Cask).1.Number*x.Amount) (b:=(atR L x.Cask).1.Amount) (by omega);exact⟨q,hq,trivial⟩
abbrev Mg(n s:Nat)(L:QA)(r:UV So×QA):Prop:=Inv n s r.2/\(r.1=qW∨r.2=L)/\r.1.length<=2300000
theorem GZ{n s:Nat}{L0 L:QA}(h:Inv n s L):Yn (Mg n s L0) (zG L):=Yn.ok ⟨h,.inl rfl,by show(2:Nat)<=_;omega⟩
section
variable{n s:Nat}{L:QA}(h:Inv n s L)(hn:n<=900000)(hs:s < 256)(hr:L.rules.isNone=false)
include h
theorem TJ{w:UV So}{l:UV Int}(hw:w.length<=1000)(hl:l.length<=100000)(hi:l.all OK=true):Yn (Mg n s L) (NS w l L):=by
 unfold NS;rw[TO ⟨hw,hl,hi⟩];exact Yn.ok ⟨h,.inr rfl,by have:=R4 w l;show(X7 w l).length<=_;omega⟩
theorem wY(d:Int):Yn (Mg n s L) (xw L [d]):=Yn.cH er λ_=>Yn.cH er λhd=>GZ ⟨h.casks,h.duties,h.stamps,λx hx=>iH (h.days x hx) (by simpa using hd),h.rules,h.batches,h.pure⟩
theorem jP(a b c:Int){ns:UV Int}{ps:UV (Int×Int)}(hp:WO ns=some ps)(hl:ns.length<=1000000):Yn (Mg n s L) (ql L<|a::b::c::ns):=by
 show Yn _ (if _ then _ else _);rw[TO hl,hp];refine Yn.cH er λ_=>Yn.cH er λ_=>GZ ⟨h.casks,h.duties,h.stamps,h.days,λr hr=> ?_,h.batches,h.pure⟩;simp only[BY] at hr
 subst hr;have:=(FU hp).2;simp[Gx];omega
include hn
theorem vL(c w p m o:Int):Yn (Mg (n+1) s L) (vM L [c,w,p,m,o]):=Yn.cH er λ_=>Yn.cK (GH h (by omega) _) λ_ h1=>GZ<|h.sK h1
theorem LU(k c p t:Int):Yn (Mg (n+1) s L) (NA k L [c,p,t]):=Yn.cK (GH h (by omega) _) λ_ h1=>GZ<|h.sK h1
theorem vb(c p:Int):Yn (Mg (n+1) s L) (vc L [c,p]):=Yn.cK (GH h (by omega) _) λ_ h1=>GZ<|h.sK h1
theorem v8(c p:Int):Yn (Mg (n+1) s L) (uA L [c,p]):=Yn.cK (GH h (by omega) _) λ_ h1=>GZ<|h.sK h1
include hr
theorem vg(c a b:Int):Yn (Mg (n+2) s L) (vh L [c,a,b]):=by
 refine Yn.cH er λ_=>Yn.cK (GH h (by omega) _) λL1 h1=>Yn.cK (Q:=Inv (n+2) s) ?_ λL2 h2=>GZ h2;unfold filled;split
 ·refine Yn.cK (Cs (h.sK h1) (by omega) (by rw[h1.rules];exact hr) _) λL2 h2=>Yn.ok ?_;exact((h.sK h1).ca h2).set<|Ei _
 ·exact Yn.ok<|(h.sK h1).up (by omega)<|IN _
theorem yy(a b m:Int):Yn (Mg (n+3) s L) (yz L [a,b,m]):=by
 refine Yn.cK (GH h (by omega) _) λL1 h1=>Yn.bind (Ic h1 (.inl rfl) L1) λp _=>Yn.cK (Il (h.sK h1) (by omega) (by rw[h1.rules];exact hr) _ _ _) λL2 h2=> ?_;exact GZ<|(h2.1.set<|Ei _).set<|Ei _
theorem j1(a p:Int):Yn (Mg (n+3) s L) (zh L [a,p]):=Yn.cK (GH h (by omega) _) λL1 h1=>Yn.cK (Il (h.sK h1) (by omega) (by rw[h1.rules];exact hr) _ _ _) λL2 h2=>GZ h2.1
theorem u4(a:Int):Yn (Mg (n+1) s L) (xf L [a]):=Yn.cK (Cs h (by omega) hr _) λ_ h1=>GZ<|h.ca h1
omit hr hn
include hs
theorem NL(k a b:Int):Yn (Mg n (s+1) L) (TG k L [a,b]):=Yn.cK (LX h hs _) λ_ h1=>GZ<|h.stamp h1
end
theorem qC{n s:Nat}{L:QA}(h:Inv n s L)(hn:n<=900000)(hr:L.rules.isNone=false)(c a:Int):Yn (λr=>Inv (n+2) s r.2/\r.2.rules=L.rules) (Td L c a):=by
 refine Yn.tr Ca.zz λ_=>Yn.cK (GH h (by omega) _) λL1 h1=>Yn.bind (Ic h1 (.inr rfl) L1) λp _=>Yn.cK (Q:=λL2=>Inv (n+2) s L2/\L2.rules=L.rules) ?_ λL2 h2=> ?_
 ·unfold TQ;split
  ·refine Yn.cK (Cs (h.sK h1) (by omega) (by rw[h1.rules];exact hr) _) λL2 h2=>Yn.ok ⟨((h.sK h1).ca h2).set<|Ei _,?_⟩;show L2.rules=_;rw[h2.rules,h1.rules]
  ·exact Yn.ok ⟨(h.sK h1).up (by omega)<|IN _,h1.rules⟩
 ·have ha:=(Lv h1<|.inr rfl).2.1;obtain⟨lo,hlo⟩:=Nb (a:=Q5<|p*10000) (b:=a) (by show a≠0;have:1<=a:=ha;omega);obtain⟨hi,hhi⟩:=Nb (a:=Q5<|Q5 (Q5 (p*10000)+a) - 1) (b:=a) (by show a≠0;have:1<=a:=ha;omega);rw[hlo,DO,hhi,DO];exact Yn.ok h2
theorem EN{s:Nat}{R:H1 Q4}(hr:R.isNone=false):∀(ps:UV (Int×Int)) (n:Nat) (L:QA) (b:QU),Inv n s L->n+2*ps.length<=900000->b.Draughts.length+ps.length<=1000->L.rules=R->
  Yn (λr=>Inv (n+2*ps.length) s r.2/\r.1.Draughts.length=b.Draughts.length+ps.length) (BX ps b L)
 | [],n,L,b,h,_,_,_=>Yn.ok ⟨h,rfl⟩
 | p::ps,n,L,b,h,hn,hb,hR=>by
  simp only[s6] at hn hb
  refine Yn.cK (qC h (by omega) (by rw[hR];exact hr) p.1 p.2) λr hr' => ?_;rw[TO<|by omega];refine(EN hr ps (n+2) r.2 _ hr'.1 (by omega) (by simp;omega)<|by rw[hr'.2,hR]).imp λq hq=>⟨hq.1.up (by simp;omega)<|IN _,?_⟩;rw[hq.2];simp;omega
section
variable{n s:Nat}{L:QA}(h:Inv n s L)(hn:n<=800000)(hs:s < 256)(hr:L.rules.isNone=false)
include h hn hs hr
theorem zj(c w a z:Int){ds:UV Int}{ps:UV (Int×Int)}(hp:WO ds=some ps)(hl:ds.length<=1000):Yn (Mg (n+1000) (s+1) L) (Od L<|c::w::a::z::ds):=by
 have hps:=(FU hp).2;show Yn _ (if _ then _ else _);rw[TO (by omega),hp];refine Yn.cH er λ_=>Yn.cK (EN hr ps n L _ h (by omega) (by simp;omega) rfl) λr hr' => ?_;have hlen:r.1.Draughts.length<=1000:=by rw[hr'.2];simp;omega
 rw[TO hlen];refine Yn.cH er λ_=>Yn.cH er λ_=>Yn.cK (LX hr'.1 hs _) λL2 h2=>GZ ?_;have h3:=(hr'.1.stamp h2).up (show _<=n+1000 by omega)<|IN _;refine⟨h3.casks,h3.duties,h3.stamps,h3.days,h3.rules,λk b hb=> ?_,h3.pure⟩;simp only at hb
 rw[Ca.FV] at hb
 split at hb
 ·simp only[BY] at hb;subst hb;exact hlen
 ·exact h3.batches k b hb
omit hn hs hr
theorem Es(c:Int):Yn (Mg n s L) (T8 L [c]):=by
 refine Yn.tr Ca.zz λhe=>TJ h (by decide) (by simp) ?_;obtain⟨last,m,hh,e,ho,hl⟩:=Ca.ug (l:=L.casks) (num:=c) (day:=L.day) he;have h1:=ho.amt;have h2:=ho.room;have h3:=ho.age;have h4:=ho.owner;have h5:=ho.cred;simp only[atR,e,nZ,lV,h.pure,mY,AT];exact⟨BT (by omega),BT (by omega),BT (by omega),BT<|by omega⟩
theorem Mr(c:Int):Yn (Mg n s L) (Ab L [c]):=by
 refine Yn.tr Ca.xY λ_=> ?_;obtain⟨h1,h2⟩:=Ca.xX L.casks c L.day;exact TJ h (by decide) (by omega)<|s7.2 λx hx=>BT (by have:=h2 x hx;omega)
theorem Ms(a k w v:Int):Yn (Mg n s L) (Hn L [a,k,w,v]):=by
 unfold Hn;simp only;split
 ·exact Yn.pan er
 ·rename_i b hb;unfold OY;rw[TO<|h.batches a b hb,DO];have hw:∀b:Bool,(if b then yg else qb).length<=2300000:=λb=>by cases b<;>decide
  split
  ·exact Yn.tr (e:=0) (λh=>absurd rfl h) λ_=>Yn.ok ⟨h,.inr rfl,hw _⟩
  ·exact Yn.tr (e:=1) (λ_=>er) λ_=>Yn.ok ⟨h,.inr rfl,hw true⟩
include hr
theorem EV:∃r,L.rules=some r/\EW L=some (B0 r L.duties L.day).1:=by
 unfold EW;cases hL:L.rules with
 | none=>rw[hL] at hr;cases hr
 | some r=>
  simp only;rw[TO<|h.rules r hL];exact⟨r,rfl,rfl⟩
end
theorem kg(r:Q4)(l:UV QP)(day:Int):(∀j,j < 16->OK ((B0 r l day).1.Bonds j)=true)/\OK (B0 r l day).1.Due=true/\OK (B0 r l day).1.Paid=true:=by
 unfold B0;cases hp:Ex.Ym r l day with
 | mk q k=>
  cases q with
  | inr e=>exact⟨λ_ _=>rfl,rfl,rfl⟩
  | inl a=>
   obtain⟨_,hok,hd,hk⟩:=Ex.Cf hp;have hl:=Ex.Ls hp;have h1:=Ex.wW hok (by omega);exact⟨λj hj=>BT (by have:=hok.bonds j hj;show _<=a.B.Bonds j/\a.B.Bonds j<=_;omega),BT (by show _<=a.B.Due/\a.B.Due<=_;omega),BT (by show _<=a.B.Paid/\a.B.Paid<=_;omega)⟩
open Bo in
theorem xV{l:UV QH}(n:Int)(ho:Wa V6 l):OK (P1 l n).1=true:=by
 unfold P1;cases h:(cur l n).filter (λe=>decide<|e.Kind=1) with
 | none=>rfl
 | some e=>
  rw[<-Oz n l ho] at h
  have hk:=List.find?_some h;simp only[IR] at hk
  obtain⟨pre,post,rfl⟩:=mr<|mJ h;have:=((Ro e).1 (MC<|ho pre e post rfl).1).2.1 hk.1;exact BT (by show _<=e.Batch/\e.Batch<=_;omega)
section
variable{n s:Nat}{L:QA}(h:Inv n s L)
include h
theorem Et(hr:L.rules.isNone=false){c:Int}(h0:0<=c):Yn (Mg n s L) (T9 L [c]):=by
 refine Yn.cH er λhc=> ?_;obtain⟨r,_,hb⟩:=EV h hr;have hc:c < 16:=by simpa using hc
 rw[hb,DO,Bo.Sg h0 (by omega),DO];exact TJ h (by decide) (by simp) (by simp only[nZ,lV,mY];exact(kg r L.duties L.day).1 _<|by omega)
theorem IC(hr:L.rules.isNone=false)(l:UV Int):Yn (Mg n s L) (TH L l):=by
 unfold TH;obtain⟨r,_,hb⟩:=EV h hr;rw[hb,DO];obtain⟨_,h1,h2⟩:=kg r L.duties L.day;exact TJ h (by decide) (by simp)<|by simp only[nZ,lV,mY,h1,h2]
theorem Mq(hs:s < 256)(c:Int):Yn (Mg n s L) (FO L [c]):=by
 have hl:L.stamps.length<=256:=by have:=h.stamps;omega
 show Yn _ ((T3 _ _).bind _);unfold T3;rw[TO hl,DO];obtain⟨_,_,_,ho⟩:=BF L.stamps hl;by_cases he:Wc L.stamps=0
 ·rw[TO<|by simpa using he];refine Yn.tr (λhw=> ?_) λ_=>TJ h (by decide) (by simp) (by simp only[nZ,lV,mY];exact xV c<|ho he);unfold Bo.P1 at hw ⊢
  split
  ·rename_i e;rw[e] at hw;exact absurd rfl hw
  ·exact er
 ·rw[RW<|by simpa using he];exact Yn.tr IB λh0=>absurd h0 he
end
theorem IT{line:UV So}{w:UV So×UV Int}(h:HQ line= .ok w):∀x∈w.2,0<=x:=by
 unfold HQ at h
 split at h
 ·cases h
 ·split at h
  ·simp only[Out.ok.injEq] at h
   subst h;intro x hx;obtain⟨p,_,rfl⟩:=ny.1 hx;exact Int.natCast_nonneg _
  ·cases h
theorem Af:∀(l:UV Int),l.length%2=0->∃ps,WO l=some ps
 | [],_=>⟨[],rfl⟩
 | [_],h=>by simp at h
 | a::b::l,h=>by
  obtain⟨ps,hp⟩:=Af l (by simp at h;omega);exact⟨(a,b)::ps,by simp[WO,hp]⟩
theorem I3{a:Int}{l:UV Int}(h:Gh a 0 l.length=true):(l.length:Int)=a:=by simpa[Gh] using h
theorem ve{a:Int}{l:UV Int}(h:Gh a 2 l.length=true):(l.length:Int) > a/\((l.length:Int) - a)%2=0:=by simpa[Gh] using h
theorem PN{l:UV Int}(h:Gh 1 0 l.length=true):∃a,l=[a]:=by
 have:=I3 h;rcases l with _ | ⟨a,_ | ⟨b,l⟩⟩<;>simp at this
 ·exact⟨a,rfl⟩
 ·omega
theorem Ra{l:UV Int}(h:Gh 2 0 l.length=true):∃a b,l=[a,b]:=by
 have:=I3 h;rcases l with _ | ⟨a,_ | ⟨b,_ | ⟨c,l⟩⟩⟩<;>simp at this
 ·exact⟨a,b,rfl⟩
 ·omega
theorem It{l:UV Int}(h:Gh 3 0 l.length=true):∃a b c,l=[a,b,c]:=by
 have:=I3 h;rcases l with _ | ⟨a,_ | ⟨b,_ | ⟨c,_ | ⟨d,l⟩⟩⟩⟩<;>simp at this
 ·exact⟨a,b,c,rfl⟩
 ·omega
theorem gl{l:UV Int}(h:Gh 4 0 l.length=true):∃a b c d,l=[a,b,c,d]:=by
 have:=I3 h;rcases l with _ | ⟨a,_ | ⟨b,_ | ⟨c,_ | ⟨d,_ | ⟨e,l⟩⟩⟩⟩⟩<;>simp at this
 ·exact⟨a,b,c,d,rfl⟩
 ·omega
theorem gk{l:UV Int}(h:Gh 5 0 l.length=true):∃a b c d e,l=[a,b,c,d,e]:=by
 have:=I3 h;rcases l with _ | ⟨a,_ | ⟨b,_ | ⟨c,_ | ⟨d,_ | ⟨e,_ | ⟨f,l⟩⟩⟩⟩⟩⟩<;>simp at this
 ·exact⟨a,b,c,d,e,rfl⟩
 ·omega
theorem xF{l:UV Int}(h:Gh 3 2 l.length=true):∃a b c ns ps,l=a::b::c::ns/\WO ns=some ps:=by
 have:=ve h;rcases l with _ | ⟨a,_ | ⟨b,_ | ⟨c,l⟩⟩⟩<;>simp only[s6,nG,lb,eo,nR] at this
 iterate 3 omega
 ·obtain⟨ps,hp⟩:=Af l (by omega);exact⟨a,b,c,l,ps,rfl,hp⟩
theorem xG{l:UV Int}(h:Gh 4 2 l.length=true):∃a b c d ns ps,l=a::b::c::d::ns/\WO ns=some ps:=by
 have:=ve h;rcases l with _ | ⟨a,_ | ⟨b,_ | ⟨c,_ | ⟨d,l⟩⟩⟩⟩<;>simp only[s6,nG,lb,eo,nR] at this
 iterate 4 omega
 ·obtain⟨ps,hp⟩:=Af l (by omega);exact⟨a,b,c,d,l,ps,rfl,hp⟩
theorem WR{n s n' s' :Nat}{L:QA}{x:RL}(h:Yn (Mg n s L) x)(hn:n<=n')(hs:s<=s'):Yn (Mg n' s' L) x:=h.imp λ_ h=>⟨h.1.up hn hs,h.2⟩
theorem vQ{n s:Nat}{L:QA}(h:Inv n s L)(hn:n<=700000)(hs:s < 256)(line:UV So):Yn (Mg (n+1000) (s+1) L) (AJ L line):=by
 unfold AJ;split
 ·exact Yn.pan er
 rename_i hll;cases hr:HQ line with
 | pan q=>
  refine Yn.pan ?_;unfold HQ at hr
  split at hr
  ·cases hr;exact er
  ·split at hr
   ·cases hr
   ·cases hr;exact er
 | ok w=>
  simp only;cases hw:AY w.1 with
  | none=>exact Yn.pan er
  | some d=>
   refine Yn.cH er λhf=>Yn.cH er λhst=> ?_;rw[TO ⟨by have:=h.casks;omega,by have:=h.duties;omega,by have:=h.stamps;omega⟩];have hd:d∈Hm:=mJ hw;have hdw:d.word=w.1:=by simpa using List.find?_some hw
   have hnn:=IT hr;have hlen:w.2.length<=1000:=by have:=NZ hr;omega
   have hst:d.word≠[100,97,121]->d.word≠[114,117,108,101,115]->L.rules.isNone=false:=λh1 h2=>by
    rw[hdw] at h1 h2
    simpa[h1,h2] using hst
   clear hr hw hdw
   generalize w.2=ns at hf hnn hlen ⊢
   unfold Hm at hd
   simp only[j9,lu,oM] at hd
   rcases hd with rfl | rfl | rfl | rfl | rfl | rfl | rfl | rfl | rfl | rfl | rfl | rfl | rfl | rfl | rfl | rfl | rfl | rfl | rfl | rfl
   ·obtain⟨a,rfl⟩:=PN hf;exact WR (wY h a) (by omega)<|by omega
   ·obtain⟨a,b,c,ns,ps,rfl,hp⟩:=xF hf;exact WR (jP h a b c hp (by simp at hlen;omega)) (by omega)<|by omega
   ·obtain⟨a,b,c,d,e,rfl⟩:=gk hf;exact WR (vL h (by omega) a b c d e) (by omega)<|by omega
   ·obtain⟨a,b,c,rfl⟩:=It hf;exact WR (vg h (by omega) (hst (by decide)<|by decide) a b c) (by omega)<|by omega
   ·obtain⟨a,b,c,rfl⟩:=It hf;exact WR (yy h (by omega) (hst (by decide)<|by decide) a b c) (by omega)<|by omega
   ·obtain⟨a,b,rfl⟩:=Ra hf;exact WR (j1 h (by omega) (hst (by decide)<|by decide) a b) (by omega)<|by omega
   ·obtain⟨a,b,c,rfl⟩:=It hf;exact WR (LU h (by omega) 5 a b c) (by omega)<|by omega
   ·obtain⟨a,b,c,rfl⟩:=It hf;exact WR (LU h (by omega) 6 a b c) (by omega)<|by omega
   ·obtain⟨a,b,rfl⟩:=Ra hf;exact WR (vb h (by omega) a b) (by omega)<|by omega
   ·obtain⟨a,b,rfl⟩:=Ra hf;exact WR (v8 h (by omega) a b) (by omega)<|by omega
   ·obtain⟨a,b,rfl⟩:=Ra hf;exact WR (NL h hs 0 a b) (by omega)<|by omega
   ·obtain⟨a,b,rfl⟩:=Ra hf;exact WR (NL h hs 2 a b) (by omega)<|by omega
   ·obtain⟨a,b,c,d,ns,ps,rfl,hp⟩:=xG hf;exact WR (zj h (by omega) hs (hst (by decide)<|by decide) a b c d hp (by simp at hlen;omega)) (by omega)<|by omega
   ·obtain⟨a,rfl⟩:=PN hf;exact WR (u4 h (by omega) (hst (by decide)<|by decide) a) (by omega)<|by omega
   ·obtain⟨a,rfl⟩:=PN hf;exact WR (Es h a) (by omega)<|by omega
   ·obtain⟨a,rfl⟩:=PN hf;exact WR (Et h (hst (by decide)<|by decide)<|hnn a<|by simp) (by omega)<|by omega
   ·exact WR (IC h (hst (by decide)<|by decide) ns) (by omega)<|by omega
   ·obtain⟨a,rfl⟩:=PN hf;exact WR (Mq h hs a) (by omega)<|by omega
   ·obtain⟨a,b,c,d,rfl⟩:=gl hf;exact WR (Ms h a b c d) (by omega)<|by omega
   ·obtain⟨a,rfl⟩:=PN hf;exact WR (Mr h a) (by omega)<|by omega
theorem xt{n s:Nat}{L:QA}(h:Inv n s L)(hn:n<=700000)(hs:s < 256)(line:UV So):∃rep e L',wX L line=some (rep,e,L')/\Inv (n+1000) (s+1) L'/\((Er e/\rep=[]/\L' =L)∨(e=0/\AJ L line=some (.ok (rep,L'))/\(rep=qW∨L' =L)/\rep.length<=2300000)):=by
 obtain⟨r,hr,h1,h2⟩:=vQ h hn hs line;unfold wX;rw[hr];cases r with
 | pan q=>exact⟨_,_,_,rfl,h.up (by omega) (by omega),.inl ⟨h2 q rfl,rfl,rfl⟩⟩
 | ok r=>
  obtain⟨h3,h4,h5⟩:=h1 r rfl;exact⟨_,_,_,rfl,h3,.inr ⟨rfl,rfl,h4,h5⟩⟩
end Go.Proofs.YtepbamgmocpemaaGreatDoor
end
namespace Go.Proofs.YtepbamgmocpemaaGreatDoor
section
open Go.Dec Go.Proofs.Tryz Go.Shelf Go.RowKit Go.Maps Go.Sort
set_option maxRecDepth 100000
set_option maxHeartbeats 4000000
abbrev dk:= @Tryz.underlying23
abbrev di:= @Tryz.underlying26
abbrev wx:= @Tryz.underlying28
theorem vA:Ud Tryz.prog 31 2 ZY:=.mk (λ_ _ _ ⟨_,_,h,_⟩=>h▸rfl) (λ_ _ _ ⟨_,_,h,_⟩=>h▸rfl) (λ_ _ _ _ le ⟨q0,q1,h,h0⟩=>⟨q0,q1,h,h0.mono le⟩) Tryz.sizeOf31 ⟨_,Tryz.typeInfo31,by decide+kernel,by decide+kernel⟩ ⟨_,Tryz.zeroValue31,rfl⟩
end
section
open Go.Dec
def WE(l:UV (UV So)):Nat:=(l.map λx=>x.length+1).sum
theorem I4(l:UV (UV So))(hm:∀x∈l,x.length<=140737488351232):∀(post pre:UV (UV So)),l=pre++post->pre.length<=41->
  ∃b:Int,ZQ (Jk l) ((WE pre:Int),(pre.length:Int))=some b/\(l.length<=40->b=WE l)
 | [],pre,e,hp=>by
  rw[np] at e
  subst e;refine⟨WE l,?_,λ_=>rfl⟩;rw[ZC];unfold Jk;simp
 | x::post,pre,e,hp=>by
  have hg:=VD e;have hi:=XQ e;by_cases h41:pre.length < 41
  ·have hb:WE pre<=pre.length*140737488351233:=by
    have:∀(q:UV (UV So)),(∀x∈q,x.length<=140737488351232)->WE q<=q.length*140737488351233:=by
     intro q
     induction q with
     | nil=>intro _;simp[WE]
     | cons y q ih=>
      intro h;have h1:=ih λz hz=>h z (by simp[hz]);have h2:=h y (by simp);have e1:WE (y::q)=y.length+1+WE q:=by simp[WE]
      rw[e1,s6];omega
    exact this pre λy hy=>hm y (by rw[e];simp[hy])
   have hx:=hm x (by rw[e];simp)
   have hbody:Jk l ((WE pre:Int),(pre.length:Int))=some (.next ((WE (pre++[x]):Int),((pre++[x]).length:Int))):=by
    unfold Jk;have c1:(decide ((pre.length:Int) < (l.length:Int))&&decide ((pre.length:Int) < 41))=true:=by simp;omega
    simp only[c1,Rw,Zw,hg,DO,QR];rw[Qn (n:=(WE pre:Int)+(x.length:Int)) (by omega) (by omega),Qn (by omega) (by omega),Qn (by omega)<|by omega];have e1:WE (pre++[x])=WE pre+(x.length+1):=by simp[WE]
    rw[e1];simp only[nH,mu];congr 4
   obtain⟨b,h1,h2⟩:=I4 l hm post (pre++[x]) (by rw[e];simp) (by simp;omega);refine⟨b,?_,h2⟩;rw[ZC,hbody];exact h1
  ·refine⟨WE pre,?_,λh=>by omega⟩;rw[ZC];unfold Jk;have c1:(decide ((pre.length:Int) < (l.length:Int))&&decide ((pre.length:Int) < 41))=false:=by simp;omega
   simp only[c1,By,T2]
theorem xr(l:UV (UV So))(hm:∀x∈l,x.length<=140737488351232):∃b,US l=some b/\(b=true->l.length<=40/\WE l<=4000):=by
 obtain⟨b,h1,h2⟩:=I4 l hm l [] rfl (by simp);refine⟨_,by unfold US;exact ZR h1 rfl,λh=> ?_⟩;simp only[AT,IR] at h
 have h3:=h2 (by omega);omega
section
variable{A:UV Qr}{i:Nat}{L:QA}
theorem xN{n s:Nat}(h:A[i]? =some ⟨L,true⟩)(hI:Inv n s L)(hn:n<=700000)(hs:s < 256)(line:UV So):∃rep e L',WZ A (some i) line=some (rep,e,A.set i ⟨L',true⟩)/\wX L line=some (rep,e,L')/\Inv (n+1000) (s+1) L'/\((Ca.Er e/\rep=[]/\L' =L)∨(e=0/\AJ L line=some (.ok (rep,L'))/\(rep=qW∨L' =L)/\rep.length<=2300000)):=by
 obtain⟨rep,e,L',h1,h2,h3⟩:=xt hI hn hs line;exact⟨rep,e,L',xM h line _ (by rw[h1];rfl),h1,h2,h3⟩
end
end
section
open Go.Dec
theorem kY:∀d:Nat,d < 10->Go.Dec.encS (IntKind.i32.wrap<|Q5<|48+(d:Int))=[UInt8.ofNat<|48+d]
 | 0,_=>by decide+kernel
 | 1,_=>by decide+kernel
 | 2,_=>by decide+kernel
 | 3,_=>by decide+kernel
 | 4,_=>by decide+kernel
 | 5,_=>by decide+kernel
 | 6,_=>by decide+kernel
 | 7,_=>by decide+kernel
 | 8,_=>by decide+kernel
 | 9,_=>by decide+kernel
 | d+10,h=>by omega
theorem O5:∀(f k u:Nat),u < 10^f->f<=k->0 < f->f<=18->Kj k (u:Int)=some (DU f u)
 | 0,k,u,_,_,h0,_=>absurd h0 (o6 0)
 | f+1,0,u,_,h,_,_=>by omega
 | f+1,k+1,u,hu,hk,_,hf=>by
  unfold Kj DU;have e1:decide ((u:Int) < (-9))=false:=nE (by omega);have e2:decide ((u:Int) < 0)=false:=nE (by omega);rw[e1,e2];simp only[By,T2];by_cases h10:u < 10
  ·rw[TO h10,TO (nM<|by omega),kY u h10]
  ·rw[RW h10,RW (by rw[nE<|by omega];simp)];rw[oN] at hu
   have hf0:0 < f:=by
    cases f with
    | zero=>simp at hu;omega
    | succ f=>omega
   have hpow:u / 10 < 10^f:=by omega
   have hb:10^f<=10^17:=oB (by omega) (by omega);have e3:Int.tdiv (u:Int) 10=((u / 10:Nat):Int):=by rw[mG<|by omega];omega
   have e4:Int.tmod (u:Int) 10=((u%10:Nat):Int):=by rw[lT<|by omega];omega
   rw[e3,e4,Qn (by omega) (by omega),O5 f k (u / 10) hpow (by omega) hf0 (by omega),DO,kY (u%10)<|by omega];have hl:=Cv f<|u / 10;rw[Wl (by simp;omega)];rfl
theorem RQ:∀(f g u:Nat),u < 10^f->0 < f->f<=g->DU g u=DU f u
 | f,g,u,h,h0,hg=>by
  have h1:u < 10^g:=eF h (oB (by omega) hg);rw[Te g u h1 (by omega),Te f u h h0]
theorem zx{n:Int}(h0:0<=n)(h1:n < 1000000000000000000):UG n=some (XR n):=by
 obtain⟨u,rfl⟩:=eV h0;have hu:u < 10^18:=by omega
 unfold UG XR;rw[O5 18 100 u hu (by omega) (by omega) (by omega),RW (by omega),nW,RQ 18 20 u hu (by omega)<|by omega]
end
section
open Go.Dec
variable{L L1:QA}{rep:UV So}{β:Type}
theorem YQ{b:Bool}{e:Int}{k:RO β}{r:β}(h:Ul b e k=some (.ok r)):b=true/\k=some (.ok r):=by
 unfold Ul at h
 cases b with
 | true=>exact⟨rfl,h⟩
 | false=>cases h
theorem Yy{α:Type}{x:RO α}{k:α->RO β}{r:β}(h:HM x k=some (.ok r)):∃a,x=some (.ok a)/\k a=some (.ok r):=by
 unfold HM at h
 cases x with
 | none=>cases h
 | some x=>
  cases x with
  | ok a=>exact⟨a,rfl,h⟩
  | pan q=>cases h
theorem Xf{c:Prop}[Decidable c]{a:H1 β}{r:β}(h:(if c then a else none)=some r):c/\a=some r:=by
 by_cases hc:c
 ·rw[TO hc] at h;exact⟨hc,h⟩
 ·rw[RW hc] at h;cases h
theorem Xv{x:QF}(hd:∀y∈L.casks,y.Day<=L.day)(h:B7 L x=some (.ok L1)):Fs L x L1:=by
 obtain⟨_,h⟩:=Xf h;obtain⟨he,h⟩:=YQ h;simp only[BY,Out.ok.injEq] at h
 subst h;refine⟨rfl,?_⟩;obtain⟨all',k,hp⟩:=Ca.ki (by simpa using he);obtain⟨all,h1,h2,h3⟩:=Ca.Lr (x:={x with Day:=L.day}) rfl hd hp;exact⟨all,all',k,h1,hp,h2,h3⟩
theorem Ct{x:QP}(h:D1 L x=some (.ok L1)):SV L x L1:=by
 unfold D1 at h
 split at h
 ·cases h
 ·rename_i r hr;obtain⟨_,h⟩:=Xf h;obtain⟨he,h⟩:=YQ h;simp only[BY,Out.ok.injEq] at h
  subst h;exact⟨by rw[hr],r,hr,by simpa using he⟩
theorem T6{x:QH}(h:T7 L x=some (.ok L1)):L.stamps.length < 256/\Mf L x L1:=by
 obtain⟨hl,h⟩:=Xf h;obtain⟨he,h⟩:=YQ h;simp only[BY,Out.ok.injEq] at h
 subst h;exact⟨hl,rfl,by simpa using he⟩
inductive Mi(L:QA)(fro to n:Int):QA->Prop where
 | stay (h:n=0∨fro=to):Mi L fro to n L
 | go (hn:n≠0) (hf:fro≠to) (L1 L2:QA) (d1:SV L ⟨1,0,fro,to,L.ids,n⟩ L1) (d2:SV L1 ⟨2,0,to,0,L1.ids,n⟩ L2):Mi L fro to n {L2 with ids:=Q5 (L2.ids+1)}
theorem Im{fro to n:Int}(h:Nt L fro to n=some (.ok L1)):Mi L fro to n L1:=by
 unfold Nt at h
 split at h
 ·rename_i hc;simp only[BY,Out.ok.injEq] at h
  subst h;exact .stay<|by simpa using hc
 ·rename_i hc;obtain⟨L2,h1,h⟩:=Yy h;obtain⟨L3,h2,h⟩:=Yy h;simp only[BY,Out.ok.injEq] at h
  subst h;simp only[nq,mB,iV] at hc
  exact .go hc.1 hc.2 _ _ (Ct h1)<|Ct h2
abbrev gd:UV So:=[100,97,121]
abbrev yh:UV So:=[114,117,108,101,115]
abbrev w9:UV So:=[102,105,108,108]
abbrev X1:UV So:=[98,111,116,116,108,101]
abbrev R6:UV (UV So):=[[115,101,108,108],[112,108,101,100,103,101],[102,114,101,101],[99,104,97,114],[115,116,97,109,112,115],[115,112,111,105,108],[109,97,107,101],[114,97,99,107],[99,97,114,114,121],[112,97,121]]
abbrev xW:UV (UV So):=[[99,97,115,107],[98,111,110,100],[100,117,101],[119,104,111,115,101],[99,108,97,105,109],[102,105,108,108,115]]
inductive Deed(L:QA):List UInt8->List Int->List UInt8->QA->Prop where
 | day (d:Int) (h1:d<=65536) (h2:L.day<=d):Deed L gd [d] qW {L with day:=d}
 | rules (a b c:Int) (ns:List Int) (ps:List (Int×Int)) (hp:WO ns=some ps) (h0:L.rules=none) (h1:Ex.GW (Gx a b c ps)=true):Deed L yh (a::b::c::ns) qW {L with rules:=some (Gx a b c ps)}
 | make (w:List UInt8) (hw:w∈R6) (c v p m o:Int) (L1:QA) (hm:m<=1073741824) (h:Fs L ⟨0,0,c,v,o,0,m,p⟩ L1):Deed L w [c,v,p,m,o] qW L1
 | fill0 (c n s:Int) (L1:QA) (hs:1<=s/\s<=10000) (h:Fs L ⟨1,0,c,0,0,0,n,0⟩ L1) (hp:¬Dt n s > 0):Deed L w9 [c,n,s] qW L1
 | fill (c n s:Int) (L1 L2:QA) (hs:1<=s/\s<=10000) (h:Fs L ⟨1,0,c,0,0,0,n,0⟩ L1) (hp:Dt n s > 0) (d:SV L1 ⟨0,0,(atR L1 c).1.Place,0,0,Dt n s⟩ L2):Deed L w9 [c,n,s] qW (X2 L2 c<|Q5<|U7 L2 c+Dt n s)
 | rack (w:List UInt8) (hw:w∈R6) (a b n p:Int) (L1 L2:QA) (h:Fs L ⟨2,0,a,b,0,0,n,0⟩ L1) (hp:No L1 (atR L a).1 n=some p) (hm:Mi L1 (atR L a).1.Place (atR L b).1.Place p L2):Deed L w [a,b,n] qW (X2 (X2 L2 a<|Q5<|U7 L2 a - p) b<|Q5<|U7 (X2 L2 a<|Q5<|U7 L2 a - p) b+p)
 | carry (w:List UInt8) (hw:w∈R6) (a p:Int) (L1 L2:QA) (h:Fs L ⟨4,0,a,0,0,0,0,p⟩ L1) (hm:Mi L1 (atR L a).1.Place p (U7 L1 a) L2):Deed L w [a,p] qW L2
 | keep (w:List UInt8) (hw:w∈R6) (ns:List Int) (x:QF) (L1:QA) (hk:5<=x.Kind/\x.Kind<=8) (h:Fs L x L1):Deed L w ns qW L1
 | stamps (w:List UInt8) (hw:w∈R6) (ns:List Int) (x:QH) (L1:QA) (hk:x.Kind≠1) (hl:L.stamps.length < 256) (h:Mf L x L1):Deed L w ns qW L1
 | pay (w:List UInt8) (hw:w∈R6) (a:Int) (L1:QA) (h:SV L ⟨6,0,0,0,0,a⟩ L1):Deed L w [a] qW L1
 | bottle (num v a z:Int) (ds:List Int) (ps:List (Int×Int)) (b:QU) (L1 L2:QA) (hp:WO ds=some ps) (h0:Qc L.batches num=none) (hd:BX ps ⟨[],v,⟨0,0⟩,false,false⟩ L=some (.ok (b,L1)))
  (hv:Bo.X8 b=true) (hs:Q5 (Q5 (z - a)+1)<=z6 b) (hl:L1.stamps.length < 256) (h:Mf L1 ⟨1,a,z,num⟩ L2):Deed L X1 (num::v::a::z::ds) qW {L2 with batches:=Qx L2.batches num b}
 | ask (d:Wd) (hd:d∈Hm) (hw:d.word∈xW) (ns:List Int) (rep:List UInt8) (h:d.does L ns=some (.ok (rep,L))):Deed L d.word ns rep L
theorem HR(h:zG L=some (.ok (rep,L1))):rep=qW/\L1=L:=by
 simp only[zG,BY,Out.ok.injEq,bY] at h
 exact⟨h.1.symm,h.2.symm⟩
theorem TK{w:UV So}{l:UV Int}(h:NS w l L=some (.ok (rep,L1))):L1=L:=by
 obtain⟨_,h⟩:=Xf h;simp only[BY,Out.ok.injEq,bY] at h
 exact h.2.symm
theorem OW{L':QA}{line:UV So}(hd:∀y∈L.casks,y.Day<=L.day)(h:AJ L line=some (.ok (rep,L'))):∃w ns,HQ line= .ok (w,ns)/\(∃d∈Hm,d.word=w/\Gh d.least d.each ns.length=true)/\(w≠gd->w≠yh->L.rules.isNone=false)/\Deed L w ns rep L' :=by
 unfold AJ at h
 split at h
 ·cases h
 cases hr:HQ line with
 | pan q=>rw[hr] at h;cases h
 | ok w=>
  rw[hr] at h
  simp only at h
  cases hw:AY w.1 with
  | none=>rw[hw] at h;cases h
  | some d=>
   rw[hw] at h
   obtain⟨hf,h⟩:=YQ h;obtain⟨hst,h⟩:=YQ h;obtain⟨_,h⟩:=Xf h;have hdm:d∈Hm:=mJ hw;have hdw:d.word=w.1:=by simpa using List.find?_some hw
   refine⟨w.1,w.2,rfl,⟨d,hdm,hdw,hf⟩,λh1 h2=>by simpa[h1,h2] using hst,?_⟩;rw[<-hdw];have hask:d.word∈xW->L' =L->Deed L d.word w.2 rep L' :=λh1 h2=>by subst h2;exact .ask d hdm h1 _ _ h
   clear hst hw hr
   generalize w.2=ns at hf h hask ⊢
   unfold Hm at hdm
   simp only[j9,lu,oM] at hdm
   rcases hdm with rfl | rfl | rfl | rfl | rfl | rfl | rfl | rfl | rfl | rfl | rfl | rfl | rfl | rfl | rfl | rfl | rfl | rfl | rfl | rfl
   ·obtain⟨a,rfl⟩:=PN hf;obtain⟨h1,h⟩:=YQ h;obtain⟨h2,h⟩:=YQ h;obtain⟨rfl,rfl⟩:=HR h;exact .day a (by simpa using h1)<|by simpa using h2
   ·obtain⟨a,b,c,ns,ps,rfl,hp⟩:=xF hf;obtain⟨_,h⟩:=Xf h;rw[hp,DO] at h
    obtain⟨h1,h⟩:=YQ h;obtain⟨h2,h⟩:=YQ h;obtain⟨rfl,rfl⟩:=HR h;exact .rules a b c ns ps hp (by simpa using h1) h2
   ·obtain⟨a,b,c,d,e,rfl⟩:=gk hf;obtain⟨h1,h⟩:=YQ h;obtain⟨L1,h2,h⟩:=Yy h;obtain⟨rfl,rfl⟩:=HR h;exact .make _ (by simp) _ _ _ _ _ _ (by simpa using h1)<|Xv hd h2
   ·obtain⟨a,b,c,rfl⟩:=It hf;obtain⟨h1,h⟩:=YQ h;obtain⟨L1,h2,h⟩:=Yy h;obtain⟨L2,h3,h⟩:=Yy h;obtain⟨rfl,rfl⟩:=HR h;simp only[AT,IR] at h1
    unfold filled at h3
    split at h3
    ·rename_i hp;obtain⟨L2,h4,h3⟩:=Yy h3;simp only[BY,Out.ok.injEq] at h3
     subst h3;exact .fill a b c L1 L2 h1 (Xv hd h2) hp<|Ct h4
    ·rename_i hp;simp only[BY,Out.ok.injEq] at h3
     subst h3;exact .fill0 a b c _ h1 (Xv hd h2) hp
   ·obtain⟨a,b,c,rfl⟩:=It hf;obtain⟨L1,h2,h⟩:=Yy h;obtain⟨p,hp,h⟩:=nF.1 h;obtain⟨L2,h3,h⟩:=Yy h;obtain⟨rfl,rfl⟩:=HR h;exact .rack _ (by simp) a b c p L1 L2 (Xv hd h2) hp<|Im h3
   ·obtain⟨a,b,rfl⟩:=Ra hf;obtain⟨L1,h2,h⟩:=Yy h;obtain⟨L2,h3,h⟩:=Yy h;obtain⟨rfl,rfl⟩:=HR h;exact .carry _ (by simp) a b L1 _ (Xv hd h2)<|Im h3
   ·obtain⟨a,b,c,rfl⟩:=It hf;obtain⟨L1,h2,h⟩:=Yy h;obtain⟨rfl,rfl⟩:=HR h;exact .keep _ (by simp) _ _ _ ⟨by dsimp only;omega,by dsimp only;omega⟩<|Xv hd h2
   ·obtain⟨a,b,c,rfl⟩:=It hf;obtain⟨L1,h2,h⟩:=Yy h;obtain⟨rfl,rfl⟩:=HR h;exact .keep _ (by simp) _ _ _ ⟨by dsimp only;omega,by dsimp only;omega⟩<|Xv hd h2
   ·obtain⟨a,b,rfl⟩:=Ra hf;obtain⟨L1,h2,h⟩:=Yy h;obtain⟨rfl,rfl⟩:=HR h;exact .keep _ (by simp) _ _ _ ⟨by dsimp only;omega,by dsimp only;omega⟩<|Xv hd h2
   ·obtain⟨a,b,rfl⟩:=Ra hf;obtain⟨L1,h2,h⟩:=Yy h;obtain⟨rfl,rfl⟩:=HR h;exact .keep _ (by simp) _ _ _ ⟨by dsimp only;omega,by dsimp only;omega⟩<|Xv hd h2
   ·obtain⟨a,b,rfl⟩:=Ra hf;obtain⟨L1,h2,h⟩:=Yy h;obtain⟨rfl,rfl⟩:=HR h;obtain⟨hl,h2⟩:=T6 h2;exact .stamps _ (by simp) _ _ _ (by show(0:Int)≠1;decide) hl h2
   ·obtain⟨a,b,rfl⟩:=Ra hf;obtain⟨L1,h2,h⟩:=Yy h;obtain⟨rfl,rfl⟩:=HR h;obtain⟨hl,h2⟩:=T6 h2;exact .stamps _ (by simp) _ _ _ (by show(2:Int)≠1;decide) hl h2
   ·obtain⟨a,b,c,d,ns,ps,rfl,hp⟩:=xG hf;obtain⟨_,h⟩:=Xf h;rw[hp,DO] at h
    obtain⟨h1,h⟩:=YQ h;obtain⟨r,h2,h⟩:=Yy h;obtain⟨_,h⟩:=Xf h;obtain⟨h3,h⟩:=YQ h;obtain⟨h4,h⟩:=YQ h;obtain⟨L2,h5,h⟩:=Yy h;obtain⟨rfl,rfl⟩:=HR h;obtain⟨hl,h5⟩:=T6 h5;exact .bottle a b c d ns ps r.1 r.2 L2 hp (by simpa using h1) h2 h3 (by simpa using h4) hl h5
   ·obtain⟨a,rfl⟩:=PN hf;obtain⟨L1,h2,h⟩:=Yy h;obtain⟨rfl,rfl⟩:=HR h;exact .pay _ (by simp) a _<|Ct h2
   ·obtain⟨a,rfl⟩:=PN hf;refine hask (by simp) ?_;obtain⟨_,h⟩:=YQ h;exact TK h
   ·obtain⟨a,rfl⟩:=PN hf;refine hask (by simp) ?_;obtain⟨_,h⟩:=YQ h;obtain⟨_,_,h⟩:=nF.1 h;obtain⟨_,_,h⟩:=nF.1 h;exact TK h
   ·refine hask (by simp) ?_;obtain⟨_,_,h⟩:=nF.1 h;exact TK h
   ·obtain⟨a,rfl⟩:=PN hf;refine hask (by simp) ?_;obtain⟨_,_,h⟩:=nF.1 h;obtain⟨_,h⟩:=YQ h;exact TK h
   ·obtain⟨a,b,c,d,rfl⟩:=gl hf;refine hask (by simp) ?_;unfold Hn at h
    simp only at h
    split at h
    ·cases h
    ·obtain⟨_,_,h⟩:=nF.1 h;obtain⟨_,h⟩:=YQ h;simp only[BY,Out.ok.injEq,bY] at h
     exact h.2.symm
   ·obtain⟨a,rfl⟩:=PN hf;refine hask (by simp) ?_;obtain⟨_,h⟩:=YQ h;exact TK h
end
section
open Go.Dec Go.Proofs.Tryz Go.Shelf Go.RowKit Go.Maps Go.Sort
set_option maxRecDepth 100000
set_option maxHeartbeats 4000000
def Z4(b:(QV×Bool))(a:Int×Int):H1 (UK (Int×Int)<|Int):=if(decide<|a.2 < (b.1.N.length:Int)) then((ZK b.1.N a.2).bind λc=>QR (Q5<|a.1+c) λd=>QR (Q5<|a.2+2) λe=>some<|.next (d,e)) else(some<|.done a.1)
def KX(b:(UV QV)×Int×(UV Qr))(c:(QV×Bool))(a:Int):H1 (UK (Int)<|(Unit) ⊕ (Bool)):=if(decide<|a < (b.1.length:Int)) then((ZK b.1 a).bind λd=>(ZK d.N 0).bind λe=>(ZK c.1.N 0).bind λf=>(if(e==f) then some true else((ZK b.1 a).bind λg=>(ZK g.N 2).bind λh=>(ZK c.1.N 3).bind λi=>(if(decide<|h<=i) then((ZK c.1.N 2).bind λj=>(ZK b.1 a).bind λk=>(ZK k.N 3).bind λl=>some<|decide<|j<=l) else some false).bind λm=>some m)).bind λn=>if n then(some<|.done<|.inr false) else(QR (Q5<|a+1) λo=>some<|.next o)) else(some<|.done<|.inl ())
def Ze(l2:(UV<|UV So))(e:ON×(UV Qr))(a:(UV QV)×Int×(UV Qr)):H1 (UK ((UV QV)×Int×(UV Qr))<|((UV QV)×(UV Qr)) ⊕ (Bool×(UV Qr))):=if(decide<|a.2.1 < (l2.length:Int)) then((ZK l2 a.2.1).bind λf=>(Vm f).bind λb=>(ZK l2 a.2.1).bind λg=>(WZ a.2.2 e.1 g).bind λc=>if((c.2.1 != 0)||(!(b.1.Word==([98,111,116,116,108,101]:UV So)))) then(QR (Q5<|a.2.1+1) λi66=>some<|.next (a.1,i66,c.2.2)) else((if(!b.2) then some true else((ZK b.1.N 2).bind λh=>(ZK b.1.N 3).bind λi=>some<|decide<|h > i)).bind λj=>if j then(some<|.done<|.inr (false,c.2.2)) else((ZK b.1.N 1).bind λk=>(ZQ (Z4 b) (k,5)).bind λl=>(ZK b.1.N 3).bind λm=>(ZK b.1.N 2).bind λn=>if(decide<|(Q5<|(Q5<|(Q5<|m - n)+1)*700) > l) then(some<|.done<|.inr (false,c.2.2)) else((ZQ (KX a b) 0).bind λo=>match o with | .inl d=>((J3 a.1<|[b.1]).bind λp=>QR (Q5<|a.2.1+1) λi261=>some<|.next (p,i261,c.2.2)) | .inr d=>(some<|.done<|.inr (d,c.2.2)))))) else(some<|.done<|.inl (a.1,a.2.2))
def KW(e:Int)(f:ON×(UV Qr))(d:(UV QV)×(UV Qr))(a:Int×(UV Qr)):H1 (UK (Int×(UV Qr))<|(UV Qr) ⊕ (Bool×(UV Qr))):=if(decide<|a.1 < (d.1.length:Int)) then((ZK d.1 a.1).bind λb=>(ZK b.N 2).bind λg=>(ZK b.N 3).bind λh=>(ZK b.N 2).bind λi=>(PC (Q5<|e)<|Q5<|(Q5<|h - i)+1).bind λj=>(UG<|Q5<|g+j).bind λk=>(J3 ([119,104,111,115,101,32]:UV So) k).bind λl=>(WZ a.2 f.1 l).bind λc=>(if(c.2.1 != 0) then some true else((ZK b.N 0).bind λm=>(UG m).bind λn=>(J3 ([98,97,116,99,104,32]:UV So) n).bind λo=>some<|!(c.1==o))).bind λp=>if p then(some<|.done<|.inr (false,c.2.2)) else(QR (Q5<|a.1+1) λq=>some<|.next (q,c.2.2))) else(some<|.done<|.inl a.2)
def JC(A1:UV Qr)(l2:(UV<|UV So))(which6:Int):H1 (Bool×(UV Qr)):=(US l2).bind λr9=>if(!r9) then(WS.bind λr13=>some (r13,A1)) else((HU A1).bind λr14=>if(r14.1).isNone then(some (false,r14.2)) else((ZQ (Ze l2 r14) ([],0,r14.2)).bind λb0=>match b0 with | .inl b263=>((ZQ (KW which6 r14 b263) (0,b263.2)).bind λb0=>match b0 with | .inl b401=>(WS.bind λr408=>some (r408,b401)) | .inr b401=>(some (b401.1,b401.2))) | .inr b263=>(some (b263.1,b263.2))))
theorem Ge(F0:Fz)(hT:Xz F0)(U:Jx)(A1:UV Qr)(l2:(UV<|UV So))(p3:H1 OF)(k4:Nat)(h5:QI 1 (Ex S5) F0 p3 k4 l2)(which6:Int):HN prog 3 #[(vS p3 l2 k4),(.int .u16 which6)] F0 [Wu U F0 A1] (JC A1 l2 which6) (λr _ v=>v=(.bool r.1)) (λr F' =>[Wu U F' r.2]):=by
 refine HN.enter func3 J ntmps3 J λr R=>(.o (Sub.refl _) (J:_=[Wu U F0 A1,R]) ?_);unfold JC;refine .w 9<|.bC J call4 J J J (Ap _ l2 p3 k4 h5)<|K0 λr9 F7 _ l8=>.w 3<|.i J (λhb10=> ?_) λhb10=> ?_
 ·exact .w 2<|.bC J call5 J J J (C8 _<|hT.mono l8)<|K0 λr13 F11 _ l12=>.w 3<|.bI 0 (Vy U) (Fz.t l8 l12) J<|.sJ [0,0] results3 (.tmp J<|.nil) J (Fz.t l8 l12) J
 ·refine .w 4<|.bI 0 (Vy U) l8 J<|.bV [0] J call6 J J J J (Tl _ U A1) ?_;rintro r14 F15 _ e17 l16 ⟨p18,k19,rfl,h20⟩;refine .pick [0,0] (J:_=[Wu U F15 r14.2,R])<|.w 7<|.cJ h20 J di J J<|.w 2<|.i J (λhb21=> ?_) λhb21=> ?_
  ·exact .w 5<|.sJ [0,0] results3 (.tmp J<|.nil) J (Fz.t l8 l16) J
  ·refine .w 14 (.bj 2 ZY 31<|.keep (.p [0,1,5,6,7] J)<|.loop (fun(s23:(UV QV)×Int×(UV Qr)) a w=>∃(F24:Fz) (p26:H1 OF) (k27:Nat),F15<=F24/\Hd 195 [] [(0,(vS p3 l2 k4)),(1,(.int .u16 which6)),(5,(.pointer p18)),(6,(vS p26 s23.1 k27)),(7,(vI s23.2.1))] F24 [Qj 2 ZY F24 31 p26 k27 s23.1,Wu U F24 s23.2.2,R] a w) (λb0 e a w=>match b0 with | .inl b263=>e= .exit 0/\∃(F264:Fz) (p266:H1 OF) (k267:Nat),F15<=F264/\Hd 195 [] [(1,(.int .u16 which6)),(5,(.pointer p18)),(6,(vS p266 b263.1 k267))] F264 [Qj 2 ZY F264 31 p266 k267 b263.1,Wu U F264 b263.2,R] a w | .inr b263=>e= .ret/\∃(F269:Fz),F15<=F269/\Hd 195 [] [(4,(.bool b263.1))] F269 [Wu U F269 b263.2,R] a w) ?_ ?_ ?_)
   ·exact λa w h=>⟨F15,none,0,Fz.r,h.1.sub<|.k J,h.2⟩
   ·intro s23 ctl;refine GG.ex λa w ⟨F24,p26,k27,l25,hA⟩=>⟨_,hA,?_⟩;unfold Ze;refine .w 5<|.bW J J yW J<|.w 3<|.i J (λhb29=> ?_) λhb29=> ?_
    ·refine .w 8<|.idx J yW W9 (h5.mono<|Fz.t l8<|Fz.t l16 l25) J J λx30 b31 o32 T33 fr34 cs35 e36 hm37 hv38=>.U J V9 J hm37 (QG (k:=0) hv38 J)<|.bC J call7 J J J (Cz _ x30) ?_;rintro r42 F40 _ - l41 ⟨p43,k44,rfl,h45⟩;refine .w 3<|.l (cs:=(Qe (QV.mk ([])<|[]) none 0)) J gU J λb46=>.store (cs' :=(Qe r42.1 p43 k44)) yJ J J J J (i:=0) J (JV J) J (Qa<|by rfl)<|.w 8<|.idx J yW W9 (h5.mono<|Fz.t l8<|Fz.t l16<|Fz.t l25 l41) J J λx47 b48 o49 T50 fr51 cs52 e53 hm54 hv55=>.U J V9 J hm54 (QG (k:=0) hv55 J)<|.bI 2 (Vy U) l41 J<|.bV [2] J call8 J J J J (C9 _ (hT.mono<|Fz.t l8<|Fz.t l16<|Fz.t l25 l41) U s23.2.2 r14.1 p18 k19 (h20.mono<|Fz.t l25 l41) x47)<|K0 λr57 F58 e60 l59=>.pick [1,1,0,0] (J:_=[pc b46 (Qe r42.1 p43 k44) 31,Qj 2 ZY F24 31 p26 k27 s23.1,Wu U F58 r57.2.2,R])<|.w 6<|.keep (.p [0,1,5,6,7,8,9,11] J)<|.w 7<|.pa (b:=(r57.2.1 != 0)) (b' :=(!(r42.1.Word==([98,111,116,116,108,101]:UV So)))) 4 55 J (λhb61=> ?_) λF63 l64=> ?_
     ·exact .dr hb61 J J<|.f J Me J W9 J<|.dr hb61 J J<|.dq J V9 J (i:=0) J J<|.dr hb61 J J<|.tv J U9 J J<|.bQ hb61 J J J<|.fi Fz.r
     refine .w 2<|.i J (λhb65=> ?_) λhb65=> ?_
     ·exact .exit J<|.w 4<|.bF J J λi66 e67=>.n<|.drop 0<|.c6 0 (Fz.t l41<|Fz.t l59 l64) J<|.bI 1 (Vy U) l64 J<|.bA<|Qz.norm λa w h=>⟨F63,p26,k27,(Fz.t l25<|Fz.t l41<|Fz.t l59 l64),h.1.sub<|.k J,h.2⟩
     ·refine .w 4<|.keep (.p [0,1,5,6,7,8,9] J)<|.bH 13 Qd (by kernel_rfl)<|.w 3<|.pR (b:=(!r42.2)) 10 68 J (λhb68 z93=> ?_) λz92 F90 l91=> ?_
      ·exact .dr hb68 J J<|.f J Me J Ow J<|.dr hb68 J J<|.dq J Ol J (i:=0) J J<|.dr hb68 J J<|.idx J VI W3 (h45.mono<|Fz.t l59 l64) J J λx69 b70 o71 T72 fr73 cs74 e75 hm76 hv77=>.dr hb68 J J<|.U J V3 J hm76 (QG (k:=0) hv77 J)<|.dr hb68 J J<|.f J Me J Ow J<|.dr hb68 J J<|.dq J Ol J (i:=0) J J<|.dr hb68 J J<|.idx J VI W3 (h45.mono<|Fz.t l59 l64) J J λx79 b80 o81 T82 fr83 cs84 e85 hm86 hv87=>.dr hb68 J J<|.U J V3 J hm86 (QG (k:=0) hv87 J)<|.dr hb68 J J<|.gtr J J J<|.bQ hb68 J J J<|.bz 10 J J (by kernel_rfl) Fz.r
      refine .bR<|.w 2<|.i J (λhb94=> ?_) λhb94=> ?_
      ·refine .w 5<|.drop 1<|.drop 0<|.bI 0 (Vy U) (Fz.t l64 l91) J<|.bc<|Qz.ret λa w h=>⟨J,F90,(Fz.t l25<|Fz.t l41<|Fz.t l59<|Fz.t l64 l91),h.1.sub<|.k J,h.2⟩
      ·refine .w 4<|.f J Me J Ow J<|.dq J Ol J (i:=0) J J<|.idx J VI W3 (h45.mono<|Fz.t l59<|Fz.t l64 l91) J J λx95 b96 o97 T98 fr99 cs100 e101 hm102 hv103=>.U J V3 J hm102 (QG (k:=0) hv103 J)<|.w 10<|.keep (.p [0,1,5,6,7,8,12,13] J)<|.loop (fun(s105:Int×Int) a w=>∃(F106:Fz),F90<=F106/\Hd 195 [] [(0,(vS p3 l2 k4)),(1,(.int .u16 which6)),(5,(.pointer p18)),(6,(vS p26 s23.1 k27)),(7,(vI s23.2.1)),(8,(vP b46 0)),(12,(vI s105.1)),(13,(vI s105.2))] F106 [pc b46 (Qe r42.1 p43 k44) 31,Qj 2 ZY F24 31 p26 k27 s23.1,Wu U F58 r57.2.2,R] a w) (λb123 e a w=>e= .exit 2/\∃(F124:Fz),F90<=F124/\Hd 195 [] [(0,(vS p3 l2 k4)),(1,(.int .u16 which6)),(5,(.pointer p18)),(6,(vS p26 s23.1 k27)),(7,(vI s23.2.1)),(8,(vP b46 0)),(12,(vI b123))] F124 [pc b46 (Qe r42.1 p43 k44) 31,Qj 2 ZY F24 31 p26 k27 s23.1,Wu U F58 r57.2.2,R] a w) ?_ ?_ ?_
       ·exact λa w h=>⟨F90,Fz.r,h.1.sub<|.k J,h.2⟩
       ·intro s105 ctl;refine GG.ex λa w ⟨F106,l107,hA⟩=>⟨_,hA,?_⟩;unfold Z4;refine .w 4<|.f J Me J Ow J<|.dq J Ol J (i:=0) J J<|.bW J J VI J<|.w 3<|.i J (λhb108=> ?_) λhb108=> ?_
        ·exact .w 6<|.f J Me J Ow J<|.dq J Ol J (i:=0) J J<|.m J J<|.idx J VI W3 (h45.mono<|Fz.t l59<|Fz.t l64<|Fz.t l91 l107) J J λx109 b110 o111 T112 fr113 cs114 e115 hm116 hv117=>.U J V3 J hm116 (QG (k:=0) hv117 J)<|.add J J J<|.bF J J λtotal119 e120=>.w 6<|.bF J J λk121 e122=>.n<|.bA<|Qz.norm λa w h=>⟨F106,l107,h.1.sub<|.k J,h.2⟩
        ·refine .bE J<|Qz.exit λa w h=>⟨J,F106,l107,h.1.sub<|.k J,h.2⟩
       ·intro b123 hb0 hk e a w hD;obtain⟨rfl,F124,l125,hA⟩:=hD;refine Q6 J<|GG.app ?_ hk a w hA;refine .w 3<|.keep (.p [0,1,5,6,7,8,12] J)<|.bH 13 Qd (by kernel_rfl)<|.f J Me J Ow J<|.dq J Ol J (i:=0) J J<|.idx J VI W3 (h45.mono<|Fz.t l59<|Fz.t l64<|Fz.t l91 l125) J J λx126 b127 o128 T129 fr130 cs131 e132 hm133 hv134=>.U J V3 J hm133 (QG (k:=0) hv134 J)<|.f J Me J Ow J<|.dq J Ol J (i:=0) J J<|.idx J VI W3 (h45.mono<|Fz.t l59<|Fz.t l64<|Fz.t l91 l125) J J λx136 b137 o138 T139 fr140 cs141 e142 hm143 hv144=>.U J V3 J hm143 (QG (k:=0) hv144 J)<|.w 5<|.bR<|.w 2<|.i J (λhb146=> ?_) λhb146=> ?_
        ·refine .w 5<|.drop 1<|.drop 0<|.bI 0 (Vy U) (Fz.t l64<|Fz.t l91 l125) J<|.bc<|Qz.ret λa w h=>⟨J,F124,(Fz.t l25<|Fz.t l41<|Fz.t l59<|Fz.t l64<|Fz.t l91 l125),h.1.sub<|.k J,h.2⟩
        ·refine .w 9 (.keep (.p [0,1,5,6,7,8,14] J)<|.loop (fun(s147:Int) a w=>∃(F148:Fz),F124<=F148/\Hd 195 [] [(0,(vS p3 l2 k4)),(1,(.int .u16 which6)),(5,(.pointer p18)),(6,(vS p26 s23.1 k27)),(7,(vI s23.2.1)),(8,(vP b46 0)),(14,(vI s147))] F148 [pc b46 (Qe r42.1 p43 k44) 31,Qj 2 ZY F24 31 p26 k27 s23.1,Wu U F58 r57.2.2,R] a w) (λb0 e a w=>match b0 with | .inl b247=>e= .exit 4/\∃(F248:Fz),F124<=F248/\Hd 195 [] [(0,(vS p3 l2 k4)),(1,(.int .u16 which6)),(5,(.pointer p18)),(6,(vS p26 s23.1 k27)),(7,(vI s23.2.1)),(8,(vP b46 0))] F248 [pc b46 (Qe r42.1 p43 k44) 31,Qj 2 ZY F24 31 p26 k27 s23.1,Wu U F58 r57.2.2,R] a w | .inr b247=>e= .ret/\∃(F250:Fz),F124<=F250/\Hd 195 [] [(4,(.bool b247))] F250 [Wu U F58 r57.2.2,R] a w) ?_ ?_ ?_)
         ·exact λa w h=>⟨F124,Fz.r,h.1.sub<|.k J,h.2⟩
         ·intro s147 ctl;refine GG.ex λa w ⟨F148,l149,hA⟩=>⟨_,hA,?_⟩;unfold KX;refine .w 5<|.bW J J wx J<|.w 3<|.i J (λhb150=> ?_) λhb150=> ?_
          ·refine .w 5 (.keep (.p [0,1,5,6,7,8,14] J)<|.bH 40 Qd (by kernel_rfl)<|.w 2<|.d λx151 e152=>.cn 1 J e152 λb153 hp154=>.sI J wx yJ hp154 e152 J J<|.f J Me J Ow J<|.cp (off:=1) (Φ:=λv=>∃(p155:H1 OF) (k156:Nat),v=(vS p155 x151.N k156)/\QI 1 (Ex<|Z6 .i64) F148 p155 k156 x151.N) 1 J (Fz.t l41<|Fz.t l59<|Fz.t l64<|Fz.t l91<|Fz.t l125 l149) J Ol hp154 e152 J J (λvs ⟨q0,q1,h,r0⟩=>⟨_,by subst h;exact J,q0,q1,J,r0⟩) λv hv=> ?_);obtain⟨p155,k156,rfl,h157⟩:=hv;refine .idx J VI W3 h157 J J λx158 b159 o160 T161 fr162 cs163 e164 hm165 hv166=>.U J V3 J hm165 (QG (k:=0) hv166 J)<|.f J Me J Ow J<|.dq J Ol J (i:=0) J J<|.idx J VI W3 (h45.mono<|Fz.t l59<|Fz.t l64<|Fz.t l91<|Fz.t l125 l149) J J λx168 b169 o170 T171 fr172 cs173 e174 hm175 hv176=>.U J V3 J hm175 (QG (k:=0) hv176 J)<|.w 2<|.orM (b:=(x158==x168)) 27 145 (λhb178 z243=> ?_) (λhb239=> ?_) λz242 F240 l241=> ?_
           ·refine .dr hb178 J J (.m J J<|.dr hb178 J J<|.m J J<|.dr hb178 J J<|.d λx179 e180=>.cn 1 J e180 λb181 hp182=>.sI J wx yJ hp182 e180 J J<|.dr hb178 J J<|.f J Me J Ow J<|.dr hb178 J J<|.cp (off:=1) (Φ:=λv=>∃(p183:H1 OF) (k184:Nat),v=(vS p183 x179.N k184)/\QI 1 (Ex<|Z6 .i64) F148 p183 k184 x179.N) 1 J (Fz.t l41<|Fz.t l59<|Fz.t l64<|Fz.t l91<|Fz.t l125 l149) J Ol hp182 e180 J J (λvs ⟨q0,q1,h,r0⟩=>⟨_,by subst h;exact J,q0,q1,J,r0⟩) λv hv=> ?_);obtain⟨p183,k184,rfl,h185⟩:=hv;refine .dr hb178 J J<|.idx J VI W3 h185 J J λx186 b187 o188 T189 fr190 cs191 e192 hm193 hv194=>.dr hb178 J J<|.U J V3 J hm193 (QG (k:=0) hv194 J)<|.dr hb178 J J<|.f J Me J Ow J<|.dr hb178 J J<|.dq J Ol J (i:=0) J J<|.dr hb178 J J<|.idx J VI W3 (h45.mono<|Fz.t l59<|Fz.t l64<|Fz.t l91<|Fz.t l125 l149) J J λx196 b197 o198 T199 fr200 cs201 e202 hm203 hv204=>.dr hb178 J J<|.U J V3 J hm203 (QG (k:=0) hv204 J)<|.dr hb178 J J<|.leq J J J<|.dr hb178 J J<|.m J J<|.andM (b:=(decide<|x186<=x196)) 13 144 (λhb206 z238=> ?_) (λhb234=> ?_) λz237 F235 l236=> ?_
            ·refine .dr hb206 J J (.f J Me J Ow J<|.dr hb206 J J<|.dq J Ol J (i:=0) J J<|.dr hb206 J J<|.idx J VI W3 (h45.mono<|Fz.t l59<|Fz.t l64<|Fz.t l91<|Fz.t l125 l149) J J λx207 b208 o209 T210 fr211 cs212 e213 hm214 hv215=>.dr hb206 J J<|.U J V3 J hm214 (QG (k:=0) hv215 J)<|.dr hb206 J J<|.m J J<|.dr hb206 J J<|.m J J<|.dr hb206 J J<|.d λx217 e218=>.cn 1 J e218 λb219 hp220=>.sI J wx yJ hp220 e218 J J<|.dr hb206 J J<|.f J Me J Ow J<|.dr hb206 J J<|.cp (off:=1) (Φ:=λv=>∃(p221:H1 OF) (k222:Nat),v=(vS p221 x217.N k222)/\QI 1 (Ex<|Z6 .i64) F148 p221 k222 x217.N) 1 J (Fz.t l41<|Fz.t l59<|Fz.t l64<|Fz.t l91<|Fz.t l125 l149) J Ol hp220 e218 J J (λvs ⟨q0,q1,h,r0⟩=>⟨_,by subst h;exact J,q0,q1,J,r0⟩) λv hv=> ?_);obtain⟨p221,k222,rfl,h223⟩:=hv;exact .dr hb206 J J<|.idx J VI W3 h223 J J λx224 b225 o226 T227 fr228 cs229 e230 hm231 hv232=>.dr hb206 J J<|.U J V3 J hm231 (QG (k:=0) hv232 J)<|.dr hb206 J J<|.leq J J J<|.dr hb178 J J<|.dv hb206 J J J<|.bz 13 J J (by kernel_rfl) Fz.r
            ·exact .bJ hb234 J J J<|.bJ hb234 J J J<|.bJ hb234 J J J<|.bJ hb234 J J J<|.bJ hb234 J J J<|.bJ hb234 J J J<|.bJ hb234 J J J<|.bJ hb234 J J J<|.bJ hb234 J J J<|.bJ hb234 J J J<|.bJ hb234 J J J<|.bJ hb234 J J J<|.dr hb178 J J<|.bQ hb234 J J J<|.fi Fz.r
            exact .bQ hb178 J J J<|.bz 15 J J (by kernel_rfl) l236
           ·exact .bJ hb239 J J J<|.bJ hb239 J J J<|.bJ hb239 J J J<|.bJ hb239 J J J<|.bJ hb239 J J J<|.bJ hb239 J J J<|.bJ hb239 J J J<|.bJ hb239 J J J<|.bJ hb239 J J J<|.bJ hb239 J J J<|.bJ hb239 J J J<|.bJ hb239 J J J<|.bJ hb239 J J J<|.off J J J J<|.off J J J J<|.off J J J J<|.off J J J J<|.off J J J J<|.off J J J J<|.off J J J J<|.off J J J J<|.off J J J J<|.off J J J J<|.off J J J J<|.off J J J J<|.bJ hb239 J J J<|.dv hb239 J J J<|.fi Fz.r
           refine .bR<|.w 2<|.i J (λhb244=> ?_) λhb244=> ?_
           ·refine .w 5<|.drop 1<|.drop 0<|.bc<|Qz.ret λa w h=>⟨J,F240,(Fz.t l149 l241),h.1.sub<|.k J,h.2⟩
           ·exact .w 6<|.bF J J λk245 e246=>.n<|.bA<|Qz.norm λa w h=>⟨F240,(Fz.t l149 l241),h.1.sub<|.k J,h.2⟩
          ·refine .bE J<|Qz.exit λa w h=>⟨J,F148,l149,h.1.sub<|.k J,h.2⟩
         ·intro b247 hb0 hk e a w hD;rcases b247 with b247 | b247
          ·obtain⟨rfl,F248,l249,hA⟩:=hD;refine Q6 J<|GG.app ?_ hk a w hA;refine .w 3 (.bG J fc yJ J (i:=0) J (vs:=(Qe r42.1 p43 k44)) (by kernel_rfl) J<|.bO (cs:=((Qe r42.1 p43 k44))) (zc:=((Qe (QV.mk ([])<|[]) none 0))) J wx yJ gU J J J (by kernel_rfl) (by kernel_rfl) λb252 F253 l254 hb255=> ?_);have h256:QI 2 ZY F253 (some ⟨b252,0,none⟩) 1 ([r42.1]):=QI.ofRow hb255 (.cons vA.mono ⟨_,_,J,(h45.mono<|Fz.t l59<|Fz.t l64<|Fz.t l91<|Fz.t l125<|Fz.t l249 l254)⟩ .nil) J J;exact .append 1 vA (Fz.t l41<|Fz.t l59<|Fz.t l64<|Fz.t l91<|Fz.t l125<|Fz.t l249 l254) J wx wx J J J h256 J J λl257 p258 k259 e260=>.w 7<|.bF J J λi261 e262=>.n<|.drop 0<|.bI 1 (Vy U) (Fz.t l64<|Fz.t l91<|Fz.t l125<|Fz.t l249 l254) J<|.bA<|Qz.norm λa w h=>⟨F253,p258,k259,(Fz.t l25<|Fz.t l41<|Fz.t l59<|Fz.t l64<|Fz.t l91<|Fz.t l125<|Fz.t l249 l254),h.1.sub<|.k J,h.2⟩
          obtain⟨rfl,F250,l251,hA⟩:=hD
          replace hA:=Hd.bI 0 (Vy U) (Fz.t l64<|Fz.t l91<|Fz.t l125 l251) rfl hA
          exact K7<|(Qz.ret λa w h=>⟨J,F250,(Fz.t l25<|Fz.t l41<|Fz.t l59<|Fz.t l64<|Fz.t l91<|Fz.t l125 l251),h.1.sub<|.k J,h.2⟩) hk a w hA
    ·refine .bE J<|Qz.exit λa w h=>⟨J,F24,p26,k27,l25,h.1.sub<|.k J,h.2⟩
   ·intro b263 hb0 hk e a w hD;rcases b263 with b263 | b263
    ·obtain⟨rfl,F264,p266,k267,l265,hA⟩:=hD;refine Q6 J<|GG.app ?_ hk a w hA;refine .w 8 (.keep (.p [1,5,6,15] J)<|.loop (fun(s271:Int×(UV Qr)) a w=>∃(F272:Fz),F264<=F272/\Hd 195 [] [(1,(.int .u16 which6)),(5,(.pointer p18)),(6,(vS p266 b263.1 k267)),(15,(vI s271.1))] F272 [Qj 2 ZY F264 31 p266 k267 b263.1,Wu U F272 s271.2,R] a w) (λb0 e a w=>match b0 with | .inl b401=>e= .exit 6/\∃(F402:Fz),F264<=F402/\Hd 195 [] [] F402 [Qj 2 ZY F264 31 p266 k267 b263.1,Wu U F402 b401,R] a w | .inr b401=>e= .ret/\∃(F404:Fz),F264<=F404/\Hd 195 [] [(4,(.bool b401.1))] F404 [Wu U F404 b401.2,R] a w) ?_ ?_ ?_)
     ·exact λa w h=>⟨F264,Fz.r,h.1.sub<|.k J,h.2⟩
     ·intro s271 ctl;refine GG.ex λa w ⟨F272,l273,hA⟩=>⟨_,hA,?_⟩;unfold KW;refine .w 5<|.bW J J wx J<|.w 3<|.i J (λhb274=> ?_) λhb274=> ?_
      ·refine .w 8 (.d λx275 e276=>.cn 0 J e276 λb277 hp278=>.sI J wx yJ hp278 e276 J J<|.f J Me J Ow J<|.cp (off:=1) (Φ:=λv=>∃(p279:H1 OF) (k280:Nat),v=(vS p279 x275.N k280)/\QI 1 (Ex<|Z6 .i64) F272 p279 k280 x275.N) 0 J l273 J Ol hp278 e276 J J (λvs ⟨q0,q1,h,r0⟩=>⟨_,by subst h;exact J,q0,q1,J,r0⟩) λv hv=> ?_);obtain⟨p279,k280,rfl,h281⟩:=hv;refine .w 4<|.keep (.p [1,5,6,15,16] J)<|.d λx283 e289=> ?_;obtain⟨b284,o285,T286,fr287,cs288,hm290,hv291,hq292⟩:=QI.cZ h281 e289;refine .d λx293 e299=> ?_;obtain⟨b294,o295,T296,fr297,cs298,hm300,hv301,hq302⟩:=QI.cZ h281 e299;refine .d λx303 e309=> ?_;obtain⟨b304,o305,T306,fr307,cs308,hm310,hv311,hq312⟩:=QI.cZ h281 e309;refine .d λq313 hx315=>.d λr318 hx319=>.d λs320 e321=>.d λr322 e323=>.dG 23 0 (λenv282=>[vT<|.pointer p18,vT<|vS p279 x275.N k280,vT<|vP b284 o285,vT<|vI x283,vT<|.int .u16 which6,vT<|vI<|Q5<|which6,vT<|vS p279 x275.N k280,vT<|vP b294 o295,vT<|vI x293,vT<|vS p279 x275.N k280,vT<|vP b304 o305,vT<|vI x303,vT<|vI<|Q5<|x293 - x303,vT<|vI<|Q5<|(Q5<|x293 - x303)+1,vT<|vI q313,vT<|vI<|Q5<|x283+q313,vT<|.string<|bs r318,vT<|.string<|bs s320,((.tuple #[(.string<|bs r322.1),(vI r322.2.1)]),λG=>env282.f 180<=G),vT<|.tuple #[(.string<|bs r322.1),(vI r322.2.1)],vT<|.string<|bs r322.1,vT<|vI r322.2.1,vT<|.string<|bs r322.1]) (λL env282=>[Qj 2 ZY F264 31 p266 k267 b263.1,(bif L 18 then(Wu U (env282.f 180) r322.2.2) else(Wu U F272 s271.2)),R]) Qd (by kernel_rfl) (λ_=>J) (λ_=>J) ?_ λenv282 F324 l325 hphi=> ?_
       ·refine .V 2 (λ_ _=>⟨J,J,J⟩)<|.B (.cP J VI W3 hq292 J J<|.fv J)<|.b (λ_ _ _ l334=>.U J V3 J (l334.mem _ _ hm290) (QG (k:=0) hv291 J)<|.fv J)<|.V 1 (λ_ _=>⟨J,J⟩)<|.B (.sW J dk U3 J<|.fv J)<|.V 1 (λ_ _=>⟨J,J⟩)<|.B (.cP J VI W3 hq302 J J<|.fv J)<|.b (λ_ _ _ l344=>.U J V3 J (l344.mem _ _ hm300) (QG (k:=0) hv301 J)<|.fv J)<|.V 1 (λ_ _=>⟨J,J⟩)<|.B (.cP J VI W3 hq312 J J<|.fv J)<|.b (λ_ _ _ l350=>.U J V3 J (l350.mem _ _ hm310) (QG (k:=0) hv311 J)<|.fv J)<|.V 2 (λ_ _=>⟨J,J,J⟩)<|.B (.rj hx315 J J J<|.fv J)<|.V 1 (λ_ _=>⟨J,J⟩)<|.B (?_) ?_
        ·exact .bq hx319 J call9 J J J (Gm _<|Q5<|x283+q313)<|WJ λF361 l362=>.cI J J l362
        refine .B (.ra e321 J J J<|.fv J)<|.a (λ_ env282 _ l366 hL _ _ _=> ?_) ?_
        ·exact .o (Sub.refl _) ((QC J<|QC (KV hL)<|QC J J):_=[Qj 2 ZY F264 31 p266 k267 b263.1,Wu U F272 s271.2,R])<|.bI 1 (Vy U) l366 J<|.sx e323 [1] J call8 J J J J (C9 _ (hT.mono<|Fz.t l8<|Fz.t l16<|Fz.t l265<|Fz.t l273 l366) U s271.2 r14.1 p18 k19 (h20.mono<|Fz.t l265<|Fz.t l273 l366) s320)<|WJ λF367 l368=>.pick [1,0,0] (J:_=[Qj 2 ZY F264 31 p266 k267 b263.1,Wu U F367 r322.2.2,R])<|.bg ({env282 with a:=env282.a,o:=env282.o,f:=(ZM env282.f 180 F367)}) [true,true,true,true,true,true,true,true,true,true,true,true,true,true,true,true,true,true,false,false,false,false,false] J (by kernel_rfl) J J l368 (λ_ le=>le)<|QC J<|QC (Jn J)<|QC J J
        refine .a (λ_ _ _ _ _ hdn _ hphi=> ?_) ?_
        ·have l326:=hphi 18 _ (hdn 1 18 J) J _ Fz.r;exact .m J J<|.fv J
        refine .a (λ_ _ _ _ _ hdn _ hphi=> ?_) ?_
        ·have l326:=hphi 18 _ (hdn 2 18 J) J _ Fz.r;exact .x J J J<|.fv J
        refine .a (λ_ _ _ _ _ hdn _ hphi=> ?_) ?_
        ·have l326:=hphi 18 _ (hdn 2 18 J) J _ Fz.r;exact .x J J J<|.fv J
        refine .a (λ_ _ _ _ _ hdn _ hphi=> ?_) ?_
        ·have l326:=hphi 18 _ (hdn 1 18 J) J _ Fz.r;exact .s J J<|.fv J
        exact .nil
       have l326:=hphi 18 _ J;refine .o (.p [1,5,6,15,16,17,161,162,163,164,165,166,167,168,169,170,171,172,173,174,175,176,177,178,179,180,181,182] J) (J:_=[Qj 2 ZY F264 31 p266 k267 b263.1,Wu U (env282.f 180) r322.2.2,R])<|.w 2<|.keep (.p [1,5,6,15,16,17,18] J)<|.w 6<|.pR (b:=(r322.2.1 != 0)) 8 193 J (λhb377 z397=> ?_) λz396 F394 l395=> ?_
       ·exact .dr hb377 J J<|.m J J<|.dr hb377 J J<|.m J J<|.dr hb377 J J<|.idx J VI W3 (h281.mono l325) J J λx378 b379 o380 T381 fr382 cs383 e384 hm385 hv386=>.dr hb377 J J<|.U J V3 J hm385 (QG (k:=0) hv386 J)<|.dr hb377 J J<|.bC J call9 J J J (Gm _ x378)<|K0 λr390 F388 _ l389=>.dr hb377 J J<|.pK J J J λs391 e392=>.dr hb377 J J<|.tv J U9 J J<|.bQ hb377 J J J<|.bz 8 J J (by kernel_rfl) l389
       refine .w 2<|.i J (λhb398=> ?_) λhb398=> ?_
       ·refine .w 5<|.drop 0<|.bI 0 (Vy U) (Fz.t l326 l395) J<|.bc<|Qz.ret λa w h=>⟨J,F394,(Fz.t l273<|Fz.t l325 l395),h.1.sub<|.k J,h.2⟩
       ·exact .w 6<|.bF J J λk399 e400=>.n<|.bI 1 (Vy U) (Fz.t l326 l395) J<|.bA<|Qz.norm λa w h=>⟨F394,(Fz.t l273<|Fz.t l325 l395),h.1.sub<|.k J,h.2⟩
      ·refine .bE J<|Qz.exit λa w h=>⟨J,F272,l273,h.1.sub<|.k J,h.2⟩
     ·intro b401 hb0 hk e a w hD;rcases b401 with b401 | b401
      ·obtain⟨rfl,F402,l403,hA⟩:=hD;refine Q6 J<|GG.app ?_ hk a w hA;exact .w 3<|.bC J call5 J J J (C8 _<|hT.mono<|Fz.t l8<|Fz.t l16<|Fz.t l265 l403)<|K0 λr408 F406 _ l407=>.w 3<|.bI 1 (Vy U) l407 J<|.sJ [1,1] results3 (.tmp J<|.nil) J (Fz.t l8<|Fz.t l16<|Fz.t l265<|Fz.t l403 l407) J
      obtain⟨rfl,F404,l405,hA⟩:=hD;exact K7<|(Hq [0,0] results3 (.tmp J<|.nil) J (Fz.t l8<|Fz.t l16<|Fz.t l265 l405) J) hk a w hA
    obtain⟨rfl,F269,l270,hA⟩:=hD;exact K7<|(Hq [0,0] results3 (.tmp J<|.nil) J (Fz.t l8<|Fz.t l16 l270) J) hk a w hA
def Yj(l2:(UV<|UV So))(a:Int):H1 Bool:=(JC [] l2 a).map Prod.fst
theorem G8(F0:Fz)(hT:Xz F0)(l2:(UV<|UV So))(a:H1 OF)(b:Nat)(d:QI 1 (Ex S5) F0 a b l2)(c:Int):KH prog 3 #[(vS a l2 b),(.int .u16 c)] F0 (Yj l2 c) (λr _ v=>v=(.bool r)):=KH.rP (C:=λγ=>fR<|Jx.mk 0 0 0 γ 0 0 0 0 0) λγ F le=>Ge F (hT.mono le) (Jx.mk 0 0 0 γ 0 0 0 0 0) [] l2 a b (d.mono le) c
end
section
open Go.Dec
variable{L L1:QA}{num X a:Int}
theorem AH(s:UV So)(hs:s.length<=13):∀(post pre:UV So),s=pre++post->pre.all Re=true->
  ZQ (Ja s) ((Wn pre:Int),(pre.length:Int))=some (if post.all Re then .inl (Wn s:Int) else .inr (0,false))
 | [],pre,e,hp=>by
  rw[np] at e;subst e
  rw[ZC];unfold Ja;simp
 | c::post,pre,e,hp=>by
  have hi:=XQ e;have hget:=VD e;have hv:=Ej hp (by omega);have h3:c.toNat < 256:=c.toNat_lt
  have hbody:Ja s ((Wn pre:Int),(pre.length:Int))=some (if Re c then .next ((Wn (pre++[c]):Int),((pre++[c]).length:Int)) else .done (.inr (0,false))):=by
   unfold Ja;simp only[Zw,hget,DO,QR,show(decide<|(pre.length:Int) < (s.length:Int))=true by simpa using hi,Rw];by_cases hd:Re c=true
   ·have hd' :=hd;simp only[Re,AT,IR] at hd'
    have e1:decide ((c.toNat:Int) < 48)=false:=nE (by omega);have e2:decide ((c.toNat:Int) > 57)=false:=nE (by omega);simp only[e1,e2,By,T2,DO];rw[dQ _ (by omega) (by omega),Qn (n:=10*(Wn pre:Int)) (by omega) (by omega),Qn (n:=(c.toNat:Int) - 48) (by omega) (by omega),Qn (by omega) (by omega),Qn (by omega)<|by omega];have e3:10*(Wn pre:Int)+((c.toNat:Int) - 48)=(Wn (pre++[c]):Int):=by rw[SW];omega
    have e4:(pre.length:Int)+1=((pre++[c]).length:Int):=by simp
    rw[e3,e4,hd];rfl
   ·have hd' :=hd;simp only[Re,AT,IR] at hd'
    rw[RW hd];by_cases h1:(c.toNat:Int) < 48
    ·simp only[nM h1,Rw,DO]
    ·simp only[nE h1,By,T2,DO,show decide ((c.toNat:Int) > 57)=true from nM (by omega),Rw]
  rw[ZC,hbody];cases hd:Re c with
  | false=>simp[hd]
  | true=>
   have ih:=AH s hs post (pre++[c]) (by rw[e];simp) (by rw[mV,hp];simp[hd]);simp only[Rw,ih];simp[hd]
theorem vC(s:UV So):VO s=some (if Gz s then((Wn s:Int),true) else(0,false)):=by
 unfold VO Gz;cases s with
 | nil=>rfl
 | cons c l=>
  have hk:=λhs=>AH (c::l) hs (c::l) [] rfl rfl;simp only[nG,nR,show(Wn []:Int)=0 from rfl] at hk
  have e2:ZK (c::l) 0=some c:=rfl;by_cases hl:(c::l).length<=13
  ·have e1:(decide (((c::l).length:Int) < 1)||decide (((c::l).length:Int) > 13))=false:=by simp at hl ⊢;omega
   simp only[e1,By,T2,e2,DO,hk hl];by_cases hz:c=48
   ·subst hz;cases l with
    | nil=>rfl
    | cons d l=>
     have e3:decide ((((48:So)::d::l).length:Int) > 1)=true:=nM (by simp only[s6];omega);simp only[e3,Rw,show(((48:So).toNat:Int)==48)=true from rfl,DO];simp
   ·have e4:((c.toNat:Int)==48)=false:=by
     rw[lH];intro h;exact hz<|oc.1 (by rw[show(48:So).toNat=48 from rfl];omega)
    simp only[e4,ite_self,DO,By,T2];have e5:decide ((c::l).length<=13)=true:=nM hl;have e6:((c::l).head? ==some 48)=false:=by simpa using hz
    simp only[e5,e6];cases hd:(c::l).all Re<;>simp
  ·have e1:(decide (((c::l).length:Int) < 1)||decide (((c::l).length:Int) > 13))=true:=by simp at hl ⊢;omega
   have e5:decide ((c::l).length<=13)=false:=nE hl;simp only[e1,e5,Rw,DO];simp
def glue(cur:UV So):UV (UV So)->UV (UV So)
 | []=>[cur]
 | p::ps=>(cur++p)::ps
theorem Ae(line:UV So)(hl:line.length<=4000):∀(post a cur:UV So) (acc:UV (UV So)),line=a++(cur++post)->acc.length<=a.length->
  ZQ (Zo line) (acc,(a.length:Int),((a++cur).length:Int))=some (acc++glue cur (Jc post))
 | [],a,cur,acc,e,ha=>by
  have el:line=a++cur:=by rw[e];simp
  have hs:ZW line (a.length:Int) (line.length:Int)=some cur:=by
   unfold ZW;rw[TO (by rw[el];simp;omega),el,nW,nW];simp
  have hal:a.length<=line.length:=by rw[el];simp
  rw[<-el]
  have hb:Zo line (acc,(a.length:Int),(line.length:Int))=some (.next (acc++[cur],(line.length:Int)+1,(line.length:Int)+1)):=by
   unfold Zo;simp only[nQ,nc,Rw,mf,DO,hs,QR];rw[Wl (by simp;omega),DO,Qn (by omega)<|by omega];rfl
  rw[ZC,hb];simp only;rw[ZC];unfold Zo;have:decide ((line.length:Int)+1<=(line.length:Int))=false:=nE (by omega);simp only[this,By,T2];simp[glue,Jc]
 | c::post,a,cur,acc,e,ha=>by
  have el:line=(a++cur)++c::post:=by rw[e];simp
  have hi:=XQ el;have hget:=VD el;have hlen:a.length<=(a++cur).length:=by simp
  have e1:decide (((a++cur).length:Int)<=(line.length:Int))=true:=nM (by omega);have e2:(((a++cur).length:Int)==(line.length:Int))=false:=by rw[lH];omega
  have e3:((c.toNat:Int)==32)=(c==32):=by
   rw[lO,mB,mB];constructor
   ·intro h;exact oc.1 (by rw[show(32:So).toNat=32 from rfl];omega)
   ·intro h;subst h;rfl
  by_cases hc:c=32
  ·have hb:Zo line (acc,(a.length:Int),((a++cur).length:Int))=some (.next (acc++[cur],((a++cur++[c]).length:Int),((a++cur++[c]).length:Int))):=by
    unfold Zo
    have hs:ZW line (a.length:Int) ((a++cur).length:Int)=some cur:=by
     unfold ZW;rw[TO (by omega),el,nW,nW];simp
    simp only[e1,Rw,e2,By,T2,Zw,hget,DO,e3,hs,QR,show(c==32)=true by simpa using hc];rw[Wl (by simp;omega),DO,Qn (by omega)<|by omega];simp;omega
   rw[ZC,hb];have ih:=Ae line hl post (a++cur++[c]) [] (acc++[cur]) (by rw[el];simp) (by simp at ha ⊢;omega);rw[np] at ih
   simp only[ih];subst hc;have hn:=NO post;cases hsp:Jc post with
   | nil=>exact absurd hsp hn
   | cons p ps=>simp[Jc,glue,hsp]
  ·have hb:Zo line (acc,(a.length:Int),((a++cur).length:Int))=some (.next (acc,(a.length:Int),((a++(cur++[c])).length:Int))):=by
    unfold Zo;simp only[e1,Rw,e2,By,T2,Zw,hget,DO,e3,QR,show(c==32)=false by simpa using hc];rw[Qn (by omega)<|by omega];simp;omega
   rw[ZC,hb];have ih:=Ae line hl post a (cur++[c]) acc (by rw[e];simp) ha;simp only[ih];have hn:=NO post;have hcb:(c==32)=false:=by simpa using hc
   cases hsp:Jc post with
   | nil=>exact absurd hsp hn
   | cons p ps=>simp[Jc,glue,hsp,hcb]
theorem TT(w:UV So)(parts:UV (UV So))(hl:parts.length<=5000):∀(post pre:UV (UV So)) (acc:UV Int),parts=pre++post->acc.length<=pre.length->
  ZQ (K9 parts) ((pre.length:Int),⟨w,acc⟩)=some (if post.all Gz then .inl ⟨w,acc++post.map λp=>(Wn p:Int)⟩ else .inr (⟨[],[]⟩,false))
 | [],pre,acc,e,ha=>by
  rw[np] at e;subst e
  rw[ZC];unfold K9;simp
 | x::post,pre,acc,e,ha=>by
  have hi:=XQ e;have hget:=VD e
  have hb:K9 parts ((pre.length:Int),⟨w,acc⟩)=some (if Gz x then .next (((pre++[x]).length:Int),⟨w,acc++[(Wn x:Int)]⟩) else .done (.inr (⟨[],[]⟩,false))):=by
   unfold K9;simp only[Zw,hget,DO,QR,show(decide<|(pre.length:Int) < (parts.length:Int))=true by simpa using hi,Rw,vC];cases hx:Gz x with
   | false=>simp
   | true=>
    simp only[Rw,x6,By,T2];rw[Wl (by simp;omega),DO,Qn (by omega)<|by omega];simp
  rw[ZC,hb];cases hx:Gz x with
  | false=>simp[hx]
  | true=>
   refine Eq.trans (TT w parts hl post (pre++[x]) (acc++[(Wn x:Int)]) (by rw[e];simp) (by simp;omega)) ?_;simp[hx]
theorem wH{c:Prop}[Decidable c]{a b:H1 Bool}(ha:∃x,a=some x)(hb:∃x,b=some x):∃x,(if c then a else b)=some x:=by split<;>assumption
theorem uF{a:H1 Bool}{k:Bool->H1 Bool}(ha:∃x,a=some x)(hk:∀x,∃y,k x=some y):∃y,a.bind k=some y:=by
 obtain⟨x,rfl⟩:=ha;exact hk x
theorem zY(w:UV So)(n:Int):∃b,JN w n=some b:=by
 unfold JN
 repeat (first | exact⟨_,rfl⟩ | refine wH ?_ ?_ | refine uF ?_ λ_=> ?_)
theorem M7(n:Int):JN X1 n=some (decide (n≥6)&&(Int.tmod n 2==0)):=rfl
theorem jG(s:UV So):(Jc s).length<=s.length+1:=by
 induction s with
 | nil=>simp[Jc]
 | cons c l ih=>
  unfold Jc;split
  ·simpa using ih
  ·split<;>rename_i he
   ·simp
   ·rw[he] at ih;simp at ih ⊢;omega
theorem u5(line:UV So)(hl:line.length<=4000):∃r,Vm line=some r/\∀w ns,HQ line= .ok (w,ns)->∃b,r=(⟨w,ns⟩,b)/\JN w ns.length=some b:=by
 have h1:=Ae line hl line [] [] [] rfl<|IN _;have hsl:=jG line;unfold Vm;cases hs:Jc line with
 | nil=>exact absurd hs (NO line)
 | cons w ps=>
  rw[hs] at h1 hsl
  have hr:HQ line=if ps.all Gz then .ok (w,ps.map λp=>(Wn p:Int)) else .pan ⟨8⟩:=by unfold HQ;rw[hs]
  have h1:ZQ (Zo line) (([]:UV (UV So)),0,0)=some (w::ps):=h1;rw[h1,DO,show ZK (w::ps) 0=some w from rfl,DO];have h2:=TT w (w::ps) (by omega) ps [w] [] rfl (by simp);have h2:ZQ (K9<|w::ps) (1,⟨w,[]⟩)=_:=h2;rw[h2,DO];cases hp:ps.all Gz with
  | false=>exact⟨_,rfl,λw ns h=>by rw[hr,hp] at h;cases h⟩
  | true=>
   obtain⟨b,hb⟩:=zY w ((ps.map λp=>(Wn p:Int)).length:Int);simp only[Rw,mN];rw[hb,DO];refine⟨_,rfl,λw ns h=> ?_⟩;rw[hr,hp] at h
   simp only[Rw,Out.ok.injEq,bY] at h
   obtain⟨rfl,rfl⟩:=h;exact⟨b,rfl,hb⟩
theorem vD{s:UV So}(h:Gz s=true):Wn s < 10000000000000:=by
 simp only[Gz,AT,IR] at h
 exact Ej h.2 h.1.1.2
theorem ux{line w:UV So}{ns:UV Int}(h:HQ line= .ok (w,ns)):(∀x∈ns,0<=x/\x < 10000000000000)/\ns.length<=line.length:=by
 refine⟨λx hx=>⟨IT h x hx,?_⟩,NZ h⟩;unfold HQ at h
 split at h
 ·cases h
 ·split at h
  ·rename_i hp;simp only[Out.ok.injEq,bY] at h
   obtain⟨rfl,rfl⟩:=h;obtain⟨p,hq,rfl⟩:=ny.1 hx;have:=vD<|s7.1 hp p hq;omega
  ·cases h
theorem vr{d:Nat}(h:d < 10):(UInt8.ofNat<|48+d).toNat=48+d:=by simp;omega
theorem qE:∀(k u:Nat),u < 10^k->0 < k->(DU k u).all Re=true/\Wn (DU k u)=u/\DU k u≠[]/\((DU k u).head? =some 48->u=0)
 | 0,_,_,h=>absurd h (o6 0)
 | k+1,u,hu,_=>by
  unfold DU;by_cases h10:u < 10
  ·rw[TO h10];have e:=vr h10;refine⟨?_,?_,by simp,λh=> ?_⟩
   ·simp only[nZ,lV,mY,Re,e,AT,IR];omega
   ·simp only[Wn,la,List.foldl_nil,e];omega
   ·simp only[og,BY] at h
    have:=congrArg UInt8.toNat h;rw[e,show(48:So).toNat=48 from rfl] at this
    omega
  ·rw[RW h10];rw[oN] at hu
   have hk0:0 < k:=by
    cases k with
    | zero=>simp at hu;omega
    | succ k=>omega
   obtain⟨h1,h2,h3,h4⟩:=qE k (u / 10) (by omega) hk0;have e:=vr (d:=u%10) (by omega);refine⟨?_,?_,by simp,λh=> ?_⟩
   ·rw[mV,h1];simp only[nZ,lV,mY,mA,Re,e,AT,IR];omega
   ·rw[SW,h2,e];omega
   ·rw[List.head?_append] at h
    cases hh:(DU k<|u / 10).head? with
    | none=>exact absurd (List.head?_eq_none_iff.1 hh) h3
    | some c=>
     rw[hh] at h
     have:=h4 (by rw[hh];exact h);omega
theorem EF(h0:0<=X)(h1:X < 10000000000000):Gz (XR X)=true/\(Wn (XR X):Int)=X/\(XR X).length<=13:=by
 obtain⟨u,rfl⟩:=eV h0
 have e:XR (u:Int)=DU 13 u:=by
  unfold XR;rw[RW (by omega),nW,RQ 13 20 u (by omega) (by omega)<|by omega]
 rw[e];obtain⟨g1,g2,g3,g4⟩:=qE 13 u (by omega) (by omega);have hl:=Cv 13 u;refine⟨?_,by rw[g2],hl⟩;unfold Gz;rw[g1,nM hl];have e1:(DU 13 u==[])=false:=by simpa using g3
 rw[e1];by_cases hh:(DU 13 u).head? =some 48
 ·have:=g4 hh;subst this;rfl
 ·have e2:((DU 13 u).head? ==some 48)=false:=by simpa using hh
  rw[e2];rfl
theorem LZ:∀(s:UV So),s.all Re=true->Jc s=[s]
 | [],_=>rfl
 | c::l,h=>by
  simp only[nZ,AT] at h
  have hc:(c==32)=false:=by
   rw[lH];rintro rfl;exact absurd h.1<|by decide
  unfold Jc;rw[hc,LZ l h.2];rfl
abbrev Eh:UV So:=[119,104,111,115,101]
theorem qY(h0:0<=X)(h1:X < 10000000000000):HQ ([119,104,111,115,101,32]++XR X)= .ok (Eh,[X]):=by
 obtain⟨g1,g2,_⟩:=EF h0 h1
 have hd:(XR X).all Re=true:=by
  simp only[Gz,AT] at g1
  exact g1.2
 unfold HQ
 have hs:Jc ([119,104,111,115,101,32]++XR X)=[Eh,XR X]:=by
  simp[Jc,LZ _ hd]
 rw[hs];simp only[nZ,lV,g1,mY,Rw,s4,eY,g2]
def SB(L L' :QA):Prop:=L'.stamps=L.stamps/\L'.batches=L.batches/\L'.rules=L.rules
theorem SB.refl(L:QA):SB L L:=⟨rfl,rfl,rfl⟩
theorem SB.trans{L2:QA}(h:SB L L1)(h' :SB L1 L2):SB L L2:=⟨h'.1.trans h.1,h'.2.1.trans h.2.1,h'.2.2.trans h.2.2⟩
theorem Fs.sb{x:QF}(h:Fs L x L1):SB L L1:=by obtain⟨rfl,_⟩:=h;exact⟨rfl,rfl,rfl⟩
theorem SV.sb{x:QP}(h:SV L x L1):SB L L1:=by obtain⟨rfl,_⟩:=h;exact⟨rfl,rfl,rfl⟩
theorem Mi.sb{b n:Int}(h:Mi L a b n L1):SB L L1:=by
 cases h with
 | stay=>exact SB.refl _
 | go _ _ L1 L2 d1 d2=>exact(d1.sb.trans d2.sb).trans ⟨rfl,rfl,rfl⟩
theorem SB.pure{c v:Int}(h:SB L L1):SB L (X2 L1 c v):=h
theorem EO(hd:True):∀(ps:UV (Int×Int)) (b b' :QU) (L L' :QA),(∀y∈L.casks,y.Day<=L.day)->BX ps b L=some (.ok (b',L'))->
  SB L L'/\b'.Water=b.Water/\b'.Shrink=b.Shrink/\Bo.VF b'.Draughts=Bo.VF b.Draughts+(ps.map Prod.snd).sum
 | [],b,b',L,L',_,h=>by
  simp only[BX,BY,Out.ok.injEq,bY] at h
  obtain⟨rfl,rfl⟩:=h;exact⟨SB.refl _,rfl,rfl,by simp⟩
 | x::ps,b,b',L,L',hy,h=>by
  unfold BX at h
  obtain⟨r,h1,h⟩:=Yy h;obtain⟨_,h⟩:=Xf h;obtain⟨_,h1⟩:=YQ h1;obtain⟨L1,h2,h1⟩:=Yy h1;obtain⟨p,_,h1⟩:=nF.1 h1;obtain⟨L2,h3,h1⟩:=Yy h1;obtain⟨lo,_,h1⟩:=nF.1 h1;obtain⟨hi,_,h1⟩:=nF.1 h1;simp only[BY,Out.ok.injEq] at h1
  subst h1;have c1:=Xv hy h2
  have hy1:∀y∈L1.casks,y.Day<=L1.day:=by
   obtain⟨rfl,_⟩:=c1;intro y hm;rcases mH.1 hm with hm | hm
   ·exact hy y hm
   ·simp only[nx] at hm;subst hm;exact nQ _
  have k2:SB L1 L2/\L2.casks=L1.casks/\L2.day=L1.day:=by
   unfold TQ at h3
   split at h3
   ·obtain⟨L3,h4,h3⟩:=Yy h3;simp only[BY,Out.ok.injEq] at h3
    subst h3;have d:=Ct h4;obtain⟨rfl,_⟩:=d;exact⟨⟨rfl,rfl,rfl⟩,rfl,rfl⟩
   ·simp only[BY,Out.ok.injEq] at h3
    subst h3;exact⟨SB.refl _,rfl,rfl⟩
  obtain⟨g1,g2,g3,g4⟩:=EO hd ps _ _ _ _ (by rw[k2.2.1,k2.2.2];exact hy1) h;refine⟨(c1.sb.trans k2.1).trans g1,g2,g3,?_⟩;rw[g4,Bo.T4];simp only[s4,List.sum_cons];omega
inductive dX(L:QA)(w:List UInt8)(ns:List Int)(L' :QA):Prop where
 | same (hw:w≠X1) (hs:L'.stamps=L.stamps) (hb:L'.batches=L.batches)
 | stamp (hw:w≠X1) (x:QH) (hl:L.stamps.length < 256) (hs:L'.stamps=L.stamps++[x]) (he:Wc (L.stamps++[x])=0) (hb:L'.batches=L.batches)
 | bottle (hw:w=X1) (num v a z:Int) (ds:List Int) (ps:List (Int×Int)) (b:QU) (hn:ns=num::v::a::z::ds) (hp:WO ds=some ps) (h0:Qc L.batches num=none) (hl:L.stamps.length < 256)
  (hs:L'.stamps=L.stamps++[⟨1,a,z,num⟩]) (he:Wc (L.stamps++[⟨1,a,z,num⟩])=0) (hb:L'.batches=Qx L.batches num b) (hq:Q5 (Q5 (z - a)+1)<=Q5 (Int.tdiv (v+(ps.map Prod.snd).sum) 700))
theorem SZ:∀w∈R6,w≠X1:=by decide
theorem hO:∀w∈xW,w≠X1:=by decide
theorem Deed.ru{L':QA}{w rep:UV So}{ns:UV Int}(hd:∀y∈L.casks,y.Day<=L.day)(h:Deed L w ns rep L'):dX L w ns L'/\(L.rules.isNone=false->L'.rules.isNone=false):=by
 have sb:∀{L1:QA},w≠X1->SB L L1->dX L w ns L1/\(L.rules.isNone=false->L1.rules.isNone=false):=λhw h=>⟨.same hw h.1 h.2.1,λhr=>by rw[h.2.2];exact hr⟩;cases h with
 | day d=>exact sb (by decide) ⟨rfl,rfl,rfl⟩
 | rules a b c ns ps=>exact⟨.same (by decide) rfl rfl,λ_=>rfl⟩
 | make w hw c v p m o L1 hm h=>exact sb (SZ _ hw) h.sb
 | fill0 c n s L1 hs h=>exact sb (by decide) h.sb
 | fill c n s L1 L2 hs h hp d=>exact sb (by decide) (h.sb.trans d.sb).pure
 | rack w hw a b n p L1 L2 h hp hm=>exact sb (SZ _ hw) (h.sb.trans hm.sb).pure.pure
 | carry w hw a p L1 L2 h hm=>exact sb (SZ _ hw) (h.sb.trans hm.sb)
 | keep w hw ns x L1 hk h=>exact sb (SZ _ hw) h.sb
 | stamps w hw ns x L1 hk hl h=>
  obtain⟨rfl,he⟩:=h;exact⟨.stamp (SZ _ hw) x hl rfl he rfl,id⟩
 | pay w hw a L1 h=>exact sb (SZ _ hw) h.sb
 | bottle num v a z ds ps b L1 L2 hp h0 hd2 hv hs hl h=>
  obtain⟨g1,g2,g3,g4⟩:=EO trivial _ _ _ _ _ hd hd2;obtain⟨rfl,he⟩:=h;rw[g1.1] at he hl
  refine⟨.bottle rfl num v a z ds ps b rfl hp h0 hl (by show L1.stamps++_=_;rw[g1.1]) he (by show Qx L1.batches _ _=_;rw[g1.2.1]) ?_,λhr=>by show L1.rules.isNone=false;rw[g1.2.2];exact hr⟩;refine iH hs<|Int.le_of_eq ?_;unfold z6 Bo.jB;have e0:Bo.VF ([]:UV Qq)=0:=rfl;rw[g4,g3,g2];simp only[e0];congr 2;omega
 | ask d hdm hw ns rep h=>exact sb (hO _ hw)<|SB.refl _
abbrev dY(ns:UV Int):Prop:=∀x∈ns,0<=x/\x < 10000000000000
structure Good(L:QA)(p:QV)(num a z:Int):Prop where
 ns:∃v ds,p.N=num::v::a::z::ds
 lim:0<=num/\num<=1073741824
 range:0<=a/\a<=z/\z<=1099511627776
 batch:(Qc L.batches num).isSome=true
 cur:∀n,a<=n->n<=z->∃e,Bo.cur L.stamps n=some e/\e.Kind=1/\e.Batch=num
structure St(L:QA)(made:List QV):Prop where
 ok:Wc L.stamps=0
 good:∀p∈made,∃num a z,Good L p num a z
 rules:made≠[]->L.rules.isNone=false
open Bo in
theorem LY{l:UV QH}{x:QH}(hl:l.length < 256)(he:Wc (l++[x])=0):uY x=true/\(x.Kind=0->∀n,has x n->cur l n=none)/\(x.Kind≠0->∀n,has x n->hand l n):=by
 obtain⟨_,_,_,ho⟩:=BF (l++[x]) (by simp;omega);exact MC<|kI<|ho he
open Bo in
theorem Good.stays{L':QA}{p:QV}{z:Int}{x:QH}(h:Good L p num a z)(hl:L.stamps.length < 256)(he:Wc (L.stamps++[x])=0)(hs:L'.stamps=L.stamps++[x])(hb:(Qc L'.batches num).isSome=true):Good L' p num a z/\(x.Kind=1->z < x.First∨x.Last < a):=by
 obtain⟨h1,h2,h3⟩:=LY hl he
 have key:∀n,a<=n->n<=z->¬has x n:=by
  intro n ha hz hn;obtain⟨e,c1,c2,_⟩:=h.cur n ha hz;by_cases hk:x.Kind=0
  ·rw[h2 hk n hn] at c1;cases c1
  ·obtain⟨e',c3,c4⟩:=h3 hk n hn;rw[c1] at c3
   simp only[BY] at c3
   subst c3;omega
 refine⟨⟨h.ns,h.lim,h.range,hb,λn ha hz=> ?_⟩,λhk=> ?_⟩
 ·rw[hs,GD,RW<|key n ha hz];exact h.cur n ha hz
 ·have hx:=((Ro x).1 h1).2.2;have hr:=h.range;apply mX;intro hc;by_cases ha:a<=x.First
  ·exact key x.First ha (by omega) ⟨nQ _,hx.2.1⟩
  ·exact key a (nQ _) hr.2.1 ⟨by omega,by omega⟩
theorem R9{r:QV×Bool}{N:UV Int}(hN:r.1.N=N)(hb:dY N)(hl:N.length<=5000):∀(ds pre:UV Int) (ps:UV (Int×Int)) (t:Int),WO ds=some ps->N=pre++ds->0<=t->t<=10000000000000*(pre.length:Int)->
  ZQ (Z4 r) (t,(pre.length:Int)+1)=some (t+(ps.map Prod.snd).sum)/\0<=t+(ps.map Prod.snd).sum/\t+(ps.map Prod.snd).sum<=10000000000000*(N.length:Int)
 | [],pre,ps,t,hp,e,h0,h1=>by
  simp only[WO,BY] at hp
  subst hp;rw[np] at e
  rw[ZC];unfold Z4;have:decide ((pre.length:Int)+1 < (r.1.N.length:Int))=false:=nE (by rw[hN,e];omega);simp only[this,By,T2];refine⟨by simp,by simpa using h0,by rw[e];simpa using h1⟩
 | [_],_,_,_,hp,_,_,_=>by cases hp
 | a::b::ds,pre,ps,t,hp,e,h0,h1=>by
  simp only[WO,mI] at hp
  obtain⟨qs,hq,rfl⟩:=hp;have hbb:=hb b (by rw[e];simp);have el:N=(pre++[a])++b::ds:=by rw[e];simp
  have hi:=XQ el;have hg:=VD el;simp only[nH,mu] at hi hg
  have hgi:ZK r.1.N ((pre.length:Int)+1)=some b:=by
   rw[hN,show(pre.length:Int)+1=((pre.length+1:Nat):Int) by omega,Zw,hg]
  have hbody:Z4 r (t,(pre.length:Int)+1)=some (.next (t+b,((pre++[a,b]).length:Int)+1)):=by
   unfold Z4;have:decide ((pre.length:Int)+1 < (r.1.N.length:Int))=true:=nM (by rw[hN];omega);simp only[this,Rw,hgi,DO,QR];rw[Qn (by omega) (by omega),Qn (by omega)<|by omega];simp;omega
  obtain⟨g1,g2,g3⟩:=R9 hN hb hl ds (pre++[a,b]) qs (t+b) hq (by rw[e];simp) (by omega) (by simp;omega);have es:t+((((a,b)::qs).map Prod.snd).sum)=t+b+(qs.map Prod.snd).sum:=by simp;omega
  rw[es];refine⟨?_,g2,g3⟩;rw[ZC,hbody];exact g1
theorem zl{s:UV QV×Int×UV Qr}{r:QV×Bool}{v z:Int}{ds:UV Int}(hN:r.1.N=num::v::a::z::ds)(hl:s.1.length<=1000)
  (hm:∀p∈s.1,∃num' v' a' z' ds',p.N=num' ::v' ::a' ::z' ::ds'/\num'≠num/\(z' < a∨z < a')):ZQ (KX s r) 0=some (.inl ()):=by
 obtain⟨t,ht,hr⟩:=HH (body:=KX s r) (λi (_:Unit)=>(i:Int)) (λ_=>.inl ()) (λ_ _=>True) s.1
  (λpre x post t e _=>by
   have hg:=VD e;have hi:=XQ e;obtain⟨n',v',a',z',ds',h1,h2,h3⟩:=hm x (by rw[e];simp);refine⟨(),?_,trivial⟩;unfold KX;have i0:∀(p q u w:Int) (l:UV Int),ZK (p::q::u::w::l) 0=some p:=λ_ _ _ _ _=>rfl;have i2:∀(p q u w:Int) (l:UV Int),ZK (p::q::u::w::l) 2=some u:=λ_ _ _ _ _=>rfl;have i3:∀(p q u w:Int) (l:UV Int),ZK (p::q::u::w::l) 3=some w:=λ_ _ _ _ _=>rfl;have hne:(n' ==num)=false:=by simpa using h2
   simp only[Zw,hg,DO,show(decide<|(pre.length:Int) < (s.1.length:Int))=true by simpa using hi,Rw,h1,hN,i0,i2,i3,hne,By,T2,QR]
   have hf:(if decide (a'<=z)=true then some (decide<|a<=z') else some false)=some false:=by
    split
    ·rename_i hc;have hc:a'<=z:=by simpa using hc
     rw[nE<|by omega]
    ·rfl
   rw[hf];simp only[DO,By,T2];rw[Qn (by omega)<|by omega];simp)
  (λt _=>by unfold KX;simp) s.1 [] () rfl trivial
 exact hr
theorem Oy:∀d∈Hm,d.word=X1->d.least=4/\d.each=2:=by
 unfold Hm;simp only[j9,lu,oM];rintro d (rfl | rfl | rfl | rfl | rfl | rfl | rfl | rfl | rfl | rfl | rfl | rfl | rfl | rfl | rfl | rfl | rfl | rfl | rfl | rfl) h<;>first | exact⟨rfl,rfl⟩ | exact absurd h<|by decide
section
variable{l:UV (UV So)}(hl:l.length<=40)(hx:∀x∈l,x.length<=4000){r:ON×UV Qr}(h0:r.1=some 0)
include hl hx h0
theorem CY{x:UV So}{pre post:UV (UV So)}{made:UV QV}(e:l=pre++x::post)(hI:Inv (1000*pre.length) pre.length L)(hS:St L made)(hm:made.length<=pre.length):∃made' L',Ze l r (made,(pre.length:Int),[⟨L,true⟩])=some (.next (made',((pre++[x]).length:Int),[⟨L',true⟩]))/\Inv (1000*(pre++[x]).length) (pre++[x]).length L'/\St L' made'/\made'.length<=(pre++[x]).length:=by
 have hg:=VD e;have hi:=XQ e;have hgi:ZK l (pre.length:Int)=some x:=by rw[Zw,hg]
 have hxl:=hx x (by rw[e];simp);obtain⟨r1,hp,hpr⟩:=u5 x hxl;obtain⟨rep,er,L',hdo,hdoR,hI',hc⟩:=xN (A:=[⟨L,true⟩]) (i:=0) rfl hI (by omega) (by omega) x;have hset:([⟨L,true⟩]:UV Qr).set 0 ⟨L',true⟩=[⟨L',true⟩]:=rfl;rw[hset] at hdo
 have hin:Inv (1000*(pre++[x]).length) (pre++[x]).length L' :=hI'.up (by simp;omega) (by simp);have hcond:decide ((pre.length:Int) < (l.length:Int))=true:=by simpa using hi
 have skip:((er != 0)||(!(r1.1.Word==X1)))=true->Ze l r (made,(pre.length:Int),[⟨L,true⟩])=some (.next (made,((pre++[x]).length:Int),[⟨L',true⟩])):=by
  intro hk;unfold Ze;simp only[hcond,Rw,hgi,hp,DO,h0];rw[hdo,DO];simp only[hk,Rw,QR];rw[Qn (by omega)<|by omega];simp
 have hml:made.length<=(pre++[x]).length:=by simp;omega
 rcases hc with⟨hE,_,hLL⟩ | ⟨he0,hline,_⟩
 ·refine⟨made,L',skip ?_,hin,by rw[hLL];exact hS,hml⟩;have:=hE.1;have:(er != 0)=true:=by simp;omega
  rw[this];rfl
 ·obtain⟨w,ns,hread,hword,hrul,hdeed⟩:=OW hI.days hline;obtain⟨b,hr1,hen⟩:=hpr w ns hread;obtain⟨hEff,hrules⟩:=hdeed.ru hI.days
  have hskip:w≠X1->((er != 0)||(!(r1.1.Word==X1)))=true:=λhw=>by
   rw[hr1,he0];simpa using hw
  cases hEff with
  | same hw hs hb=>
   refine⟨made,L',skip<|hskip hw,hin,⟨by rw[hs];exact hS.ok,λp hp=> ?_,λh=>hrules<|hS.rules h⟩,hml⟩;obtain⟨num,a,z,g⟩:=hS.good p hp;exact⟨num,a,z,g.ns,g.lim,g.range,by rw[hb];exact g.batch,by rw[hs];exact g.cur⟩
  | stamp hw y hlt hs he hb=>
   refine⟨made,L',skip<|hskip hw,hin,⟨by rw[hs];exact he,λp hp=> ?_,λh=>hrules<|hS.rules h⟩,hml⟩;obtain⟨num,a,z,g⟩:=hS.good p hp;exact⟨num,a,z,(g.stays hlt he hs (by rw[hb];exact g.batch)).1⟩
  | bottle hw num v a z ds ps bt hn hpd hb0 hlt hs he hb hq=>
   have hok:=(Bo.Ro _).1 (LY hlt he).1;have hnum:0<=num/\num<=1073741824:=hok.2.1 rfl;have hrange:0<=a/\a<=z/\z<=1099511627776:=hok.2.2
   have hsome:∀k,(Qc L.batches k).isSome=true->(Qc L'.batches k).isSome=true:=λk hk=>by
    rw[hb,Ca.FV];split
    ·rfl
    ·exact hk
   have hold:∀p∈made,∃num' a' z',Good L p num' a' z'/\Good L' p num' a' z'/\num'≠num/\(z' < a∨z < a'):=λp hp=>by
    obtain⟨n',a',z',g⟩:=hS.good p hp;obtain⟨g1,g2⟩:=g.stays hlt he hs<|hsome _ g.batch;refine⟨n',a',z',g,g1,?_,g2 rfl⟩;rintro rfl;have:=g.batch;rw[hb0] at this
    cases this
   have hgood:Good L' ⟨w,ns⟩ num a z:=by
    refine⟨⟨v,ds,hn⟩,hnum,hrange,?_,λn h1 h2=> ?_⟩
    ·rw[hb,Ca.FV,TO<|by simp];rfl
    ·rw[hs,Bo.GD,TO ⟨h1,h2⟩];exact⟨_,rfl,rfl,rfl⟩
   refine⟨made++[⟨w,ns⟩],L',?_,hin,⟨by rw[hs];exact he,λp hp=> ?_,λ_=>hrules<|hrul (by rw[hw];decide) (by rw[hw];decide)⟩,by simp;omega⟩
   ·obtain⟨hbig,hnl⟩:=ux hread
    have hbt:b=true:=by
     obtain⟨d,hd,hdw,hf⟩:=hword;obtain⟨hd1,hd2⟩:=Oy d hd<|hdw.trans hw;rw[hd1,hd2] at hf
     have h2:=ve hf;rw[hw,M7] at hen
     simp only[BY] at hen
     rw[<-hen,AT,IR,mB,lT<|by omega];omega
    rw[hbt] at hr1
    have hNb:dY (num::v::a::z::ds):=by rw[<-hn];exact hbig
    have hv:=hNb v (by simp);obtain⟨g1,g2,g3⟩:=R9 (r:=r1) (N:=num::v::a::z::ds) (by rw[hr1];exact hn) hNb (by rw[<-hn];omega) ds [num,v,a,z] ps v hpd rfl hv.1 (by simp;omega);have g1:ZQ (Z4 r1) (v,5)=_:=g1
    have g3:v+(ps.map Prod.snd).sum<=10000000000000*5000:=by
     have:(num::v::a::z::ds).length<=5000:=by rw[<-hn];omega
     omega
    have ha:=zl (s:=(made,(pre.length:Int),[⟨L,true⟩])) (r:=r1) (num:=num) (v:=v) (a:=a) (z:=z) (ds:=ds) (by rw[hr1];exact hn) (by show made.length<=1000;omega) λp hp=>by
     obtain⟨n',a',z',g,_,k1,k2⟩:=hold p hp;obtain⟨v',ds',e'⟩:=g.ns;exact⟨n',v',a',z',ds',e',k1,k2⟩
    generalize v+(ps.map Prod.snd).sum=T at g1 g2 g3 hq
    have hlim:decide (Q5 (Q5 (Q5 (z - a)+1)*700) > T)=false:=by
     rw[Qn (n:=z - a) (by omega) (by omega),Qn (n:=z - a+1) (by omega)<|by omega] at hq ⊢
     rw[mG g2,Qn (by omega)<|by omega] at hq
     rw[Qn (by omega)<|by omega];exact nE<|by omega
    have hwb:(r1.1.Word==([98,111,116,116,108,101]:UV So))=true:=by rw[hr1,hw];rfl
    have hN:r1.1.N=num::v::a::z::ds:=by rw[hr1];exact hn
    have hr2:r1.2=true:=by rw[hr1]
    have i1:ZK (num::v::a::z::ds) 1=some v:=rfl;have i2:ZK (num::v::a::z::ds) 2=some a:=rfl;have i3:ZK (num::v::a::z::ds) 3=some z:=rfl;have hlt2:decide (a > z)=false:=nE (by omega);unfold Ze;simp only[hcond,Rw,hgi,hp,DO,h0];rw[hdo,DO];simp only[he0,hwb,hr2,eP,x6,eh,By,T2,hN,i1,i2,i3,DO,hlt2,g1,hlim,ha,QR];rw[Wl (by simp;omega),DO,Qn (by omega) (by omega),hr1];simp
   ·rcases mH.1 hp with hp | hp
    ·obtain⟨n',a',z',_,g,_⟩:=hold p hp;exact⟨n',a',z',g⟩
    ·simp only[nx] at hp
     subst hp;exact⟨num,a,z,hgood⟩
theorem IA:∀(post pre:UV (UV So)) (made:UV QV) (L:QA),l=pre++post->Inv (1000*pre.length) pre.length L->St L made->made.length<=pre.length->
  ∃made' L',ZQ (Ze l r) (made,(pre.length:Int),[⟨L,true⟩])=some (.inl (made',[⟨L',true⟩]))/\Inv (1000*l.length) l.length L'/\St L' made'/\made'.length<=l.length:=by
 intro post
 induction post with
 | nil=>
  intro pre made L e hI hS hm;rw[np] at e
  subst e;refine⟨made,L,?_,hI,hS,hm⟩;rw[ZC];unfold Ze;simp
 | cons x post ih=>
  intro pre made L e hI hS hm;obtain⟨m1,L1,hb,hI1,hS1,hm1⟩:=CY hl hx h0 e hI hS hm;obtain⟨m2,L2,h2,hr⟩:=ih (pre++[x]) m1 L1 (by rw[e];simp) hI1 hS1 hm1;refine⟨m2,L2,?_,hr⟩;rw[ZC,hb];exact h2
end
theorem qa{n s:Nat}(hI:Inv n s L)(hn:n<=700000)(hs:s < 256)(hr:L.rules.isNone=false)(hok:Wc L.stamps=0)(hX:0<=X/\X < 10000000000000)(hnum:0<=num/\num<=1073741824)
  (hc:∃e,Bo.cur L.stamps X=some e/\e.Kind=1/\e.Batch=num):wX L ([119,104,111,115,101,32]++XR X)=some ([98,97,116,99,104,32]++XR num,0,L):=by
 obtain⟨_,_,hlen⟩:=EF hX.1 hX.2;obtain⟨e,c1,c2,c3⟩:=hc
 have hwho:Bo.P1 L.stamps X=(num,0):=by
  unfold Bo.P1;rw[c1];simp[Option.filter,c2,c3]
 have hw:AY Eh=some ⟨Eh,1,0,FO⟩:=rfl
 have hsh:FO L [X]=some (.ok ([98,97,116,99,104,32]++XR num,L)):=by
  show(T3 L.stamps X).bind _=_;unfold T3;rw[TO (by have:=hI.stamps;omega),hok];simp only[mf,Rw,DO,hwho];show NS _ _ _=_;unfold NS;rw[TO ⟨by decide,by simp,by simp[OK];omega⟩];simp[X7]
 have hline:AJ L ([119,104,111,115,101,32]++XR X)=some (.ok ([98,97,116,99,104,32]++XR num,L)):=by
  unfold AJ;rw[RW (by simp;omega),qY hX.1 hX.2];simp only[hw,hr];have:=hI.casks;have:=hI.duties;have:=hI.stamps;rw[TO (by omega),hsh];rfl
 unfold wX;rw[hline]
theorem AZ{n s:Nat}{which:Int}(hw:0<=which/\which<=65535){r:ON×UV Qr}(h0:r.1=some 0){made:UV QV}(hm:made.length<=1000)(hI:Inv n s L)(hn:n<=700000)(hs:s < 256)(hS:St L made):ZQ (KW which r (made,[⟨L,true⟩])) (0,[⟨L,true⟩])=some (.inl [⟨L,true⟩]):=by
 obtain⟨t,ht,hr⟩:=HH (body:=KW which r (made,[⟨L,true⟩])) (λi (_:Unit)=>((i:Int),([⟨L,true⟩]:UV Qr))) (λ_=>.inl [⟨L,true⟩]) (λ_ _=>True) made
  (λpre x post t e _=>by
   have hg:=VD e;have hi:=XQ e;obtain⟨num,a,z,g⟩:=hS.good x (by rw[e];simp);obtain⟨v,ds,hN⟩:=g.ns;have hra:=g.range;have hnm:=g.lim;have hne:made≠[]:=by rw[e];simp
   have i0:ZK (num::v::a::z::ds) 0=some num:=rfl;have i2:ZK (num::v::a::z::ds) 2=some a:=rfl;have i3:ZK (num::v::a::z::ds) 3=some z:=rfl
   have hq:PC (Q5 which) (Q5<|Q5 (z - a)+1)=some (which%(z - a+1)):=by
    unfold PC;rw[Qn (n:=which) (by omega) (by omega),Qn (n:=z - a) (by omega) (by omega),Qn (n:=z - a+1) (by omega) (by omega),RW (by omega),lT hw.1]
   have q0:=Int.emod_nonneg which (show z - a+1≠0 by omega);have q1:=Int.emod_lt_of_pos which (show 0 < z - a+1 by omega);generalize hqq:which%(z - a+1)=q at hq q0 q1
   obtain⟨rep,er,L',hdo,hdoR,_,_⟩:=xN (A:=[⟨L,true⟩]) (i:=0) rfl hI hn hs<|[119,104,111,115,101,32]++XR (a+q);rw[qa hI hn hs (hS.rules hne) hS.ok (X:=a+q) (by omega) hnm<|g.cur (a+q) (by omega)<|by omega] at hdoR
   simp only[BY,bY] at hdoR
   obtain⟨rfl,rfl,rfl⟩:=hdoR;have hset:([⟨L,true⟩]:UV Qr).set 0 ⟨L,true⟩=[⟨L,true⟩]:=rfl;rw[hset] at hdo
   have l1:=Sf<|a+q;have l2:=Sf num;refine⟨(),?_,trivial⟩;unfold KW;simp only[Zw,hg,DO,show(decide<|(pre.length:Int) < (made.length:Int))=true by simpa using hi,Rw,hN,i0,i2,i3,hq,h0];rw[Qn (n:=a+q) (by omega) (by omega),zx (n:=a+q) (by omega) (by omega),DO,Wl (by simp;omega),DO,hdo,DO];simp only[eP,By,T2];rw[zx (n:=num) (by omega) (by omega),DO,Wl (by simp;omega)];simp only[DO,mf,x6,By,T2,QR];rw[Qn (by omega)<|by omega];simp)
  (λt _=>by unfold KW;simp) made [] () rfl trivial
 exact hr
theorem O9(l:UV (UV So))(which:Int)(hm:∀x∈l,x.length<=140737488351232)(hc:(Lit.int .u16 which).wf=true):Yj l which=some true:=by
 have hw:=wf_u16 hc;unfold Yj
 suffices h:∃A,JC [] l which=some (true,A) by obtain⟨A,h⟩:=h;rw[h];rfl
 unfold JC;obtain⟨b,hf,hfit⟩:=xr l hm;rw[hf,DO];cases b with
 | false=>
  simp only[r6,Rw,MZ,DO];exact⟨_,rfl⟩
 | true=>
  obtain⟨hl,hB⟩:=hfit rfl
  have hxl:∀x∈l,x.length<=4000:=λx hx=>by
   obtain⟨a,b,rfl⟩:=mr hx;have:WE (a++x::b)=WE a+(x.length+1)+WE b:=by simp[WE];omega
   omega
  simp only[x6,By,T2];have hn1:HU []=some (some 0,[⟨Ff,true⟩]):=rfl;rw[hn1,DO];obtain⟨made,L',h,hI,hS,hml⟩:=IA hl hxl (r:=(some 0,[⟨Ff,true⟩])) rfl l [] [] Ff rfl Inv.start ⟨rfl,λ_ h=>(by cases h),λh=>absurd rfl h⟩<|IN _;have h' :ZQ (Ze l (some 0,[⟨Ff,true⟩])) (([]:UV QV),0,[⟨Ff,true⟩])=some (.inl (made,[⟨L',true⟩])):=h;have h2:=AZ hw (r:=(some 0,[⟨Ff,true⟩])) rfl (by omega) hI (by omega) (by omega) hS;simp only[eE,By,T2,h',DO,h2,MZ];exact⟨_,rfl⟩
end
section
open Go.Dec Go.Shelf Go.RowKit Go.Maps Go.Sort Go.ChangeShapes Go.WideShapes Go.ChangeAt
theorem Tryz.own:ownKnob Tryz.prog.godebug=none:=by kernel_rfl
theorem Tryz.laidOut:laidOutB Tryz.prog=true:=by kernel_rfl
theorem qK{α:Type}{a:Of α}{l:UV α}(h:a.toList=l):a=l.toArray:=by rw[<-h]
theorem gm:Tryz.prog.globalNamed "internal/strconv.uint64pow10"=some 1:=by kernel_rfl
theorem fh:(Tryz.prog.globals[1]?).map (·.type)=some 274:=by kernel_rfl
theorem wa:Tryz.prog.cellsOf 249=1:=by kernel_rfl
theorem uB:Tryz.prog.cellsOf 274=20:=by kernel_rfl
theorem y4:(Rows.laid_internal_strconv_uint64pow10:DataW Unit)=Go.Lib.tabData .u64 Go.Lib.pow10Tab:=by kernel_rfl
theorem kK:((begin Tryz.prog (λ_ _=>0) default).world.heap[0]?).bind Obj.row? =some (#[.int .i64 0],3):=by kernel_rfl
theorem zQ{W:PP}(h:laidMetH Tryz.prog Rows.officeStampsRow.laid W):laidMet Tryz.prog Rows.officeStampsRow.laid W:=by
 rwa[oq _ _ _<|by kernel_rfl] at h
set_option maxRecDepth 100000 in
theorem uh{W:PP}(h:laidMetH Tryz.prog Rows.officeStampsRow.laid W)(hsh:W.ShapedOpen Tryz.prog):Xz (FW W):=by
 obtain⟨ps,hl,_,_⟩:=zQ h;refine⟨?_,?_⟩
 ·obtain⟨g,t,cs,fuel,p,T,fr,hg,ht,hh,hd⟩:=kN 2 rfl hl;obtain rfl:=y1<|gm.symm.trans hg;obtain rfl:=y1<|fh.symm.trans ht;have hc:=Go.Lib.cells_of_tab Tryz.underlying274 Tryz.underlying249 wa uB (by rw[<-y4];exact hd);exact⟨1,T,fr,gm,by rw[show(FW W).mem 1=W.heap[1]? from rfl,hh,qK hc];rfl⟩
 ·obtain⟨m,hm⟩:=oS (P:=Tryz.prog) (g:=0) (t:=3) (zero:=#[.int .i64 0]) hsh (lQ<|by kernel_rfl) kK rfl (by kernel_rfl) (by kernel_rfl) Tryz.underlying3;obtain⟨T,fr,hb⟩:=N6 hsh (lQ<|by kernel_rfl) kK rfl hm;exact⟨m,T,fr,hb⟩
end
section
open Go.Dec
open Go.ChangeShapes Go.WideShapes Go.ChangeAt Go.RowKit
def X6:Prop:=∀(a0:(UV<|UV So)) (a1:Int),(∀y∈a0,y.length<=140737488351232)->(Lit.int .u16 a1).wf=true->Yj a0 a1=some true
set_option maxRecDepth 100000 in
theorem Sv(law:X6)(os:Os)(started:os.Started)(H:Type)(enc:If×Do->H):ReturnsInHanded {} Tryz.checked os 3 .any (λw args=>(Rows.officeStampsSpec.pre enc Tryz.prog Tryz.f3 Rows.officeStampsRow.domain false w args/\laidMetH Tryz.prog Rows.officeStampsRow.laid w)/\sizedMet enc Tryz.prog Tryz.f3 (OpenSpec.ofChange Rows.officeStampsSpec) false w args) (Rows.officeStampsSpec.post enc Tryz.prog Tryz.f3 false true false false):=by
 refine zP (C:=Tryz.checked) (X:=λw=>laidMetH Tryz.prog Rows.officeStampsRow.laid w) (λ_ _ hh h=>h.of_heap hh) Tryz.own started (by kernel_rfl) Tryz.func3
  (ChangeSpec.witness_shaped (enc:=enc) (C:=Tryz.checked) (os:=os) (X:=λw _=>laidMetH Tryz.prog Rows.officeStampsRow.laid w) false (World.laidAll Tryz.prog os Rows.officeStampsRow.laid) #[.slice none 0 0,.int .u16 0] 12 (World.laidAll_os _ _ _) (World.shaped_of_ZipB (by kernel_rfl)<|by kernel_rfl) (by kernel_rfl) (by kernel_rfl) (by kernel_rfl)
   (by rw[oq _ _ _<|by kernel_rfl];exact laidMet_laidAll _ (by kernel_rfl)<|by kernel_rfl)) ?_
 intro W base args ds gs before hval hW hsh hL hz;have hT:Xz (FW W):=uh hL hsh;refine M2 (P:=Tryz.prog) Tryz.laidOut (by kernel_rfl) rfl (by kernel_rfl) (by kernel_rfl:Tryz.f3.resultTypes=#[4]) Tryz.underlying4 (λds h=> ?_) base args ds gs before (λps hval hA hw=> ?_) hval hW hz
 ·match ds,h with
  | [d0,d1],_=>rfl
 ·rw[Tryz.params3] at hA hval hw
  obtain⟨v0,l0,d0,_,_,_,e0,rfl,_,t0,hA⟩:=trodAll_cons hA;have w0:=TC hw
  replace hw:=TB hw
  obtain⟨v1,l1,d1,_,_,_,e1,rfl,_,t1,hA⟩:=trodAll_cons hA;have w1:=TC hw
  replace hw:=TB hw
  obtain⟨e2,_,_⟩:=trodAll_nil hA;subst e2 e1;obtain rfl:args=[v0,v1].toArray:=by rw[<-e0]
  obtain⟨m0,p0,k0,o0,rfl,h0⟩:=wc Tryz.underlying22 Tryz.underlying9 (by kernel_rfl) (hval 0 _ _ rfl rfl) t0 w0;obtain⟨m1,o1,rfl⟩:=hZ Tryz.underlying23 (hval 1 _ _ rfl rfl) t1;have hl:=law m0 m1 o0 o1;have hc:=G8 (FW W) hT m0 p0 k0 h0 m1;rw[hl] at hc
  exact hc
theorem TM(law:X6):Rows.OfficeStampsSaid:=
 OpenClaim.holds_of_wide 3 Tryz.f3 rfl rfl rfl rfl rfl rfl rfl ⟨rfl,rfl,rfl,rfl,rfl⟩ rfl rfl rfl rfl rfl (by kernel_rfl) Tryz.func3 (by kernel_rfl)
  (lQ<|by kernel_rfl) (by unfold Func.isWrapper;first | (rw[TO<|by decide+kernel];kernel_rfl) | (rw[RW<|by decide+kernel];exact⟨rfl,rfl⟩))
  (λos started H enc _=>Sv law os started H enc)
theorem Tj(law:X6):Rows.OfficeStampsCardSaid:=
 Claim7.holds_tied_plain_at .later [] [.data,.data,.data] true (true, "af3b6cf7f13816dd2bfffa4e2d58af9dccf903c38d5c9e1344809fe458a912c4") true (TM law) (λ_ h=>by cases h) (by kernel_rfl) (λ_ h=>by cases h) officeStamps_row_tie rfl ⟨rfl,rfl⟩ (by kernel_rfl) rfl
  (λf fn hf hfn=>by
   obtain rfl:f=3:=y1 ((show Tryz.prog.funcNamed "wormtub/wormtublaw15.OfficeStamps"=some 3 by kernel_rfl).symm.trans hf) |>.symm;obtain rfl:fn=Tryz.f3:=(y1<|Tryz.func3.symm.trans hfn).symm
   exact⟨by kernel_rfl,λj t ht=>by
    have hall:(Tryz.f3.params.toList.all λu=> !Tryz.prog.wantsStandIn u)=true:=by kernel_rfl
    have hm:=Array.mem_of_getElem? ht;exact(show Tryz.prog.wantsStandIn t=false by first | (simp at hm;done) | simpa using List.all_eq_true.1 hall t (by simpa using hm))⟩)
  (by kernel_rfl)
end
section
theorem PQ:X6:=λl which h hc=>O9 l which h hc
theorem officeStamps_holds:Rows.OfficeStampsCardSaid:=Tj PQ
end
end Go.Proofs.YtepbamgmocpemaaGreatDoor
end
