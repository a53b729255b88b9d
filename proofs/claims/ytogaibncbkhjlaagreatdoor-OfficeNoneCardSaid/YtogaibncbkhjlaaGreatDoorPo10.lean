/- OfficeNone is true whatever its inputs are: no condition but the row's own. -/
import Derived.Test.YtogaibncbkhjlaaGreatDoorPo9
import Derived.Test.YtogaibncbkhjlaaGreatDoorTie
import Derived.Test.YtogaibncbkhjlaaGreatDoorCards
import Derived.ChangeMaps5
noncomputable section
namespace Go.Proofs.YtogaibncbkhjlaaGreatDoor.Bo
section
open Go.Dec
def TZ(x:QB)(n:Int):Prop:=x.Lo<=n/\n<=x.Hi
def mem(s:List QB)(n:Int):Prop:=∃y∈s,TZ y n
structure WM(s:List QB):Prop where
 ok:∀y∈s,0<=y.Lo/\y.Lo<=y.Hi/\y.Hi<=1099511627776
 apart:s.Pairwise λa b=>a.Hi+1 < b.Lo
theorem B4(n:Int):¬mem [] n:=by simp[mem]
theorem mem_cons(y:QB)(s:List QB)(n:Int):mem (y::s) n↔TZ y n∨mem s n:=by simp[mem]
theorem mem_append(s t:List QB)(n:Int):mem (s++t) n↔mem s n∨mem t n:=by
 simp only[mem,List.mem_append];constructor
 ·rintro⟨y,h | h,k⟩
  ·exact .inl ⟨y,h,k⟩
  ·exact .inr ⟨y,h,k⟩
 ·rintro(⟨y,h,k⟩ | ⟨y,h,k⟩)
  ·exact⟨y,.inl h,k⟩
  ·exact⟨y,.inr h,k⟩
theorem WM.nil:WM []:=⟨by simp,by simp⟩
theorem WM.tail{y:QB}{s:List QB}(h:WM (y::s)):WM s:=⟨λz hz=>h.ok z (by simp[hz]),(List.pairwise_cons.1 h.apart).2⟩
theorem WM.xw{y:QB}{s:List QB}(h:WM s)(hy:0<=y.Lo/\y.Lo<=y.Hi/\y.Hi<=1099511627776)(hs:∀z∈s,y.Hi+1 < z.Lo):WM (y::s):=by
 refine⟨λz hz=> ?_,List.pairwise_cons.2 ⟨hs,h.apart⟩⟩;rcases List.mem_cons.1 hz with rfl | hz
 ·exact hy
 ·exact h.ok z hz
theorem WM.append{s t:List QB}(h:WM s)(k:WM t)(hst:∀a∈s,∀b∈t,a.Hi+1 < b.Lo):WM (s++t):=by
 refine⟨λz hz=> ?_,List.pairwise_append.2 ⟨h.apart,k.apart,hst⟩⟩;rcases List.mem_append.1 hz with hz | hz
 ·exact h.ok z hz
 ·exact k.ok z hz
theorem WM.split{s t:List QB}(h:WM (s++t)):WM s/\WM t/\∀a∈s,∀b∈t,a.Hi+1 < b.Lo:=by
 have:=List.pairwise_append.1 h.apart;exact⟨⟨λz hz=>h.ok z (by simp[hz]),this.1⟩,⟨λz hz=>h.ok z (by simp[hz]),this.2.1⟩,this.2.2⟩
theorem Dg(s:List QB)(f:QB->Bool)(hl:s.length<=1000000):JK s (λx=>some (f x))=some (match s.findIdx? f with | some i=>(i:Int) | none=> -1):=by
 unfold JK
 have key:=FN (body:=Jh s (λx=>some (f x))) (fun(_:Unit) i=>(i:Int)) (λ_ i x=>if f x then some (.done (.inr (i:Int))) else some (.next ())) (λ_=>.inl ()) s
  (λt i x hx=>by
   have hi:=Zv hx;unfold Jh;simp only[Kg,hx,Option.bind_some];rw[Qs (by omega) (by omega)];simp only[show(decide ((i:Int) < (s.length:Int)))=true by simpa using hi,if_true];cases f x<;>simp[Vb.xx])
  (λt=>by unfold Jh;simp) ()
 simp only[Int.natCast_zero] at key
 rw[key]
 have gen:∀(l:List QB) (i:Nat),Tb (fun(_:Unit) i x=>if f x then some (.done (.inr (i:Int))) else some (.next ())) (λ_=>(.inl ():Unit ⊕ Int)) l i ()=some (match l.findIdx? f with | some k=>.inr ((i+k:Nat):Int) | none=>.inl ()):=by
  intro l
  induction l with
  | nil=>intro i;simp[Tb]
  | cons x l ih=>
   intro i;simp only[Tb,List.findIdx?_cons];cases hf:f x with
   | true=>simp
   | false=>
    simp only[Bool.false_eq_true,if_false];rw[ih];cases l.findIdx? f with
    | none=>simp
    | some k=>simp;omega
 rw[gen];cases s.findIdx? f<;>simp
theorem Sg(s:List QB)(f:QB->Bool)(hl:s.length<=1000000):Ko s (λx=>some (f x))=some (s.any f):=by
 unfold Ko;rw[Dg s f hl];simp only[Option.bind_some,Option.some.injEq];cases h:s.findIdx? f with
 | none=>
  rw[List.findIdx?_eq_none_iff] at h
  simp only[show ¬((-1:Int)≥0) by omega,decide_false]
  symm;simpa using h
 | some i=>
  rw[List.findIdx?_eq_some_iff_getElem] at h
  obtain⟨hi,hf,_⟩:=h;simp only[ge_iff_le,show(0:Int)<=(i:Int) by omega,decide_true]
  symm;rw[List.any_eq_true];exact⟨_,List.getElem_mem hi,hf⟩
theorem LR{s:List QB}{x:QB}(hl:s.length<=1000000)(hn:WM s)(hx:x.Lo<=x.Hi):∃b,YC s x=some b/\(b=true↔∃n,TZ x n/\mem s n):=by
 refine⟨_,by unfold YC;rw[Sg s _ hl];rfl,?_⟩;rw[List.any_eq_true];simp only[Jf,Bool.and_eq_true,decide_eq_true_eq,mem,TZ];constructor
 ·rintro⟨y,hy,h1,h2⟩;have:=hn.ok y hy;by_cases h:x.Lo<=y.Lo
  ·exact⟨y.Lo,by omega,y,hy,by omega⟩
  ·exact⟨x.Lo,by omega,y,hy,by omega⟩
 ·rintro⟨n,hn',y,hy,h⟩;exact⟨y,hy,by omega,by omega⟩
theorem Pz{s:List QB}{x:QB}(hn:WM s)(hx:x.Lo<=x.Hi):(∃y∈s,y.Lo<=x.Lo/\x.Hi<=y.Hi)↔∀n,TZ x n->mem s n:=by
 constructor
 ·rintro⟨y,hy,h1,h2⟩ n hn';exact⟨y,hy,by simp only[TZ] at hn' ⊢;omega⟩
 ·intro h;obtain⟨y,hy,hm⟩:=h x.Lo ⟨by omega,hx⟩;refine⟨y,hy,hm.1,?_⟩;apply Classical.byContradiction;intro hc;simp only[TZ] at hm h
  obtain⟨z,hz,hm2⟩:=h (y.Hi+1) ⟨by omega,by omega⟩;simp only[TZ] at hm2
  have hpw:=hn.apart;rw[List.pairwise_iff_getElem] at hpw
  obtain⟨i,hi,ei⟩:=List.getElem_of_mem hy;obtain⟨j,hj,ej⟩:=List.getElem_of_mem hz;have oy:=hn.ok y hy;have oz:=hn.ok z hz;rcases Nat.lt_trichotomy i j with h' | h' | h'
  ·have:=hpw i j hi hj h';rw[ei,ej] at this;omega
  ·subst h';rw[ei] at ej;subst ej;omega
  ·have:=hpw j i hj hi h';rw[ei,ej] at this;omega
theorem I5{s:List QB}{x:QB}(hl:s.length<=1000000)(hn:WM s)(hx:x.Lo<=x.Hi):∃b,Yt s x=some b/\(b=true↔∀n,TZ x n->mem s n):=by
 refine⟨_,by unfold Yt;rw[Sg s _ hl];rfl,?_⟩;rw[List.any_eq_true,<-Pz hn hx];simp only[YD,Bool.and_eq_true,decide_eq_true_eq]
end
section
open Go.Dec
theorem jM(n:Nat)(h:n<=1000000):Vt (n:Int)=some []:=by
 unfold Vt;have e0:ZF (0 - 0)=0:=by rw[Qs]<;>omega
 simp only[show ¬((n:Int) < 0) by omega,decide_false,Bool.false_eq_true,if_false,Option.bind_some,QV,e0];rw[show((n:Int) - 0)=n by omega,Qs (by omega) (by omega)];by_cases hn:(n:Int) > 0
 ·simp only[hn,decide_true,if_true];have:NX (n:Int)=some n:=by unfold NX;rw[if_pos (by omega)];simp
  rw[this];simp[ZW]
 ·simp only[hn,decide_false,Bool.false_eq_true,if_false,Option.bind_some]
theorem I9(ls:List (List QB))(h:ls.flatten.length<=1000000)(h2:ls.length<=1000):VL ls=some ls.flatten:=by
 unfold VL
 have k1:=FN (body:=Ya ls) (fun(t:Int) i=>(t,(i:Int))) (λt _ x=>if ZF (t+(x.length:Int)) < 0 then none else some (.next (ZF (t+(x.length:Int))))) (λt=>t) ls
  (λt i x hx=>by
   have hi:=Zv hx;unfold Ya;simp only[Kg,hx,Option.bind_some,QV];rw[Qs (n:=(i:Int)+1) (by omega) (by omega)];simp only[show(decide ((i:Int) < (ls.length:Int)))=true by simpa using hi,if_true];by_cases hc:ZF (t+(x.length:Int)) < 0<;>simp[hc,Vb.xx])
  (λt=>by unfold Ya;simp) 0
 have k2:=FN (body:=YZ ls) (fun(t:List QB) i=>(t,(i:Int))) (λt _ x=>(VT t x).map .next) (λt=>t) ls
  (λt i x hx=>by
   have hi:=Zv hx;unfold YZ;simp only[Kg,hx,Option.bind_some];rw[Qs (n:=(i:Int)+1) (by omega) (by omega)];simp only[show(decide ((i:Int) < (ls.length:Int)))=true by simpa using hi,if_true];cases VT t x<;>simp[Vb.xx])
  (λt=>by unfold YZ;simp) []
 simp only[Int.natCast_zero] at k1 k2
 have g1:∀(l:List (List QB)) (i:Nat) (t:Int),0<=t->t+l.flatten.length<=1000000->Tb (fun(t:Int) _ (x:List QB)=>if ZF (t+(x.length:Int)) < 0 then none else some (.next (ZF (t+(x.length:Int))))) (λt=>t) l i t=some (t+l.flatten.length):=by
  intro l
  induction l with
  | nil=>intro i t h0 h1;simp[Tb]
  | cons x l ih=>
   intro i t h0 h1;simp only[List.flatten_cons,List.length_append,Int.natCast_add] at h1
   have e:ZF (t+(x.length:Int))=t+x.length:=Qs (by omega) (by omega);simp only[Tb,e,show ¬(t+(x.length:Int) < 0) by omega,if_false];rw[ih _ _ (by omega) (by omega)];simp;omega
 have g2:∀(l:List (List QB)) (i:Nat) (t:List QB),t.length+l.flatten.length<=1000000->Tb (λt _ x=>(VT t x).map .next) (λt=>t) l i t=some (t++l.flatten):=by
  intro l
  induction l with
  | nil=>intro i t h0;simp[Tb]
  | cons x l ih=>
   intro i t h1;simp only[List.flatten_cons,List.length_append] at h1
   have e:VT t x=some (t++x):=by unfold VT;rw[if_pos (by omega)]
   simp only[Tb,e,Option.map_some];rw[ih _ _ (by rw[List.length_append];omega)];simp
 rw[k1,g1 ls 0 0 (by omega) (by omega)];simp only[Option.bind_some,Int.zero_add];rw[jM _ h];simp only[Option.bind_some];rw[k2,g2 ls 0 [] (by simpa using h)];simp
def En(x:QB):Prop:=0<=x.Lo/\x.Lo<=x.Hi/\x.Hi<=1099511627776
def NV(t:QB)(i:Nat)(y:QB):Option (Vb QB (Int×QB)):=
 if y.Lo<=t.Hi+1 then some (.next (QB.mk (JT t.Lo y.Lo) (imax t.Hi y.Hi))) else some (.done ((i:Int),t))
theorem PY:∀(r:List QB) (i:Nat) (x:QB),WM r->En x->(∀y∈r,x.Lo<=y.Hi+1)->
  ∃r1 r2 x',r=r1++r2/\Tb NV (λt=>((i+r.length:Nat),t)) r i x=some (((i+r1.length:Nat):Int),x')/\En x'/\(∀z∈r2,x'.Hi+1 < z.Lo)/\(∀n,TZ x' n↔TZ x n∨mem r1 n)/\(∀b,b < x.Lo->(∀y∈r,b < y.Lo)->b < x'.Lo)
 | [],i,x,_,hx,_=>⟨[],[],x,rfl,by simp[Tb],hx,by simp,λn=>by simp[mem],λb hb _=>hb⟩
 | y::r,i,x,hr,hx,hy=>by
  have oy:=hr.ok y (by simp);have hy0:=hy y (by simp);have hap:=(List.pairwise_cons.1 hr.apart).1;by_cases hc:y.Lo<=x.Hi+1
  ·have ox:En (QB.mk (JT x.Lo y.Lo) (imax x.Hi y.Hi)):=by
    simp only[En,JT,imax] at hx ⊢
    split<;>split<;>omega
   obtain⟨r1,r2,x',e,hg,h1,h2,h3,h4⟩:=PY r (i+1) (QB.mk (JT x.Lo y.Lo) (imax x.Hi y.Hi)) hr.tail ox (λz hz=>by
    have:=hap z hz;have oz:=hr.ok z (by simp[hz]);have:=hy z (by simp[hz]);show JT x.Lo y.Lo<=z.Hi+1;simp only[JT];split<;>omega)
   refine⟨y::r1,r2,x',by rw[e];rfl,?_,h1,h2,λn=> ?_,λb hb hbr=> ?_⟩
   ·simp only[Tb,NV,hc,if_true];rw[show(i+(y::r).length)=(i+1+r.length) by simp;omega,show(i+(y::r1).length)=(i+1+r1.length) by simp;omega];exact hg
   ·rw[h3 n,mem_cons];simp only[En] at hx
    simp only[TZ,JT,imax];constructor
    ·rintro(h | h)
     ·by_cases h5:x.Lo<=n/\n<=x.Hi
      ·exact .inl h5
      ·refine .inr (.inl ?_);split at h<;>split at h<;>omega
     ·exact .inr (.inr h)
    ·rintro(h | h | h)
     ·left;split<;>split<;>omega
     ·left;split<;>split<;>omega
     ·exact .inr h
   ·apply h4
    ·have:=hbr y (by simp);show b < JT x.Lo y.Lo;simp only[JT];split<;>omega
    ·exact λz hz=>hbr z (by simp[hz])
  ·refine⟨[],y::r,x,rfl,?_,hx,λz hz=> ?_,λn=>by simp[mem],λb hb _=>hb⟩
   ·simp only[Tb,NV,hc,if_false];simp
   ·rcases List.mem_cons.1 hz with rfl | hz
    ·omega
    ·have:=hap z hz;omega
theorem Ti(f:QB->Bool):∀(r:List QB) (i:Nat),Tb (fun(_:Unit) i x=>if f x then some (.next ()) else some (.done (i:Int))) (λ_=>((i+r.length:Nat):Int)) r i ()=some ((i+(r.takeWhile f).length:Nat):Int)
 | [],i=>by simp[Tb]
 | x::r,i=>by
  cases hf:f x with
  | true=>
   simp only[Tb,hf,if_true,List.takeWhile_cons,List.length_cons];have:=Ti f r (i+1);rw[show i+(r.length+1)=i+1+r.length by omega,show i+((r.takeWhile f).length+1)=i+1+(r.takeWhile f).length by omega];exact this
  | false=>simp[Tb,hf]
theorem Rz{s:List QB}{x:QB}(hn:WM s)(hl:s.length<=1000)(hx:En x):
  ∃s',Yj s x=some s'/\WM s'/\s'.length<=s.length+1/\∀n,mem s' n↔mem s n∨TZ x n:=by
 unfold Yj;have hx' :=hx;simp only[En] at hx'
 have k1:=FN (body:=Yw s x) (fun(_:Unit) i=>(i:Int)) (λ_ i y=>if decide (y.Hi < x.Lo - 1) then some (.next ()) else some (.done (i:Int))) (λ_=>((0+s.length:Nat):Int)) s
  (λt i y hy=>by
   have hi:=Zv hy;unfold Yw;simp only[Kg,hy,Option.bind_some,QV];rw[Qs (n:=(i:Int)+1) (by omega) (by omega),Qs (n:=x.Lo - 1) (by omega) (by omega)];simp only[show(decide ((i:Int) < (s.length:Int)))=true by simpa using hi,if_true,Option.bind_some];by_cases hc:y.Hi < x.Lo - 1<;>simp[hc,Vb.xx])
  (λt=>by unfold Yw;simp) ()
 simp only[Int.natCast_zero] at k1
 rw[k1,Ti];simp only[Option.bind_some,Nat.zero_add];generalize hw:(λy:QB=>decide (y.Hi < x.Lo - 1))=f;generalize hs1:s.takeWhile f=s1;generalize hs2:s.dropWhile f=s2;have hs:s=s1++s2:=by rw[<-hs1,<-hs2,List.takeWhile_append_dropWhile]
 have hsp:=hs▸hn;obtain⟨n1,n2,n12⟩:=hsp.split
 have h1:∀y∈s1,y.Hi < x.Lo - 1:=by
  intro y hy;rw[<-hs1] at hy
  have:=List.all_takeWhile (p:=f) (l:=s);rw[List.all_eq_true] at this
  have:=this y hy;rw[<-hw] at this
  simpa using this
 have h2:∀y∈s2,x.Lo<=y.Hi+1:=by
  intro y hy;cases h:s2 with
  | nil=>rw[h] at hy;cases hy
  | cons z r=>
   have hz:¬z.Hi < x.Lo - 1:=by
    have:=List.head?_dropWhile_not (p:=f) (l:=s);rw[hs2,h] at this
    simp at this
    rw[<-hw] at this
    simpa using this
   rw[h] at hy n2
   rcases List.mem_cons.1 hy with rfl | hy
   ·omega
   ·have:=(List.pairwise_cons.1 n2.apart).1 y hy;have oy:=n2.ok y (by simp[hy]);have oz:=n2.ok z (by simp);omega
 obtain⟨r1,r2,x',er,hg,hx1,hx2,hx3,hx4⟩:=PY s2 s1.length x n2 hx h2
 have k2:=Cb (body:=Yv s) (fun(t:QB) i=>((i:Int),t)) NV (λt=>(((s1.length+s2.length:Nat):Int),t)) s (λ_ t=>En t)
  (λt i y hy ot=>by
   have hi:=Zv hy;have oy:En y:=hn.ok y (List.mem_of_getElem? hy);simp only[En] at ot oy
   unfold Yv NV;simp only[Kg,hy,Option.bind_some,QV];rw[Qs (n:=(i:Int)+1) (by omega) (by omega),Qs (n:=t.Hi+1) (by omega) (by omega)];simp only[show(decide ((i:Int) < (s.length:Int)))=true by simpa using hi,if_true,Option.bind_some];by_cases hc:y.Lo<=t.Hi+1<;>simp[hc,Vb.xx])
  (λt i y t' hy ot h=>by
   have oy:En y:=hn.ok y (List.mem_of_getElem? hy);unfold NV at h
   split at h
   ·simp only[Option.some.injEq,Vb.next.injEq] at h
    subst h;simp only[En,JT,imax] at ot oy ⊢
    split<;>split<;>omega
   ·simp at h)
  (λt _=>by unfold Yv;rw[hs];simp) s2.length s1.length x (by rw[hs];simp) hx
 have hd:s.drop s1.length=s2:=by rw[hs];simp
 rw[k2,hd,hg];simp only[Option.bind_some];have hlen:s.length=s1.length+r1.length+r2.length:=by rw[hs,er];simp;omega
 have e1:ZW s 0 (s1.length:Int)=some s1:=by
  unfold ZW;rw[if_pos (by omega)];rw[hs];simp
 have e2:ZW s ((s1.length+r1.length:Nat):Int) (s.length:Int)=some r2:=by
  unfold ZW;rw[if_pos (by omega)];simp only[Int.toNat_natCast];rw[hs,er];congr 1;rw[<-List.append_assoc,List.drop_append_of_le_length (by simp)];rw[List.drop_of_length_le (by simp),List.nil_append];apply List.take_of_length_le;simp only[List.length_append];omega
 rw[e1,e2];simp only[Option.bind_some];rw[I9 _ (by simp;omega) (by simp)];refine⟨s1++x' ::r2,by simp,?_,by simp;omega,λn=> ?_⟩
 ·rw[er] at n2 n12
  obtain⟨m1,m2,m12⟩:=n2.split;refine n1.append (m2.xw hx1 hx2) λa ha b hb=> ?_;rcases List.mem_cons.1 hb with rfl | hb
  ·have oa:=n1.ok a ha;apply hx4
   ·have:=h1 a ha;omega
   ·intro y hy;rw[er] at hy
    exact n12 a ha y hy
  ·exact n12 a ha b (by simp[hb])
 ·rw[mem_append,mem_cons,hx3,hs,er,mem_append,mem_append];constructor
  ·rintro(h | (h | h) | h)
   ·exact .inl (.inl h)
   ·exact .inr h
   ·exact .inl (.inr (.inl h))
   ·exact .inl (.inr (.inr h))
  ·rintro((h | h | h) | h)
   ·exact .inl h
   ·exact .inr (.inl (.inr h))
   ·exact .inr (.inr h)
   ·exact .inr (.inl (.inl h))
end
section
open Go.Dec
theorem Fo{α:Type}{l k:List α}(h:l.length+k.length<=4294967296):VT l k=some (l++k):=by
 unfold VT;rw[if_pos h]
theorem kF{α:Type}(x:α):VT [] [x]=some [x]:=by
 unfold VT;rw[if_pos (by simp)];rfl
theorem zV{n:Int}(h0:0<=n)(h:n<=4294967296):yM 0 n=some 0:=by
 unfold yM;rw[if_pos (by omega)];simp only[Int.toNat_zero]
theorem Nz{s:List QB}{x:QB}(hn:WM s)(hl:s.length<=1000)(hx:En x)(hc:∀n,TZ x n->mem s n):
  ∃s',YV s x=some s'/\WM s'/\s'.length<=s.length+1/\∀n,mem s' n↔mem s n/\¬TZ x n:=by
 unfold YV;have hx' :=hx;simp only[En] at hx'
 obtain⟨y0,hy0,hy1⟩:=(Pz hn hx'.2.1).2 hc;generalize hf:(λy=>KG y x)=f;rw[show(λz=>some (KG z x))=λz=>some (f z) by rw[<-hf]];rw[Dg s f (by omega)]
 have hex:∃i,s.findIdx? f=some i:=by
  cases h:s.findIdx? f with
  | some i=>exact⟨i,rfl⟩
  | none=>
   rw[List.findIdx?_eq_none_iff] at h
   have:=h y0 hy0;rw[<-hf] at this
   simp[KG] at this
   omega
 obtain⟨i,hi⟩:=hex;rw[hi];rw[List.findIdx?_eq_some_iff_getElem] at hi
 obtain⟨hlt,hfi,_⟩:=hi;generalize hy:s[i]=y at hfi
 have hcov:y.Lo<=x.Lo/\x.Hi<=y.Hi:=by
  rw[<-hf] at hfi;simpa[KG] using hfi
 have hs:s=s.take i++y::s.drop (i+1):=by
  rw[<-hy,<-List.drop_eq_getElem_cons hlt,List.take_append_drop]
 have hget:s[i]? =some y:=by rw[<-hy];exact List.getElem?_eq_getElem hlt
 have oy:=hn.ok y (List.mem_of_getElem? hget);simp only[Option.bind_some,Kg,hget];rw[Qs (n:=x.Lo - 1) (by omega) (by omega),Qs (n:=x.Hi+1) (by omega) (by omega),Qs (n:=(s.length:Int)+1) (by omega) (by omega),Qs (n:=(i:Int)+1) (by omega) (by omega)];have hm:yM 0 ((s.length:Int)+1)=some 0:=zV (by omega) (by omega);have hs0:ZW s 0 (i:Int)=some (s.take i):=by unfold ZW;rw[if_pos (by omega)];simp
 have hs1:ZW s ((i:Int)+1) (s.length:Int)=some (s.drop (i+1)):=by
  unfold ZW;rw[if_pos (by omega)];rw[show((i:Int)+1).toNat=i+1 by omega,List.take_of_length_le (by simp)]
 have ht:(s.take i).length=i:=by simp;omega
 have hdl:(s.drop (i+1)).length=s.length - (i+1):=by simp
 generalize hta:s.take i=a at*
 generalize htb:s.drop (i+1)=b at*
 obtain⟨na,nyb,nab⟩:=(hs▸hn:WM (a++y::b)).split;have nb:=nyb.tail;have yb:=(List.pairwise_cons.1 nyb.apart).1;generalize hl1:(if x.Hi < y.Hi then[QB.mk (x.Hi+1) y.Hi] else[])=pr;generalize hl2:(if y.Lo < x.Lo then[QB.mk y.Lo (x.Lo - 1)] else[])=pl
 have run:((if decide (y.Lo < x.Lo)=true then(some y).bind λx46=>(VT [] [QB.mk x46.Lo (x.Lo - 1)]).bind λl_62=>some l_62 else some []):Option (List QB))=some pl:=by
  rw[<-hl2];by_cases h:y.Lo < x.Lo
  ·simp only[h,decide_true,if_true,Option.bind_some,kF]
  ·simp[h]
 have hpl:pl.length<=1:=by rw[<-hl2];split<;>simp
 have hpr:pr.length<=1:=by rw[<-hl1];split<;>simp
 have run2:((if decide (x.Hi < y.Hi)=true then(some y).bind λx140=>(VT pl [QB.mk (x.Hi+1) x140.Hi]).bind λl_156=>some l_156 else some pl):Option (List QB))=some (pl++pr):=by
  rw[<-hl1];by_cases h:x.Hi < y.Hi
  ·simp only[h,decide_true,if_true,Option.bind_some];rw[Fo (by simp only[List.length_cons,List.length_nil];omega)];simp only[Option.bind_some]
  ·simp[h]
 simp only[Option.bind_some] at run run2
 suffices hrun:∀z,z=a++(pl++pr)++b->∃s',some z=some s'/\WM s'/\s'.length<=s.length+1/\∀n,mem s' n↔mem s n/\¬TZ x n by
  refine Exists.imp (λs' h=>⟨Eq.trans ?_ h.1,h.2⟩) (hrun _ rfl);refine ZN run (ZN run2 (ZN hm (ZN hs0 (ZN (a:=a) ?_ (ZN (a:=a++(pl++pr)) ?_ (ZN hs1 (ZN (a:=a++(pl++pr)++b) ?_ rfl)))))))
  ·rw[List.replicate_zero,Fo (by simp only[List.length_nil];omega)];rfl
  ·exact Fo (by simp only[List.length_append];omega)
  ·exact Fo (by simp only[List.length_append];omega)
 intro z hz;subst hz
 have mpl:∀n,mem pl n↔y.Lo<=n/\n < x.Lo:=by
  intro n;rw[<-hl2];split
  ·simp only[mem_cons,B4,or_false,TZ];omega
  ·simp only[B4,false_iff];omega
 have mpr:∀n,mem pr n↔x.Hi < n/\n<=y.Hi:=by
  intro n;rw[<-hl1];split
  ·simp only[mem_cons,B4,or_false,TZ];omega
  ·simp only[B4,false_iff];omega
 have npl:WM pl:=by
  rw[<-hl2];split
  ·exact WM.nil.xw (by simp only;omega) (by simp)
  ·exact WM.nil
 have npr:WM pr:=by
  rw[<-hl1];split
  ·exact WM.nil.xw (by simp only;omega) (by simp)
  ·exact WM.nil
 have bpl:∀z∈pl,z.Lo=y.Lo/\z.Hi=x.Lo - 1:=by
  intro z hz;rw[<-hl2] at hz;split at hz
  ·simp at hz;subst hz;simp
  ·simp at hz
 have bpr:∀z∈pr,z.Lo=x.Hi+1/\z.Hi=y.Hi:=by
  intro z hz;rw[<-hl1] at hz;split at hz
  ·simp at hz;subst hz;simp
  ·simp at hz
 refine⟨_,rfl,?_,?_,λn=> ?_⟩
 ·refine((na.append (npl.append npr ?_) ?_).append nb ?_)
  ·intro p hp q hq;have:=bpl p hp;have:=bpr q hq;omega
  ·intro p hp q hq;have h1:=nab p hp y (by simp);rcases List.mem_append.1 hq with hq | hq
   ·have:=bpl q hq;omega
   ·have:=bpr q hq;omega
  ·intro p hp q hq;have h1:=yb q hq;rcases List.mem_append.1 hp with hp | hp
   ·exact nab p hp q (by simp[hq])
   ·rcases List.mem_append.1 hp with hp | hp
    ·have:=bpl p hp;omega
    ·have:=bpr p hp;omega
 ·simp only[List.length_append];omega
 ·rw[mem_append,mem_append,mem_append,mpl,mpr,hs,mem_append,mem_cons];simp only[TZ];constructor
  ·rintro((h | h | h) | h)
   ·refine⟨.inl h,?_⟩;obtain⟨z,hz,hm⟩:=h;have:=nab z hz y (by simp);simp only[TZ] at hm;omega
   ·exact⟨.inr (.inl (by omega)),by omega⟩
   ·exact⟨.inr (.inl (by omega)),by omega⟩
   ·refine⟨.inr (.inr h),?_⟩;obtain⟨z,hz,hm⟩:=h;have:=yb z hz;simp only[TZ] at hm;omega
  ·rintro⟨h | h | h,hno⟩
   ·exact .inl (.inl h)
   ·by_cases hlt:n < x.Lo
    ·exact .inl (.inr (.inl ⟨h.1,hlt⟩))
    ·exact .inl (.inr (.inr ⟨by omega,h.2⟩))
   ·exact .inr h
def has(e:QJ)(n:Int):Prop:=e.First<=n/\n<=e.Last
instance(e:QJ) (n:Int):Decidable (has e n):=by unfold has;infer_instance
def cur:List QJ->Int->Option QJ:=λl n=>l.foldl (λo e=>if has e n then some e else o) none
def hand(l:List QJ)(n:Int):Prop:=∃e,cur l n=some e/\e.Kind=0
theorem Oz(n:Int):cur [] n=none:=rfl
theorem FY(l:List QJ)(e:QJ)(n:Int):cur (l++[e]) n=if has e n then some e else cur l n:=by simp[cur]
theorem Ng(l:List QJ)(e:QJ)(n:Int):hand (l++[e]) n↔if has e n then e.Kind=0 else hand l n:=by
 unfold hand;rw[FY];split<;>simp
def jD(x:QJ):Bool:=Vq x
theorem jC(x:QJ):jD x=true↔(0<=x.Kind/\x.Kind<=3)/\(x.Kind=1->0<=x.Batch/\x.Batch<=1073741824)/\0<=x.First/\x.First<=x.Last/\x.Last<=1099511627776:=by
 simp only[jD,Vq,QT,KS,Bool.and_eq_true,Bool.or_eq_true,decide_eq_true_eq,bne_iff_ne,ne_eq];constructor
 ·rintro⟨⟨h1,h2⟩,h3⟩;refine⟨by omega,λh=> ?_,by omega⟩;rcases h2 with h2 | h2
  ·exact absurd h h2
  ·omega
 ·rintro⟨h1,h2,h3⟩;refine⟨⟨by omega,?_⟩,by omega⟩;by_cases h:x.Kind=1
  ·right;have:=h2 h;omega
  ·left;exact h
open Classical in
def Vh(pre:List QJ)(x:QJ):Int:=
 if jD x=false then 1 else if x.Kind=0/\∃n,has x n/\cur pre n≠none then 5 else if x.Kind≠0/\∃n,has x n/\¬hand pre n then 4 else 0
structure Inv(pre:List QJ)(t:Qx×V6×Int):Prop where
 ni:WM t.2.1.issued
 nh:WM t.2.1.hand
 li:t.2.1.issued.length<=pre.length
 lh:t.2.1.hand.length<=pre.length
 mi:∀n,mem t.2.1.issued n↔cur pre n≠none
 mh:∀n,mem t.2.1.hand n↔hand pre n
def amount(x:QJ):Int:=ZF (ZF (x.Last - x.First)+1)
def qI(b:Qx)(x:QJ):Qx:=
 if x.Kind=1 then{b with Stuck:=ZF (b.Stuck+amount x)} else if x.Kind=2 then{b with Spoiled:=ZF (b.Spoiled+amount x)} else if x.Kind=3 then{b with Returned:=ZF (b.Returned+amount x)} else b
def EP:List QJ->Qx:=λl=>l.foldl qI (Qx.mk [] 0 0 0)
theorem Bt(l:List QJ)(x:QJ):EP (l++[x])=qI (EP l) x:=by simp[EP]
theorem M4{l pre post:List QJ}{x:QJ}{t:Qx×V6×Int}(hl:l=pre++x::post)(h256:l.length<=256)(hI:Inv pre t)(hB:t.1=EP pre):
  (Vh pre x≠0/\Yf l ((pre.length:Int),t)=some (.done (.inr (Qx.mk [] 0 0 0,(pre.length:Int),Vh pre x))))∨
  (Vh pre x=0/\∃t',Yf l ((pre.length:Int),t)=some (.next (((pre.length+1:Nat):Int),t'))/\Inv (pre++[x]) t'/\t'.1=EP (pre++[x])):=by
 have hget:l[pre.length]? =some x:=by rw[hl];simp
 have hlen:pre.length < l.length:=by rw[hl];simp
 unfold Yf;simp only[Kg,hget,Option.bind_some,show(decide ((pre.length:Int) < (l.length:Int)))=true by simpa using hlen,if_true];by_cases hok:jD x=true
 ·have hok' :Vq x=true:=hok;obtain⟨hk,_,hx0,hx1,hx2⟩:=(jC x).1 hok;have hxs:En (QB.mk x.First x.Last):=⟨hx0,hx1,hx2⟩;have hin:∀n,TZ (QB.mk x.First x.Last) n↔has x n:=λn=>Iff.rfl;have l1:=hI.li;have l2:=hI.lh;simp only[hok',Bool.not_true,Bool.false_eq_true,if_false];rw[Qs (n:=(pre.length:Int)+1) (by omega) (by omega)];by_cases hk0:x.Kind=0
  ·
    obtain⟨bo,ho,hb⟩:=LR (s:=t.2.1.issued) (x:=QB.mk x.First x.Last) (by omega) hI.ni hx1;simp only[hk0,beq_self_eq_true,if_true,ho,Option.bind_some];cases hbo:bo with
    | true=>
     left
     have:Vh pre x=5:=by
      unfold Vh;rw[if_neg (by simp[hok]),if_pos];refine⟨hk0,?_⟩;obtain⟨n,h1,h2⟩:=hb.1 hbo;exact⟨n,h1,(hI.mi n).1 h2⟩
     rw[this];simp
    | false=>
     right;have hno:¬∃n,TZ (QB.mk x.First x.Last) n/\mem t.2.1.issued n:=λh=>by have:=hb.2 h;rw[hbo] at this;cases this
     have herr:Vh pre x=0:=by
      unfold Vh;rw[if_neg (by simp[hok]),if_neg,if_neg (by simp[hk0])];rintro⟨_,n,h1,h2⟩;exact hno ⟨n,h1,(hI.mi n).2 h2⟩
     obtain⟨s1,e1,n1,len1,m1⟩:=Rz hI.ni (by omega) hxs;obtain⟨s2,e2,n2,len2,m2⟩:=Rz hI.nh (by omega) hxs;simp only[Bool.false_eq_true,if_false,e1,e2,Option.bind_some,QV];refine⟨herr,_,rfl,⟨n1,n2,by simp;omega,by simp;omega,λn=> ?_,λn=> ?_⟩,?_⟩
     ·rw[m1,FY,hI.mi,hin];split<;>simp_all
     ·rw[m2,Ng,hI.mh,hin];split<;>simp_all
     ·rw[Bt];simp only[qI,hk0];simpa using hB
  ·
    have hkb:(x.Kind==0)=false:=by simpa using hk0
    simp only[hkb,Bool.false_eq_true,if_false,Option.bind_some];obtain⟨bo,ho,hb⟩:=I5 (s:=t.2.1.hand) (x:=QB.mk x.First x.Last) (by omega) hI.nh hx1;simp only[ho,Option.bind_some];cases hbo:bo with
    | false=>
     left;have hno:¬∀n,TZ (QB.mk x.First x.Last) n->mem t.2.1.hand n:=λh=>by have:=hb.2 h;rw[hbo] at this;cases this
     have:Vh pre x=4:=by
      unfold Vh;rw[if_neg (by simp[hok]),if_neg (by simp[hk0]),if_pos];refine⟨hk0,?_⟩;obtain⟨n,hn⟩:=Classical.not_forall.1 hno;obtain⟨h1,h2⟩:=Classical.not_imp.1 hn;exact⟨n,h1,λh3=>h2 ((hI.mh n).2 h3)⟩
     rw[this];simp
    | true=>
     right;have hall:=hb.1 hbo
     have herr:Vh pre x=0:=by
      unfold Vh;rw[if_neg (by simp[hok]),if_neg (by simp[hk0]),if_neg];rintro⟨_,n,h1,h2⟩;exact h2 ((hI.mh n).1 (hall n h1))
     obtain⟨s2,e2,n2,len2,m2⟩:=Nz hI.nh (by omega) hxs hall;simp only[Bool.not_true,Bool.false_eq_true,if_false,e2,Option.bind_some,QV]
     have hcur:∀n,has x n->cur pre n≠none:=λn h=>by
      have:=(hI.mh n).1 (hall n h);obtain⟨e,he,_⟩:=this;rw[he];simp
     have inv' :∀(b:Qx) (z:Int),Inv (pre++[x]) (b,{t.2.1 with hand:=s2},z):=λb z=>by
      refine⟨hI.ni,n2,by simp;omega,by simp;omega,λn=> ?_,λn=> ?_⟩
      ·show mem t.2.1.issued n↔_;rw[FY,hI.mi];split
       ·rename_i h;simp[hcur n h]
       ·rfl
      ·show mem s2 n↔_;rw[m2,Ng,hI.mh,hin];split
       ·rename_i h;simp[h,hk0]
       ·rename_i h;simp[h]
     have hcase:x.Kind=1∨x.Kind=2∨x.Kind=3:=by omega
     rcases hcase with hk1 | hk1 | hk1
     ·simp only[hk1,show YP 4 1=some 1 from rfl,Option.bind_some,show((1:Nat)==0)=false from rfl,Bool.false_eq_true,if_false,beq_self_eq_true,if_true];exact⟨herr,_,rfl,inv' _ _,by rw[Bt,<-hB];simp[qI,hk1,amount]⟩
     ·simp only[hk1,show YP 4 2=some 2 from rfl,Option.bind_some,show((2:Nat)==0)=false from rfl,show((2:Nat)==1)=false from rfl,Bool.false_eq_true,if_false,beq_self_eq_true,if_true];exact⟨herr,_,rfl,inv' _ _,by rw[Bt,<-hB];simp[qI,hk1,amount]⟩
     ·simp only[hk1,show YP 4 3=some 3 from rfl,Option.bind_some,show((3:Nat)==0)=false from rfl,show((3:Nat)==1)=false from rfl,show((3:Nat)==2)=false from rfl,Bool.false_eq_true,if_false];exact⟨herr,_,rfl,inv' _ _,by rw[Bt,<-hB];simp[qI,hk1,amount]⟩
 ·left;have hok' :Vq x=false:=by simpa[jD] using hok
  have:Vh pre x=1:=by unfold Vh;rw[if_pos (by simpa using hok)]
  rw[this];simp[hok']
end
section
open Go.Dec
def Er:Qx:=Qx.mk [] 0 0 0
theorem Ap(l:List QJ)(h:l.length<=256):
  (∃p x,Bs Vh l p x/\J0 l=some (Er,(p.length:Int),Vh p x))∨
  (WC Vh l/\∃hd,WM hd/\(∀n,mem hd n↔hand l n)/\hd.length<=l.length/\J0 l=some ({EP l with Hand:=hd},(l.length:Int),0)):=by
 unfold J0;simp only[show ¬((l.length:Int) > 256) by omega,decide_false,Bool.false_eq_true,if_false]
 have key:=Hj (body:=Yf l) (λi (t:Qx×V6×Int)=>((i:Int),t)) Vh (λi e=>.inr (Er,(i:Int),e)) (λt=>.inl (t.1,t.2.1,t.2.2)) (λpre t=>Inv pre t/\t.1=EP pre) l
  (λpre x post t hl _ ht=>by
   rcases M4 hl h ht.1 ht.2 with⟨h1,h2⟩ | ⟨h1,t',h2,h3,h4⟩
   ·exact .inl ⟨h1,h2⟩
   ·exact .inr ⟨h1,t',h2,h3,h4⟩)
  (λt _ _=>by unfold Yf;simp)
  l [] (Er,V6.mk [] [],0) rfl WC.nil ⟨⟨WM.nil,WM.nil,by simp,by simp,λn=>by simp[B4,Oz],λn=>by simp[B4,hand,Oz]⟩,rfl⟩
 simp only[List.length_nil,Int.natCast_zero] at key
 rcases key with⟨p,x,hb,hr⟩ | ⟨ho,t,⟨hI,hB⟩,hr⟩
 ·refine .inl ⟨p,x,hb,?_⟩;refine ZN hr ?_;rfl
 ·refine .inr ⟨ho,t.2.1.hand,hI.nh,hI.mh,hI.lh,?_⟩;refine ZN hr ?_
  have hc:Vf t.2.1.hand=some t.2.1.hand:=by
   unfold Vf;have:=hI.lh;rw[Fo (by simp only[List.length_nil];omega)];simp
  simp only[hc,Option.bind_some,QV,hB]
theorem zo{pre:List QJ}{x:QJ}(h:Vh pre x=0):jD x=true/\(x.Kind=0->∀n,has x n->cur pre n=none)/\(x.Kind≠0->∀n,has x n->hand pre n):=by
 unfold Vh at h
 split at h
 ·cases h
 ·rename_i h1;split at h
  ·cases h
  ·rename_i h2;split at h
   ·cases h
   ·rename_i h3;refine⟨by simpa using h1,λhk n hn=> ?_,λhk n hn=> ?_⟩
    ·apply Classical.byContradiction;exact λhc=>h2 ⟨hk,n,hn,hc⟩
    ·apply Classical.byContradiction;exact λhc=>h3 ⟨hk,n,hn,hc⟩
theorem jB{l:List QJ}{x:QJ}(h:WC Vh (l++[x])):Vh l x=0:=h l x [] rfl
theorem qg(n:Int)(l:List QJ):WC Vh l->l.find? (λe=>decide (e.Kind=1/\has e n))=(cur l n).filter (λe=>decide (e.Kind=1)):=by
 induction l using D4 with
 | h0=>intro _;rfl
 | hs l x ih=>
  intro h;have ih:=ih h.init;obtain⟨_,h0,h1⟩:=zo (jB h);rw[List.find?_append,FY,ih];by_cases hn:has x n
  ·by_cases hk:x.Kind=0
   ·simp[h0 hk n hn,hn,hk,Option.filter]
   ·obtain⟨e,he,hek⟩:=h1 hk n hn;rw[he];by_cases hk1:x.Kind=1
    ·simp[hek,hn,hk1,Option.filter]
    ·simp[hek,hn,hk1,Option.filter]
  ·simp[hn]
def qj(l:List QJ)(n:Int):Int×Int:=match(cur l n).filter (λe=>decide (e.Kind=1)) with | some e=>(e.Batch,0) | none=>(0,4)
theorem EK(l:List QJ)(n:Int)(h:l.length<=256):ZV (Vr l n) 0=some (match l.find? (λe=>decide (e.Kind=1/\has e n)) with | some e=>.inr (e.Batch,0) | none=>.inl ()):=by
 have key:=FN (body:=Vr l n) (fun(_:Unit) i=>(i:Int)) (λ_ _ x=>if decide (x.Kind=1/\has x n) then some (.done (.inr (x.Batch,0))) else some (.next ())) (λ_=>.inl ()) l
  (λt i x hx=>by
   have hi:=Zv hx;unfold Vr;simp only[Kg,hx,Option.bind_some];rw[Qs (by omega) (by omega)];simp only[show(decide ((i:Int) < (l.length:Int)))=true by simpa using hi,if_true]
   have e:(x.Kind==1&&QT n x.First x.Last)=decide (x.Kind=1/\has x n):=by
    rw[Bool.eq_iff_iff,decide_eq_true_iff];simp only[Bool.and_eq_true,beq_iff_eq,QT,decide_eq_true_eq,ge_iff_le];exact Iff.rfl
   rw[e];by_cases hc:x.Kind=1/\has x n<;>simp[hc,Vb.xx])
  (λt=>by unfold Vr;simp) ()
 simp only[Int.natCast_zero] at key
 rw[key]
 clear key h
 generalize 0=i
 induction l generalizing i with
 | nil=>rfl
 | cons x l ih=>
  simp only[Tb,List.find?_cons];by_cases hc:x.Kind=1/\has x n
  ·simp[hc]
  ·simp only[hc,decide_false,Bool.false_eq_true,if_false];exact ih (i+1)
theorem EJ{l:List QJ}(n:Int)(h:l.length<=256)(ho:WC Vh l):VP l n=some (qj l n):=by
 unfold VP;rcases Ap l h with⟨p,x,hb,_⟩ | ⟨_,hd,_,_,_,hr⟩
 ·exact absurd ho hb.dr
 ·refine ZN hr ?_;simp only[bne_self_eq_false,Bool.false_eq_true,if_false];rw[EK l n h,qg n l ho];unfold qj;cases(cur l n).filter (λe=>decide (e.Kind=1))<;>simp
theorem IE{l:List QJ}(n:Int){b:Qx}{i e:Int}(h:J0 l=some (b,i,e))(he:e≠0):VP l n=some (0,e):=by
 unfold VP;refine ZN h ?_;simp only[show(e != 0)=true by simpa using he,if_true]
end
section
open Go.Dec
theorem Te(x:Int):ZD x=true↔0<=x/\x<=65536:=by
 simp only[ZD,QT,Bool.and_eq_true,decide_eq_true_eq,ge_iff_le]
theorem R3(p:Int)(hp:0<=p):∀l:List Int,(∀x∈l,0<=x/\x<=p)->0<=l.sum/\l.sum<=p*l.length
 | [],_=>by simp
 | x::l,h=>by
  have h1:=h x (by simp);have h2:=R3 p hp l λy hy=>h y (by simp[hy]);rw[List.sum_cons,List.length_cons,Int.natCast_add,Int.mul_add];simp only[Int.natCast_one,Int.mul_one];omega
theorem qp(l:List Int)(hl:l.length<=1000):Wq l=some (if l.all ZD then(l.sum,true) else(0,false)):=by
 unfold Wq
 have key:=Hj (body:=Wk l) (λi (t:Int)=>(t,(i:Int))) (λ_ x=>if ZD x then 0 else 1) (λ_ _=>.inr (0,false)) (λt=>.inl t) (λpre t=>t=pre.sum) l
  (λpre x post t hl' ho ht=>by
   have hg:=XN hl';have hi:=Fx hl';unfold Wk;simp only[Kg,hg,Option.bind_some,QV];rw[Qs (n:=(pre.length:Int)+1) (by omega) (by omega)];simp only[show(decide ((pre.length:Int) < (l.length:Int)))=true by simpa using hi,if_true];cases hx:ZD x with
   | false=>left;simp
   | true=>
    right;have hx' :=(Te x).1 hx
    have hall:∀y∈pre,0<=y/\y<=65536:=by
     intro y hy;obtain⟨s,r,rfl⟩:=List.append_of_mem hy;have:=ho s y r rfl;cases hd:ZD y with
     | true=>exact(Te y).1 hd
     | false=>simp[hd] at this
    have hb:=R3 65536 (by omega) pre hall;refine⟨by simp,t+x,?_,by rw[ht];simp⟩;simp only[Bool.not_true,Bool.false_eq_true,if_false];rw[Qs (by omega) (by omega)];simp)
  (λt _ _=>by unfold Wk;simp) l [] 0 rfl WC.nil rfl
 simp only[List.length_nil,Int.natCast_zero] at key
 rcases key with⟨p,x,⟨post,e,_,hx⟩,hr⟩ | ⟨ho,t,ht,hr⟩
 ·have:l.all ZD=false:=by
   rw[e,List.all_append,List.all_cons];cases hd:ZD x with
   | true=>simp[hd] at hx
   | false=>simp
  rw[this];exact ZN hr rfl
 ·have:l.all ZD=true:=by
   rw[List.all_eq_true];intro y hy;obtain⟨s,r,rfl⟩:=List.append_of_mem hy;have:=ho s y r rfl;cases hd:ZD y with
   | true=>rfl
   | false=>simp[hd] at this
  rw[this];exact ZN hr (by rw[ht];rfl)
def kV(d:Qn):Bool:=
 (GQ 8 d.From.Woods).all ZD&&(GQ 8 d.From.Places).all ZD&&ZD d.From.Age&&decide (d.From.Age≥imax (GQ 8 d.From.Woods).sum (GQ 8 d.From.Places).sum)&&
 QT d.From.Number 0 1073741824&&QT d.Amount 1 1073741824&&KS d.Strength 10000
structure vZ(d:Qn):Prop where
 woods:∀i,i < 8->0<=d.From.Woods i/\d.From.Woods i<=65536
 places:∀i,i < 8->0<=d.From.Places i/\d.From.Places i<=65536
 age:0<=d.From.Age/\d.From.Age<=65536
 ageW:(GQ 8 d.From.Woods).sum<=d.From.Age
 ageP:(GQ 8 d.From.Places).sum<=d.From.Age
 num:0<=d.From.Number/\d.From.Number<=1073741824
 amt:1<=d.Amount/\d.Amount<=1073741824
 str:0<=d.Strength.Lo/\d.Strength.Lo<=d.Strength.Hi/\d.Strength.Hi<=10000
theorem qG{f:Nat->Int}{p:Int->Bool}{n:Nat}:(GQ n f).all p=true↔∀i,i < n->p (f i)=true:=by
 simp[GQ,List.all_eq_true]
theorem Me(d:Qn):kV d=true↔vZ d:=by
 simp only[kV,Bool.and_eq_true,qG,Te,decide_eq_true_eq,QT,KS,imax,ge_iff_le];constructor
 ·rintro⟨⟨⟨⟨⟨⟨h1,h2⟩,h3⟩,h4⟩,h5⟩,h6⟩,h7⟩;refine⟨h1,h2,h3,?_,?_,by omega,by omega,by omega⟩
  ·split at h4<;>omega
  ·split at h4<;>omega
 ·rintro⟨h1,h2,h3,h4,h5,h6,h7,h8⟩;refine⟨⟨⟨⟨⟨⟨h1,h2⟩,h3⟩,?_⟩,by omega⟩,by omega⟩,by omega⟩;split<;>omega
theorem SU(d:Qn):Vx d=some (kV d):=by
 unfold Vx;rw[qp _ (by simp[GQ]),qp _ (by simp[GQ])];simp only[Option.bind_some,QV,kV];cases h1:(GQ 8 d.From.Woods).all ZD<;>cases h2:(GQ 8 d.From.Places).all ZD<;>simp
def Y0(l:List Qn):Int:=(l.map λd=>d.Amount).sum
def Uc(l:List Qn):Int:=(l.map λd=>d.Amount*d.Strength.Lo).sum
def Vl(l:List Qn):Int:=(l.map λd=>d.Amount*d.Strength.Hi).sum
theorem R4(l:List Qn)(d:Qn):Y0 (l++[d])=Y0 l+d.Amount:=by simp[Y0]
theorem Tp(l:List Qn)(d:Qn):Uc (l++[d])=Uc l+d.Amount*d.Strength.Lo:=by simp[Uc]
theorem Tq(l:List Qn)(d:Qn):Vl (l++[d])=Vl l+d.Amount*d.Strength.Hi:=by simp[Vl]
theorem Ho{d:Qn}(h:vZ d){x:Int}(h0:0<=x)(h1:x<=10000):0<=d.Amount*x/\d.Amount*x<=10737418240000:=by
 have ha:=h.amt;constructor
 ·exact Int.mul_nonneg (by omega) h0
 ·have:=Int.mul_le_mul ha.2 h1 h0 (by omega);omega
theorem Tm(l:List Qn):(∀d∈l,vZ d)->((l.length:Int)<=Y0 l/\Y0 l<=1073741824*l.length)/\(0<=Uc l/\Uc l<=Vl l)/\Vl l<=10737418240000*l.length/\Vl l<=10000*Y0 l:=by
 induction l using D4 with
 | h0=>intro _;simp[Y0,Uc,Vl]
 | hs l d ih=>
  intro h;have hd:=h d (by simp);obtain⟨h1,h2,h3,h4⟩:=ih λx hx=>h x (by simp[hx]);rw[R4,Tp,Tq,List.length_append,List.length_singleton,Int.natCast_add];have ha:=hd.amt;have hs:=hd.str;have b1:=Ho hd (x:=d.Strength.Lo) (by omega) (by omega);have b2:=Ho hd (x:=d.Strength.Hi) (by omega) (by omega);have b3:d.Amount*d.Strength.Lo<=d.Amount*d.Strength.Hi:=Int.mul_le_mul_of_nonneg_left hs.2.1 (by omega);have b4:d.Amount*d.Strength.Hi<=d.Amount*10000:=Int.mul_le_mul_of_nonneg_left hs.2.2 (by omega);simp only[Int.natCast_one];refine⟨by omega,by omega,by omega,by omega⟩
def XT(b:QQ):Bool:=b.Draughts.all kV&&QT (b.Draughts.length:Int) 1 16&&QT b.Water 0 17179869184&&KS b.Shrink 1000
structure Valid(b:QQ):Prop where
 ds:∀d∈b.Draughts,vZ d
 len:1<=b.Draughts.length/\b.Draughts.length<=16
 water:0<=b.Water/\b.Water<=17179869184
 shrink:0<=b.Shrink.Lo/\b.Shrink.Lo<=b.Shrink.Hi/\b.Shrink.Hi<=1000
theorem Hz(b:QQ):XT b=true↔Valid b:=by
 simp only[XT,Bool.and_eq_true,List.all_eq_true,Me,QT,KS,decide_eq_true_eq,ge_iff_le];constructor
 ·rintro⟨⟨⟨h1,h2⟩,h3⟩,h4⟩;exact⟨h1,by omega,h3,by omega⟩
 ·rintro⟨h1,h2,h3,h4⟩;exact⟨⟨⟨h1,by omega⟩,h3⟩,by omega⟩
theorem MK(b:QQ)(hlen:b.Draughts.length<=40):∃x,UW b=some (x,XT b)/\(XT b=true->x=Qf.mk b (Y0 b.Draughts) (Uc b.Draughts) (Vl b.Draughts)):=by
 unfold UW
 have key:(∃x,ZV (K0 b) (0,Qf.mk b 0 0 0)=some (.inr (x,false))/\b.Draughts.all kV=false)∨(ZV (K0 b) (0,Qf.mk b 0 0 0)=some (.inl (Qf.mk b (Y0 b.Draughts) (Uc b.Draughts) (Vl b.Draughts)))/\b.Draughts.all kV=true):=by
  have go:∀(post pre:List Qn),b.Draughts=pre++post->(∀d∈pre,vZ d)->(∃x,ZV (K0 b) ((pre.length:Int),Qf.mk b (Y0 pre) (Uc pre) (Vl pre))=some (.inr (x,false))/\b.Draughts.all kV=false)∨(ZV (K0 b) ((pre.length:Int),Qf.mk b (Y0 pre) (Uc pre) (Vl pre))=some (.inl (Qf.mk b (Y0 b.Draughts) (Uc b.Draughts) (Vl b.Draughts)))/\b.Draughts.all kV=true):=by
   intro post
   induction post with
   | nil=>
    intro pre e h;rw[List.append_nil] at e
    right;rw[<-e] at h ⊢
    refine⟨?_,by rw[List.all_eq_true];exact λd hd=>(Me d).2 (h d hd)⟩;rw[ZR];unfold K0;simp
   | cons d post ih=>
    intro pre e h;have hg:=XN e;have hi:=Fx e;cases hd:kV d with
    | false=>
     left
     have hb:K0 b ((pre.length:Int),Qf.mk b (Y0 pre) (Uc pre) (Vl pre))=some (.done (.inr (Qf.mk b (Y0 pre) (Uc pre) (Vl pre),false))):=by
      unfold K0;simp only[Kg,hg,Option.bind_some,QV,SU,hd];simp only[show(decide ((pre.length:Int) < (b.Draughts.length:Int)))=true by simpa using hi,if_true];simp
     refine⟨Qf.mk b (Y0 pre) (Uc pre) (Vl pre),?_,?_⟩
     ·rw[ZR,hb]
     ·rw[e,List.all_append,List.all_cons,hd];simp
    | true=>
     have hd' :=(Me d).1 hd;have hs:=hd'.str;obtain⟨b1,b2,b3,_⟩:=Tm pre h;have b4:=Ho hd' (x:=d.Strength.Lo) (by omega) (by omega);have b5:=Ho hd' (x:=d.Strength.Hi) (by omega) (by omega);have ha:=hd'.amt
     have:=ih (pre++[d]) (by rw[e];simp) (λx hx=>by
      rcases List.mem_append.1 hx with hx | hx
      ·exact h x hx
      ·simp only[List.mem_singleton] at hx;subst hx;exact hd')
     have hb:K0 b ((pre.length:Int),Qf.mk b (Y0 pre) (Uc pre) (Vl pre))=some (.next (((pre++[d]).length:Int),Qf.mk b (Y0 (pre++[d])) (Uc (pre++[d])) (Vl (pre++[d])))):=by
      unfold K0;rw[R4,Tp,Tq,List.length_append,List.length_singleton,Int.natCast_add];simp only[Kg,hg,Option.bind_some,QV,SU,hd];simp only[show(decide ((pre.length:Int) < (b.Draughts.length:Int)))=true by simpa using hi,if_true];rw[Qs (n:=d.Amount*d.Strength.Lo) (by omega) (by omega),Qs (n:=d.Amount*d.Strength.Hi) (by omega) (by omega),Qs (n:=(pre.length:Int)+1) (by omega) (by omega),Qs (n:=Y0 pre+d.Amount) (by omega) (by omega),Qs (n:=Uc pre+d.Amount*d.Strength.Lo) (by omega) (by omega),Qs (n:=Vl pre+d.Amount*d.Strength.Hi) (by omega) (by omega)];simp
     rw[ZR,hb];exact this
  exact go b.Draughts [] rfl (by simp)
 rcases key with⟨x,hr,hall⟩ | ⟨hr,hall⟩
 ·refine⟨x,ZN hr ?_,λh=> ?_⟩
  ·simp only[XT,hall,Bool.false_and]
  ·simp only[XT,hall,Bool.false_and] at h;cases h
 ·refine⟨Qf.mk b (Y0 b.Draughts) (Uc b.Draughts) (Vl b.Draughts),ZN hr ?_,λ_=>rfl⟩;simp only[XT,hall,Bool.true_and];cases QT (b.Draughts.length:Int) 1 16<;>cases QT b.Water 0 17179869184<;>simp
end
section
open Go.Dec
def ql(b:QQ)(w:Int):QB:=
 QB.mk ((Y0 b.Draughts+w)*(10000 - b.Shrink.Hi) / 10000) (((Y0 b.Draughts+w)*(10000 - b.Shrink.Lo)+10000 - 1) / 10000)
def kg(b:QQ)(w:Int):QB:=
 QB.mk (JT 10000 (Uc b.Draughts*10000 / ((Y0 b.Draughts+w)*(10000 - b.Shrink.Lo))))
  (JT 10000 ((Vl b.Draughts*10000+(Y0 b.Draughts+w)*(10000 - b.Shrink.Hi) - 1) / ((Y0 b.Draughts+w)*(10000 - b.Shrink.Hi))))
structure uf(b:QQ)(w:Int):Prop where
 a:1<=Y0 b.Draughts/\Y0 b.Draughts<=17179869184
 l:0<=Uc b.Draughts/\Uc b.Draughts<=Vl b.Draughts/\Vl b.Draughts<=171798691840000
 lh:Vl b.Draughts<=10000*Y0 b.Draughts
 small:9000<=(Y0 b.Draughts+w)*(10000 - b.Shrink.Hi)/\(Y0 b.Draughts+w)*(10000 - b.Shrink.Hi)<=343597383680000
 great:9000<=(Y0 b.Draughts+w)*(10000 - b.Shrink.Lo)/\(Y0 b.Draughts+w)*(10000 - b.Shrink.Lo)<=343597383680000
 le:(Y0 b.Draughts+w)*(10000 - b.Shrink.Hi)<=(Y0 b.Draughts+w)*(10000 - b.Shrink.Lo)
theorem uS{b:QQ}{w:Int}(h:Valid b)(h0:0<=w)(h1:w<=17179869184):uf b w:=by
 obtain⟨b1,b2,b3,b4⟩:=Tm b.Draughts h.ds;have hl:=h.len;have hs:=h.shrink;have ha:1<=Y0 b.Draughts/\Y0 b.Draughts<=17179869184:=by omega
 have mb:∀x:Int,9000<=x->x<=10000->9000<=(Y0 b.Draughts+w)*x/\(Y0 b.Draughts+w)*x<=343597383680000:=by
  intro x hx1 hx2;have m1:1*9000<=(Y0 b.Draughts+w)*x:=Int.mul_le_mul (by omega) hx1 (by omega) (by omega);have m2:(Y0 b.Draughts+w)*x<=34359738368*10000:=Int.mul_le_mul (by omega) hx2 (by omega) (by omega);omega
 exact⟨ha,by omega,b4,mb _ (by omega) (by omega),mb _ (by omega) (by omega),Int.mul_le_mul_of_nonneg_left (by omega) (by omega)⟩
theorem R0{b:QQ}{w:Int}(h:Valid b)(h0:0<=w)(h1:w<=17179869184):Js (Qf.mk b (Y0 b.Draughts) (Uc b.Draughts) (Vl b.Draughts)) w=some (ql b w):=by
 have hb:=uS h h0 h1;have b1:=hb.a;have b2:=hb.small;have b3:=hb.great;have hs:=h.shrink;unfold Js XM;simp only[QV];rw[Qs (n:=Y0 b.Draughts+w) (by omega) (by omega),Qs (n:=10000 - b.Shrink.Lo) (by omega) (by omega),Qs (n:=10000 - b.Shrink.Hi) (by omega) (by omega)];rw[Qs (n:=(Y0 b.Draughts+w)*(10000 - b.Shrink.Lo)) (by omega) (by omega),Qs (n:=(Y0 b.Draughts+w)*(10000 - b.Shrink.Hi)) (by omega) (by omega)];rw[Qs (n:=(Y0 b.Draughts+w)*(10000 - b.Shrink.Lo)+10000) (by omega) (by omega),Qs (n:=(Y0 b.Draughts+w)*(10000 - b.Shrink.Lo)+10000 - 1) (by omega) (by omega)];rw[PH (by omega) (by omega) (by omega)];simp only[Option.bind_some];rw[Int.tdiv_eq_ediv_of_nonneg (by omega),Qs (by omega) (by omega)];rfl
theorem M3{b:QQ}{w:Int}(h:Valid b)(h0:0<=w)(h1:w<=17179869184):YF (Qf.mk b (Y0 b.Draughts) (Uc b.Draughts) (Vl b.Draughts)) w=some (kg b w):=by
 have hb:=uS h h0 h1;have b1:=hb.a;have b2:=hb.small;have b3:=hb.great;have b4:=hb.l;have hs:=h.shrink;unfold YF XM;simp only[QV];rw[Qs (n:=Y0 b.Draughts+w) (by omega) (by omega),Qs (n:=10000 - b.Shrink.Lo) (by omega) (by omega),Qs (n:=10000 - b.Shrink.Hi) (by omega) (by omega)];rw[Qs (n:=(Y0 b.Draughts+w)*(10000 - b.Shrink.Lo)) (by omega) (by omega),Qs (n:=(Y0 b.Draughts+w)*(10000 - b.Shrink.Hi)) (by omega) (by omega)];rw[Qs (n:=Uc b.Draughts*10000) (by omega) (by omega),Qs (n:=Vl b.Draughts*10000) (by omega) (by omega)];rw[Qs (n:=Vl b.Draughts*10000+(Y0 b.Draughts+w)*(10000 - b.Shrink.Hi)) (by omega) (by omega),Qs (n:=Vl b.Draughts*10000+(Y0 b.Draughts+w)*(10000 - b.Shrink.Hi) - 1) (by omega) (by omega)];rw[PH (by omega) (by omega) (by omega),PH (by omega) (by omega) (by omega)];rfl
def Gw(l:List Qn)(f:Qn->Int):Int:=match l with
 | []=>0
 | d::r=>r.foldl (λm x=>JT m (f x)) (f d)
theorem Il{l:List Qn}{d:Qn}{f:Qn->Int}(hl:l≠[]):Gw (l++[d]) f=JT (Gw l f) (f d):=by
 cases l with
 | nil=>exact absurd rfl hl
 | cons x r=>simp[Gw]
theorem Ph(l:List Qn)(f:Qn->Int)(hl:l≠[])(h:l.length<=1000):Kd l (λd=>some (f d))=some (Gw l f):=by
 cases l with
 | nil=>exact absurd rfl hl
 | cons d r=>
  simp only[List.length_cons] at h
  unfold Kd;have h0:Zc (d::r) 0=some d:=rfl
  have h1:ZW (d::r) 1 ((d::r).length:Int)=some r:=by
   unfold ZW;rw[if_pos (by simp only[List.length_cons];omega)];simp
  refine ZN h0 (ZN rfl (ZN h1 ?_))
  obtain⟨t',k1,k2⟩:=Hv (body:=VS (λd=>some (f d)) r) (λi (t:Int)=>(t,(i:Int))) (λt=>t) (λpre t=>t=Gw (d::pre) f) r
   (λpre x post t hl ht=>by
    have hg:=XN hl;have hi:=Fx hl;unfold VS;simp only[Kg,hg,Option.bind_some,QV];rw[Qs (by omega) (by omega)];simp only[show(decide ((pre.length:Int) < (r.length:Int)))=true by simpa using hi,if_true];refine⟨_,rfl,?_⟩;rw[<-List.cons_append,Il (by simp),ht])
   (λt _=>by unfold VS;simp) r [] (f d) rfl rfl
  simp only[List.length_nil,Int.natCast_zero] at k2
  exact ZN k2 (by rw[k1])
def Re(l:List Qn):List Int:=l.foldl (λacc d=>if d.From.Number∈acc then acc else acc++[d.From.Number]) []
theorem Ij(l:List Qn)(d:Qn):Re (l++[d])=if d.From.Number∈Re l then Re l else Re l++[d.From.Number]:=by
 unfold Re;rw[List.foldl_append];rfl
theorem Ay(k:Int):∀ks:List Int,Qv (ks.map λx=>(x,true)) k true=(if k∈ks then ks else ks++[k]).map λx=>(x,true)
 | []=>by simp[Qv]
 | x::ks=>by
  simp only[List.map_cons,Qv];by_cases h:k=x
  ·subst h;simp
  ·have hb:(k==x)=false:=by simpa using h
   simp only[hb,Bool.false_eq_true,if_false];rw[Ay k ks];by_cases hm:k∈ks<;>simp[hm,h]
theorem z8(b:QQ)(A L M:Int)(h:b.Draughts.length<=1000):VO (Qf.mk b A L M)=some ((Re b.Draughts).length:Int):=by
 unfold VO
 obtain⟨t',k1,k2⟩:=Hv (body:=Ye (Qf.mk b A L M)) (λi (t:List (Int×Bool))=>(t,(i:Int))) (λt=>t) (λpre t=>t=(Re pre).map λx=>(x,true)) b.Draughts
  (λpre x post t hl ht=>by
   have hg:=XN hl;have hi:=Fx hl;unfold Ye;simp only[Kg,hg,Option.bind_some,QV];rw[Qs (by omega) (by omega)];simp only[show(decide ((pre.length:Int) < (b.Draughts.length:Int)))=true by simpa using hi,if_true];refine⟨_,rfl,?_⟩;rw[ht,Ay,Ij])
  (λt _=>by unfold Ye;simp) b.Draughts [] [] rfl rfl
 simp only[List.length_nil,Int.natCast_zero] at k2
 exact ZN k2 (by rw[k1];simp)
structure O8(b:QQ)(w:Int)(x:Ql):Prop where
 vol:x.Volume=ql b w
 str:x.Strength=kg b w
 age:x.Age=Gw b.Draughts λd=>d.From.Age
 woods:∀i,i < 8->x.Woods i=Gw b.Draughts λd=>d.From.Woods i
 places:∀i,i < 8->x.Places i=Gw b.Draughts λd=>d.From.Places i
 casks:x.Casks=((Re b.Draughts).length:Int)
theorem R2{α:Type}(f:Nat->α)(i:Nat)(x:α):ZI f i x i=x:=by simp[ZI]
theorem Tk{α:Type}{f:Nat->α}{i j:Nat}{x:α}(h:j≠i):ZI f i x j=f j:=by
 have:Nat.beq j i=false:=by
  cases hb:Nat.beq j i with
  | true=>exact absurd (Nat.eq_of_beq_eq_true hb) h
  | false=>rfl
 simp[ZI,this]
theorem Ld{b:QQ}(h:Valid b):∃x,YG (Qf.mk b (Y0 b.Draughts) (Uc b.Draughts) (Vl b.Draughts))=some x/\O8 b b.Water x:=by
 have hl:=h.len;have hne:b.Draughts≠[]:=by intro e;rw[e] at hl;simp at hl
 unfold YG;have e1:=R0 h h.water.1 h.water.2;have e2:=M3 h h.water.1 h.water.2;have e3:=z8 b (Y0 b.Draughts) (Uc b.Draughts) (Vl b.Draughts) (by omega);have e4:Kd b.Draughts (λx=>some (YX x))=some (Gw b.Draughts λd=>d.From.Age):=Ph b.Draughts (λd=>d.From.Age) hne (by omega);generalize hx0:({(Ql.mk (ql b b.Water) (kg b b.Water) 0 (λ_=>0) (λ_=>0) ((Re b.Draughts).length:Int)) with Age:=Gw b.Draughts λd=>d.From.Age}:Ql)=x0
 obtain⟨x1,⟨h1a,h1b⟩,k1⟩:=Xt (body:=Yd (Qf.mk b (Y0 b.Draughts) (Uc b.Draughts) (Vl b.Draughts))) (λi (t:Ql)=>((i:Int),t)) (λt=>t)
  (λn t=>(∀i,i < n->t.Woods i=Gw b.Draughts λd=>d.From.Woods i)/\∃f,t={x0 with Woods:=f}) 8
  (λi t hi ⟨ht,f,hf⟩=>by
   have e5:Kd b.Draughts (λx=>Ka x (i:Int))=some (Gw b.Draughts λd=>d.From.Woods i):=by
    rw[show(λx=>Ka x (i:Int))=λx=>some (x.From.Woods i) from by
     funext x;unfold Ka;rw[HA hi];rfl]
    exact Ph b.Draughts _ hne (by omega)
   refine⟨{t with Woods:=ZI t.Woods i (Gw b.Draughts λd=>d.From.Woods i)},?_,λj hj=> ?_,?_⟩
   ·unfold Yd;simp only[show(decide ((i:Int) < 8))=true by simp;omega,if_true];refine ZN e5 (ZN (HA hi) ?_);simp only[QV];rw[Qs (by omega) (by omega)];simp
   ·show ZI t.Woods i _ j=_;by_cases hji:j=i
    ·subst hji;exact R2 _ _ _
    ·rw[Tk hji];exact ht j (by omega)
   ·exact⟨ZI t.Woods i (Gw b.Draughts λd=>d.From.Woods i),by rw[hf]⟩)
  (λt _=>by unfold Yd;simp) 8 0 x0 rfl ⟨λi hi=>by omega,x0.Woods,rfl⟩
 obtain⟨x2,⟨h2a,f2,h2b⟩,k2⟩:=Xt (body:=Yc (Qf.mk b (Y0 b.Draughts) (Uc b.Draughts) (Vl b.Draughts))) (λi (t:Ql)=>((i:Int),t)) (λt=>t)
  (λn t=>(∀i,i < n->t.Places i=Gw b.Draughts λd=>d.From.Places i)/\∃f,t={x1 with Places:=f}) 8
  (λi t hi ⟨ht,f,hf⟩=>by
   have e5:Kd b.Draughts (λx=>KZ x (i:Int))=some (Gw b.Draughts λd=>d.From.Places i):=by
    rw[show(λx=>KZ x (i:Int))=λx=>some (x.From.Places i) from by
     funext x;unfold KZ;rw[HA hi];rfl]
    exact Ph b.Draughts _ hne (by omega)
   refine⟨{t with Places:=ZI t.Places i (Gw b.Draughts λd=>d.From.Places i)},?_,λj hj=> ?_,?_⟩
   ·unfold Yc;simp only[show(decide ((i:Int) < 8))=true by simp;omega,if_true];refine ZN e5 (ZN (HA hi) ?_);simp only[QV];rw[Qs (by omega) (by omega)];simp
   ·show ZI t.Places i _ j=_;by_cases hji:j=i
    ·subst hji;exact R2 _ _ _
    ·rw[Tk hji];exact ht j (by omega)
   ·exact⟨ZI t.Places i (Gw b.Draughts λd=>d.From.Places i),by rw[hf]⟩)
  (λt _=>by unfold Yc;simp) 8 0 x1 rfl ⟨λi hi=>by omega,x1.Places,rfl⟩
 simp only[Int.natCast_zero] at k1 k2
 obtain⟨f1,h1c⟩:=h1b;refine⟨x2,?_,?_⟩
 ·refine ZN e1 (ZN e2 (ZN e3 (ZN e4 ?_)));simp only[QV];rw[hx0];exact ZN k1 (ZN k2 rfl)
 ·have hw:x2.Woods=x1.Woods:=by rw[h2b]
  refine⟨by rw[h2b,h1c,<-hx0],by rw[h2b,h1c,<-hx0],by rw[h2b,h1c,<-hx0],λi hi=>by rw[hw];exact h1a i hi,h2a,by rw[h2b,h1c,<-hx0]⟩
theorem OE(b:QQ)(hlen:b.Draughts.length<=40):(XT b=false/\VQ b=some (Ql.mk (QB.mk 0 0) (QB.mk 0 0) 0 (λ_=>0) (λ_=>0) 0,1))∨(Valid b/\∃x,VQ b=some (x,0)/\O8 b b.Water x):=by
 obtain⟨x,he,hx⟩:=MK b hlen;unfold VQ;cases hv:XT b with
 | false=>
  refine .inl ⟨rfl,ZN he ?_⟩;rw[hv];rfl
 | true=>
  have h:=(Hz b).1 hv;obtain⟨y,k1,k2⟩:=Ld h;refine .inr ⟨h,y,ZN he ?_,k2⟩;rw[hv,hx hv];simp only[Bool.not_true,Bool.false_eq_true,if_false];exact ZN k1 rfl
end
section
open Go.Dec
def Gp(c:Qp):Bool:=
 if c.Kind==0 then ZD c.Number else if c.Kind==1 then ZD c.Number&&QT c.What 0 7 else if c.Kind==2 then ZD c.Number&&QT c.What 0 7 else
 if c.Kind==7 then JA c.What&&JA c.Number else QT c.Kind 0 7
theorem Ez(c:Qp):Um c=some (Gp c):=by
 unfold Um Gp
 repeat' split
 all_goals rfl
structure yD(c:Qp):Prop where
 kind:0<=c.Kind/\c.Kind<=7
 what:c.Kind=1∨c.Kind=2->0<=c.What/\c.What<=7
 str:c.Kind=7->(0<=c.What/\c.What<=10000)/\0<=c.Number/\c.Number<=10000
theorem yD.of{c:Qp}(h:Gp c=true):yD c:=by
 unfold Gp at h
 simp only[beq_iff_eq,QT,JA] at h
 repeat' split at h
 all_goals simp only[Bool.and_eq_true,decide_eq_true_eq,ge_iff_le,Te] at h
 all_goals exact⟨by omega,λh=>by omega,λh=>by omega⟩
theorem Rg(s:List Qp)(f:Qp->Bool)(hl:s.length<=1000000):JF s (λx=>some (f x))=some (s.any f):=by
 unfold JF VF
 have key:=Hj (body:=JU s (λx=>some (f x))) (λi (_:Unit)=>(i:Int)) (λ_ x=>if f x then 1 else 0) (λi _=>.inr (i:Int)) (λ_=>.inl ()) (λ_ _=>True) s
  (λpre x post t hl ho ht=>by
   have hg:=XN hl;have hi:=Fx hl;unfold JU;simp only[Kg,hg,Option.bind_some];rw[Qs (by omega) (by omega)];simp only[show(decide ((pre.length:Int) < (s.length:Int)))=true by simpa using hi,if_true];cases hx:f x with
   | true=>left;simp
   | false=>right;exact⟨by simp,(),by simp⟩)
  (λt _ _=>by unfold JU;simp) s [] () rfl WC.nil trivial
 simp only[List.length_nil,Int.natCast_zero] at key
 rcases key with⟨p,x,⟨post,e,_,hx⟩,hr⟩ | ⟨ho,t,ht,hr⟩
 ·have hfx:f x=true:=by
   cases h:f x with
   | true=>rfl
   | false=>simp[h] at hx
  have:s.any f=true:=by rw[e,List.any_append,List.any_cons,hfx];simp
  rw[this];refine ZN (ZN hr rfl) ?_;simp
 ·have:s.any f=false:=by
   rw[List.any_eq_false];intro y hy;obtain⟨a,b,e⟩:=List.append_of_mem hy;have:=ho a y b e;intro h;simp[h] at this
  rw[this];exact ZN (ZN hr rfl) (by simp)
def HB(l:List Qp):Bool:=decide ((l.length:Int)<=32)&&l.all Gp
theorem Sw(l:List Qp):Vy l=some (HB l):=by
 unfold Vy HB;by_cases h:(l.length:Int)<=32
 ·have e:(λx=>JS x)=λx=>some (!Gp x):=by
   funext x;unfold JS;rw[Ez];rfl
  simp only[h,decide_true,if_true,e];rw[Rg l _ (by omega)];simp only[Option.bind_some,Bool.true_and,Option.some.injEq];rw[Bool.eq_iff_iff];simp[List.all_eq_true]
 ·simp only[h,decide_false,Bool.false_eq_true,if_false,Option.bind_some,Bool.false_and]
def liesAt(p:Qp->Bool):Nat->List Qp->List Int
 | _,[]=>[]
 | i,c::l=>if p c then liesAt p (i+1) l else(i:Int)::liesAt p (i+1) l
theorem Cc(p:Qp->Bool):∀(l k:List Qp) (i:Nat),liesAt p i (l++k)=liesAt p i l++liesAt p (i+l.length) k
 | [],k,i=>by simp[liesAt]
 | c::l,k,i=>by
  simp only[List.cons_append,liesAt,List.length_cons,Cc p l k (i+1)];rw[show i+1+l.length=i+(l.length+1) by omega];split<;>simp
theorem Pg(p:Qp->Bool):∀(l:List Qp) (i:Nat),(liesAt p i l).length<=l.length
 | [],i=>by simp[liesAt]
 | c::l,i=>by
  have:=Pg p l (i+1);simp only[liesAt];split<;>simp<;>omega
def Gf(b:QQ)(x:Ql)(c:Qp):Bool:=
 if c.Kind=0 then decide (x.Age≥c.Number) else if c.Kind=1 then decide (x.Woods c.What.toNat≥c.Number) else if c.Kind=2 then decide (x.Places c.What.toNat≥c.Number) else if c.Kind=3 then x.Casks==1 else
 if c.Kind=4 then b.Water==0 else if c.Kind=5 then !b.Filtered else if c.Kind=6 then !b.Coloured else decide (x.Strength.Lo≥c.What - c.Number)&&decide (x.Strength.Hi<=c.What+c.Number)
theorem SW{i:Int}{n:Nat}(h0:0<=i)(h1:i < n):YP n i=some i.toNat:=by
 unfold YP;rw[if_pos ⟨h0,h1⟩]
theorem ke(b:QQ)(A L M:Int)(x:Ql)(c:Qp)(h:yD c):((YE (ZA.mk (Qf.mk b A L M) x)).bind λr=>(YP 8 c.Kind).bind λj=>(r j) c)=some (Gf b x c):=by
 have hk:=h.kind;unfold YE;simp only[Option.bind_some];rw[SW (by omega) (by omega)];simp only[Option.bind_some];have hc:c.Kind=0∨c.Kind=1∨c.Kind=2∨c.Kind=3∨c.Kind=4∨c.Kind=5∨c.Kind=6∨c.Kind=7:=by omega
 unfold Gf;rcases hc with e | e | e | e | e | e | e | e
 ·rw[e];rfl
 ·have hw:=h.what (.inl e);rw[e];show Jb c _=_;unfold Jb;rw[SW (by omega) (by omega)];rfl
 ·have hw:=h.what (.inr e);rw[e];show Ja c _=_;unfold Ja;rw[SW (by omega) (by omega)];rfl
 ·rw[e];rfl
 ·rw[e];rfl
 ·rw[e];rfl
 ·rw[e];rfl
 ·have hs:=h.str e;rw[e];show some (YW c _)=_;unfold YW;rw[Qs (by omega) (by omega),Qs (by omega) (by omega)];rfl
theorem jG(b:QQ)(A L M:Int)(x:Ql)(l:List Qp)(hl:l.length<=1000)(h:∀c∈l,yD c):Vg (ZA.mk (Qf.mk b A L M) x) l=some (liesAt (Gf b x) 0 l):=by
 unfold Vg;obtain⟨r,hr⟩:∃r,YE (ZA.mk (Qf.mk b A L M) x)=some r:=⟨_,rfl⟩;refine ZN hr ?_
 obtain⟨t',k1,k2⟩:=Hv (body:=Yx l r) (λi (t:List Int)=>(t,(i:Int))) (λt=>t) (λpre t=>t=liesAt (Gf b x) 0 pre) l
  (λpre c post t hl' ht=>by
   have hg:=XN hl';have hi:=Fx hl';have ht' :=ke b A L M x c (h c (List.mem_of_getElem? hg));rw[hr] at ht'
   simp only[Option.bind_some] at ht'
   have hk:=(h c (List.mem_of_getElem? hg)).kind;rw[SW (by omega) (by omega)] at ht'
   simp only[Option.bind_some] at ht'
   have hlen:=Pg (Gf b x) pre 0;unfold Yx;simp only[Kg,hg,Option.bind_some];rw[Qs (by omega) (by omega),SW (by omega) (by omega)];simp only[show(decide ((pre.length:Int) < (l.length:Int)))=true by simpa using hi,if_true,Option.bind_some,ht'];rw[Cc];simp only[liesAt,Nat.zero_add];cases hp:Gf b x c with
   | true=>exact⟨t,by simp,by simpa using ht⟩
   | false=>
    refine⟨t++[(pre.length:Int)],?_,by rw[ht];simp⟩;simp only[Bool.not_false,if_true];rw[C8 (by rw[ht];simp only[List.length_cons,List.length_nil];omega)];simp)
  (λt _=>by unfold Yx;simp) l [] [] rfl rfl
 simp only[List.length_nil,Int.natCast_zero] at k2
 exact ZN k2 (by rw[k1])
theorem E2(b:QQ)(l:List Qp)(hb:b.Draughts.length<=40)(hl:l.length<=1000):
  ((XT b&&HB l)=false/\Vz b l=some ([],1))∨(Valid b/\HB l=true/\(∀c∈l,yD c)/\∃x,O8 b b.Water x/\VQ b=some (x,0)/\Vz b l=some (liesAt (Gf b x) 0 l,0)):=by
 obtain⟨x,he,hx⟩:=MK b hb;unfold Vz XX VQ;cases hv:XT b with
 | false=>
  refine .inl ⟨rfl,?_⟩;rw[he,hv];rfl
 | true=>
  cases hc:HB l with
  | false=>
   refine .inl ⟨rfl,?_⟩;rw[he,hv,Sw,hc];rfl
  | true=>
   have h:=(Hz b).1 hv;obtain⟨y,k1,k2⟩:=Ld h
   have hall:∀c∈l,yD c:=by
    simp only[HB,Bool.and_eq_true,List.all_eq_true] at hc
    exact λc hcl=>yD.of (hc.2 c hcl)
   refine .inr ⟨h,rfl,hall,y,k2,?_,?_⟩
   ·refine ZN he ?_;rw[hv,hx hv];simp only[Bool.not_true,Bool.false_eq_true,if_false];exact ZN k1 rfl
   ·rw[he,hv,Sw,hc,hx hv];simp only[Option.bind_some,Bool.not_true,Bool.false_eq_true,if_false,k1];exact ZN (jG b _ _ _ y l hl hall) rfl
end
end Go.Proofs.YtogaibncbkhjlaaGreatDoor.Bo
namespace Go.Proofs.YtogaibncbkhjlaaGreatDoor
section
open Go.Dec
def qY(c:UInt8):Bool:=decide (48<=c.toNat)&&decide (c.toNat<=57)
def FC(s:List UInt8):Nat:=s.foldl (λn c=>10*n+(c.toNat - 48)) 0
def PX(s:List UInt8):Bool:= !(s==[])&&decide (s.length<=13)&&(!(s.head? ==some 48)||s==[48])&&s.all qY
def jE(s:List UInt8):Out Qm Int:=if PX s then .ok (FC s:Int) else .pan ⟨8⟩
theorem R1(s:List UInt8)(c:UInt8):FC (s++[c])=10*FC s+(c.toNat - 48):=by simp[FC]
theorem ka(s:List UInt8)(h:s.all qY=true):FC s < 10^s.length:=by
 induction s using D4 with
 | h0=>simp[FC]
 | hs l x ih=>
  rw[List.all_append,Bool.and_eq_true] at h
  have h1:=ih h.1
  have h2:x.toNat<=57:=by
   have h2:=h.2;simp only[List.all_cons,List.all_nil,Bool.and_true,qY,Bool.and_eq_true,decide_eq_true_eq] at h2
   exact h2.2
  rw[R1,List.length_append,List.length_singleton,Nat.pow_succ];omega
theorem kb{s:List UInt8}(h:s.all qY=true)(hl:s.length<=13):FC s < 10000000000000:=
 Nat.lt_of_lt_of_le (ka s h) (by
  have:=Nat.pow_le_pow_right (show 0 < 10 by omega) hl;omega)
theorem uY(n:Int)(h0:0<=n)(h1:n<=255):IntKind.u8.wrap n=n:=by
 unfold IntKind.wrap;have:((2:Int)^IntKind.u8.bits)=256:=by decide
 simp[IntKind.bits,IntKind.signed] at*
 omega
theorem Ax(s:List UInt8)(hs:s.length<=13):∀(post pre:List UInt8),s=pre++post->pre.all qY=true->
  ZV (VX s) ((FC pre:Int),(pre.length:Int))=some (if post.all qY then .inl (FC s:Int) else .inr ⟨8⟩)
 | [],pre,e,hp=>by
  rw[List.append_nil] at e;subst e
  rw[ZR];unfold VX;simp[Uz]
 | c::post,pre,e,hp=>by
  have hi:pre.length < s.length:=by rw[e];simp
  have hget:(Uz s)[pre.length]? =some (c.toNat:Int):=by rw[e];simp[Uz]
  have hv:=kb hp (by omega);have h3:c.toNat < 256:=c.toNat_lt
  have hbody:VX s ((FC pre:Int),(pre.length:Int))=some (if qY c then .next ((FC (pre++[c]):Int),((pre++[c]).length:Int)) else .done (.inr ⟨8⟩)):=by
   unfold VX;simp only[Kg,hget,Option.bind_some,QV,ZZ,show(decide ((pre.length:Int) < ((Uz s).length:Int)))=true by simpa[Uz] using hi,if_true];by_cases hd:qY c=true
   ·have hd' :=hd;simp only[qY,Bool.and_eq_true,decide_eq_true_eq] at hd'
    have ed:(!(decide ((48:Int)<=(c.toNat:Int))&&decide ((c.toNat:Int)<=57)))=false:=by simp;omega
    simp only[ed,Bool.false_eq_true,if_false,Qy];rw[uY _ (by omega) (by omega),Qs (n:=10*(FC pre:Int)) (by omega) (by omega),Qs (n:=(c.toNat:Int) - 48) (by omega) (by omega),Qs (by omega) (by omega),Qs (by omega) (by omega)];have e1:10*(FC pre:Int)+((c.toNat:Int) - 48)=(FC (pre++[c]):Int):=by rw[R1];omega
    have e2:(pre.length:Int)+1=((pre++[c]).length:Int):=by simp
    rw[e1,e2,hd];rfl
   ·have ed:(!(decide ((48:Int)<=(c.toNat:Int))&&decide ((c.toNat:Int)<=57)))=true:=by
     simp only[qY,Bool.and_eq_true,decide_eq_true_eq] at hd
     simp;omega
    simp only[ed,if_true,Qy];simp[hd]
  rw[ZR,hbody];cases hd:qY c with
  | false=>simp[hd]
  | true=>
   have ih:=Ax s hs post (pre++[c]) (by rw[e];simp) (by rw[List.all_append,hp];simp[hd]);simp only[if_true,ih];simp[hd]
theorem Aw(s:List UInt8):U4 s=some (jE s):=by
 unfold U4 jE PX;cases s with
 | nil=>rfl
 | cons c l=>
  by_cases hl:(c::l).length<=13
  ·have e1:((!((c::l)==([]:List UInt8)))&&(decide (((c::l).length:Int)<=13)))=true:=by simp at hl ⊢;omega
   simp only[e1,if_true];have e2:Zc (c::l) 0=some c:=rfl;simp only[e2,Option.bind_some]
   have e3:(((c.toNat:Int) != 48)||((c::l)==([48]:List UInt8)))=(!((c::l).head? ==some 48)||(c::l)==[48]):=by
    congr 1;rw[Bool.eq_iff_iff];simp only[List.head?_cons,bne_iff_ne,ne_eq,Bool.not_eq_true',beq_eq_false_iff_ne,Option.some.injEq];constructor
    ·intro h hc;subst hc;exact h rfl
    ·intro h hc;exact h (UInt8.toNat_inj.1 (by rw[show(48:UInt8).toNat=48 from rfl];omega))
   rw[e3];have e4:(!((c::l)==([]:List UInt8))&&decide ((c::l).length<=13))=true:=by simp at hl ⊢;omega
   simp only[e4,Bool.true_and];have ea:VT ([]:List UInt8) (c::l)=some (c::l):=by unfold VT;rw[if_pos (by simp at hl ⊢;omega)];rfl
   cases hz:(!((c::l).head? ==some 48)||(c::l)==[48]) with
   | false=>simp[ZZ,Qy]
   | true=>
    have hk:=Ax (c::l) hl (c::l) [] rfl rfl;simp only[List.length_nil,Int.natCast_zero,show(FC []:Int)=0 from rfl] at hk
    simp only[ZZ,Qy,Bool.not_true,Bool.false_eq_true,if_false,ea,Option.bind_some,hk,Bool.true_and];cases(c::l).all qY<;>rfl
  ·have e1:((!((c::l)==([]:List UInt8)))&&(decide (((c::l).length:Int)<=13)))=false:=by simp at hl ⊢;omega
   have e4:(!((c::l)==([]:List UInt8))&&decide ((c::l).length<=13))=false:=by simp at hl ⊢;omega
   simp only[e1,e4,Bool.false_eq_true,if_false,Option.bind_some,ZZ,Bool.not_false,if_true,Qy,Bool.false_and]
def WK:List UInt8->List (List UInt8)
 | []=>[[]]
 | c::l=>if c==32 then[]::WK l else match WK l with
  | []=>[[c]]
  | p::ps=>(c::p)::ps
theorem Np:∀(s:List UInt8),(Go.Lib.index s [32]= -1/\WK s=[s])∨(∃i:Nat,Go.Lib.index s [32]=i/\i < s.length/\WK s=s.take i::WK (s.drop (i+1)))
 | []=>.inl ⟨rfl,rfl⟩
 | c::l=>by
  by_cases hc:c=32
  ·subst hc;exact .inr ⟨0,rfl,by simp,by simp[WK]⟩
  ·have h0:([32]:List UInt8).isPrefixOf (c::l)=false:=by
    simp only[List.isPrefixOf,Bool.and_true,beq_eq_false_iff_ne,ne_eq];exact λh=>hc h.symm
   have hb:(c==32)=false:=by simpa using hc
   rcases Np l with⟨h1,h2⟩ | ⟨i,h1,h2,h3⟩
   ·refine .inl ⟨?_,?_⟩
    ·unfold Go.Lib.index;rw[h0,h1];rfl
    ·simp[WK,hb,h2]
   ·refine .inr ⟨i+1,?_,by simpa using h2,?_⟩
    ·unfold Go.Lib.index;rw[h0,h1];have:((i:Int)== -1)=false:=by rw[beq_eq_false_iff_ne];omega
     simp[this]
    ·simp[WK,hb,h3]
def NG(s:List UInt8):Out Qm (List UInt8×List Int):=match WK s with
 | []=>.pan ⟨8⟩
 | w::ps=>if ps.all PX then .ok (w,ps.map λp=>(FC p:Int)) else .pan ⟨8⟩
theorem NP(s:List UInt8)(h:s.length<=1000000):(WK s=[s]/\JQ ⟨s⟩ ()=some (s,false,⟨[]⟩))∨(∃p r,p.length+r.length < s.length/\WK s=p::WK r/\JQ ⟨s⟩ ()=some (p,true,⟨r⟩)):=by
 unfold JQ X1;simp only[show s.length < 4294967281 by omega,if_true,Option.bind_some,Go.Lib.cut];rcases Np s with⟨h1,h2⟩ | ⟨i,h1,h2,h3⟩
 ·exact .inl ⟨h2,by rw[h1];rfl⟩
 ·refine .inr ⟨s.take i,s.drop (i+1),by simp;omega,h3,?_⟩;rw[h1];simp
theorem NF:∀(k:Nat) (s:List UInt8) (acc:List Int),s.length<=k->s.length<=1000000->acc.length+s.length<=1000000->
  ZV (KC ()) (acc,true,⟨s⟩)=some (if(WK s).all PX then .inl (acc++(WK s).map (λp=>(FC p:Int)),⟨[]⟩) else .inr ⟨8⟩)
 | k,s,acc,hk,hl,ha=>by
  have hap:∀x:Int,VT acc [x]=some (acc++[x]):=λx=>by unfold VT;rw[if_pos (by simp;omega)]
  have hend:∀a:List Int,ZV (KC ()) (a,false,⟨[]⟩)=some (.inl (a,⟨[]⟩)):=λa=>by rw[ZR];rfl
  rcases NP s hl with⟨h1,h2⟩ | ⟨p,r,h0,h1,h2⟩
  ·have hbody:KC () (acc,true,⟨s⟩)=some (if PX s then .next (acc++[(FC s:Int)],false,⟨[]⟩) else .done (.inr ⟨8⟩)):=by
    unfold KC;simp only[if_true,h2,Option.bind_some,Aw,jE];cases hn:PX s<;>simp[Qy,hap]
   rw[ZR,hbody,h1];cases hn:PX s<;>simp[hn,hend]
  ·have hbody:KC () (acc,true,⟨s⟩)=some (if PX p then .next (acc++[(FC p:Int)],true,⟨r⟩) else .done (.inr ⟨8⟩)):=by
    unfold KC;simp only[if_true,h2,Option.bind_some,Aw,jE];cases hn:PX p<;>simp[Qy,hap]
   rw[ZR,hbody,h1];cases hn:PX p with
   | false=>simp[hn]
   | true=>
    cases k with
    | zero=>omega
    | succ k=>
     simp only[if_true,NF k r (acc++[(FC p:Int)]) (by omega) (by omega) (by simp;omega)];simp[hn]
theorem IX(s:List UInt8)(h:s.length<=100000):VM ⟨s⟩ ()=some (match NG s with | .ok r=>.ok (r.1,r.2,⟨[]⟩) | .pan e=>.pan e):=by
 unfold VM NG;rcases NP s (by omega) with⟨h1,h2⟩ | ⟨p,r,h0,h1,h2⟩
 ·simp only[h2,Option.bind_some,h1];rw[ZR];unfold KC;simp
 ·simp only[h2,Option.bind_some,h1];rw[NF r.length r [] (Nat.le_refl _) (by omega) (by simp;omega)];cases hn:(WK r).all PX<;>simp
def E7:Nat->Nat->List UInt8
 | 0,_=>[]
 | k+1,u=>if u < 10 then[UInt8.ofNat (48+u)] else E7 k (u / 10)++[UInt8.ofNat (48+u%10)]
theorem Md:∀(k u:Nat),u < 10^k->0 < k->E7 k u=Go.Lib.decDigits u
 | 0,u,_,h=>absurd h (Nat.lt_irrefl 0)
 | k+1,u,h,_=>by
  rw[Go.Lib.decDigits];unfold E7;by_cases h1:u < 10
  ·rw[if_pos h1,dif_pos h1]
  ·rw[if_neg h1,dif_neg h1];rw[Nat.pow_succ] at h
   cases k with
   | zero=>omega
   | succ k=>rw[Md (k+1) (u / 10) (by omega) (by omega)]
def Nf(n:Int):List UInt8:=if n < 0 then 45::E7 20 n.natAbs else E7 20 n.toNat
def yR(n:Int):Bool:=decide (-9223372036854775808<=n)&&decide (n<=9223372036854775807)
theorem Iu{n:Int}(h:yR n=true):WW n=some (Nf n):=by
 simp only[yR,Bool.and_eq_true,decide_eq_true_eq] at h
 unfold WW Nf Go.Lib.itoa;rw[if_pos h];congr 1;split
 ·rw[Md _ _ (by omega) (by omega)]
 ·rw[Md _ _ (by omega) (by omega)]
theorem Xw{s t:List UInt8}(h:s.length+t.length<=4294967296):BR s t=some (s++t):=by unfold BR;rw[if_pos h]
theorem Py:∀(k u:Nat),(E7 k u).length<=k
 | 0,_=>Nat.le_refl _
 | k+1,u=>by
  unfold E7;split
  ·simp
  ·have:=Py k (u / 10);simp;omega
theorem Nd(n:Int):(Nf n).length<=21:=by
 unfold Nf;split
 ·have:=Py 20 n.natAbs;simp;omega
 ·have:=Py 20 n.toNat;omega
def Xm(word:List UInt8)(l:List Int):List UInt8:=word++l.flatMap λn=>32::Nf n
theorem Am(w:List UInt8)(l:List Int)(x:Int):Xm w (l++[x])=Xm w l++32::Nf x:=by simp[Xm]
theorem EI(w:List UInt8)(l:List Int):(Xm w l).length<=w.length+22*l.length:=by
 induction l using D4 with
 | h0=>simp[Xm]
 | hs l x ih=>have:=Nd x;rw[Am];simp;omega
theorem PD{w:List UInt8}{l:List Int}(hw:w.length<=1000)(hl:l.length<=100000)(h:l.all yR=true):JP w l=some (Xm w l):=by
 unfold JP;rw[Xw (by simp;omega)]
 obtain⟨t,ht,hr⟩:=Hv (body:=Wj l) (λi (t:List UInt8)=>((i:Int),t)) (λt=>t) (λpre t=>t=Xm w pre) l
  (λpre x post t e ht=>by
   have hg:=XN e;have hi:=Fx e;have hx:yR x=true:=by rw[e,List.all_append,List.all_cons] at h;simp only[Bool.and_eq_true] at h;exact h.2.1
   have h1:=EI w pre;have h2:=Nd x;subst ht;refine⟨Xm w (pre++[x]),?_,rfl⟩;unfold Wj;simp only[Kg,hg,Option.bind_some,show(decide ((pre.length:Int) < (l.length:Int)))=true by simpa using hi,if_true];rw[Xw (by simp;omega),Option.bind_some,Iu hx,Option.bind_some,Xw (by simp;omega),Option.bind_some,Qs (by omega) (by omega),Am];simp)
  (λt _=>by unfold Wj;simp) l [] (Xm w []) rfl rfl
 simp only[List.length_nil,Int.natCast_zero] at hr
 have e0:Xm w []=w:=by simp[Xm]
 rw[e0] at hr
 simp only[List.nil_append,Option.bind_some];exact ZN hr (by rw[ht])
end
section
open Go.Dec
def Le{α:Type}(p m:Option α):Prop:=∀x,p=some x->m=some x
theorem Le.rfl{α:Type}{p:Option α}:Le p p:=λ_ h=>h
theorem Le.of{α:Type}{p m:Option α}(h:m=p):Le p m:=λ_ e=>h.trans e
theorem Le.none{α:Type}{m:Option α}:Le .none m:=λ_ e=>by cases e
theorem Le.bind{α β:Type}{p m:Option α}{f g:α->Option β}(h:Le p m)(k:∀x,Le (f x) (g x)):Le (p.bind f) (m.bind g):=by
 intro y e;cases hp:p with
 | none=>rw[hp] at e;cases e
 | some x=>rw[hp] at e;rw[h x hp];exact k x y e
theorem Le.uu{α β:Type}{p:Option β}{m:Option α}{g:α->Option β}(x:α)(h:m=some x)(k:Le p (g x)):Le p (m.bind g):=by rw[h];exact k
theorem Le.ite{α:Type}{c:Bool}{a b a' b' :Option α}(h:Le a a')(h' :Le b b'):Le (if c then a else b) (if c then a' else b'):=by cases c<;>assumption
theorem Le.guard{α:Type}{c:Prop}[Decidable c]{a b:Option α}(h:c->Le a b):Le (if c then a else .none) b:=by
 by_cases hc:c
 ·rw[if_pos hc];exact h hc
 ·rw[if_neg hc];exact Le.none
abbrev RO(α:Type):=Option (Out Qm α)
abbrev RL:=RO (List UInt8×QA)
def WN{β:Type}(b:Bool)(e:Int)(k:RO β):RO β:=if b then k else some (.pan ⟨e⟩)
def GP{α β:Type}(x:RO α)(k:α->RO β):RO β:=Qy x (λq=>some (.pan q)) k
theorem B0(b:Bool)(e:Int):ZZ b e=some (if b then .ok () else .pan ⟨e⟩):=by cases b<;>rfl
theorem Sj(e:Int):KK e=some (if e==0 then .ok () else .pan ⟨e⟩):=by
 unfold KK;rw[B0];cases e==0<;>rfl
theorem Le.gL{β:Type}{b:Bool}{e:Int}{p:RO β}{g:Unit->RO β}(h:Le p (g ())):Le (WN b e p) (Qy (ZZ b e) (λq=>some (.pan q)) g):=by
 rw[B0];cases b
 ·exact Le.rfl
 ·exact h
theorem Le.check{β:Type}{e:Int}{p:RO β}{g:Unit->RO β}(h:Le p (g ())):Le (WN (e==0) e p) (Qy (KK e) (λq=>some (.pan q)) g):=by
 rw[Sj];unfold WN;cases e==0
 ·exact Le.rfl
 ·exact h
theorem Le.gW{α β:Type}{p m:RO α}{f g:α->RO β}(h:Le p m)(k:∀x,Le (f x) (g x)):Le (GP p f) (Qy m (λq=>some (.pan q)) g):=by
 intro y e;unfold GP at e
 cases hp:p with
 | none=>rw[hp] at e;cases e
 | some x=>
  rw[hp] at e;rw[h x hp]
  cases x with
  | ok x=>exact k x y e
  | pan q=>exact e
theorem Gt{α:Type}{l k:List α}(h:l.length+k.length<=4000000):VT l k=some (l++k):=by unfold VT;rw[if_pos (by omega)]
def Sm(L:QA)(x:QG):RO QA:=
 if L.casks.length<=1000000 then WN ((Ca.O5 (L.casks++[{x with Day:=L.day}]) L.day).2.2==0) (Ca.O5 (L.casks++[{x with Day:=L.day}]) L.day).2.2 (some (.ok {L with casks:=L.casks++[{x with Day:=L.day}]})) else none
theorem Hm(L:QA)(x:QG):Le (Sm L x) (ZT L () x):=by
 refine Le.guard λh=> ?_;unfold ZT;simp only[QV];refine Le.uu _ (Gt (by simp;omega)) (Le.uu _ (Ca.CH _ _) (Le.check Le.rfl))
def atR(L:QA)(c:Int):ZO×Int:=Ca.qo L.casks c L.day
theorem Nu(L:QA)(c:Int):KP L () c=some (atR L c):=by
 unfold KP;rw[Ca.jq];rfl
def zI(r:Q8)(l:List QS)(day:Int):ZP×Int×Int:=Ex.yI (Ex.Ws r l day)
def Sf(L:QA)(x:QS):RO QA:=match L.rules with
 | none=>none
 | some r=>if r.Rates.length<=1000000/\L.duties.length < 1000 then WN ((zI r (L.duties++[{x with Day:=L.day}]) L.day).2.2==0) (zI r (L.duties++[{x with Day:=L.day}]) L.day).2.2 (some (.ok {L with duties:=L.duties++[{x with Day:=L.day}]})) else none
theorem Se(L:QA)(x:QS):Le (Sf L x) (KL L () x):=by
 unfold Sf;cases hr:L.rules with
 | none=>exact Le.none
 | some r=>
  refine Le.guard λh=> ?_;unfold KL;simp only[QV];refine Le.uu _ (Gt (by simp;omega)) ?_;rw[hr];simp only[Option.bind_some];rw[Ex.CH h.1 (.inl (by simp;omega))];exact Le.check Le.rfl
def ky(l:List QJ):List Int:=l.flatMap λe=>[e.First,e.Last+1]
open Bo in
def V1(P:Int->Bool)(pre:List QJ)(x:QJ):Bool:=(x.First::ky pre).all λn=> !decide (has x n)||P n
theorem zX(n:Int):∀(l:List Int) (a:Int),a<=n->∃m,m<=n/\a<=m/\(m=a∨m∈l)/\∀p∈l,p<=n->p<=m
 | [],a,h=>⟨a,h,Int.le_refl _,.inl rfl,by simp⟩
 | p::l,a,h=>by
  by_cases hp:p<=n/\a<=p
  ·obtain⟨m,h1,h2,h3,h4⟩:=zX n l p hp.1;refine⟨m,h1,by omega,?_,?_⟩
   ·rcases h3 with h3 | h3
    ·exact .inr (by simp[h3])
    ·exact .inr (by simp[h3])
   ·intro q hq hqn;rcases List.mem_cons.1 hq with rfl | hq
    ·exact h2
    ·exact h4 q hq hqn
  ·obtain⟨m,h1,h2,h3,h4⟩:=zX n l a h;refine⟨m,h1,h2,?_,?_⟩
   ·rcases h3 with h3 | h3
    ·exact .inl h3
    ·exact .inr (by simp[h3])
   ·intro q hq hqn;rcases List.mem_cons.1 hq with rfl | hq
    ·omega
    ·exact h4 q hq hqn
open Bo in
theorem I4{n m:Int}:∀(l:List QJ),(∀e∈l,has e n↔has e m)->cur l n=cur l m:=by
 intro l
 induction l using D4 with
 | h0=>intro _;rfl
 | hs l x ih=>
  intro h;rw[FY,FY,ih λe he=>h e (by simp[he])];have:=h x (by simp);by_cases hx:has x n
  ·rw[if_pos hx,if_pos (this.1 hx)]
  ·rw[if_neg hx,if_neg λk=>hx (this.2 k)]
open Bo in
theorem O4{P:Int->Bool}{pre:List QJ}{x:QJ}(hP:∀n m,cur pre n=cur pre m->P n=P m):V1 P pre x=true↔∀n,has x n->P n=true:=by
 unfold V1;rw[List.all_eq_true];constructor
 ·intro h n hn;obtain⟨m,h1,h2,h3,h4⟩:=zX n (ky pre) x.First hn.1;have hm:=h m (by rcases h3 with h3 | h3<;>simp[h3]);have hxm:has x m:=⟨h2,Int.le_trans h1 hn.2⟩
  have e:cur pre n=cur pre m:=I4 pre λe he=>by
   have p1:e.First<=n->e.First<=m:=h4 e.First (by unfold ky;simp only[List.mem_flatMap];exact⟨e,he,by simp⟩);have p2:e.Last+1<=n->e.Last+1<=m:=h4 (e.Last+1) (by unfold ky;simp only[List.mem_flatMap];exact⟨e,he,by simp⟩);unfold has;omega
  rw[hP n m e];simpa[hxm] using hm
 ·intro h n _;by_cases hn:has x n
  ·simp[hn,h n hn]
  ·simp[hn]
open Bo in
def Lh(l:List QJ)(n:Int):Bool:=match cur l n with | none=>false | some e=>e.Kind==0
open Bo in
theorem Ix{l:List QJ}{n:Int}:Lh l n=true↔hand l n:=by
 unfold Lh hand;cases cur l n<;>simp
open Bo in
def jS(pre:List QJ)(x:QJ):Int:=
 if !jD x then 1 else if x.Kind==0 then(if V1 (λn=>(cur pre n).isNone) pre x then 0 else 5) else if V1 (Lh pre) pre x then 0 else 4
open Bo in
theorem MY(pre:List QJ)(x:QJ):Vh pre x=jS pre x:=by
 unfold Vh jS;by_cases h1:jD x=false
 ·rw[if_pos h1];simp[h1]
 rw[if_neg h1];have h1' :jD x=true:=by simpa using h1
 simp only[h1',Bool.not_true,Bool.false_eq_true,if_false];by_cases hk:x.Kind=0
 ·have a1:=O4 (P:=λn=>(cur pre n).isNone) (pre:=pre) (x:=x) λn m e=>by rw[e]
  simp only[Option.isNone_iff_eq_none] at a1
  have hkb:(x.Kind==0)=true:=by simpa using hk
  rw[hkb,if_pos rfl,if_neg (c:=x.Kind≠0/\_) λh=>h.1 hk];by_cases ha:x.Kind=0/\∃n,has x n/\cur pre n≠none
  ·rw[if_pos ha,if_neg];intro h;obtain⟨_,n,h2,h3⟩:=ha;exact h3 (a1.1 h n h2)
  ·rw[if_neg ha,if_pos];exact a1.2 λn hn=>Classical.byContradiction λh=>ha ⟨hk,n,hn,h⟩
 ·have a1:=O4 (P:=Lh pre) (pre:=pre) (x:=x) λn m e=>by unfold Lh;rw[e]
  simp only[Ix] at a1
  have hkb:(x.Kind==0)=false:=by simpa using hk
  rw[hkb,if_neg (c:=x.Kind=0/\_) λh=>hk h.1];simp only[Bool.false_eq_true,if_false];by_cases ha:x.Kind≠0/\∃n,has x n/\¬hand pre n
  ·rw[if_pos ha,if_neg];intro h;obtain⟨_,n,h2,h3⟩:=ha;exact h3 (a1.1 h n h2)
  ·rw[if_neg ha,if_pos];exact a1.2 λn hn=>Classical.byContradiction λh=>ha ⟨hk,n,hn,h⟩
def E3:List QJ->List QJ->Int
 | _,[]=>0
 | pre,x::l=>if jS pre x==0 then E3 (pre++[x]) l else jS pre x
open Bo in
theorem zn{l p:List QJ}{x:QJ}(h:Bs Vh l p x):∀(r q:List QJ),p=q++r->WC Vh p->E3 q (l.drop q.length)=Vh p x:=by
 obtain⟨post,rfl,_,hx⟩:=h;intro r
 induction r with
 | nil=>
  intro q e _;rw[List.append_nil] at e
  subst e;have e1:(p++x::post).drop p.length=x::post:=by simp
  rw[e1];unfold E3;rw[<-MY];have:(Vh p x==0)=false:=by simpa using hx
  rw[this];rfl
 | cons y r ih=>
  intro q e ho
  have e1:(p++x::post).drop q.length=y::(p++x::post).drop (q++[y]).length:=by
   rw[e];simp
  rw[e1];unfold E3;rw[<-MY,ho q y r e];exact ih (q++[y]) (by rw[e];simp) ho
open Bo in
theorem Ow{l:List QJ}(h:WC Vh l):∀(r q:List QJ),l=q++r->E3 q r=0
 | [],q,_=>rfl
 | y::r,q,e=>by
  unfold E3;rw[<-MY,h q y r e];exact Ow h r (q++[y]) (by rw[e];simp)
def Fq(l:List QJ):Int:=E3 [] l
open Bo in
theorem Tv(l:List QJ)(h:l.length<=256):∃b i,J0 l=some (b,i,Fq l)/\(Fq l=0->WC Vh l):=by
 rcases Ap l h with⟨p,x,hb,hr⟩ | ⟨ho,hd,_,_,_,hr⟩
 ·have ho:WC Vh p:=by obtain⟨post,e,ho,_⟩:=hb;exact ho
  have e:Fq l=Vh p x:=zn hb p [] rfl ho;rw[e];exact⟨_,_,hr,λh0=>by obtain⟨post,_,_,hx⟩:=hb;exact absurd h0 hx⟩
 ·have e:Fq l=0:=Ow ho l [] rfl;rw[e];exact⟨_,_,hr,λ_=>ho⟩
def ER(L:QA)(x:QJ):RO QA:=
 if L.stamps.length < 256 then WN (Fq (L.stamps++[x])==0) (Fq (L.stamps++[x])) (some (.ok {L with stamps:=L.stamps++[x]})) else none
theorem Tw(L:QA)(x:QJ):Le (ER L x) (Ku L () x):=by
 refine Le.guard λh=> ?_;unfold Ku;refine Le.uu _ (Gt (by simp;omega)) ?_;obtain⟨b,i,hr,_⟩:=Tv (L.stamps++[x]) (by simp;omega);refine Le.uu _ hr (Le.check Le.rfl)
end
section
open Go.Dec
abbrev uX:List UInt8:=[111,107]
def qX(L:QA):RL:=some (.ok (uX,L))
def vA(L:QA):List Int->RL
 | [d]=>WN (decide (d<=65536)) 2 (WN (decide (d≥L.day)) 7 (qX {L with day:=d}))
 | _=>none
theorem yX(L:QA)(n:List Int):Le (vA L n) (KT L () n):=by
 rcases n with _ | ⟨d,_ | ⟨_,_⟩⟩
 ·exact Le.none
 ·unfold KT;exact Le.uu d rfl (Le.gL (Le.uu d rfl (Le.gL (Le.uu d rfl Le.rfl))))
 ·exact Le.none
def BB:List Int->Option (List (Int×Int))
 | []=>some []
 | [_]=>none
 | a::b::l=>(BB l).map ((a,b):: ·)
def EN:List Int->List (List Int)
 | []=>[]
 | [a]=>[[a]]
 | a::b::l=>[a,b]::EN l
theorem P3(l:List Int):∀(d a:Nat),l.length<=a+2*d->BQ 2 l d a=EN (l.drop a)
 | 0,a,h=>by
  have:l.drop a=[]:=List.drop_eq_nil_of_le (by omega);rw[this];rfl
 | d+1,a,h=>by
  unfold BQ;have ih:=P3 l d (a+2) (by omega);by_cases ha:a < l.length
  ·rw[if_pos ha,ih];have e:l.drop (a+2)=(l.drop a).drop 2:=by rw[List.drop_drop]
   rw[e];rcases hd:l.drop a with _ | ⟨x,_ | ⟨y,r⟩⟩
   ·have:(l.drop a).length=l.length - a:=List.length_drop;rw[hd] at this
    simp at this
    omega
   ·rfl
   ·rfl
  ·rw[if_neg ha];have:l.drop a=[]:=List.drop_eq_nil_of_le (by omega);rw[this];rfl
theorem P4(l:List Int)(h:l.length<=1000000):Y7 l 2=some (EN l):=by
 unfold Y7 UR;simp only[show decide ((2:Int) < 1)=false by decide,Bool.false_eq_true,if_false,Option.bind_some];rw[if_pos (by omega)];have:=P3 l l.length 0 (by omega);rw[show((2:Int).toNat)=2 from rfl,this];rfl
theorem Cn:∀{l:List Int} {ps:List (Int×Int)},BB l=some ps->EN l=ps.map (λp=>[p.1,p.2])/\2*ps.length=l.length
 | [],ps,h=>by simp only[BB,Option.some.injEq] at h;subst h;exact⟨rfl,rfl⟩
 | [_],ps,h=>by cases h
 | a::b::l,ps,h=>by
  simp only[BB,Option.map_eq_some_iff] at h
  obtain⟨qs,hq,rfl⟩:=h;obtain⟨h1,h2⟩:=Cn hq;exact⟨by simp[EN,h1],by simp;omega⟩
theorem PF(r:Q8):∀(ps:List (Int×Int)) (acc:List Zx),acc.length+ps.length<=1000000->
  YI JH (ps.map λp=>[p.1,p.2]) {r with Rates:=acc}=some {r with Rates:=acc++ps.map λp=>⟨p.1,p.2⟩}
 | [],acc,_=>by simp[YI]
 | p::ps,acc,h=>by
  simp only[List.map_cons,YI]
  have hb:JH [p.1,p.2] {r with Rates:=acc}=some {r with Rates:=acc++[⟨p.1,p.2⟩]}:=by
   unfold JH;have e0:Zc [p.1,p.2] 0=some p.1:=rfl;have e1:Zc [p.1,p.2] 1=some p.2:=rfl;simp only[e0,e1,Option.bind_some];rw[Gt (by simp at h ⊢;omega)];rfl
  rw[hb,Option.bind_some,PF r ps (acc++[(⟨p.1,p.2⟩:Zx)]) (by simp at h ⊢;omega)];simp
def Bw(a b c:Int)(ps:List (Int×Int)):Q8:=⟨ps.map λp=>⟨p.1,p.2⟩,a,b,c⟩
def zD(L:QA):List Int->RL
 | a::b::c::ns=>if ns.length<=1000000 then(BB ns).bind λps=>WN L.rules.isNone 5 (WN (Ex.H7 (Bw a b c ps)) 1 (qX {L with rules:=some (Bw a b c ps)})) else none
 | _=>none
theorem zB(L:QA)(n:List Int):Le (zD L n) (Z5 L () n):=by
 rcases n with _ | ⟨a,_ | ⟨b,_ | ⟨c,ns⟩⟩⟩
 ·exact Le.none
 ·exact Le.none
 ·exact Le.none
 refine Le.guard λh=> ?_;cases hp:BB ns with
 | none=>exact Le.none
 | some ps=>
  obtain⟨h1,h2⟩:=Cn hp;unfold Z5;simp only[Option.bind_some];refine Le.gL (Le.uu a rfl (Le.uu b rfl (Le.uu c rfl (Le.uu ns ?_ (Le.uu (EN ns) (P4 ns h) ?_)))))
  ·unfold ZW;rw[if_pos (by simp;omega)];simp only[Int.toNat_natCast,List.length_cons,Option.some.injEq];exact List.take_of_length_le (by simp)
  rw[h1];refine Le.uu (Bw a b c ps) ?_ ?_
  ·have:=PF ⟨[],a,b,c⟩ ps [] (by simp;omega);simpa[Bw] using this
  refine Le.uu _ (Ex.qU (by simp[Bw];omega)) ?_;cases hr:Ex.H7 (Bw a b c ps) with
  | false=>simp only[Bool.not_false,if_true];rw[Sj];exact Le.rfl
  | true=>
   simp only[Bool.not_true,Bool.false_eq_true,if_false];have e1:(!Ex.WL 0 0 17179869184|| !Ex.WL 0 0 65536)=false:=by decide
   rw[e1,Sj];exact Le.rfl
def jx(L:QA):List Int->RL
 | [c,w,p,m,o]=>WN (decide (m<=1073741824)) 2 (GP (Sm L ⟨0,0,c,w,o,0,m,p⟩) qX)
 | _=>none
theorem jF(L:QA)(n:List Int):Le (jx L n) (KX L () n):=by
 rcases n with _ | ⟨c,_ | ⟨w,_ | ⟨p,_ | ⟨m,_ | ⟨o,_ | ⟨_,_⟩⟩⟩⟩⟩⟩
 iterate 5 exact Le.none
 ·unfold KX;exact Le.uu m rfl (Le.gL (Le.uu c rfl (Le.uu w rfl (Le.uu p rfl (Le.uu m rfl (Le.uu o rfl (Le.gW (Hm _ _) λ_=>Le.rfl)))))))
 ·exact Le.none
def H8(L:QA)(c:Int):Int:=(Qc L.pure c).getD 0
def Ln(n s:Int):Int:=ZF (Int.tdiv (ZF (n*s)) 10000)
def filled(L:QA)(c pure:Int):RO QA:=
 if pure > 0 then GP (Sf L ⟨0,0,(atR L c).1.Place,0,0,pure⟩) λL2=>some (.ok {L2 with pure:=Qv L2.pure c (ZF (H8 L2 c+pure))}) else some (.ok L)
def j2(L:QA):List Int->RL
 | [c,n,s]=>WN (decide (1<=s)&&decide (s<=10000)) 2 (GP (Sm L ⟨1,0,c,0,0,0,n,0⟩) λL1=>GP (filled L1 c (Ln n s)) qX)
 | _=>none
theorem jQ(L:QA)(n:List Int):Le (j2 L n) (Kk L () n):=by
 rcases n with _ | ⟨c,_ | ⟨n,_ | ⟨s,_ | ⟨_,_⟩⟩⟩⟩
 iterate 3 exact Le.none
 ·unfold Kk;refine Le.uu s rfl (Le.uu (decide (1<=s)&&decide (s<=10000)) ?_ (Le.gL (Le.uu c rfl (Le.uu n rfl (Le.gW (Hm _ _) λL1=>Le.uu n rfl (Le.uu s rfl ?_))))))
  ·cases h:decide (1<=s)<;>rfl
  simp only[QV];unfold filled GP Ln H8;by_cases hp:ZF (Int.tdiv (ZF (n*s)) 10000) > 0
  ·simp only[hp,decide_true,if_true];rw[show Zc [c,n,s] 0=some c from rfl,Option.bind_some,Nu,Option.bind_some];intro y e;cases hd:Sf L1 ⟨0,0,(atR L1 c).1.Place,0,0,ZF (Int.tdiv (ZF (n*s)) 10000)⟩ with
   | none=>rw[hd] at e;cases e
   | some r=>
    rw[hd] at e
    rw[Se _ _ r hd];cases r<;>exact e
  ·simp only[hp,decide_false,Bool.false_eq_true,if_false];exact Le.rfl
 ·exact Le.none
def OX(L:QA)(c:ZO)(amount:Int):Option Int:=
 if amount==c.Amount then some (H8 L c.Number) else Gv .i64 (ZF (H8 L c.Number*amount)) c.Amount
theorem OW(L:QA)(c:ZO)(amount:Int):Le (OX L c amount) (Jp L () c amount):=by
 unfold OX Jp;refine Le.ite Le.rfl (Le.of ?_);unfold H8;cases Gv .i64 (ZF ((Qc L.pure c.Number).getD 0*amount)) c.Amount<;>rfl
def zU(L:QA)(fro to n:Int):RO QA:=
 if n==0||fro==to then some (.ok L) else GP (Sf L ⟨1,0,fro,to,L.ids,n⟩) λL1=>GP (Sf L1 ⟨2,0,to,0,L1.ids,n⟩) λL2=>some (.ok {L2 with ids:=ZF (L2.ids+1)})
theorem Oc(L:QA)(fro to n:Int):Le (zU L fro to n) (Jq L () fro to n):=by
 unfold Jq;exact Le.ite Le.rfl (Le.gW (Se _ _) λ_=>Le.gW (Se _ _) λ_=>Le.rfl)
def TU(L:QA)(c v:Int):QA:={L with pure:=Qv L.pure c v}
def ju(L:QA):List Int->RL
 | [a,b,n]=>GP (Sm L ⟨2,0,a,b,0,0,n,0⟩) λL1=>(OX L1 (atR L a).1 n).bind λp=>GP (zU L1 (atR L a).1.Place (atR L b).1.Place p) λL2=>
  qX (TU (TU L2 a (ZF (H8 L2 a - p))) b (ZF (H8 (TU L2 a (ZF (H8 L2 a - p))) b+p)))
 | _=>none
theorem ku(L:QA)(n:List Int):Le (ju L n) (Ki L () n):=by
 rcases n with _ | ⟨a,_ | ⟨b,_ | ⟨n,_ | ⟨_,_⟩⟩⟩⟩
 iterate 3 exact Le.none
 ·unfold Ki;refine Le.uu a rfl (Le.uu _ (Nu _ _) (Le.uu b rfl (Le.uu _ (Nu _ _) (Le.uu a rfl (Le.uu b rfl (Le.uu n rfl (Le.gW (Hm _ _) λL1=>Le.uu n rfl ?_)))))));refine Le.bind (OW _ _ _) λp=>Le.gW (Oc _ _ _ _) λL2=>Le.uu a rfl ?_;simp only[QV];refine Le.uu b rfl Le.rfl
 ·exact Le.none
def kB(L:QA):List Int->RL
 | [a,p]=>GP (Sm L ⟨4,0,a,0,0,0,0,p⟩) λL1=>GP (zU L1 (atR L a).1.Place p (H8 L1 a)) qX
 | _=>none
theorem kA(L:QA)(n:List Int):Le (kB L n) (KW L () n):=by
 rcases n with _ | ⟨a,_ | ⟨p,_ | ⟨_,_⟩⟩⟩
 iterate 2 exact Le.none
 ·unfold KW;exact Le.uu a rfl (Le.uu _ (Nu _ _) (Le.uu a rfl (Le.uu p rfl (Le.gW (Hm _ _) λL1=>Le.uu p rfl (Le.uu a rfl (Le.gW (Oc _ _ _ _) λL2=>Le.rfl))))))
 ·exact Le.none
def N1(k:Int)(L:QA):List Int->RL
 | [c,p,t]=>GP (Sm L ⟨k,0,c,0,p,t,0,0⟩) qX
 | _=>none
theorem kl(L:QA)(n:List Int):Le (N1 5 L n) (Kh L () n):=by
 rcases n with _ | ⟨a,_ | ⟨b,_ | ⟨n,_ | ⟨_,_⟩⟩⟩⟩
 iterate 3 exact Le.none
 ·unfold Kh;exact Le.uu a rfl (Le.uu b rfl (Le.uu n rfl (Le.gW (Hm _ _) λ_=>Le.rfl)))
 ·exact Le.none
theorem IZ(L:QA)(n:List Int):Le (N1 6 L n) (KN L () n):=by
 rcases n with _ | ⟨a,_ | ⟨b,_ | ⟨n,_ | ⟨_,_⟩⟩⟩⟩
 iterate 3 exact Le.none
 ·unfold KN;exact Le.uu a rfl (Le.uu b rfl (Le.uu n rfl (Le.gW (Hm _ _) λ_=>Le.rfl)))
 ·exact Le.none
def j1(L:QA):List Int->RL
 | [c,p]=>GP (Sm L ⟨7,0,c,0,p,0,0,0⟩) qX
 | _=>none
theorem jN(L:QA)(n:List Int):Le (j1 L n) (Kj L () n):=by
 rcases n with _ | ⟨a,_ | ⟨p,_ | ⟨_,_⟩⟩⟩
 iterate 2 exact Le.none
 ·unfold Kj;exact Le.uu a rfl (Le.uu p rfl (Le.gW (Hm _ _) λ_=>Le.rfl))
 ·exact Le.none
def j6(L:QA):List Int->RL
 | [c,w]=>GP (Sm L ⟨8,0,c,0,0,0,0,w⟩) qX
 | _=>none
theorem jU(L:QA)(n:List Int):Le (j6 L n) (Kl L () n):=by
 rcases n with _ | ⟨a,_ | ⟨p,_ | ⟨_,_⟩⟩⟩
 iterate 2 exact Le.none
 ·unfold Kl;exact Le.uu a rfl (Le.uu p rfl (Le.gW (Hm _ _) λ_=>Le.rfl))
 ·exact Le.none
def TT(k:Int)(L:QA):List Int->RL
 | [a,b]=>GP (ER L ⟨k,a,b,0⟩) qX
 | _=>none
theorem zg(L:QA)(n:List Int):Le (TT 0 L n) (KV L () n):=by
 rcases n with _ | ⟨a,_ | ⟨p,_ | ⟨_,_⟩⟩⟩
 iterate 2 exact Le.none
 ·unfold KV;exact Le.uu a rfl (Le.uu p rfl (Le.gW (Tw _ _) λ_=>Le.rfl))
 ·exact Le.none
theorem qv(L:QA)(n:List Int):Le (TT 2 L n) (KU L () n):=by
 rcases n with _ | ⟨a,_ | ⟨p,_ | ⟨_,_⟩⟩⟩
 iterate 2 exact Le.none
 ·unfold KU;exact Le.uu a rfl (Le.uu p rfl (Le.gW (Tw _ _) λ_=>Le.rfl))
 ·exact Le.none
def LH(L:QA)(place num part:Int):RO QA:=
 if part > 0 then GP (Sf L ⟨3,0,place,0,0,part⟩) λL2=>some (.ok (TU L2 num (ZF (H8 L2 num - part)))) else some (.ok L)
def Pw(L:QA)(num amount:Int):RO (Qn×QA):=
 WN ((atR L num).2==0) (atR L num).2 (GP (Sm L ⟨3,0,num,0,0,0,amount,0⟩) λL1=>(OX L1 (atR L num).1 amount).bind λp=>GP (LH L1 (atR L num).1.Place num p) λL2=>
  (Gv .i64 (ZF (p*10000)) amount).bind λlo=>(Gv .i64 (ZF (ZF (ZF (p*10000)+amount) - 1)) amount).bind λhi=>some (.ok (⟨(atR L num).1,amount,⟨lo,hi⟩⟩,L2)))
theorem E5(L:QA)(num amount:Int):Le (Pw L num amount) (K5 L () num amount):=by
 unfold K5;refine Le.uu _ (Nu _ _) (Le.check (Le.gW (Hm _ _) λL1=>Le.bind (OW _ _ _) λp=> ?_));unfold LH GP;by_cases hp:p > 0
 ·simp only[hp,decide_true,if_true];intro y e;cases hd:Sf L1 ⟨3,0,(atR L num).1.Place,0,0,p⟩ with
  | none=>rw[hd] at e;cases e
  | some r=>
   rw[hd] at e
   rw[Se _ _ r hd];cases r<;>exact e
 ·simp only[hp,decide_false,Bool.false_eq_true,if_false];exact Le.rfl
def Mc:List (Int×Int)->QQ->QA->Option (QQ×QA)
 | [],b,L=>some (b,L)
 | x::xs,b,L=>match Pw L x.1 x.2 with
  | some (.ok (d,L1))=>if b.Draughts.length<=1000000 then Mc xs {b with Draughts:=b.Draughts++[d]} L1 else none
  | _=>none
theorem Lv:∀(ps:List (Int×Int)) (b:QQ) (L:QA),Le (Mc ps b L) (YI (Yr ()) (ps.map λp=>[p.1,p.2]) (b,L))
 | [],b,L=>Le.rfl
 | p::ps,b,L=>by
  simp only[List.map_cons,YI,Mc];have hb:∀s,Yr () [p.1,p.2] s=Qy (K5 s.2 () p.1 p.2) (λ_=>none) λr125=>(VT s.1.Draughts [r125.1]).bind λl167=>QV {s.1 with Draughts:=l167} λx171=>some (x171,r125.2):=λs=>rfl;cases hd:Pw L p.1 p.2 with
  | none=>exact Le.none
  | some r=>
   cases r with
   | pan q=>exact Le.none
   | ok r=>
    refine Le.guard λh=> ?_;refine Le.uu ({b with Draughts:=b.Draughts++[r.1]},r.2) ?_ (Lv ps _ _);rw[hb,E5 _ _ _ _ hd];simp only[Qy,QV];rw[Gt (by simp;omega)];rfl
def js(b:QQ):Int:=ZF (Int.tdiv (Bo.ql b b.Water).Lo 700)
open Bo in
theorem AK{b:QQ}(hl:b.Draughts.length<=40)(hv:XT b=true):∃k,W8 b 700=some (js b,k,0):=by
 obtain⟨x,he,hx⟩:=MK b hl;have h:=(Hz b).1 hv;unfold W8;rw[he,hv,hx hv];have e:QT 700 1 1048576=true:=by decide
 simp only[Option.bind_some,Bool.not_true,Bool.false_eq_true,if_false,e];rw[R0 h h.water.1 h.water.2];exact⟨_,rfl⟩
def O1(L:QA):List Int->RL
 | num::w::a::z::ds=>if ds.length<=1000000 then(BB ds).bind λps=>WN (Qc L.batches num).isNone 5 ((Mc ps ⟨[],w,⟨0,0⟩,false,false⟩ L).bind λr=>
  if r.1.Draughts.length<=40 then WN (Bo.XT r.1) 1 (WN (decide (ZF (ZF (z - a)+1)<=js r.1)) 12 (GP (ER r.2 ⟨1,a,z,num⟩) λL2=>qX {L2 with batches:=Qv L2.batches num r.1})) else none) else none
 | _=>none
theorem qD(L:QA)(n:List Int):Le (O1 L n) (KO L () n):=by
 rcases n with _ | ⟨num,_ | ⟨w,_ | ⟨a,_ | ⟨z,ds⟩⟩⟩⟩
 iterate 4 exact Le.none
 refine Le.guard λh=> ?_;cases hp:BB ds with
 | none=>exact Le.none
 | some ps=>
  obtain⟨h1,h2⟩:=Cn hp;unfold KO;simp only[Option.bind_some,QV];refine Le.uu num rfl (Le.uu a rfl (Le.uu z rfl ?_));have e:(!(Qc L.batches num).isSome)=(Qc L.batches num).isNone:=by cases Qc L.batches num<;>rfl
  rw[e];refine Le.gL (Le.uu w rfl (Le.uu ds ?_ (Le.uu (EN ds) (P4 ds h) ?_)))
  ·unfold ZW;rw[if_pos (by simp;omega)];simp only[Int.toNat_natCast,List.length_cons,Option.some.injEq];exact List.take_of_length_le (by simp)
  rw[h1];refine Le.bind (Lv _ _ _) λr=>Le.guard λhr=> ?_;rcases Bo.OE r.1 hr with⟨hv,he⟩ | ⟨hv,x,he,_⟩
  ·refine Le.uu _ he ?_;rw[hv,Sj];exact Le.rfl
  ·have hvb:=(Bo.Hz r.1).2 hv;refine Le.uu _ he ?_;rw[hvb];obtain⟨k,hk⟩:=AK hr hvb;refine Le.check (e:=0) ?_;refine Le.uu _ hk ?_;exact Le.gL (Le.gW (Tw _ _) λL2=>Le.rfl)
def y3(L:QA):List Int->RL
 | [a]=>GP (Sf L ⟨6,0,0,0,0,a⟩) qX
 | _=>none
theorem yH(L:QA)(n:List Int):Le (y3 L n) (Kr L () n):=by
 rcases n with _ | ⟨a,_ | ⟨_,_⟩⟩
 ·exact Le.none
 ·unfold Kr;exact Le.uu a rfl (Le.gW (Se _ _) λ_=>Le.rfl)
 ·exact Le.none
end
section
open Go.Dec
def IQ(w:List UInt8)(l:List Int)(L:QA):RL:=if w.length<=1000/\l.length<=100000/\l.all yR=true then some (.ok (Xm w l,L)) else none
theorem T7(w:List UInt8)(l:List Int)(L:QA):Le (IQ w l L) ((JP w l).bind λr=>some (.ok (r,L))):=
 Le.guard λh=>Le.uu _ (PD h.1 h.2.1 h.2.2) Le.rfl
def R6(L:QA):List Int->RL
 | [c]=>WN ((atR L c).2==0) (atR L c).2 (IQ [99,97,115,107] [(atR L c).1.Amount,(atR L c).1.Age,(atR L c).1.Owner,(atR L c).1.Creditor,H8 L c] L)
 | _=>none
theorem M6(L:QA)(n:List Int):Le (R6 L n) (Z3 L () n):=by
 rcases n with _ | ⟨c,_ | ⟨_,_⟩⟩
 ·exact Le.none
 ·unfold Z3;exact Le.uu c rfl (Le.uu _ (Nu _ _) (Le.check (Le.uu c rfl (T7 _ _ _))))
 ·exact Le.none
def O3(L:QA):Option ZP:=match L.rules with
 | none=>none
 | some r=>if r.Rates.length<=1000000/\L.duties.length<=1000 then some (zI r L.duties L.day).1 else none
theorem O2(L:QA):Le (O3 L) (Jr L ()):=by
 unfold O3 Jr;cases hr:L.rules with
 | none=>exact Le.none
 | some r=>
  refine Le.guard λh=> ?_;rw[Option.bind_some];exact Le.uu _ (Ex.CH h.1 (.inl h.2)) Le.rfl
def R7(L:QA):List Int->RL
 | [c]=>WN (decide (c < 16)) 2 ((O3 L).bind λb=>(YP 16 c).bind λj=>IQ [98,111,110,100] [b.Bonds j] L)
 | _=>none
theorem M7(L:QA)(n:List Int):Le (R7 L n) (Z4 L () n):=by
 rcases n with _ | ⟨c,_ | ⟨_,_⟩⟩
 ·exact Le.none
 ·unfold Z4;exact Le.uu c rfl (Le.gL (Le.bind (O2 _) λb=>Le.uu c rfl (Le.bind Le.rfl λj=>T7 _ _ _)))
 ·exact Le.none
def M5(L:QA)(_:List Int):RL:=(O3 L).bind λb=>IQ [100,117,101] [b.Due,b.Paid] L
theorem EU(L:QA)(n:List Int):Le (M5 L n) (KF L () n):=by
 unfold KF;exact Le.bind (O2 _) λb=>T7 _ _ _
def qi(l:List QJ)(n:Int):Option (Int×Int):=if l.length<=256 then some (if Fq l==0 then Bo.qj l n else(0,Fq l)) else none
theorem qh(l:List QJ)(n:Int):Le (qi l n) (VP l n):=by
 refine Le.guard λh=> ?_;obtain⟨b,i,hr,ho⟩:=Tv l h;cases he:Fq l==0 with
 | true=>exact Le.of (Bo.EJ n h (ho (by simpa using he)))
 | false=>exact Le.of (Bo.IE n hr (by simpa using he))
def T3(L:QA):List Int->RL
 | [c]=>(qi L.stamps c).bind λr=>WN (r.2==0) r.2 (IQ [98,97,116,99,104] [r.1] L)
 | _=>none
theorem N4(L:QA)(n:List Int):Le (T3 L n) (Zs L () n):=by
 rcases n with _ | ⟨c,_ | ⟨_,_⟩⟩
 ·exact Le.none
 ·unfold Zs;exact Le.uu c rfl (Le.bind (qh _ _) λr=>Le.check (T7 _ _ _))
 ·exact Le.none
def ze(b:QQ):Ql:=⟨Bo.ql b b.Water,Bo.kg b b.Water,Bo.Gw b.Draughts λd=>d.From.Age,λi=>Bo.Gw b.Draughts λd=>d.From.Woods i,λi=>Bo.Gw b.Draughts λd=>d.From.Places i,(Bo.Re b.Draughts).length⟩
open Bo in
theorem EO{b:QQ}{x:Ql}{c:Qp}(h:O8 b b.Water x)(hc:yD c):Gf b x c=Gf b (ze b) c:=by
 unfold Gf;rw[h.age,h.casks,h.str];by_cases h0:c.Kind=0
 ·rw[if_pos h0,if_pos h0];rfl
 rw[if_neg h0,if_neg h0];by_cases h1:c.Kind=1
 ·rw[if_pos h1,if_pos h1,h.woods _ (by have:=hc.what (.inl h1);omega)];rfl
 rw[if_neg h1,if_neg h1];by_cases h2:c.Kind=2
 ·rw[if_pos h2,if_pos h2,h.places _ (by have:=hc.what (.inr h2);omega)];rfl
 rw[if_neg h2,if_neg h2];rfl
def OA(b:QQ)(c:Qp):Option (Bool×Int):=if b.Draughts.length<=40 then some (if Bo.XT b&&Bo.Gp c then(Bo.Gf b (ze b) c,0) else(true,1)) else none
open Bo in
theorem z6{β:Type}(b:QQ)(c:Qp)(k:Bool×Int->Option β)(g:List Int×Int->Option β)(h:∀l e,Le (k (decide (l.length=0),e)) (g (l,e))):Le ((OA b c).bind k) ((Vz b [c]).bind g):=by
 unfold OA;by_cases hb:b.Draughts.length<=40
 ·rw[if_pos hb,Option.bind_some];have ec:HB [c]=Gp c:=by simp[HB]
  rcases E2 b [c] hb (by simp) with⟨hv,hr⟩ | ⟨hv,hc,hall,x,hx,_,hr⟩
  ·rw[ec] at hv
   rw[hr,hv];exact h [] 1
  ·rw[ec] at hc
   rw[hr,(Hz b).2 hv,hc];simp only[Bool.and_self,if_true,Option.bind_some];rw[<-EO hx (hall c (by simp))];cases ht:Gf b x c with
   | true=>
    have e:Bo.liesAt (Gf b x) 0 [c]=[]:=by simp[Bo.liesAt,ht]
    rw[e];exact h [] 0
   | false=>
    have e:Bo.liesAt (Gf b x) 0 [c]=[0]:=by simp[Bo.liesAt,ht]
    rw[e];exact h [0] 0
 ·rw[if_neg hb];exact Le.none
abbrev jr:List UInt8:=[116,114,117,101]
abbrev qk:List UInt8:=[102,97,108,115,101]
theorem jX(b:Bool):UM b=some (if b then jr else qk):=by cases b<;>rfl
def Cl(L:QA):List Int->RL
 | [n,k,w,v]=>match Qc L.batches n with
  | none=>some (.pan ⟨4⟩)
  | some b=>(OA b ⟨k,w,v⟩).bind λr=>WN (r.2==0) r.2 (some (.ok (if r.1 then jr else qk,L)))
 | _=>none
theorem N6(L:QA)(n:List Int):Le (Cl L n) (Zu L () n):=by
 rcases n with _ | ⟨n,_ | ⟨k,_ | ⟨w,_ | ⟨v,_ | ⟨_,_⟩⟩⟩⟩⟩
 iterate 4 exact Le.none
 ·unfold Zu Cl;refine Le.uu n rfl ?_;simp only[QV];cases hb:Qc L.batches n with
  | none=>
   simp only[Option.isSome_none];rw[B0];exact Le.rfl
  | some b=>
   simp only[Option.isSome_some];rw[B0];simp only[if_true,Qy];refine Le.uu k rfl (Le.uu w rfl (Le.uu v rfl ?_));rw[Option.getD_some];refine z6 b ⟨k,w,v⟩ _ _ λl e=> ?_;refine Le.check ?_;rw[jX];refine Le.of ?_;have:((l.length:Int)==0)=decide (l.length=0):=by rw[Bool.eq_iff_iff];simp
   rw[this];rfl
 ·exact Le.none
def T4(L:QA):List Int->RL
 | [c]=>WN ((Ca.qu L.casks c L.day).2==0) (Ca.qu L.casks c L.day).2 (IQ [102,105,108,108,115] (Ca.qu L.casks c L.day).1 L)
 | _=>none
theorem N5(L:QA)(n:List Int):Le (T4 L n) (Zt L () n):=by
 rcases n with _ | ⟨c,_ | ⟨_,_⟩⟩
 ·exact Le.none
 ·unfold Zt;exact Le.uu c rfl (Le.uu _ (Ca.Mr _ _ _) (Le.check (T7 _ _ _)))
 ·exact Le.none
structure Wd where
 word:List UInt8
 least:Int
 each:Int
 does:QA->List Int->RL
def Th:List Wd:=[
 ⟨[100,97,121],1,0,vA⟩,⟨[114,117,108,101,115],3,2,zD⟩,⟨[109,97,107,101],5,0,jx⟩,⟨[102,105,108,108],3,0,j2⟩,⟨[114,97,99,107],3,0,ju⟩,
 ⟨[99,97,114,114,121],2,0,kB⟩,⟨[115,101,108,108],3,0,N1 5⟩,⟨[112,108,101,100,103,101],3,0,N1 6⟩,⟨[102,114,101,101],2,0,j1⟩,⟨[99,104,97,114],2,0,j6⟩,
 ⟨[115,116,97,109,112,115],2,0,TT 0⟩,⟨[115,112,111,105,108],2,0,TT 2⟩,⟨[98,111,116,116,108,101],4,2,O1⟩,⟨[112,97,121],1,0,y3⟩,⟨[99,97,115,107],1,0,R6⟩,
 ⟨[98,111,110,100],1,0,R7⟩,⟨[100,117,101],0,0,M5⟩,⟨[119,104,111,115,101],1,0,T3⟩,⟨[99,108,97,105,109],4,0,Cl⟩,⟨[102,105,108,108,115],1,0,T4⟩]
def Ny(w:List UInt8):Option Wd:=Th.find? λd=>d.word==w
inductive Nw:List Wd->List (List UInt8×QW)->Prop where
 | nil:Nw [] []
 | cons {w:List UInt8} {a b:Int} {f:QA->List Int->RL} {g:QA×Unit×List Int->RL} {l:List Wd} {k:List (List UInt8×QW)} (h:∀L n,Le (f L n) (g (L,(),n))) (r:Nw l k):Nw (⟨w,a,b,f⟩::l) ((w,⟨⟨a,b⟩,g⟩)::k)
theorem Nw.get{l:List Wd}{k:List (List UInt8×QW)}(h:Nw l k)(w:List UInt8):match l.find? (λd=>d.word==w) with
  | none=>Qc k w=none
  | some d=>∃g,Qc k w=some ⟨⟨d.least,d.each⟩,g⟩/\∀L n,Le (d.does L n) (g (L,(),n)):=by
 induction h with
 | nil=>rfl
 | @cons w' a b f g l k h r ih=>
  by_cases hw:w' =w
  ·subst hw;simp only[List.find?_cons,beq_self_eq_true];exact⟨g,by simp[Qc],h⟩
  ·have e:(w' ==w)=false:=by simpa using hw
   have e' :(w==w')=false:=by simpa using λh=>hw h.symm
   simp only[List.find?_cons,e];have em:Qc ((w',(⟨⟨a,b⟩,g⟩:QW))::k) w=Qc k w:=by simp[Qc,e']
   rw[em];exact ih
theorem zx:∃k,WX=some k/\Nw Th k:=by
 refine⟨_,by unfold WX;simp only[QV];rfl,?_⟩;exact .cons yX (.cons zB (.cons jF (.cons jQ (.cons ku (.cons kA (.cons kl (.cons IZ (.cons jN (.cons jU (.cons zg (.cons qv (.cons qD (.cons yH (.cons M6 (.cons M7 (.cons EU (.cons N4 (.cons N6 (.cons N5 .nil)))))))))))))))))))
end
section
open Go.Dec
def Oq(least each:Int)(n:Int):Bool:=if each==0 then n==least else decide (n > least)&&(n - least)%each==0
theorem jO(a b:Int)(n:Nat)(ha:0<=a/\a<=100)(hn:n<=1000000):Vu ⟨a,b⟩ (n:Int)=some (Oq a b n):=by
 unfold Vu Oq;simp only;cases h:b==0 with
 | true=>rfl
 | false=>
  have hb0:b≠0:=by simpa using h
  by_cases hg:(n:Int) > a
  ·simp only[hg,decide_true,if_true,Bool.true_and,Bool.false_eq_true,if_false];unfold IW;rw[if_neg hb0,Qs (by omega) (by omega),Int.tmod_eq_emod_of_nonneg (by omega)];rfl
  ·simp only[hg,decide_false,Bool.false_eq_true,if_false,Bool.false_and];rfl
def jy(L:QA)(line:List UInt8):RL:=
 if line.length > 1000 then some (.pan ⟨3⟩) else match NG line with
  | .pan q=>some (.pan q)
  | .ok w=>match Ny w.1 with
   | none=>some (.pan ⟨8⟩)
   | some d=>WN (Oq d.least d.each w.2.length) 8 (WN (!L.rules.isNone||w.1==[100,97,121]||w.1==[114,117,108,101,115]) 6
    (if L.casks.length<=1000000/\L.duties.length<=1000000/\L.stamps.length<=1000000 then d.does L w.2 else none))
def ve(L:QA)(line:List UInt8):Option (List UInt8×Int×QA):=match jy L line with
 | none=>none
 | some (.pan q)=>some ([],q.e,L)
 | some (.ok r)=>some (r.1,0,r.2)
theorem kZ:∀d∈Th,(0<=d.least/\d.least<=100)/\(0<=d.each/\d.each<=100):=by
 unfold Th;simp only[List.mem_cons,List.not_mem_nil,or_false];rintro d (rfl | rfl | rfl | rfl | rfl | rfl | rfl | rfl | rfl | rfl | rfl | rfl | rfl | rfl | rfl | rfl | rfl | rfl | rfl | rfl)<;>exact⟨⟨by decide,by decide⟩,by decide,by decide⟩
theorem zF{line:List UInt8}{w:List UInt8×List Int}(h:NG line= .ok w):w.2.length<=line.length:=by
 have hl:∀s:List UInt8,(WK s).length<=s.length+1:=by
  intro s
  induction s with
  | nil=>simp[WK]
  | cons c l ih=>
   unfold WK;split
   ·simpa using ih
   ·split<;>rename_i he
    ·simp
    ·rw[he] at ih;simp at ih ⊢;omega
 have:=hl line;unfold NG at h
 split at h
 ·cases h
 ·rename_i p ps he;rw[he] at this
  split at h
  ·simp only[Out.ok.injEq] at h
   subst h;simp at this ⊢
   omega
  ·cases h
theorem I8{L:QA}(h:L.casks.length<=1000000/\L.duties.length<=1000000/\L.stamps.length<=1000000):J5 L=some L:=by
 unfold J5 VH VG Yq;rw[Gt (by simp;omega),Gt (by simp;omega),Gt (by simp;omega)];rfl
theorem y8(L:QA)(line:List UInt8):Le ((ve L line).map λr=>(r.1,r.2.1,[(⟨r.2.2,true⟩:Zb)])) (X8 [⟨L,true⟩] (some 0) line):=by
 unfold ve jy X8;simp only[Option.isNone_some,Bool.false_eq_true,if_false,Option.bind_some,List.getElem?_cons_zero,Bool.not_true];by_cases hl:line.length > 1000
 ·have e:decide ((line.length:Int) > 1000)=true:=decide_eq_true (by omega);rw[if_pos hl,e];exact Le.rfl
 have e:decide ((line.length:Int) > 1000)=false:=decide_eq_false (by omega);rw[if_neg hl,e,IX line (by omega)];simp only[Bool.false_eq_true,if_false];cases hr:NG line with
 | pan q=>exact Le.rfl
 | ok w=>
  have hwl:=zF hr;obtain⟨k,hk,hrows⟩:=zx;have hg:=hrows.get w.1;simp only[Qy,hk,Option.bind_some];cases hw:Ny w.1 with
  | none=>
   unfold Ny at hw
   rw[hw] at hg
   rw[hg];exact Le.rfl
  | some d=>
   have hd:d∈Th:=List.mem_of_find?_eq_some hw;unfold Ny at hw
   rw[hw] at hg
   obtain⟨g,hg,hle⟩:=hg;rw[hg];obtain⟨ha,_⟩:=kZ d hd;unfold WY;simp only;rw[jO _ _ _ ha (by omega),Option.bind_some,B0];unfold WN;cases hf:Oq d.least d.each w.2.length with
   | false=>exact Le.rfl
   | true=>
    simp only[if_true,Qy]
    have ez:((if(!L.rules.isNone)=true then some true else some (w.1==([100,97,121]:List UInt8))).bind λz1=>if z1=true then some true else some (w.1==([114,117,108,101,115]:List UInt8)))=some (!L.rules.isNone||w.1==[100,97,121]||w.1==[114,117,108,101,115]):=by
     cases L.rules.isNone<;>cases w.1==([100,97,121]:List UInt8)<;>rfl
    rw[<-Option.bind_assoc,ez,Option.bind_some,B0];cases hs:(!L.rules.isNone||w.1==[100,97,121]||w.1==[114,117,108,101,115]) with
    | false=>exact Le.rfl
    | true=>
     simp only[if_true];by_cases hc:L.casks.length<=1000000/\L.duties.length<=1000000/\L.stamps.length<=1000000
     ·rw[if_pos hc,I8 hc];intro y hy;cases hx:d.does L w.2 with
      | none=>rw[hx] at hy;cases hy
      | some r=>
       rw[hx] at hy
       simp only[Option.bind_some,hle _ _ _ hx];cases r<;>exact hy
     ·rw[if_neg hc];exact Le.none
def Ma:QA:=⟨0,none,[],[],[],[],[],0⟩
def PE(s:List UInt8)(e:Int):List UInt8:=if e==0 then s else Xm EL [e]
def LN:List (List UInt8)->QA->List UInt8->Option (QA×List UInt8)
 | [],L,out=>some (L,out)
 | x::xs,L,out=>match ve L x with
  | none=>none
  | some r=>if yR r.2.1=true/\out.length+(PE r.1 r.2.1).length<=1000000000 then LN xs r.2.2 (out++(PE r.1 r.2.1++[10])) else none
theorem OV:∀(l:List (List UInt8)) (L:QA) (out:List UInt8),Le ((LN l L out).map λr=>([(⟨r.1,true⟩:Zb)],r.2)) (YI (X3 (some 0)) l ([⟨L,true⟩],out))
 | [],L,out=>Le.rfl
 | x::xs,L,out=>by
  unfold LN YI;cases hd:ve L x with
  | none=>exact Le.none
  | some r=>
   by_cases hc:yR r.2.1=true/\out.length+(PE r.1 r.2.1).length<=1000000000
   ·simp only;rw[if_pos hc];refine Le.uu ([⟨r.2.2,true⟩],out++(PE r.1 r.2.1++[10])) ?_ (OV xs _ _);have h1:=y8 L x (r.1,r.2.1,[⟨r.2.2,true⟩]) (by rw[hd];rfl);unfold X3;rw[h1,Option.bind_some];have hl:=hc.2;unfold PE at hl ⊢
    cases he:r.2.1==0 with
    | true=>
     have:(r.2.1 != 0)=false:=by simpa using he
     simp only[this,Bool.false_eq_true,if_false,if_true];rw[he] at hl
     simp only[if_true] at hl
     unfold WD;rw[Xw (by omega),Option.bind_some,Xw (by simp;omega)];simp
    | false=>
     have:(r.2.1 != 0)=true:=by simpa using he
     simp only[this,if_true,Bool.false_eq_true,if_false];rw[he] at hl
     simp only[Bool.false_eq_true,if_false] at hl
     rw[PD (by decide) (by simp) (by simpa using hc.1),Option.bind_some];unfold WD;rw[Xw (by omega),Option.bind_some,Xw (by simp;omega)];simp
   ·simp only;rw[if_neg hc];exact Le.none
def zJ(script:List UInt8):Option (List UInt8×Int):=
 if script.length > 262144 then some ([],3) else if !(script==[])&& !A6 script then some ([],8) else(LN (Pe script) Ma []).map λr=>(r.2,0)
theorem jm(script:List UInt8):Le (zJ script) (W6 script):=by
 unfold zJ W6;by_cases hl:script.length > 262144
 ·have e:decide ((script.length:Int) > 262144)=true:=decide_eq_true (by omega);rw[if_pos hl,e];exact Le.rfl
 have e:decide ((script.length:Int) > 262144)=false:=decide_eq_false (by omega);rw[if_neg hl,e];simp only[Bool.false_eq_true,if_false]
 have ez:(if(!(script==([]:List UInt8)))=true then(Jk script [10]).bind λh=>some (!h) else some false)=some (!(script==[])&& !A6 script):=by
  cases script==([]:List UInt8) with
  | true=>rfl
  | false=>simp only[Bool.not_false,if_true];rw[SX _ (by omega)];rfl
 rw[ez,Option.bind_some];refine Le.ite Le.rfl ?_;refine Le.uu (some 0,[⟨Ma,true⟩]) rfl ?_;intro y hy;cases hp:LN (Pe script) Ma [] with
 | none=>rw[hp] at hy;cases hy
 | some r=>
  have:=OV (Pe script) Ma [] ([⟨r.1,true⟩],r.2) (by rw[hp];rfl);rw[this,Option.bind_some];rw[hp] at hy
  exact hy
end
end Go.Proofs.YtogaibncbkhjlaaGreatDoor
section
set_option maxRecDepth 100000
namespace Go.Proofs.YtogaibncbkhjlaaGreatDoor
open Go.Dec
theorem LD:zJ JC.1=some (JC.2,0):=by decide+kernel
theorem OG:Uj=some true:=by
 unfold Uj;rw[jm _ _ LD]
 decide+kernel
end Go.Proofs.YtogaibncbkhjlaaGreatDoor
end
namespace Go.Proofs.YtogaibncbkhjlaaGreatDoor
section
open Go.Dec Go.Shelf Go.RowKit Go.Maps Go.Sort Go.ChangeShapes Go.WideShapes Go.ChangeAt
theorem Tryz.own:ownKnob Tryz.prog.godebug=none:=by kernel_rfl
theorem Tryz.laidOut:laidOutB Tryz.prog=true:=by kernel_rfl
theorem L5{α:Type}{a:Array α}{l:List α}(h:a.toList=l):a=l.toArray:=by rw[<-h]
theorem y6:Tryz.prog.globalNamed "internal/strconv.uint64pow10"=some 1:=by kernel_rfl
theorem vp:(Tryz.prog.globals[1]?).map (·.type)=some 267:=by kernel_rfl
theorem jV:Tryz.prog.cellsOf 242=1:=by kernel_rfl
theorem z7:Tryz.prog.cellsOf 267=20:=by kernel_rfl
theorem zH:(Rows.laid_internal_strconv_uint64pow10:DataW Unit)=Go.Lib.tabData .u64 Go.Lib.pow10Tab:=by kernel_rfl
theorem Od:((begin Tryz.prog (λ_ _=>0) default).world.heap[0]?).bind Obj.row? =some (#[.int .i64 0],3):=by kernel_rfl
theorem Eu{W:World}(h:laidMetH Tryz.prog Rows.officeNoneRow.laid W):laidMet Tryz.prog Rows.officeNoneRow.laid W:=by
 rwa[MakeChecks.laidMetH_plain _ _ _ (by kernel_rfl)] at h
set_option maxRecDepth 100000 in
theorem kf{W:World}(h:laidMetH Tryz.prog Rows.officeNoneRow.laid W)(hsh:W.ShapedOpen Tryz.prog):XQ (FW W):=by
 obtain⟨ps,hl,_,_⟩:=Eu h;refine⟨?_,?_⟩
 ·obtain⟨g,t,cs,fuel,p,T,fr,hg,ht,hh,hd⟩:=Oh 2 rfl hl;obtain rfl:=Option.some.inj (y6.symm.trans hg);obtain rfl:=Option.some.inj (vp.symm.trans ht);have hc:=Go.Lib.cells_of_tab Tryz.underlying267 Tryz.underlying242 jV z7 (by rw[<-zH];exact hd);exact⟨1,T,fr,y6,by rw[show(FW W).mem 1=W.heap[1]? from rfl,hh,L5 hc];rfl⟩
 ·obtain⟨m,hm⟩:=Go.Proofs.cell_of_shapedOpen_int (P:=Tryz.prog) (g:=0) (t:=3) (zero:=#[.int .i64 0]) hsh (of_decide_eq_true (by kernel_rfl)) Od rfl (by kernel_rfl) (by kernel_rfl) Tryz.underlying3;obtain⟨T,fr,hb⟩:=Pm hsh (of_decide_eq_true (by kernel_rfl)) Od rfl hm;exact⟨m,T,fr,hb⟩
theorem jY{H:Type}{enc:TypeId×Value->H}{P:Program}{W:World}{b0:Nat}{t:TypeId}{v:Value}{d:DataW H}{ps:List MemPlace}(ht:P.underlying t=some .string)(hk:Value.okWide P W .any b0 t v)(hd:DataW.Trod enc P W 0 (λ_=>true) true t v d ps):
  ∃m:List UInt8,m.length<=maxLen/\v= .string (bs m):=by
 obtain⟨s,h,_,_,hs⟩:=Go.ChangeMaps.open_string ht hk hd;refine⟨s.data.toList,(by rw[Array.length_toList];exact hs),?_⟩;rw[h];show _=Value.string ⟨s.data.toList.toArray⟩;rw[Array.toArray_toList]
end
section
open Go.Dec
open Go.ChangeShapes Go.WideShapes Go.ChangeAt Go.RowKit
def X5:Prop:=∀(a0:(List UInt8)) (a1:Int),a0.length<=maxLen->(Lit.int .i64 a1).wf=true->Yp a0 a1=some true
set_option maxRecDepth 100000 in
theorem SS(law:X5)(os:Os)(started:os.Started)(H:Type)(enc:TypeId×Value->H):
  ReturnsInHanded {} Tryz.checked os 3 .any (λw args=>(Rows.officeNoneSpec.pre enc Tryz.prog Tryz.f3 Rows.officeNoneRow.domain false w args/\laidMetH Tryz.prog Rows.officeNoneRow.laid w)/\sizedMet enc Tryz.prog Tryz.f3 (OpenSpec.ofChange Rows.officeNoneSpec) false w args) (Rows.officeNoneSpec.post enc Tryz.prog Tryz.f3 false true false false):=by
 refine Im (C:=Tryz.checked) (X:=λw=>laidMetH Tryz.prog Rows.officeNoneRow.laid w) (λ_ _ hh h=>h.of_heap hh) Tryz.own started (by kernel_rfl) Tryz.func3
  (ChangeSpec.witness_shaped (enc:=enc) (C:=Tryz.checked) (os:=os) (X:=λw _=>laidMetH Tryz.prog Rows.officeNoneRow.laid w) false (World.laidAll Tryz.prog os Rows.officeNoneRow.laid) #[.string (bs []),.int .i64 0] 12 (World.laidAll_os _ _ _) (World.shaped_of_ZipB (by kernel_rfl) (by kernel_rfl)) (by kernel_rfl) (by kernel_rfl) (by kernel_rfl)
   (by rw[MakeChecks.laidMetH_plain _ _ _ (by kernel_rfl)];exact laidMet_laidAll _ (by kernel_rfl) (by kernel_rfl))) ?_
 intro W base args ds gs before hval hW hsh hL;have hT:XQ (FW W):=kf hL hsh;refine Rf (P:=Tryz.prog) Tryz.laidOut (by kernel_rfl) rfl (by kernel_rfl:Tryz.f3.resultTypes=#[4]) Tryz.underlying4 (λds h=> ?_) (λbase args ds ps hval hA=> ?_) base args ds gs before hval hW
 ·match ds,h with
  | [d0,d1],_=>rfl
 ·rw[Tryz.params3] at hA hval
  obtain⟨v0,l0,_,_,_,_,e0,_,_,t0,hA⟩:=trodAll_cons hA;obtain⟨v1,l1,_,_,_,_,e1,_,_,t1,hA⟩:=trodAll_cons hA;obtain⟨e2,_,_⟩:=trodAll_nil hA;subst e2 e1;obtain rfl:args=[v0,v1].toArray:=by rw[<-e0]
  obtain⟨m0,o0,rfl⟩:=jY Tryz.underlying9 (hval 0 _ _ rfl rfl) t0;obtain⟨m1,o1,rfl⟩:=yc Tryz.underlying3 (hval 1 _ _ rfl rfl) t1;have hl:=law m0 m1 o0 o1;have hc:=GV (FW W) hT m0 m1;rw[hl] at hc
  exact hc
theorem TC(law:X5):Rows.OfficeNoneSaid:=
 OpenClaim.holds_of_wide 3 Tryz.f3 rfl rfl rfl rfl rfl rfl rfl ⟨rfl,rfl,rfl,rfl,rfl⟩ rfl rfl rfl rfl rfl (by kernel_rfl) Tryz.func3 (by kernel_rfl)
  (of_decide_eq_true (by kernel_rfl)) (by unfold Func.isWrapper;first | (rw[if_pos (by decide+kernel)];kernel_rfl) | (rw[if_neg (by decide+kernel)];exact⟨rfl,rfl⟩))
  (λos started H enc _=>SS law os started H enc)
theorem TJ(law:X5):Rows.OfficeNoneCardSaid:=
 Claim7.holds_tied_plain_at .later [] [.data,.data,.data] true (true, "d6acd565708a5f63fe3ed9dd72fa465112a6d7a0e6cf52382aae00ea6cc630e8") true (TC law) (λ_ h=>by cases h) (by kernel_rfl) (λ_ h=>by cases h) officeNone_row_tie rfl ⟨rfl,rfl⟩ (by kernel_rfl) rfl
  (λf fn hf hfn=>by
   obtain rfl:f=3:=Option.some.inj ((show Tryz.prog.funcNamed "wormtub/wormtublaw15.OfficeNone"=some 3 by kernel_rfl).symm.trans hf) |>.symm;obtain rfl:fn=Tryz.f3:=(Option.some.inj (Tryz.func3.symm.trans hfn)).symm
   exact⟨by kernel_rfl,λj t ht=>by
    have hall:(Tryz.f3.params.toList.all λu=> !Tryz.prog.wantsStandIn u)=true:=by kernel_rfl
    have hm:=Array.mem_of_getElem? ht;exact(show Tryz.prog.wantsStandIn t=false by first | (simp at hm;done) | simpa using List.all_eq_true.1 hall t (by simpa using hm))⟩)
  (by kernel_rfl)
end
section
open Go.Dec
theorem Ik:ZV Vo 0=some ():=by
 have h0:Vo 0=some (.next 1):=rfl;have h1:Vo 1=some (.next 2):=rfl;have h2:Vo 2=some (.done ()):=rfl;have e2:ZV Vo 2=some ():=by rw[ZR,h2]
 have e1:ZV Vo 1=some ():=by rw[ZR,h1];exact e2
 rw[ZR,h0];exact e1
theorem Pj:X5:=by
 intro line cask _ _;unfold Yp;rw[Ik,OG];split<;>rfl
theorem officeNone_holds:Rows.OfficeNoneCardSaid:=TJ Pj
end
end Go.Proofs.YtogaibncbkhjlaaGreatDoor
end
