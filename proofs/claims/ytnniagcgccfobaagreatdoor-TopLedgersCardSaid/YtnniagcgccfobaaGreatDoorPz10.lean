/- TopLedgers is true whatever its inputs are: no condition but the row's own. -/
import Derived.Test.YtnniagcgccfobaaGreatDoorPz9
import Derived.Test.YtnniagcgccfobaaGreatDoorRows
import Derived.Test.YtnniagcgccfobaaGreatDoorTie
import Derived.Test.YtnniagcgccfobaaGreatDoorCards
noncomputable section
namespace Go.Proofs.YtnniagcgccfobaaGreatDoor.Ex
section
open Go.Dec
variable{r:XR}{n:Nat}{t d:Int}{s s' :Acc}{x:Ev}{p:QB}
theorem Wp{f:Nat->Int}{j:Nat}{v M:Int}(h:∀i,i < 16->0<=f i/\f i<=M)(hv:0<=v/\v<=M):∀i,i < 16->0<=ZC f j v i/\ZC f j v i<=M:=λi hi=>by
 by_cases e:i=j
 ·subst e;rw[VO];exact hv
 ·rw[UT e];exact h i hi
theorem Dh{f:Nat->Int}{j:Nat}{v:Int}(h:∀i,16<=i->f i=0)(hj:j < 16):∀i,16<=i->ZC f j v i=0:=λi hi=>by
 rw[UT (by omega)];exact h i hi
theorem Hh(h:0<=x.Bond/\x.Bond<=15):x.Bond.toNat < 16:=by omega
theorem SC{a b:Int}:(KF a b=a/\a<=b)∨(KF a b=b/\b<=a):=by unfold KF;split<;>omega
theorem Xl{a b:Int}:(imax a b=a/\b<=a)∨(imax a b=b/\a<=b):=by unfold imax;split<;>omega
theorem IW(h:Wq r n t s)(hb:0<=x.Bond/\x.Bond<=15)(ha:1<=x.Amount/\x.Amount<=17179869184)(hd:Dx s x= .inl s'):Wq r (n+1) t s' :=by
 unfold Dx at hd
 split at hd
 ·cases hd
 ·rename_i hlim;simp only[Sum.inl.injEq] at hd
  subst hd;have hj:=Hh hb;have h0:=h.bonds _ hj;have hs:=Xq (f:=s.B.Bonds) (v:=Zb s x+x.Amount) hj;unfold Zb at hlim hs
  have hp:=h.pos;have hm:=h.made;have hw:=h.whole;have hdu:=h.due;have h1:=h.mlen;have h2:=h.ilen
  exact{
   bonds:=Wp h.bonds (by unfold Zb;omega),sums:=h.sums,sorted:=h.sorted,mov:=h.mov,known:=h.known,ids:=h.ids
   mlen:=by show s.B.Moving.length<=_;omega
   ilen:=by show s.Ids.length<=_;omega
   pos:=by simp only[Yq];omega
   made:=by simp only[Yq];omega
   whole:=by simp only[Yq,Zb];omega
   due:=hdu
   out:=Dh h.out hj}
theorem zp(h:Wq r n t s)(hb:0<=x.Bond/\x.Bond<=15)(hto:0<=x.To/\x.To<=15)(hid:0<=x.Id/\x.Id<=1073741824)(ha:1<=x.Amount/\x.Amount<=17179869184)(hr:Jt r)(hday:x.Day=t)(h0t:0<=t)(hd:Pt s x= .inl s'):Wq r (n+1) t s' :=by
 unfold Pt at hd
 split at hd
 ·cases hd
 ·rename_i hne;split at hd
  ·cases hd
  ·rename_i hid';split at hd
   ·cases hd
   ·rename_i hlim;simp only[Sum.inl.injEq] at hd
    subst hd;have hne' :x.Bond≠x.To:=by simpa using hne
    have hnew:x.Id∉s.Ids:=by simpa using hid'
    have hj:=Hh hb;have h0:=h.bonds _ hj;have hs:=Xq (f:=s.B.Bonds) (v:=Zb s x - x.Amount) hj;unfold Zb at hlim hs
    have hp:=h.pos;have hm:=h.made;have hw:=h.whole;have hdu:=h.due;have h1:=h.mlen;have h2:=h.ilen;have hf:JO QB.Amount (Gz (L3 x) s.B.Moving)=x.Amount+JO QB.Amount s.B.Moving:=(H2 DE).trans rfl;have hl:(Gz (L3 x) s.B.Moving).length=s.B.Moving.length+1:=DE.length_eq;have ht:=hr.transit
    exact{
     bonds:=Wp h.bonds (by unfold Zb;omega),sums:=h.sums
     sorted:=X6 h.sorted λp hp e=>hnew (by have:=h.known p hp;rw[e] at this;exact this)
     mov:=λp hp=>by
      rcases NJ.1 hp with rfl | hp
      ·exact⟨ha,hid,hb,hto,hne',⟨by show 0<=x.Day;omega,by show x.Day<=t;omega⟩,by show t < x.Day+r.Transit+1;omega⟩
      ·exact h.mov p hp
     known:=λp hp=>by
      show p.Id∈s.Ids++[x.Id];rcases NJ.1 hp with rfl | hp
      ·simp[L3]
      ·exact List.mem_append_left _ (h.known p hp)
     ids:=λi hi=>by
      have hi:i∈s.Ids++[x.Id]:=hi;rcases List.mem_append.1 hi with hi | hi
      ·exact h.ids i hi
      ·simp only[List.mem_singleton] at hi;subst hi;exact hid
     mlen:=by simp only;omega
     ilen:=by simp only[List.length_append,List.length_singleton];omega
     pos:=by simp only[Yq];omega
     made:=by simp only[Yq];omega
     whole:=by simp only[Yq,Zb];omega
     due:=hdu
     out:=Dh h.out hj}
theorem jU(h:Wq r n t s)(hb:0<=x.Bond/\x.Bond<=15)(ha:0<=x.Amount/\x.Amount<=17179869184)(hr:Jt r)(hp:s.B.Moving.find? (λq=>q.Id==x.Id)=some p)(hlim:¬Zb s x+x.Amount > 17179869184):Wq r (n+1) t (Ml r s x p):=by
 obtain⟨hmem,hid,hperm⟩:=MN h.sorted hp;have hpk:=h.mov p hmem;have hj:=Hh hb;have h0:=h.bonds _ hj;have hs:=Xq (f:=s.B.Bonds) (v:=Zb s x+x.Amount) hj;unfold Zb at hlim hs
 have hpo:=h.pos;have hm:=h.made;have hw:=h.whole;have hdu:=h.due;have h1:=h.mlen;have h2:=h.ilen;have hf:JO QB.Amount s.B.Moving=p.Amount+JO QB.Amount (s.B.Moving.filter (λq=> !(q.Id==x.Id))):=(H2 hperm).trans rfl;have hal:0<=p.Amount*r.Loss / 10000:=Int.ediv_nonneg (Int.mul_nonneg (by have:=hpk.amount;omega) hr.loss.1) (by omega);have e1:=Xl (a:=0) (b:=p.Amount - x.Amount);have e2:=Xl (a:=0) (b:=x.Amount - p.Amount);have e3:=SC (a:=imax 0 (p.Amount - x.Amount)) (b:=p.Amount*r.Loss / 10000);have hpa:=hpk.amount;have hdt:=hr.wi (a:=imax 0 (p.Amount - x.Amount) - KF (imax 0 (p.Amount - x.Amount)) (p.Amount*r.Loss / 10000)) (d:=x.Day) (by omega)
 exact{
  bonds:=Wp h.bonds (by unfold Zb;omega),sums:=h.sums
  sorted:=h.sorted.filter _
  mov:=λp hp=>h.mov p (List.mem_filter.1 hp).1
  known:=λp hp=>h.known p (List.mem_filter.1 hp).1
  ids:=h.ids
  mlen:=by
   have:=List.length_filter_le (λq:QB=> !(q.Id==x.Id)) s.B.Moving;simp only[Ml,FO,Yq];omega
  ilen:=by show s.Ids.length<=_;omega
  pos:=by simp only[Ml,FO,Yq];omega
  made:=by simp only[Ml,FO,Yq];omega
  whole:=by simp only[Ml,FO,Yq,Zb];omega
  due:=by simp only[Ml,FO,Yq];omega
  out:=Dh h.out hj}
theorem zl(h:Wq r n t s)(hb:0<=x.Bond/\x.Bond<=15)(ha:0<=x.Amount/\x.Amount<=17179869184)(hr:Jt r)(h0t:0<=t):Wq r (n+1) t (Sc r s x):=by
 have hj:=Hh hb;have h0:=h.bonds _ hj;have hs:=Xq (f:=s.B.Bonds) (v:=x.Amount) hj;have hpo:=h.pos;have hm:=h.made;have hw:=h.whole;have hdu:=h.due;have h1:=h.mlen;have h2:=h.ilen;have hal:0<=s.Sums x.Bond.toNat*r.Share / 3650000:=Int.ediv_nonneg (Int.mul_nonneg (h.sums _ hj).1 hr.share.1) (by omega);have e1:=Xl (a:=0) (b:=Zb s x - x.Amount);have e2:=Xl (a:=0) (b:=x.Amount - Zb s x);have e3:=SC (a:=imax 0 (Zb s x - x.Amount)) (b:=s.Sums x.Bond.toNat*r.Share / 3650000);have hdt:=hr.wi (a:=imax 0 (Zb s x - x.Amount) - KF (imax 0 (Zb s x - x.Amount)) (s.Sums x.Bond.toNat*r.Share / 3650000)) (d:=x.Day) (by omega);have hh:Zb s x=s.B.Bonds x.Bond.toNat:=rfl
 exact{
  bonds:=Wp h.bonds (by omega)
  sums:=Wp h.sums ⟨Int.le_refl _,Int.mul_nonneg h0t (by omega)⟩
  sorted:=h.sorted
  mov:=h.mov
  known:=h.known
  ids:=h.ids
  mlen:=by show s.B.Moving.length<=_;omega
  ilen:=by show s.Ids.length<=_;omega
  pos:=by simp only[Sc,FO,Yq];omega
  made:=by simp only[Sc,FO,Yq];omega
  whole:=by simp only[Sc,FO,Yq];omega
  due:=by simp only[Sc,FO,Yq];omega
  out:=Dh h.out hj}
theorem Ls(h:Wq r n t s)(hb:0<=x.Bond/\x.Bond<=15)(ha:1<=x.Amount/\x.Amount<=17179869184)(hr:Jt r)(hd:H8 r s x= .inl s'):Wq r (n+1) t s' :=by
 unfold H8 at hd
 split at hd
 ·cases hd
 ·rename_i hlim;simp only[Sum.inl.injEq] at hd
  subst hd;have hj:=Hh hb;have h0:=h.bonds _ hj;have hs:=Xq (f:=s.B.Bonds) (v:=Zb s x - x.Amount) hj;unfold Zb at hlim hs
  have hp:=h.pos;have hm:=h.made;have hw:=h.whole;have hdu:=h.due;have h1:=h.mlen;have h2:=h.ilen;have hdt:=hr.wi (a:=x.Amount) (d:=x.Day) (by omega)
  exact{
   bonds:=Wp h.bonds (by unfold Zb;omega),sums:=h.sums,sorted:=h.sorted,mov:=h.mov,known:=h.known,ids:=h.ids
   mlen:=by show s.B.Moving.length<=_;omega
   ilen:=by show s.Ids.length<=_;omega
   pos:=by simp only[Ru,Yq];omega
   made:=by simp only[Ru,Yq];omega
   whole:=by simp only[Ru,Yq,Zb];omega
   due:=by simp only[Ru,Yq];omega
   out:=Dh h.out hj}
theorem IS(h:Wq r n t s)(hb:0<=x.Bond/\x.Bond<=15)(ha:1<=x.Amount/\x.Amount<=17179869184)(hd:Dt s x= .inl s'):Wq r (n+1) t s' :=by
 unfold Dt at hd
 split at hd
 ·cases hd
 ·rename_i hlim;simp only[Sum.inl.injEq] at hd
  subst hd;have hj:=Hh hb;have h0:=h.bonds _ hj;have hs:=Xq (f:=s.B.Bonds) (v:=Zb s x - x.Amount) hj;unfold Zb at hlim hs
  have hp:=h.pos;have hm:=h.made;have hw:=h.whole;have hdu:=h.due;have h1:=h.mlen;have h2:=h.ilen
  exact{
   bonds:=Wp h.bonds (by unfold Zb;omega),sums:=h.sums,sorted:=h.sorted,mov:=h.mov,known:=h.known,ids:=h.ids
   mlen:=by show s.B.Moving.length<=_;omega
   ilen:=by show s.Ids.length<=_;omega
   pos:=by simp only[Yq];omega
   made:=by simp only[Yq];omega
   whole:=by simp only[Yq,Zb];omega
   due:=hdu
   out:=Dh h.out hj}
theorem jL(h:Wq r n t s)(ha:1<=x.Amount)(hd:Ox s x= .inl s'):Wq r (n+1) t s' :=by
 unfold Ox at hd
 split at hd
 ·cases hd
 ·rename_i hlim;simp only[Sum.inl.injEq] at hd
  subst hd;have hp:=h.pos;have hm:=h.made;have h1:=h.mlen;have h2:=h.ilen
  exact{
   bonds:=h.bonds,sums:=h.sums,sorted:=h.sorted,mov:=h.mov,known:=h.known,ids:=h.ids
   mlen:=by show s.B.Moving.length<=_;omega
   ilen:=by show s.Ids.length<=_;omega
   pos:=by simp only[];omega
   made:=by simp only[];omega
   whole:=h.whole
   due:=h.due
   out:=h.out}
theorem zA(hr:Jt r)(h:Wq r n t s)(h0t:0<=t)(he:WN x=true)(hday:x.Day=t)(hd:GP r s x= .inl s'):Wq r (n+1) t s' :=by
 unfold GP at hd
 rcases Mw he with k | k | k | k | k | k | k<;>simp only[k,beq_iff_eq,Int.reduceEq,if_true,if_false] at hd
 ·have e:=GM he (.inl k);exact IW h e.1 e.2 hd
 ·have e:=OE he k;exact zp h e.1 e.2.1 e.2.2.1 e.2.2.2 hr hday h0t hd
 ·have e:=Ta he k;unfold Fs at hd
  split at hd
  ·cases hd
  ·rename_i p hp;split at hd
   ·cases hd
   ·split at hd
    ·cases hd
    ·rename_i hlim;simp only[Sum.inl.injEq] at hd;subst hd;exact jU h e.1 e.2.2 hr hp hlim
 ·have e:=GM he (.inr (.inl k));exact Ls h e.1 e.2 hr hd
 ·have e:=GM he (.inr (.inr k));exact IS h e.1 e.2 hd
 ·have e:=OD he k;simp only[Sum.inl.injEq] at hd;subst hd;exact zl h e.1 e.2 hr h0t
 ·have e:=qv he k;exact jL h e.1 hd
theorem DY{c c' :AG}(hr:Jt r)(h:Wq r n c.day c.acc)(_h0:0<=c.day)(hs:V0 r c x= .inl c'):Wq r (n+1) c'.day c'.acc/\c.day<=c'.day/\c'.day=x.Day/\WN x=true:=by
 unfold V0 at hs
 split at hs
 ·cases hs
 ·rename_i he;split at hs
  ·cases hs
  ·rename_i hlt;split at hs
   ·rename_i a ha;simp only[Sum.inl.injEq] at hs
    subst hs;have he' :WN x=true:=by simpa using he
    exact⟨zA hr (NA hr h (show c.day<=x.Day by omega)) (by have:=(qw he').1;exact this) he' rfl ha,by show c.day<=x.Day;omega,rfl,he'⟩
   ·cases hs
end
section
open Go.Dec
variable{r:XR}{n:Nat}{t d:Int}{s s' :Acc}{x:Ev}{p:QB}
theorem Fg{i:Nat}(h:i<=4294967296):Qy ((i:Int)+1)=((i+1:Nat):Int):=by rw[Q8 (by omega) (by omega)];rfl
theorem q8(hr:Jt r){a:Int}(ha:0<=a)(hb:a<=17179869184)(day:Int):Qy (Int.tdiv (Qy (a*HS r.Rates day)) 1000)=Vf r a day:=by
 have h:=hr.gE (d:=day) ha hb;rw[Q8 (n:=a*HS r.Rates day) (by omega) (by omega),Int.tdiv_eq_ediv_of_nonneg h.1];unfold Vf;rw[Q8 (by omega) (by omega)]
end
section
open Go.Dec
variable{r:XR}{n:Nat}{t d:Int}{s s' :Acc}{x:Ev}{p:QB}
theorem Af{f g:QB->Int}:∀{l:List QB},(∀p∈l,f p=g p)->JO f l=JO g l
 | [],_=>rfl
 | p::l,h=>by simp only[JO];rw[h p (List.mem_cons_self ..),Af (l:=l) λq hq=>h q (List.mem_cons_of_mem _ hq)]
def NF(r:XR)(next:Int)(s:Acc)(pre post:List QB):Acc:=
 {s with B:={s.B with Moving:=pre++post.filter (λp=> !(Qw r p==next)),Used:=s.B.Used+JO QB.Amount (post.filter (λp=>Qw r p==next)),Due:=s.B.Due+JO (λp=>Vf r p.Amount next) (post.filter (λp=>Qw r p==next))}}
end
section
open Go.Dec
variable{r:XR}{n:Nat}{t d:Int}{s s' :Acc}{x:Ev}{p:QB}
theorem DF(h:0<=x.Bond/\x.Bond<=15):Kj 16 x.Bond=some x.Bond.toNat:=by unfold Kj;rw[if_pos (by omega)]
theorem U6(h:Wq r n t s)(hb:0<=x.Bond/\x.Bond<=15):0<=Zb s x/\Zb s x<=17179869184:=h.bonds _ (Hh hb)
end
section
open Go.Dec
variable{r:XR}{n:Nat}{t d:Int}{s s' :Acc}{x:Ev}{p:QB}
theorem Xm(n a b:Int):Qz n a b=Vv n a b:=by unfold Qz Vv;exact rfl
theorem SI(n:Int):Z0 n=Vv n 0 65536:=by unfold Z0;exact Xm ..
theorem kM(n:Int):ZS n=FU n:=by unfold ZS FU;exact Xm ..
theorem BS(r:XR)(hl:r.Rates.length<=1000000):∀(k i:Nat) (last:Int),i+k=r.Rates.length->
  Qk (Kv r) (last,(i:Int))=some (if Xc last (r.Rates.drop i) then .inl () else .inr false)
 | 0,i,last,hi=>by
  have:Kv r (last,(i:Int))=some (.done (.inl ())):=by unfold Kv;rw[if_neg (by simp;omega)]
  rw[Q9,List.drop_eq_nil_of_le (by omega),this];rfl
 | k+1,i,last,hi=>by
  have hil:i < r.Rates.length:=by omega
  have hx:r.Rates[i]? =some r.Rates[i]:=by simp[hil]
  have step:Kv r (last,(i:Int))=some (if Vv r.Rates[i].From 0 65536&&decide (last < r.Rates[i].From)&&Vv r.Rates[i].Rate 0 1048576 then .next (r.Rates[i].From,((i+1:Nat):Int)) else .done (.inr false)):=by
   unfold Kv;rw[if_pos (by simp;omega)];simp only[ZF,hx,Option.bind_some,Xm,SI,Fg (by omega:i<=4294967296)];by_cases c1:Vv r.Rates[i].From 0 65536=true
   case neg=>simp only[Bool.not_eq_true] at c1;simp[c1]
   case pos=>
    by_cases c2:Vv r.Rates[i].Rate 0 1048576=true
    case neg=>simp only[Bool.not_eq_true] at c2;simp[c1,c2]
    case pos=>
     by_cases c3:r.Rates[i].From<=last
     ·have:decide (last < r.Rates[i].From)=false:=by simp;omega
      simp[c1,c2,c3,this]
     ·have:decide (last < r.Rates[i].From)=true:=by simp;omega
      simp[c1,c2,c3,this]
  rw[Q9,List.drop_eq_getElem_cons hil,step];by_cases hc:(Vv r.Rates[i].From 0 65536&&decide (last < r.Rates[i].From)&&Vv r.Rates[i].Rate 0 1048576)=true
  case neg=>simp only[Bool.not_eq_true] at hc;simp[Xc,hc]
  case pos=>
   simp only[Xc,hc,if_true,Bool.true_and];exact BS r hl k (i+1) r.Rates[i].From (by omega)
theorem BR(hl:r.Rates.length<=1000000):YI r=some (Ho r):=by
 unfold YI Ho;have hloop:=BS r hl r.Rates.length 0 (-1) (by omega);simp only[Int.natCast_zero,List.drop_zero] at hloop
 simp only[QL,Xm,SI];refine QE hloop ?_;by_cases ho:Xc (-1) r.Rates=true
 case neg=>simp only[Bool.not_eq_true] at ho;simp[ho]
 case pos=>
  simp only[ho,if_true,Bool.and_true];by_cases h1:Vv (r.Rates.length:Int) 1 64=true
  case neg=>simp only[Bool.not_eq_true] at h1;simp[h1]
  case pos=>
   have hl1:=JN.1 h1
   obtain⟨y,l,e⟩:∃y l,r.Rates=y::l:=by
    cases hr:r.Rates with
    | nil=>rw[hr] at hl1;simp at hl1
    | cons y l=>exact⟨y,l,rfl⟩
   have hx:Zi r.Rates 0=some y:=by
    have:=ZF r.Rates 0;rw[e] at this ⊢;exact this
   have hm:NT r.Rates=(y.From==0):=by rw[e];rfl
   simp only[h1,if_true,hx,Option.bind_some,hm,Bool.true_and]
theorem Gy(x:Ev):VV x=some (WN x):=by
 unfold VV WN;simp only[Xm,SI,kM,QL]
 have h0:(Vv x.Amount 1 17179869184||x.Amount==0)=Vv x.Amount 0 17179869184:=by
  rw[Bool.eq_iff_iff];simp[Vv];omega
 rw[h0];by_cases h1:Vv x.Day 0 65536=true
 case neg=>simp only[Bool.not_eq_true] at h1;simp[h1]
 case pos=>
  simp only[h1,Bool.not_true,Bool.false_eq_true,if_false,Bool.true_and];by_cases k0:(x.Kind==0)=true
  ·simp[k0]
  ·simp only[Bool.not_eq_true] at k0
   by_cases k3:(x.Kind==3)=true
   ·simp[k0,k3]
   ·simp only[Bool.not_eq_true] at k3
    by_cases k4:(x.Kind==4)=true
    ·simp[k0,k3,k4]
    ·simp only[Bool.not_eq_true] at k4
     simp only[k0,k3,k4,Bool.or_self,Bool.false_eq_true,if_false,Option.bind_some];by_cases k1:(x.Kind==1)=true
     ·rw[if_pos k1,if_pos k1]
     ·rw[if_neg k1,if_neg k1];by_cases k2:(x.Kind==2)=true
      ·rw[if_pos k2,if_pos k2]
      ·rw[if_neg k2,if_neg k2];by_cases k5:(x.Kind==5)=true
       ·rw[if_pos k5,if_pos k5]
       ·rw[if_neg k5,if_neg k5];by_cases k6:(x.Kind==6)=true
        ·rw[if_pos k6,if_pos k6]
        ·rw[if_neg k6,if_neg k6]
theorem qq{m:Int}(h0:0<=m)(h1:m<=2000000):Qy (N3 .u64 (IntKind.u64.wrap (Qy m)) 1)=m / 2:=by
 rw[Q8 (n:=m) (by omega) (by omega)];have e:IntKind.u64.bits=64:=rfl
 have hw:IntKind.u64.wrap m=m:=by
  simp only[IntKind.wrap,e];simp[IntKind.signed];omega
 rw[hw]
 have hs:N3 .u64 m 1=m / 2:=by
  unfold N3;have:(2:Int)^(min (Int.toNat 1) IntKind.u64.bits)=2:=by decide
  rw[this,Int.fdiv_eq_ediv_of_nonneg _ (by omega)]
 rw[hs,Q8 (by omega) (by omega)]
def VQ(l:List Zm)(day:Int):Nat:=(l.takeWhile (λx=>decide (x.From<=day))).length
theorem H9{day:Int}:∀{l:List Zm},l.Pairwise (λx y=>x.From < y.From)->VQ l day<=l.length/\(∀i x,l[i]? =some x->(x.From<=day↔i < VQ l day))
 | [],_=>⟨Nat.le_refl _,λi x h=>by simp at h⟩
 | y::l,h=>by
  have hy:=List.pairwise_cons.1 h;have ih:=H9 (day:=day) hy.2;unfold VQ at ih ⊢
  rw[List.takeWhile_cons];by_cases hc:y.From<=day
  ·simp only[hc,decide_true,if_true,List.length_cons];refine⟨by omega,λi x hx=> ?_⟩;cases i with
   | zero=>simp at hx;subst hx;simp[hc]
   | succ i=>
    simp only[List.getElem?_cons_succ] at hx
    have:=ih.2 i x hx;omega
  ·simp only[hc,decide_false,Bool.false_eq_true,if_false,List.length_nil];refine⟨Nat.zero_le _,λi x hx=> ?_⟩;cases i with
   | zero=>simp at hx;subst hx;omega
   | succ i=>
    simp only[List.getElem?_cons_succ] at hx
    have:=hy.1 x (List.mem_of_getElem? hx);omega
theorem P1{day:Int}:∀{l:List Zm} (a:Int),l.Pairwise (λx y=>x.From < y.From)->l.foldl (λown x=>if x.From<=day then x.Rate else own) a=if VQ l day=0 then a else match l[VQ l day - 1]? with | some x=>x.Rate | none=>a
 | [],a,_=>rfl
 | y::l,a,h=>by
  have hy:=List.pairwise_cons.1 h;have hsp:=H9 (day:=day) h;rw[List.foldl_cons,P1 _ hy.2];have hrl:=(H9 (day:=day) hy.2).1;by_cases hc:y.From<=day
  ·have e:VQ (y::l) day=VQ l day+1:=by unfold VQ;rw[List.takeWhile_cons];simp[hc]
   rw[e];simp only[hc,if_true,Nat.add_one_ne_zero,if_false,Nat.add_sub_cancel];by_cases h0:VQ l day=0
   ·rw[if_pos h0,h0];rfl
   ·rw[if_neg h0];have:VQ l day=(VQ l day - 1)+1:=by omega
    conv=>rhs;rw[this,List.getElem?_cons_succ]
    have hlt:VQ l day - 1 < l.length:=by omega
    rw[List.getElem?_eq_getElem hlt]
  ·have e:VQ (y::l) day=0:=by unfold VQ;rw[List.takeWhile_cons];simp[hc]
   have e2:VQ l day=0:=by
    cases hl:l with
    | nil=>rfl
    | cons z l' =>
     unfold VQ;rw[List.takeWhile_cons];have:=hy.1 z (by rw[hl];simp);have:¬z.From<=day:=by omega
     simp[this]
   rw[if_pos e2,if_pos e,if_neg hc]
theorem N8(hr:Jt r){day:Int}:Up (r.Rates.length:Int) (λx=>K5 x r day)=some (VQ r.Rates day:Int):=by
 have hsp:=H9 (day:=day) hr.sorted;have hlen:=hr.len
 have key:=TH (body:=Yx (λx=>K5 x r day)) (λs:Int×Int=>0<=s.1/\s.1<=VQ r.Rates day/\(VQ r.Rates day:Int)<=s.2/\s.2<=r.Rates.length) (λs=>(s.2 - s.1).toNat) (λb=>b=(VQ r.Rates day:Int)) (λs hs=>by
  obtain⟨i,j⟩:=s;obtain⟨h1,h2,h3,h4⟩:=hs;simp only at h1 h2 h3 h4
  by_cases hc:i < j
  ·left;have hh:=qq (m:=i+j) (by omega) (by omega);have hm0:i<=(i+j) / 2:=by omega
   have hm1:(i+j) / 2 < j:=by omega
   obtain⟨y,hy1,hy2⟩:=kG (l:=r.Rates) (i:=(i+j) / 2) (by omega) (by omega);have hf:K5 ((i+j) / 2) r day=some (decide (y.From > day)):=by unfold K5;rw[hy1];rfl
   have hiff:=hsp.2 _ y hy2;by_cases hg:y.From > day
   ·refine⟨(i,(i+j) / 2),?_,⟨by simp only;omega,by simp only;omega,?_,by simp only;omega⟩,by simp only;omega⟩
    ·unfold Yx;rw[if_pos (by simpa using hc)];simp only[hh,QL,hf,Option.bind_some,hg,decide_true,Bool.not_true,Bool.false_eq_true,if_false]
    ·simp only;omega
   ·refine⟨((i+j) / 2+1,j),?_,⟨by simp only;omega,?_,by simp only;omega,by simp only;omega⟩,by simp only;omega⟩
    ·unfold Yx;rw[if_pos (by simpa using hc)];simp only[hh,QL,hf,Option.bind_some,hg,decide_false,Bool.not_false,if_true];rw[Q8 (n:=(i+j) / 2+1) (by omega) (by omega)]
    ·simp only;omega
  ·right;refine⟨i,?_,by omega⟩;unfold Yx;rw[if_neg (by simpa using hc)])
 obtain⟨b,hb,hq⟩:=key r.Rates.length (0,(r.Rates.length:Int)) (by simp) ⟨by simp,by simp,by simp;exact hsp.1,by simp⟩;unfold Up;rw[hb,hq];rfl
theorem SK(hr:Jt r){a day:Int}(ha:0<=a)(hb:a<=17179869184)(hd:0<=day):VA r a day=some (Vf r a day):=by
 have hsp:=H9 (day:=day) hr.sorted;have hlen:=hr.len;obtain⟨y,l,e,e0⟩:=hr.first;have h1:0 < VQ r.Rates day:=(hsp.2 0 y (by rw[e];rfl)).1 (by omega);have hlt:VQ r.Rates day - 1 < r.Rates.length:=by omega
 have hx:r.Rates[VQ r.Rates day - 1]? =some r.Rates[VQ r.Rates day - 1]:=List.getElem?_eq_getElem hlt
 have hrate:HS r.Rates day=r.Rates[VQ r.Rates day - 1].Rate:=by
  unfold HS;rw[P1 _ hr.sorted,if_neg (by omega),hx]
 unfold VA;refine QE (N8 hr) ?_;have hw:Qy ((VQ r.Rates day:Int) - 1)=((VQ r.Rates day - 1:Nat):Int):=by rw[Q8 (by omega) (by omega)];omega
 simp only[QL,hw,ZF,hx,Option.bind_some,<-hrate];rw[q8 hr ha hb]
end
section
open Go.Dec
variable{r:XR}{n:Nat}{t d:Int}{s s' :Acc}{x:Ev}{p:QB}
abbrev PM:=List (List (Int×QB))
abbrev KM:=List (List (Int×Bool))
def X5(p:QB):Int×QB:=(p.Id,p)
def KE(r:XR)(t:Int)(s:Acc):QC:=⟨r,{s.B with Moving:=[]},some 0,some 0,s.Sums,t⟩
structure PR(r:XR)(t:Int)(s:Acc)(A1:List QC)(A2:PM)(A3:KM):Prop where
 o:A1=[KE r t s]
 m:∃m,A2=[m]/\m.Perm (s.B.Moving.map X5)
 k:∃k rest,A3=k::rest/\(k.map Prod.fst).Nodup/\∀i,(Q5 k i).getD false=s.Ids.contains i
theorem X4{l:List QB}(h:l.Pairwise (λp q=>p.Id < q.Id)):((l.map X5).map Prod.fst).Nodup:=by
 have:(l.map X5).map Prod.fst=l.map QB.Id:=by rw[List.map_map];rfl
 rw[this];rw[List.Nodup,List.pairwise_map];exact h.imp λh=>Int.ne_of_lt h
theorem OB{i:Int}:∀{l:List QB},Q5 (l.map X5) i=l.find? (λq=>q.Id==i)
 | []=>rfl
 | q::l=>by
  simp only[List.map_cons,X5,Q5,List.find?_cons];by_cases h:i=q.Id
  ·subst h;simp
  ·have h1:(i==q.Id)=false:=by simpa using h
   have h2:(q.Id==i)=false:=by simpa using Ne.symm h
   simp only[h1,h2,Bool.false_eq_true,if_false];exact OB
theorem Mm{m:List (Int×QB)}{l:List QB}{i:Int}(hs:l.Pairwise (λp q=>p.Id < q.Id))(h:m.Perm (l.map X5)):Q5 m i=l.find? (λq=>q.Id==i):=by
 rw[WJ h (X4 hs),OB]
theorem EJ{i:Int}{l:List QB}:(l.map X5).filter (λx=> !(i==x.1))=(l.filter (λq=> !(q.Id==i))).map X5:=by
 rw[List.filter_map];congr 1;refine List.filter_congr λq _=> ?_;show(!(i==q.Id))= !(q.Id==i);rw[Bool.beq_comm]
theorem zB{m:List (Int×QB)}{l:List QB}{i:Int}(hs:l.Pairwise (λp q=>p.Id < q.Id))(h:m.Perm (l.map X5)):(Kr m i).Perm ((l.filter (λq=> !(q.Id==i))).map X5):=by
 have h1:=DB (k:=i) h (X4 hs)
 rwa[Vn (X4 hs),EJ] at h1
abbrev yQ:=Out ZX (List QC×PM×KM)
def Ul(r:XR)(t:Int)(out:Acc ⊕ Int)(q:Option yQ):Prop:=match out with
 | .inl s' =>∃A1 A2 A3,q=some (.ok (A1,A2,A3))/\PR r t s' A1 A2 A3
 | .inr e=>q=some (.pan ⟨e⟩)
theorem DA(e:Int):KO true e=some (.ok ()):=rfl
theorem C0(e:Int):KO false e=some (.pan ⟨e⟩):=rfl
theorem Y7{ε α β:Type}{e:Option (Out ε α)}{gp:ε->Option β}{g:α->Option β}{x:α}(h:e=some (.ok x)):ZH e gp g=g x:=by rw[h];rfl
theorem Yw{ε α β:Type}{e:Option (Out ε α)}{gp:ε->Option β}{g:α->Option β}{x:ε}(h:e=some (.pan x)):ZH e gp g=gp x:=by rw[h];rfl
variable{A1:List QC}{A2:PM}{A3:KM}
theorem Py(h:Wq r n t s)(hp:PR r t s A1 A2 A3)(hb:0<=x.Bond/\x.Bond<=15)(ha:0<=x.Amount/\x.Amount<=17179869184):
  JE A1 (some 0) x=if Zb s x+x.Amount > 17179869184 then some (.pan ⟨12⟩) else some (.ok ()):=by
 have hh:=U6 h hb;have e:(KE r t s).book.Bonds x.Bond.toNat=Zb s x:=rfl;unfold JE;rw[hp.o];simp only[Option.bind_some,DF hb,List.getElem?_cons_zero];rw[e,Q8 (n:=Zb s x+x.Amount) (by omega) (by omega)];by_cases hlim:Zb s x+x.Amount > 17179869184
 ·have e1:decide (Zb s x+x.Amount<=17179869184)=false:=by simp;omega
  rw[e1,if_pos hlim];rfl
 ·have e1:decide (Zb s x+x.Amount<=17179869184)=true:=by simp;omega
  rw[e1,if_neg hlim];rfl
theorem Xp(h:Wq r n t s)(hp:PR r t s A1 A2 A3)(hb:0<=x.Bond/\x.Bond<=15)(ha:1<=x.Amount/\x.Amount<=17179869184):
  Ki A1 (some 0) x=if Zb s x < x.Amount then some (.pan ⟨10⟩) else some (.ok [KE r t (Yq s x (Zb s x - x.Amount))]):=by
 have hh:=U6 h hb;have e:(KE r t s).book.Bonds x.Bond.toNat=Zb s x:=rfl;unfold Ki;rw[hp.o];simp only[Option.bind_some,DF hb,List.getElem?_cons_zero];rw[e];by_cases hlim:Zb s x < x.Amount
 ·have e1:decide (Zb s x≥x.Amount)=false:=by simp;omega
  rw[e1,if_pos hlim];rfl
 ·have e1:decide (Zb s x≥x.Amount)=true:=by simp;omega
  rw[e1,if_neg hlim,Q8 (n:=Zb s x - x.Amount) (by omega) (by omega)];rfl
theorem M2(h:Wq r n t s)(hn:n<=1000)(hp:PR r t s A1 A2 A3)(he:WN x=true)(k:x.Kind=0):Ul r t (Dx s x) (Ko A1 A2 A3 (some 0) x):=by
 obtain⟨hb,ha⟩:=GM he (.inl k);have hh:=U6 h hb;have hl:=h.lim;have hpo:=h.pos;have hr:=Py h hp hb (by omega);unfold Ko Dx Ul;by_cases hlim:Zb s x+x.Amount > 17179869184
 ·rw[if_pos hlim] at hr ⊢
  rw[Yw hr]
 ·rw[if_neg hlim] at hr ⊢
  rw[Y7 hr];refine⟨[KE r t {Yq s x (Zb s x+x.Amount) with B:={(Yq s x (Zb s x+x.Amount)).B with Made:=s.B.Made+x.Amount}}],A2,A3,?_,rfl,hp.m,hp.k⟩;rw[hp.o];have e:(KE r t s).book.Bonds x.Bond.toNat=Zb s x:=rfl;have e2:(KE r t s).book.Made=s.B.Made:=rfl;simp only[Option.bind_some,DF hb,List.getElem?_cons_zero,QL,e,e2];rw[Q8 (n:=Zb s x+x.Amount) (by omega) (by omega),Q8 (n:=s.B.Made+x.Amount) (by omega) (by omega)];rfl
theorem IC{k:List (Int×Bool)}{ids:List Int}{id:Int}(hn:(k.map Prod.fst).Nodup)(h:∀i,(Q5 k i).getD false=ids.contains i)(i:Int):(Q5 (ZL k id true) i).getD false=(ids++[id]).contains i:=by
 have hp:=Kk (l:=k) (k:=id) (v:=true) hn;have hnd:(((id,true)::k.filter (λx=> !(id==x.1))).map Prod.fst).Nodup:=(hp.map Prod.fst).nodup_iff.1 (Kl hn);rw[WJ hp hnd];simp only[Q5];by_cases e:i=id
 ·subst e;simp
 ·have e1:(i==id)=false:=by simpa using e
  rw[e1];simp only[Bool.false_eq_true,if_false]
  have e2:Q5 (k.filter (λx=> !(id==x.1))) i=Q5 k i:=by
   clear hn h hp hnd
   induction k with
   | nil=>rfl
   | cons y k ih=>
    rw[List.filter_cons];by_cases h1:id=y.1
    ·have h2:(id==y.1)=true:=by simpa using h1
     have h3:(i==y.1)=false:=by simp;intro h;exact e (h.trans h1.symm)
     simp only[h2,Bool.not_true,Bool.false_eq_true,if_false,Q5,h3,ih]
    ·have h2:(id==y.1)=false:=by simpa using h1
     simp only[h2,Bool.not_false,if_true,Q5,ih]
  rw[e2,h];simp[e]
theorem Oe(h:Wq r n t s)(hp:PR r t s A1 A2 A3)(he:WN x=true)(k:x.Kind=1):Ul r t (Pt s x) (JD A1 A2 A3 (some 0) x):=by
 obtain⟨hb,hto,hid,ha⟩:=OE he k;have hh:=U6 h hb;have hdr:=Xp h hp hb ha;obtain⟨m,hm,hmp⟩:=hp.m;obtain⟨kk,rest,hk,hkn,hkg⟩:=hp.k;unfold JD Pt Ul;by_cases hne:(x.Bond==x.To)=true
 ·have e1:(x.Bond != x.To)=false:=by simp[bne,hne]
  rw[e1,if_pos hne,Yw (C0 11)]
 ·have e1:(x.Bond != x.To)=true:=by simp only[bne];simp only[Bool.not_eq_true] at hne;rw[hne];rfl
  rw[e1,if_neg hne,Y7 (DA 11)];have o1:(A1[0]?)=some (KE r t s):=by rw[hp.o];rfl
  have k0:(A3[0]?)=some kk:=by rw[hk];rfl
  have kn:(KE r t s).known=some 0:=rfl;simp only[Option.bind_some,o1,kn,k0,hkg];by_cases hc:s.Ids.contains x.Id=true
  ·rw[if_pos hc,hc];rw[Bool.not_true,Yw (C0 5)]
  ·have hc' :s.Ids.contains x.Id=false:=by simpa using hc
   rw[if_neg hc,hc',Bool.not_false,Y7 (DA 5)];by_cases hlim:Zb s x < x.Amount
   ·rw[if_pos hlim] at hdr ⊢
    rw[Yw hdr]
   ·rw[if_neg hlim] at hdr ⊢
    rw[Y7 hdr];have m0:(A2[0]?)=some m:=by rw[hm];rfl
    have mo:(KE r t (Yq s x (Zb s x - x.Amount))).moving=some 0:=rfl;have kn2:(KE r t (Yq s x (Zb s x - x.Amount))).known=some 0:=rfl;refine⟨_,_,_,by simp only[List.getElem?_cons_zero,Option.bind_some,kn2,k0,mo,m0,QL];rfl,rfl,⟨ZL m x.Id (L3 x),by rw[hm];rfl,?_⟩,⟨ZL kk x.Id true,rest,by rw[hk];rfl,Kl hkn,IC hkn hkg⟩⟩
    have hnew:∀q∈s.B.Moving,q.Id≠x.Id:=λq hq e=>by
     have:=h.known q hq;rw[e] at this
     rw[<-Bool.not_eq_true,List.contains_iff_mem] at hc';exact hc' this
    have h1:=Kk (l:=m) (k:=x.Id) (v:=L3 x) ((hmp.map Prod.fst).nodup_iff.2 (X4 h.sorted))
    have h2:m.filter (λe=> !(x.Id==e.1))=m:=List.filter_eq_self.2 λe he=>by
     obtain⟨q,hq,rfl⟩:=List.mem_map.1 (hmp.mem_iff.1 he);have:=hnew q hq;simp[X5];exact Ne.symm this
    rw[h2] at h1
    refine h1.trans ?_;refine(hmp.cons _).trans ?_;have h3:=(DE (q:=L3 x) (l:=s.B.Moving)).symm.map X5;exact h3
theorem N4(hr:Jt r)(h:Wq r n t s)(hn:n<=1000)(h0:0<=t){u:Acc}(hu:u.B.Bonds x.Bond.toNat=0∨u.B.Bonds x.Bond.toNat=Zb s x)(hb:0<=x.Bond/\x.Bond<=15){was is allowed:Int}(hwas:0<=was/\was<=17179869184)(his:0<=is/\is<=17179869184)(hal:0<=allowed/\allowed<=4611686018427387904)
  (hF:u.B.Found=s.B.Found) (hL:u.B.Lost=s.B.Lost) (hC:u.B.Charged=s.B.Charged) (hD:u.B.Due=s.B.Due):
  Jc [KE r t u] (some 0) x.Bond was is allowed=some [KE r t (FO r t (imax 0 (was - is)) allowed {Yq u x (u.B.Bonds x.Bond.toNat+is) with B:={(Yq u x (u.B.Bonds x.Bond.toNat+is)).B with Found:=u.B.Found+imax 0 (is - was)}})]:=by
 have hh:=U6 h hb;have hl:=h.lim;have hpo:=h.pos;have hdu:=h.due;have e1:=Xl (a:=0) (b:=was - is);have e2:=Xl (a:=0) (b:=is - was);have e3:=SC (a:=imax 0 (was - is)) (b:=allowed);have hd:=hr.wi (a:=imax 0 (was - is) - KF (imax 0 (was - is)) allowed) (d:=t) (by omega);unfold Jc;simp only[Option.bind_some,DF hb,List.getElem?_cons_zero,QL];rw[Q8 (n:=is - was) (by omega) (by omega),Q8 (n:=was - is) (by omega) (by omega),Q8 (n:=imax 0 (was - is) - KF (imax 0 (was - is)) allowed) (by omega) (by omega)];refine QE (SK hr (by omega) (by omega) h0) ?_;simp only[KE,List.set_cons_zero];rw[Q8 (n:=u.B.Bonds x.Bond.toNat+is) (by omega) (by omega),Q8 (n:=u.B.Found+imax 0 (is - was)) (by omega) (by omega),Q8 (n:=u.B.Lost+KF (imax 0 (was - is)) allowed) (by omega) (by omega),Q8 (n:=u.B.Charged+(imax 0 (was - is) - KF (imax 0 (was - is)) allowed)) (by omega) (by omega),Q8 (n:=u.B.Due+Vf r (imax 0 (was - is) - KF (imax 0 (was - is)) allowed) t) (by omega) (by omega)];rfl
theorem R5(hr:Jt r)(h:Wq r n t s)(hn:n<=1000)(h0:0<=t)(hp:PR r t s A1 A2 A3)(he:WN x=true)(k:x.Kind=2)(hday:x.Day=t):Ul r t (Fs r s x) (Kc A1 A2 A3 (some 0) x):=by
 obtain⟨hb,hid,ha⟩:=Ta he k;have hh:=U6 h hb;have hro:=Py h hp hb ha;obtain⟨m,hm,hmp⟩:=hp.m;have o1:(A1[0]?)=some (KE r t s):=by rw[hp.o];rfl
 have m0:(A2[0]?)=some m:=by rw[hm];rfl
 have mo:(KE r t s).moving=some 0:=rfl;unfold Kc Fs Ul;simp only[Option.bind_some,o1,mo,m0,QL,Mm h.sorted hmp];cases hq:s.B.Moving.find? (λq=>q.Id==x.Id) with
 | none=>rfl
 | some p=>
  obtain⟨hmem,hpid,_⟩:=MN h.sorted hq;have hpk:=h.mov p hmem;have hpa:=hpk.amount;simp only[Option.isSome_some,Option.getD_some];rw[Y7 (DA 4)];by_cases hto:(p.To != x.Bond)=true
  ·have e1:(p.To==x.Bond)=false:=by simpa[bne] using hto
   rw[e1,Yw (C0 11),if_pos hto]
  ·have e1:(p.To==x.Bond)=true:=by simpa[bne] using hto
   rw[e1,Y7 (DA 11),if_neg hto];by_cases hlim:Zb s x+x.Amount > 17179869184
   ·rw[if_pos hlim] at hro ⊢
    rw[Yw hro]
   ·rw[if_neg hlim] at hro ⊢
    rw[Y7 hro];have hlo:=hr.loss;have hal0:0<=p.Amount*r.Loss:=Int.mul_nonneg (by omega) hlo.1;have hal1:p.Amount*r.Loss<=17179869184*10000:=Int.mul_le_mul hpa.2 hlo.2 hlo.1 (by omega);have hru:(KE r t s).rules.Loss=r.Loss:=rfl;have hset:=N4 (x:=x) hr h hn h0 (u:=s) (.inr rfl) hb (was:=p.Amount) (is:=x.Amount) (allowed:=p.Amount*r.Loss / 10000) (by omega) ha (by omega) rfl rfl rfl rfl;simp only[hru];rw[Q8 (n:=p.Amount*r.Loss) (by omega) (by omega),Int.tdiv_eq_ediv_of_nonneg hal0,Q8 (n:=p.Amount*r.Loss / 10000) (by omega) (by omega)];refine⟨_,_,_,QE (by rw[hp.o];exact hset) rfl,?_,⟨Kr m x.Id,by rw[hm];rfl,zB h.sorted hmp⟩,hp.k⟩;unfold Ml;rw[hday];rfl
theorem Nu(hr:Jt r){u:Acc}{a day:Int}(ha:0<=a/\a<=17179869184)(hd:0<=day)(hU:0<=u.B.Used/\u.B.Used<=4611686018427387904)(hD:0<=u.B.Due/\u.B.Due<=4611686018427387904):
  Jb [KE r t u] (some 0) a day=some [KE r t (Ru r a day u)]:=by
 have hdu:=hr.wi (a:=a) (d:=day) (by omega);unfold Jb;simp only[Option.bind_some,List.getElem?_cons_zero,QL];refine QE (SK hr ha.1 ha.2 hd) ?_;simp only[KE,List.set_cons_zero];rw[Q8 (n:=u.B.Used+a) (by omega) (by omega),Q8 (n:=u.B.Due+Vf r a day) (by omega) (by omega)];rfl
theorem R4(hr:Jt r)(h:Wq r n t s)(hn:n<=1000)(hp:PR r t s A1 A2 A3)(he:WN x=true)(k:x.Kind=3):Ul r t (H8 r s x) (Kb A1 A2 A3 (some 0) x):=by
 obtain⟨hb,ha⟩:=GM he (.inr (.inl k));have hdr:=Xp h hp hb ha;have hl:=h.lim;have hpo:=h.pos;have hdu:=h.due;unfold Kb H8 Ul;by_cases hlim:Zb s x < x.Amount
 ·rw[if_pos hlim] at hdr ⊢
  rw[Yw hdr]
 ·rw[if_neg hlim] at hdr ⊢
  rw[Y7 hdr];exact⟨_,_,_,QE (Nu hr (by omega) (qw he).1 ⟨by show 0<=s.B.Used;omega,by show s.B.Used<=_;omega⟩ ⟨by show 0<=s.B.Due;omega,by show s.B.Due<=_;omega⟩) rfl,rfl,hp.m,hp.k⟩
theorem Mv(h:Wq r n t s)(hn:n<=1000)(hp:PR r t s A1 A2 A3)(he:WN x=true)(k:x.Kind=4):Ul r t (Dt s x) (Kn A1 A2 A3 (some 0) x):=by
 obtain⟨hb,ha⟩:=GM he (.inr (.inr k));have hdr:=Xp h hp hb ha;have hl:=h.lim;have hpo:=h.pos;unfold Kn Dt Ul;by_cases hlim:Zb s x < x.Amount
 ·rw[if_pos hlim] at hdr ⊢
  rw[Yw hdr]
 ·rw[if_neg hlim] at hdr ⊢
  rw[Y7 hdr];have e:(KE r t (Yq s x (Zb s x - x.Amount))).book.Exported=s.B.Exported:=rfl;refine⟨[KE r t {Yq s x (Zb s x - x.Amount) with B:={(Yq s x (Zb s x - x.Amount)).B with Exported:=s.B.Exported+x.Amount}}],A2,A3,?_,rfl,hp.m,hp.k⟩;simp only[Option.bind_some,List.getElem?_cons_zero,QL,e];rw[Q8 (n:=s.B.Exported+x.Amount) (by omega) (by omega)];rfl
theorem OY(hr:Jt r)(h:Wq r n t s)(hn:n<=1000)(h0:0<=t)(ht:t<=65536)(hp:PR r t s A1 A2 A3)(he:WN x=true)(k:x.Kind=5)(hday:x.Day=t):Ul r t (.inl (Sc r s x)) (JC A1 A2 A3 (some 0) x):=by
 obtain⟨hb,ha⟩:=OD he k;have hh:=U6 h hb;have hsu:=h.sums _ (Hh hb);have hsh:=hr.share;have hal0:0<=s.Sums x.Bond.toNat*r.Share:=Int.mul_nonneg hsu.1 hsh.1;have hal1:s.Sums x.Bond.toNat*r.Share<=65536*17179869184*1000:=Int.mul_le_mul (by omega) hsh.2 hsh.1 (by omega);have e1:(KE r t s).sums x.Bond.toNat=s.Sums x.Bond.toNat:=rfl;have e2:(KE r t s).rules.Share=r.Share:=rfl;have e3:(KE r t s).book.Bonds x.Bond.toNat=Zb s x:=rfl;have hset:=N4 (x:=x) hr h hn h0 (u:={Yq s x 0 with Sums:=ZC s.Sums x.Bond.toNat 0}) (.inl VO) hb (was:=Zb s x) (is:=x.Amount) (allowed:=s.Sums x.Bond.toNat*r.Share / 3650000) hh ha (by omega) rfl rfl rfl rfl;unfold JC Ul;rw[hp.o];simp only[Option.bind_some,DF hb,List.getElem?_cons_zero,QL,e1,e2,e3,List.set_cons_zero];rw[Q8 (n:=s.Sums x.Bond.toNat*r.Share) (by omega) (by omega),Int.tdiv_eq_ediv_of_nonneg hal0,Q8 (n:=s.Sums x.Bond.toNat*r.Share / 3650000) (by omega) (by omega)];refine⟨_,_,_,QE hset rfl,?_,hp.m,hp.k⟩
 have e4:ZC (ZC s.B.Bonds x.Bond.toNat 0) x.Bond.toNat (ZC s.B.Bonds x.Bond.toNat 0 x.Bond.toNat+x.Amount)=ZC s.B.Bonds x.Bond.toNat x.Amount:=by
  funext i;by_cases e:i=x.Bond.toNat
  ·subst e;rw[VO,VO,VO];omega
  ·rw[UT e,UT e,UT e]
 unfold Sc;rw[hday];simp only[Yq,e4]
theorem qT(h:Wq r n t s)(hn:n<=1000)(hp:PR r t s A1 A2 A3)(he:WN x=true)(k:x.Kind=6):Ul r t (Ox s x) (Jd A1 A2 A3 (some 0) x):=by
 have ha:=qv he k;have hl:=h.lim;have hpo:=h.pos;have hdu:=h.due;have e1:(KE r t s).book.Due=s.B.Due:=rfl;have e2:(KE r t s).book.Paid=s.B.Paid:=rfl;unfold Jd Ox Ul;rw[hp.o];simp only[Option.bind_some,List.getElem?_cons_zero,QL,e1,e2];rw[Q8 (n:=s.B.Due - s.B.Paid) (by omega) (by omega)];by_cases hlim:x.Amount > s.B.Due - s.B.Paid
 ·have e3:decide (x.Amount<=s.B.Due - s.B.Paid)=false:=by simp;omega
  rw[e3,if_pos hlim,Yw (C0 11)]
 ·have e3:decide (x.Amount<=s.B.Due - s.B.Paid)=true:=by simp;omega
  rw[e3,if_neg hlim,Y7 (DA 11),Q8 (n:=s.B.Paid+x.Amount) (by omega) (by omega)];exact⟨_,_,_,rfl,rfl,hp.m,hp.k⟩
end
section
open Go.Dec
variable{r:XR}{n:Nat}{t d day:Int}{s u:Acc}{x:Ev}{p:QB}{A1:List QC}{A2:PM}{A3:KM}
def XH(r:XR)(d:Int)(s:Acc):Acc:={s with B:=(V6 r 0 d s).B}
structure jt(r:XR)(u:Acc):Prop where
 sorted:u.B.Moving.Pairwise (λp q=>p.Id < q.Id)
 mov:∀p∈u.B.Moving,(1<=p.Amount/\p.Amount<=17179869184)/\0<=p.Sent/\p.Sent<=65536
 used:0<=u.B.Used/\u.B.Used+JO QB.Amount u.B.Moving<=4611686018427387904
 due:0<=u.B.Due/\u.B.Due+1049*JO QB.Amount u.B.Moving<=4611686018427387904
theorem Wq.dM(h:Wq r n t s)(hn:n<=1000)(ht:t<=65536):jt r s where
 sorted:=h.sorted
 mov:=λp hp=>⟨(h.mov p hp).amount,(h.mov p hp).sent.1,by have:=(h.mov p hp).sent.2;omega⟩
 used:=by have:=h.lim;have:=h.pos;omega
 due:=by have:=h.lim;have:=h.pos;have:=h.due;omega
theorem qj(hr:Jt r)(h:0<=p.Sent/\p.Sent<=65536):Qy (Qy (p.Sent+r.Transit)+1)=Qw r p:=by
 have:=hr.transit;rw[Q8 (n:=p.Sent+r.Transit) (by omega) (by omega),Q8 (by omega) (by omega)];rfl
theorem SA(hr:Jt r)(h:0<=p.Sent/\p.Sent<=65536):JG [KE r t u] (some 0) p=some (Qw r p):=by
 unfold JG;simp only[Option.bind_some,List.getElem?_cons_zero,KE];rw[qj hr h]
def Ug(r:XR)(day:Int)(D:List (Int×Bool))(l:List (Int×QB)):List (Int×Bool):=l.foldl (λD e=>if Qw r e.2<=day then ZL D (Qw r e.2) true else D) D
theorem mem_set{D:List (Int×Bool)}{k:Int}(hn:(D.map Prod.fst).Nodup)(ht:∀y∈D,y.2=true)(y:Int×Bool):y∈ZL D k true↔y=(k,true)∨y∈D:=by
 rw[(Kk hn).mem_iff,List.mem_cons,List.mem_filter];constructor
 ·rintro(h | ⟨h,_⟩)
  ·exact .inl h
  ·exact .inr h
 ·rintro(h | h)
  ·exact .inl h
  ·by_cases e:k=y.1
   ·left;have:=ht y h;rw[e,<-this]
   ·exact .inr ⟨h,by simpa using e⟩
theorem Wm:∀{l:List (Int×QB)} {D:List (Int×Bool)},(D.map Prod.fst).Nodup->(∀y∈D,y.2=true)->
  ((Ug r day D l).map Prod.fst).Nodup/\(Ug r day D l).length<=D.length+l.length/\∀y,y∈Ug r day D l↔y∈D∨∃e∈l,Qw r e.2<=day/\y=(Qw r e.2,true)
 | [],D,hn,ht=>⟨hn,by simp[Ug],λy=>by simp[Ug]⟩
 | e::l,D,hn,ht=>by
  unfold Ug;rw[List.foldl_cons];by_cases hc:Qw r e.2<=day
  ·rw[if_pos hc]
   have ht2:∀y∈ZL D (Qw r e.2) true,y.2=true:=λy hy=>by
    rcases(mem_set hn ht y).1 hy with rfl | hy
    ·rfl
    ·exact ht y hy
   have hlen:(ZL D (Qw r e.2) true).length<=D.length+1:=by
    have:=(Kk (k:=Qw r e.2) (v:=true) hn).length_eq;have h2:=List.length_filter_le (λx:Int×Bool=> !(Qw r e.2==x.1)) D;simp only[List.length_cons] at this;omega
   obtain⟨h1,h2,h3⟩:=Wm (l:=l) (Kl (k:=Qw r e.2) (v:=true) hn) ht2;refine⟨h1,by simp only[List.length_cons];unfold Ug at h2;omega,λy=> ?_⟩;rw[show(List.foldl (λD e=>if Qw r e.2<=day then ZL D (Qw r e.2) true else D) (ZL D (Qw r e.2) true) l)=Ug r day (ZL D (Qw r e.2) true) l from rfl,h3,mem_set hn ht];simp only[List.mem_cons,exists_eq_or_imp];constructor
   ·rintro((h | h) | h)
    ·exact .inr (.inl ⟨hc,h⟩)
    ·exact .inl h
    ·exact .inr (.inr h)
   ·rintro(h | (h | h))
    ·exact .inl (.inr h)
    ·exact .inl (.inl h.2)
    ·exact .inr h
  ·rw[if_neg hc];obtain⟨h1,h2,h3⟩:=Wm (l:=l) hn ht;refine⟨h1,by simp only[List.length_cons];unfold Ug at h2;omega,λy=> ?_⟩;rw[show(List.foldl (λD e=>if Qw r e.2<=day then ZL D (Qw r e.2) true else D) D l)=Ug r day D l from rfl,h3];simp only[List.mem_cons,exists_eq_or_imp];constructor
   ·rintro(h | h)
    ·exact .inl h
    ·exact .inr (.inr h)
   ·rintro(h | (h | h))
    ·exact .inl h
    ·exact absurd h.1 hc
    ·exact .inr h
theorem IZ{l l' :List (Int×QB)}(hp:l'.Perm l):(Ug r day [] l').Perm (Ug r day [] l):=by
 have a:=Wm (r:=r) (day:=day) (l:=l') (D:=[]) (by simp) (by simp);have b:=Wm (r:=r) (day:=day) (l:=l) (D:=[]) (by simp) (by simp)
 have nd:∀{L:List (Int×Bool)},(L.map Prod.fst).Nodup->L.Nodup:=fun{L} h=>by
  rw[List.Nodup,List.pairwise_map] at h
  exact h.imp λh e=>h (by rw[e])
 refine(List.perm_ext_iff_of_nodup (nd a.1) (nd b.1)).2 λy=> ?_;rw[a.2.2,b.2.2];constructor
 ·rintro(h | ⟨e,he,h⟩)
  ·exact .inl h
  ·exact .inr ⟨e,hp.mem_iff.1 he,h⟩
 ·rintro(h | ⟨e,he,h⟩)
  ·exact .inl h
  ·exact .inr ⟨e,hp.mem_iff.2 he,h⟩
theorem qI{α:Type}{A:List α}{x y:α}:List.set (A++[x]) A.length y=A++[y]:=by simp
theorem SM(hr:Jt r):∀{l:List (Int×QB)} {D:List (Int×Bool)},(∀e∈l,0<=e.2.Sent/\e.2.Sent<=65536)->
  JY (Zl [KE r t u] A3 (some 0) day) l (A3++[D])=some (A3++[Ug r day D l])
 | [],D,_=>rfl
 | e::l,D,h=>by
  have he:=h e (List.mem_cons_self ..)
  have step:Zl [KE r t u] A3 (some 0) day e (A3++[D])=some (A3++[if Qw r e.2<=day then ZL D (Qw r e.2) true else D]):=by
   unfold Zl;rw[SA hr he];simp only[Option.bind_some];by_cases hc:Qw r e.2<=day
   ·have hg:(A3++[D])[A3.length]? =some D:=by simp
    simp only[hc,decide_true,if_true,hg,Option.bind_some,QL,qI]
   ·simp only[hc,decide_false,Bool.false_eq_true,if_false,Option.bind_some]
  simp only[JY,step,Option.bind_some];exact SM hr λq hq=>h q (List.mem_cons_of_mem _ hq)
theorem EN(hr:Jt r){l:List (Int×QB)}(h:∀e∈l,0<=e.2.Sent/\e.2.Sent<=65536):
  FN Co (Zl [KE r t u] A3 (some 0) day) l (A3++[[]])=some (A3++[Ug r day [] l]):=by
 refine MM (SM hr h) λl' hl' =>⟨_,SM hr (λe he=>h e (hl'.mem_iff.1 he)),by simp,λi x y hx hy=> ?_⟩;by_cases hi:i < A3.length
 ·rw[List.getElem?_append_left hi] at hx hy
  rw[hx] at hy;simp only[Option.some.injEq] at hy;subst hy;exact .refl _
 ·rw[List.getElem?_append_right (by omega)] at hx hy
  cases hk:i - A3.length with
  | zero=>
   rw[hk] at hx hy
   simp only[List.getElem?_cons_zero,Option.some.injEq] at hx hy
   subst hx;subst hy;exact IZ hl'
  | succ k=>rw[hk] at hx;simp at hx
def km(r:XR)(day:Int)(l:List (Int×QB)):List Int:=((Ug r day [] l).map Prod.fst).mergeSort (λa b=>decide (a<=b))
theorem IB{l:List (Int×QB)}:(km r day l).Pairwise (·< ·):=by
 have hn:=(Wm (r:=r) (day:=day) (l:=l) (D:=[]) (by simp) (by simp)).1;have h1:(km r day l).Pairwise (λa b=>decide (a<=b)=true):=List.pairwise_mergeSort (λa b c h1 h2=>by simp only[decide_eq_true_eq] at*;omega) (λa b=>by simp only[Bool.or_eq_true,decide_eq_true_eq];omega) _;have h2:(km r day l).Nodup:=(List.mergeSort_perm _ _).nodup_iff.2 hn;exact(h1.and h2).imp λh=>by have:=h.1;have:=h.2;simp only[decide_eq_true_eq] at*;omega
theorem ql{l:List (Int×QB)}{d:Int}:d∈km r day l↔d<=day/\∃e∈l,Qw r e.2=d:=by
 unfold km;rw[(List.mergeSort_perm _ _).mem_iff,List.mem_map];have h:=(Wm (r:=r) (day:=day) (l:=l) (D:=[]) (by simp) (by simp)).2.2;constructor
 ·rintro⟨y,hy,rfl⟩;rcases(h y).1 hy with hy | ⟨e,he,hl,rfl⟩
  ·cases hy
  ·exact⟨hl,e,he,rfl⟩
 ·rintro⟨hd,e,he,rfl⟩;exact⟨(Qw r e.2,true),(h _).2 (.inr ⟨e,he,hd,rfl⟩),rfl⟩
theorem kE(hr:Jt r)(hA1:A1=[KE r t u]){m:List (Int×QB)}(hA2:A2=[m])(hm:m.length<=1000)(hs:∀e∈m,0<=e.2.Sent/\e.2.Sent<=65536):
  JL A1 A2 A3 (some 0) day=some ((A1,A2,A3++[Ug r day [] m]),km r day m):=by
 subst hA1;subst hA2;have hsp:=Wm (r:=r) (day:=day) (l:=m) (D:=[]) (by simp) (by simp);have ht:=hr.transit
 have hk:VJ (A3++[Ug r day [] m]) (some A3.length)=some (km r day m):=by
  have hg:(A3++[Ug r day [] m])[A3.length]? =some (Ug r day [] m):=by simp
  simp only[VJ,hg,Option.bind_some,GH];rw[if_pos]
  ·rfl
  ·refine⟨List.all_eq_true.2 λy hy=> ?_,by have:=hsp.2.1;simp at this;omega⟩;rcases(hsp.2.2 y).1 hy with hy | ⟨e,he,hl,rfl⟩
   ·cases hy
   ·have:=hs e he;simp only[decide_eq_true_eq];unfold Qw;omega
 unfold JL;simp only[Option.bind_some,List.getElem?_cons_zero,KE];have h1:=EN (t:=t) (u:=u) (A3:=A3) (day:=day) hr hs;simp only[KE] at h1
 rw[h1];simp only[Option.bind_some,hk]
theorem jt.book(hr:Jt r)(h:jt r u):jt r (XH r d u) where
 sorted:=h.sorted.filter _
 mov:=λp hp=>h.mov p (List.mem_filter.1 hp).1
 used:=by
  have h1:=h.used;have h2:=Xr (f:=QB.Amount) (c:=λp=>decide (d < Qw r p)) (l:=u.B.Moving);have h3:0<=JO QB.Amount (u.B.Moving.filter (λp=> !decide (d < Qw r p))):=Xs λp hp=>by have:=(h.mov p (List.mem_filter.1 hp).1).1.1;omega
  simp only[XH,V6];omega
 due:=by
  have h1:=h.due;have h2:=Xr (f:=QB.Amount) (c:=λp=>decide (d < Qw r p)) (l:=u.B.Moving);have h3:0<=JO (λp=>Vf r p.Amount (Qw r p)) (u.B.Moving.filter (λp=> !decide (d < Qw r p))):=Xs λp hp=>by have:=(h.mov p (List.mem_filter.1 hp).1).1.1;exact(hr.wi (by omega)).1
  have h4:JO (λp=>Vf r p.Amount (Qw r p)) (u.B.Moving.filter (λp=> !decide (d < Qw r p)))<=JO (λp=>1049*p.Amount) (u.B.Moving.filter (λp=> !decide (d < Qw r p))):=Ry λp hp=>by have:=(h.mov p (List.mem_filter.1 hp).1).1.1;exact(hr.wi (by omega)).2
  rw[Ae] at h4
  simp only[XH,V6];omega
theorem Ij{d0:Int}(h:d0<=d):XH r d (XH r d0 s)=XH r d s:=by
 have e:=Oy (r:=r) (s:=s) (t:=0) (u:=d0) (d:=d) h;have h1:(V6 r 0 d (XH r d0 s)).B=(V6 r d0 d (V6 r 0 d0 s)).B:=rfl;unfold XH at h1 ⊢
 simp only[h1,e]
theorem Ii(h:∀p∈s.B.Moving,d < Qw r p):XH r d s=s:=by
 have e1:s.B.Moving.filter (λp=>decide (d < Qw r p))=s.B.Moving:=List.filter_eq_self.2 λp hp=>by simpa using h p hp
 have e2:s.B.Moving.filter (λp=> !decide (d < Qw r p))=[]:=List.filter_eq_nil_iff.2 λp hp=>by simpa using h p hp
 simp only[XH,V6,e1,e2,JO,Int.add_zero]
theorem EA(h:∀p∈s.B.Moving,d<=Qw r p):NF r d s [] s.B.Moving=XH r d s:=by
 have e1:s.B.Moving.filter (λp=> !(Qw r p==d))=s.B.Moving.filter (λp=>decide (d < Qw r p)):=List.filter_congr λp hp=>by
  have:=h p hp;by_cases e:Qw r p=d
  ·simp[e]
  ·have e2:d < Qw r p:=by omega
   simp[e,e2]
 have e2:s.B.Moving.filter (λp=>Qw r p==d)=s.B.Moving.filter (λp=> !decide (d < Qw r p)):=List.filter_congr λp hp=>by
  have:=h p hp;by_cases e:Qw r p=d
  ·simp[e]
  ·have e2:d < Qw r p:=by omega
   simp[e,e2]
 have e3:JO (λp=>Vf r p.Amount d) (s.B.Moving.filter (λp=> !decide (d < Qw r p)))=JO (λp=>Vf r p.Amount (Qw r p)) (s.B.Moving.filter (λp=> !decide (d < Qw r p))):=Af λp hp=>by
  have h1:=List.mem_filter.1 hp;have h2:=h p h1.1;have h3:¬d < Qw r p:=by simpa using h1.2
  have:Qw r p=d:=by omega
  rw[this]
 simp only[NF,XH,V6,List.nil_append,e1,e2,e3]
def Ab(r:XR)(d:Int)(u:Acc)(l:List QB):Acc:={u with B:={u.B with Used:=u.B.Used+JO QB.Amount (l.filter (λp=>Qw r p==d)),Due:=u.B.Due+JO (λp=>Vf r p.Amount d) (l.filter (λp=>Qw r p==d))}}
def DK(r:XR)(d:Int)(M l:List (Int×QB)):List (Int×QB):=l.foldl (λM e=>if Qw r e.2==d then Kr M e.1 else M) M
theorem SB(hr:Jt r)(hd:0<=d):∀{l:List (Int×QB)} {u:Acc} {M:List (Int×QB)},(∀e∈l,(1<=e.2.Amount/\e.2.Amount<=17179869184)/\0<=e.2.Sent/\e.2.Sent<=65536)->
  0<=u.B.Used->u.B.Used+JO QB.Amount (l.map Prod.snd)<=4611686018427387904->0<=u.B.Due->u.B.Due+1049*JO QB.Amount (l.map Prod.snd)<=4611686018427387904->
  JY (Zo (some 0) d 0 0) l ([KE r t u],[M])=some ([KE r t (Ab r d u (l.map Prod.snd))],[DK r d M l])
 | [],u,M,_,_,_,_,_=>by simp[JY,Ab,DK,JO]
 | e::l,u,M,h,u0,u1,d0,d1=>by
  have he:=h e (List.mem_cons_self ..)
  have hs:=Xs (f:=QB.Amount) (l:=l.map Prod.snd) λq hq=>by
   obtain⟨y,hy,rfl⟩:=List.mem_map.1 hq;have:=(h y (List.mem_cons_of_mem _ hy)).1.1;omega
  simp only[List.map_cons,JO] at u1 d1
  have hdu:=hr.wi (a:=e.2.Amount) (d:=d) (by omega);by_cases hc:Qw r e.2=d
  ·have hb:(Qw r e.2==d)=true:=by simpa using hc
   have step:Zo (some 0) d 0 0 e ([KE r t u],[M])=some ([KE r t (Ru r e.2.Amount d u)],[Kr M e.1]):=by
    unfold Zo;simp only[];rw[SA hr he.2];have hmo:(KE r t u).moving=some 0:=rfl;simp only[Option.bind_some,hb,if_true,List.getElem?_cons_zero,hmo,yX,QL,List.set_cons_zero];rw[Nu hr (by omega) hd (by omega) (by omega)];rfl
   simp only[JY,step,Option.bind_some];have ih:=SB hr hd (l:=l) (u:=Ru r e.2.Amount d u) (M:=Kr M e.1) (λq hq=>h q (List.mem_cons_of_mem _ hq)) (by show 0<=u.B.Used+e.2.Amount;omega) (by show u.B.Used+e.2.Amount+_<=_;omega) (by show 0<=u.B.Due+Vf r e.2.Amount d;omega) (by show u.B.Due+Vf r e.2.Amount d+_<=_;omega);rw[ih];simp only[Ab,Ru,DK,List.map_cons,List.filter_cons,hb,if_true,JO,List.foldl_cons,Int.add_assoc]
  ·have hb:(Qw r e.2==d)=false:=by simpa using hc
   have step:Zo (some 0) d 0 0 e ([KE r t u],[M])=some ([KE r t u],[M]):=by
    unfold Zo;simp only[];rw[SA hr he.2];simp only[Option.bind_some,hb,Bool.false_eq_true,if_false]
   simp only[JY,step,Option.bind_some];have ih:=SB hr hd (l:=l) (u:=u) (M:=M) (λq hq=>h q (List.mem_cons_of_mem _ hq)) u0 (by omega) d0 (by omega);rw[ih];simp only[Ab,DK,List.map_cons,List.filter_cons,hb,Bool.false_eq_true,if_false,List.foldl_cons]
theorem Hw:∀{l M:List (Int×QB)},(M.map Prod.fst).Nodup->DK r d M l=M.filter (λe=> !(l.any (λy=>Qw r y.2==d&&y.1==e.1)))
 | [],M,_=>by
  have:M.filter (λe=> !(([]:List (Int×QB)).any (λy=>Qw r y.2==d&&y.1==e.1)))=M:=List.filter_eq_self.2 λ_ _=>rfl;rw[this];rfl
 | y::l,M,hn=>by
  unfold DK;rw[List.foldl_cons];by_cases hc:(Qw r y.2==d)=true
  ·rw[if_pos hc];have:=Hw (l:=l) (M:=Kr M y.1) (Gu hn);unfold DK at this
   rw[this,Vn hn,List.filter_filter];refine List.filter_congr λe _=> ?_;simp only[List.any_cons,hc,Bool.true_and,Bool.not_or,Bool.and_comm]
  ·simp only[Bool.not_eq_true] at hc
   rw[if_neg (by simp[hc])];have:=Hw (l:=l) (M:=M) hn;unfold DK at this
   rw[this];refine List.filter_congr λe _=> ?_;simp only[List.any_cons,hc,Bool.false_and,Bool.false_or]
theorem qk(hr:Jt r)(hd:0<=d)(h:jt r u){m:List (Int×QB)}(hm:m.Perm (u.B.Moving.map X5)):
  Fv (Zo (some 0) d 0 0) m ([KE r t u],[m])=some ([KE r t (NF r d u [] u.B.Moving)],[m.filter (λe=> !(Qw r e.2==d))]):=by
 have hn:(m.map Prod.fst).Nodup:=(hm.map Prod.fst).nodup_iff.2 (X4 h.sorted);refine ML λl' hl' => ?_
 have hsnd:(l'.map Prod.snd).Perm u.B.Moving:=by
  have h1:=(hl'.trans hm).map Prod.snd;have h2:(u.B.Moving.map X5).map Prod.snd=u.B.Moving:=by rw[List.map_map];exact List.map_id _
  rwa[h2] at h1
 have hs:=H2 (f:=QB.Amount) hsnd;have hall:∀e∈l',(1<=e.2.Amount/\e.2.Amount<=17179869184)/\0<=e.2.Sent/\e.2.Sent<=65536:=λe he=>h.mov e.2 (hsnd.mem_iff.1 (List.mem_map_of_mem he));rw[SB hr hd hall h.used.1 (by rw[hs];exact h.used.2) h.due.1 (by rw[hs];exact h.due.2),Hw hn]
 have e1:m.filter (λe=> !(l'.any (λy=>Qw r y.2==d&&y.1==e.1)))=m.filter (λe=> !(Qw r e.2==d)):=List.filter_congr λe he=>by
  congr 1;rw[Bool.eq_iff_iff,List.any_eq_true];simp only[Bool.and_eq_true,beq_iff_eq];constructor
  ·rintro⟨y,hy,h1,h2⟩;have:=TM hn (hl'.mem_iff.1 hy) he h2;rw[<-this];exact h1
  ·intro h1;exact⟨e,hl'.mem_iff.2 he,h1,rfl⟩
 rw[e1];have e2:JO QB.Amount ((l'.map Prod.snd).filter (λp=>Qw r p==d))=JO QB.Amount (u.B.Moving.filter (λp=>Qw r p==d)):=H2 (hsnd.filter _);have e3:JO (λp=>Vf r p.Amount d) ((l'.map Prod.snd).filter (λp=>Qw r p==d))=JO (λp=>Vf r p.Amount d) (u.B.Moving.filter (λp=>Qw r p==d)):=H2 (hsnd.filter _);simp only[Ab,NF,KE,e2,e3]
theorem TJ(hr:Jt r)(h0:0<=day){R:KM}:∀{ks:List Int} {u:Acc} {m:List (Int×QB)},ks.Pairwise (·< ·)->(∀d∈ks,0<=d/\d<=day)->jt r u->(∀p∈u.B.Moving,Qw r p<=day->Qw r p∈ks)->m.Perm (u.B.Moving.map X5)->
  ∃m',JY (JZ (some 0)) ks ([KE r t u],[m],R)=some ([KE r t (XH r day u)],[m'],R)/\m'.Perm ((XH r day u).B.Moving.map X5)
 | [],u,m,_,_,h,hk,hm=>by
  have e:=Ii (r:=r) (d:=day) (s:=u) λp hp=>by
   have:=hk p hp;simp only[List.not_mem_nil,imp_false] at this;omega
  rw[e];exact⟨m,rfl,hm⟩
 | d::ks,u,m,hs,hd,h,hk,hm=>by
  have hs' :=List.pairwise_cons.1 hs;have hdd:=hd d (List.mem_cons_self ..)
  have hge:∀p∈u.B.Moving,d<=Qw r p:=λp hp=>by
   by_cases hc:Qw r p<=day
   ·rcases List.mem_cons.1 (hk p hp hc) with e | e
    ·omega
    ·have:=hs'.1 _ e;omega
   ·omega
  have hpm:=qk (t:=t) hr hdd.1 h hm;rw[EA hge] at hpm
  have hmo:(KE r t u).moving=some 0:=rfl
  have step:JZ (some 0) d ([KE r t u],[m],R)=some ([KE r t (XH r d u)],[m.filter (λe=> !(Qw r e.2==d))],R):=by
   unfold JZ;simp only[Option.bind_some,List.getElem?_cons_zero,hmo,hpm]
  have hm2:(m.filter (λe=> !(Qw r e.2==d))).Perm ((XH r d u).B.Moving.map X5):=by
   refine(hm.filter _).trans (.of_eq ?_);rw[List.filter_map];show(u.B.Moving.filter (λp=> !(Qw r p==d))).map X5=(u.B.Moving.filter (λp=>decide (d < Qw r p))).map X5;congr 1;refine List.filter_congr λp hp=> ?_;have:=hge p hp;by_cases e:Qw r p=d
   ·simp[e]
   ·have e2:d < Qw r p:=by omega
    simp[e,e2]
  obtain⟨m',g1,g2⟩:=TJ hr h0 (R:=R) hs'.2 (λq hq=>hd q (List.mem_cons_of_mem _ hq)) (h.book hr (d:=d)) (λp hp hl=>by
   have hp' :=List.mem_filter.1 hp;rcases List.mem_cons.1 (hk p hp'.1 hl) with e | e
   ·have:=hp'.2;simp only[decide_eq_true_eq] at this;omega
   ·exact e) hm2
  rw[Ij hdd.2] at g1 g2
  exact⟨m',by simp only[JY,step,Option.bind_some];exact g1,g2⟩
theorem OZ(h:Wq r n t s)(hday:t<=day)(h0:0<=t)(hd:day<=65536){u:Acc}(hu:u.B.Bonds=s.B.Bonds)(hu2:u.Sums=s.Sums):
  Qk (KH day 0 (KE r t u)) (0,[KE r t u])=some [KE r t {u with Sums:=λi=>if i < 16 then s.Sums i+s.B.Bonds i*(day - t) else s.Sums i}]:=by
 obtain⟨f,hf,hloop⟩:=KQ (body:=KH day 0 (KE r t u)) (λi (f:Nat->Int)=>((i:Int),[KE r t {u with Sums:=f}])) (λf=>[KE r t {u with Sums:=f}]) (λi f=>f=λk=>if k < i then s.Sums k+s.B.Bonds k*(day - t) else s.Sums k) 16
  (λi f hi hf=>by
   have e:Kj 16 ((i:Nat):Int)=some i:=JI hi;have h1:=h.sums i hi;have h2:=h.bonds i hi;have hfi:f i=s.Sums i:=by rw[hf];simp
   have hm0:0<=s.B.Bonds i*(day - t):=Int.mul_nonneg h2.1 (by omega);have hm1:s.B.Bonds i*(day - t)<=17179869184*(day - t):=Int.mul_le_mul_of_nonneg_right h2.2 (by omega);have eb:(KE r t u).book.Bonds i=s.B.Bonds i:=by show u.B.Bonds i=_;rw[hu]
   have ed:(KE r t {u with Sums:=f}).day=t:=rfl;have es:(KE r t {u with Sums:=f}).sums i=s.Sums i:=hfi;refine⟨ZC f i (s.Sums i+s.B.Bonds i*(day - t)),?_,?_⟩
   ·unfold KH;rw[if_pos (by simp;omega)];simp only[e,Option.bind_some,QL,eb,List.getElem?_cons_zero,ed,es,List.set_cons_zero,Fg (by omega:i<=4294967296)];rw[Q8 (n:=day - t) (by omega) (by omega),Q8 (n:=s.B.Bonds i*(day - t)) (by omega) (by omega),Q8 (n:=s.Sums i+s.B.Bonds i*(day - t)) (by omega) (by omega)];rfl
   ·funext k;by_cases hk:k=i
    ·subst hk;rw[VO,if_pos (by omega)]
    ·rw[UT hk,hf];by_cases hlt:k < i
     ·simp only[hlt,if_true];rw[if_pos (by omega)]
     ·simp only[hlt,if_false];rw[if_neg (by omega)])
  (λf hf=>by unfold KH;rw[if_neg (by simp)]) 16 0 u.Sums rfl (by rw[hu2];funext k;simp)
 have h0' :Qk (KH day 0 (KE r t u)) (0,[KE r t u])=some [KE r t {u with Sums:=f}]:=hloop;rw[h0',hf]
theorem RA(hr:Jt r)(h:Wq r n t s)(hn:n<=1000)(h0:0<=t)(hday:t<=day)(hd:day<=65536)(hp:PR r t s A1 A2 A3):
  ∃A1' A2' A3',JF A1 A2 A3 (some 0) day=some (A1',A2',A3')/\PR r day (V6 r t day s) A1' A2' A3' :=by
 obtain⟨m,hm,hmp⟩:=hp.m;obtain⟨kk,rest,hk,hkn,hkg⟩:=hp.k;have hu:=h.dM hn (by omega)
 have hmem:∀e∈m,e.2∈s.B.Moving:=λe he=>by
  obtain⟨q,hq,rfl⟩:=List.mem_map.1 (hmp.mem_iff.1 he);exact hq
 have hL:=kE (A3:=A3) (day:=day) hr hp.o hm (by have:=hmp.length_eq;have:=h.mlen;simp at*;omega) λe he=>(hu.mov e.2 (hmem e he)).2
 obtain⟨m',hlo,hm'⟩:=TJ (t:=t) hr (by omega:0<=day) (R:=A3++[Ug r day [] m]) (ks:=km r day m) (u:=s) (m:=m) IB (λd hd=>by
   obtain⟨h1,e,he,h2⟩:=ql.1 hd;have:=(hu.mov e.2 (hmem e he)).2;have:=hr.transit;unfold Qw at h2;omega) hu (λp hp hl=>ql.2 ⟨hl,X5 p,hmp.mem_iff.2 (List.mem_map_of_mem hp),rfl⟩) hmp
 have hsu:=OZ h hday h0 hd (u:=XH r day s) rfl rfl;unfold JF;rw[Option.bind_some];refine⟨[KE r day (V6 r t day s)],[m'],A3++[Ug r day [] m],QE hL (QE (by rw[hp.o,hm];exact hlo) ?_),rfl,⟨m',rfl,hm'⟩,⟨kk,rest++[Ug r day [] m],by rw[hk];rfl,hkn,hkg⟩⟩;simp only[Option.bind_some,List.getElem?_cons_zero];refine QE hsu ?_;simp only[Option.bind_some,List.getElem?_cons_zero,QL,List.set_cons_zero];rfl
end
section
open Go.Dec
variable{r:XR}{n:Nat}{t d:Int}{s s' :Acc}{x:Ev}{p:QB}
abbrev vb:Bk:=ZK.mk (λ_=>0) ([]) 0 0 0 0 0 0 0 0
def qW:(Acc ⊕ Int)×Nat->Bk×Int×Int
 | (.inl a,k)=>(a.B,(k:Int),0)
 | (.inr e,k)=>(vb,(k:Int),e)
theorem jW{e:Int}(h:GP r s x= .inr e):e=4∨e=5∨e=10∨e=11∨e=12:=by
 unfold GP Dx Pt Fs H8 Dt Ox at h
 repeat' split at h
 all_goals first | (cases h;done) | (simp only[Sum.inr.injEq] at h;subst h;simp)
theorem qG{c:AG}{e:Int}(h:V0 r c x= .inr e):e=1∨e=7∨e=4∨e=5∨e=10∨e=11∨e=12:=by
 unfold V0 at h
 split at h
 ·simp only[Sum.inr.injEq] at h;omega
 ·split at h
  ·simp only[Sum.inr.injEq] at h;omega
  ·split at h
   ·cases h
   ·rename_i e' he;simp only[Sum.inr.injEq] at h
    subst h;have:=jW he;omega
theorem RS(hr:Jt r){day:Int}:∀{l:List Ev} {n:Nat} {c c' :AG} {k:Nat},Wq r n c.day c.acc->0<=c.day->c.day<=day->TW r day l n c=(.inl c',k)->Wq r k c'.day c'.acc/\0<=c'.day/\c'.day<=day/\n<=k/\k<=n+l.length
 | [],n,c,c',k,h,h0,h1,hg=>by
  simp only[TW,Prod.mk.injEq,Sum.inl.injEq] at hg
  obtain⟨rfl,rfl⟩:=hg;exact⟨h,h0,h1,Nat.le_refl _,by simp⟩
 | x::l,n,c,c',k,h,h0,h1,hg=>by
  rw[TW] at hg
  split at hg
  ·rename_i hx;split at hg
   ·rename_i c1 hs;obtain⟨g1,g2,g3,_⟩:=DY hr h h0 hs;obtain⟨a1,a2,a3,a4,a5⟩:=RS hr g1 (by omega) (by omega) hg;exact⟨a1,a2,a3,by omega,by simp only[List.length_cons];omega⟩
   ·simp only[Prod.mk.injEq,reduceCtorEq,false_and] at hg
  ·simp only[Prod.mk.injEq,Sum.inl.injEq] at hg
   obtain⟨rfl,rfl⟩:=hg;exact⟨h,h0,h1,Nat.le_refl _,by simp⟩
def NB:(AG ⊕ Int)×Nat->(Int×Int×Acc) ⊕ (Bk×Int×Int)
 | (.inl c,k)=>.inl (c.day,(k:Int),c.acc)
 | (.inr e,k)=>.inr (vb,(k:Int),e)
end
section
open Go.Dec
variable{r:XR}{n:Nat}{t d day:Int}{s:Acc}{x:Ev}{p:QB}{A1:List QC}{A2:PM}{A3:KM}
abbrev I3:=(List QC×PM×KM×Ev)->Option yQ
theorem Bn:∃D:Nat->I3,Yk (some 0)=some D/\∀(x:Ev),WN x=true->∃j,Kj 7 x.Kind=some j/\
  ∀{r:XR} {n:Nat} {t:Int} {s:Acc} {A1:List QC} {A2:PM} {A3:KM},Jt r->Wq r n t s->n<=1000->0<=t->t<=65536->PR r t s A1 A2 A3->x.Day=t->Ul r t (GP r s x) (D j (A1,A2,A3,x)):=by
 refine⟨_,rfl,λx he=> ?_⟩;have ix:∀{k:Nat},k < 7->x.Kind=(k:Int)->Kj 7 x.Kind=some k:=λhk e=>by rw[e];exact JI hk
 rcases Mw he with k | k | k | k | k | k | k
 ·refine⟨0,ix (by omega) k,λhr h hn h0 ht hp hday=> ?_⟩;have:=M2 h hn hp he k;unfold GP;rw[k];exact this
 ·refine⟨1,ix (by omega) k,λhr h hn h0 ht hp hday=> ?_⟩;have:=Oe h hp he k;unfold GP;rw[k];exact this
 ·refine⟨2,ix (by omega) k,λhr h hn h0 ht hp hday=> ?_⟩;have:=R5 hr h hn h0 hp he k hday;unfold GP;rw[k];exact this
 ·refine⟨3,ix (by omega) k,λhr h hn h0 ht hp hday=> ?_⟩;have:=R4 hr h hn hp he k;unfold GP;rw[k];exact this
 ·refine⟨4,ix (by omega) k,λhr h hn h0 ht hp hday=> ?_⟩;have:=Mv h hn hp he k;unfold GP;rw[k];exact this
 ·refine⟨5,ix (by omega) k,λhr h hn h0 ht hp hday=> ?_⟩;have:=OY hr h hn h0 ht hp he k hday;unfold GP;rw[k];exact this
 ·refine⟨6,ix (by omega) k,λhr h hn h0 ht hp hday=> ?_⟩;have:=qT h hn hp he k;unfold GP;rw[k];exact this
def yR(r:XR)(out:(AG ⊕ Int)×Nat)(q:Option ((Int×List QC×PM×KM) ⊕ (ZX×Int×Int×Option Nat))):Prop:=match out with
 | (.inl c,k)=>∃A1 A2 A3,q=some (.inl ((k:Int),A1,A2,A3))/\PR r c.day c.acc A1 A2 A3
 | (.inr e,k)=>q=some (.inr (⟨e⟩,(k:Int),0,some 0))
theorem Av(hr:Jt r){l:List Ev}(hd:day<=65536)(hl:l.length<=1000){D:Nat->I3}(hD:∀(x:Ev),WN x=true->∃j,Kj 7 x.Kind=some j/\
  ∀{r:XR} {n:Nat} {t:Int} {s:Acc} {A1:List QC} {A2:PM} {A3:KM},Jt r->Wq r n t s->n<=1000->0<=t->t<=65536->PR r t s A1 A2 A3->x.Day=t->Ul r t (GP r s x) (D j (A1,A2,A3,x)))
  {r33:Option Nat×List QC×PM×KM} (h33:r33.1=some 0):∀(post:List Ev) (n:Nat) (c:AG) (A1:List QC) (A2:PM) (A3:KM),l.drop n=post->n<=l.length->Wq r n c.day c.acc->0<=c.day->c.day<=day->PR r c.day c.acc A1 A2 A3->
  yR r (TW r day post n c) (Qk (Zj l day r33 D) ((n:Int),A1,A2,A3))
 | [],n,c,A1,A2,A3,hp,hn,h,h0,h1,hP=>by
  have e:n=l.length:=by have:=List.drop_eq_nil_iff.1 hp;omega
  have:Zj l day r33 D ((n:Int),A1,A2,A3)=some (.done (.inl ((n:Int),A1,A2,A3))):=by
   unfold Zj;rw[if_neg (by simp[e])];rfl
  rw[Q9,this];exact⟨A1,A2,A3,rfl,hP⟩
 | x::post,n,c,A1,A2,A3,hp,hn,h,h0,h1,hP=>by
  have hlt:n < l.length:=by
   rcases Nat.lt_or_ge n l.length with h | h
   ·exact h
   ·rw[List.drop_eq_nil_of_le h] at hp;cases hp
  have hx:l[n]? =some x:=by rw[<-List.head?_drop,hp];rfl
  have hp' :l.drop (n+1)=post:=by rw[<-List.tail_drop,hp];rfl
  have o1:(A1[0]?)=some (KE r c.day c.acc):=by rw[hP.o];rfl
  have od:(KE r c.day c.acc).day=c.day:=rfl;rw[TW];by_cases hle:x.Day<=day
  ·rw[if_pos hle];by_cases he:WN x=true
   ·by_cases hlt2:x.Day < c.day
    ·have:Zj l day r33 D ((n:Int),A1,A2,A3)=some (.done (.inr (⟨7⟩,(n:Int),0,some 0))):=by
      unfold Zj;rw[if_pos (by simp;omega)];simp only[ZF,hx,Option.bind_some,hle,decide_true,if_true,Gy,he];rw[Y7 (DA 1),h33];have e1:decide (x.Day≥c.day)=false:=by simp;omega
      simp only[Option.bind_some,o1,od,e1];rw[Yw (C0 7)]
     have hs:V0 r c x= .inr 7:=by unfold V0;simp only[he,Bool.not_true,Bool.false_eq_true,if_false,hlt2,if_true]
     rw[Q9,this,hs];rfl
    ·obtain⟨B1,B2,B3,hpass,hPR⟩:=RA hr h (by omega) h0 (show c.day<=x.Day by omega) (by omega) hP;obtain⟨j,hj,hdo⟩:=hD x he;have hpk:=NA hr h (show c.day<=x.Day by omega);have hdo:=hdo hr hpk (by omega) (by omega) (by omega) hPR rfl
     have hb:Zj l day r33 D ((n:Int),A1,A2,A3)=ZH (D j (B1,B2,B3,x)) (λq136=>some (.done (.inr (q136,(n:Int),0,some 0)))) λr_130=>some (.next (((n+1:Nat):Int),r_130.1,r_130.2.1,r_130.2.2)):=by
      unfold Zj;rw[if_pos (by simp;omega)];simp only[ZF,hx,Option.bind_some,hle,decide_true,if_true,Gy,he];rw[Y7 (DA 1),h33];have e1:decide (x.Day≥c.day)=true:=by simp;omega
      simp only[Option.bind_some,o1,od,e1];rw[Y7 (DA 7),hpass];simp only[Option.bind_some,hj,QL,Fg (by omega:n<=4294967296)]
     have hs:V0 r c x=match GP r (V6 r c.day x.Day c.acc) x with | .inl a=>.inl ⟨a,x.Day⟩ | .inr e=>.inr e:=by unfold V0;simp only[he,Bool.not_true,Bool.false_eq_true,if_false,hlt2]<;>rfl
     unfold Ul at hdo
     cases hq:GP r (V6 r c.day x.Day c.acc) x with
     | inl a=>
      rw[hq] at hdo
      obtain⟨C1,C2,C3,hC,hPC⟩:=hdo;rw[Y7 hC] at hb
      rw[hq] at hs
      have hs:V0 r c x= .inl ⟨a,x.Day⟩:=hs;obtain⟨g1,g2,g3,_⟩:=DY hr h h0 hs;rw[Q9,hb,hs];exact Av hr hd hl hD h33 post (n+1) ⟨a,x.Day⟩ C1 C2 C3 hp' hlt g1 (by omega) hle hPC
     | inr e=>
      rw[hq] at hdo
      rw[Yw hdo] at hb
      rw[hq] at hs
      have hs:V0 r c x= .inr e:=hs;rw[Q9,hb,hs];rfl
   ·simp only[Bool.not_eq_true] at he
    have:Zj l day r33 D ((n:Int),A1,A2,A3)=some (.done (.inr (⟨1⟩,(n:Int),0,some 0))):=by
     unfold Zj;rw[if_pos (by simp;omega)];simp only[ZF,hx,Option.bind_some,hle,decide_true,if_true,Gy,he];rw[Yw (C0 1),h33]
    have hs:V0 r c x= .inr 1:=by unfold V0;simp only[he,Bool.not_false,if_true]
    rw[Q9,this,hs];rfl
  ·have:Zj l day r33 D ((n:Int),A1,A2,A3)=some (.done (.inl ((n:Int),A1,A2,A3))):=by
    unfold Zj;rw[if_pos (by simp;omega)];simp only[ZF,hx,Option.bind_some,hle,decide_false,Bool.false_eq_true,if_false]
   rw[Q9,this,if_neg hle];exact⟨A1,A2,A3,rfl,hP⟩
def Nn(r:XR)(day:Int)(out:(Acc ⊕ Int)×Nat)(q:Option (Option Nat×Int×Int×List QC×PM×KM)):Prop:=match out with
 | (.inl a,k)=>∃A1 A2 A3,q=some (some 0,(k:Int),0,A1,A2,A3)/\PR r day a A1 A2 A3
 | (.inr e,k)=>q=some (none,(k:Int),e,[],[],[])
theorem vf(r:XR):PR r 0 Fe [KE r 0 Fe] [[]] [[]]:=⟨rfl,⟨[],rfl,by simp[Fe]⟩,⟨[],[],rfl,by simp,λi=>by simp[Q5,Fe]⟩⟩
theorem GA{l:List Ev}(hlr:r.Rates.length<=1000000)(hl:l.length<=1000∨4096 < l.length):Nn r day (WG r l day) (Vo r l day):=by
 unfold Vo WG;rw[BR hlr,Option.bind_some];by_cases h1:Ho r=true
 ·simp only[h1,Bool.not_true,Bool.false_eq_true,if_false];by_cases h2:l.length > 4096
  ·have e2:decide ((l.length:Int) > 4096)=true:=by simp;omega
   rw[if_pos h2,if_pos e2];rfl
  ·have e2:¬decide ((l.length:Int) > 4096)=true:=by simp;omega
   rw[if_neg h2,if_neg e2];by_cases h3:Vv day 0 65536=true
   ·simp only[SI,h3,Bool.not_true,Bool.false_eq_true,if_false];have hr:=Ct.1 h1;have hd:=JN.1 h3;obtain⟨D,hD,hDD⟩:=Bn;have hno:Vj [] [] [] r=some (some 0,[KE r 0 Fe],[[]],[[]]):=rfl;have hloop:=Av hr hd.2 (by omega:l.length<=1000) hDD (r33:=(some 0,[KE r 0 Fe],[[]],[[]])) rfl l 0 NX _ _ _ (List.drop_zero ..) (Nat.zero_le _) (Nk r) (by simp[NX]) (by simp[NX];omega) (vf r);rw[hno,Option.bind_some,hD,Option.bind_some];unfold yR at hloop
    unfold Lf;cases hg:TW r day l 0 NX with
    | mk q k=>
     rw[hg] at hloop
     cases q with
     | inr e=>
      have hloop:Qk (Zj l day (some 0,[KE r 0 Fe],[[]],[[]]) D) (0,[KE r 0 Fe],[[]],[[]])=_:=hloop;rw[hloop];rfl
     | inl c=>
      obtain⟨A1,A2,A3,hq,hP⟩:=hloop;have hq:Qk (Zj l day (some 0,[KE r 0 Fe],[[]],[[]]) D) (0,[KE r 0 Fe],[[]],[[]])=_:=hq;obtain⟨a1,a2,a3,a4,a5⟩:=RS hr (Nk r) (by simp[NX]) (by simp[NX];omega) hg;obtain⟨B1,B2,B3,hpass,hPR⟩:=RA hr a1 (by omega) a2 a3 hd.2 hP;rw[hq,Option.bind_some];exact⟨B1,B2,B3,QE hpass rfl,hPR⟩
   ·simp only[Bool.not_eq_true] at h3
    simp only[SI,h3,Bool.not_false,if_true];rfl
 ·simp only[Bool.not_eq_true] at h1
  simp only[h1,Bool.not_false,if_true];rfl
theorem Ft{l:List Ev}{a:Acc}{k:Nat}(h:WG r l day=(.inl a,k)):Jt r/\Wq r k day a/\(0<=day/\day<=65536)/\k<=l.length:=by
 unfold WG at h
 split at h
 ·simp at h
 ·rename_i h1;split at h
  ·simp at h
  ·split at h
   ·simp at h
   ·rename_i h3;have hr:=Ct.1 (by simpa using h1:Ho r=true);have hd:=JN.1 (by simpa using h3:Vv day 0 65536=true);unfold Lf at h
    split at h
    ·rename_i c k' hg;simp only[Prod.mk.injEq,Sum.inl.injEq] at h
     obtain⟨rfl,rfl⟩:=h;obtain⟨a1,a2,a3,a4,a5⟩:=RS hr (Nk r) (by simp[NX]) (by simp[NX];omega) hg;exact⟨hr,NA hr a1 a3,hd,by omega⟩
    ·simp at h
theorem jV{l:List Ev}:∀{n:Nat} {c:AG} {e:Int} {k:Nat},TW r day l n c=(.inr e,k)->(e=1∨e=7∨e=4∨e=5∨e=10∨e=11∨e=12)/\n<=k/\k < n+l.length:=by
 induction l with
 | nil=>intro n c e k h;simp[TW] at h
 | cons x l ih=>
  intro n c e k h;rw[TW] at h
  split at h
  ·split at h
   ·have:=ih h;simp only[List.length_cons];exact⟨this.1,by omega,by omega⟩
   ·rename_i e' hs;simp only[Prod.mk.injEq,Sum.inr.injEq] at h
    obtain⟨rfl,rfl⟩:=h;simp only[List.length_cons];exact⟨qG hs,by omega,by omega⟩
  ·simp at h
theorem P9{l:List Ev}{e:Int}{k:Nat}(h:WG r l day=(.inr e,k)):e≠0:=by
 unfold WG at h
 split at h
 ·simp at h;omega
 ·split at h
  ·simp at h;omega
  ·split at h
   ·simp at h;omega
   ·unfold Lf at h
    split at h
    ·simp at h
    ·rename_i e' k' hg;simp only[Prod.mk.injEq,Sum.inr.injEq] at h
     obtain⟨rfl,rfl⟩:=h;have:=jV hg;omega
end
section
open Go.Dec
variable{r:XR}{n:Nat}{t d day:Int}{s a:Acc}{x:Ev}{p:QB}{l:List Ev}
theorem Gk:∀{a b:List Int},a.Pairwise (·< ·)->b.Pairwise (·< ·)->(∀x,x∈a↔x∈b)->a=b
 | [],[],_,_,_=>rfl
 | [],y::b,_,_,h=>by have:=(h y).2 (by simp);simp at this
 | x::a,[],_,_,h=>by have:=(h x).1 (by simp);simp at this
 | x::a,y::b,ha,hb,h=>by
  have ha' :=List.pairwise_cons.1 ha;have hb' :=List.pairwise_cons.1 hb
  have exy:x=y:=by
   have h1:=(h x).1 (by simp);have h2:=(h y).2 (by simp);rcases List.mem_cons.1 h1 with e | h1
   ·exact e
   ·rcases List.mem_cons.1 h2 with e | h2
    ·exact e.symm
    ·have:=hb'.1 x h1;have:=ha'.1 y h2;omega
  subst exy;congr 1;refine Gk ha'.2 hb'.2 λz=> ?_;constructor
  ·intro hz;have:=(h z).1 (List.mem_cons_of_mem _ hz);rcases List.mem_cons.1 this with rfl | this
   ·have:=ha'.1 z hz;omega
   ·exact this
  ·intro hz;have:=(h z).2 (List.mem_cons_of_mem _ hz);rcases List.mem_cons.1 this with rfl | this
   ·have:=hb'.1 z hz;omega
   ·exact this
theorem Mh{l:List QB}(h:l.Pairwise (λp q=>p.Id < q.Id)):(l.map QB.Id).Pairwise (·< ·):=List.pairwise_map.2 h
theorem qm{m:List (Int×QB)}{l:List QB}(hs:l.Pairwise (λp q=>p.Id < q.Id))(hm:m.Perm (l.map X5))(hr:∀p∈l,0<=p.Id/\p.Id<=1073741824)(hl:l.length<=1000000):GH m=some (l.map QB.Id):=by
 have hmp:(m.map Prod.fst).Perm (l.map QB.Id):=by
  have:=hm.map Prod.fst;have e:(l.map X5).map Prod.fst=l.map QB.Id:=by rw[List.map_map];rfl
  rwa[e] at this
 unfold GH;rw[if_pos]
 ·congr 1;have h1:((m.map Prod.fst).mergeSort (λa b=>decide (a<=b))).Pairwise (λa b=>decide (a<=b)=true):=List.pairwise_mergeSort (λa b c h1 h2=>by simp only[decide_eq_true_eq] at*;omega) (λa b=>by simp only[Bool.or_eq_true,decide_eq_true_eq];omega) _;have hp:=(List.mergeSort_perm (m.map Prod.fst) (λa b=>decide (a<=b))).trans hmp;have hnd:(l.map QB.Id).Nodup:=(Mh hs).imp λh=>Int.ne_of_lt h;have h2:((m.map Prod.fst).mergeSort (λa b=>decide (a<=b))).Nodup:=hp.nodup_iff.2 hnd;exact Gk ((h1.and h2).imp λh=>by have:=h.1;have:=h.2;simp only[decide_eq_true_eq] at*;omega) (Mh hs) λx=>hp.mem_iff
 ·refine⟨List.all_eq_true.2 λy hy=> ?_,by have:=hm.length_eq;simp at this;omega⟩;obtain⟨q,hq,rfl⟩:=List.mem_map.1 (hm.mem_iff.1 hy);have:=hr q hq;exact decide_eq_true (show -9223372036854775808<=q.Id/\q.Id<=9223372036854775807 by omega)
theorem qu{l:List QB}(hs:l.Pairwise (λp q=>p.Id < q.Id)){p:QB}(hp:p∈l):l.find? (λq=>q.Id==p.Id)=some p:=by
 cases h:l.find? (λq=>q.Id==p.Id) with
 | none=>have:=List.find?_eq_none.1 h p hp;simp at this
 | some q=>
  have hq:=List.mem_of_find?_eq_some h;have e:q.Id=p.Id:=by simpa using List.find?_some h
  rw[kH hs hq hp e]
theorem I2{amount:Int}(hlr:r.Rates.length<=1000000):Uu r amount day=some (if !Ho r then(0,1) else if !Vv amount 0 17179869184|| !Vv day 0 65536 then(0,2) else(Vf r amount day,0)):=by
 unfold Uu;rw[BR hlr,Option.bind_some];simp only[Xm,SI];by_cases h1:Ho r=true
 ·simp only[h1,Bool.not_true,Bool.false_eq_true,if_false];by_cases h2:(!Vv amount 0 17179869184|| !Vv day 0 65536)=true
  ·rw[if_pos h2,if_pos h2]
  ·rw[if_neg h2,if_neg h2];simp only[Bool.or_eq_true,Bool.not_eq_true',not_or,Bool.not_eq_false] at h2
   have ha:=JN.1 h2.1;have hd:=JN.1 h2.2;exact QE (SK (Ct.1 h1) ha.1 ha.2 hd.1) rfl
 ·simp only[Bool.not_eq_true] at h1
  simp only[h1,Bool.not_false,if_true]
theorem P8{a:Acc}{k:Nat}(h:WG r l day=(.inl a,k)):l.length<=4096:=by
 rcases Nat.lt_or_ge 4096 l.length with h1 | h1
 ·unfold WG at h
  split at h
  ·simp at h
  ·simp at h
 ·exact h1
theorem MT{A1:List QC}{m:List (Int×QB)}{k e:Int}{o:Option Nat}{A3:KM}(hs:a.B.Moving.Pairwise (λp q=>p.Id < q.Id))(hm:m.Perm (a.B.Moving.map X5))(hl:a.B.Moving.length<=1000000):
  Qk (YN (o,k,e,A1,[m],A3) (KE r day a) (a.B.Moving.map QB.Id)) (0,(KE r day a).book)=some a.B:=by
 obtain⟨b,hb,hloop⟩:=C8 (body:=YN (o,k,e,A1,[m],A3) (KE r day a) (a.B.Moving.map QB.Id)) (λi (b:Bk)=>((i:Int),b)) (λb=>b) (λpre b=>b={a.B with Moving:=pre}) a.B.Moving
  (λpre q post b hl' hb=>by
   have hil:pre.length < a.B.Moving.length:=by rw[hl'];simp
   have hx:(a.B.Moving.map QB.Id)[pre.length]? =some q.Id:=by rw[hl'];simp
   have hmo:(KE r day a).moving=some 0:=rfl;have hq:Q5 m q.Id=some q:=by rw[Mm hs hm];exact qu hs (by rw[hl'];simp)
   refine⟨{a.B with Moving:=pre++[q]},?_,rfl⟩;subst hb;unfold YN;rw[if_pos (by simp;omega)];simp only[ZF,hx,Option.bind_some,hmo,List.getElem?_cons_zero,hq,Option.getD_some];refine QE (Z8 (by simp;omega)) ?_;simp only[QL,Fg (by omega:pre.length<=4294967296)])
  (λb hb=>by
   unfold YN;rw[if_neg (by simp)]) a.B.Moving [] {a.B with Moving:=[]} rfl rfl
 have h0:Qk (YN (o,k,e,A1,[m],A3) (KE r day a) (a.B.Moving.map QB.Id)) (0,(KE r day a).book)=some b:=hloop;rw[h0,hb]
theorem D1(hlr:r.Rates.length<=1000000)(hl:l.length<=1000∨4096 < l.length):Vp r l day=some (qW (WG r l day)):=by
 have hp:=GA (day:=day) hlr hl;unfold Nn at hp
 unfold Vp;cases h:WG r l day with
 | mk q k=>
  rw[h] at hp
  cases q with
  | inr e=>
   have he:=P9 h;have hp:Vo r l day=some (none,(k:Int),e,[],[],[]):=hp;have hne:(e != 0)=true:=by simpa using he
   rw[hp];simp only[Option.bind_some,hne,if_true,qW]
  | inl a=>
   obtain⟨A1,A2,A3,hq,hP⟩:=hp;obtain⟨hr,hok,hd,hk⟩:=Ft h;obtain⟨m,hm,hmp⟩:=hP.m;have hml:a.B.Moving.length<=1000000:=by have:=P8 h;have:=hok.mlen;omega
   have ho:A1[0]? =some (KE r day a):=by rw[hP.o];rfl
   have hks:VJ A2 (some 0)=some (a.B.Moving.map QB.Id):=by
    rw[hm];simp only[VJ,List.getElem?_cons_zero,Option.bind_some];exact qm hok.sorted hmp (λp hp=>(hok.mov p hp).id) hml
   rw[hq];simp only[Option.bind_some,bne_self_eq_false,Bool.false_eq_true,if_false,ho];have hno:jO (KE r day a).book.Moving=some ():=rfl;have hmo:(KE r day a).moving=some 0:=rfl;rw[hno,Option.bind_some,hmo,hks,Option.bind_some,hm];exact QE (MT hok.sorted hmp hml) rfl
theorem IU(f:Nat->Int):GO f f=true:=by simp[GO]
theorem IT(p:QB):Te p p=true:=by simp[Te]
theorem Iz(b:Bk)(h:b.Moving.length<=1000000):YP b b=some true:=by
 have hl:=O8 (body:=Kz b b) (fun(_:Unit) i=>((i:Nat):Int)) (fun(_:Unit) _ (_:QB)=>some (.next ())) (λ_=>(.inl ():Unit ⊕ Bool)) b.Moving (λt i x hx=>by
  have hi:=(List.getElem?_eq_some_iff.1 hx).1;unfold Kz;rw[if_pos (by simp;omega)];simp only[ZF,hx,Option.bind_some,IT,Bool.not_true,Bool.false_eq_true,if_false,QL,Fg (by omega:i<=4294967296)];rfl) (λt=>by unfold Kz;rw[if_neg (by simp)]) ()
 have hg:∀(l:List QB) (i:Nat),jq (fun(_:Unit) _ (_:QB)=>some (.next ())) (λ_=>(.inl ():Unit ⊕ Bool)) l i ()=some (.inl ()):=λl=>by
  induction l with
  | nil=>intro i;rfl
  | cons x l ih=>intro i;simp only[jq];exact ih (i+1)
 rw[hg] at hl
 have hl' :Qk (Kz b b) 0=some (.inl ()):=hl;unfold YP;rw[if_neg (by simp),hl'];simp[IU]
end
end Go.Proofs.YtnniagcgccfobaaGreatDoor.Ex
namespace Go.Proofs.YtnniagcgccfobaaGreatDoor
section
open Go.Dec
theorem Tryz.own:ownKnob Tryz.prog.godebug=none:=by kernel_rfl
theorem Tryz.laidOut:laidOutB Tryz.prog=true:=by kernel_rfl
def GB(x:QD):Prop:=(Lit.int .i64 x.Lo).wf=true/\(Lit.int .i64 x.Hi).wf=true
theorem Bx{H:Type}{enc:TypeId×Value->H}{W:World}:Zc enc Tryz.prog W 23 (Ex ZP) GB:=by
 intro sp held fuel cs x h;obtain⟨xs,k,_,_,hl,hxl,hx⟩:=DataW.trod_struct Tryz.underlying23 h;have hl' :cs.length=2:=hl.trans (by kernel_rfl);obtain⟨y0,h0⟩:=KL (hx 0 _ rfl) hxl rfl;have e0:Tryz.prog.cellsOf 3=1:=by kernel_rfl
 obtain⟨m0,o0,q0⟩:=(Zc.int Tryz.underlying3) _ _ _ _ _ h0;obtain⟨y1,h1⟩:=KL (hx 1 _ rfl) hxl rfl;have e1:Tryz.prog.cellsOf 3=1:=by kernel_rfl
 obtain⟨m1,o1,q1⟩:=(Zc.int Tryz.underlying3) _ _ _ _ _ h1;refine⟨⟨m0,m1⟩,⟨o0,o1⟩,λF' le=> ?_⟩;have w0:(cs.drop 0).take (Tryz.prog.cellsOf 3)=(QR .i64) m0:=q0 F' le;rw[e0] at w0
 have w1:(cs.drop 1).take (Tryz.prog.cellsOf 3)=(QR .i64) m1:=q1 F' le;rw[e1] at w1
 exact(Zv w0 (Zv w1 (Hb hl')))
def Cy(x:Za):Prop:=GB x.Dry/\GB x.Water/\GB x.Phenol
theorem qC{H:Type}{enc:TypeId×Value->H}{W:World}:Zc enc Tryz.prog W 25 (Ex Q3) Cy:=by
 intro sp held fuel cs x h;obtain⟨xs,k,_,_,hl,hxl,hx⟩:=DataW.trod_struct Tryz.underlying25 h;have hl' :cs.length=6:=hl.trans (by kernel_rfl);obtain⟨y0,h0⟩:=KL (hx 0 _ rfl) hxl rfl;have e0:Tryz.prog.cellsOf 23=2:=by kernel_rfl
 obtain⟨m0,o0,q0⟩:=Bx _ _ _ _ _ h0;obtain⟨y1,h1⟩:=KL (hx 1 _ rfl) hxl rfl;have e1:Tryz.prog.cellsOf 23=2:=by kernel_rfl
 obtain⟨m1,o1,q1⟩:=Bx _ _ _ _ _ h1;obtain⟨y2,h2⟩:=KL (hx 2 _ rfl) hxl rfl;have e2:Tryz.prog.cellsOf 23=2:=by kernel_rfl
 obtain⟨m2,o2,q2⟩:=Bx _ _ _ _ _ h2;refine⟨⟨m0,m1,m2⟩,⟨o0,o1,o2⟩,λF' le=> ?_⟩;have w0:(cs.drop 0).take (Tryz.prog.cellsOf 23)=ZP m0:=q0 F' le;rw[e0] at w0
 have w1:(cs.drop 2).take (Tryz.prog.cellsOf 23)=ZP m1:=q1 F' le;rw[e1] at w1
 have w2:(cs.drop 4).take (Tryz.prog.cellsOf 23)=ZP m2:=q2 F' le;rw[e2] at w2
 exact(Zv w0 (Zv w1 (Zv w2 (Hb hl'))))
def Hq(x:Qd):Prop:=(Lit.int .i64 x.Kind).wf=true/\(Lit.int .i64 x.A).wf=true/\(Lit.int .i64 x.B).wf=true
theorem Rs{H:Type}{enc:TypeId×Value->H}{W:World}:Zc enc Tryz.prog W 85 (Ex ZI) Hq:=by
 intro sp held fuel cs x h;obtain⟨xs,k,_,_,hl,hxl,hx⟩:=DataW.trod_struct Tryz.underlying85 h;have hl' :cs.length=3:=hl.trans (by kernel_rfl);obtain⟨y0,h0⟩:=KL (hx 0 _ rfl) hxl rfl;have e0:Tryz.prog.cellsOf 3=1:=by kernel_rfl
 obtain⟨m0,o0,q0⟩:=(Zc.int Tryz.underlying3) _ _ _ _ _ h0;obtain⟨y1,h1⟩:=KL (hx 1 _ rfl) hxl rfl;have e1:Tryz.prog.cellsOf 3=1:=by kernel_rfl
 obtain⟨m1,o1,q1⟩:=(Zc.int Tryz.underlying3) _ _ _ _ _ h1;obtain⟨y2,h2⟩:=KL (hx 2 _ rfl) hxl rfl;have e2:Tryz.prog.cellsOf 3=1:=by kernel_rfl
 obtain⟨m2,o2,q2⟩:=(Zc.int Tryz.underlying3) _ _ _ _ _ h2;refine⟨⟨m0,m1,m2⟩,⟨o0,o1,o2⟩,λF' le=> ?_⟩;have w0:(cs.drop 0).take (Tryz.prog.cellsOf 3)=(QR .i64) m0:=q0 F' le;rw[e0] at w0
 have w1:(cs.drop 1).take (Tryz.prog.cellsOf 3)=(QR .i64) m1:=q1 F' le;rw[e1] at w1
 have w2:(cs.drop 2).take (Tryz.prog.cellsOf 3)=(QR .i64) m2:=q2 F' le;rw[e2] at w2
 exact(Zv w0 (Zv w1 (Zv w2 (Hb hl'))))
def Bc(x:ZN):Prop:=(Lit.int .i64 x.Amount).wf=true/\GB x.Alcohol
theorem OW{H:Type}{enc:TypeId×Value->H}{W:World}:Zc enc Tryz.prog W 57 (Ex Zt) Bc:=by
 intro sp held fuel cs x h;obtain⟨xs,k,_,_,hl,hxl,hx⟩:=DataW.trod_struct Tryz.underlying57 h;have hl' :cs.length=3:=hl.trans (by kernel_rfl);obtain⟨y0,h0⟩:=KL (hx 0 _ rfl) hxl rfl;have e0:Tryz.prog.cellsOf 3=1:=by kernel_rfl
 obtain⟨m0,o0,q0⟩:=(Zc.int Tryz.underlying3) _ _ _ _ _ h0;obtain⟨y1,h1⟩:=KL (hx 1 _ rfl) hxl rfl;have e1:Tryz.prog.cellsOf 23=2:=by kernel_rfl
 obtain⟨m1,o1,q1⟩:=Bx _ _ _ _ _ h1;refine⟨⟨m0,m1⟩,⟨o0,o1⟩,λF' le=> ?_⟩;have w0:(cs.drop 0).take (Tryz.prog.cellsOf 3)=(QR .i64) m0:=q0 F' le;rw[e0] at w0
 have w1:(cs.drop 1).take (Tryz.prog.cellsOf 23)=ZP m1:=q1 F' le;rw[e1] at w1
 exact(Zv w0 (Zv w1 (Hb hl')))
def Xz(x:QF):Prop:=(Lit.int .i64 x.Kind).wf=true/\(Lit.int .i64 x.Day).wf=true/\(Lit.int .i64 x.Cask).wf=true/\(Lit.int .i64 x.Other).wf=true/\(Lit.int .i64 x.Person).wf=true/\(Lit.int .i64 x.To).wf=true/\(Lit.int .i64 x.Amount).wf=true/\(Lit.int .i64 x.Where).wf=true
theorem PG{H:Type}{enc:TypeId×Value->H}{W:World}:Zc enc Tryz.prog W 75 (Ex QW) Xz:=by
 intro sp held fuel cs x h;obtain⟨xs,k,_,_,hl,hxl,hx⟩:=DataW.trod_struct Tryz.underlying75 h;have hl' :cs.length=8:=hl.trans (by kernel_rfl);obtain⟨y0,h0⟩:=KL (hx 0 _ rfl) hxl rfl;have e0:Tryz.prog.cellsOf 3=1:=by kernel_rfl
 obtain⟨m0,o0,q0⟩:=(Zc.int Tryz.underlying3) _ _ _ _ _ h0;obtain⟨y1,h1⟩:=KL (hx 1 _ rfl) hxl rfl;have e1:Tryz.prog.cellsOf 3=1:=by kernel_rfl
 obtain⟨m1,o1,q1⟩:=(Zc.int Tryz.underlying3) _ _ _ _ _ h1;obtain⟨y2,h2⟩:=KL (hx 2 _ rfl) hxl rfl;have e2:Tryz.prog.cellsOf 3=1:=by kernel_rfl
 obtain⟨m2,o2,q2⟩:=(Zc.int Tryz.underlying3) _ _ _ _ _ h2;obtain⟨y3,h3⟩:=KL (hx 3 _ rfl) hxl rfl;have e3:Tryz.prog.cellsOf 3=1:=by kernel_rfl
 obtain⟨m3,o3,q3⟩:=(Zc.int Tryz.underlying3) _ _ _ _ _ h3;obtain⟨y4,h4⟩:=KL (hx 4 _ rfl) hxl rfl;have e4:Tryz.prog.cellsOf 3=1:=by kernel_rfl
 obtain⟨m4,o4,q4⟩:=(Zc.int Tryz.underlying3) _ _ _ _ _ h4;obtain⟨y5,h5⟩:=KL (hx 5 _ rfl) hxl rfl;have e5:Tryz.prog.cellsOf 3=1:=by kernel_rfl
 obtain⟨m5,o5,q5⟩:=(Zc.int Tryz.underlying3) _ _ _ _ _ h5;obtain⟨y6,h6⟩:=KL (hx 6 _ rfl) hxl rfl;have e6:Tryz.prog.cellsOf 3=1:=by kernel_rfl
 obtain⟨m6,o6,q6⟩:=(Zc.int Tryz.underlying3) _ _ _ _ _ h6;obtain⟨y7,h7⟩:=KL (hx 7 _ rfl) hxl rfl;have e7:Tryz.prog.cellsOf 3=1:=by kernel_rfl
 obtain⟨m7,o7,q7⟩:=(Zc.int Tryz.underlying3) _ _ _ _ _ h7;refine⟨⟨m0,m1,m2,m3,m4,m5,m6,m7⟩,⟨o0,o1,o2,o3,o4,o5,o6,o7⟩,λF' le=> ?_⟩;have w0:(cs.drop 0).take (Tryz.prog.cellsOf 3)=(QR .i64) m0:=q0 F' le;rw[e0] at w0
 have w1:(cs.drop 1).take (Tryz.prog.cellsOf 3)=(QR .i64) m1:=q1 F' le;rw[e1] at w1
 have w2:(cs.drop 2).take (Tryz.prog.cellsOf 3)=(QR .i64) m2:=q2 F' le;rw[e2] at w2
 have w3:(cs.drop 3).take (Tryz.prog.cellsOf 3)=(QR .i64) m3:=q3 F' le;rw[e3] at w3
 have w4:(cs.drop 4).take (Tryz.prog.cellsOf 3)=(QR .i64) m4:=q4 F' le;rw[e4] at w4
 have w5:(cs.drop 5).take (Tryz.prog.cellsOf 3)=(QR .i64) m5:=q5 F' le;rw[e5] at w5
 have w6:(cs.drop 6).take (Tryz.prog.cellsOf 3)=(QR .i64) m6:=q6 F' le;rw[e6] at w6
 have w7:(cs.drop 7).take (Tryz.prog.cellsOf 3)=(QR .i64) m7:=q7 F' le;rw[e7] at w7
 exact(Zv w0 (Zv w1 (Zv w2 (Zv w3 (Zv w4 (Zv w5 (Zv w6 (Zv w7 (Hb hl')))))))))
def BG(x:Zm):Prop:=(Lit.int .i64 x.From).wf=true/\(Lit.int .i64 x.Rate).wf=true
theorem Rt{H:Type}{enc:TypeId×Value->H}{W:World}:Zc enc Tryz.prog W 79 (Ex ZW) BG:=by
 intro sp held fuel cs x h;obtain⟨xs,k,_,_,hl,hxl,hx⟩:=DataW.trod_struct Tryz.underlying79 h;have hl' :cs.length=2:=hl.trans (by kernel_rfl);obtain⟨y0,h0⟩:=KL (hx 0 _ rfl) hxl rfl;have e0:Tryz.prog.cellsOf 3=1:=by kernel_rfl
 obtain⟨m0,o0,q0⟩:=(Zc.int Tryz.underlying3) _ _ _ _ _ h0;obtain⟨y1,h1⟩:=KL (hx 1 _ rfl) hxl rfl;have e1:Tryz.prog.cellsOf 3=1:=by kernel_rfl
 obtain⟨m1,o1,q1⟩:=(Zc.int Tryz.underlying3) _ _ _ _ _ h1;refine⟨⟨m0,m1⟩,⟨o0,o1⟩,λF' le=> ?_⟩;have w0:(cs.drop 0).take (Tryz.prog.cellsOf 3)=(QR .i64) m0:=q0 F' le;rw[e0] at w0
 have w1:(cs.drop 1).take (Tryz.prog.cellsOf 3)=(QR .i64) m1:=q1 F' le;rw[e1] at w1
 exact(Zv w0 (Zv w1 (Hb hl')))
def Xx(x:ZB):Prop:=(∀y7∈x.Rates,BG y7)/\(Lit.int .i64 x.Transit).wf=true/\(Lit.int .i64 x.Loss).wf=true/\(Lit.int .i64 x.Share).wf=true
theorem PE{H:Type}{enc:TypeId×Value->H}{W:World}:Zc enc Tryz.prog W 31 BF Xx:=by
 intro sp held fuel cs x h;obtain⟨xs,k,_,_,hl,hxl,hx⟩:=DataW.trod_struct Tryz.underlying31 h;have hl' :cs.length=4:=hl.trans (by kernel_rfl);obtain⟨y0,h0⟩:=KL (hx 0 _ rfl) hxl rfl;have e0:Tryz.prog.cellsOf 29=1:=by kernel_rfl
 obtain⟨m0,o0,q0⟩:=(Zc.slice (sz:=2) Tryz.underlying29 (by kernel_rfl) (by decide) Rt) _ _ _ _ _ h0;obtain⟨y1,h1⟩:=KL (hx 1 _ rfl) hxl rfl;have e1:Tryz.prog.cellsOf 3=1:=by kernel_rfl
 obtain⟨m1,o1,q1⟩:=(Zc.int Tryz.underlying3) _ _ _ _ _ h1;obtain⟨y2,h2⟩:=KL (hx 2 _ rfl) hxl rfl;have e2:Tryz.prog.cellsOf 3=1:=by kernel_rfl
 obtain⟨m2,o2,q2⟩:=(Zc.int Tryz.underlying3) _ _ _ _ _ h2;obtain⟨y3,h3⟩:=KL (hx 3 _ rfl) hxl rfl;have e3:Tryz.prog.cellsOf 3=1:=by kernel_rfl
 obtain⟨m3,o3,q3⟩:=(Zc.int Tryz.underlying3) _ _ _ _ _ h3;refine⟨⟨m0,m1,m2,m3⟩,⟨o0,o1,o2,o3⟩,λF' le=> ?_⟩;have w0:(kh 2 (Ex ZW)) F' m0 ((cs.drop 0).take (Tryz.prog.cellsOf 29)):=q0 F' le;rw[e0] at w0
 obtain⟨p0_0,p0_1,w0,r0_0⟩:=w0;have w1:(cs.drop 1).take (Tryz.prog.cellsOf 3)=(QR .i64) m1:=q1 F' le;rw[e1] at w1
 have w2:(cs.drop 2).take (Tryz.prog.cellsOf 3)=(QR .i64) m2:=q2 F' le;rw[e2] at w2
 have w3:(cs.drop 3).take (Tryz.prog.cellsOf 3)=(QR .i64) m3:=q3 F' le;rw[e3] at w3
 exact⟨p0_0,p0_1,(Zv w0 (Zv w1 (Zv w2 (Zv w3 (Hb hl'))))),r0_0⟩
def Xy(x:QH):Prop:=(Lit.int .i64 x.Kind).wf=true/\(Lit.int .i64 x.Day).wf=true/\(Lit.int .i64 x.Bond).wf=true/\(Lit.int .i64 x.To).wf=true/\(Lit.int .i64 x.Id).wf=true/\(Lit.int .i64 x.Amount).wf=true
theorem PF{H:Type}{enc:TypeId×Value->H}{W:World}:Zc enc Tryz.prog W 87 (Ex QV) Xy:=by
 intro sp held fuel cs x h;obtain⟨xs,k,_,_,hl,hxl,hx⟩:=DataW.trod_struct Tryz.underlying87 h;have hl' :cs.length=6:=hl.trans (by kernel_rfl);obtain⟨y0,h0⟩:=KL (hx 0 _ rfl) hxl rfl;have e0:Tryz.prog.cellsOf 3=1:=by kernel_rfl
 obtain⟨m0,o0,q0⟩:=(Zc.int Tryz.underlying3) _ _ _ _ _ h0;obtain⟨y1,h1⟩:=KL (hx 1 _ rfl) hxl rfl;have e1:Tryz.prog.cellsOf 3=1:=by kernel_rfl
 obtain⟨m1,o1,q1⟩:=(Zc.int Tryz.underlying3) _ _ _ _ _ h1;obtain⟨y2,h2⟩:=KL (hx 2 _ rfl) hxl rfl;have e2:Tryz.prog.cellsOf 3=1:=by kernel_rfl
 obtain⟨m2,o2,q2⟩:=(Zc.int Tryz.underlying3) _ _ _ _ _ h2;obtain⟨y3,h3⟩:=KL (hx 3 _ rfl) hxl rfl;have e3:Tryz.prog.cellsOf 3=1:=by kernel_rfl
 obtain⟨m3,o3,q3⟩:=(Zc.int Tryz.underlying3) _ _ _ _ _ h3;obtain⟨y4,h4⟩:=KL (hx 4 _ rfl) hxl rfl;have e4:Tryz.prog.cellsOf 3=1:=by kernel_rfl
 obtain⟨m4,o4,q4⟩:=(Zc.int Tryz.underlying3) _ _ _ _ _ h4;obtain⟨y5,h5⟩:=KL (hx 5 _ rfl) hxl rfl;have e5:Tryz.prog.cellsOf 3=1:=by kernel_rfl
 obtain⟨m5,o5,q5⟩:=(Zc.int Tryz.underlying3) _ _ _ _ _ h5;refine⟨⟨m0,m1,m2,m3,m4,m5⟩,⟨o0,o1,o2,o3,o4,o5⟩,λF' le=> ?_⟩;have w0:(cs.drop 0).take (Tryz.prog.cellsOf 3)=(QR .i64) m0:=q0 F' le;rw[e0] at w0
 have w1:(cs.drop 1).take (Tryz.prog.cellsOf 3)=(QR .i64) m1:=q1 F' le;rw[e1] at w1
 have w2:(cs.drop 2).take (Tryz.prog.cellsOf 3)=(QR .i64) m2:=q2 F' le;rw[e2] at w2
 have w3:(cs.drop 3).take (Tryz.prog.cellsOf 3)=(QR .i64) m3:=q3 F' le;rw[e3] at w3
 have w4:(cs.drop 4).take (Tryz.prog.cellsOf 3)=(QR .i64) m4:=q4 F' le;rw[e4] at w4
 have w5:(cs.drop 5).take (Tryz.prog.cellsOf 3)=(QR .i64) m5:=q5 F' le;rw[e5] at w5
 exact(Zv w0 (Zv w1 (Zv w2 (Zv w3 (Zv w4 (Zv w5 (Hb hl')))))))
theorem yn{H:Type}{enc:TypeId×Value->H}{W:World}:Zc enc Tryz.prog W 25 (Ex Q3) (λx=>Cy x):=qC
theorem ym{H:Type}{enc:TypeId×Value->H}{W:World}:Zc enc Tryz.prog W 26 (kh 3 (Ex ZI)) (λx=>(∀y1∈x,Hq y1)):=(Zc.slice (sz:=3) Tryz.underlying26 (by kernel_rfl) (by decide) Rs)
theorem yl{H:Type}{enc:TypeId×Value->H}{W:World}:Zc enc Tryz.prog W 27 (kh 3 (Ex Zt)) (λx=>(∀y1∈x,Bc y1)):=(Zc.slice (sz:=3) Tryz.underlying27 (by kernel_rfl) (by decide) OW)
theorem yk{H:Type}{enc:TypeId×Value->H}{W:World}:Zc enc Tryz.prog W 28 (kh 8 (Ex QW)) (λx=>(∀y1∈x,Xz y1)):=(Zc.slice (sz:=8) Tryz.underlying28 (by kernel_rfl) (by decide) PG)
theorem yj{H:Type}{enc:TypeId×Value->H}{W:World}:Zc enc Tryz.prog W 31 BF (λx=>Xx x):=PE
theorem yi{H:Type}{enc:TypeId×Value->H}{W:World}:Zc enc Tryz.prog W 32 (kh 6 (Ex QV)) (λx=>(∀y1∈x,Xy y1)):=(Zc.slice (sz:=6) Tryz.underlying32 (by kernel_rfl) (by decide) PF)
theorem yh{H:Type}{enc:TypeId×Value->H}{W:World}:Zc enc Tryz.prog W 33 (kh 1 (Ex (QR .u8))) (λx=>(∀y1∈x,(Lit.int .u8 y1).wf=true)):=(Zc.slice (sz:=1) Tryz.underlying33 (by kernel_rfl) (by decide) (Zc.int Tryz.underlying5))
end
section
open Go.Dec Go.Shelf Go.RowKit Go.Maps Go.Sort
theorem S5{α:Type}{a:Array α}{l:List α}(h:a.toList=l):a=l.toArray:=by rw[<-h]
theorem j5:Tryz.prog.globalNamed "strconv.ErrSyntax"=some 0:=by kernel_rfl
theorem j6:Tryz.prog.globalNamed "strconv.ErrRange"=some 1:=by kernel_rfl
theorem j4:Tryz.prog.globalNamed "internal/strconv.uint64pow10"=some 2:=by kernel_rfl
theorem jw:(Tryz.prog.globals[0]?).map (·.type)=some 210:=by kernel_rfl
theorem jx:(Tryz.prog.globals[1]?).map (·.type)=some 210:=by kernel_rfl
theorem yo:(Tryz.prog.globals[2]?).map (·.type)=some 291:=by kernel_rfl
theorem qx{W:World}{ps:List MemPlace}{l:List (String×DataW Unit)}(hl:DataW.LaidVars Tryz.prog W l ps)(j g0:Nat){n:String}{nm:String}{d:DataW Unit}(hj:l[j]? =some (n,.iface nm d))(hg0:Tryz.prog.globalNamed n=some g0)(ht0:(Tryz.prog.globals[g0]?).map (·.type)=some 210):
  ∃ev T fr,(FW W).mem g0=some (.cells #[ev] T fr)/\(ev= .nilIface∨∃te pe,ev= .iface te pe):=by
 obtain⟨g,t,cs,fuel,p,T,fr,hg,ht,hh,hd⟩:=NI j hj hl;obtain rfl:=Option.some.inj (hg0.symm.trans hg);obtain rfl:=Option.some.inj (ht0.symm.trans ht);obtain⟨u,v,hc⟩:=Go.Dec.Mg Tryz.underlying210 hd;exact⟨_,T,fr,by rw[show(FW W).mem g0=W.heap[g0]? from rfl,hh,S5 hc],.inr ⟨u,v,rfl⟩⟩
theorem zI:Tryz.prog.cellsOf 248=1:=by kernel_rfl
theorem zH:Tryz.prog.cellsOf 291=20:=by kernel_rfl
theorem qS:(Rows.laid_internal_strconv_uint64pow10:DataW Unit)=Go.Lib.tabData .u64 Go.Lib.pow10Tab:=by kernel_rfl
theorem E4:((begin Tryz.prog (λ_ _=>0) default).world.heap[3]?).bind Obj.row? =some (#[.int .i64 0],3):=by kernel_rfl
theorem ED{W:World}(h:laidMetH Tryz.prog Rows.topLedgersRow.laid W):laidMet Tryz.prog Rows.topLedgersRow.laid W:=by
 rwa[MakeChecks.laidMetH_plain _ _ _ (by kernel_rfl)] at h
set_option maxRecDepth 100000 in
theorem zn{W:World}(h:laidMetH Tryz.prog Rows.topLedgersRow.laid W)(hsh:W.ShapedOpen Tryz.prog):Wg (FW W):=by
 obtain⟨ps,hl,_,_⟩:=ED h;refine⟨?_,?_,?_,?_⟩
 ·obtain⟨g,t,cs,fuel,p,T,fr,hg,ht,hh,hd⟩:=NI 2 rfl hl;obtain rfl:=Option.some.inj (j4.symm.trans hg);obtain rfl:=Option.some.inj (yo.symm.trans ht);have hc:=Go.Lib.cells_of_tab Tryz.underlying291 Tryz.underlying248 zI zH (by rw[<-qS];exact hd);exact⟨2,T,fr,j4,by rw[show(FW W).mem 2=W.heap[2]? from rfl,hh,S5 hc];rfl⟩
 ·obtain⟨m,hm⟩:=Go.Proofs.cell_of_shapedOpen_int (P:=Tryz.prog) (g:=3) (t:=3) (zero:=#[.int .i64 0]) hsh (of_decide_eq_true (by kernel_rfl)) E4 rfl (by kernel_rfl) (by kernel_rfl) Tryz.underlying3;obtain⟨T,fr,hb⟩:=TP hsh (of_decide_eq_true (by kernel_rfl)) E4 rfl hm;exact⟨m,T,fr,hb⟩
 ·exact qx hl 5 0 rfl j5 jw
 ·exact qx hl 4 1 rfl j6 jx
end
section
open Go.Dec
open Go.ChangeShapes Go.WideShapes Go.ChangeAt Go.RowKit
def W4:Prop:=∀(a0:Za) (a1:(List Qd)) (a2:(List ZN)) (a3:(List QF)) (a4:ZB) (a5:(List QH)) (a6:Int) (a7:(List Int)) (a8:Int) (a9:Int),Cy a0->(∀y∈a1,Hq y)->(∀y∈a2,Bc y)->(∀y∈a3,Xz y)->Xx a4->(∀y∈a5,Xy y)->(Lit.int .i64 a6).wf=true->(∀y∈a7,(Lit.int .u8 y).wf=true)->(Lit.int .u8 a8).wf=true->(Lit.int .u8 a9).wf=true->YE a0 a1 a2 a3 a4 a5 a6 a7 a8 a9=some true
set_option maxRecDepth 100000 in
theorem CM(law:W4)(os:Os)(started:os.Started)(H:Type)(enc:TypeId×Value->H):
  ReturnsInHanded {} Tryz.checked os 3 .any (λw args=>(Rows.topLedgersSpec.pre enc Tryz.prog Tryz.f3 Rows.topLedgersRow.domain false w args/\laidMetH Tryz.prog Rows.topLedgersRow.laid w)/\sizedMet enc Tryz.prog Tryz.f3 (OpenSpec.ofChange Rows.topLedgersSpec) false w args) (Rows.topLedgersSpec.post enc Tryz.prog Tryz.f3 false true false false):=by
 refine O9 (C:=Tryz.checked) (X:=λw=>laidMetH Tryz.prog Rows.topLedgersRow.laid w) (λ_ _ hh h=>h.of_heap hh) Tryz.own started (by kernel_rfl) Tryz.func3
  (ChangeSpec.witness_shaped (enc:=enc) (C:=Tryz.checked) (os:=os) (X:=λw _=>laidMetH Tryz.prog Rows.topLedgersRow.laid w) false (World.laidAll Tryz.prog os Rows.topLedgersRow.laid) #[(.agg #[.int .i64 0,.int .i64 0,.int .i64 0,.int .i64 0,.int .i64 0,.int .i64 0]),.slice none 0 0,.slice none 0 0,.slice none 0 0,(.agg #[.slice none 0 0,.int .i64 0,.int .i64 0,.int .i64 0]),.slice none 0 0,.int .i64 0,.slice none 0 0,.int .u8 0,.int .u8 0] 12 (World.laidAll_os _ _ _) (World.shaped_of_ZipB (by kernel_rfl) (by kernel_rfl)) (by kernel_rfl) (by kernel_rfl) (by kernel_rfl)
   (by rw[MakeChecks.laidMetH_plain _ _ _ (by kernel_rfl)];exact laidMet_laidAll _ (by kernel_rfl) (by kernel_rfl))) ?_
 intro W base args ds gs before hval hW hsh hL;have hT:Wg (FW W):=zn hL hsh;refine PQ (P:=Tryz.prog) Tryz.laidOut (by kernel_rfl) rfl (by kernel_rfl:Tryz.f3.resultTypes=#[4]) Tryz.underlying4 (λds h=> ?_) (λbase args ds ps hval hA=> ?_) base args ds gs before hval hW
 ·match ds,h with
  | [d0,d1,d2,d3,d4,d5,d6,d7,d8,d9],_=>rfl
 ·rw[Tryz.params3] at hA hval
  obtain⟨v0,l0,_,_,_,_,e0,_,_,t0,hA⟩:=trodAll_cons hA;obtain⟨v1,l1,_,_,_,_,e1,_,_,t1,hA⟩:=trodAll_cons hA;obtain⟨v2,l2,_,_,_,_,e2,_,_,t2,hA⟩:=trodAll_cons hA;obtain⟨v3,l3,_,_,_,_,e3,_,_,t3,hA⟩:=trodAll_cons hA;obtain⟨v4,l4,_,_,_,_,e4,_,_,t4,hA⟩:=trodAll_cons hA;obtain⟨v5,l5,_,_,_,_,e5,_,_,t5,hA⟩:=trodAll_cons hA;obtain⟨v6,l6,_,_,_,_,e6,_,_,t6,hA⟩:=trodAll_cons hA;obtain⟨v7,l7,_,_,_,_,e7,_,_,t7,hA⟩:=trodAll_cons hA;obtain⟨v8,l8,_,_,_,_,e8,_,_,t8,hA⟩:=trodAll_cons hA;obtain⟨v9,l9,_,_,_,_,e9,_,_,t9,hA⟩:=trodAll_cons hA;obtain⟨e10,_,_⟩:=trodAll_nil hA;subst e10 e9 e8 e7 e6 e5 e4 e3 e2 e1;obtain rfl:args=[v0,v1,v2,v3,v4,v5,v6,v7,v8,v9].toArray:=by rw[<-e0]
  obtain⟨m0,cs0,o0,rfl,h0⟩:=Rk Tryz.underlying25 yn (hval 0 _ _ rfl rfl) t0;subst h0;obtain⟨m1,p1,k1,o1,rfl,h1⟩:=DS Tryz.underlying26 ym (hval 1 _ _ rfl rfl) t1;obtain⟨m2,p2,k2,o2,rfl,h2⟩:=DS Tryz.underlying27 yl (hval 2 _ _ rfl rfl) t2;obtain⟨m3,p3,k3,o3,rfl,h3⟩:=DS Tryz.underlying28 yk (hval 3 _ _ rfl rfl) t3;obtain⟨m4,cs4,o4,rfl,h4⟩:=Rk Tryz.underlying31 yj (hval 4 _ _ rfl rfl) t4;obtain⟨p4_0,k4_0,rfl,h4_0⟩:=h4;obtain⟨m5,p5,k5,o5,rfl,h5⟩:=DS Tryz.underlying32 yi (hval 5 _ _ rfl rfl) t5;obtain⟨m6,o6,rfl⟩:=EY Tryz.underlying3 (hval 6 _ _ rfl rfl) t6;obtain⟨m7,p7,k7,o7,rfl,h7⟩:=DS Tryz.underlying33 yh (hval 7 _ _ rfl rfl) t7;obtain⟨m8,o8,rfl⟩:=EY Tryz.underlying5 (hval 8 _ _ rfl rfl) t8;obtain⟨m9,o9,rfl⟩:=EY Tryz.underlying5 (hval 9 _ _ rfl rfl) t9;have hl:=law m0 m1 m2 m3 m4 m5 m6 m7 m8 m9 o0 o1 o2 o3 o4 o5 o6 o7 o8 o9;have hc:=GU (FW W) hT m0 m1 p1 k1 h1 m2 p2 k2 h2 m3 p3 k3 h3 m4 p4_0 k4_0 h4_0 m5 p5 k5 h5 m6 m7 p7 k7 h7 m8 m9;rw[hl] at hc
  exact hc
theorem S6(law:W4):Rows.TopLedgersSaid:=
 OpenClaim.holds_of_wide 3 Tryz.f3 rfl rfl rfl rfl rfl rfl rfl ⟨rfl,rfl,rfl,rfl,rfl⟩ rfl rfl rfl rfl rfl (by kernel_rfl) Tryz.func3 (by kernel_rfl)
  (of_decide_eq_true (by kernel_rfl)) (by unfold Func.isWrapper;first | (rw[if_pos (by decide+kernel)];kernel_rfl) | (rw[if_neg (by decide+kernel)];exact⟨rfl,rfl⟩))
  (λos started H enc _=>CM law os started H enc)
theorem S9(law:W4):Rows.TopLedgersCardSaid:=
 Claim7.holds_tied_plain_at .later [] [.data,.data,.data,.data,.sentinel,.sentinel,.pinned] true (true, "8c5434845bb07ec602df5c271e560a2d2b065291918897c2a1b9578e7eaeb517") true (S6 law) (λ_ h=>by cases h) (by kernel_rfl) (λ_ h=>by cases h) topLedgers_row_tie rfl ⟨rfl,rfl⟩ (by kernel_rfl) rfl
  (λf fn hf hfn=>by
   obtain rfl:f=3:=Option.some.inj ((show Tryz.prog.funcNamed "wormtub/wormtubtop.TopLedgers"=some 3 by kernel_rfl).symm.trans hf) |>.symm;obtain rfl:fn=Tryz.f3:=(Option.some.inj (Tryz.func3.symm.trans hfn)).symm
   exact⟨by kernel_rfl,λj t ht=>by
    have hall:(Tryz.f3.params.toList.all λu=> !Tryz.prog.wantsStandIn u)=true:=by kernel_rfl
    have hm:=Array.mem_of_getElem? ht;exact(show Tryz.prog.wantsStandIn t=false by first | (simp at hm;done) | simpa using List.all_eq_true.1 hall t (by simpa using hm))⟩)
  (by kernel_rfl)
end
end Go.Proofs.YtnniagcgccfobaaGreatDoor
section
namespace Go.Proofs.YtnniagcgccfobaaGreatDoor.Ca
open Go.Dec
theorem kT(l:List Ev)(day:Int):(Cl l day).1.length<=256:=by
 unfold Cl;cases h:WG l day with
 | mk r k=>
  cases r with
  | inr e=>simp
  | inl all=>
   obtain⟨hok,_⟩:=Ft h
   have h1:(jM all).length<=all.length:=by
    unfold jM;refine Nat.le_trans (List.length_filterMap_le _ _) ?_;rw[(Cz all).length_eq,List.length_map];exact Nat.le_refl _
   have:=hok.few;simp only[List.length_map];omega
end Go.Proofs.YtnniagcgccfobaaGreatDoor.Ca
namespace Go.Proofs.YtnniagcgccfobaaGreatDoor.Ex
open Go.Dec
theorem kA{r:XR}{l:List Ev}{day:Int}:(qW (WG r l day)).1.Moving.length<=1000000:=by
 cases h:WG r l day with
 | mk q k=>
  cases q with
  | inr e=>simp[qW]
  | inl a=>
   have:=(Ft h).2.1.mlen;have:=(Ft h).2.2.2;have:=P8 h;simp only[qW];omega
end Go.Proofs.YtnniagcgccfobaaGreatDoor.Ex
namespace Go.Proofs.YtnniagcgccfobaaGreatDoor
open Go.Dec
theorem Ig(a:List Kd)(h:a.length<=1000000):Ja a a=some true:=by
 unfold Ja;rw[if_neg (by simp)];refine QE (MA a (λi x hi hx=> ?_) ?_ h) rfl
 ·have:=Hu hx;unfold Ym;rw[if_pos (by simp;omega)];simp only[ZF,hx,Option.bind_some,QL,nx (show i<=1000000000 by omega)];rw[if_neg (by simp[OH,Rc])]
 ·unfold Ym;rw[if_neg (by simp)]
theorem EL(l:List ZN)(e:Int)(hl:l.length<=1000000):Qk (Kp l (l,e)) 0=some (.inl ()):=by
 refine MA l (λi x hi hx=> ?_) ?_ hl
 ·have:=Hu hx;unfold Kp;rw[if_pos (by simp;omega)];simp only[ZF,hx,Option.bind_some,nx (show i<=1000000000 by omega)];rw[if_neg (by simp[OI,eq_23])]
 ·unfold Kp;rw[if_neg (by simp)]
theorem CB{α:Type}{l:List α}{b:α->QA}{k:Int}(h:∀x,(b x).Kind=k):(l.map b).filter (λx=>decide (x.Kind=k))=l.map b:=by
 rw[List.filter_eq_self];intro y hy;obtain⟨x,_,rfl⟩:=List.mem_map.1 hy;simpa using h x
theorem U0{α:Type}{l:List α}{b:α->QA}{k:Int}(h:∀x,(b x).Kind≠k):(l.map b).filter (λx=>decide (x.Kind=k))=[]:=by
 rw[List.filter_eq_nil_iff];intro y hy;obtain⟨x,_,rfl⟩:=List.mem_map.1 hy;simpa using h x
theorem CJ{α:Type}{l:List α}{b:α->QA}{f:List Int->α}(h:∀x,f (b x).N=x):(l.map b).map (λx=>f x.N)=l:=by
 rw[List.map_map]
 conv=>rhs;rw[<-List.map_id l]
 exact List.map_congr_left λx _=>h x
section
variable{m:List Qd}{s:List ZN}{c:List QF}{d:List QH}
theorem jz(hb:Jk (Vx m s c d)=true):Ve (Vx m s c d) 0 fM=(m,0):=by
 unfold Ve;rw[if_pos hb];unfold Vx;rw[List.filter_append,List.filter_append,List.filter_append,CB (b:=bM) (k:=0) (λ_=>rfl),U0 (b:=bS) (k:=0) (λ_=>show(1:Int)≠0 by decide),U0 (b:=bC) (k:=0) (λ_=>show(2:Int)≠0 by decide),U0 (b:=bD) (k:=0) (λ_=>show(3:Int)≠0 by decide)];simp only[List.append_nil];rw[CJ (b:=bM) (λ_=>rfl)]
theorem j1(hb:Jk (Vx m s c d)=true):Ve (Vx m s c d) 1 fS=(s,0):=by
 unfold Ve;rw[if_pos hb];unfold Vx;rw[List.filter_append,List.filter_append,List.filter_append,U0 (b:=bM) (k:=1) (λ_=>show(0:Int)≠1 by decide),CB (b:=bS) (k:=1) (λ_=>rfl),U0 (b:=bC) (k:=1) (λ_=>show(2:Int)≠1 by decide),U0 (b:=bD) (k:=1) (λ_=>show(3:Int)≠1 by decide)];simp only[List.append_nil,List.nil_append];rw[CJ (b:=bS) (λ_=>rfl)]
theorem j2(hb:Jk (Vx m s c d)=true):Ve (Vx m s c d) 2 fC=(c,0):=by
 unfold Ve;rw[if_pos hb];unfold Vx;rw[List.filter_append,List.filter_append,List.filter_append,U0 (b:=bM) (k:=2) (λ_=>show(0:Int)≠2 by decide),U0 (b:=bS) (k:=2) (λ_=>show(1:Int)≠2 by decide),CB (b:=bC) (k:=2) (λ_=>rfl),U0 (b:=bD) (k:=2) (λ_=>show(3:Int)≠2 by decide)];simp only[List.append_nil,List.nil_append];rw[CJ (b:=bC) (λ_=>rfl)]
theorem jy(hb:Jk (Vx m s c d)=true):Ve (Vx m s c d) 3 fD=(d,0):=by
 unfold Ve;rw[if_pos hb];unfold Vx;rw[List.filter_append,List.filter_append,List.filter_append,U0 (b:=bM) (k:=3) (λ_=>show(0:Int)≠3 by decide),U0 (b:=bS) (k:=3) (λ_=>show(1:Int)≠3 by decide),U0 (b:=bC) (k:=3) (λ_=>show(2:Int)≠3 by decide),CB (b:=bD) (k:=3) (λ_=>rfl)];simp only[List.nil_append];rw[CJ (b:=bD) (λ_=>rfl)]
end
theorem EX(m:List Qd)(s:List ZN)(c:List QF)(d:List QH):K4 (Vx m s c d):=by
 intro x hx;simp only[Vx,List.mem_append,List.mem_map] at hx
 rcases hx with((⟨y,_,rfl⟩ | ⟨y,_,rfl⟩) | ⟨y,_,rfl⟩) | ⟨y,_,rfl⟩
 ·exact⟨(by decide:(0:Int)<=0),(by decide:(0:Int)<=3)⟩
 ·exact⟨(by decide:(0:Int)<=1),(by decide:(1:Int)<=3)⟩
 ·exact⟨(by decide:(0:Int)<=2),(by decide:(2:Int)<=3)⟩
 ·exact⟨(by decide:(0:Int)<=3),(by decide:(3:Int)<=3)⟩
theorem HU{α:Type}{l t:List QA}(hl:Jk l=true)(ht:Jk t=true)(h:∀k,k < 4->t.filter (kd k)=l.filter (kd k)){k:Nat}(hk:k < 4)(f:List Int->α):Ve t (k:Int) f=Ve l (k:Int) f:=by
 unfold Ve;rw[if_pos hl,if_pos ht];exact congrArg (λz=>(List.map (λx=>f x.N) z,(0:Int))) (h k hk)
theorem FI:Kg=some true:=by
 have hb:Jk [QA.mk 0 [0,5,17]]=true:=by decide+kernel
 have hlen:=TY hb;have e1:(Ca.Cl [QF.mk 0 0 1 0 9 0 5 0] 3).2=(1,0):=by decide+kernel
 have e2:(Ca.Cl [QF.mk 0 0 1 0 9 0 5 0] 3).1.map (·.Owner)=[9]:=by decide+kernel
 have e3:(if !Ex.Ho (ZB.mk [Zm.mk 0 2000] 0 0 0) then((0:Int),(1:Int)) else if !Ex.Vv 1999 0 17179869184|| !Ex.Vv 99 0 65536 then(0,2) else(Ex.Vf (ZB.mk [Zm.mk 0 2000] 0 0 0) 1999 99,0))=(3998,0):=by decide+kernel
 unfold Kg;refine QE (LJ hb) (QE (Ca.D1 _ _) (QE (Ex.I2 (by decide)) ?_));rw[e3];generalize Ca.Cl [QF.mk 0 0 1 0 9 0 5 0] 3=P at e1 e2
 obtain⟨L,a,b⟩:=P;simp only[Prod.mk.injEq] at e1
 obtain⟨rfl,rfl⟩:=e1;cases L with
 | nil=>cases e2
 | cons x L=>
  simp only[List.map_cons,List.cons.injEq,List.map_eq_nil_iff] at e2
  obtain⟨e2,rfl⟩:=e2;rw[if_pos (by rw[Jo,hlen];rfl)];show((some x).bind λx45=>some (x45.Owner==9)).bind _=_;rw[Option.bind_some,e2];rfl
theorem TI:W4:=by
 intro m st s c r d day which tt turn _ _ _ _ _ _ _ hw hto htu;unfold YE;by_cases hg:st.length<=30/\s.length<=30/\c.length<=30/\d.length<=30/\r.Rates.length<=70/\0 < which.length
 ·obtain⟨g1,g2,g3,g4,g5,g6⟩:=hg;rw[if_neg (by simp only[Bool.or_eq_true,decide_eq_true_eq,beq_iff_eq];omega)];refine QE (I4 st s c d (by omega) (by omega) (by omega) (by omega)) ?_;by_cases hb:Jk (Vx st s c d)=true
  ·have hB:Rj st s c d=(Vx st s c d,0):=by unfold Rj;rw[if_neg (by omega),if_pos hb]
   rw[hB];refine(if_neg (by simp)).trans ?_;have hbl:(Vx st s c d).length<=120:=by simp[Vx];omega
   have hK:=EX st s c d;have q0:=jz hb;have q1:=j1 hb;have q2:=j2 hb;have q3:=jy hb;generalize Vx st s c d=l at*
   obtain⟨b0,b1⟩:=wf_u8 htu;obtain⟨u,rfl⟩:=Int.eq_ofNat_of_zero_le b0;obtain⟨c0,c1⟩:=wf_u8 hto;obtain⟨v,rfl⟩:∃v:UInt8,tt=(v.toNat:Int):=⟨UInt8.ofNat tt.toNat,by rw[XL (by omega)];omega⟩;obtain⟨ws,rfl⟩:∃ws,which=VM ws:=⟨_,(j3 hw).symm⟩;obtain⟨t,s',h1,h2,h3⟩:=Pm (r:=(l,0)) (u:=u) (by simp only;omega) hK (by omega) l.length [] (λ_=>0) (by simp) ⟨λk _=>⟨0,rfl,Nat.zero_le _,rfl⟩,λx hx=>by cases hx⟩;refine QE h1 ?_;have hkk:=Rv hK h2 h3
   have hbt:Jk t=true:=by
    obtain⟨o1,o2⟩:=Jy.1 hb;exact Jy.2 ⟨by rw[h3];exact o1,λx hx=>o2 x (h2.2 x hx)⟩
   have htl:t.length<=120:=by rw[h3];exact hbl
   have h96:=AY (Jy.1 hbt).2;have hwl:=U2 t;refine QE (LJ hbt) ?_;refine(if_neg (by simp)).trans ?_;obtain⟨R',k1,k2,k3⟩:=RN hbt (by omega) (ws:=ws) (by rw[Jo] at g6;exact g6) v 100 0 (KD t) (by omega) (by omega) h96 (LQ.self _) (λ_ _=>rfl);refine QE k1 ?_;have hl1:R'.flatten.length<=1000000:=by rw[G5 k3,k2.1];omega
   have hl2:(KD t).flatten.length<=1000000:=by rw[G5 h96];omega
   refine QE (by rw[LP R'.flatten (Nat.le_trans hl1 (by decide)),ME hbt k3 k2]) ?_;refine QE (by rw[I0 (KD t).flatten (Nat.le_trans hl2 (by decide)),Lt hbt]) ?_;refine(if_neg (by simp[h3])).trans ?_;have p0:Ve t 0 fM=(st,0):=(HU hb hbt hkk (k:=0) (by omega) fM).trans q0;have p1:Ve t 1 fS=(s,0):=(HU hb hbt hkk (k:=1) (by omega) fS).trans q1;have p2:Ve t 2 fC=(c,0):=(HU hb hbt hkk (k:=2) (by omega) fC).trans q2;have p3:Ve t 3 fD=(d,0):=(HU hb hbt hkk (k:=3) (by omega) fD).trans q3;refine QE ((Ej t).trans (congrArg some p0)) (QE ((El t).trans (congrArg some p1)) (QE ((Em t).trans (congrArg some p2)) (QE ((LU t).trans (congrArg some p3)) ?_)));refine(if_neg (by simp)).trans ?_;refine QE (EL s 0 (by omega)) ?_;obtain⟨pm,hpm⟩:=Ma.Ou m st (by omega);have hpc:=Ca.D1 c day;have hpe:=Ex.D1 (r:=r) (l:=d) (day:=day) (by omega) (by omega);refine QE hpm (QE hpm (QE hpc (QE hpc (QE hpe (QE hpe ?_)))));have s1:=Ig _ (Nat.le_trans (Ca.kT c day) (by decide));have s2:=Ex.Iz _ (Ex.kA (r:=r) (l:=d) (day:=day))
   have f1:(if((((eq_25 pm.1 pm.1)&&(CV pm.2.1 pm.2.1))&&(pm.2.2.1==pm.2.2.1))&&(pm.2.2.2.1==pm.2.2.2.1)) then((Ja (Ca.Cl c day).1 (Ca.Cl c day).1).bind λr385=>some r385) else some false)=some true:=by
    rw[if_pos (by simp[eq_25,CV,eq_23]),s1];rfl
   refine QE f1 ?_;simp only[QL,Bool.true_and,beq_self_eq_true,Bool.and_self,if_true];rw[s2,Option.bind_some,Option.bind_some];simp only[Bool.true_and,beq_self_eq_true,Bool.and_self,if_true,FI,Option.bind_some]
  ·have hB:Rj st s c d=([],1):=by unfold Rj;rw[if_neg (by omega),if_neg hb]
   rw[hB];refine(if_pos (by simp)).trans ?_;rw[if_pos (by simp),FI];rfl
 ·rw[if_pos (by
   simp only[Bool.or_eq_true,decide_eq_true_eq,beq_iff_eq];omega),FI];rfl
theorem topLedgers_holds:Rows.TopLedgersCardSaid:=S9 TI
end Go.Proofs.YtnniagcgccfobaaGreatDoor
end
end
