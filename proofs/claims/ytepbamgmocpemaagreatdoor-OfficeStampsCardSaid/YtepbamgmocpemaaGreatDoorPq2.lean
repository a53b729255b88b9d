/- For OfficeStamps. -/
import Derived.Test.YtepbamgmocpemaaGreatDoorPq1
import Derived.Shelf.SlIterI.Nil
import Derived.Scope
import Derived.Laws.Strings
import Derived.Laws.BytesArg
import Derived.Laws.IdiomStrings
import Derived.Laws.AppendOwn
import Derived.Lib.AppendIntMem
import Derived.Lib.BufferKept
noncomputable section
namespace Go.Dec
abbrev So:=@UInt8
abbrev s8:=@List.mem_of_getElem?
abbrev nY:=@List.getD_eq_getElem?_getD
abbrev eQ:=@Nat.zero_le
abbrev eR:=@Nat.mul_one
abbrev ov:=@List.getElem?_zip_eq_some
abbrev iL:=@List.mem_append_left
end Go.Dec
namespace Go.Dec
section
variable{V:Type}{rv:Fz->V->Do->Prop}{P:RK}{k:If}{F:Fz}{w:PP}
variable{O:H1 Nat}{μ:Md}
open Go.Maps Go.WideElems Go.RowKit Go.MapKept Go.WideShapes
theorem SH.below{w':PP}{H:HP}(h:SH w F H)(hb:Below w.heap.size w w'):SH w' F H:=by
 obtain⟨m,a,k⟩:=h;refine⟨m,a,k.dj,λb c e=> ?_,k.gst,λb o e=> ?_,hb.os.trans k.os,hb.tape.trans k.tape,hb.output.trans k.out⟩
 ·obtain⟨o,e1,e2⟩:=k.own b c e;exact⟨o,e1,(hb.block b<|lt_of_heap e2).trans e2⟩
 ·have:=k.frz b o e;exact(hb.block b<|lt_of_heap this).trans this
theorem SH.tD{w':PP}{H:HP}{g:Nat}{o:Obj}(h:SH w F H)(hb:Below w.heap.size w w')(hg:w.heap.size<=g)(ho:w'.heap[g]? =some o):F<=F.add g o/\SH w' (F.add g o) H:=by
 have h' :=h.below hb;obtain⟨m,a,k⟩:=h;obtain⟨m',a',k'⟩:=h'
 have h0:F.mem g=none:=by
  cases e:F.mem g with
  | none=>rfl
  | some x=>have:=lt_of_heap<|k.frz g x e;omega
 have h1:m (.blk g)=none:=by
  cases e:m (.blk g) with
  | none=>rfl
  | some x=>obtain⟨o',_,e2⟩:=k.own g x e;have:=lt_of_heap e2;omega
 refine⟨Fz.tV h0,m,a,λb=> ?_,λb c e=> ?_,k.gst,λb x e=> ?_,k'.os,k'.tape,k'.out⟩
 ·show m (.blk b)=none∨Rb F.mem g o b=none;by_cases e:b=g
  ·subst e;exact .inl h1
  ·rcases k.dj b with h | h
   ·exact .inl h
   ·exact .inr<|by simpa[Rb,e] using h
 ·obtain⟨o',e1,e2⟩:=k.own b c e;exact⟨o',e1,(hb.block b<|lt_of_heap e2).trans e2⟩
 ·by_cases e' :b=g
  ·subst e';have:(F.add b o).mem b=some o:=Fz.ba F b o;rw[this] at e;cases e;exact ho
  ·have:F.mem b=some x:=by simpa[Fz.add,Rb,e'] using e
   exact(hb.block b<|lt_of_heap<|k.frz b x this).trans<|k.frz b x this
def Gg(l:UV (Int×V)):H1 (UV Int):=if l.all (λx=>decide<|-9223372036854775808<=x.1/\x.1<=9223372036854775807)=true/\l.length<=1000000 then some ((l.map Prod.fst).mergeSort λa b=>decide<|a<=b) else none
abbrev Tg:Int->Do:=λx=>.int .i64 x
abbrev Ii:Do->H1 (DataW Unit×UV MemPlace):=λ_=>some (.nil,[])
theorem keyOf_int(hk:P.underlying k=some (.int .i64)){x:Int}(h: -9223372036854775808<=x/\x<=9223372036854775807):keyOf P k (Tg x)=some (.int .i64 x):=by
 have hw:(Lit.int .i64 x).wf=true:=by
  simp[Lit.wf,IntKind.min,IntKind.max,IntKind.bits,IntKind.signed];omega
 simp[keyOf,hk,mapKey,hw]
theorem xc(hk:P.underlying k=some (.int .i64)){x:Int}{e:nS}(he:e.key=Tg x)(h: -9223372036854775808<=x/\x<=9223372036854775807):rd P k Ii e=some (.int .i64 x,.nil):=by
 unfold rd;rw[he,keyOf_int hk h];rfl
theorem Uj.keys(hk:P.underlying k=some (.int .i64)):∀{es:UV nS} {l:UV (Int×V)},Uj Tg rv F es l->(∀x∈l,(-9223372036854775808<=x.1/\x.1<=9223372036854775807))->(es.map<|rg P k Ii).map (λp=>intOf p.1)=l.map Prod.fst/\(∀e∈es,∃y,rd P k Ii e=some y)/\es.map (·.key)=l.map (λx=>Tg x.1)
 | [],[],_,_=>⟨rfl,by simp,rfl⟩
 | e::es,x::l,⟨h1,_,h3⟩,hb=>by
  obtain⟨g1,g2,g3⟩:=h3.keys hk λy hy=>hb y<|x8 _ hy;have h0:=xc hk h1 (hb x<|by simp);refine⟨?_,?_,?_⟩
  ·simp only[s4,g1,rg_of h0];rfl
  ·intro e' he';rcases j9.1 he' with rfl | h
   ·exact⟨_,h0⟩
   ·exact g2 _ h
  ·simp only[s4,g3,h1]
theorem u6(hk:P.underlying k=some (.int .i64)){b clock:Nat}{es:Of nS}{l' l:UV (Int×V)}(hb:w.heap[b]? =some (.map es clock))(hr:Uj Tg rv F es.toList l')(hbi:YN es.toList clock)(hp:l'.Perm l)(hn:(l.map Prod.fst).Nodup)
  (hall:l.all (λx=>decide<|-9223372036854775808<=x.1/\x.1<=9223372036854775807)=true) (hlen:l.length<=1000000):∃D:DataW Unit,w.ownsMap P k Ii b es.size D/\(intKeys D).Perm (l.map Prod.fst)/\Maps.size D=l.length:=by
 have hb' :∀x∈l',(-9223372036854775808<=x.1/\x.1<=9223372036854775807):=λx hx=>by
  have:=s7.1 hall x<|hp.mem_iff.1 hx;simpa using this
 obtain⟨g1,g2,g3⟩:=hr.keys hk hb';have hsz:es.size=l.length:=by rw[<-hp.length_eq,<-hr.len];simp
 refine⟨.map<|(es.toList.map<|rg P k Ii).foldr DataW.insert [],⟨es,clock,hb,⟨by rw[hsz];unfold maxLen;omega,⟨hbi.2,hbi.1.imp λh=>oO h,?_⟩,g2⟩,IN _,rfl⟩,?_,?_⟩
 ·rw[g3];have h1:(l'.map Prod.fst).Nodup:=((hp.map Prod.fst).nodup_iff).2 hn;have e:l'.map (λx=>Tg x.1)=(l'.map Prod.fst).map Tg:=by rw[eB];rfl
  rw[e];exact h1.map _ λa b hab e=>hab<|by simpa[Tg] using e
 ·show(((es.toList.map<|rg P k Ii).foldr DataW.insert []).map λp=>intOf p.1).Perm _;refine((sorted_perm _).map _).trans ?_;rw[g1];exact hp.map _
 ·show((es.toList.map<|rg P k Ii).foldr DataW.insert []).length=_;rw[(sorted_perm _).length_eq];simpa using hsz
theorem z8{a b:UV Int}(h:a.Perm b):a.mergeSort (λx y=>decide<|x<=y)=b.mergeSort (λx y=>decide<|x<=y):=mergeSort_of_perm_i h
def Fp(P:RK)(fs g:x4)(k T:If):Prop:=
 (∀(b nn:Nat) (D:DataW Unit) (Bm:Nat) (w:PP),Bm < w.heap.size->w.cell? ⟨Bm,0,none⟩=some (.map<|some b)->w.ownsMap P k Ii b nn D->Maps.size D<=1000000->
  Calls P fs #[.func (.func g) #[] #[.pointer<|some ⟨Bm,0,none⟩]] w λe w' =>∃(v:Do) (ss:UV Int),e= .returned v/\ss.Perm (intKeys D)/\w'.ownsRow w.heap.size T 1 v ss.length ((ss.mergeSort λx y=>decide<|x<=y).map encZ)/\(v= .slice none 0 0↔ss=[])/\Below w.heap.size w w')/\
 (∀(Bm:Nat) (w:PP),Bm < w.heap.size->w.cell? ⟨Bm,0,none⟩=some (.map none)->Calls P fs #[.func (.func g) #[] #[.pointer<|some ⟨Bm,0,none⟩]] w λe w' =>e= .returned (.slice none 0 0)/\Below w.heap.size w w')
def KeysOf(P:RK)(fk g:x4)(T:If):Prop:=∀mb W,Calls P fk #[.map mb] W λe w' =>e= .returned (.func (.func g) #[] #[.pointer<|some ⟨W.heap.size,0,none⟩])/\w' =W.alloc (.cells #[.map mb] T)
section
variable{β:Type}{P:RK}{ops:Of x5}{rest:UV x5}{ks:UV Kt}{Q:nN->Act->PP->Prop}{m:H1 β}{r:β}
variable{n:Nat}{D:UV q8}{S:UV (Nat×Do)}{F F0:Fz}{hs:UV HP}{d:Nat}{ty k T T' :If}{pos:String}{after:Of lL}{ox of:dO}{Ty:Of If}{fs fk g:x4}
variable{V:Type}{rv:Fz->V->Do->Prop}{b γ j:Nat}{l:UV (Int×V)}{xs:UV (UV<|Int×V)}{p x:H1 Nat}
theorem GG.ar(hk:KeysOf P fk g T)(hd:Nat.blt d n=true)(hcall:∀args w,(callFunc fk args).run P w= .ok (.enter fk args) w)(hf:QO S of=some (.func (.func fk) #[] #[]))(hx:QO S ox=some (.map p))
  (K:∀b F',F<=F'->F'.mem b=some (.cells #[.map p] T)->GL O P ops rest ks Q (Hd n D ((d,.func (.func g) #[] #[.pointer<|some ⟨b,0,none⟩])::S) F' hs) m r):GL O P ops (⟨some d,.call ⟨.value of,#[ox],Ty⟩,ty,pos,after,none⟩::rest) ks Q (Hd n D S F hs) m r:=
 GG.cf rfl (.inr rfl) λhm a w hA=>by
  refine⟨Wo (os:=[ox]) (caps:=[]) (vs:=[.map p]) hA.1 hcall hf (by simp[Ub,hx]),(hk p w).mono ?_⟩;rintro _ w' ⟨rfl,rfl⟩;obtain⟨le,h⟩:=hA.2.s3<|.cells #[.map p] T;exact⟨_,rfl,K w.heap.size _ le (Fz.ba ..) hm _ _ ⟨hA.1.put hd _,h⟩⟩
theorem GG.tt{c:Uk Int}{f:UV Int->H1 β}(hk:P.underlying k=some (.int .i64))(hs0:Fp P fs g k k)(hc:∀F x,c F x [.int .i64 x]){Bm:Nat}(hB:F.mem Bm=some (.cells #[.map p] T))(i:Nat)(hi:hs[i]? =some (ZB γ (QZ Tg rv) F0 xs))(hb:UE γ F j b)(hp:p=some b)(hel:xs[j]? =some l)
  (hd:Nat.blt d n=true) (hcall:∀args w,(callFunc fs args).run P w= .ok (.enter fs args) w) (hf:QO S of=some (.func (.func fs) #[] #[])) (hx:QO S ox=some (.func (.func g) #[] #[.pointer<|some ⟨Bm,0,none⟩]))
  (K:∀ks' F' p' cap,Gg l=some ks'->F<=F'->QI 1 c F' p' cap ks'->GL O P ops rest ks Q (Hd n D ((d,.slice p' ks'.length cap)::S) F' hs) (f ks') r):GL O P ops (⟨some d,.call ⟨.value of,#[ox],Ty⟩,ty,pos,after,none⟩::rest) ks Q (Hd n D S F hs) ((Gg l).bind f) r:=by
 refine GG.bind λks' hks=> ?_;have K' :=K ks';refine GG.cf (f:=fs) (args:=#[.func (.func g) #[] #[.pointer<|some ⟨Bm,0,none⟩]]) rfl (.inr rfl) λhm a w hA=> ?_;refine⟨Wo (os:=[ox]) (caps:=[]) (vs:=[.func (.func g) #[] #[.pointer<|some ⟨Bm,0,none⟩]]) hA.1 hcall hf (by simp[Ub,hx]),?_⟩;subst hp;have hks0:=hks;unfold Gg at hks
 split at hks
 ·rename_i hcond;obtain⟨hall,hlen⟩:=hcond;simp only[BY] at hks
  obtain⟨es,cl,l',hpm,hn,hheap,hr,hbi⟩:=(hA.2.pull hi).sT hb hel;obtain⟨D0,hown,hperm,hsize⟩:=u6 hk hheap hr hbi hpm hn hall hlen;have hBw:=hA.2.frozen hB;refine(hs0.1 b _ D0 Bm w (lt_of_heap hBw) (by simp[World.cell?,hBw]) hown<|by omega).mono ?_;rintro _ w' ⟨v,ss,rfl,hss,⟨hrl,hrow⟩,hnil,hbel⟩;have hsort:ss.mergeSort (λx y=>decide<|x<=y)=ks' :=by rw[<-hks];exact z8<|hss.trans hperm
  have hlen2:ks'.length=ss.length:=by rw[<-hsort];simp
  rw[hsort] at hrow
  rcases hrow with⟨rfl,h0⟩ | ⟨gb,cap,cur,rfl,hbase,hgb,r1,r2,r3,r4⟩
  ·have hk0:ks' =[]:=wt (by rw[hlen2,h0]);subst hk0;exact⟨_,rfl,K' F none 0 hks0 (Fz.le_refl F) QI.nil hm _ _ ⟨hA.1.put hd _,hA.2.below hbel⟩⟩
  ·obtain⟨le,h2⟩:=hA.2.tD hbel hbase hgb;have hk:=K' _ (some ⟨gb,0,none⟩) cap hks0 le ⟨by rw[hlen2];exact r1,by unfold maxLen at r2;omega,.inr ⟨gb,0,cur,_,_,rfl,Fz.ba ..,λq x hx F' _=> ?_⟩⟩
   ·rw[hlen2] at hk
    exact⟨_,rfl,hk hm _ _ ⟨hA.1.put hd _,h2⟩⟩
   ·have hq:=Zt hx;rw[hlen2] at hq
    have:(cur.toList.drop<|0+q*1).take 1=[.int .i64 x]:=by
     have e1:cur.toList[q]? =some (.int .i64 x):=by
      have h3:=congrArg (λz=>z[q]?) r4;simp only[rz,nV,hx] at h3
      rw[TO<|by omega] at h3
      simpa[encZ] using h3
     simp only[nl,eR];rw[nD (AC.1 e1).1];have e2:=(AC.1 e1).2;simp[e2]
    rw[this];exact hc F' x
 ·cases hks
def Vz(A:UV (UV<|Int×V))(x:H1 Nat):H1 (UV Int):=match x with
 | none=>some []
 | some i=>(A[i]?).bind Gg
theorem GG.sM{c:Uk Int}{f:UV Int->H1 β}(hk:P.underlying k=some (.int .i64))(hs0:Fp P fs g k k)(hc:∀F x,c F x [.int .i64 x]){Bm:Nat}(hB:F.mem Bm=some (.cells #[.map p] T))(i:Nat)(hi:hs[i]? =some (ZB γ (QZ Tg rv) F0 xs))(h:Zy γ F p x)
  (hd:Nat.blt d n=true) (hcall:∀args w,(callFunc fs args).run P w= .ok (.enter fs args) w) (hf:QO S of=some (.func (.func fs) #[] #[])) (hx:QO S ox=some (.func (.func g) #[] #[.pointer<|some ⟨Bm,0,none⟩]))
  (K:∀ks' F' p' cap,Vz xs x=some ks'->F<=F'->QI 1 c F' p' cap ks'->GL O P ops rest ks Q (Hd n D ((d,.slice p' ks'.length cap)::S) F' hs) (f ks') r):GL O P ops (⟨some d,.call ⟨.value of,#[ox],Ty⟩,ty,pos,after,none⟩::rest) ks Q (Hd n D S F hs) ((Vz xs x).bind f) r:=by
 cases x with
 | some j=>
  obtain⟨b,hb,hp⟩:=h;cases hel:xs[j]? with
  | none=>intro hm;simp[Vz,hel] at hm
  | some l=>
   have e:Vz xs (some j)=Gg l:=by simp[Vz,hel]
   rw[e] at K ⊢
   exact GG.tt hk hs0 hc hB i hi hb hp hel hd hcall hf hx K
 | none=>
  have hp:p=none:=h;subst hp;have K' :=K [] F none 0 rfl (Fz.le_refl F) QI.nil;refine GG.cf (m:=f []) (f:=fs) (args:=#[.func (.func g) #[] #[.pointer<|some ⟨Bm,0,none⟩]]) rfl (.inr rfl) λhm a w hA=> ?_;refine⟨Wo (os:=[ox]) (caps:=[]) (vs:=[.func (.func g) #[] #[.pointer<|some ⟨Bm,0,none⟩]]) hA.1 hcall hf (by simp[Ub,hx]),?_⟩;have hBw:=hA.2.frozen hB;refine(hs0.2 Bm w (lt_of_heap hBw)<|by simp[World.cell?,hBw]).mono ?_;rintro _ w' ⟨rfl,hbel⟩;exact⟨_,rfl,K' hm _ _ ⟨hA.1.put hd _,hA.2.below hbel⟩⟩
end
end
section
variable{α:Type}
theorem T5{p q:HP}{m:Mem}(h:star p q m):star q p m:=by
 obtain⟨m1,m2,d,s1,s2,hp,hq⟩:=h;exact⟨m2,m1,d.symm,s2,s1,hq,hp⟩
theorem Wb{p q:HP}{m:Mem}(h:star (Qi [p]) q m):star p q m:=by
 obtain⟨m1,m2,d,s1,s2,⟨a,b,_,t1,_,hp,_⟩,hq⟩:=h;exact⟨a,m2,d.sub t1<|Mem.sub.refl _,t1.trans s1,s2,hp,hq⟩
def qV(P:RK)(F:Fz)(f:x4)(caps:UV Do)(arg:α->Fz->UV Do->Prop)(Hs:Fz->UV HP)(l:UV α):Prop:=
 (∀args w,(callFunc f args).run P w= .ok (.enter f args) w)/\
 ∀(σ:Type) (ly:Nat) (Y:σ->Fz->HP) (y:α->σ->H1 (σ×Bool)) (F1:Fz),F<=F1->U1 P ly F1 arg Y y->∀s,HN P f (.func (.yield ly) #[] #[]::caps).toArray F1 (Hs F1++[Y s F1]) (Uy y l s) (λ_ _ _=>True) λs' F' =>Hs F' ++[Y s' F']
theorem qV.mk'{P:RK}{F:Fz}{f:x4}{caps:UV Do}{arg:α->Fz->UV Do->Prop}{Hs:Fz->UV HP}{l:UV α}(h1:∀args w,(callFunc f args).run P w= .ok (.enter f args) w)
  (h2:∀(σ:Type) (ly:Nat) (Y:σ->Fz->HP) (y:α->σ->H1 (σ×Bool)) (F1:Fz),F<=F1->U1 P ly F1 arg Y y->∀s,∃m,HN P f (.func (.yield ly) #[] #[]::caps).toArray F1 (Hs F1++[Y s F1]) m (λ_ _ _=>True) (λs' F' =>Hs F' ++[Y s' F'])/\∀r,Uy y l s=some r->m=some r):qV P F f caps arg Hs l:=
 ⟨h1,λσ ly Y y F1 le hy s r hr=>let⟨_,h,k⟩:=h2 σ ly Y y F1 le hy s;h r (k r hr)⟩
section
variable{β:Type}{P:RK}{ks:UV Kt}{Q:nN->Act->PP->Prop}{r:β}{n:Nat}{D:UV q8}{S:UV (Nat×Do)}{F:Fz}{hs:UV HP}
variable{α τ:Type}{g:dO}{ps:UV Tmp}{assign body:lN}{f:x4}{caps:UV Do}{arg:α->Fz->UV Do->Prop}{s0:τ}
theorem GG.tC{l:UV α}{bm:α->τ->H1 τ}{k:τ->H1 β}(Hs:Fz->UV HP)(is:UV Nat)(I:τ->Fz->UV HP->Prop)(hg:QO S g=some (.func (.func f) #[] caps.toArray))(hit:qV P F f caps arg Hs l)(hps:(ps.all λp=>Nat.blt p n)=true)(harg:∀x F' vs,arg x F' vs->vs.length=ps.length)
  (hi:YD is hs=Hs F) (hI:I s0 F (J4 is hs))
  (round:∀l L F0 F1 x vs s ctl R hs',F<=F0->F0<=F1->arg x F1 vs->I s F0 hs'->GC (some l) P assign [] (BP P l body<|RP l L I (fun(_:Empty) _ _=>False) F1 R<|.next ctl) (Hd n [] ((ps.zip vs).reverse++S) F1<|pt l (UC L)::R::hs') (bm x s) ctl)
  (next:∀q F0 F' s hs',F<=F0->F0<=F'->Yx bm l s0=some s->I s F0 hs'->GE none P ks Q (Hd n (WI q::D) S F'<|pt q (.deferred<|some [])::(Hs F' ++hs')) (k s) r):GC none P (.rangeFunc g ps.toArray assign body) ks Q (Hd n D S F hs) ((Yx bm l s0).bind k) r:=by
 intro hm a w ha;cases hl:Yx bm l s0 with
 | none=>rw[hl] at hm;cases hm
 | some sf=>
  rw[hl] at hm
  refine ey λfn _=> ?_
  let L:Loop:={state:=.ready,pending:=none,fn,tmps:=a.tmps,params:=ps.toArray,assign,body,defers:=w.heap.size}
  let J:Empty->Fz->UV HP->Prop:=λ_ _ _=>False
  have hw1:SH ((w.alloc<|.deferred<|some []).alloc<|.loop L) F (star (Qi<|Hs F++[yS F (w.heap.size+1) L I J (.next s0) F])<|Qi [pt w.heap.size<|.deferred<|some []]):=by
   have h1:=(ha.2.alloc<|.deferred<|some []).alloc<|.loop L;rw[lr] at h1
   refine h1.mono λm hm=> ?_
   have h2:star (pt (w.heap.size+1)<|UC L) (star (pt w.heap.size<|.deferred<|some [])<|star (Qi<|Hs F)<|Qi<|J4 is hs) m:=
    QS (λm hm=>QS (λm hm=>by have:=UA (ks:=is) hm;rw[hi] at this;exact this) hm) hm
   have h3:=T5<|QS (λm hm=>Zh hm)<|Zh h2;refine QQ (λm hm=> ?_)<|QS (λm hm=>J7 hm) h3;refine K5<|QS (λm hm=>J7 (p:=yS F (w.heap.size+1) L I J (.next s0) F) ⟨F,J4 is hs,Fz.le_refl _,Fz.le_refl _,hI,hm⟩) hm
  have hY:U1 P (w.heap.size+1) F arg (yS F (w.heap.size+1) L I J) (ku λx s=>(bm x s).map UK.next):=by
   refine Rm (S' :=λvs=>(ps.zip vs).reverse++S) (assign:=assign) (body:=body) (λx F' vs hx=>by rw[harg x F' vs hx];simp[L]) rfl rfl (λvs _=>Di hps ⟨ha.1.1,rfl,ha.1.2.2⟩) ?_;intro F0 F1 x vs s ctl R hs' h0 h1 hx hI hmm;cases hb:bm x s with
   | none=>rw[hb] at hmm;cases hmm
   | some s' =>
    rw[hb] at hmm
    simp only[x7,BY] at hmm
    subst hmm;exact round _ L F0 F1 x vs s s' R hs' h0 h1 hx hI hb
  have hc:=hit.2 _ _ _ _ F (Fz.le_refl F) hY (.next s0) (.next sf) (by rw[Fe,Dl,hl];rfl) _ _ hw1;refine⟨w.heap.size+1,[WI w.heap.size],(w.alloc<|.deferred<|some []).alloc<|.loop L,⟨.fn (.func f) caps.toArray,#[.func (.yield<|w.heap.size+1) #[] #[]]⟩,(w.alloc<|.deferred<|some []).alloc<|.loop L,f,(.func (.yield<|w.heap.size+1) #[] #[]::caps).toArray,(w.alloc<|.deferred<|some []).alloc<|.loop L,lW fn a.tmps ps.toArray assign body,?_,λ_ _=>trivial,?_,λe=>(by cases e),?_⟩
  ·have hc0:a.eval (.const<|.func (.yield<|w.heap.size+1) #[] #[])= .func (.yield<|w.heap.size+1) #[] #[]:=rfl;simp[resolve,Deferred.ofValue,ha.1.eval hg,hc0]
  ·simp[invoke,hit.1]
  ·refine nP.2<|hc.mono ?_;rintro _ w' ⟨F',v,le,rfl, -,hw'⟩
   have hw2:SH w' F' (star (yS F (w.heap.size+1) L I J (.next sf) F')<|star (Qi<|Hs F')<|Qi [pt w.heap.size<|.deferred<|some []]):=hw'.mono λm hm=>by
    exact Wb<|Zh<|XD<|QQ (λm hm=>VY hm) hm
   obtain⟨F0,hs',h0,h1,hI',h3⟩:=SH.cU hw2;refine⟨none,_,Dj<|SH.bT (k:=0) rfl h3,?_⟩;have h4:SH _ F' (Qi<|pt w.heap.size (.deferred<|some [])::(Hs F' ++hs')):=(SH.bp 0<|SH.putAt (k:=0) rfl h3<|TU L none).mono λm hm=>QS (λm hm=>K5 hm)<|Wb<|Zh<|XD hm;exact next w.heap.size F0 F' sf hs' h0 h1 hl hI' hm _ _ ⟨⟨ha.1.1,by simp[ha.1.2.1],ha.1.2.2⟩,h4⟩
end
theorem Hd.bI{γ:Nat}{C:Fz->Nat->α->HP}{xs:UV α}{n:Nat}{D:UV q8}{S:UV (Nat×Do)}{F F0:Fz}{hs:UV HP}{a:Act}{w:PP}(i:Nat)(hC:Hb C)(le:F0<=F)(hi:hs[i]? =some (ZB γ C F0 xs))(ha:Hd n D S F hs a w):Hd n D S F (hs.set i<|ZB γ C F xs) a w:=⟨ha.1,SH.push hi<|(ha.2.pull hi).sD hC le⟩
end
section
variable{Q:nN->Act->PP->Prop}{vs:UV Do}{l:UV x5}{ops:Of x5}{D:UV q8}{P:RK}{L:Nat->Bool}{k n d:Nat}{v:Do}{β:Type}{m:H1 β}{ks:UV Kt}{hs:UV HP}{a0 a b:Act}{o:x5}
variable{O:H1 Nat}{μ:Md}
def Tx(P:RK)(ops:Of x5)(w:PP)(o:x5)(v:Do)(a:Act):Prop:=(Region.wanted o (yielded ops a.tmps)=true/\(execOp a.eval o).run P w= .ok (.value v) w)∨(Region.wanted o (yielded ops a.tmps)=false/\v=undef)
def E0:Act->UV x5->UV Do->Act
 | a,o::os,v::vs=>E0 (a.put o.dst v) os vs
 | a,_,_=>a
theorem Ln:∀{l:UV x5} {vs:UV Do} {a:Act} {i:Nat} {o:x5} {v:Do},l[i]? =some o->vs[i]? =some v->E0 a (l.take<|i+1) (vs.take<|i+1)=(E0 a (l.take i)<|vs.take i).put o.dst v
 | [],_,_,_,_,_,h,_=>by simp at h
 | _::_,[],_,_,_,_,_,h=>by simp at h
 | x::l,u::vs,a,0,o,v,h,h' =>by
  simp at h h';subst h;subst h';rfl
 | x::l,u::vs,a,i+1,o,v,h,h' =>by
  simp only[List.take_succ_cons,E0];exact Ln (l:=l) (by simpa using h)<|by simpa using h'
theorem Ee{w:PP}{K:Act->Prop}:∀{l:UV x5} {a:Act},wpS P ops w K l a->∃vs:UV Do,vs.length=l.length/\K (E0 a l vs)/\∀i o v,l[i]? =some o->vs[i]? =some v->Tx P ops w o v (E0 a (l.take i)<|vs.take i)
 | [],a,h=>⟨[],rfl,h,λi o v h=>by simp at h⟩
 | x::l,a,h=>by
  have key:∃v,Tx P ops w x v a/\wpS P ops w K l (a.put x.dst v):=by
   unfold wpS at h
   split at h
   ·rename_i hw;obtain⟨v,h1,h2⟩:=h;exact⟨v,.inl ⟨hw,h1⟩,h2⟩
   ·rename_i hw;exact⟨undef,.inr ⟨by simpa using hw,rfl⟩,h⟩
  obtain⟨v,h1,h2⟩:=key;obtain⟨vs,g1,g2,g3⟩:=Ee h2;refine⟨v::vs,by simp[g1],g2,λi o u ho hu=> ?_⟩;cases i with
  | zero=>simp at ho hu;subst ho;subst hu;exact h1
  | succ i=>exact g3 i o u (by simpa using ho)<|by simpa using hu
theorem TA(ops:Of x5)(t:Of Do)(j:Nat):yielded ops t j=match(ops[j]?).bind (·.dst) with
  | none=>none
  | some d=>match t.getD d undef with
   | .bool b=>some b
   | _=>none:=by
 unfold yielded;cases(ops[j]?).bind (·.dst) with
 | none=>rfl
 | some d=>
  simp only[DO,tO];cases t[d]? with
  | none=>rfl
  | some v=>cases v<;>rfl
def xl(l:UV x5)(k:Nat)(o:x5):Bool:=(o.looksAt l.toArray).all λt=>(List.range k).all λj=>match Vv l j with
 | none=>true
 | some d=> !Nat.beq d t||o.after.toList.any λe=>Region.binds .any e&&Nat.beq e.on j
def vE:Op->Bool
 | .select _ _=>false
 | _=>true
def BH(n:Nat):UV x5->Bool
 | []=>true
 | o::os=>(match o.dst with
  | none=>true
  | some d=>Nat.blt d n&& !os.any (TL d))&&BH n os
def PK:UV Bool->UV Bool->UV Bool
 | a::xs,b::bs=>(a||b)::PK xs bs
 | [],bs=>bs
 | xs,[]=>xs
def BI:Nat->UV Bool
 | 0=>[true]
 | n+1=>false::BI n
def xO(done:UV (UV Bool))(o:x5):UV Bool:=o.after.toList.foldr (λe m=>bif Region.binds .any e then PK (PK (BI e.on)<|done.getD e.on []) m else m) []
def Ws:UV (UV Bool)->UV x5->UV (UV Bool)
 | done,[]=>done
 | done,o::l=>Ws (done++[xO done o]) l
def yA:Nat->UV Bool->Bool
 | 0,_=>true
 | n+1,b::bs=>b&&yA n bs
 | _+1,[]=>false
def ka(l:UV x5)(k:Nat):Bool:=(List.range l.length).all λt=>Nat.blt t k||yA t ((Ws [] l).getD t [])
theorem Ag:∀{a b:UV Bool} {j:Nat},(PK a b).getD j false=true->a.getD j false=true∨b.getD j false=true
 | [],bs,j,h=>.inr h
 | a::xs,[],j,h=>.inl h
 | a::xs,b::bs,0,h=>by
  have h:(a||b)=true:=h;rcases Bool.or_eq_true_iff.1 h with h | h
  ·exact .inl h
  ·exact .inr h
 | a::xs,b::bs,j+1,h=>Ag (a:=xs) (b:=bs) (j:=j) h
theorem P6:∀{n j:Nat},(BI n).getD j false=true->j=n
 | 0,0,_=>rfl
 | 0,j+1,h=>by simp[BI] at h
 | n+1,0,h=>by simp[BI] at h
 | n+1,j+1,h=>by
  have:(BI n).getD j false=true:=h;rw[P6 this]
def Pw(l:UV x5)(done:UV (UV Bool)):Prop:=∀t m,done[t]? =some m->∀j,m.getD j false=true->∃s,Xu l s t j=true
theorem ze{done:UV (UV Bool)}(hd:Pw l done){t:Nat}(ho:l[t]? =some o):∀{j:Nat},(xO done o).getD j false=true->∃s,Xu l s t j=true:=by
 have key:∀(es:UV lL),(∀e∈es,e∈o.after.toList)->∀j,(es.foldr (λe m=>bif Region.binds .any e then PK (PK (BI e.on)<|done.getD e.on []) m else m) []).getD j false=true->∃s,Xu l s t j=true:=λes=>by
  induction es with
  | nil=>intro _ j h;simp at h
  | cons e es ih=>
   intro hes j h;have hes' :=λe' he' =>hes e'<|x8 _ he';simp only[List.foldr_cons] at h
   cases hb:Region.binds .any e with
   | false=>rw[hb] at h;simp only[cond_false] at h;exact ih hes' j h
   | true=>
    rw[hb] at h
    simp only[cond_true] at h
    have hmem:=hes e (by simp);rcases Ag h with h | h
    ·rcases Ag h with h | h
     ·have:=P6 h;subst this;exact⟨1,by simp only[Xu,ho];exact nv.2 ⟨e,hmem,by simp[hb]⟩⟩
     ·rw[nY] at h
      cases hm:done[e.on]? with
      | none=>rw[nY,hm] at h;simp at h
      | some m=>
       rw[nY,hm] at h
       obtain⟨s,hs⟩:=hd e.on m hm j (by rw[nY];exact h);exact⟨s+1,by simp only[Xu,ho];exact nv.2 ⟨e,hmem,by simp[hb,hs]⟩⟩
    ·exact ih hes' j h
 intro j h;exact key o.after.toList (λ_ h=>h) j h
theorem Ba:∀{post pre:UV x5} {done:UV (UV Bool)},l=pre++post->done.length=pre.length->Pw l done->Pw l (Ws done post)
 | [],_,_,_,_,hd=>hd
 | o::post,pre,done,e,hl,hd=>by
  refine Ba (pre:=pre++[o]) (post:=post) (by simp[e]) (by simp[hl]) λt m hm j hj=> ?_;rcases nA t done.length with h | h
  ·rw[nK h] at hm;exact hd t m hm j hj
  ·have ht:t=done.length:=by
    have:=(AC.1 hm).1;simp at this;omega
   subst ht;rw[nr<|IN _] at hm
   simp at hm;subst hm
   exact ze hd (by rw[e,hl];simp) hj
theorem Ma:∀{n j:Nat} {m:UV Bool},yA n m=true->j < n->m.getD j false=true
 | 0,_,_,_,h=>by omega
 | n+1,j,[],h,_=>by cases h
 | n+1,0,b::bs,h,_=>by
  have h:(b&&yA n bs)=true:=h;exact((AT _ _).mp h).1
 | n+1,j+1,b::bs,h,hj=>by
  have h:(b&&yA n bs)=true:=h;exact Ma (n:=n) (j:=j) (m:=bs) ((AT _ _).mp h).2<|by omega
theorem MG(h:ka l k=true):∀t o,k<=t->l[t]? =some o->∀j,j < t->∃s,Xu l s t j=true:=λt o hk ho j hj=>by
 have hlt:=Zt ho;have h1:=s7.1 h t<|mL.2 hlt
 have hb:Nat.blt t k=false:=by
  cases hb:Nat.blt t k with
  | false=>rfl
  | true=>have:=j3 hb;omega
 rw[hb,mz] at h1
 have hM:Pw l (Ws [] l):=Ba (pre:=[]) rfl rfl λt m hm=>by simp at hm
 have h2:=Ma h1 hj;cases hm:(Ws [] l)[t]? with
 | none=>rw[nY (l:=Ws [] l),hm] at h2;simp at h2
 | some m=>rw[nY (l:=Ws [] l),hm] at h2;exact hM t m hm j h2
theorem NP:∀{n:Nat} {os:UV x5} {i:Nat} {o:x5} {d:Nat},BH n os=true->os[i]? =some o->o.dst=some d->d < n/\∀j o',os[j]? =some o'->o'.dst=some d->j=i
 | _,[],_,_,_,_,h,_=>by simp at h
 | n,x::os,0,o,d,hf,h,hd=>by
  simp at h;subst h
  simp only[BH,hd,AT,ng] at hf
  refine⟨j3 hf.1.1,λj o' hj hd' => ?_⟩;cases j with
  | zero=>rfl
  | succ j=>exact(Sk hf.1.2 (by simpa using hj) hd').elim
 | n,x::os,i+1,o,d,hf,h,hd=>by
  have hf' :=hf;simp only[BH,AT] at hf
  obtain⟨g1,g2⟩:=NP (os:=os) (i:=i) hf.2 (by simpa using h) hd;refine⟨g1,λj o' hj hd' => ?_⟩;cases j with
  | zero=>
   simp at hj;subst hj
   simp only[BH,hd',AT,ng] at hf'
   exact(Sk hf'.1.2 (by simpa using h) hd).elim
  | succ j=>rw[g2 j o' (by simpa using hj) hd']
def xL(n:Nat)(l:UV x5)(k:Nat):Bool:=Mz 0 l&&ka l k&&Nat.ble k l.length&&BH n (l.take k)&&(l.take k).all λo=>xl l k o&&vE o.op&&HS o.op
section
variable{β:Type}{P:RK}{ks:UV Kt}{Q:nN->Act->PP->Prop}{m:H1 β}{r:β}{n:Nat}{D:UV q8}{S0:UV (Nat×Do)}{F:Fz}{hs:UV HP}{l:UV x5}
structure Gv(l:List Oper)(k n:Nat)(a0:Act)(vs:List Value)(L:Nat->Bool)(a:Act):Prop where
 size:a.tmps.size=n
 defs:a.defers=a0.defers
 got:∀(j:Nat) (v:Value) (t:Nat),j < k->L j=true->Vv l j=some t->vs[j]? =some v->a.tmps.getD t undef=v
 old:∀t,(∀j,j < k->L j=true->Vv l j≠some t)->a.tmps.getD t undef=a0.tmps.getD t undef
theorem M4{t:Of Do}(h:d < t.size):(t.setIfInBounds d v).getD d undef=v:=by simp[tO,h]
theorem Cq{t:Of Do}{e:Nat}(h:d≠e):(t.setIfInBounds d v).getD e undef=t.getD e undef:=by
 simp only[tO];rw[oW h]
theorem Gv.put(c:Gv l k n a0 vs L a)(hsl:BH n (l.take k)=true){i:Nat}(hi:i < k)(ho:l[i]? =some o)(hv:vs[i]? =some v):Gv l k n a0 vs (Kk L i) (a.put o.dst v):=by
 have hdst:Vv l i=o.dst:=by simp[Vv,ho]
 have hslot:∀d,o.dst=some d->d < n/\∀j,j < k->Vv l j=some d->j=i:=λd hd=>by
  obtain⟨g1,g2⟩:=NP hsl (i:=i) (o:=o) (d:=d) (by rw[rz,TO hi];exact ho) hd;refine⟨g1,λj hj e=> ?_⟩;cases hoj:l[j]? with
  | none=>simp[Vv,hoj] at e
  | some oj=>exact g2 j oj (by rw[rz,TO hj];exact hoj)<|by simpa[Vv,hoj] using e
 cases hd:o.dst with
 | none=>
  refine⟨c.size,c.defs,λj u t hj hL e hu=> ?_,λt ht=>c.old t λj hj hL=>ht j hj ?_⟩
  ·by_cases hji:j=i
   ·subst hji;rw[hdst,hd] at e;cases e
   ·exact c.got j u t hj (by simpa[Kk,hji] using hL) e hu
  ·simp only[Kk];split
   ·rfl
   ·exact hL
 | some d=>
  obtain⟨hdn,huniq⟩:=hslot d hd;refine⟨by simp[Act.put,c.size],c.defs,λj u t hj hL e hu=> ?_,λt ht=> ?_⟩
  ·by_cases hji:j=i
   ·subst hji;rw[hdst,hd] at e;cases e
    rw[hv] at hu;cases hu
    exact M4 (by rw[c.size];exact hdn)
   ·have hne:d≠t:=λe' =>by subst e';exact hji<|huniq j hj e
    show(a.tmps.setIfInBounds d v).getD t undef=u;rw[Cq hne];exact c.got j u t hj (by simpa[Kk,hji] using hL) e hu
  ·have hne:d≠t:=λe' =>by subst e';exact ht i hi (by simp[Kk])<|by rw[hdst,hd]
   show(a.tmps.setIfInBounds d v).getD t undef=_;rw[Cq hne];exact c.old t λj hj hL=>ht j hj (by simp only[Kk];split<;>first | rfl | exact hL)
theorem Gv.same{L':Nat->Bool}(c:Gv l k n a0 vs L a)(c' :Gv l k n a0 vs L' b)(hvs:k<=vs.length){t:Nat}(ht:∀j,j < k->Vv l j=some t->L j=true/\L' j=true):a.tmps.getD t undef=b.tmps.getD t undef:=by
 by_cases h:∃j,j < k/\Vv l j=some t
 ·obtain⟨j,hj,e⟩:=h;obtain⟨h1,h2⟩:=ht j hj e;have hv:vs[j]? =some vs[j]:=Nm (by omega);rw[c.got j _ t hj h1 e hv,c'.got j _ t hj h2 e hv]
 ·have hn:∀j,j < k->Vv l j≠some t:=λj hj e=>h ⟨j,hj,e⟩;rw[c.old t λj hj _=>hn j hj,c'.old t λj hj _=>hn j hj]
theorem Gv.eq(c:Gv l k n a0 vs L a)(c' :Gv l k n a0 vs L b)(hvs:k<=vs.length)(hL:∀j,j < k->L j=true):a=b:=by
 have h:∀t,a.tmps.getD t undef=b.tmps.getD t undef:=λt=>c.same c' hvs λj hj _=>⟨hL j hj,hL j hj⟩
 have ht:a.tmps=b.tmps:=by
  apply Array.ext
  ·rw[c.size,c'.size]
  ·intro i h1 h2;have:=h i;simpa[tO,h1,h2] using this
 have hd:a.defers=b.defers:=by rw[c.defs,c'.defs]
 obtain⟨ta,da⟩:=a;obtain⟨tb,db⟩:=b;have ht:ta=tb:=ht;have hd:da=db:=hd;rw[ht,hd]
theorem Tx.of_same{w:PP}(hs:vE o.op=true)(h:Tx P ops w o v a)(he:∀t∈o.looksAt ops,a.tmps.getD t undef=b.tmps.getD t undef):Tx P ops w o v b:=by
 have hx:execOp a.eval o=execOp b.eval o:=execOp_congr o (λcs bb e=>by rw[e] at hs;cases hs) λx hx=>by
  cases x with
  | tmp t=>exact he t (iL _<|List.mem_filterMap.2 ⟨.tmp t,by simpa using hx,rfl⟩)
  | const v=>rfl
  | global g=>rfl
  | func f=>rfl
 have hw:Region.wanted o (yielded ops a.tmps)=Region.wanted o (yielded ops b.tmps):=by
  unfold Region.wanted;cases hg:o.guard with
  | none=>rfl
  | some gw=>
   obtain⟨g,want⟩:=gw
   have:yielded ops a.tmps g=yielded ops b.tmps g:=by
    rw[TA,TA];cases ht:(ops[g]?).bind (·.dst) with
    | none=>rfl
    | some t=>
     simp only[];rw[he t<|List.mem_append_right _<|by simp[hg,ht]]
   simp only[this]
 unfold Tx at*
 rw[<-hx,<-hw];exact h
theorem Ti(hsz:a0.tmps.size=n)(hsl:BH n (l.take k)=true)(hk:k<=l.length)(hvs:vs.length=k):∀i,i<=k->Gv l k n a0 vs (λj=>Nat.blt j i) (E0 a0 ((l.take k).take i)<|vs.take i)
 | 0,_=>by
  refine⟨hsz,rfl,λj v t _ hL=> ?_,λt _=>rfl⟩;have:Nat.blt j 0=true:=hL;have:=j3 this;omega
 | i+1,hi=>by
  have ho:l[i]? =some l[i]:=Nm (by omega);have hv:vs[i]? =some vs[i]:=Nm (by omega);have h:=(Ti hsz hsl hk hvs i<|by omega).put hsl (by omega) ho hv;rw[Ln (l:=l.take k) (o:=l[i]) (v:=vs[i]) (by rw[rz,TO<|by omega];exact ho) hv]
  have e:(λj=>Nat.blt j<|i+1)=Kk (λj=>Nat.blt j i) i:=by
   funext j;simp only[Kk];by_cases hj:j=i
   ·subst hj;rw[TO rfl];exact nL<|IN _
   ·rw[RW hj];cases h1:Nat.blt j i with
    | true=>have:=j3 h1;exact nL (show j+1<=i+1 by omega)
    | false=>
     cases h2:Nat.blt j (i+1) with
     | false=>rfl
     | true=>
      have:=j3 h2;have h3:Nat.blt j i=true:=nL (show j+1<=i by omega);rw[h1] at h3;cases h3
  rw[e];exact h
theorem GG.bH{id:Nat}(k:Nat)(hm:P.follows .mixedOrders=true)(hB:xL n l k=true)
  (walk:GL .s P l.toArray (l.take k) [] (λ_=>Xa O P l.toArray (Zu O P ks Q)<|l.drop k) (Hd n D S0 F hs) m r):GC O P (.region id l.toArray true) ks Q (Hd n D S0 F hs) m r:=by
 intro hmr a0 w ha;simp only[xL,AT,s7] at hB
 obtain⟨⟨⟨⟨hord,hdeep⟩,hlen⟩,hsl⟩,hall⟩:=hB;have htail:=MG hdeep;have hlen' :k<=l.length:=j3 hlen;have hw1:=walk hmr a0 {w with drawn:=w.drawn+1} ⟨ha.1,ha.2.drew _⟩;obtain⟨vs,hvl,hK,hstep⟩:=Ee hw1;have hvk:vs.length=k:=by rw[hvl];simp;omega
 have hseq:=Ti (a0:=a0) (vs:=vs) (l:=l) ha.1.1 hsl hlen' hvk
 let Free:(Nat->Bool)->Act->PP->Prop:=λL a w' =>Down l L/\(∀i,k<=i->L i=false)/\w' ={w with drawn:=w.drawn+1}/\Gv l k n a0 vs L a
 let Inv:(Nat->Bool)->Act->PP->Prop:=λL a w=>Free L a w∨∃i,k < i/\Down l L/\(∀j,L j=true↔j < i)/\Xa O P l.toArray (Zu O P ks Q) (l.drop i) a w
 have hend0:∀L a w',(∀i,i < k->L i=true)->Free L a w'->Xa O P l.toArray (Zu O P ks Q) (l.drop k) a w' :=by
  rintro L a w' hL ⟨_,hout,rfl,hc⟩
  have hLk:L=λj=>Nat.blt j k:=by
   funext j;rcases nA j k with h | h
   ·rw[hL j h];exact(nL h).symm
   ·rw[hout j h];cases hb:Nat.blt j k with
    | false=>rfl
    | true=>have:=j3 hb;omega
  have h2:=hseq k<|IN _;rw[s5 (show(l.take k).length<=k by simp;omega),s5<|show vs.length<=k by omega] at h2
  rw[hLk] at hc
  rw[hc.eq h2 (by omega) λj hj=>nL hj];exact hK
 refine Xm hm Inv (λi o h e he hb=>by have:=HF hord i o (by simpa using h) e he hb;omega) ?_ ?_ ?_
 ·refine .inl ⟨λi o _ h=>(by cases h),λ_ _=>rfl,rfl,⟨ha.1.1,rfl,λj v t _ h=>(by cases h),λt _=>rfl⟩⟩
 ·intro L a w' i o ho hLi hdeps hI;have ho' :l[i]? =some o:=by simpa using ho
  have hil:i < l.length:=Zt ho';by_cases hi:i < k
  ·rcases hI with hF | ⟨k',hk,_,hL,_⟩
   case inr=>have:=(hL i).2 (by omega);rw[hLi] at this;cases this
   obtain⟨hdn,hout,rfl,hc⟩:=hF;have hot:(l.take k)[i]? =some o:=by rw[rz,TO hi];exact ho'
   have hmem:o∈l.take k:=s8 hot;have hoB:=hall o hmem;obtain⟨⟨hlk,hns⟩,hnd⟩:=hoB;have hv:vs[i]? =some vs[i]:=Nm (by omega);have hst:=hstep i o _ hot hv
   have hst' :Tx P l.toArray {w with drawn:=w.drawn+1} o vs[i] a:=hst.of_same hns λt ht=>by
    refine(hseq i<|by omega).same hc (by omega) λj hj e=> ?_;have h1:=s7.1 (s7.1 hlk t ht) j<|mL.2 hj;rw[e] at h1
    simp only[Nat.beq_refl,x6,mz,nv,AT] at h1
    obtain⟨e',he',hb',hon⟩:=h1;have hon:e'.on=j:=rW hon;have hmem' :e'∈o.after:=by simpa using he'
    refine⟨?_,by rw[<-hon];exact hdeps e' hmem' hb'⟩;have:=HF hord i o ho' e' hmem' hb';exact nL<|show j+1<=i by omega
   have hnext:Inv (Kk L i) (a.put o.dst vs[i]) {w with drawn:=w.drawn+1}:=by
    refine .inl ⟨?_,?_,rfl,hc.put hsl hi ho' hv⟩
    ·intro j oj hoj hj e he hb
     have:L e.on=true:=by
      by_cases hji:j=i
      ·subst hji;rw[ho'] at hoj;cases hoj;exact hdeps e he hb
      ·exact hdn j oj hoj (by simpa[Kk,hji] using hj) e he hb
     simp only[Kk];split
     ·rfl
     ·exact this
    ·intro j hj;simp only[Kk];rw[RW<|by omega];exact hout j hj
   rcases hst' with⟨h1,h2⟩ | ⟨h1,h2⟩
   ·rw[TO h1];refine⟨.inr hnd,?_⟩;rw[h2];exact hnext
   ·rw[RW (by simp[h1]),<-h2];exact hnext
  ·have hdnL:Down l L:=by
    rcases hI with hF | ⟨_,_,hd,_,_⟩
    ·exact hF.1
    ·exact hd
   have hallL:∀j,j < i->L j=true:=λj hj=>by
    obtain⟨s,hs⟩:=htail i o (by omega) ho' j hj;exact XT hdnL hs λo' ho'' e he hb=>by rw[ho'] at ho'';cases ho'';exact hdeps e he hb
   have hdnU:Down l (Kk L i):=λj oj hoj hj e he hb=>by
    have:L e.on=true:=by
     by_cases hji:j=i
     ·subst hji;rw[ho'] at hoj;cases hoj;exact hdeps e he hb
     ·exact hdnL j oj hoj (by simpa[Kk,hji] using hj) e he hb
    simp only[Kk];split
    ·rfl
    ·exact this
   have hw:Xa O P l.toArray (Zu O P ks Q) (l.drop i) a w' :=by
    rcases hI with hF | ⟨k',hk,_,hL,hwp⟩
    ·have hiV:i=k:=by
      rcases nA k i with h | h
      ·have:=hallL k h;rw[hF.2.1 _<|IN _] at this;cases this
      ·omega
     subst hiV;exact hend0 L a w' hallL hF
    ·have:k' =i:=by
      have h1:¬i < k' :=λh=>by have:=(hL i).2 h;rw[hLi] at this;cases this
      have h2:¬k' < i:=λh=>by have:=(hL k').1<|hallL k' h;omega
      omega
     subst this;exact hwp
   have hdrop:l.drop i=o::l.drop (i+1):=by
    have hg:l[i]'hil=o:=by simpa[hil] using ho'
    rw[<-hg];exact nD hil
   rw[hdrop] at hw
   have hnext:∀a' w',Xa O P l.toArray (Zu O P ks Q) (l.drop<|i+1) a' w'->Inv (Kk L i) a' w' :=λa' w' h=>
    .inr ⟨i+1,by omega,hdnU,λj=>by
     simp only[Kk];by_cases hj:j=i
     ·simp[hj]
     ·simp only[hj,T2];constructor
      ·intro hLj
       have:j < i:=by
        rcases nA j i with h | h
        ·exact h
        ·rcases hI with hF | ⟨k',hk,_,hL,_⟩
         ·rw[hF.2.1 j<|by omega] at hLj;cases hLj
         ·have h1:=(hL j).1 hLj;have:=(hL i).2 (by omega);rw[hLi] at this;cases this
       omega
      ·intro hj';exact hallL j (by omega),h⟩
   unfold Xa at hw
   split
   ·rename_i hwn;rw[TO hwn] at hw
    exact Ch hnext hw
   ·rename_i hwn;rw[RW hwn] at hw
    exact hnext _ _ hw
 ·intro L a w' hallL hI
  have hw:Xa O P l.toArray (Zu O P ks Q) (l.drop l.length) a w' :=by
   rcases hI with hF | ⟨k',hk,_,hL,hwp⟩
   ·have hVl:k=l.length:=by
     rcases nA k l.length with h | h
     ·have:=hallL k (by simpa using h);rw[hF.2.1 _<|IN _] at this;cases this
     ·omega
    have:=hend0 L a w' (λi hi=>hallL i (by simp;omega)) hF
    rwa[hVl] at this
   ·have:l.length<=k' :=by
     rcases nA k' l.length with h | h
     ·have:=(hL k').1 (hallL k'<|by simpa using h);omega
     ·exact h
    rw[nC this] at hwp
    rw[nC<|IN _];exact hwp
  rw[nC<|IN _] at hw
  exact hw
end
section
variable{β:Type}{P:RK}{ops:Of x5}{rest l:UV x5}{E A A' :Act->PP->Prop}{m:H1 β}{r:β}
variable{n:Nat}{D:UV q8}{S S' :UV (Nat×Do)}{F F' :Fz}{hs hs' :UV HP}
theorem GG.bR{tl:UV x5}(h:GL O P ops tl ks Q A m r):GL .s P ops [] [] (λ_=>Xa O P ops (Zu O P ks Q) tl) A m r:=λhm a w ha=>h hm a w ha
end
section
variable{O:H1 Nat}{μ:Md}{β:Type}{P:RK}{ops:Of x5}{rest:UV x5}{ks:UV Kt}{Q:nN->Act->PP->Prop}{m:H1 β}{r:β}{n:Nat}{D:UV q8}{S:UV (Nat×Do)}{F:Fz}{hs:UV HP}{d:Nat}{ty:If}{pos:String}{after:Of lL}
theorem GG.br{fn:Fn}{first caps:UV dO}{us:UV Do}(hd:Nat.blt d n=true)(hx0:Ub S first=some us)(hx:Ub S caps=some vs)(k:GL O P ops rest ks Q (Hd n D ((d,.func fn us.toArray vs.toArray)::S) F hs) m r):GL O P ops (⟨some d,.makeFunc fn first.toArray caps.toArray,ty,pos,after,none⟩::rest) ks Q (Hd n D S F hs) m r:=GG.val hd (λa w ha=>by simp[execOp,Instr.makeFunc,HI ha.1 hx,HI ha.1 hx0]) k
end
end
section
variable{α ρ:Type}
def qU(P:RK)(F:Fz)(f:x4)(caps:UV Do)(arg:α->Fz->UV Do->Prop)(Hs:Fz->ρ->UV HP)(r0:ρ)(q:ρ×UV α):Prop:=
 (∀args w,(callFunc f args).run P w= .ok (.enter f args) w)/\
 ∀(σ:Type) (ly:Nat) (Y:σ->Fz->HP) (Z:HP) (upd:ρ->σ) (y:α->σ->H1 (σ×Bool)) (F1:Fz),F<=F1->U1 P ly F1 arg Y y->(∀r F',F1<=F'->∀m,Qi (Hs F' r++[Z]) m->Y (upd r) F' m)->
  HN P f (.func (.yield ly) #[] #[]::caps).toArray F1 (Hs F1 r0++[Z]) (Uy y q.2<|upd q.1) (λ_ _ _=>True) (λs' F' =>[Y s' F'])
theorem qU.mk'{P:RK}{F:Fz}{f:x4}{caps:UV Do}{arg:α->Fz->UV Do->Prop}{Hs:Fz->ρ->UV HP}{r0:ρ}{q:ρ×UV α}(h1:∀args w,(callFunc f args).run P w= .ok (.enter f args) w)
  (h2:∀(σ:Type) (ly:Nat) (Y:σ->Fz->HP) (Z:HP) (upd:ρ->σ) (y:α->σ->H1 (σ×Bool)) (F1:Fz),F<=F1->U1 P ly F1 arg Y y->(∀r F',F1<=F'->∀m,Qi (Hs F' r++[Z]) m->Y (upd r) F' m)->
   ∃m,HN P f (.func (.yield ly) #[] #[]::caps).toArray F1 (Hs F1 r0++[Z]) m (λ_ _ _=>True) (λs' F' =>[Y s' F'])/\∀r,Uy y q.2 (upd q.1)=some r->m=some r):qU P F f caps arg Hs r0 q:=
 ⟨h1,λσ ly Y Z upd y F1 le hy hp r hr=>let⟨_,h,k⟩:=h2 σ ly Y Z upd y F1 le hy hp;h r (k r hr)⟩
section
variable{O:H1 Nat}{μ:Md}{β:Type}{P:RK}{ks:UV Kt}{Q:nN->Act->PP->Prop}{m:H1 β}{r:β}{n:Nat}{D:UV q8}{S:UV (Nat×Do)}{F:Fz}{hs:UV HP}
theorem GG.rM{c:lN}{Hs:UV HP}{Y:HP}(is:UV Nat)(hi:YD is hs=Hs)(hp:∀m,Qi Hs m->Y m)(k:GC O P c ks Q (Hd n D S F<|Y::J4 is hs) m r):GC O P c ks Q (Hd n D S F hs) m r:=GG.aA (λ_ _ h=>⟨h.1,h.2.mono λ_ hm=>QQ (λm hm=>hp m<|hi▸hm)<|UA (ks:=is) hm⟩) k
variable{α τ ρ:Type}{g:dO}{ps:UV Tmp}{assign body:lN}{f:x4}{caps:UV Do}{arg:α->Fz->UV Do->Prop}
theorem GG.tB{q:ρ×UV α}{bm:α->τ->H1 τ}{k:τ->H1 β}(Hs:Fz->ρ->UV HP)(r0:ρ)(s0:ρ->τ)(is:UV Nat)(I:τ->Fz->UV HP->Prop)(hg:QO S g=some (.func (.func f) #[] caps.toArray))(hit:qU P F f caps arg Hs r0 q)(hps:(ps.all λp=>Nat.blt p n)=true)(harg:∀x F' vs,arg x F' vs->vs.length=ps.length)
  (hi:YD is hs=Hs F r0) (hI:∀r F',F<=F'->I (s0 r) F' (Hs F' r++J4 is hs))
  (round:∀l L F0 F1 x vs s ctl R hs',F<=F0->F0<=F1->arg x F1 vs->I s F0 hs'->GC (some l) P assign [] (BP P l body<|RP l L I (fun(_:Empty) _ _=>False) F1 R<|.next ctl) (Hd n [] ((ps.zip vs).reverse++S) F1<|pt l (UC L)::R::hs') (bm x s) ctl)
  (next:∀q' F0 F' s hs',F<=F0->F0<=F'->Yx bm q.2 (s0 q.1)=some s->I s F0 hs'->GE none P ks Q (Hd n (WI q' ::D) S F'<|pt q' (.deferred<|some [])::hs') (k s) r):GC none P (.rangeFunc g ps.toArray assign body) ks Q (Hd n D S F hs) ((Yx bm q.2<|s0 q.1).bind k) r:=by
 intro hm a w ha;cases hl:Yx bm q.2 (s0 q.1) with
 | none=>rw[hl] at hm;cases hm
 | some sf=>
  rw[hl] at hm
  refine ey λfn _=> ?_
  let L:Loop:={state:=.ready,pending:=none,fn,tmps:=a.tmps,params:=ps.toArray,assign,body,defers:=w.heap.size}
  let J:Empty->Fz->UV HP->Prop:=λ_ _ _=>False
  let Z:HP:=star (pt (w.heap.size+1)<|UC L)<|Qi<|J4 is hs
  have hw1:SH ((w.alloc<|.deferred<|some []).alloc<|.loop L) F (star (Qi<|Hs F r0++[Z])<|Qi [pt w.heap.size<|.deferred<|some []]):=by
   have h1:=(ha.2.alloc<|.deferred<|some []).alloc<|.loop L;rw[lr] at h1
   refine h1.mono λm hm=> ?_
   have h2:star (pt (w.heap.size+1)<|UC L) (star (pt w.heap.size<|.deferred<|some [])<|star (Qi<|Hs F r0)<|Qi<|J4 is hs) m:=
    QS (λm hm=>QS (λm hm=>by have:=UA (ks:=is) hm;rw[hi] at this;exact this) hm) hm
   have h3:=T5<|QS (λm hm=>Zh hm)<|Zh h2;refine QQ (λm hm=> ?_)<|QS (λm hm=>J7 hm) h3;exact K5<|QS (λm hm=>J7 (p:=Z) hm) hm
  have hY:U1 P (w.heap.size+1) F arg (yS F (w.heap.size+1) L I J) (ku λx s=>(bm x s).map UK.next):=by
   refine Rm (S' :=λvs=>(ps.zip vs).reverse++S) (assign:=assign) (body:=body) (λx F' vs hx=>by rw[harg x F' vs hx];simp[L]) rfl rfl (λvs _=>Di hps ⟨ha.1.1,rfl,ha.1.2.2⟩) ?_;intro F0 F1 x vs s ctl R hs' h0 h1 hx hI hmm;cases hb:bm x s with
   | none=>rw[hb] at hmm;cases hmm
   | some s' =>
    rw[hb] at hmm
    simp only[x7,BY] at hmm
    subst hmm;exact round _ L F0 F1 x vs s s' R hs' h0 h1 hx hI hb
  have hpk:∀r F',F<=F'->∀m,Qi (Hs F' r++[Z]) m->yS F (w.heap.size+1) L I J (.next<|s0 r) F' m:=λr F' le m hm=>by
   refine⟨F',Hs F' r++J4 is hs,le,Fz.le_refl _,hI r F' le,?_⟩;have h1:=VY hm
   have h2:star (Qi<|Hs F' r) Z m:=QS (λm hm=>by
    obtain⟨m1,_,_,s1,_,hp,_⟩:=hm;obtain⟨a1,a2,d,t1,t2,g1,g2⟩:=hp;exact⟨a1,a2,d,t1.trans s1,t2.trans s1,g1,g2⟩) h1
   exact QS (λm hm=>K5 hm)<|Zh h2
  have hc:=hit.2 _ _ _ Z (λr=>.next<|s0 r) _ F (Fz.le_refl F) hY hpk (.next sf) (by rw[Fe,Dl,hl];rfl) _ _ hw1;refine⟨w.heap.size+1,[WI w.heap.size],(w.alloc<|.deferred<|some []).alloc<|.loop L,⟨.fn (.func f) caps.toArray,#[.func (.yield<|w.heap.size+1) #[] #[]]⟩,(w.alloc<|.deferred<|some []).alloc<|.loop L,f,(.func (.yield<|w.heap.size+1) #[] #[]::caps).toArray,(w.alloc<|.deferred<|some []).alloc<|.loop L,lW fn a.tmps ps.toArray assign body,?_,λ_ _=>trivial,?_,λe=>(by cases e),?_⟩
  ·have hc0:a.eval (.const<|.func (.yield<|w.heap.size+1) #[] #[])= .func (.yield<|w.heap.size+1) #[] #[]:=rfl;simp[resolve,Deferred.ofValue,ha.1.eval hg,hc0]
  ·simp[invoke,hit.1]
  ·refine nP.2<|hc.mono ?_;rintro _ w' ⟨F',v,le,rfl, -,hw'⟩;have hw2:SH w' F' (star (yS F (w.heap.size+1) L I J (.next sf) F')<|Qi [pt w.heap.size<|.deferred<|some []]):=hw'.mono λm hm=>Wb hm;obtain⟨F0,hs',h0,h1,hI',h3⟩:=SH.cU hw2;refine⟨none,_,Dj<|SH.bT (k:=0) rfl h3,?_⟩;have h4:SH _ F' (Qi<|pt w.heap.size (.deferred<|some [])::hs'):=(SH.bp 0<|SH.putAt (k:=0) rfl h3<|TU L none).mono λm hm=>Wb hm;exact next w.heap.size F0 F' sf hs' h0 h1 hl hI' hm _ _ ⟨⟨ha.1.1,by simp[ha.1.2.1],ha.1.2.2⟩,h4⟩
end
end
section
variable{V K α β:Type}{rv:Fz->V->Do->Prop}{xs:UV (UV<|K×V)}{S:UV (Nat×Do)}{pt':H1 OF}{ck:K->Do}{F F0:Fz}{w:PP}{hs:UV HP}{P:RK}{n γ b:Nat}{a:Act}
variable{O:H1 Nat}{μ:Md}
section
variable{K V:Type}
def y9(ck:K->Do)(rv:Fz->V->Do->Prop)(F:Fz)(b it:Nat)(M todo:UV (K×V))(cur:H1 (K×V)):HP:=λm=>∃(es:Of nS) (clock:Nat) (l' :UV (K×V)) (seen:Of Nat) (last:Nat),
 star (pt b<|.map es clock) (pt it<|.mapIter (some b) clock seen last) m/\Uj ck rv F es.toList l'/\YN es.toList clock/\(seen.isEmpty=false->last=clock)/\
 todo.Perm (((es.toList.zip l').filter λz=> !seen.contains z.1.born).map Prod.snd)/\l'.Perm M/\(M.map Prod.fst).Nodup/\
 ∀x,cur=some x->∃z∈es.toList.zip l',z.2=x/\seen.back? =some z.1.born
def Vu(γ:Nat)(ck:K->Do)(rv:Fz->V->Do->Prop)(F:Fz)(j b it:Nat)(xs:UV (UV<|K×V))(todo:UV (K×V))(cur:H1 (K×V)):HP:=λm=>∃M,xs[j]? =some M/\star (y9 ck rv F b it M todo cur) (hole γ (QZ ck rv) F j b xs) m
variable{ck:K->Do}{rv:Fz->V->Do->Prop}{F F0:Fz}{w:PP}{H:HP}{b it γ j:Nat}{M todo:UV (K×V)}{cur:H1 (K×V)}{xs:UV (UV<|K×V)}
theorem XS(h:SH w F (star (Vu γ ck rv F0 j b it xs todo cur) H)):∃(M:UV (K×V)) (es:Of nS) (clock:Nat) (l' :UV (K×V)) (seen:Of Nat) (last:Nat),xs[j]? =some M/\
  w.heap[b]? =some (.map es clock)/\w.heap[it]? =some (.mapIter (some b) clock seen last)/\SH w F (star (pt it<|.mapIter (some b) clock seen last)<|star (pt b<|.map es clock)<|star (hole γ (QZ ck rv) F0 j b xs) H)/\Uj ck rv F0 es.toList l'/\YN es.toList clock/\(seen.isEmpty=false->last=clock)/\
  todo.Perm (((es.toList.zip l').filter λz=> !seen.contains z.1.born).map Prod.snd)/\l'.Perm M/\(M.map Prod.fst).Nodup/\∀x,cur=some x->∃z∈es.toList.zip l',z.2=x/\seen.back? =some z.1.born:=by
 obtain⟨m,⟨m1,m2,d,s1,s2,⟨M,hM,hA⟩,hq⟩,k⟩:=h;have h1:=XD ⟨m1,m2,d,s1,s2,hA,hq⟩;obtain⟨m3,m4,d',t1,t2,⟨es,c,l',seen,last,h2,h3⟩,hq'⟩:=h1;have hs:SH w F (star (pt b<|.map es c)<|star (pt it<|.mapIter (some b) c seen last)<|star (hole γ (QZ ck rv) F0 j b xs) H):=⟨m,XD ⟨m3,m4,d',t1,t2,h2,hq'⟩,k⟩;have hs' :SH w F (star (pt it<|.mapIter (some b) c seen last)<|star (pt b<|.map es c)<|star (hole γ (QZ ck rv) F0 j b xs) H):=hs.mono λm hm=>Zh hm;exact⟨M,es,c,l',seen,last,hM,hs.owned,hs'.owned,hs',h3⟩
theorem HY{es:Of nS}{clock:Nat}{l' :UV (K×V)}{seen:Of Nat}{last:Nat}(hM:xs[j]? =some M)(h:SH w F (star (pt it<|.mapIter (some b) clock seen last)<|star (pt b<|.map es clock)<|star (hole γ (QZ ck rv) F0 j b xs) H))
  (h1:Uj ck rv F0 es.toList l') (h2:YN es.toList clock) (h3:seen.isEmpty=false->last=clock) (h4:todo.Perm (((es.toList.zip l').filter λz=> !seen.contains z.1.born).map Prod.snd)) (h5:l'.Perm M) (h6:(M.map Prod.fst).Nodup) (h7:∀x,cur=some x->∃z∈es.toList.zip l',z.2=x/\seen.back? =some z.1.born):SH w F (star (Vu γ ck rv F0 j b it xs todo cur) H):=h.mono λm hm=>by
 have hm1:=UO<|Zh hm;have hm2:=UO hm1;exact QQ (λm hm=>⟨M,hM,QQ (λm hm=>⟨es,clock,l',seen,last,hm,h1,h2,h3,h4,h5,h6,h7⟩) hm⟩) hm2
theorem jk{C:Fz->Nat->UV (K×V)->HP}{y:UV (K×V)}(h:SH w F (star (hole γ C F0 j b xs) H)):SH w F (star (hole γ C F0 j b<|xs.set j y) H):=h.mono λm hm=>QQ (λm ⟨bs,h1,h2,h3⟩=>⟨bs,by simpa using h1,h2,by rw[<-Rk (f:=C F0) h2,iM];exact h3⟩) hm
theorem jj(le:F0<=F)(hb:UE γ F j b)(h:SH w F (star (Vu γ ck rv F0 j b it xs todo cur) H)):SH w F (star (Vu γ ck rv F j b it xs todo cur) H):=by
 obtain⟨M,es,c,l',seen,last,hM,_,_,hs,h1,h2,h3,h4,h5,h6,h7⟩:=XS h;refine HY hM ?_ (h1.up le) h2 h3 h4 h5 h6 h7;have hh:SH w F (star (hole γ (QZ ck rv) F0 j b xs)<|star (pt it<|.mapIter (some b) c seen last)<|star (pt b<|.map es c) H):=hs.mono λm hm=>Zh<|QS (λm hm=>Zh hm) hm;exact(hh.pC HT le hb).mono λm hm=>QS (λm hm=>Zh hm)<|Zh hm
theorem Ix(h:SH w F (star (Vu γ ck rv F0 j b it xs [] cur) H)):SH w F (star (ZB γ (QZ ck rv) F0 xs) H):=by
 obtain⟨M,es,c,l',seen,last,hM,_,_,hs,h1,h2,h3,h4,h5,h6,h7⟩:=XS h;have hs1:SH w F (star (QZ ck rv F0 b M)<|star (hole γ (QZ ck rv) F0 j b xs) H):=hs.drop.mono λm hm=>QQ (λm hm=>⟨l',h5,h6,es,c,hm,h1,h2⟩) hm;have:=SH.aO HT (Fz.le_refl _) hs1 (AC.1 hM).1;rw[<-Cb hM] at this;exact this
variable[BEq K][LawfulBEq K]
omit [LawfulBEq K] in
theorem Uj.rZ{kd:oA}{k:K}(hk:∀a b,Instr.sameNow kd (ck a) (ck b)=some (a==b)):∀{es:UV nS} {l:UV (K×V)} (i0:Nat),Uj ck rv F es l->
   (Instr.findNow kd (ck k) es i0=some none/\Jy l k=l/\∀x∈l,(k==x.1)=false)∨
   (∃i e x,Instr.findNow kd (ck k) es i0=some (some (i0+i,e))/\i < es.length/\Uj ck rv F (es.eraseIdx i) (Jy l k)/\Jy l k=l.eraseIdx i/\l[i]? =some x/\(k==x.1)=true)
 | [],[],_,_=>.inl ⟨rfl,rfl,λ_ h=>by cases h⟩
 | e::es,x::l,i0,⟨h1,h2,h3⟩=>by
  by_cases hb:(k==x.1)=true
  ·right;refine⟨0,e.val,x,by simp[Instr.findNow,h1,hk,hb],by simp,?_,by simp[Jy,hb],rfl,hb⟩;simp only[Jy,hb,Rw,iD];exact h3
  ·have hb' :(k==x.1)=false:=by simpa using hb
   rcases Uj.rZ (k:=k) hk (i0+1) h3 with⟨g1,g2,g3⟩ | ⟨i,e1,y,g1,g2,g3,g4,g5,g6⟩
   ·left;refine⟨by simp[Instr.findNow,h1,hk,hb',g1],by simp[Jy,hb',g2],λz hz=> ?_⟩;rcases j9.1 hz with rfl | hz
    ·exact hb'
    ·exact g3 z hz
   ·right;refine⟨i+1,e1,y,by simp[Instr.findNow,h1,hk,hb',g1];omega,by simpa using g2,?_,by simp[Jy,hb',g4],by simpa using g5,g6⟩;simp only[Jy,hb',By,T2,lI];exact⟨h1,h2,g3⟩
theorem LP:∀{es:UV α} {l:UV β} {i:Nat},(es.eraseIdx i).zip (l.eraseIdx i)=(es.zip l).eraseIdx i
 | [],_,_=>by simp
 | _::_,[],_=>by simp
 | _::_,_::_,0=>rfl
 | _::es,_::l,i+1=>by simp[LP (es:=es) (l:=l)]
theorem Ta{p:α->Bool}:∀{l:UV α} {i:Nat} {x:α},l[i]? =some x->p x=false->(l.eraseIdx i).filter p=l.filter p
 | [],_,_,h,_=>by simp at h
 | y::l,0,x,h,hp=>by simp at h;subst h;simp[hp]
 | y::l,i+1,x,h,hp=>by
  simp only[mE] at h
  simp only[lI,nu,Ta h hp]
omit [BEq K] [LawfulBEq K] in
theorem N5:∀{l:UV (K×V)} {x y:K×V},(l.map Prod.fst).Nodup->x∈l->y∈l->x.1=y.1->x=y
 | [],_,_,_,h,_,_=>by cases h
 | z::l,x,y,hn,hx,hy,e=>by
  simp only[s4,mM] at hn
  rcases j9.1 hx with rfl | hx1<;>rcases j9.1 hy with rfl | hy1
  ·rfl
  ·exact absurd (nB (f:=Prod.fst) hy1) (by rw[<-e];exact hn.1)
  ·exact absurd (nB (f:=Prod.fst) hx1) (by rw[e];exact hn.1)
  ·exact N5 hn.2 hx1 hy1 e
end
section
variable{β:Type}{P:RK}{ops:Of x5}{rest:UV x5}{ks:UV Kt}{Q:nN->Act->PP->Prop}{m:H1 β}{r:β}
variable{n:Nat}{D:UV q8}{S:UV (Nat×Do)}{F F0:Fz}{hs:UV HP}{d:Nat}{d' :H1 Nat}{ty t kt vt:If}{pos:String}{after:Of lL}{ox oy:dO}{cd:lN}
variable{K V:Type}{ck:K->Do}{rv:Fz->V->Do->Prop}{b it γ j i' :Nat}{l todo:UV (K×V)}{cur:H1 (K×V)}{xs:UV (UV<|K×V)}
theorem GG.pZ{p:H1 Nat}(i:Nat)(hi:hs[i]? =some (ZB γ (QZ ck rv) F0 xs))(hb:UE γ F j b)(hp:p=some b)(hel:xs[j]? =some l)(hd:Nat.blt d n=true)(ht:P.underlying t=some (.map kt vt))(hx:QO S ox=some (.map p))
  (k:∀it,(l.map Prod.fst).Nodup->GL O P ops rest ks Q (Hd n D ((d,.pointer<|some ⟨it,0,none⟩)::S) F<|hs.set i<|Vu γ ck rv F0 j b it xs l none) m r):GL O P ops (⟨some d,.range t ox,ty,pos,after,none⟩::rest) ks Q (Hd n D S F hs) m r:=by
 subst hp;refine GG.step rfl (.inr rfl) λhm a w ha=> ?_;have h0:=(ha.2.pull hi).sR hb hel;obtain⟨es,c,l',hpm,hn,hh,hr,hsh,hbi⟩:=Wp h0;refine⟨.pointer<|some ⟨w.heap.size,0,none⟩,w.alloc<|.mapIter (some b) c #[] c,?_,k w.heap.size hn hm _ _ ⟨ha.1.put hd _,?_⟩⟩
 ·simp[execOp,Instr.range,ha.1.eval hx,J5 ht,YO hh]
 ·have h1:=hsh.alloc<|.mapIter (some b) c #[] c;refine SH.push hi<|HY hel h1 hr hbi (λh=>by simp at h) ?_ hpm hn λ_ h=>by cases h
  have e:((es.toList.zip l').filter λz=> !(#[]:Of Nat).contains z.1.born)=es.toList.zip l' :=by
   rw[mU];intro z _;simp
  rw[e,hr.bw.1];exact hpm.symm
theorem GG.pf(i:Nat)(hi:hs[i]? =some (Vu γ ck rv F0 j b it xs [] cur))(hp:pt' =some ⟨it,0,none⟩)(hd:Nat.blt d n=true)(hx:QO S ox=some (.pointer pt'))
  (k:GL O P ops rest ks Q (Hd n D ((d,.tuple #[.bool false])::S) F hs) m r):GL O P ops (⟨some d,.next ox false,ty,pos,after,none⟩::rest) ks Q (Hd n D S F hs) m r:=by
 subst hp;refine GG.step rfl (.inr rfl) λhm a w ha=> ?_;obtain⟨M,es,c,l',seen,last,_,hb,hit,_,hr,hbi,hl,ht,_⟩:=XS<|ha.2.pull hi;obtain⟨k',hk'⟩:=(TP (P:=P) (ty:=ty) hb hit hr hbi hl ht).1 rfl;refine⟨_,{w with drawn:=k'},?_,k hm _ _ ⟨ha.1.put hd _,ha.2.drew _⟩⟩;simp[execOp,ha.1.eval hx,hk']
theorem GG.pe(i:Nat)(hi:hs[i]? =some (Vu γ ck rv F0 j b it xs todo cur))(hne:todo≠[])(hp:pt' =some ⟨it,0,none⟩)(hd:Nat.blt d n=true)(hx:QO S ox=some (.pointer pt'))
  (k:∀x rest' v,(x::rest').Perm todo->(∀F',F0<=F'->rv F' x.2 v)->GL O P ops rest ks Q (Hd n D ((d,.tuple #[.bool true,ck x.1,v])::S) F<|hs.set i<|Vu γ ck rv F0 j b it xs rest'<|some x) m r):GL O P ops (⟨some d,.next ox false,ty,pos,after,none⟩::rest) ks Q (Hd n D S F hs) m r:=by
 subst hp;refine GG.step rfl (.inr rfl) λhm a w ha=> ?_;obtain⟨M,es,c,l',seen,last,hM,hb,hit,hsh,hr,hbi,hl,ht,hpm,hnM,_⟩:=XS<|ha.2.pull hi;obtain⟨z,hz,hseen,k',hk'⟩:=(TP (P:=P) (ty:=ty) hb hit hr hbi hl ht).2 hne;obtain⟨hkey,hval⟩:=hr.cy hz;have hnd:=Ts hbi hr;have hsp:=G5 (p:=λy:nS×(K×V)=> !seen.contains y.1.born) hnd hz<|by simp only[hseen,r6]
 have e1:∀y:nS×(K×V),(!(seen.push z.1.born).contains y.1.born)=(!seen.contains y.1.born&& !(y.1.born==z.1.born)):=λy=>by
  rw[oH,iP]
 refine⟨_,put {w with drawn:=k'} it<|.mapIter (some b) c (seen.push z.1.born) c,?_,k z.2 (((es.toList.zip l').filter λy=> !(seen.push z.1.born).contains y.1.born).map Prod.snd) z.1.val ?_ hval hm _ _ ⟨by rw[<-hkey];exact ha.1.put hd _,SH.push hi<|HY hM ((hsh.drew _).put (o' :=.mapIter (some b) c (seen.push z.1.born) c)) hr hbi (λ_=>rfl) (.refl _) hpm hnM λx hx=> ?_⟩⟩
 ·simp[execOp,ha.1.eval hx,hk']
 ·refine List.Perm.trans ?_ ht.symm;have:=(hsp.map Prod.snd).symm;simp only[s4] at this
  refine List.Perm.trans (.of_eq ?_) this;congr 2;exact nT λy _=>e1 y
 ·simp only[BY] at hx
  exact⟨z,hz,hx,by simp⟩
theorem GG.po{x:K×V}(i:Nat)(hi:hs[i]? =some (Vu γ ck rv F0 j b it xs todo<|some x))(hp:pt' =some ⟨it,0,none⟩)(hd:Nat.blt d n=true)(hx:QO S ox=some (.pointer pt'))
  (k:∀v,(∀F',F0<=F'->rv F' x.2 v)->GL O P ops rest ks Q (Hd n D ((d,.tuple #[ck x.1,v])::S) F hs) m r):GL O P ops (⟨some d,.entry ox,ty,pos,after,none⟩::rest) ks Q (Hd n D S F hs) m r:=by
 subst hp;refine GG.step rfl (.inr rfl) λhm a w ha=> ?_;obtain⟨M,es,c,l',seen,last,hM,hb,hit,hsh,hr,hbi,hl,ht,hpm,hnM,hlast⟩:=XS<|ha.2.pull hi;obtain⟨z,hz,hzx,hback⟩:=hlast x rfl;obtain⟨hkey,hval⟩:=hr.cy hz;subst hzx
 have hne:seen.isEmpty=false:=by
  cases h:seen.isEmpty with
  | false=>rfl
  | true=>
   have:seen=#[]:=by simpa using h
   subst this;simp at hback
 have hlc:=hl hne;subst hlc
 have hfind:es.find? (λe=>e.born==z.1.born)=some z.1:=by
  have hmem:z.1∈es.toList:=by rw[<-hr.bw.2];exact nB hz
  have hnd:(es.toList.map (·.born)).Nodup:=hbi.1.imp λh=>oO h
  have:es.toList.find? (λe=>e.born==z.1.born)=some z.1:=by
   clear hb hit hr hbi ht hpm hlast hz hval hkey hsh hback hl
   generalize es.toList=L at hmem hnd
   induction L with
   | nil=>cases hmem
   | cons y L ih=>
    simp only[s4,mM] at hnd
    rcases j9.1 hmem with e | e
    ·rw[ma,<-e];simp
    ·have:(y.born==z.1.born)=false:=by
      cases hbb:y.born==z.1.born with
      | false=>rfl
      | true=>exact absurd (nB (f:=(·.born)) e) (by rw[<-(mB.1 hbb:y.born=z.1.born)];exact hnd.1)
     rw[ma,this];exact ih e hnd.2
  simpa using this
 refine⟨_,w,?_,k z.1.val hval hm _ _ ⟨by rw[<-hkey];exact ha.1.put hd _,ha.2⟩⟩;simp[execOp,Instr.entry,ha.1.eval hx,Sj hit,YO hb,hback,hfind]
def fV(a b:Nat):H1 Unit:=if a=b then some () else none
theorem vm{a:Nat}{u:Unit}(h:fV a b=some u):a=b:=by
 unfold fV at h;split at h
 ·assumption
 ·cases h
theorem UE.one{c:Nat}(h:UE γ F j b)(h' :UE γ F i' c)(e:i' =j):c=b:=by
 subst e;have:=h.2.symm.trans h'.2;simp at this;exact this.symm
theorem GG.pG[BEq K][LawfulBEq K]{p:H1 Nat}{c:Nat}{x:K×V}{xs' :UV (UV<|K×V)}{T:Of If}(i:Nat)(hi:hs[i]? =some (Vu γ ck rv F0 j b it xs todo<|some x))(hb:UE γ F j b)(hc:UE γ F i' c)(hij:i' =j)(hp:p=some c)(hel:xs[i']? =some l)(hd:∀e,d' =some e->Nat.blt e n=true)(hT:T[0]? =some t)(ht:P.underlying t=some (.map kt vt))(ok:X0 P kt ck)(hx:QO S ox=some (.map p))(hy:QO S oy=some (ck x.1))(he:xs' =xs.set i' (Jy l x.1))
  (k:GL O P ops rest ks Q (Hd n D (match d' with | some e=>(e,.tuple #[])::S | none=>S) F<|hs.set i<|Vu γ ck rv F0 j b it xs' todo none) m r):GL O P ops (⟨d',.call ⟨.builtin .delete,#[ox,oy],T⟩,ty,pos,after,none⟩::rest) ks Q (Hd n D S F hs) m r:=by
 obtain rfl:=hb.one hc hij;subst hp;subst he;subst hij;refine GG.step rfl (.inr rfl) λhm a w ha=> ?_;obtain⟨M,es,clock,l',seen,last,hM,hbb,hit,hsh,hr,hbi,hl,htd,hpm,hnM,hlast⟩:=XS<|ha.2.pull hi;obtain rfl:M=l:=by rw[hM] at hel;simpa using hel
 obtain⟨z,hz,hzx,hback⟩:=hlast x rfl;obtain⟨kd,hu,hsame⟩:=ok.und;have hnl:(l'.map Prod.fst).Nodup:=(hpm.map _).nodup_iff.2 hnM;have hxl:x∈l' :=by rw[<-hr.bw.1,<-hzx];exact nB hz
 rcases hr.rZ (k:=x.1) hsame 0 with⟨_,_,g3⟩ | ⟨q,e1,y,g1,g2,g3,g4,g5,g6⟩
 ·have:=g3 x hxl;simp at this
 ·have hj:q < es.size:=by simpa using g2
  have hf:=run_findKey (w:=w) hu g1;rw[nl] at hf
  have hyx:y=x:=N5 hnl (s8 g5) hxl (by simpa using(mB.1 g6).symm);subst hyx;have hes:(es.eraseIdxIfInBounds q).toList=es.toList.eraseIdx q:=by simp[Array.eraseIdxIfInBounds,hj]
  obtain⟨e2,he2⟩:∃e2,es.toList[q]? =some e2:=⟨_,Nm g2⟩;have hzq:(es.toList.zip l')[q]? =some (e2,y):=by rw[ov];exact⟨he2,g5⟩
  have hz2:z=(e2,y):=by
   obtain⟨q',hq',ez⟩:=mT hz;have hq2:(es.toList.zip l')[q']? =some z:=by rw[Nm hq',ez]
   have h1:=(ov.1 hq2).2;have hpw:=eK.1 hnl;have hq1:q < l'.length:=(AC.1 g5).1;have hq1' :q' < l'.length:=(AC.1 h1).1;have a1:l'[q]=y:=(AC.1 g5).2;have a2:l'[q']=y:=by rw[(AC.1 h1).2,hzx]
   have:q' =q:=by
    rcases oP q' q with h | h | h
    ·exact absurd (by rw[mj,mj,a1,a2])<|hpw q' q (by simpa using hq1') (by simpa using hq1) h
    ·exact h
    ·exact absurd (by rw[mj,mj,a1,a2])<|hpw q q' (by simpa using hq1) (by simpa using hq1') h
   subst this;rw[hq2] at hzq;simpa using hzq
  have hseen:seen.contains e2.born=true:=by
   have:=hback;rw[hz2] at this
   simp only at this
   rw[Array.contains_iff_mem];exact Array.mem_of_back? this
  refine⟨.tuple #[],Dec.put w c<|.map (es.eraseIdxIfInBounds q) clock,?_,k hm _ _ ⟨?_,SH.push hi ?_⟩⟩
  ·have:(Builtin.delete_ T ty #[.map<|some c,ck y.1]).run P w= .ok (.tuple #[]) (Dec.put w c<|.map (es.eraseIdxIfInBounds q) clock):=by
    simp[Builtin.delete_,hT,J5 ht,YO hbb,ok.check,hf,FP hbb]
   simp[execOp,resolve,invoke,builtin,ha.1.eval hx,ha.1.eval hy,this]
  ·cases d' with
   | none=>exact ha.1.bh _
   | some e=>exact ha.1.put (hd e rfl) _
  ·have h1:=(hsh.mono λm hm=>Zh hm).put (o' :=.map (es.eraseIdxIfInBounds q) clock);have hjl:i' < xs.length:=(AC.1 hM).1;refine HY (M:=Jy M y.1) (by rw[mS];simp[hjl]) (w:=Dec.put w c<|.map (es.eraseIdxIfInBounds q) clock) ?_ (l' :=Jy l' y.1) (by rw[hes];exact g3) (by rw[hes];exact hbi.erase) hl ?_ (Cl hpm hnM) (BL hnM) λ_ h=>by cases h
   ·have h2:=h1.mono λm hm=>Zh hm;have h3:SH (Dec.put w c<|.map (es.eraseIdxIfInBounds q) clock) F (star (hole γ (QZ ck rv) F0 i' c xs) _):=h2.mono λm hm=>Zh<|QS (λm hm=>Zh hm) hm;exact(jk (y:=Jy M y.1) h3).mono λm hm=>QS (λm hm=>Zh hm)<|Zh hm
   ·rw[hes,g4,LP,Ta hzq<|by simp only[hseen,x6]];exact htd
theorem Hd.rC(i:Nat)(le:F0<=F)(hb:UE γ F j b)(hi:hs[i]? =some (Vu γ ck rv F0 j b it xs todo cur))(ha:Hd n D S F hs a w):Hd n D S F (hs.set i<|Vu γ ck rv F j b it xs todo cur) a w:=⟨ha.1,SH.push hi<|jj le hb<|ha.2.pull hi⟩
theorem GG.rC{g:Gp}(i:Nat)(le:F0<=F)(hb:UE γ F j b)(hi:hs[i]? =some (Vu γ ck rv F0 j b it xs todo cur))(k:GG g (Hd n D S F<|hs.set i<|Vu γ ck rv F j b it xs todo cur) m r):GG g (Hd n D S F hs) m r:=by
 exact λhm a w ha=>k hm a w<|Hd.rC i le hb hi ha
theorem GG.re(i:Nat)(hi:hs[i]? =some (Vu γ ck rv F0 j b it xs [] cur))(k:GE O P ks Q (Hd n D S F<|hs.set i<|ZB γ (QZ ck rv) F0 xs) m r):GE O P ks Q (Hd n D S F hs) m r:=λhm a w ha=>k hm a w ⟨ha.1,SH.push hi<|Ix<|ha.2.pull hi⟩
theorem Hd.py{x:H1 (K×V)}(i:Nat)(hi:hs[i]? =some (Vu γ ck rv F0 j b it xs todo x))(ha:Hd n D S F hs a w):Hd n D S F (hs.set i<|Vu γ ck rv F0 j b it xs todo none) a w:=
 ⟨ha.1,SH.push hi (by
  obtain⟨M,es,c,l',seen,last,hM,_,_,hs,h1,h2,h3,h4,h5,h6,h7⟩:=XS<|ha.2.pull hi;exact HY hM hs h1 h2 h3 h4 h5 h6 λ_ h=>by cases h)⟩
theorem GG.py{g:Gp}{x:H1 (K×V)}(i:Nat)(hi:hs[i]? =some (Vu γ ck rv F0 j b it xs todo x))(k:GG g (Hd n D S F<|hs.set i<|Vu γ ck rv F0 j b it xs todo none) m r):GG g (Hd n D S F hs) m r:=by
 exact λhm a w ha=>k hm a w<|Hd.py i hi ha
end
def N8(P:RK)(fn:lK)(F:Fz)(R:HP)(ρ:β->Fz->Do->Prop)(Hs' :β->Fz->UV HP)(r:β):nN->Act->PP->Prop:=bodyPostM Fence.wide 0 P fn (λe w' =>∃F' v,F<=F'/\e= .returned v/\ρ r F' v/\SH w' F' (star (Qi<|Hs' r F') R))
theorem HN.cx{f:x4}{fn:lK}{c:lN}{args:UV Do}{Hs:UV HP}{m:H1 β}{ρ:β->Fz->Do->Prop}{Hs' :β->Fz->UV HP}
  (hf:P.funcs[f]? =some fn) (hb:fn.body=some c) (hn:fn.ntmps=n) (ha:Nat.ble args.length n=true)
  (k:∀r R,GC none P c [] (N8 P fn F R ρ Hs' r) (Hd n [] (Db 0 args) F<|Hs++[R]) m r):HN P f args.toArray F Hs m ρ Hs' :=by
 intro r hm w R hw;refine(nP (n:=0)).1<|oG hf hb trivial<|k r R hm _ w ⟨?_,hw.mono λm hm=>K5<|QS (λ_ h=>J7 h) hm⟩;rw[hn];exact Uw ha
section
variable{β:Type}{P:RK}{n:Nat}{S:UV (Nat×Do)}{F F' :Fz}{hs:UV HP}{ks:UV Kt}{fn:lK}{R:HP}{ρ:β->Fz->Do->Prop}{Hs' :β->Fz->UV HP}{x r:β}{rs:UV ResultVar}{vs:UV Do}{ms:UV (Nat×Nat)}
theorem NV(is:UV Nat)(hr:fn.results=rs.toArray)(ho:vB hs ms)(h:SP P S F' (He hs ms) rs vs)(hi:YD is (He hs ms)=Hs' x F' ++[R])(le:F<=F')(hρ:ρ x F' (S8 vs)):some x=some r->∀a w,Hd n (ms.map λp=>WI p.2) S F' hs a w->LeavesInM Fence.wide 0 P fn a.tmps (λe w' =>∃F' v,F<=F'/\e= .returned v/\ρ r F' v/\SH w' F' (star (Qi<|Hs' r F') R)) a.defers .returning w:=by
 intro e a w ha;simp only[BY] at e
 subst e;rw[ha.1.2.1];refine Rs ha.2 ho λw' h' => ?_
 exact⟨_,Jd (n:=n) (a:=a) (D:=a.defers) hr ⟨⟨ha.1.1,rfl,ha.1.2.2⟩,h'⟩ h,F',_,le,rfl,hρ,h'.mono λm hm=>by
  have h1:=VX (ks:=is) hm;rw[hi] at h1
  exact Xn<|VY h1⟩
theorem GG.rK(is:UV Nat)(ms:UV (Nat×Nat))(hr:fn.results=rs.toArray)(ho:vB hs ms)(h:SP P S F' (He hs ms) rs vs)(hi:YD is (He hs ms)=Hs' x F' ++[R])(le:F<=F')(hρ:ρ x F' (S8 vs)):GC O P .ret ks (N8 P fn F R ρ Hs' r) (Hd n (ms.map λp=>WI p.2) S F' hs) (some x) r:=GG.bc<|NV is hr ho h hi le hρ
theorem GG.pV(is:UV Nat)(ms:UV (Nat×Nat))(hr:fn.results=rs.toArray)(ho:vB hs ms)(h:SP P S F' (He hs ms) rs vs)(hi:YD is (He hs ms)=Hs' x F' ++[R])(le:F<=F')(hρ:ρ x F' (S8 vs)):GE O P [] (N8 P fn F R ρ Hs' r) (Hd n (ms.map λp=>WI p.2) S F' hs) (some x) r:=GG.bA<|NV is hr ho h hi le hρ
end
def Mh(sz:Nat)(c:Uk α)(F:Fz)(p:H1 OF)(cap:Nat)(l:UV α):Prop:=QI sz c F p cap l/\(l=[]->p=none/\cap=0)
section
variable{α:Type}{sz:Nat}{c:Uk α}{F F' :Fz}{p:H1 OF}{cap:Nat}{l:UV α}
theorem Mh.nil(h:Mh sz c F p cap l)(e:l=[]):p=none/\cap=0:=h.2 e
theorem Mh.zero:Mh sz c F none 0 ([]:UV α):=⟨QI.nil,λ_=>⟨rfl,rfl⟩⟩
end
def xh(l:UV α):H1 Unit:=match l with | []=>some () | _::_=>none
theorem L5{l:UV α}{u:Unit}(h:xh l=some u):l=[]:=by
 cases l with
 | nil=>rfl
 | cons x l=>cases h
section
variable{K V:Type}{ck:K->Do}{rv:Fz->V->Do->Prop}{γ:Nat}{xs ys:UV (UV<|K×V)}{n:Nat}{D:UV q8}{S:UV (Nat×Do)}{F F0:Fz}{hs:UV HP}{a:Act}{w:PP}
theorem Hd.ry(i:Nat)(hi:hs[i]? =some (ZB γ (QZ ck rv) F0 xs))(hp:Tz xs ys)(ha:Hd n D S F hs a w):Hd n D S F (hs.set i<|ZB γ (QZ ck rv) F0 ys) a w:=by
 refine⟨ha.1,SH.push hi ?_⟩;refine(ha.2.pull hi).sd hp.1 λi' x y b' m hx hy hm=> ?_;obtain⟨l',h1,h2,h3⟩:=hm;have h4:=hp.2 i' x y hx hy;exact⟨l',h1.trans h4,(h4.map _).nodup_iff.1 h2,h3⟩
end
end
section
section
variable{β:Type}{O:H1 Nat}{P:RK}{ks:UV Kt}{Q:nN->Act->PP->Prop}{m:H1 β}{r:β}{n:Nat}{D:UV q8}{S0:UV (Nat×Do)}{F:Fz}{hs:UV HP}{l:UV x5}
theorem Gv.rJ{k:Nat}{a0 a b:Act}{vs:UV Do}{L L' :Nat->Bool}(c:Gv l k n a0 vs L a)(c' :Gv l k n a0 vs L' b)(hvs:k<=vs.length){t:Nat}(ht:∀j,j < k->Vv l j=some t->L j=L' j):a.tmps.getD t undef=b.tmps.getD t undef:=by
 by_cases h:∃j,j < k/\L j=true/\Vv l j=some t
 ·obtain⟨j,hj,hL,e⟩:=h;have hv:vs[j]? =some vs[j]:=Nm (by omega);rw[c.got j _ t hj hL e hv,c'.got j _ t hj (by rw[<-ht j hj e];exact hL) e hv]
 ·rw[c.old t λj hj hL e=>h ⟨j,hj,hL,e⟩,c'.old t λj hj hL e=>h ⟨j,hj,by rw[ht j hj e];exact hL,e⟩]
end
end
section
variable{Q:nN->Act->PP->Prop}{l:UV x5}{P:RK}{st:UV Nat}{n p:Nat}
theorem Fz.r{F:Fz}:F<=F:=Fz.le_refl F
theorem Fz.t{F G H:Fz}(h:F<=G)(k:G<=H):F<=H:=Fz.le_trans h k
section
variable{O:H1 Nat}{μ:Md}
def yT(O:H1 Nat)(P:RK)(ops:Of x5)(Q:nN->Act->PP->Prop):UV Nat->UV x5->Act->PP->Prop
 | [],l,a,w=>wpS P ops w (λa' =>Q .normal a' w) l a
 | p::st,l,a,w=>wpS P ops w (λa' =>Xa O P ops (Exit.then (yT O P ops Q st<|l.drop<|p+1) Q) ((l.drop p).take 1) a' w) (l.take p) a
def vN(l:UV x5)(c p i:Nat)(o:x5):Bool:=(o.looksAt l.toArray).all λt=>(List.range p).all λj=>match Vv l (c+j) with
 | none=>true
 | some d=> !Nat.beq d t||((o.after.toList.any λe=>Region.binds .any e&&Nat.beq e.on (c+j))||(Nat.blt i j&&match l[c+j]? with
  | none=>false
  | some oj=>oj.after.toList.any λe=>Region.binds .any e&&Nat.beq e.on (c+i)))
def Rr(l:UV x5)(c p:Nat):Nat->UV x5->Bool
 | _,[]=>true
 | i,o::os=>vN l c p i o&&Rr l c p (i+1) os
theorem RF{c:Nat}:∀{os:UV x5} {i0:Nat},Rr l c p i0 os=true->∀(i:Nat) (o:x5),os[i]? =some o->vN l c p (i0+i) o=true
 | [],_,_,i,o,h=>by simp at h
 | x::os,i0,hl,i,o,h=>by
  simp only[Rr,AT] at hl
  cases i with
  | zero=>simp at h;subst h;exact hl.1
  | succ i=>
   have:=RF hl.2 i o (by simpa using h);rw[show i0+1+i=i0+(i+1) by omega] at this
   exact this
def jL(n:Nat)(l:UV x5)(c p:Nat):Bool:=BH n ((l.drop c).take p)&&Rr l c p 0 ((l.drop c).take p)&&((l.drop c).take p).all λo=>HS o.op&&vE o.op
def gv(msk:UV (UV Bool))(len d:Nat):Bool:=yA d (msk.getD d [])&&(List.range len).all λt=> !Nat.blt d t||(msk.getD t []).getD d false
def xA(n:Nat)(l:UV x5)(msk:UV (UV Bool)):UV Nat->Nat->Bool
 | [],c=>jL n l c (l.length - c)
 | p::st,c=>Nat.blt (c+p) l.length&&jL n l c p&&gv msk l.length (c+p)&&xA n l msk st (c+p+1)
def zZ(n:Nat)(l:UV x5)(st:UV Nat):Bool:=Mz 0 l&&xA n l (Ws [] l) st 0
def UL(l:UV x5):UV Nat->Nat->Nat
 | [],c=>l.length - c
 | p::_,_=>p
def yY(O:H1 Nat)(P:RK)(l:UV x5)(Q:nN->Act->PP->Prop):UV Nat->Nat->Act->PP->Prop
 | [],_,a,w=>Q .normal a w
 | p::st,c,a,w=>Xa O P l.toArray (Exit.then (yT O P l.toArray Q st<|l.drop<|c+p+1) Q) ((l.drop<|c+p).take 1) a w
theorem Em{msk:UV (UV Bool)}:∀{st:UV Nat} {c:Nat},xA n l msk st c=true->c<=l.length->jL n l c (UL l st c)=true/\c+UL l st c<=l.length
 | [],c,h,hc=>⟨h,by show c+(l.length - c)<=l.length;omega⟩
 | p::st,c,h,_=>by
  simp only[xA,AT] at h
  exact⟨h.1.1.2,Nat.le_of_lt<|j3 h.1.1.1⟩
theorem ya{w:PP}:∀{st:UV Nat} {c:Nat} {a:Act},c<=l.length->yT O P l.toArray Q st (l.drop c) a w->wpS P l.toArray w (λa' =>yY O P l Q st c a' w) ((l.drop c).take<|UL l st c) a
 | [],c,a,hc,h=>by
  have e:(l.drop c).take (UL l [] c)=l.drop c:=s5 (by show(l.drop c).length<=l.length - c;rw[mg];exact IN _);rw[e];exact h
 | p::st,c,a,hc,h=>by
  unfold yT at h
  rw[lk,lk] at h
  exact h
structure zt(O:Option Nat)(P:Program)(l:List Oper)(n:Nat)(Q:Exit->Act->World->Prop)(dfs:List Deferred)(st:List Nat)(c:Nat)(a0:Act)(vs:List Value)(L:Nat->Bool)(a:Act)(w:World):Prop where
 stg:xA n l (Ws [] l) st c=true
 cl:c<=l.length
 down:Down l L
 pre:∀j,j < c->L j=true
 out:∀j,c+UL l st c<=j->L j=false
 size:a0.tmps.size=n
 len:vs.length=UL l st c
 tail:yY O P l Q st c (E0 a0 ((l.drop c).take<|UL l st c) vs) w
 step:∀i o v,((l.drop c).take<|UL l st c)[i]? =some o->vs[i]? =some v->Tx P l.toArray w o v (E0 a0 (((l.drop c).take<|UL l st c).take i)<|vs.take i)
 char:Gv (l.drop c) (UL l st c) n a0 vs (λj=>L<|c+j) a
theorem zt.enter{c:Nat}{a:Act}{L:Nat->Bool}{w:PP}(hs:xA n l (Ws [] l) st c=true)(hc:c<=l.length)(hd:Down l L)(hpre:∀j,j < c->L j=true)(hout:∀j,c<=j->L j=false)(hz:a.tmps.size=n)(hw:yT O P l.toArray Q st (l.drop c) a w):∃vs,zt O P l n Q [] st c a vs L a w:=by
 obtain⟨vs,h1,h2,h3⟩:=Ee<|ya hc hw;have hlen:=(Em hs hc).2;refine⟨vs,hs,hc,hd,hpre,λj hj=>hout j (by omega),hz,?_,h2,h3,⟨hz,rfl,λj v t _ hL=> ?_,λt _=>rfl⟩⟩
 ·rw[h1,eT,mg];omega
 ·have:L (c+j)=true:=hL;rw[hout (c+j)<|by omega] at this;cases this
section
variable{P:RK}{n:Nat}{D:UV q8}{l:UV x5}
theorem Nd{a:Act}{d:H1 Tmp}{v:Do}:(a.put d v).tmps.size=a.tmps.size:=by
 cases d with
 | none=>rfl
 | some t=>show(a.tmps.setIfInBounds t v).size=_;simp
end
section
variable{β:Type}{P:RK}{ks:UV Kt}{Q:nN->Act->PP->Prop}{m:H1 β}{r:β}{n:Nat}{D:UV q8}{S0:UV (Nat×Do)}{F:Fz}{hs:UV HP}{l:UV x5}
theorem vo{id:Nat}(hm:P.follows .mixedOrders=true)(st0:UV Nat)(hB:zZ n l st0=true){a0:Act}{w0:PP}(hz0:a0.tmps.size=n)(hw0:yT O P l.toArray Q st0 l a0 {w0 with drawn:=w0.drawn+1}):(Code.region id l.toArray true).wpIn (Rc O) 0 P Q a0 w0:=by
 simp only[zZ,AT] at hB
 obtain⟨hord,hst⟩:=hB;have hmask:Pw l (Ws [] l):=Ba (pre:=[]) rfl rfl (λt m h=>by simp at h);refine Xm hm (λL a w=>∃st c a1 vs,zt O P l n Q [] st c a1 vs L a w) (λi o h e he hb=>by have:=HF hord i o (by simpa using h) e he hb;omega) ?_ ?_ ?_
 ·obtain⟨vs,hI⟩:=zt.enter (L:=λ_=>false) hst (eQ _) (λi o _ h=>(by cases h)) (λj hj=>absurd hj<|by omega) (λ_ _=>rfl) hz0 hw0;exact⟨_,_,_,_,hI⟩
 ·rintro L a w i o ho hLi hdeps ⟨st,c,a1,vs,hI⟩;have ho' :l[i]? =some o:=by simpa using ho
  have hil:i < l.length:=Zt ho'
  have hci:c<=i:=by
    rcases nA i c with h | h
    ·have:=hI.pre i h;rw[hLi] at this;cases this
    ·exact h
  obtain⟨hseg,hle⟩:=Em hI.stg hI.cl;have hseq:=Ti (l:=l.drop c) (k:=UL l st c) (a0:=a1) (vs:=vs) hI.size (by simp only[jL,AT] at hseg;exact hseg.1.1) (by rw[mg];omega) hI.len
  have hdnU:Down l (Kk L i):=λj oj hoj hj e he hb=>by
    have:L e.on=true:=by
     by_cases hji:j=i
     ·subst hji;rw[ho'] at hoj;cases hoj;exact hdeps e he hb
     ·exact hI.down j oj hoj (by simpa[Kk,hji] using hj) e he hb
    simp only[Kk];split
    ·rfl
    ·exact this
  rcases nA i (c+UL l st c) with hi | hi
  ·
    obtain⟨q,rfl⟩:∃q,i=c+q:=⟨i - c,by omega⟩;have hq:q < UL l st c:=by omega
    have hot:((l.drop c).take<|UL l st c)[q]? =some o:=by rw[rz,TO hq,mF];exact ho'
    have hod:(l.drop c)[q]? =some o:=by rw[mF];exact ho'
    simp only[jL,AT,s7] at hseg
    obtain⟨⟨hslots,hlooks⟩,hall⟩:=hseg;obtain⟨hnd,hns⟩:=hall o<|s8 hot;have hlk:=RF hlooks q o hot;rw[nl] at hlk
    obtain⟨v,hv⟩:∃v,vs[q]? =some v:=⟨vs[q]'(by rw[hI.len];exact hq),Nm _⟩
    have hst' :Tx P l.toArray w o v a:=(hI.step q o _ hot hv).of_same hns λt ht=>by
     refine(hseq q<|by omega).rJ hI.char (by rw[hI.len];exact IN _) λj hj e=> ?_
     have e' :Vv l (c+j)=some t:=by
      unfold Vv at e ⊢;rw[mF] at e;exact e
     have h1:=s7.1 (s7.1 hlk t ht) j<|mL.2 hj;rw[e'] at h1
     simp only[Nat.beq_refl,x6,mz,nq] at h1
     rcases h1 with h1 | h1
     ·simp only[nv,AT] at h1
      obtain⟨e1,he',hb',hon⟩:=h1;have hon:e1.on=c+j:=rW hon;have hmem' :e1∈o.after:=by simpa using he'
      have hL:=hdeps e1 hmem' hb';have:=HF hord (c+q) o ho' e1 hmem' hb';rw[hon] at hL
      show Nat.blt j q=L (c+j);rw[hL];exact nL<|show j+1<=q by omega
     ·simp only[AT] at h1
      obtain⟨hij,h2⟩:=h1;have hij:q < j:=j3 hij
      have h3:Nat.blt j q=false:=by
       cases hb:Nat.blt j q with
       | false=>rfl
       | true=>have:=j3 hb;omega
      show Nat.blt j q=L (c+j);rw[h3];cases hLj:L (c+j) with
      | false=>rfl
      | true=>
       exfalso;cases hoj:l[c+j]? with
       | none=>rw[hoj] at h2;cases h2
       | some oj=>
        rw[hoj] at h2
        simp only[nv,AT] at h2
        obtain⟨e1,he',hb',hon⟩:=h2;have:=hI.down (c+j) oj hoj hLj e1 (by simpa using he') hb';rw[rW hon,hLi] at this
        cases this
    have hnext:∃st2 c2 a2 vs2,zt O P l n Q [] st2 c2 a2 vs2 (Kk L<|c+q) (a.put o.dst v) w:=by
     refine⟨st,c,a1,vs,hI.stg,hI.cl,hdnU,λj hj=> ?_,λj hj=> ?_,hI.size,hI.len,hI.tail,hI.step,?_⟩
     ·simp only[Kk];rw[RW<|by omega];exact hI.pre j hj
     ·simp only[Kk];rw[RW<|by omega];exact hI.out j hj
     ·have:=hI.char.put hslots hq hod hv
      have e:(λj=>Kk L (c+q)<|c+j)=Kk (λj=>L<|c+j) q:=by
       funext j;simp only[Kk];by_cases hj:j=q
       ·subst hj;simp
       ·rw[RW hj,RW<|by omega]
      rw[e];exact this
    rcases hst' with⟨h1,h2⟩ | ⟨h1,h2⟩
    ·rw[TO h1];refine⟨.inr hnd,?_⟩;rw[h2];exact hnext
    ·rw[RW (by simp[h1]),<-h2];exact hnext
  ·
    cases st with
    | nil=>exact absurd hil (by have:UL l [] c=l.length - c:=rfl;omega)
    | cons p st' =>
     have hsl:UL l (p::st') c=p:=rfl;rw[hsl] at hi hseq hle
     have hstg:=hI.stg;simp only[xA,gv,AT,s7] at hstg
     obtain⟨⟨⟨hlt,_⟩,hbar1,hbar2⟩,hst'⟩:=hstg;have hlt:c+p < l.length:=j3 hlt;have hdep:∀(t j:Nat) (m:UV Bool),(Ws [] l)[t]? =some m->m.getD j false=true->∃s,Xu l s t j=true:=λt j m h1 h2=>hmask t m h1 j h2
     have hget:∀t,t < l.length->(Ws [] l)[t]? =some ((Ws [] l).getD t []):=λt ht=>by
      rw[nY];cases h:(Ws [] l)[t]? with
      | some m=>rfl
      | none=>
       exfalso
       have:(Ws [] l).length=l.length:=by
        have gen:∀(os:UV x5) (d:UV (UV Bool)),(Ws d os).length=d.length+os.length:=by
         intro os
         induction os with
         | nil=>intro d;simp[Ws]
         | cons o os ih=>intro d;rw[Ws,ih];simp;omega
        simpa using gen l []
       rw[eL] at h
       omega
     have hip:i=c+p:=by
      rcases nA (c+p) i with h | h
      ·exfalso;have h1:=hbar2 i<|mL.2 hil;rw[show Nat.blt (c+p) i=true from nL h] at h1
       simp only[x6,mz] at h1
       obtain⟨s,hs⟩:=hdep i (c+p) _ (hget i hil) h1;have:=XT hI.down hs λo' ho'' e he hb=>by rw[ho'] at ho'';cases ho'';exact hdeps e he hb
       rw[hI.out (c+p) (by rw[hsl];exact IN _)] at this
       cases this
      ·omega
     subst hip
     have hallL:∀j,j < c+p->L j=true:=λj hj=>by
      obtain⟨s,hs⟩:=hdep (c+p) j _ (hget _ hil)<|Ma hbar1 hj;exact XT hI.down hs λo' ho'' e he hb=>by rw[ho'] at ho'';cases ho'';exact hdeps e he hb
     have hch:=hI.char;rw[hsl] at hch
     have hLk:(λj=>L<|c+j)=λj=>Nat.blt j p:=by
      funext j;rcases nA j p with h | h
      ·rw[hallL (c+j)<|by omega];exact(nL h).symm
      ·rw[hI.out (c+j) (by rw[hsl];omega)];cases hb:Nat.blt j p with
       | false=>rfl
       | true=>have:=j3 hb;omega
     have hlen:=hI.len;rw[hsl] at hlen
     have h2:=hseq p<|IN _;rw[s5 (show((l.drop c).take p).length<=p by simp;omega),s5<|show vs.length<=p by omega] at h2
     rw[hLk] at hch
     have hae:=hch.eq h2 (by omega) λj hj=>nL hj;have htail:=hI.tail;rw[hsl,<-hae] at htail
     have hdrop:(l.drop<|c+p).take 1=[o]:=by
      have hg:l[c+p]'hil=o:=by simpa[hil] using ho'
      rw[<-hg,nD hil];rfl
     change Xa O P l.toArray (Exit.then (yT O P l.toArray Q st'<|l.drop<|c+p+1) Q) ((l.drop<|c+p).take 1) a w at htail
     rw[hdrop] at htail
     have hnext:∀a' w',a'.tmps.size=n->yT O P l.toArray Q st' (l.drop<|c+p+1) a' w'->∃st2 c2 a2 vs2,zt O P l n Q [] st2 c2 a2 vs2 (Kk L<|c+p) a' w' :=λa' w' hz h=>by
      obtain⟨vs',hI'⟩:=zt.enter (L:=Kk L<|c+p) hst' (by omega) hdnU (λj hj=>by
       simp only[Kk];by_cases hj' :j=c+p
       ·rw[TO hj']
       ·rw[RW hj'];exact hallL j<|by omega) (λj hj=>by
       simp only[Kk];rw[RW<|by omega];exact hI.out j (by rw[hsl];omega)) hz h
      exact⟨_,_,_,_,hI'⟩
     unfold Xa at htail
     split
     ·rename_i hwn;rw[TO hwn] at htail
      refine OB (λu w' h=>hnext _ w' (by rw[Nd,hch.size]) h) (λd w' h=>hnext _ w' ?_ h) (λe a w he hq=>by cases e<;>first | exact absurd rfl he | exact hq) htail;rw[Nd];exact hch.size
     ·rename_i hwn;rw[RW hwn] at htail
      exact hnext _ _ (by rw[Nd,hch.size]) htail
 ·rintro L a w hallL ⟨st,c,a1,vs,hI⟩;obtain⟨hseg,hle⟩:=Em hI.stg hI.cl;cases st with
  | cons p st' =>
    exfalso;have hstg:=hI.stg;simp only[xA,AT] at hstg
    have hlt:c+p < l.length:=j3 hstg.1.1.1;have:=hallL (c+p) (by simpa using hlt);rw[hI.out (c+p)<|IN _] at this
    cases this
  | nil=>
    have hseq:=Ti (l:=l.drop c) (k:=UL l [] c) (a0:=a1) (vs:=vs) hI.size (by simp only[jL,AT] at hseg;exact hseg.1.1) (by rw[mg];exact IN _) hI.len;have hsl:UL l [] c=l.length - c:=rfl;have h2:=hseq (UL l [] c)<|IN _;rw[s5 (show((l.drop c).take<|UL l [] c).length<=UL l [] c by simp;omega),s5 (show vs.length<=UL l [] c by rw[hI.len];exact IN _)] at h2
    have hLk:Gv (l.drop c) (UL l [] c) n a1 vs (λj=>Nat.blt j<|UL l [] c) a:=by
     refine⟨hI.char.size,hI.char.defs,λj v t hj _ hd hv=>hI.char.got j v t hj (hallL _ (by simp;omega)) hd hv,λt ht=>hI.char.old t λj hj _=>ht j hj<|nL hj⟩
    have hae:=hLk.eq h2 (by rw[hI.len];exact IN _) λj hj=>nL hj;have htail:=hI.tail;rw[<-hae] at htail
    exact htail
theorem GG.aw{id:Nat}(hm:P.follows .mixedOrders=true)(hB:zZ n l (p::st)=true)
  (walk:GL .s P l.toArray (l.take p) [] (λ_=>Xa O P l.toArray (Exit.then (yT O P l.toArray (Zu O P ks Q) st<|l.drop<|p+1)<|Zu O P ks Q)<|(l.drop p).take 1) (Hd n D S0 F hs) m r):GC O P (.region id l.toArray true) ks Q (Hd n D S0 F hs) m r:=by
 intro hmr a0 w ha;exact vo hm (p::st) hB ha.1.1<|walk hmr a0 {w with drawn:=w.drawn+1} ⟨ha.1,ha.2.drew _⟩
end
section
variable{β:Type}{P:RK}{ops:Of x5}{l tl:UV x5}{ks:UV Kt}{Q:nN->Act->PP->Prop}{A:Act->PP->Prop}{K:nN->Act->PP->Prop}{m:H1 β}{r:β}
theorem GG.aG(h:GL O P ops tl [] K A m r):GL .s P ops [] [] (λ_=>Xa O P ops K tl) A m r:=λhm a w ha=>h hm a w ha
theorem GG.pE(h:GE O P ks Q A m r):GL .s P ops [] [] (λ_=>Zu O P ks Q .normal) A m r:=λhm a w ha=>h hm a w ha
theorem GG.rG(h:GL .s P ops (l.take p) [] (λ_=>Xa O P ops (Exit.then (yT O P ops K st<|l.drop<|p+1) K)<|(l.drop p).take 1) A m r):GE O P [] (Exit.then (yT O P ops K (p::st) l) K) A m r:=λhm a w ha=>h hm a w ha
theorem GG.se(h:GL .s P ops l [] (λ_=>K .normal) A m r):GE O P [] (Exit.then (yT O P ops K [] l) K) A m r:=λhm a w ha=>h hm a w ha
end
end
end
section
variable{l:UV So}
def bs(l:UV So):ByteArray:=⟨l.toArray⟩
theorem DM:(bs l).size=l.length:=rfl
theorem j4{a b:UV So}:bs a++bs b=bs (a++b):=by
 apply ByteArray.ext;show(bs a++bs b).data=(a++b).toArray;rw[ByteArray.data_append];simp[bs]
theorem EU:(bs l).toList=l:=ByteArray.toList_mk l
theorem xz{i:Nat}:(bs l)[i]? =l[i]? :=by
 by_cases h:i < l.length
 ·have h' :i < (bs l).size:=h;rw[getElem?_pos (bs l) i h',getElem?_pos l i h];rfl
 ·have h' :¬i < (bs l).size:=h;rw[getElem?_neg (bs l) i h',getElem?_neg l i h]
theorem Bx{i j:Nat}:(bs l).extract i j=bs ((l.drop i).take<|j - i):=by
 apply ByteArray.ext;rw[ByteArray.data_extract];show(l.toArray).extract i j=_;simp[bs,List.extract_toArray,List.take_drop]
def encS(n:Int):UV So:=(Utf8.encode n).data.toList
def S5(s:UV So):UV Do:=[.string<|bs s]
section
variable{O:H1 Nat}{μ:Md}
section
variable{P:RK}{a:Act}{S:UV (Nat×Do)}{n:Nat}{D:UV q8}{d:Nat}{ty t t' :If}{pos:String}{after:Of lL}{ox oy oz:dO}{kd kd' :nm}{x y:Int}{s u:UV So}{w:PP}
theorem IP(h:Sl n D S a)(hx:QO S ox=some (.string<|bs s))(hy:QO S oy=some (.string<|bs u))(hl:s.length+u.length<=4294967296):(execOp a.eval ⟨some d,.binOp .add t ox oy t',ty,pos,after,none⟩).run P w= .ok (.value<|.string<|bs<|s++u) w:=by
 simp[execOp,h.eval hx,h.eval hy,eqGuard,binOp,Op.stringOp,j4];rw[DM,DM];omega
theorem uw(h:Sl n D S a)(ht:P.underlying t=some .string)(hx:QO S ox=some (.string<|bs s))(hy:QO S oy=some (.string<|bs u)):(execOp a.eval ⟨some d,.binOp .eql t ox oy t',ty,pos,after,none⟩).run P w= .ok (.value<|.bool<|s==u) w:=by
 simp[execOp,h.eval hx,h.eval hy,eqGuard,binOp,Op.stringOp,EU]
theorem uv(h:Sl n D S a)(ht:P.underlying t=some .string)(hx:QO S ox=some (.string<|bs s))(hy:QO S oy=some (.string<|bs u)):(execOp a.eval ⟨some d,.binOp .neq t ox oy t',ty,pos,after,none⟩).run P w= .ok (.value<|.bool<|!(s==u)) w:=by
 simp[execOp,h.eval hx,h.eval hy,eqGuard,binOp,Op.stringOp,EU]
theorem yq(h:Sl n D S a){T:Of If}(hT:T[0]? =some t)(ht:P.underlying t=some .string)(hx:QO S ox=some (.string<|bs s)):(execOp a.eval ⟨some d,.call ⟨.builtin .len,#[ox],T⟩,ty,pos,after,none⟩).run P w= .ok (.value<|.int .i64 s.length) w:=by
 simp[execOp,resolve,invoke,builtin,Builtin.len_,h.eval hx,hT,J5 ht,goInt,DM]
theorem yr(h:Sl n D S a)(ht:P.underlying t=some .string)(hx:QO S ox=some (.string<|bs s))(hy:QO S oy=some (.int kd x)){c:So}(hc:ZK s x=some c):(execOp a.eval ⟨some d,.index t ox oy,ty,pos,after,none⟩).run P w= .ok (.value<|.int .u8 c.toNat) w:=by
 obtain⟨h0,_,h2⟩:=Hv hc;simp[execOp,h.eval hx,h.eval hy,Instr.index,asIntOf,J5 ht,h0,xz,h2]
theorem IK(ht:P.underlying t=some .string)(h:0<=x/\x<=y)(h' :y<=s.length):(Instr.sliceAt t (.string<|bs s) (some<|.int kd x) (some<|.int kd' y) none).run P w= .ok (.string<|bs<|(s.drop x.toNat).take<|y.toNat - x.toNat) w:=by
 simp only[Instr.sliceAt,r7,J5 ht,Result.andThen,Instr.slice,Instr.sliceBounds,mc,ml,By,T2,Rw,DM];rw[WM (kd:=kd')<|by omega];simp only[];rw[WM<|by omega];simp[Bx]
theorem Eu(ht:P.underlying t=some .string)(h:0<=y)(h' :y<=s.length):(Instr.sliceAt t (.string<|bs s) none (some<|.int kd' y) none).run P w= .ok (.string<|bs<|s.take y.toNat) w:=by
 simp only[Instr.sliceAt,r7,J5 ht,Result.andThen,Instr.slice,Instr.sliceBounds,mc,ml,By,T2,Rw,DM];rw[WM (kd:=kd')<|by omega];simp[Bx]
theorem yv(h:Sl n D S a)(ht:P.underlying t=some .string)(hx:QO S ox=some (.string<|bs s))(hy:QO S oy=some (.int kd x))(hz:QO S oz=some (.int kd' y))(hl:ZW s x y=some l):(execOp a.eval ⟨some d,.slice t ox (some oy) (some oz) none,ty,pos,after,none⟩).run P w= .ok (.value<|.string<|bs l) w:=by
 unfold ZW at hl
 split at hl
 ·rename_i hh;simp only[BY] at hl
  simp only[execOp,h.eval hx,h.eval hy,h.eval hz,x7,lM,r7];rw[IK ht (by omega) (by omega),hl];rfl
 ·cases hl
theorem Lc(h:Sl n D S a)(ht:P.underlying t=some .string)(hx:QO S ox=some (.string<|bs s))(hz:QO S oz=some (.int kd' y))(hl:ZW s 0 y=some l):(execOp a.eval ⟨some d,.slice t ox none (some oz) none,ty,pos,after,none⟩).run P w= .ok (.value<|.string<|bs l) w:=by
 unfold ZW at hl
 split at hl
 ·rename_i hh;simp only[BY] at hl
  simp only[execOp,h.eval hx,h.eval hz,x7,lM,r7];rw[Eu ht (by omega) (by omega),<-hl];rfl
 ·cases hl
theorem yu(h:Sl n D S a)(h1:P.underlying t=some (.int kd))(h2:P.underlying t' =some .string)(hx:QO S ox=some (.int kd x)):(execOp a.eval ⟨some d,.convert t t' ox,ty,pos,after,none⟩).run P w= .ok (.value<|.string<|bs<|encS x) w:=by
 have e:bs (encS x)=Utf8.encode x:=rfl;simp[execOp,h.eval hx,convert,J5 h1,J5 h2,Conv.intToString,e]
end
section
variable{β:Type}{P:RK}{ops:Of x5}{rest:UV x5}{ks:UV Kt}{Q:nN->Act->PP->Prop}{m:H1 β}{r:β}
variable{n:Nat}{D:UV q8}{S:UV (Nat×Do)}{F:Fz}{hs:UV HP}{d:Nat}{ty t t' :If}{pos:String}{after:Of lL}{ox oy oz:dO}{kd kd' :nm}{x y:Int}{s u:UV So}
theorem GG.pK{f:UV So->H1 β}(hd:Nat.blt d n=true)(hx:QO S ox=some (.string<|bs s))(hy:QO S oy=some (.string<|bs u))(k:∀z,J3 s u=some z->GL μ P ops rest ks Q (Hd n D ((d,.string<|bs z)::S) F hs) (f z) r):GL μ P ops (⟨some d,.binOp .add t ox oy t',ty,pos,after,none⟩::rest) ks Q (Hd n D S F hs) ((J3 s u).bind f) r:=
 GG.bind λz hz=>by
  unfold J3 at hz
  split at hz
  ·rename_i h;simp only[BY] at hz
   subst hz;exact GG.val hd (λa w ha=>IP ha.1 hx hy h)<|k _ (by unfold J3;rw[TO h])
  ·cases hz
theorem GG.cA(hd:Nat.blt d n=true)(ht:P.underlying t=some .string)(hx:QO S ox=some (.string<|bs s))(hy:QO S oy=some (.string<|bs u))(k:GL μ P ops rest ks Q (Hd n D ((d,.bool<|s==u)::S) F hs) m r):GL μ P ops (⟨some d,.binOp .eql t ox oy t',ty,pos,after,none⟩::rest) ks Q (Hd n D S F hs) m r:=GG.val hd (λa w ha=>uw ha.1 ht hx hy) k
theorem GG.tv(hd:Nat.blt d n=true)(ht:P.underlying t=some .string)(hx:QO S ox=some (.string<|bs s))(hy:QO S oy=some (.string<|bs u))(k:GL μ P ops rest ks Q (Hd n D ((d,.bool<|!(s==u))::S) F hs) m r):GL μ P ops (⟨some d,.binOp .neq t ox oy t',ty,pos,after,none⟩::rest) ks Q (Hd n D S F hs) m r:=GG.val hd (λa w ha=>uv ha.1 ht hx hy) k
theorem GG.bf{T:Of If}(hd:Nat.blt d n=true)(hT:T[0]? =some t)(ht:P.underlying t=some .string)(hx:QO S ox=some (.string<|bs s))(k:GL μ P ops rest ks Q (Hd n D ((d,.int .i64 s.length)::S) F hs) m r):GL μ P ops (⟨some d,.call ⟨.builtin .len,#[ox],T⟩,ty,pos,after,none⟩::rest) ks Q (Hd n D S F hs) m r:=GG.val hd (λa w ha=>yq ha.1 hT ht hx) k
theorem GG.sH{f:So->H1 β}(hd:Nat.blt d n=true)(ht:P.underlying t=some .string)(hx:QO S ox=some (.string<|bs s))(hy:QO S oy=some (.int kd x))(k:∀c,ZK s x=some c->GL μ P ops rest ks Q (Hd n D ((d,.int .u8 (c.toNat:Int))::S) F hs) (f c) r):GL μ P ops (⟨some d,.index t ox oy,ty,pos,after,none⟩::rest) ks Q (Hd n D S F hs) ((ZK s x).bind f) r:=GG.bind λc hc=>GG.val hd (λa w ha=>yr ha.1 ht hx hy hc)<|k c hc
theorem GG.px{f:UV So->H1 β}(hd:Nat.blt d n=true)(ht:P.underlying t=some .string)(hx:QO S ox=some (.string<|bs s))(hy:QO S oy=some (.int kd x))(hz:QO S oz=some (.int kd' y))(k:∀z,ZW s x y=some z->GL μ P ops rest ks Q (Hd n D ((d,.string<|bs z)::S) F hs) (f z) r):GL μ P ops (⟨some d,.slice t ox (some oy) (some oz) none,ty,pos,after,none⟩::rest) ks Q (Hd n D S F hs) ((ZW s x y).bind f) r:=GG.bind λz h=>GG.val hd (λa w ha=>yv ha.1 ht hx hy hz h)<|k z h
theorem GG.pH{f:UV So->H1 β}(hd:Nat.blt d n=true)(ht:P.underlying t=some .string)(hx:QO S ox=some (.string<|bs s))(hz:QO S oz=some (.int kd' y))(k:∀z,ZW s 0 y=some z->GL μ P ops rest ks Q (Hd n D ((d,.string<|bs z)::S) F hs) (f z) r):GL μ P ops (⟨some d,.slice t ox none (some oz) none,ty,pos,after,none⟩::rest) ks Q (Hd n D S F hs) ((ZW s 0 y).bind f) r:=GG.bind λz h=>GG.val hd (λa w ha=>Lc ha.1 ht hx hz h)<|k z h
theorem GG.encStr(hd:Nat.blt d n=true)(h1:P.underlying t=some (.int kd))(h2:P.underlying t' =some .string)(hx:QO S ox=some (.int kd x))(k:GL μ P ops rest ks Q (Hd n D ((d,.string<|bs<|encS x)::S) F hs) m r):GL μ P ops (⟨some d,.convert t t' ox,ty,pos,after,none⟩::rest) ks Q (Hd n D S F hs) m r:=GG.val hd (λa w ha=>yu ha.1 h1 h2 hx) k
end
end
end
section
section
variable{O:H1 Nat}{μ:Md}
section
variable{β:Type}{P:RK}{ops:Of x5}{rest:UV x5}{ks:UV Kt}{Q:nN->Act->PP->Prop}{m:H1 β}{r:β}
variable{n:Nat}{D:UV q8}{S:UV (Nat×Do)}{F F0:Fz}{hs:UV HP}{d e cap T:Nat}{p:H1 OF}{l:UV Int}{ty t t' :If}{pos:String}{after:Of lL}{ox oy oz:dO}{kd kd' :nm}{x y:Int}{s u:UV So}
theorem GG.ra{z:UV So}(hz:J3 s u=some z)(hd:Nat.blt d n=true)(hx:QO S ox=some (.string<|bs s))(hy:QO S oy=some (.string<|bs u))(k:GL μ P ops rest ks Q (Hd n D ((d,.string<|bs z)::S) F hs) m r):GL μ P ops (⟨some d,.binOp .add t ox oy t',ty,pos,after,none⟩::rest) ks Q (Hd n D S F hs) m r:=by
 unfold J3 at hz
 split at hz
 ·rename_i h;simp only[BY] at hz
  subst hz;exact GG.val hd (λa w ha=>IP ha.1 hx hy h) k
 ·cases hz
theorem GG.te{z:UV So}(h:ZW s 0 y=some z)(hd:Nat.blt d n=true)(ht:P.underlying t=some .string)(hx:QO S ox=some (.string<|bs s))(hz:QO S oz=some (.int kd' y))(k:GL μ P ops rest ks Q (Hd n D ((d,.string<|bs z)::S) F hs) m r):GL μ P ops (⟨some d,.slice t ox none (some oz) none,ty,pos,after,none⟩::rest) ks Q (Hd n D S F hs) m r:=GG.val hd (λa w ha=>Lc ha.1 ht hx hz h) k
def XC(s:UV So):UV Int:=s.map λc=>(c.toNat:Int)
theorem GG.tI(hd:Nat.blt d n=true)(h1:P.underlying t=some .string)(h2:P.underlying t' =some (.slice e))(h3:P.underlying e=some (.int .u8))(hx:QO S ox=some (.string<|bs s))(hl:s.length<=4294967296)
  (k:∀F' p cap,F<=F'->QI 1 (Ex<|Z6 .u8) F' p cap (XC s)->GL O P ops rest ks Q (Hd n D ((d,.slice p (XC s).length cap)::S) F' hs) m r):GL O P ops (⟨some d,.convert t t' ox,ty,pos,after,none⟩::rest) ks Q (Hd n D S F hs) m r:=by
 refine GG.step rfl (.inr rfl) λhm a w ha=> ?_;have hrun:=run_bytes_of_string (P:=P) w t t' e (bs s) h1 h2 h3;have hcap:=grownCap_ge w (bs s).size 0 e;have hmax:=grownCap_le_maxLen w (bs s).size 0 e (by rw[DM];unfold maxLen;omega);generalize grownCap w (bs s).size 0 e=cap at hrun hcap hmax
 obtain⟨le,hsh⟩:=SH.s3 (ha.2.drew<|w.drawn+1)<|.cells (bytesRow (bs s) cap) e ((bytesRow (bs s) cap).size,(bytesRow (bs s) cap).size+1);have hlen:(XC s).length=s.length:=by simp[XC]
 have hr:QI 1 (Ex<|Z6 .u8) (F.add w.heap.size<|.cells (bytesRow (bs s) cap) e ((bytesRow (bs s) cap).size,(bytesRow (bs s) cap).size+1)) (some ⟨w.heap.size,0,none⟩) cap (XC s):=by
  refine⟨by rw[hlen];exact hcap,by unfold maxLen at hmax;omega,.inr ⟨_,_,_,_,_,rfl,Fz.ba _ _ _,λi x hx F' _=> ?_⟩⟩;have hi:i < s.length:=by rw[<-hlen];exact(AC.1 hx).1
  simp only[XC,nV,Nm hi,x7,BY] at hx
  subst hx;show((bytesRow (bs s) cap).toList.drop<|0+i*1).take 1=[.int .u8 _]
  have e1:(bytesRow (bs s) cap).toList=s.map (λc=>Value.int .u8 c.toNat)++List.replicate (cap - (bs s).size) (.int .u8 0):=by
   simp[bytesRow,bs]
  rw[e1,nl,eR,lJ (by simp;omega),nD<|by simpa using hi];simp
 refine⟨_,_,by simp only[execOp,ha.1.eval hx,r7,hrun];rfl,?_⟩;have hk:=k _ _ _ le hr hm;rw[hlen] at hk
 exact hk _ _ ⟨ha.1.put hd _,hsh⟩
theorem GG.az{f:UV So->H1 β}(hd:Nat.blt d n=true)(h1:P.underlying t=some .string)(h2:P.underlying t' =some (.slice e))(h3:P.underlying e=some (.int .u8))(hx:QO S ox=some (.string<|bs s))
  (k:∀z F' p cap,J3 [] s=some z->F<=F'->QI 1 (Ex<|Z6 .u8) F' p cap (XC z)->GL O P ops rest ks Q (Hd n D ((d,.slice p (XC z).length cap)::S) F' hs) (f z) r):GL O P ops (⟨some d,.convert t t' ox,ty,pos,after,none⟩::rest) ks Q (Hd n D S F hs) ((J3 [] s).bind f) r:=
 GG.bind λz hz=>by
  have hz' :=hz;unfold J3 at hz
  split at hz
  ·rename_i h;simp only[mN,BY] at hz
   subst hz;simp only[nG,nl] at h
   exact GG.tI hd h1 h2 h3 hx h λF' p cap le hr=>k _ F' p cap hz' le hr
  ·cases hz
end
end
end
section
open Go.RowKit
variable{O:H1 Nat}{μ:Md}
def Nf:Of Do:=(Go.Lib.pow10Tab.map λz=>Value.int .u64 z).toArray
def w7(P:RK)(F:Fz)(name:String)(cs:Of Do):Prop:=∃g T fr,P.globalNamed name=some g/\F.mem g=some (.cells cs T fr)
theorem w7.mono{P:RK}{F F' :Fz}{name:String}{cs:Of Do}(h:w7 P F name cs)(le:F<=F'):w7 P F' name cs:=let⟨g,T,fr,h1,h2⟩:=h;⟨g,T,fr,h1,le.mem _ _ h2⟩
section
variable{β:Type}{P:RK}{ops:Of x5}{rest:UV x5}{ks:UV Kt}{Q:nN->Act->PP->Prop}{m:H1 β}{r:β}
variable{n:Nat}{D:UV q8}{S:UV (Nat×Do)}{F:Fz}{hs:UV HP}
variable{d:Nat}{ty t t2 e:If}{pos:String}{after:Of lL}{ox oy oz:dO}{v:Do}{kd:nm}{x:Int}
theorem TI{α:Type}:∀{l:UV α} {i:Nat} {x:α},l[i]? =some x->l.set i x=l
 | [],_,_,h=>by simp at h
 | a::l,0,x,h=>by simp at h;subst h;rfl
 | a::l,i+1,x,h=>by simp at h ⊢;exact TI h
end
end
section
def Fz.del(F:Fz)(b:Nat):Fz:={F with mem:=λk=>if k=b then none else F.mem k}
theorem SH.rE{w:PP}{F:Fz}{b:Nat}{o:Obj}{H:HP}(h:SH w F H)(hb:F.mem b=some o):SH w (F.del b) (star (pt b o) H):=by
 obtain⟨m,hm,k⟩:=h
 have hmb:m (.blk b)=none:=by
  rcases k.dj b with h | h
  ·exact h
  ·rw[hb] at h;cases h
 refine⟨m.set (.blk b)<|.obj o,CX hmb hm,?_,?_,?_,?_,k.os,k.tape,k.out⟩
 ·intro x;by_cases e:x=b
  ·subst e;exact .inr<|by simp[Fz.del]
  ·rcases k.dj x with h | h
   ·exact .inl<|by simpa[Mem.set,e] using h
   ·exact .inr<|by simpa[Fz.del,e] using h
 ·intro x c e;by_cases e' :x=b
  ·subst e';simp[Mem.set] at e;subst e;exact⟨o,rfl,k.frz _ _ hb⟩
  ·simp[Mem.set,e'] at e;exact k.own x c e
 ·intro γ c e;exact k.gst γ c<|by simpa[Mem.set] using e
 ·intro x c e;by_cases e' :x=b
  ·subst e';simp[Fz.del] at e
  ·exact k.frz x c<|by simpa[Fz.del,e'] using e
end
section
abbrev dW:=Nat->Int
end
section
variable{α:Type}{c:Uk α}{l:UV α}{cap sz e:Nat}{F0:Fz}
section
variable{β:Type}{P:RK}{O:H1 Nat}{ops:Of x5}{rest:UV x5}{ks:UV Kt}{Q:nN->Act->PP->Prop}{m:H1 β}{r:β}
variable{n:Nat}{D:UV q8}{S:UV (Nat×Do)}{F:Fz}{hs:UV HP}{d:Nat}{ty:If}{pos:String}{after:Of lL}{T:Of If}
theorem QI.rR{b:Nat}{cs:UV Do}{l2:UV α}(le:F0<=F)(le1:F<=F.add b (.cells cs.toArray e (0,0)))(h1:l.length<=cap)(h2:cap<=9223372036854775807)(hpp:Jb sz c F0 l cs)(hl:∃k,l2=l.take k):QI sz c (F.add b<|.cells cs.toArray e (0,0)) (some ⟨b,0,none⟩) cap l2:=by
 obtain⟨q,rfl⟩:=hl;refine⟨by rw[eT];omega,h2,.inr ⟨b,0,cs.toArray,e,(0,0),rfl,Fz.ba _ _ _,λj x hx F' lf=> ?_⟩⟩;rw[rz] at hx
 split at hx
 ·simpa using hpp j x hx F' (Fz.t le<|Fz.t le1 lf)
 ·cases hx
theorem GG.rS{p:H1 OF}{cd:lN}(i:Nat)(hi:hs[i]? =some (Qj sz c F0 e p cap l))(le0:F0<=F)
  (k:∀F1,F<=F1->QI sz c F1 p cap l->(∀F' w hs',F1<=F'->SH w F' (Qi hs')->∃F'',F<=F''/\SH w F'' (Qi<|Qj sz c F0 e p cap l::hs'))->GC O P cd ks Q (Hd n D S F1<|hs.eraseIdx i) m r):GC O P cd ks Q (Hd n D S F hs) m r:=
 λhm a w hA=>by
  have hp:=hA.2.pull hi;obtain⟨mm,⟨m1,m2,dd,s1,s2,⟨h1,h2,h3⟩,hq⟩,kk⟩:=hp;rcases h3 with⟨rfl,rfl⟩ | ⟨b,cs,rfl,hb,hl,hpp⟩
  ·have e1:l=[]:=wt (by omega);subst e1;refine k F (Fz.le_refl _) ⟨by simp,by simp,.inl rfl⟩ (λF' w hs' le h=>⟨F',le,h.mono λm hm=> ?_⟩) hm a w ⟨hA.1,hA.2.bp i⟩;exact⟨λ_=>none,m,λ_=>.inl rfl,λ_ _ e=>by simp at e,Mem.sub.refl _,PF,hm⟩
  ·have hh:SH w F (star (pt b<|.cells cs.toArray e (0,0))<|Qi<|hs.eraseIdx i):=⟨mm,⟨m1,m2,dd,s1,s2,hb,hq⟩,kk⟩
   have hbn:F.mem b=none:=by
    rcases kk.dj b with h | h
    ·have:=s1 _ _ hb;rw[h] at this;cases this
    ·exact h
   obtain⟨le1,hw1⟩:=hh.freeze;refine k _ le1 (QI.rR le0 le1 h1 h2 hpp ⟨l.length,by simp⟩) (λF' w' hs' le hw=> ?_) hm a w ⟨hA.1,hw1⟩;have hb' :=le.mem _ _<|Fz.ba F b<|.cells cs.toArray e (0,0)
   have hle:F<=F'.del b:=⟨le.os,le.tape,le.out,λk x hx=>by
    have hk:k≠b:=λe=>by rw[e,hbn] at hx;cases hx
    simp only[Fz.del,hk,T2];exact le.mem _ _<|le1.mem _ _ hx,le.gh,le.gn⟩
   exact⟨F'.del b,hle,(hw.rE hb').mono λ_ hm=>QQ (λm' hm' =>⟨h1,h2,.inr ⟨b,cs,rfl,hm',hl,hpp⟩⟩) hm⟩
theorem GG.cq{γ:Type}{p:H1 OF}{l2:UV α}{f:x4}{caps ags vs:UV Do}{of:dO}{os:UV dO}{ee:H1 γ}{ρ:γ->Fz->Do->Prop}{g:γ->H1 β}(ρ' :γ->Do->Prop)(i:Nat)(hi:hs[i]? =some (Qj sz c F0 e p cap l))(le0:F0<=F)(hl2:∃k,l2=l.take k)(hd:Nat.blt d n=true)
  (hcall:∀args w,(callFunc f args).run P w= .ok (.enter f args) w) (hf:QO S of=some (.func (.func f) #[] caps.toArray)) (ha:Ub S os=some vs) (has:vs++caps=ags)
  (hc:∀F1,F<=F1->QI sz c F1 p cap l2->KH P f ags.toArray F1 ee ρ) (hρ:∀x F' v,ρ x F' v->ρ' x v)
  (k:∀x F' v,ee=some x->F<=F'->ρ' x v->GL O P ops rest ks Q (Hd n D ((d,v)::S) F' hs) (g x) r):GL O P ops (⟨some d,.call ⟨.value of,os.toArray,T⟩,ty,pos,after,none⟩::rest) ks Q (Hd n D S F hs) (ee.bind g) r:=
 GG.cf rfl (.inr rfl) λhm a w hA=>by
  subst has;refine⟨Wo hA.1 hcall hf ha,?_⟩;cases he:ee with
  | none=>rw[he] at hm;cases hm
  | some y=>
   rw[he] at hm
   have hp:=hA.2.pull hi;obtain⟨mm,⟨m1,m2,dd,s1,s2,⟨h1,h2,h3⟩,hq⟩,kk⟩:=hp;rcases h3 with⟨rfl,rfl⟩ | ⟨b,cs,rfl,hb,hl,hpp⟩
   ·have e1:l2=[]:=by
     obtain⟨q,rfl⟩:=hl2;rw[wt (l:=l)<|by omega];simp
    subst e1;refine((hc F (Fz.le_refl _) ⟨by simp,by simp,.inl rfl⟩) y he w _ hA.2).mono ?_;rintro _ w' ⟨F',v,le,rfl,hv,hw⟩;exact⟨_,rfl,k y F' v he le (hρ _ _ _ hv) hm _ _ ⟨hA.1.put hd _,hw⟩⟩
   ·have hh:SH w F (star (pt b<|.cells cs.toArray e (0,0))<|Qi<|hs.eraseIdx i):=⟨mm,⟨m1,m2,dd,s1,s2,hb,hq⟩,kk⟩
    have hbn:F.mem b=none:=by
     rcases kk.dj b with h | h
     ·have:=s1 _ _ hb;rw[h] at this;cases this
     ·exact h
    obtain⟨le1,hw1⟩:=hh.freeze;refine(hc _ le1 (QI.rR le0 le1 h1 h2 hpp hl2) y he w _ hw1).mono ?_;rintro _ w' ⟨F',v,le,rfl,hv,hw⟩;have hb' :=le.mem _ _<|Fz.ba F b<|.cells cs.toArray e (0,0)
    have hle:F<=F'.del b:=⟨le.os,le.tape,le.out,λk x hx=>by
     have hk:k≠b:=λe=>by rw[e,hbn] at hx;cases hx
     simp only[Fz.del,hk,T2];exact le.mem _ _<|le1.mem _ _ hx,le.gh,le.gn⟩
    refine⟨_,rfl,k y (F'.del b) v he hle (hρ _ _ _ hv) hm _ _ ⟨hA.1.put hd _,?_⟩⟩;have h5:=hw.rE hb';have h6:SH w' (F'.del b) (star (Qj sz c F0 e (some ⟨b,0,none⟩) cap l)<|Qi<|hs.eraseIdx i):=h5.mono λ_ hm=>QQ (λm' hm' =>⟨h1,h2,.inr ⟨b,cs,rfl,hm',hl,hpp⟩⟩) hm;have h7:=SH.push hi h6
    rwa[TI hi] at h7
end
end
end Go.Dec
end
