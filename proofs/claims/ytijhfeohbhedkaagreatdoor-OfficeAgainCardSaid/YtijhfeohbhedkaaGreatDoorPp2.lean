/- For OfficeAgain. -/
import Derived.Test.YtijhfeohbhedkaaGreatDoorPp1
import Derived.Shelf.SlIterI.Nil
import Derived.Scope
import Derived.Laws.Strings
import Derived.Laws.BytesArg
import Derived.Laws.IdiomStrings
import Derived.Laws.AppendOwn
import Derived.Lib.AppendIntMem
import Derived.Lib.BufferKept
noncomputable section
namespace Go.Dec
abbrev So:=@UInt8
abbrev s7:=@List.mem_of_getElem?
abbrev pe:=@List.getD_eq_getElem?_getD
abbrev mL:=@Nat.zero_le
abbrev mM:=@Nat.mul_one
abbrev lZ:=@List.getElem?_zip_eq_some
abbrev eF:=@List.mem_append_left
end Go.Dec
namespace Go.Dec
section
variable{V:Type}{rv:Fz->V->Do->Prop}{P:PP}{k:IF}{F:Fz}{w:TO}
variable{O:H1 Nat}
open Go.Maps Go.WideElems Go.RowKit Go.MapKept Go.WideShapes
theorem SH.below{w':TO}{H:HP}(h:SH w F H)(hb:Below w.heap.size w w'):SH w' F H:=by
 obtain⟨m,a,k⟩:=h;refine⟨m,a,k.dj,λb c e=> ?_,k.gst,λb o e=> ?_,hb.os.trans k.os,hb.tape.trans k.tape,hb.output.trans k.out⟩
 ·obtain⟨o,e1,e2⟩:=k.own b c e;exact⟨o,e1,(hb.block b<|lt_of_heap e2).trans e2⟩
 ·have:=k.frz b o e;exact(hb.block b<|lt_of_heap this).trans this
theorem SH.sb{w':TO}{H:HP}{g:Nat}{o:Obj}(h:SH w F H)(hb:Below w.heap.size w w')(hg:w.heap.size<=g)(ho:w'.heap[g]? =some o):F<=F.add g o/\SH w' (F.add g o) H:=by
 have h' :=h.below hb;obtain⟨m,a,k⟩:=h;obtain⟨m',a',k'⟩:=h'
 have h0:F.mem g=none:=by
  cases e:F.mem g with
  | none=>rfl
  | some x=>have:=lt_of_heap<|k.frz g x e;omega
 have h1:m (.blk g)=none:=by
  cases e:m (.blk g) with
  | none=>rfl
  | some x=>obtain⟨o',_,e2⟩:=k.own g x e;have:=lt_of_heap e2;omega
 refine⟨Fz.aA h0,m,a,λb=> ?_,λb c e=> ?_,k.gst,λb x e=> ?_,k'.os,k'.tape,k'.out⟩
 ·show m (.blk b)=none∨Pv F.mem g o b=none;by_cases e:b=g
  ·subst e;exact .inl h1
  ·rcases k.dj b with h | h
   ·exact .inl h
   ·exact .inr<|by simpa[Pv,e] using h
 ·obtain⟨o',e1,e2⟩:=k.own b c e;exact⟨o',e1,(hb.block b<|lt_of_heap e2).trans e2⟩
 ·by_cases e' :b=g
  ·subst e';have:(F.add b o).mem b=some o:=Fz.fx F b o;rw[this] at e;cases e;exact ho
  ·have:F.mem b=some x:=by simpa[Fz.add,Pv,e'] using e
   exact(hb.block b<|lt_of_heap<|k.frz b x this).trans<|k.frz b x this
def GF(l:UV (Int×V)):H1 (UV Int):=if l.all (λx=>decide<|-9223372036854775808<=x.1/\x.1<=9223372036854775807)=true/\l.length<=1000000 then some ((l.map Prod.fst).mergeSort λa b=>decide<|a<=b) else none
abbrev A7:Int->Do:=λx=>.int .i64 x
abbrev Oi:Do->H1 (DataW Unit×UV MemPlace):=λ_=>some (.nil,[])
theorem keyOf_int(hk:P.underlying k=some (.int .i64)){x:Int}(h: -9223372036854775808<=x/\x<=9223372036854775807):keyOf P k (A7 x)=some (.int .i64 x):=by
 have hw:(Lit.int .i64 x).wf=true:=by
  simp[Lit.wf,IntKind.min,IntKind.max,IntKind.bits,IntKind.signed];omega
 simp[keyOf,hk,mapKey,hw]
theorem wQ(hk:P.underlying k=some (.int .i64)){x:Int}{e:pY}(he:e.key=A7 x)(h: -9223372036854775808<=x/\x<=9223372036854775807):rd P k Oi e=some (.int .i64 x,.nil):=by
 unfold rd;rw[he,keyOf_int hk h];rfl
theorem UZ.keys(hk:P.underlying k=some (.int .i64)):∀{es:UV pY} {l:UV (Int×V)},UZ A7 rv F es l->(∀x∈l,(-9223372036854775808<=x.1/\x.1<=9223372036854775807))->(es.map<|rg P k Oi).map (λp=>intOf p.1)=l.map Prod.fst/\(∀e∈es,∃y,rd P k Oi e=some y)/\es.map (·.key)=l.map (λx=>A7 x.1)
 | [],[],_,_=>⟨rfl,by simp,rfl⟩
 | e::es,x::l,⟨h1,_,h3⟩,hb=>by
  obtain⟨g1,g2,g3⟩:=h3.keys hk λy hy=>hb y<|bY _ hy;have h0:=wQ hk h1 (hb x<|by simp);refine⟨?_,?_,?_⟩
  ·simp only[s6,g1,rg_of h0];rfl
  ·intro e' he';rcases y1.1 he' with rfl | h
   ·exact⟨_,h0⟩
   ·exact g2 _ h
  ·simp only[s6,g3,h1]
theorem vy(hk:P.underlying k=some (.int .i64)){b clock:Nat}{es:OF pY}{l' l:UV (Int×V)}(hb:w.heap[b]? =some (.map es clock))(hr:UZ A7 rv F es.toList l')(hbi:YI es.toList clock)(hp:l'.Perm l)(hn:(l.map Prod.fst).Nodup)
  (hall:l.all (λx=>decide<|-9223372036854775808<=x.1/\x.1<=9223372036854775807)=true) (hlen:l.length<=1000000):∃D:DataW Unit,w.ownsMap P k Oi b es.size D/\(intKeys D).Perm (l.map Prod.fst)/\Maps.size D=l.length:=by
 have hb' :∀x∈l',(-9223372036854775808<=x.1/\x.1<=9223372036854775807):=λx hx=>by
  have:=s8.1 hall x<|hp.mem_iff.1 hx;simpa using this
 obtain⟨g1,g2,g3⟩:=hr.keys hk hb';have hsz:es.size=l.length:=by rw[<-hp.length_eq,<-hr.len];simp
 refine⟨.map<|(es.toList.map<|rg P k Oi).foldr DataW.insert [],⟨es,clock,hb,⟨by rw[hsz];unfold maxLen;omega,⟨hbi.2,hbi.1.imp λh=>mv h,?_⟩,g2⟩,IR _,rfl⟩,?_,?_⟩
 ·rw[g3];have h1:(l'.map Prod.fst).Nodup:=((hp.map Prod.fst).nodup_iff).2 hn;have e:l'.map (λx=>A7 x.1)=(l'.map Prod.fst).map A7:=by rw[nY];rfl
  rw[e];exact h1.map _ λa b hab e=>hab<|by simpa[A7] using e
 ·show(((es.toList.map<|rg P k Oi).foldr DataW.insert []).map λp=>intOf p.1).Perm _;refine((sorted_perm _).map _).trans ?_;rw[g1];exact hp.map _
 ·show((es.toList.map<|rg P k Oi).foldr DataW.insert []).length=_;rw[(sorted_perm _).length_eq];simpa using hsz
theorem qx{a b:UV Int}(h:a.Perm b):a.mergeSort (λx y=>decide<|x<=y)=b.mergeSort (λx y=>decide<|x<=y):=mergeSort_of_perm_i h
def FN(P:PP)(fs g:x4)(k T:IF):Prop:=
 (∀(b nn:Nat) (D:DataW Unit) (Bm:Nat) (w:TO),Bm < w.heap.size->w.cell? ⟨Bm,0,none⟩=some (.map<|some b)->w.ownsMap P k Oi b nn D->Maps.size D<=1000000->
  Calls P fs #[.func (.func g) #[] #[.pointer<|some ⟨Bm,0,none⟩]] w λe w' =>∃(v:Do) (ss:UV Int),e= .returned v/\ss.Perm (intKeys D)/\w'.ownsRow w.heap.size T 1 v ss.length ((ss.mergeSort λx y=>decide<|x<=y).map encZ)/\(v= .slice none 0 0↔ss=[])/\Below w.heap.size w w')/\
 (∀(Bm:Nat) (w:TO),Bm < w.heap.size->w.cell? ⟨Bm,0,none⟩=some (.map none)->Calls P fs #[.func (.func g) #[] #[.pointer<|some ⟨Bm,0,none⟩]] w λe w' =>e= .returned (.slice none 0 0)/\Below w.heap.size w w')
def KeysOf(P:PP)(fk g:x4)(T:IF):Prop:=∀mb W,Calls P fk #[.map mb] W λe w' =>e= .returned (.func (.func g) #[] #[.pointer<|some ⟨W.heap.size,0,none⟩])/\w' =W.alloc (.cells #[.map mb] T)
section
variable{β:Type}{P:PP}{ops:OF j9}{rest:UV j9}{ks:UV Kt}{Q:pU->Act->TO->Prop}{m:H1 β}{r:β}
variable{n:Nat}{D:UV If}{S:UV (Nat×Do)}{F F0:Fz}{hs:UV HP}{d:Nat}{ty k T T' :IF}{pos:String}{after:OF nA}{ox of:x8}{Ty:OF IF}{fs fk g:x4}
variable{V:Type}{rv:Fz->V->Do->Prop}{b γ j:Nat}{l:UV (Int×V)}{xs:UV (UV<|Int×V)}{p x:H1 Nat}
theorem GL.sM(hk:KeysOf P fk g T)(hd:Nat.blt d n=true)(hcall:∀args w,(callFunc fk args).run P w= .ok (.enter fk args) w)(hf:QI S of=some (.func (.func fk) #[] #[]))(hx:QI S ox=some (.map p))
  (K:∀b F',F<=F'->F'.mem b=some (.cells #[.map p] T)->GL O P ops rest ks Q (Hd n D ((d,.func (.func g) #[] #[.pointer<|some ⟨b,0,none⟩])::S) F' hs) m r):GL O P ops (⟨some d,.call ⟨.value of,#[ox],Ty⟩,ty,pos,after,none⟩::rest) ks Q (Hd n D S F hs) m r:=
 GL.bD rfl (.inr rfl) λhm a w hA=>by
  refine⟨WW (os:=[ox]) (caps:=[]) (vs:=[.map p]) hA.1 hcall hf (by simp[UO,hx]),(hk p w).mono ?_⟩;rintro _ w' ⟨rfl,rfl⟩;obtain⟨le,h⟩:=hA.2.cQ<|.cells #[.map p] T;exact⟨_,rfl,K w.heap.size _ le (Fz.fx ..) hm _ _ ⟨hA.1.put hd _,h⟩⟩
theorem GL.aQ{c:UR Int}{f:UV Int->H1 β}(hk:P.underlying k=some (.int .i64))(hs0:FN P fs g k k)(hc:∀F x,c F x [.int .i64 x]){Bm:Nat}(hB:F.mem Bm=some (.cells #[.map p] T))(i:Nat)(hi:hs[i]? =some (Qy γ (QW A7 rv) F0 xs))(hb:VW γ F j b)(hp:p=some b)(hel:xs[j]? =some l)
  (hd:Nat.blt d n=true) (hcall:∀args w,(callFunc fs args).run P w= .ok (.enter fs args) w) (hf:QI S of=some (.func (.func fs) #[] #[])) (hx:QI S ox=some (.func (.func g) #[] #[.pointer<|some ⟨Bm,0,none⟩]))
  (K:∀ks' F' p' cap,GF l=some ks'->F<=F'->QG 1 c F' p' cap ks'->GL O P ops rest ks Q (Hd n D ((d,.slice p' ks'.length cap)::S) F' hs) (f ks') r):GL O P ops (⟨some d,.call ⟨.value of,#[ox],Ty⟩,ty,pos,after,none⟩::rest) ks Q (Hd n D S F hs) ((GF l).bind f) r:=by
 refine GL.bind λks' hks=> ?_;have K' :=K ks';refine GL.bD (f:=fs) (args:=#[.func (.func g) #[] #[.pointer<|some ⟨Bm,0,none⟩]]) rfl (.inr rfl) λhm a w hA=> ?_;refine⟨WW (os:=[ox]) (caps:=[]) (vs:=[.func (.func g) #[] #[.pointer<|some ⟨Bm,0,none⟩]]) hA.1 hcall hf (by simp[UO,hx]),?_⟩;subst hp;have hks0:=hks;unfold GF at hks
 split at hks
 ·rename_i hcond;obtain⟨hall,hlen⟩:=hcond;simp only[BY] at hks
  obtain⟨es,cl,l',hpm,hn,hheap,hr,hbi⟩:=(hA.2.pull hi).bf hb hel;obtain⟨D0,hown,hperm,hsize⟩:=vy hk hheap hr hbi hpm hn hall hlen;have hBw:=hA.2.frozen hB;refine(hs0.1 b _ D0 Bm w (lt_of_heap hBw) (by simp[World.cell?,hBw]) hown<|by omega).mono ?_;rintro _ w' ⟨v,ss,rfl,hss,⟨hrl,hrow⟩,hnil,hbel⟩;have hsort:ss.mergeSort (λx y=>decide<|x<=y)=ks' :=by rw[<-hks];exact qx<|hss.trans hperm
  have hlen2:ks'.length=ss.length:=by rw[<-hsort];simp
  rw[hsort] at hrow
  rcases hrow with⟨rfl,h0⟩ | ⟨gb,cap,cur,rfl,hbase,hgb,r1,r2,r3,r4⟩
  ·have hk0:ks' =[]:=x6 (by rw[hlen2,h0]);subst hk0;exact⟨_,rfl,K' F none 0 hks0 (Fz.le_refl F) QG.nil hm _ _ ⟨hA.1.put hd _,hA.2.below hbel⟩⟩
  ·obtain⟨le,h2⟩:=hA.2.sb hbel hbase hgb;have hk:=K' _ (some ⟨gb,0,none⟩) cap hks0 le ⟨by rw[hlen2];exact r1,by unfold maxLen at r2;omega,.inr ⟨gb,0,cur,_,_,rfl,Fz.fx ..,λq x hx F' _=> ?_⟩⟩
   ·rw[hlen2] at hk
    exact⟨_,rfl,hk hm _ _ ⟨hA.1.put hd _,h2⟩⟩
   ·have hq:=Zs hx;rw[hlen2] at hq
    have:(cur.toList.drop<|0+q*1).take 1=[.int .i64 x]:=by
     have e1:cur.toList[q]? =some (.int .i64 x):=by
      have h3:=congrArg (λz=>z[q]?) r4;simp only[pF,pb,hx] at h3
      rw[AT<|by omega] at h3
      simpa[encZ] using h3
     simp only[pz,mM];rw[pM (AC.1 e1).1];have e2:=(AC.1 e1).2;simp[e2]
    rw[this];exact hc F' x
 ·cases hks
def Vl(A:UV (UV<|Int×V))(x:H1 Nat):H1 (UV Int):=match x with
 | none=>some []
 | some i=>(A[i]?).bind GF
theorem GL.bj{c:UR Int}{f:UV Int->H1 β}(hk:P.underlying k=some (.int .i64))(hs0:FN P fs g k k)(hc:∀F x,c F x [.int .i64 x]){Bm:Nat}(hB:F.mem Bm=some (.cells #[.map p] T))(i:Nat)(hi:hs[i]? =some (Qy γ (QW A7 rv) F0 xs))(h:Zr γ F p x)
  (hd:Nat.blt d n=true) (hcall:∀args w,(callFunc fs args).run P w= .ok (.enter fs args) w) (hf:QI S of=some (.func (.func fs) #[] #[])) (hx:QI S ox=some (.func (.func g) #[] #[.pointer<|some ⟨Bm,0,none⟩]))
  (K:∀ks' F' p' cap,Vl xs x=some ks'->F<=F'->QG 1 c F' p' cap ks'->GL O P ops rest ks Q (Hd n D ((d,.slice p' ks'.length cap)::S) F' hs) (f ks') r):GL O P ops (⟨some d,.call ⟨.value of,#[ox],Ty⟩,ty,pos,after,none⟩::rest) ks Q (Hd n D S F hs) ((Vl xs x).bind f) r:=by
 cases x with
 | some j=>
  obtain⟨b,hb,hp⟩:=h;cases hel:xs[j]? with
  | none=>intro hm;simp[Vl,hel] at hm
  | some l=>
   have e:Vl xs (some j)=GF l:=by simp[Vl,hel]
   rw[e] at K ⊢
   exact GL.aQ hk hs0 hc hB i hi hb hp hel hd hcall hf hx K
 | none=>
  have hp:p=none:=h;subst hp;have K' :=K [] F none 0 rfl (Fz.le_refl F) QG.nil;refine GL.bD (m:=f []) (f:=fs) (args:=#[.func (.func g) #[] #[.pointer<|some ⟨Bm,0,none⟩]]) rfl (.inr rfl) λhm a w hA=> ?_;refine⟨WW (os:=[ox]) (caps:=[]) (vs:=[.func (.func g) #[] #[.pointer<|some ⟨Bm,0,none⟩]]) hA.1 hcall hf (by simp[UO,hx]),?_⟩;have hBw:=hA.2.frozen hB;refine(hs0.2 Bm w (lt_of_heap hBw)<|by simp[World.cell?,hBw]).mono ?_;rintro _ w' ⟨rfl,hbel⟩;exact⟨_,rfl,K' hm _ _ ⟨hA.1.put hd _,hA.2.below hbel⟩⟩
end
end
section
variable{α:Type}
theorem TS{p q:HP}{m:Mem}(h:star p q m):star q p m:=by
 obtain⟨m1,m2,d,s1,s2,hp,hq⟩:=h;exact⟨m2,m1,d.symm,s2,s1,hq,hp⟩
theorem WM{p q:HP}{m:Mem}(h:star (Qh [p]) q m):star p q m:=by
 obtain⟨m1,m2,d,s1,s2,⟨a,b,_,t1,_,hp,_⟩,hq⟩:=h;exact⟨a,m2,d.sub t1<|Mem.sub.refl _,t1.trans s1,s2,hp,hq⟩
def Ii(P:PP)(F:Fz)(f:x4)(caps:UV Do)(arg:α->Fz->UV Do->Prop)(Hs:Fz->UV HP)(l:UV α):Prop:=
 (∀args w,(callFunc f args).run P w= .ok (.enter f args) w)/\
 ∀(σ:Type) (ly:Nat) (Y:σ->Fz->HP) (y:α->σ->H1 (σ×Bool)) (F1:Fz),F<=F1->UY P ly F1 arg Y y->∀s,Xz P f (.func (.yield ly) #[] #[]::caps).toArray F1 (Hs F1++[Y s F1]) (Un y l s) (λ_ _ _=>True) λs' F' =>Hs F' ++[Y s' F']
theorem Ii.mk'{P:PP}{F:Fz}{f:x4}{caps:UV Do}{arg:α->Fz->UV Do->Prop}{Hs:Fz->UV HP}{l:UV α}(h1:∀args w,(callFunc f args).run P w= .ok (.enter f args) w)
  (h2:∀(σ:Type) (ly:Nat) (Y:σ->Fz->HP) (y:α->σ->H1 (σ×Bool)) (F1:Fz),F<=F1->UY P ly F1 arg Y y->∀s,∃m,Xz P f (.func (.yield ly) #[] #[]::caps).toArray F1 (Hs F1++[Y s F1]) m (λ_ _ _=>True) (λs' F' =>Hs F' ++[Y s' F'])/\∀r,Un y l s=some r->m=some r):Ii P F f caps arg Hs l:=
 ⟨h1,λσ ly Y y F1 le hy s r hr=>let⟨_,h,k⟩:=h2 σ ly Y y F1 le hy s;h r (k r hr)⟩
section
variable{β:Type}{P:PP}{ks:UV Kt}{Q:pU->Act->TO->Prop}{r:β}{n:Nat}{D:UV If}{S:UV (Nat×Do)}{F:Fz}{hs:UV HP}
variable{α τ:Type}{g:x8}{ps:UV Tmp}{assign body:rh}{f:x4}{caps:UV Do}{arg:α->Fz->UV Do->Prop}{s0:τ}
theorem GC.sZ{l:UV α}{bm:α->τ->H1 τ}{k:τ->H1 β}(Hs:Fz->UV HP)(is:UV Nat)(I:τ->Fz->UV HP->Prop)(hg:QI S g=some (.func (.func f) #[] caps.toArray))(hit:Ii P F f caps arg Hs l)(hps:(ps.all λp=>Nat.blt p n)=true)(harg:∀x F' vs,arg x F' vs->vs.length=ps.length)
  (hi:JG is hs=Hs F) (hI:I s0 F (JV is hs))
  (round:∀l L F0 F1 x vs s ctl R hs',F<=F0->F0<=F1->arg x F1 vs->I s F0 hs'->GC (some l) P assign [] (BP P l body<|RP l L I (fun(_:Empty) _ _=>False) F1 R<|.next ctl) (Hd n [] ((ps.zip vs).reverse++S) F1<|pt l (Vu L)::R::hs') (bm x s) ctl)
  (next:∀q F0 F' s hs',F<=F0->F0<=F'->Ys bm l s0=some s->I s F0 hs'->GE none P ks Q (Hd n (U2 q::D) S F'<|pt q (.deferred<|some [])::(Hs F' ++hs')) (k s) r):GC none P (.rangeFunc g ps.toArray assign body) ks Q (Hd n D S F hs) ((Ys bm l s0).bind k) r:=by
 intro hm a w ha;cases hl:Ys bm l s0 with
 | none=>rw[hl] at hm;cases hm
 | some sf=>
  rw[hl] at hm
  refine mZ λfn _=> ?_
  let L:Loop:={state:=.ready,pending:=none,fn,tmps:=a.tmps,params:=ps.toArray,assign,body,defers:=w.heap.size}
  let J:Empty->Fz->UV HP->Prop:=λ_ _ _=>False
  have hw1:SH ((w.alloc<|.deferred<|some []).alloc<|.loop L) F (star (Qh<|Hs F++[yS F (w.heap.size+1) L I J (.next s0) F])<|Qh [pt w.heap.size<|.deferred<|some []]):=by
   have h1:=(ha.2.alloc<|.deferred<|some []).alloc<|.loop L;rw[nk] at h1
   refine h1.mono λm hm=> ?_
   have h2:star (pt (w.heap.size+1)<|Vu L) (star (pt w.heap.size<|.deferred<|some [])<|star (Qh<|Hs F)<|Qh<|JV is hs) m:=
    QS (λm hm=>QS (λm hm=>by have:=Vs (ks:=is) hm;rw[hi] at this;exact this) hm) hm
   have h3:=TS<|QS (λm hm=>Ze hm)<|Ze h2;refine QQ (λm hm=> ?_)<|QS (λm hm=>J1 hm) h3;refine Kx<|QS (λm hm=>J1 (p:=yS F (w.heap.size+1) L I J (.next s0) F) ⟨F,JV is hs,Fz.le_refl _,Fz.le_refl _,hI,hm⟩) hm
  have hY:UY P (w.heap.size+1) F arg (yS F (w.heap.size+1) L I J) (zp λx s=>(bm x s).map UE.next):=by
   refine P4 (S' :=λvs=>(ps.zip vs).reverse++S) (assign:=assign) (body:=body) (λx F' vs hx=>by rw[harg x F' vs hx];simp[L]) rfl rfl (λvs _=>DN hps ⟨ha.1.1,rfl,ha.1.2.2⟩) ?_;intro F0 F1 x vs s ctl R hs' h0 h1 hx hI hmm;cases hb:bm x s with
   | none=>rw[hb] at hmm;cases hmm
   | some s' =>
    rw[hb] at hmm
    simp only[dO,BY] at hmm
    subst hmm;exact round _ L F0 F1 x vs s s' R hs' h0 h1 hx hI hb
  have hc:=hit.2 _ _ _ _ F (Fz.le_refl F) hY (.next s0) (.next sf) (by rw[FA,DR,hl];rfl) _ _ hw1;refine⟨w.heap.size+1,[U2 w.heap.size],(w.alloc<|.deferred<|some []).alloc<|.loop L,⟨.fn (.func f) caps.toArray,#[.func (.yield<|w.heap.size+1) #[] #[]]⟩,(w.alloc<|.deferred<|some []).alloc<|.loop L,f,(.func (.yield<|w.heap.size+1) #[] #[]::caps).toArray,(w.alloc<|.deferred<|some []).alloc<|.loop L,nP fn a.tmps ps.toArray assign body,?_,λ_ _=>trivial,?_,λe=>(by cases e),?_⟩
  ·have hc0:a.eval (.const<|.func (.yield<|w.heap.size+1) #[] #[])= .func (.yield<|w.heap.size+1) #[] #[]:=rfl;simp[resolve,Deferred.ofValue,ha.1.eval hg,hc0]
  ·simp[invoke,hit.1]
  ·refine pW.2<|hc.mono ?_;rintro _ w' ⟨F',v,le,rfl, -,hw'⟩
   have hw2:SH w' F' (star (yS F (w.heap.size+1) L I J (.next sf) F')<|star (Qh<|Hs F')<|Qh [pt w.heap.size<|.deferred<|some []]):=hw'.mono λm hm=>by
    exact WM<|Ze<|Wq<|QQ (λm hm=>VO hm) hm
   obtain⟨F0,hs',h0,h1,hI',h3⟩:=SH.dv hw2;refine⟨none,_,DP<|SH.fl (k:=0) rfl h3,?_⟩;have h4:SH _ F' (Qh<|pt w.heap.size (.deferred<|some [])::(Hs F' ++hs')):=(SH.dF 0<|SH.putAt (k:=0) rfl h3<|Ao L none).mono λm hm=>QS (λm hm=>Kx hm)<|WM<|Ze<|Wq hm;exact next w.heap.size F0 F' sf hs' h0 h1 hl hI' hm _ _ ⟨⟨ha.1.1,by simp[ha.1.2.1],ha.1.2.2⟩,h4⟩
end
theorem Hd.fb{γ:Nat}{C:Fz->Nat->α->HP}{xs:UV α}{n:Nat}{D:UV If}{S:UV (Nat×Do)}{F F0:Fz}{hs:UV HP}{a:Act}{w:TO}(i:Nat)(hC:XH C)(le:F0<=F)(hi:hs[i]? =some (Qy γ C F0 xs))(ha:Hd n D S F hs a w):Hd n D S F (hs.set i<|Qy γ C F xs) a w:=⟨ha.1,SH.push hi<|(ha.2.pull hi).bW hC le⟩
end
section
variable{after:OF nA}{E A:Act->TO->Prop}{S S0 S':UV (Nat×Do)}{ops:OF j9}{pos:String}{D:UV If}{ty t':IF}{rest l:UV j9}{β α:Type}{m:H1 β}{P:PP}{v u:Do}{d n b j o e cap t k i z len sz:Nat}{hs:UV HP}{vs cs:UV Do}{ox oy oz:x8}{Q:pU->Act->TO->Prop}{p:H1 Of}{r:β}{F F':Fz}{f:α->H1 β}{want:Bool}{c:UR α}{L:Nat->Bool}{T:OF IF}{O:H1 Nat}{fr:Nat×Nat}{op:Op}{ks:UV Kt}{a0 a:Act}{kd:pg}{w:TO}{x y:Int}
variable{O:H1 Nat}
def wpS(P:PP)(ops:OF j9)(w:TO)(K:Act->Prop):UV j9->Act->Prop
 | [],a=>K a
 | o::rest,a=>if Region.wanted o (yielded ops a.tmps) then ∃v,(execOp a.eval o).run P w= .ok (.value v) w/\wpS P ops w K rest (a.put o.dst v) else wpS P ops w K rest (a.put o.dst undef)
def GS(P:PP)(ops:OF j9)(l:UV j9)(E A:Act->TO->Prop)(m:H1 β)(r:β):Prop:=m=some r->∀a w,A a w->wpS P ops w (λa' =>E a' w) l a
def TN(P:PP)(ops:OF j9)(w:TO)(o:j9)(v:Do)(a:Act):Prop:=(Region.wanted o (yielded ops a.tmps)=true/\(execOp a.eval o).run P w= .ok (.value v) w)∨(Region.wanted o (yielded ops a.tmps)=false/\v=undef)
def EB:Act->UV j9->UV Do->Act
 | a,o::os,v::vs=>EB (a.put o.dst v) os vs
 | a,_,_=>a
theorem M1:∀{l:UV j9} {vs:UV Do} {a:Act} {i:Nat} {o:j9} {v:Do},l[i]? =some o->vs[i]? =some v->EB a (l.take<|i+1) (vs.take<|i+1)=(EB a (l.take i)<|vs.take i).put o.dst v
 | [],_,_,_,_,_,h,_=>by simp at h
 | _::_,[],_,_,_,_,_,h=>by simp at h
 | x::l,u::vs,a,0,o,v,h,h' =>by
  simp at h h';subst h;subst h';rfl
 | x::l,u::vs,a,i+1,o,v,h,h' =>by
  simp only[List.take_succ_cons,EB];exact M1 (l:=l) (by simpa using h)<|by simpa using h'
theorem Lr{K:Act->Prop}:∀{l:UV j9} {a:Act},wpS P ops w K l a->∃vs:UV Do,vs.length=l.length/\K (EB a l vs)/\∀i o v,l[i]? =some o->vs[i]? =some v->TN P ops w o v (EB a (l.take i)<|vs.take i)
 | [],a,h=>⟨[],rfl,h,λi o v h=>by simp at h⟩
 | x::l,a,h=>by
  have key:∃v,TN P ops w x v a/\wpS P ops w K l (a.put x.dst v):=by
   unfold wpS at h
   split at h
   ·rename_i hw;obtain⟨v,h1,h2⟩:=h;exact⟨v,.inl ⟨hw,h1⟩,h2⟩
   ·rename_i hw;exact⟨undef,.inr ⟨by simpa using hw,rfl⟩,h⟩
  obtain⟨v,h1,h2⟩:=key;obtain⟨vs,g1,g2,g3⟩:=Lr h2;refine⟨v::vs,by simp[g1],g2,λi o u ho hu=> ?_⟩;cases i with
  | zero=>simp at ho hu;subst ho;subst hu;exact h1
  | succ i=>exact g3 i o u (by simpa using ho)<|by simpa using hu
theorem AY(ops:OF j9)(t:OF Do)(j:Nat):yielded ops t j=match(ops[j]?).bind (·.dst) with
  | none=>none
  | some d=>match t.getD d undef with
   | .bool b=>some b
   | _=>none:=by
 unfold yielded;cases(ops[j]?).bind (·.dst) with
 | none=>rfl
 | some d=>
  simp only[DO,aT];cases t[d]? with
  | none=>rfl
  | some v=>cases v<;>rfl
def wZ(l:UV j9)(k:Nat)(o:j9):Bool:=(o.looksAt l.toArray).all λt=>(List.range k).all λj=>match Vi l j with
 | none=>true
 | some d=> !Nat.beq d t||o.after.toList.any λe=>Region.binds .any e&&Nat.beq e.on j
def yC:Op->Bool
 | .select _ _=>false
 | _=>true
def Dw(n:Nat):UV j9->Bool
 | []=>true
 | o::os=>(match o.dst with
  | none=>true
  | some d=>Nat.blt d n&& !os.any (Ai d))&&Dw n os
def Tf:UV Bool->UV Bool->UV Bool
 | a::xs,b::bs=>(a||b)::Tf xs bs
 | [],bs=>bs
 | xs,[]=>xs
def Dx:Nat->UV Bool
 | 0=>[true]
 | n+1=>false::Dx n
def wE(done:UV (UV Bool))(o:j9):UV Bool:=o.after.toList.foldr (λe m=>bif Region.binds .any e then Tf (Tf (Dx e.on)<|done.getD e.on []) m else m) []
def WZ:UV (UV Bool)->UV j9->UV (UV Bool)
 | done,[]=>done
 | done,o::l=>WZ (done++[wE done o]) l
def jH:Nat->UV Bool->Bool
 | 0,_=>true
 | n+1,b::bs=>b&&jH n bs
 | _+1,[]=>false
def zd(l:UV j9)(k:Nat):Bool:=(List.range l.length).all λt=>Nat.blt t k||jH t ((WZ [] l).getD t [])
theorem S1:∀{a b:UV Bool} {j:Nat},(Tf a b).getD j false=true->a.getD j false=true∨b.getD j false=true
 | [],bs,j,h=>.inr h
 | a::xs,[],j,h=>.inl h
 | a::xs,b::bs,0,h=>by
  have h:(a||b)=true:=h;rcases Bool.or_eq_true_iff.1 h with h | h
  ·exact .inl h
  ·exact .inr h
 | a::xs,b::bs,j+1,h=>S1 (a:=xs) (b:=bs) (j:=j) h
theorem PS:∀{n j:Nat},(Dx n).getD j false=true->j=n
 | 0,0,_=>rfl
 | 0,j+1,h=>by simp[Dx] at h
 | n+1,0,h=>by simp[Dx] at h
 | n+1,j+1,h=>by
  have:(Dx n).getD j false=true:=h;rw[PS this]
def PG(l:UV j9)(done:UV (UV Bool)):Prop:=∀t m,done[t]? =some m->∀j,m.getD j false=true->∃s,Xd l s t j=true
theorem qZ{done:UV (UV Bool)}(hd:PG l done){o:j9}(ho:l[t]? =some o):∀{j:Nat},(wE done o).getD j false=true->∃s,Xd l s t j=true:=by
 have key:∀(es:UV nA),(∀e∈es,e∈o.after.toList)->∀j,(es.foldr (λe m=>bif Region.binds .any e then Tf (Tf (Dx e.on)<|done.getD e.on []) m else m) []).getD j false=true->∃s,Xd l s t j=true:=λes=>by
  induction es with
  | nil=>intro _ j h;simp at h
  | cons e es ih=>
   intro hes j h;have hes' :=λe' he' =>hes e'<|bY _ he';simp only[List.foldr_cons] at h
   cases hb:Region.binds .any e with
   | false=>rw[hb] at h;simp only[cond_false] at h;exact ih hes' j h
   | true=>
    rw[hb] at h
    simp only[cond_true] at h
    have hmem:=hes e (by simp);rcases S1 h with h | h
    ·rcases S1 h with h | h
     ·have:=PS h;subst this;exact⟨1,by simp only[Xd,ho];exact px.2 ⟨e,hmem,by simp[hb]⟩⟩
     ·rw[pe] at h
      cases hm:done[e.on]? with
      | none=>rw[pe,hm] at h;simp at h
      | some m=>
       rw[pe,hm] at h
       obtain⟨s,hs⟩:=hd e.on m hm j (by rw[pe];exact h);exact⟨s+1,by simp only[Xd,ho];exact px.2 ⟨e,hmem,by simp[hb,hs]⟩⟩
    ·exact ih hes' j h
 intro j h;exact key o.after.toList (λ_ h=>h) j h
theorem BB:∀{post pre:UV j9} {done:UV (UV Bool)},l=pre++post->done.length=pre.length->PG l done->PG l (WZ done post)
 | [],_,_,_,_,hd=>hd
 | o::post,pre,done,e,hl,hd=>by
  refine BB (pre:=pre++[o]) (post:=post) (by simp[e]) (by simp[hl]) λt m hm j hj=> ?_;rcases pJ t done.length with h | h
  ·rw[pS h] at hm;exact hd t m hm j hj
  ·have ht:t=done.length:=by
    have:=(AC.1 hm).1;simp at this;omega
   subst ht;rw[pq<|IR _] at hm
   simp at hm;subst hm
   exact qZ hd (by rw[e,hl];simp) hj
theorem Nt:∀{n j:Nat} {m:UV Bool},jH n m=true->j < n->m.getD j false=true
 | 0,_,_,_,h=>by omega
 | n+1,j,[],h,_=>by cases h
 | n+1,0,b::bs,h,_=>by
  have h:(b&&jH n bs)=true:=h;exact((T2 _ _).mp h).1
 | n+1,j+1,b::bs,h,hj=>by
  have h:(b&&jH n bs)=true:=h;exact Nt (n:=n) (j:=j) (m:=bs) ((T2 _ _).mp h).2<|by omega
theorem NW(h:zd l k=true):∀t o,k<=t->l[t]? =some o->∀j,j < t->∃s,Xd l s t j=true:=λt o hk ho j hj=>by
 have hlt:=Zs ho;have h1:=s8.1 h t<|rO.2 hlt
 have hb:Nat.blt t k=false:=by
  cases hb:Nat.blt t k with
  | false=>rfl
  | true=>have:=j3 hb;omega
 rw[hb,nC] at h1
 have hM:PG l (WZ [] l):=BB (pre:=[]) rfl rfl λt m hm=>by simp at hm
 have h2:=Nt h1 hj;cases hm:(WZ [] l)[t]? with
 | none=>rw[pe (l:=WZ [] l),hm] at h2;simp at h2
 | some m=>rw[pe (l:=WZ [] l),hm] at h2;exact hM t m hm j h2
theorem Rf:∀{n:Nat} {os:UV j9} {i:Nat} {o:j9} {d:Nat},Dw n os=true->os[i]? =some o->o.dst=some d->d < n/\∀j o',os[j]? =some o'->o'.dst=some d->j=i
 | _,[],_,_,_,_,h,_=>by simp at h
 | n,x::os,0,o,d,hf,h,hd=>by
  simp at h;subst h
  simp only[Dw,hd,T2,pj] at hf
  refine⟨j3 hf.1.1,λj o' hj hd' => ?_⟩;cases j with
  | zero=>rfl
  | succ j=>exact(SA hf.1.2 (by simpa using hj) hd').elim
 | n,x::os,i+1,o,d,hf,h,hd=>by
  have hf' :=hf;simp only[Dw,T2] at hf
  obtain⟨g1,g2⟩:=Rf (os:=os) (i:=i) hf.2 (by simpa using h) hd;refine⟨g1,λj o' hj hd' => ?_⟩;cases j with
  | zero=>
   simp at hj;subst hj
   simp only[Dw,hd',T2,pj] at hf'
   exact(SA hf'.1.2 (by simpa using h) hd).elim
  | succ j=>rw[g2 j o' (by simpa using hj) hd']
def wC(n:Nat)(l:UV j9)(k:Nat):Bool:=MF 0 l&&zd l k&&Nat.ble k l.length&&Dw n (l.take k)&&(l.take k).all λo=>wZ l k o&&yC o.op&&X5 o.op
section
variable{β:Type}{P:PP}{ks:UV Kt}{Q:pU->Act->TO->Prop}{m:H1 β}{r:β}{n:Nat}{D:UV If}{S0:UV (Nat×Do)}{F:Fz}{hs:UV HP}{l:UV j9}
structure GR(l:List Oper)(k n:Nat)(a0:Act)(vs:List Value)(L:Nat->Bool)(a:Act):Prop where
 size:a.tmps.size=n
 defs:a.defers=a0.defers
 got:∀(j:Nat) (v:Value) (t:Nat),j < k->L j=true->Vi l j=some t->vs[j]? =some v->a.tmps.getD t undef=v
 old:∀t,(∀j,j < k->L j=true->Vi l j≠some t)->a.tmps.getD t undef=a0.tmps.getD t undef
theorem ML{t:OF Do}(h:d < t.size):(t.setIfInBounds d v).getD d undef=v:=by simp[aT,h]
theorem CM{t:OF Do}(h:d≠e):(t.setIfInBounds d v).getD e undef=t.getD e undef:=by
 simp only[aT];rw[lN h]
theorem GR.put(c:GR l k n a0 vs L a)(hsl:Dw n (l.take k)=true){o:j9}(hi:i < k)(ho:l[i]? =some o)(hv:vs[i]? =some v):GR l k n a0 vs (Kg L i) (a.put o.dst v):=by
 have hdst:Vi l i=o.dst:=by simp[Vi,ho]
 have hslot:∀d,o.dst=some d->d < n/\∀j,j < k->Vi l j=some d->j=i:=λd hd=>by
  obtain⟨g1,g2⟩:=Rf hsl (i:=i) (o:=o) (d:=d) (by rw[pF,AT hi];exact ho) hd;refine⟨g1,λj hj e=> ?_⟩;cases hoj:l[j]? with
  | none=>simp[Vi,hoj] at e
  | some oj=>exact g2 j oj (by rw[pF,AT hj];exact hoj)<|by simpa[Vi,hoj] using e
 cases hd:o.dst with
 | none=>
  refine⟨c.size,c.defs,λj u t hj hL e hu=> ?_,λt ht=>c.old t λj hj hL=>ht j hj ?_⟩
  ·by_cases hji:j=i
   ·subst hji;rw[hdst,hd] at e;cases e
   ·exact c.got j u t hj (by simpa[Kg,hji] using hL) e hu
  ·simp only[Kg];split
   ·rfl
   ·exact hL
 | some d=>
  obtain⟨hdn,huniq⟩:=hslot d hd;refine⟨by simp[Act.put,c.size],c.defs,λj u t hj hL e hu=> ?_,λt ht=> ?_⟩
  ·by_cases hji:j=i
   ·subst hji;rw[hdst,hd] at e;cases e
    rw[hv] at hu;cases hu
    exact ML (by rw[c.size];exact hdn)
   ·have hne:d≠t:=λe' =>by subst e';exact hji<|huniq j hj e
    show(a.tmps.setIfInBounds d v).getD t undef=u;rw[CM hne];exact c.got j u t hj (by simpa[Kg,hji] using hL) e hu
  ·have hne:d≠t:=λe' =>by subst e';exact ht i hi (by simp[Kg])<|by rw[hdst,hd]
   show(a.tmps.setIfInBounds d v).getD t undef=_;rw[CM hne];exact c.old t λj hj hL=>ht j hj (by simp only[Kg];split<;>first | rfl | exact hL)
theorem GR.same{b:Act}{L':Nat->Bool}(c:GR l k n a0 vs L a)(c' :GR l k n a0 vs L' b)(hvs:k<=vs.length)(ht:∀j,j < k->Vi l j=some t->L j=true/\L' j=true):a.tmps.getD t undef=b.tmps.getD t undef:=by
 by_cases h:∃j,j < k/\Vi l j=some t
 ·obtain⟨j,hj,e⟩:=h;obtain⟨h1,h2⟩:=ht j hj e;have hv:vs[j]? =some vs[j]:=Rw (by omega);rw[c.got j _ t hj h1 e hv,c'.got j _ t hj h2 e hv]
 ·have hn:∀j,j < k->Vi l j≠some t:=λj hj e=>h ⟨j,hj,e⟩;rw[c.old t λj hj _=>hn j hj,c'.old t λj hj _=>hn j hj]
theorem GR.eq{b:Act}(c:GR l k n a0 vs L a)(c' :GR l k n a0 vs L b)(hvs:k<=vs.length)(hL:∀j,j < k->L j=true):a=b:=by
 have h:∀t,a.tmps.getD t undef=b.tmps.getD t undef:=λt=>c.same c' hvs λj hj _=>⟨hL j hj,hL j hj⟩
 have ht:a.tmps=b.tmps:=by
  apply Array.ext
  ·rw[c.size,c'.size]
  ·intro i h1 h2;have:=h i;simpa[aT,h1,h2] using this
 have hd:a.defers=b.defers:=by rw[c.defs,c'.defs]
 obtain⟨ta,da⟩:=a;obtain⟨tb,db⟩:=b;have ht:ta=tb:=ht;have hd:da=db:=hd;rw[ht,hd]
theorem TN.of_same{o:j9}{b:Act}(hs:yC o.op=true)(h:TN P ops w o v a)(he:∀t∈o.looksAt ops,a.tmps.getD t undef=b.tmps.getD t undef):TN P ops w o v b:=by
 have hx:execOp a.eval o=execOp b.eval o:=execOp_congr o (λcs bb e=>by rw[e] at hs;cases hs) λx hx=>by
  cases x with
  | tmp t=>exact he t (eF _<|List.mem_filterMap.2 ⟨.tmp t,by simpa using hx,rfl⟩)
  | const v=>rfl
  | global g=>rfl
  | func f=>rfl
 have hw:Region.wanted o (yielded ops a.tmps)=Region.wanted o (yielded ops b.tmps):=by
  unfold Region.wanted;cases hg:o.guard with
  | none=>rfl
  | some gw=>
   obtain⟨g,want⟩:=gw
   have:yielded ops a.tmps g=yielded ops b.tmps g:=by
    rw[AY,AY];cases ht:(ops[g]?).bind (·.dst) with
    | none=>rfl
    | some t=>
     simp only[];rw[he t<|List.mem_append_right _<|by simp[hg,ht]]
   simp only[this]
 unfold TN at*
 rw[<-hx,<-hw];exact h
theorem A9(hsz:a0.tmps.size=n)(hsl:Dw n (l.take k)=true)(hk:k<=l.length)(hvs:vs.length=k):∀i,i<=k->GR l k n a0 vs (λj=>Nat.blt j i) (EB a0 ((l.take k).take i)<|vs.take i)
 | 0,_=>by
  refine⟨hsz,rfl,λj v t _ hL=> ?_,λt _=>rfl⟩;have:Nat.blt j 0=true:=hL;have:=j3 this;omega
 | i+1,hi=>by
  have ho:l[i]? =some l[i]:=Rw (by omega);have hv:vs[i]? =some vs[i]:=Rw (by omega);have h:=(A9 hsz hsl hk hvs i<|by omega).put hsl (by omega) ho hv;rw[M1 (l:=l.take k) (o:=l[i]) (v:=vs[i]) (by rw[pF,AT<|by omega];exact ho) hv]
  have e:(λj=>Nat.blt j<|i+1)=Kg (λj=>Nat.blt j i) i:=by
   funext j;simp only[Kg];by_cases hj:j=i
   ·subst hj;rw[AT rfl];exact pT<|IR _
   ·rw[RW hj];cases h1:Nat.blt j i with
    | true=>have:=j3 h1;exact pT (show j+1<=i+1 by omega)
    | false=>
     cases h2:Nat.blt j (i+1) with
     | false=>rfl
     | true=>
      have:=j3 h2;have h3:Nat.blt j i=true:=pT (show j+1<=i by omega);rw[h1] at h3;cases h3
  rw[e];exact h
theorem GC.fc{id:Nat}(k:Nat)(hm:P.follows .mixedOrders=true)(hB:wC n l k=true)
  (walk:GS P l.toArray (l.take k) (X0 O P l.toArray (Zu O P ks Q)<|l.drop k) (Hd n D S0 F hs) m r):GC O P (.region id l.toArray true) ks Q (Hd n D S0 F hs) m r:=by
 intro hmr a0 w ha;simp only[wC,T2,s8] at hB
 obtain⟨⟨⟨⟨hord,hdeep⟩,hlen⟩,hsl⟩,hall⟩:=hB;have htail:=NW hdeep;have hlen' :k<=l.length:=j3 hlen;have hw1:=walk hmr a0 {w with drawn:=w.drawn+1} ⟨ha.1,ha.2.drew _⟩;obtain⟨vs,hvl,hK,hstep⟩:=Lr hw1;have hvk:vs.length=k:=by rw[hvl];simp;omega
 have hseq:=A9 (a0:=a0) (vs:=vs) (l:=l) ha.1.1 hsl hlen' hvk
 let Free:(Nat->Bool)->Act->TO->Prop:=λL a w' =>Down l L/\(∀i,k<=i->L i=false)/\w' ={w with drawn:=w.drawn+1}/\GR l k n a0 vs L a
 let Inv:(Nat->Bool)->Act->TO->Prop:=λL a w=>Free L a w∨∃i,k < i/\Down l L/\(∀j,L j=true↔j < i)/\X0 O P l.toArray (Zu O P ks Q) (l.drop i) a w
 have hend0:∀L a w',(∀i,i < k->L i=true)->Free L a w'->X0 O P l.toArray (Zu O P ks Q) (l.drop k) a w' :=by
  rintro L a w' hL ⟨_,hout,rfl,hc⟩
  have hLk:L=λj=>Nat.blt j k:=by
   funext j;rcases pJ j k with h | h
   ·rw[hL j h];exact(pT h).symm
   ·rw[hout j h];cases hb:Nat.blt j k with
    | false=>rfl
    | true=>have:=j3 hb;omega
  have h2:=hseq k<|IR _;rw[s4 (show(l.take k).length<=k by simp;omega),s4<|show vs.length<=k by omega] at h2
  rw[hLk] at hc
  rw[hc.eq h2 (by omega) λj hj=>pT hj];exact hK
 refine XW hm Inv (λi o h e he hb=>by have:=Xt hord i o (by simpa using h) e he hb;omega) ?_ ?_ ?_
 ·refine .inl ⟨λi o _ h=>(by cases h),λ_ _=>rfl,rfl,⟨ha.1.1,rfl,λj v t _ h=>(by cases h),λt _=>rfl⟩⟩
 ·intro L a w' i o ho hLi hdeps hI;have ho' :l[i]? =some o:=by simpa using ho
  have hil:i < l.length:=Zs ho';by_cases hi:i < k
  ·rcases hI with hF | ⟨k',hk,_,hL,_⟩
   case inr=>have:=(hL i).2 (by omega);rw[hLi] at this;cases this
   obtain⟨hdn,hout,rfl,hc⟩:=hF;have hot:(l.take k)[i]? =some o:=by rw[pF,AT hi];exact ho'
   have hmem:o∈l.take k:=s7 hot;have hoB:=hall o hmem;obtain⟨⟨hlk,hns⟩,hnd⟩:=hoB;have hv:vs[i]? =some vs[i]:=Rw (by omega);have hst:=hstep i o _ hot hv
   have hst' :TN P l.toArray {w with drawn:=w.drawn+1} o vs[i] a:=hst.of_same hns λt ht=>by
    refine(hseq i<|by omega).same hc (by omega) λj hj e=> ?_;have h1:=s8.1 (s8.1 hlk t ht) j<|rO.2 hj;rw[e] at h1
    simp only[Nat.beq_refl,x7,nC,px,T2] at h1
    obtain⟨e',he',hb',hon⟩:=h1;have hon:e'.on=j:=pH hon;have hmem' :e'∈o.after:=by simpa using he'
    refine⟨?_,by rw[<-hon];exact hdeps e' hmem' hb'⟩;have:=Xt hord i o ho' e' hmem' hb';exact pT<|show j+1<=i by omega
   have hnext:Inv (Kg L i) (a.put o.dst vs[i]) {w with drawn:=w.drawn+1}:=by
    refine .inl ⟨?_,?_,rfl,hc.put hsl hi ho' hv⟩
    ·intro j oj hoj hj e he hb
     have:L e.on=true:=by
      by_cases hji:j=i
      ·subst hji;rw[ho'] at hoj;cases hoj;exact hdeps e he hb
      ·exact hdn j oj hoj (by simpa[Kg,hji] using hj) e he hb
     simp only[Kg];split
     ·rfl
     ·exact this
    ·intro j hj;simp only[Kg];rw[RW<|by omega];exact hout j hj
   rcases hst' with⟨h1,h2⟩ | ⟨h1,h2⟩
   ·rw[AT h1];refine⟨.inr hnd,?_⟩;rw[h2];exact hnext
   ·rw[RW (by simp[h1]),<-h2];exact hnext
  ·have hdnL:Down l L:=by
    rcases hI with hF | ⟨_,_,hd,_,_⟩
    ·exact hF.1
    ·exact hd
   have hallL:∀j,j < i->L j=true:=λj hj=>by
    obtain⟨s,hs⟩:=htail i o (by omega) ho' j hj;exact XA hdnL hs λo' ho'' e he hb=>by rw[ho'] at ho'';cases ho'';exact hdeps e he hb
   have hdnU:Down l (Kg L i):=λj oj hoj hj e he hb=>by
    have:L e.on=true:=by
     by_cases hji:j=i
     ·subst hji;rw[ho'] at hoj;cases hoj;exact hdeps e he hb
     ·exact hdnL j oj hoj (by simpa[Kg,hji] using hj) e he hb
    simp only[Kg];split
    ·rfl
    ·exact this
   have hw:X0 O P l.toArray (Zu O P ks Q) (l.drop i) a w' :=by
    rcases hI with hF | ⟨k',hk,_,hL,hwp⟩
    ·have hiV:i=k:=by
      rcases pJ k i with h | h
      ·have:=hallL k h;rw[hF.2.1 _<|IR _] at this;cases this
      ·omega
     subst hiV;exact hend0 L a w' hallL hF
    ·have:k' =i:=by
      have h1:¬i < k' :=λh=>by have:=(hL i).2 h;rw[hLi] at this;cases this
      have h2:¬k' < i:=λh=>by have:=(hL k').1<|hallL k' h;omega
      omega
     subst this;exact hwp
   have hdrop:l.drop i=o::l.drop (i+1):=by
    have hg:l[i]'hil=o:=by simpa[hil] using ho'
    rw[<-hg];exact pM hil
   rw[hdrop] at hw
   have hnext:∀a' w',X0 O P l.toArray (Zu O P ks Q) (l.drop<|i+1) a' w'->Inv (Kg L i) a' w' :=λa' w' h=>
    .inr ⟨i+1,by omega,hdnU,λj=>by
     simp only[Kg];by_cases hj:j=i
     ·simp[hj]
     ·simp only[hj,RK];constructor
      ·intro hLj
       have:j < i:=by
        rcases pJ j i with h | h
        ·exact h
        ·rcases hI with hF | ⟨k',hk,_,hL,_⟩
         ·rw[hF.2.1 j<|by omega] at hLj;cases hLj
         ·have h1:=(hL j).1 hLj;have:=(hL i).2 (by omega);rw[hLi] at this;cases this
       omega
      ·intro hj';exact hallL j (by omega),h⟩
   unfold X0 at hw
   split
   ·rename_i hwn;rw[AT hwn] at hw
    exact CD hnext hw
   ·rename_i hwn;rw[RW hwn] at hw
    exact hnext _ _ hw
 ·intro L a w' hallL hI
  have hw:X0 O P l.toArray (Zu O P ks Q) (l.drop l.length) a w' :=by
   rcases hI with hF | ⟨k',hk,_,hL,hwp⟩
   ·have hVl:k=l.length:=by
     rcases pJ k l.length with h | h
     ·have:=hallL k (by simpa using h);rw[hF.2.1 _<|IR _] at this;cases this
     ·omega
    have:=hend0 L a w' (λi hi=>hallL i (by simp;omega)) hF
    rwa[hVl] at this
   ·have:l.length<=k' :=by
     rcases pJ k' l.length with h | h
     ·have:=(hL k').1 (hallL k'<|by simpa using h);omega
     ·exact h
    rw[pL this] at hwp
    rw[pL<|IR _];exact hwp
  rw[pL<|IR _] at hw
  exact hw
end
section
variable{β:Type}{P:PP}{ops:OF j9}{rest l:UV j9}{E A A' :Act->TO->Prop}{m:H1 β}{r:β}
variable{n:Nat}{D:UV If}{S S' :UV (Nat×Do)}{F F' :Fz}{hs hs' :UV HP}
theorem GS.step{o:j9}(hg:o.guard=none)(h:m=some r->∀a w,A a w->∃v,(execOp a.eval o).run P w= .ok (.value v) w/\wpS P ops w (λa' =>E a' w) rest (a.put o.dst v)):GS P ops (o::rest) E A m r:=by
 intro hm a w ha;obtain⟨v,h1,h2⟩:=h hm a w ha;unfold wpS;rw[AT<|by simp[Region.wanted,hg]];exact⟨v,h1,h2⟩
def vM(n:Nat)(D:UV If)(d:Nat)(v:Do)(S:UV (Nat×Do))(F:Fz)(hs:UV HP):Act->TO->Prop:=λa w=>∃F',F<=F'/\Hd n D ((d,v)::S) F' hs a w
theorem Sq{K1 K2:Act->Prop}(l2:UV j9)(hq:∀a,K1 a->wpS P ops w K2 l2 a):∀(l1:UV j9) (a:Act),wpS P ops w K1 l1 a->wpS P ops w K2 (l1++l2) a
 | [],a,h=>hq a h
 | o::l1,a,h=>by
  simp only[pw];unfold wpS at h ⊢
  split
  ·rename_i hw;rw[AT hw] at h
   obtain⟨v,h1,h2⟩:=h;exact⟨v,h1,Sq l2 hq l1 _ h2⟩
  ·rename_i hw;rw[RW hw] at h
   exact Sq l2 hq l1 _ h
theorem GS.fin{x:β}(j:Nat)(hv:K4 S' d=some v)(hd:S'.drop j=S)(hf:fresh S (S'.take j)=true)(le:F<=F'):GS P ops [] (vM n D d v S F hs) (Hd n D S' F' hs) (some x) x:=λ_ _ _ ha=>⟨F',le,ha.1.sub<|Sub.cons hv<|Fe j hd hf,ha.2⟩
theorem GS.df{x z:Bool}(j:Nat)(hv:K4 S' d=some (.bool x))(hd:S'.drop j=S)(hf:fresh S (S'.take j)=true)(le:F<=F'):GS P ops [] (vM n D d (.bool z) S F hs) (Hd n D S' F' hs) (some x) z:=λe a w ha=>by
 simp only[BY] at e;subst e
 exact⟨F',le,ha.1.sub<|Sub.cons hv<|Fe j hd hf,ha.2⟩
theorem GS.tu{m0:H1 α}{f:α->H1 β}(k d:Nat)(V:α->Do)(h:∀z,GS P ops (l.take k) (vM n D d (V z) S F hs) (Hd n D S F hs) m0 z)
  (next:∀z F',m0=some z->F<=F'->GS P ops (l.drop k) E (Hd n D ((d,V z)::S) F' hs) (f z) r):GS P ops l E (Hd n D S F hs) (m0.bind f) r:=by
 intro hm a w ha;cases hl:m0 with
 | none=>rw[hl] at hm;cases hm
 | some z=>
  rw[hl] at hm
  have h1:=h z hl a w ha
  have:=Sq (P:=P) (ops:=ops) (K2:=λa' =>E a' w) (l.drop k) (λa' hq=>by
   obtain⟨F',le,hq⟩:=hq;exact next z F' hl le hm a' w hq) (l.take k) a h1
  rwa[rr] at this
theorem GS.fp{tl:UV j9}(h:GL O P ops tl ks Q A m r):GS P ops [] (X0 O P ops (Zu O P ks Q) tl) A m r:=λhm a w ha=>h hm a w ha
end
section
section
variable{β:Type}{P:PP}{ops:OF j9}{l rest:UV j9}{E:Act->TO->Prop}{A A' :Act->TO->Prop}{m:H1 β}{r:β}
theorem GS.bind{α:Type}{e:H1 α}{f:α->H1 β}(h:∀y,e=some y->GS P ops l E A (f y) r):GS P ops l E A (e.bind f) r:=
 λhm=>by
  cases e with
  | none=>simp at hm
  | some y=>exact h y rfl hm
end
end
section
section
variable{β:Type}{P:PP}{ops:OF j9}{rest:UV j9}{E:Act->TO->Prop}{A:Act->TO->Prop}{m:H1 β}{r:β}
section
variable{n:Nat}{D:UV If}{S:UV (Nat×Do)}{F:Fz}{hs:UV HP}
theorem GS.on{dst:H1 Tmp}(hj:(ops[j]?).bind (·.dst)=some t)(hv:K4 S t=some (.bool want))
  (k:GS P ops (⟨dst,op,ty,pos,after,none⟩::rest) E (Hd n D S F hs) m r):GS P ops (⟨dst,op,ty,pos,after,some (j,want)⟩::rest) E (Hd n D S F hs) m r:=by
 intro hm a w ha;have h:=k hm a w ha;have hy:=AX (ops:=ops) hj ha.1 hv;unfold wpS at h ⊢
 rw[AT<|by simp[Region.wanted]] at h
 rw[AT<|by simp[Region.wanted,hy]];exact h
theorem GS.off(hd:Nat.blt d n=true)(hj:(ops[j]?).bind (·.dst)=some t)(hv:K4 S t=some v)(hx:zO v want=true)
  (k:GS P ops rest E (Hd n D ((d,undef)::S) F hs) m r):GS P ops (⟨some d,op,ty,pos,after,some (j,want)⟩::rest) E (Hd n D S F hs) m r:=by
 intro hm a w ha
 have hy:yielded ops a.tmps j≠some want:=by
  have h:=ha.1.2.2 t _ hv;unfold yielded;rw[hj];simp only[DO];simp only[aT] at h
  cases e:a.tmps[t]? with
  | none=>simp
  | some u=>
   rw[e] at h;simp at h;subst h
   cases u<;>simp[zO] at hx ⊢
   exact hx
 unfold wpS;rw[RW<|by simp[Region.wanted,hy]];exact k hm _ w ⟨ha.1.put hd _,ha.2⟩
theorem GS.val(hd:Nat.blt d n=true)
  (hrun:∀a w,Hd n D S F hs a w->(execOp a.eval ⟨some d,op,ty,pos,after,none⟩).run P w= .ok (.value v) w)
  (k:GS P ops rest E (Hd n D ((d,v)::S) F hs) m r) (hnd:X5 op=true:=by rfl):GS P ops (⟨some d,op,ty,pos,after,none⟩::rest) E (Hd n D S F hs) m r:=
 have _:=hnd
 GS.step rfl λhm a w ha=>⟨v,hrun a w ha,k hm _ w ⟨ha.1.put hd v,ha.2⟩⟩
section
variable{d:Nat}{ty t t' :IF}{pos:String}{after:OF nA}{ox oy oz:x8}{v u:Do}{kd:pg}{x y:Int}
theorem GS.move(hd:Nat.blt d n=true)(hx:QI S ox=some v)(k:GS P ops rest E (Hd n D ((d,v)::S) F hs) m r):GS P ops (⟨some d,.move ox,ty,pos,after,none⟩::rest) E (Hd n D S F hs) m r:=GS.val hd (λa w ha=>by simp[execOp,ha.1.eval hx]) k
theorem GS.assign(hd:Nat.blt d n=true)(hx:QI S ox=some v)(k:GS P ops rest E (Hd n D ((d,v)::S) F hs) m r):GS P ops (⟨some d,.assign ox,ty,pos,after,none⟩::rest) E (Hd n D S F hs) m r:=GS.val hd (λa w ha=>by simp[execOp,ha.1.eval hx]) k
theorem GS.fe{f:Int->H1 β}(hd:Nat.blt d n=true)(hx:QI S ox=some (.int kd x))(k:∀y,y=x->GS P ops rest E (Hd n D ((d,.int kd y)::S) F hs) (f y) r):GS P ops (⟨some d,.assign ox,ty,pos,after,none⟩::rest) E (Hd n D S F hs) (QU x f) r:=GS.assign hd hx<|k x rfl
theorem GS.sI(hd:Nat.blt d n=true)(hz:QI S oz=some (.bool true))(hx:QI S ox=some v)(k:GS P ops rest E (Hd n D ((d,v)::S) F hs) m r):GS P ops (⟨some d,.pick oz ox oy,ty,pos,after,none⟩::rest) E (Hd n D S F hs) m r:=GS.val hd (λa w ha=>by simp[execOp,ha.1.eval hx,ha.1.eval hz,asBool]) k
theorem GS.cA(hd:Nat.blt d n=true)(hz:QI S oz=some (.bool false))(hy:QI S oy=some v)(k:GS P ops rest E (Hd n D ((d,v)::S) F hs) m r):GS P ops (⟨some d,.pick oz ox oy,ty,pos,after,none⟩::rest) E (Hd n D S F hs) m r:=GS.val hd (λa w ha=>by simp[execOp,ha.1.eval hy,ha.1.eval hz,asBool]) k
theorem GS.add(hd:Nat.blt d n=true)(hx:QI S ox=some (.int kd x))(hy:QI S oy=some (.int kd y))(k:GS P ops rest E (Hd n D ((d,.int kd<|kd.wrap<|x+y)::S) F hs) m r):GS P ops (⟨some d,.binOp .add t ox oy t',ty,pos,after,none⟩::rest) E (Hd n D S F hs) m r:=GS.val hd (λa w ha=>by simp[execOp,ha.1.eval hx,ha.1.eval hy,eqGuard,binOp,Op.intArith]) k
theorem GS.sub(hd:Nat.blt d n=true)(hx:QI S ox=some (.int kd x))(hy:QI S oy=some (.int kd y))(k:GS P ops rest E (Hd n D ((d,.int kd<|kd.wrap<|x - y)::S) F hs) m r):GS P ops (⟨some d,.binOp .sub t ox oy t',ty,pos,after,none⟩::rest) E (Hd n D S F hs) m r:=GS.val hd (λa w ha=>by simp[execOp,ha.1.eval hx,ha.1.eval hy,eqGuard,binOp,Op.intArith]) k
theorem GS.mul(hd:Nat.blt d n=true)(hx:QI S ox=some (.int kd x))(hy:QI S oy=some (.int kd y))(k:GS P ops rest E (Hd n D ((d,.int kd<|kd.wrap<|x*y)::S) F hs) m r):GS P ops (⟨some d,.binOp .mul t ox oy t',ty,pos,after,none⟩::rest) E (Hd n D S F hs) m r:=GS.val hd (λa w ha=>by simp[execOp,ha.1.eval hx,ha.1.eval hy,eqGuard,binOp,Op.intArith]) k
theorem GS.bw(hd:Nat.blt d n=true)(h0:y≠0)(hx:QI S ox=some (.int kd x))(hy:QI S oy=some (.int kd y))(k:GS P ops rest E (Hd n D ((d,.int kd<|kd.wrap<|x.tdiv y)::S) F hs) m r):GS P ops (⟨some d,.binOp .quo t ox oy t',ty,pos,after,none⟩::rest) E (Hd n D S F hs) m r:=GS.val hd (λa w ha=>by simp[execOp,ha.1.eval hx,ha.1.eval hy,eqGuard,binOp,Op.intDiv,h0]) k
theorem GS.quo{f:Int->H1 β}(hd:Nat.blt d n=true)(hx:QI S ox=some (.int kd x))(hy:QI S oy=some (.int kd y))(k:∀z,Gy kd x y=some z->GS P ops rest E (Hd n D ((d,.int kd z)::S) F hs) (f z) r):GS P ops (⟨some d,.binOp .quo t ox oy t',ty,pos,after,none⟩::rest) E (Hd n D S F hs) ((Gy kd x y).bind f) r:=
 GS.bind λz hz=>by
  have h0:y≠0:=λe=>by simp[Gy,e] at hz
  have:z=kd.wrap (x.tdiv y):=by simpa[Gy,h0] using hz.symm
  have hk:=k z hz;rw[this] at hk ⊢
  exact GS.bw hd h0 hx hy hk
theorem GS.lss(hd:Nat.blt d n=true)(hx:QI S ox=some (.int kd x))(hy:QI S oy=some (.int kd y))(k:GS P ops rest E (Hd n D ((d,.bool<|decide<|x < y)::S) F hs) m r):GS P ops (⟨some d,.binOp .lss t ox oy t',ty,pos,after,none⟩::rest) E (Hd n D S F hs) m r:=GS.val hd (λa w ha=>by simp[execOp,ha.1.eval hx,ha.1.eval hy,eqGuard,binOp,Op.intCmp]) k
theorem GS.leq(hd:Nat.blt d n=true)(hx:QI S ox=some (.int kd x))(hy:QI S oy=some (.int kd y))(k:GS P ops rest E (Hd n D ((d,.bool<|decide<|x<=y)::S) F hs) m r):GS P ops (⟨some d,.binOp .leq t ox oy t',ty,pos,after,none⟩::rest) E (Hd n D S F hs) m r:=GS.val hd (λa w ha=>by simp[execOp,ha.1.eval hx,ha.1.eval hy,eqGuard,binOp,Op.intCmp]) k
theorem GS.geq(hd:Nat.blt d n=true)(hx:QI S ox=some (.int kd x))(hy:QI S oy=some (.int kd y))(k:GS P ops rest E (Hd n D ((d,.bool<|decide<|x≥y)::S) F hs) m r):GS P ops (⟨some d,.binOp .geq t ox oy t',ty,pos,after,none⟩::rest) E (Hd n D S F hs) m r:=GS.val hd (λa w ha=>by simp[execOp,ha.1.eval hx,ha.1.eval hy,eqGuard,binOp,Op.intCmp]) k
theorem GS.not{b:Bool}(hd:Nat.blt d n=true)(hx:QI S ox=some (.bool b))(k:GS P ops rest E (Hd n D ((d,.bool<|!b)::S) F hs) m r):GS P ops (⟨some d,.unOp .not t ox,ty,pos,after,none⟩::rest) E (Hd n D S F hs) m r:=GS.val hd (λa w ha=>by simp[execOp,ha.1.eval hx,Op.unary]) k
theorem GS.build{fs:OF lu}{pl:OF (Nat×Nat)}{zc cs:OF Do}{z:Do}{parts:UV (Nat×x8)}{ps:UV (Nat×Do)}(hd:Nat.blt d n=true)(ht:P.underlying t=some (.struct fs))(hz:∀w,(zeroValue t).run P w= .ok z w)(hpl:Places P fs pl)
  (hx:Ax S parts=some ps) (hc:z.cells=zc) (hi:Instr.fill (pl[·]?) zc ps=some cs) (k:GS P ops rest E (Hd n D ((d,.agg cs)::S) F hs) m r):GS P ops (⟨some d,.build t parts.toArray,ty,pos,after,none⟩::rest) E (Hd n D S F hs) m r:=
 GS.val hd (λa w ha=>by
  have hm:=DZ ha.1 hx;subst hc;simp only[execOp,Instr.build,pI,hz,Result.andThen,Ji ht,hpl w];simp[hm,hi]) k
theorem GS.fieldAddr{i b o z:Nat}{fs:OF lu}{f:lu}(hd:Nat.blt d n=true)(ht:P.underlying t=some (.struct fs))(hf:fs[i]? =some f)(hz:∀w,(sizeOf f.type).run P w= .ok (z+1) w)
  (hx:QI S ox=some (.pointer<|some ⟨b,o,none⟩)) (k:GS P ops rest E (Hd n D ((d,.pointer<|some ⟨b,o+f.offset,none⟩)::S) F hs) m r):GS P ops (⟨some d,.fieldAddr t ox i,ty,pos,after,none⟩::rest) E (Hd n D S F hs) m r:=
 GS.val hd (λa w ha=>by simp[execOp,ha.1.eval hx,Instr.fieldAt,Ji ht,hf,Instr.sureAddr,fieldPlace,hz,WK]) k
theorem GS.fR(hd:Nat.blt d n=true)(ht:P.underlying t=some (.array len e))(hz:∀w,(sizeOf e).run P w= .ok z w)
  (hx:QI S ox=some (.pointer<|some ⟨b,o,none⟩)) (hy:QI S oy=some (.int kd x)) (hj:Yg len x=some j) (k:GS P ops rest E (Hd n D ((d,.pointer<|some ⟨b,o+j*z,none⟩)::S) F hs) m r):GS P ops (⟨some d,.indexAddr t ox oy,ty,pos,after,none⟩::rest) E (Hd n D S F hs) m r:=
 GS.val hd (λa w ha=>by
  obtain⟨h0,h1,h2,_⟩:=Q8 hj;subst h2;simp[execOp,ha.1.eval hx,ha.1.eval hy,Instr.indexAt,asIntOf,Ji ht,Instr.sureAddr,h0,h1,hz,WK]) k
theorem GS.dp(hd:Nat.blt d n=true)(ht:P.underlying t=some (.slice e))(hz:∀w,(sizeOf e).run P w= .ok z w)
  (hx:QI S ox=some (.slice (some ⟨b,o,none⟩) len cap)) (hy:QI S oy=some (.int kd x)) (hj:Yg len x=some j) (k:GS P ops rest E (Hd n D ((d,.pointer<|some ⟨b,o+j*z,none⟩)::S) F hs) m r):GS P ops (⟨some d,.indexAddr t ox oy,ty,pos,after,none⟩::rest) E (Hd n D S F hs) m r:=
 GS.val hd (λa w ha=>by
  obtain⟨h0,h1,h2,_⟩:=Q8 hj;subst h2;simp[execOp,ha.1.eval hx,ha.1.eval hy,Instr.indexAt,asIntOf,Ji ht,h0,h1,hz,WK]) k
theorem GS.fw(hd:Nat.blt d n=true)(hT:T[0]? =some t)(ht:P.underlying t=some (.slice e))(hx:QI S ox=some (.slice p len cap))(k:GS P ops rest E (Hd n D ((d,.int .i64 len)::S) F hs) m r):GS P ops (⟨some d,.call ⟨.builtin .len,#[ox],T⟩,ty,pos,after,none⟩::rest) E (Hd n D S F hs) m r:=GS.val hd (λa w ha=>by simp[execOp,resolve,invoke,builtin,Builtin.len_,ha.1.eval hx,hT,Ji ht,goInt]) k
theorem GS.min2(hd:Nat.blt d n=true)(hx:QI S ox=some (.int kd x))(hy:QI S oy=some (.int kd y))(k:GS P ops rest E (Hd n D ((d,.int kd<|if y < x then y else x)::S) F hs) m r):GS P ops (⟨some d,.call ⟨.builtin .min,#[ox,oy],T⟩,ty,pos,after,none⟩::rest) E (Hd n D S F hs) m r:=GS.val hd (λa w ha=>by simp[execOp,resolve,invoke,builtin,Builtin.min_,Builtin.min2,ha.1.eval hx,ha.1.eval hy]) k
theorem GS.max2(hd:Nat.blt d n=true)(hx:QI S ox=some (.int kd x))(hy:QI S oy=some (.int kd y))(k:GS P ops rest E (Hd n D ((d,.int kd<|if x < y then y else x)::S) F hs) m r):GS P ops (⟨some d,.call ⟨.builtin .max,#[ox,oy],T⟩,ty,pos,after,none⟩::rest) E (Hd n D S F hs) m r:=GS.val hd (λa w ha=>by simp[execOp,resolve,invoke,builtin,Builtin.max_,Builtin.max2,ha.1.eval hx,ha.1.eval hy]) k
end
end
end
end
section
section
variable{β:Type}{P:PP}{ops:OF j9}{rest:UV j9}{E:Act->TO->Prop}{m:H1 β}{r:β}
variable{n:Nat}{D:UV If}{S:UV (Nat×Do)}{F:Fz}{hs:UV HP}
variable{d:Nat}{ty t t' :IF}{pos:String}{after:OF nA}{ox oy oz:x8}{v u:Do}{kd:pg}{x y:Int}
theorem GS.U{T:Nat}(hd:Nat.blt d n=true)(hA:∀w,(isAgg t).run P w= .ok false w)(hx:QI S ox=some (.pointer<|some ⟨b,o,none⟩))(hb:F.mem b=some (.cells cs.toArray T fr))(hv:cs[o]? =some v)
  (k:GS P ops rest E (Hd n D ((d,v)::S) F hs) m r):GS P ops (⟨some d,.load t ox,ty,pos,after,none⟩::rest) E (Hd n D S F hs) m r:=
 GS.val hd (λa w ha=>by simp[execOp,ha.1.eval hx,HS hA (by rw[cell_of_heap<|ha.2.frozen hb];exact hv)]) k
theorem GS.fM{T:Nat}(hd:Nat.blt d n=true)(hA:∀w,(isAgg t).run P w= .ok false w)(hx:QI S ox=some (.pointer<|some ⟨b,o,none⟩))(hb:hs[i]? =some (pt b<|.cells cs.toArray T fr))(hv:cs[o]? =some v)
  (k:GS P ops rest E (Hd n D ((d,v)::S) F hs) m r):GS P ops (⟨some d,.load t ox,ty,pos,after,none⟩::rest) E (Hd n D S F hs) m r:=
 GS.val hd (λa w ha=>by simp[execOp,ha.1.eval hx,HS hA (by rw[cell_of_heap<|SH.fl hb ha.2];exact hv)]) k
theorem GS.fa{T:Nat}(hd:Nat.blt d n=true)(hA:∀w,(isAgg t).run P w= .ok true w)(hz:∀w,(sizeOf t).run P w= .ok z w)(hx:QI S ox=some (.pointer<|some ⟨b,o,none⟩))(hb:hs[i]? =some (pt b<|.cells cs.toArray T fr))(hv:(cs.drop o).take z=vs)(hl:vs.length=z)
  (k:GS P ops rest E (Hd n D ((d,.agg vs.toArray)::S) F hs) m r):GS P ops (⟨some d,.load t ox,ty,pos,after,none⟩::rest) E (Hd n D S F hs) m r:=
 GS.val hd (λa w ha=>by simp[execOp,ha.1.eval hx,DQ hA hz (SH.fl hb ha.2) hv hl]) k
end
end
section
section
variable{β:Type}{P:PP}{ops:OF j9}{rest l:UV j9}{E:Act->TO->Prop}{A:Act->TO->Prop}{m:H1 β}{r:β}
variable{n:Nat}{D:UV If}{S S0:UV (Nat×Do)}{F F' :Fz}{hs:UV HP}
theorem GS.andM{b:Bool}{m1:H1 Bool}{f:Bool->H1 β}(k d:Nat)
  (h1:b=true->∀z,GS P ops (l.take k) (vM n D d (.bool z) S F hs) (Hd n D S F hs) m1 z)
  (h2:b=false->GS P ops (l.take k) (vM n D d (.bool false) S F hs) (Hd n D S F hs) (some ()) ())
  (next:∀z F',F<=F'->GS P ops (l.drop k) E (Hd n D ((d,.bool z)::S) F' hs) (f z) r):GS P ops l E (Hd n D S F hs) ((if b then m1 else some false).bind f) r:=
 GS.tu k d (λz=>.bool z) (by
  intro z;cases hb:b with
  | true=>rw[AT rfl];exact h1 hb z
  | false=>rw[RW<|by simp];intro e;simp only[BY] at e;subst e;exact h2 hb rfl) (λz F' _ le=>next z F' le)
theorem GS.fQ{dst:H1 Tmp}{b:Bool}(hb:b=want)(hj:(ops[j]?).bind (·.dst)=some t)(hv:K4 S t=some (.bool b))
  (k:GS P ops (⟨dst,op,ty,pos,after,none⟩::rest) E (Hd n D S F hs) m r):GS P ops (⟨dst,op,ty,pos,after,some (j,want)⟩::rest) E (Hd n D S F hs) m r:=
 GS.on hj (hb▸hv) k
theorem GS.fL{b:Bool}(hb:b= !want)(hd:Nat.blt d n=true)(hj:(ops[j]?).bind (·.dst)=some t)(hv:K4 S t=some (.bool b))
  (k:GS P ops rest E (Hd n D ((d,undef)::S) F hs) m r):GS P ops (⟨some d,op,ty,pos,after,some (j,want)⟩::rest) E (Hd n D S F hs) m r:=
 GS.off hd hj hv (by subst hb;cases want<;>rfl) k
theorem GS.fO{b:Bool}(hb:b=true)(hd:Nat.blt d n=true)(hz:QI S oz=some (.bool b))(hx:QI S ox=some v)(k:GS P ops rest E (Hd n D ((d,v)::S) F hs) m r):GS P ops (⟨some d,.pick oz ox oy,ty,pos,after,none⟩::rest) E (Hd n D S F hs) m r:=GS.sI hd (hb▸hz) hx k
theorem GS.fP{b:Bool}(hb:b=false)(hd:Nat.blt d n=true)(hz:QI S oz=some (.bool b))(hy:QI S oy=some v)(k:GS P ops rest E (Hd n D ((d,v)::S) F hs) m r):GS P ops (⟨some d,.pick oz ox oy,ty,pos,after,none⟩::rest) E (Hd n D S F hs) m r:=GS.cA hd (hb▸hz) hy k
end
end
section
section
variable{β:Type}{P:PP}{ops:OF j9}{rest:UV j9}{E:Act->TO->Prop}{m:H1 β}{r:β}
variable{n:Nat}{D:UV If}{S:UV (Nat×Do)}{F:Fz}{hs:UV HP}
variable{d:Nat}{ty t t' :IF}{pos:String}{after:OF nA}{ox oy oz:x8}{v u:Do}{kd:pg}{x y:Int}
theorem GS.tE{l:UV α}{z:α}(hd:Nat.blt d n=true)(ht:P.underlying t=some (.slice e))(hz:∀w,(sizeOf e).run P w= .ok sz w)
  (hr:QG sz c F p cap l) (hx:QI S ox=some (.slice p l.length cap)) (hy:QI S oy=some (.int kd x)) (hi:ZZ l x=some z)
  (k:∀b o T fr cs,F.mem b=some (.cells (List.toArray cs) T fr)->c F z ((cs.drop o).take sz)->GS P ops rest E (Hd n D ((d,.pointer<|some ⟨b,o,none⟩)::S) F hs) m r):GS P ops (⟨some d,.indexAddr t ox oy,ty,pos,after,none⟩::rest) E (Hd n D S F hs) m r:=by
 obtain⟨h0,h1,h2⟩:=C7 hi;obtain⟨b,o,T,fr,cs,rfl,h3,h4⟩:=hr.at_ h2;have hj:Yg l.length x=some x.toNat:=by unfold Yg;rw[AT<|by omega]
 exact GS.dp hd ht hz hx hy hj<|k b _ T fr cs h3 h4
theorem GS.idx{l:UV α}{f:α->H1 β}(hd:Nat.blt d n=true)(ht:P.underlying t=some (.slice e))(hz:∀w,(sizeOf e).run P w= .ok sz w)
  (hr:QG sz c F p cap l) (hx:QI S ox=some (.slice p l.length cap)) (hy:QI S oy=some (.int kd x))
  (k:∀z b o T fr cs,ZZ l x=some z->F.mem b=some (.cells (List.toArray cs) T fr)->c F z ((cs.drop o).take sz)->GS P ops rest E (Hd n D ((d,.pointer<|some ⟨b,o,none⟩)::S) F hs) (f z) r):GS P ops (⟨some d,.indexAddr t ox oy,ty,pos,after,none⟩::rest) E (Hd n D S F hs) ((ZZ l x).bind f) r:=
 GS.bind λz hi=>GS.tE hd ht hz hr hx hy hi λb o T fr cs h1 h2=>k z b o T fr cs hi h1 h2
theorem GS.dk{l:UV α}{f:UV α->H1 β}(hd:Nat.blt d n=true)(ht:P.underlying t=some (.slice e))(hz:∀w,(sizeOf e).run P w= .ok sz w)
  (hr:QG sz c F p cap l) (hx:QI S ox=some (.slice p l.length cap)) (hy:QI S oy=some (.int kd x))
  (k:∀l' p' c',ZW l x l.length=some l'->QG sz c F p' c' l'->GS P ops rest E (Hd n D ((d,.slice p' l'.length c')::S) F hs) (f l') r):GS P ops (⟨some d,.slice t ox (some oy) none none,ty,pos,after,none⟩::rest) E (Hd n D S F hs) ((ZW l x l.length).bind f) r:=
 GS.bind λl' hl=>by
  have hl' :=hl;unfold ZW at hl
  split at hl
  ·rename_i h;simp only[BY] at hl
   have hcut:QG sz c F (p.map (·.add (x.toNat*sz))) (cap - x.toNat) l' :=by
    have:=hr.cut (lo:=x.toNat) (hi:=l.length) (cap' :=cap - x.toNat) (by omega) (IR _) (by have:=hr.1;omega) (by omega);simp only[ph] at hl
    rw[<-hl];exact this
   have hlen:l'.length=l.length - x.toNat:=by rw[<-hl];simp
   have hrep:QG sz c F (if cap=x.toNat then p else p.map (·.add (x.toNat*sz))) (cap - x.toNat) l' :=L7 (λh=>by
    have:l' =[]:=by
     have:=hcut.1;rw[<-h] at this;simp at this;exact this
    subst this;exact hcut.aj) hcut
   have hk:=k l' _ _ hl' hrep;rw[hlen] at hk
   refine GS.val hd (λa w ha=> ?_) hk;simp only[execOp,ha.1.eval hx,ha.1.eval hy,dO,nI,pI];rw[Aj ht hz<|by omega];rfl
  ·cases hl
end
end
section
section
variable{β:Type}{P:PP}{ops:OF j9}{rest:UV j9}{E:Act->TO->Prop}{A:Act->TO->Prop}{m:H1 β}{r:β}
variable{n:Nat}{D:UV If}{S S0:UV (Nat×Do)}{F F' :Fz}{hs:UV HP}
theorem GS.nilCheck{p:Of}(hd:Nat.blt d n=true)(hx:QI S ox=some (.pointer<|some p))(k:GS P ops rest E (Hd n D ((d,.pointer<|some p)::S) F hs) m r):GS P ops (⟨some d,.nilCheck ox,ty,pos,after,none⟩::rest) E (Hd n D S F hs) m r:=GS.val hd (λa w ha=>by simp[execOp,ha.1.eval hx]) k
end
end
section
section
variable{β:Type}{P:PP}{ops:OF j9}{rest:UV j9}{E:Act->TO->Prop}{m:H1 β}{r:β}
variable{n:Nat}{D:UV If}{S:UV (Nat×Do)}{F F0:Fz}{hs:UV HP}
variable{d:Nat}{d' :H1 Nat}{ty t e:IF}{pos:String}{after:OF nA}{ox oy oz:x8}{v:Do}
theorem GS.fK{a:Of}(hp:p=some a)(hd:Nat.blt d n=true)(hx:QI S ox=some (.pointer p))(k:GS P ops rest E (Hd n D ((d,.pointer<|some a)::S) F hs) m r):GS P ops (⟨some d,.nilCheck ox,ty,pos,after,none⟩::rest) E (Hd n D S F hs) m r:=by
 subst hp;exact GS.nilCheck hd hx k
section
variable{α:Type}{γ T j b o:Nat}{c:UR α}{xs:UV α}{x:α}
theorem GS.fT{Φ:Do->Prop}(i:Nat)(hi:hs[i]? =some (Qy γ (U4 T c) F0 xs))(le0:F0<=F)(hb:VW γ F j b)(hel:xs[j]? =some x)(hd:Nat.blt d n=true)(hA:∀w,(isAgg t).run P w= .ok false w)
  (hx:QI S ox=some (.pointer<|some ⟨b,o,none⟩)) (hg:∀vs,c F x vs->∃v,vs[o]? =some v/\Φ v) (k:∀v,Φ v->GS P ops rest E (Hd n D ((d,v)::S) F hs) m r):GS P ops (⟨some d,.load t ox,ty,pos,after,none⟩::rest) E (Hd n D S F hs) m r:=by
 refine GS.step rfl λhm a w ha=> ?_;obtain⟨vs,h1,h2⟩:=(ha.2.pull hi).bX hb hel;obtain⟨v,hv,hΦ⟩:=hg _<|h1 F le0;refine⟨v,?_,k v hΦ hm _ _ ⟨ha.1.put hd _,ha.2⟩⟩;simp[execOp,ha.1.eval hx,HS hA (by rw[cell_of_heap h2];exact hv)]
end
section
variable{K V:Type}{ck:K->Do}{rv:Fz->V->Do->Prop}{γ j b:Nat}{xs:UV (UV<|K×V)}{l l' :UV (K×V)}{key:K}{val z:V}{kt vt:IF}
variable[BEq K][LawfulBEq K]
theorem GS.dY{p:H1 Nat}{zv:Do}(i:Nat)(hi:hs[i]? =some (Qy γ (QW ck rv) F0 xs))(le0:F0<=F)(hb:VW γ F j b)(hp:p=some b)(hel:xs[j]? =some l)(hd:Nat.blt d n=true)(ht:P.underlying t=some (.map kt vt))(ok:XI P kt ck)(hzv:∀w,(zeroValue vt).run P w= .ok zv w)(hz:rv F z zv)(hx:QI S ox=some (.map p))(hy:QI S oy=some (ck key))
  (k:∀v,rv F ((Qb l key).getD z) v->GS P ops rest E (Hd n D ((d,v)::S) F hs) m r):GS P ops (⟨some d,.lookup t ox oy false,ty,pos,after,none⟩::rest) E (Hd n D S F hs) m r:=by
 subst hp;refine GS.step rfl λhm a w ha=> ?_;obtain⟨es,c,l',hpm,hn,hb',hr,_⟩:=(ha.2.pull hi).bf hb hel;obtain⟨v,hv,hrun⟩:=HR (key:=key) hb' hr le0 ht ok hzv hz false;rw[UA hpm hn] at hv
 refine⟨v,?_,k v hv hm _ _ ⟨ha.1.put hd _,ha.2⟩⟩;simp[execOp,ha.1.eval hx,ha.1.eval hy,hrun]
end
end
end
section
variable{O:H1 Nat}{β:Type}{P:PP}{ops:OF j9}{rest:UV j9}{ks:UV Kt}{Q:pU->Act->TO->Prop}{m:H1 β}{r:β}{n:Nat}{D:UV If}{S:UV (Nat×Do)}{F:Fz}{hs:UV HP}{d:Nat}{ty:IF}{pos:String}{after:OF nA}
theorem GL.dK{fn:Fn}{first caps:UV x8}{us:UV Do}(hd:Nat.blt d n=true)(hx0:UO S first=some us)(hx:UO S caps=some vs)(k:GL O P ops rest ks Q (Hd n D ((d,.func fn us.toArray vs.toArray)::S) F hs) m r):GL O P ops (⟨some d,.makeFunc fn first.toArray caps.toArray,ty,pos,after,none⟩::rest) ks Q (Hd n D S F hs) m r:=GL.val hd (λa w ha=>by simp[execOp,Instr.makeFunc,Xv ha.1 hx,Xv ha.1 hx0]) k
end
end
section
variable{α ρ:Type}
def Ih(P:PP)(F:Fz)(f:x4)(caps:UV Do)(arg:α->Fz->UV Do->Prop)(Hs:Fz->ρ->UV HP)(r0:ρ)(q:ρ×UV α):Prop:=
 (∀args w,(callFunc f args).run P w= .ok (.enter f args) w)/\
 ∀(σ:Type) (ly:Nat) (Y:σ->Fz->HP) (Z:HP) (upd:ρ->σ) (y:α->σ->H1 (σ×Bool)) (F1:Fz),F<=F1->UY P ly F1 arg Y y->(∀r F',F1<=F'->∀m,Qh (Hs F' r++[Z]) m->Y (upd r) F' m)->
  Xz P f (.func (.yield ly) #[] #[]::caps).toArray F1 (Hs F1 r0++[Z]) (Un y q.2<|upd q.1) (λ_ _ _=>True) (λs' F' =>[Y s' F'])
theorem Ih.mk'{P:PP}{F:Fz}{f:x4}{caps:UV Do}{arg:α->Fz->UV Do->Prop}{Hs:Fz->ρ->UV HP}{r0:ρ}{q:ρ×UV α}(h1:∀args w,(callFunc f args).run P w= .ok (.enter f args) w)
  (h2:∀(σ:Type) (ly:Nat) (Y:σ->Fz->HP) (Z:HP) (upd:ρ->σ) (y:α->σ->H1 (σ×Bool)) (F1:Fz),F<=F1->UY P ly F1 arg Y y->(∀r F',F1<=F'->∀m,Qh (Hs F' r++[Z]) m->Y (upd r) F' m)->
   ∃m,Xz P f (.func (.yield ly) #[] #[]::caps).toArray F1 (Hs F1 r0++[Z]) m (λ_ _ _=>True) (λs' F' =>[Y s' F'])/\∀r,Un y q.2 (upd q.1)=some r->m=some r):Ih P F f caps arg Hs r0 q:=
 ⟨h1,λσ ly Y Z upd y F1 le hy hp r hr=>let⟨_,h,k⟩:=h2 σ ly Y Z upd y F1 le hy hp;h r (k r hr)⟩
section
variable{O:H1 Nat}{β:Type}{P:PP}{ks:UV Kt}{Q:pU->Act->TO->Prop}{m:H1 β}{r:β}{n:Nat}{D:UV If}{S:UV (Nat×Do)}{F:Fz}{hs:UV HP}
theorem GC.tY{c:rh}{Hs:UV HP}{Y:HP}(is:UV Nat)(hi:JG is hs=Hs)(hp:∀m,Qh Hs m->Y m)(k:GC O P c ks Q (Hd n D S F<|Y::JV is hs) m r):GC O P c ks Q (Hd n D S F hs) m r:=GC.bg (λ_ _ h=>⟨h.1,h.2.mono λ_ hm=>QQ (λm hm=>hp m<|hi▸hm)<|Vs (ks:=is) hm⟩) k
variable{α τ ρ:Type}{g:x8}{ps:UV Tmp}{assign body:rh}{f:x4}{caps:UV Do}{arg:α->Fz->UV Do->Prop}
theorem GC.sY{q:ρ×UV α}{bm:α->τ->H1 τ}{k:τ->H1 β}(Hs:Fz->ρ->UV HP)(r0:ρ)(s0:ρ->τ)(is:UV Nat)(I:τ->Fz->UV HP->Prop)(hg:QI S g=some (.func (.func f) #[] caps.toArray))(hit:Ih P F f caps arg Hs r0 q)(hps:(ps.all λp=>Nat.blt p n)=true)(harg:∀x F' vs,arg x F' vs->vs.length=ps.length)
  (hi:JG is hs=Hs F r0) (hI:∀r F',F<=F'->I (s0 r) F' (Hs F' r++JV is hs))
  (round:∀l L F0 F1 x vs s ctl R hs',F<=F0->F0<=F1->arg x F1 vs->I s F0 hs'->GC (some l) P assign [] (BP P l body<|RP l L I (fun(_:Empty) _ _=>False) F1 R<|.next ctl) (Hd n [] ((ps.zip vs).reverse++S) F1<|pt l (Vu L)::R::hs') (bm x s) ctl)
  (next:∀q' F0 F' s hs',F<=F0->F0<=F'->Ys bm q.2 (s0 q.1)=some s->I s F0 hs'->GE none P ks Q (Hd n (U2 q' ::D) S F'<|pt q' (.deferred<|some [])::hs') (k s) r):GC none P (.rangeFunc g ps.toArray assign body) ks Q (Hd n D S F hs) ((Ys bm q.2<|s0 q.1).bind k) r:=by
 intro hm a w ha;cases hl:Ys bm q.2 (s0 q.1) with
 | none=>rw[hl] at hm;cases hm
 | some sf=>
  rw[hl] at hm
  refine mZ λfn _=> ?_
  let L:Loop:={state:=.ready,pending:=none,fn,tmps:=a.tmps,params:=ps.toArray,assign,body,defers:=w.heap.size}
  let J:Empty->Fz->UV HP->Prop:=λ_ _ _=>False
  let Z:HP:=star (pt (w.heap.size+1)<|Vu L)<|Qh<|JV is hs
  have hw1:SH ((w.alloc<|.deferred<|some []).alloc<|.loop L) F (star (Qh<|Hs F r0++[Z])<|Qh [pt w.heap.size<|.deferred<|some []]):=by
   have h1:=(ha.2.alloc<|.deferred<|some []).alloc<|.loop L;rw[nk] at h1
   refine h1.mono λm hm=> ?_
   have h2:star (pt (w.heap.size+1)<|Vu L) (star (pt w.heap.size<|.deferred<|some [])<|star (Qh<|Hs F r0)<|Qh<|JV is hs) m:=
    QS (λm hm=>QS (λm hm=>by have:=Vs (ks:=is) hm;rw[hi] at this;exact this) hm) hm
   have h3:=TS<|QS (λm hm=>Ze hm)<|Ze h2;refine QQ (λm hm=> ?_)<|QS (λm hm=>J1 hm) h3;exact Kx<|QS (λm hm=>J1 (p:=Z) hm) hm
  have hY:UY P (w.heap.size+1) F arg (yS F (w.heap.size+1) L I J) (zp λx s=>(bm x s).map UE.next):=by
   refine P4 (S' :=λvs=>(ps.zip vs).reverse++S) (assign:=assign) (body:=body) (λx F' vs hx=>by rw[harg x F' vs hx];simp[L]) rfl rfl (λvs _=>DN hps ⟨ha.1.1,rfl,ha.1.2.2⟩) ?_;intro F0 F1 x vs s ctl R hs' h0 h1 hx hI hmm;cases hb:bm x s with
   | none=>rw[hb] at hmm;cases hmm
   | some s' =>
    rw[hb] at hmm
    simp only[dO,BY] at hmm
    subst hmm;exact round _ L F0 F1 x vs s s' R hs' h0 h1 hx hI hb
  have hpk:∀r F',F<=F'->∀m,Qh (Hs F' r++[Z]) m->yS F (w.heap.size+1) L I J (.next<|s0 r) F' m:=λr F' le m hm=>by
   refine⟨F',Hs F' r++JV is hs,le,Fz.le_refl _,hI r F' le,?_⟩;have h1:=VO hm
   have h2:star (Qh<|Hs F' r) Z m:=QS (λm hm=>by
    obtain⟨m1,_,_,s1,_,hp,_⟩:=hm;obtain⟨a1,a2,d,t1,t2,g1,g2⟩:=hp;exact⟨a1,a2,d,t1.trans s1,t2.trans s1,g1,g2⟩) h1
   exact QS (λm hm=>Kx hm)<|Ze h2
  have hc:=hit.2 _ _ _ Z (λr=>.next<|s0 r) _ F (Fz.le_refl F) hY hpk (.next sf) (by rw[FA,DR,hl];rfl) _ _ hw1;refine⟨w.heap.size+1,[U2 w.heap.size],(w.alloc<|.deferred<|some []).alloc<|.loop L,⟨.fn (.func f) caps.toArray,#[.func (.yield<|w.heap.size+1) #[] #[]]⟩,(w.alloc<|.deferred<|some []).alloc<|.loop L,f,(.func (.yield<|w.heap.size+1) #[] #[]::caps).toArray,(w.alloc<|.deferred<|some []).alloc<|.loop L,nP fn a.tmps ps.toArray assign body,?_,λ_ _=>trivial,?_,λe=>(by cases e),?_⟩
  ·have hc0:a.eval (.const<|.func (.yield<|w.heap.size+1) #[] #[])= .func (.yield<|w.heap.size+1) #[] #[]:=rfl;simp[resolve,Deferred.ofValue,ha.1.eval hg,hc0]
  ·simp[invoke,hit.1]
  ·refine pW.2<|hc.mono ?_;rintro _ w' ⟨F',v,le,rfl, -,hw'⟩;have hw2:SH w' F' (star (yS F (w.heap.size+1) L I J (.next sf) F')<|Qh [pt w.heap.size<|.deferred<|some []]):=hw'.mono λm hm=>WM hm;obtain⟨F0,hs',h0,h1,hI',h3⟩:=SH.dv hw2;refine⟨none,_,DP<|SH.fl (k:=0) rfl h3,?_⟩;have h4:SH _ F' (Qh<|pt w.heap.size (.deferred<|some [])::hs'):=(SH.dF 0<|SH.putAt (k:=0) rfl h3<|Ao L none).mono λm hm=>WM hm;exact next w.heap.size F0 F' sf hs' h0 h1 hl hI' hm _ _ ⟨⟨ha.1.1,by simp[ha.1.2.1],ha.1.2.2⟩,h4⟩
end
end
section
variable{V K α β:Type}{rv:Fz->V->Do->Prop}{xs:UV (UV<|K×V)}{S:UV (Nat×Do)}{pt':H1 Of}{ck:K->Do}{F F0:Fz}{w:TO}{hs:UV HP}{P:PP}{n γ b:Nat}{a:Act}
variable{O:H1 Nat}
section
variable{K V:Type}
def yA(ck:K->Do)(rv:Fz->V->Do->Prop)(F:Fz)(b it:Nat)(M todo:UV (K×V))(cur:H1 (K×V)):HP:=λm=>∃(es:OF pY) (clock:Nat) (l' :UV (K×V)) (seen:OF Nat) (last:Nat),
 star (pt b<|.map es clock) (pt it<|.mapIter (some b) clock seen last) m/\UZ ck rv F es.toList l'/\YI es.toList clock/\(seen.isEmpty=false->last=clock)/\
 todo.Perm (((es.toList.zip l').filter λz=> !seen.contains z.1.born).map Prod.snd)/\l'.Perm M/\(M.map Prod.fst).Nodup/\
 ∀x,cur=some x->∃z∈es.toList.zip l',z.2=x/\seen.back? =some z.1.born
def Y9(γ:Nat)(ck:K->Do)(rv:Fz->V->Do->Prop)(F:Fz)(j b it:Nat)(xs:UV (UV<|K×V))(todo:UV (K×V))(cur:H1 (K×V)):HP:=λm=>∃M,xs[j]? =some M/\star (yA ck rv F b it M todo cur) (hole γ (QW ck rv) F j b xs) m
variable{ck:K->Do}{rv:Fz->V->Do->Prop}{F F0:Fz}{w:TO}{H:HP}{b it γ j:Nat}{M todo:UV (K×V)}{cur:H1 (K×V)}{xs:UV (UV<|K×V)}
theorem W8(h:SH w F (star (Y9 γ ck rv F0 j b it xs todo cur) H)):∃(M:UV (K×V)) (es:OF pY) (clock:Nat) (l' :UV (K×V)) (seen:OF Nat) (last:Nat),xs[j]? =some M/\
  w.heap[b]? =some (.map es clock)/\w.heap[it]? =some (.mapIter (some b) clock seen last)/\SH w F (star (pt it<|.mapIter (some b) clock seen last)<|star (pt b<|.map es clock)<|star (hole γ (QW ck rv) F0 j b xs) H)/\UZ ck rv F0 es.toList l'/\YI es.toList clock/\(seen.isEmpty=false->last=clock)/\
  todo.Perm (((es.toList.zip l').filter λz=> !seen.contains z.1.born).map Prod.snd)/\l'.Perm M/\(M.map Prod.fst).Nodup/\∀x,cur=some x->∃z∈es.toList.zip l',z.2=x/\seen.back? =some z.1.born:=by
 obtain⟨m,⟨m1,m2,d,s1,s2,⟨M,hM,hA⟩,hq⟩,k⟩:=h;have h1:=Wq ⟨m1,m2,d,s1,s2,hA,hq⟩;obtain⟨m3,m4,d',t1,t2,⟨es,c,l',seen,last,h2,h3⟩,hq'⟩:=h1;have hs:SH w F (star (pt b<|.map es c)<|star (pt it<|.mapIter (some b) c seen last)<|star (hole γ (QW ck rv) F0 j b xs) H):=⟨m,Wq ⟨m3,m4,d',t1,t2,h2,hq'⟩,k⟩;have hs' :SH w F (star (pt it<|.mapIter (some b) c seen last)<|star (pt b<|.map es c)<|star (hole γ (QW ck rv) F0 j b xs) H):=hs.mono λm hm=>Ze hm;exact⟨M,es,c,l',seen,last,hM,hs.owned,hs'.owned,hs',h3⟩
theorem HB{es:OF pY}{clock:Nat}{l' :UV (K×V)}{seen:OF Nat}{last:Nat}(hM:xs[j]? =some M)(h:SH w F (star (pt it<|.mapIter (some b) clock seen last)<|star (pt b<|.map es clock)<|star (hole γ (QW ck rv) F0 j b xs) H))
  (h1:UZ ck rv F0 es.toList l') (h2:YI es.toList clock) (h3:seen.isEmpty=false->last=clock) (h4:todo.Perm (((es.toList.zip l').filter λz=> !seen.contains z.1.born).map Prod.snd)) (h5:l'.Perm M) (h6:(M.map Prod.fst).Nodup) (h7:∀x,cur=some x->∃z∈es.toList.zip l',z.2=x/\seen.back? =some z.1.born):SH w F (star (Y9 γ ck rv F0 j b it xs todo cur) H):=h.mono λm hm=>by
 have hm1:=V8<|Ze hm;have hm2:=V8 hm1;exact QQ (λm hm=>⟨M,hM,QQ (λm hm=>⟨es,clock,l',seen,last,hm,h1,h2,h3,h4,h5,h6,h7⟩) hm⟩) hm2
theorem ke{C:Fz->Nat->UV (K×V)->HP}{y:UV (K×V)}(h:SH w F (star (hole γ C F0 j b xs) H)):SH w F (star (hole γ C F0 j b<|xs.set j y) H):=h.mono λm hm=>QQ (λm ⟨bs,h1,h2,h3⟩=>⟨bs,by simpa using h1,h2,by rw[<-P2 (f:=C F0) h2,eH];exact h3⟩) hm
theorem kc(le:F0<=F)(hb:VW γ F j b)(h:SH w F (star (Y9 γ ck rv F0 j b it xs todo cur) H)):SH w F (star (Y9 γ ck rv F j b it xs todo cur) H):=by
 obtain⟨M,es,c,l',seen,last,hM,_,_,hs,h1,h2,h3,h4,h5,h6,h7⟩:=W8 h;refine HB hM ?_ (h1.up le) h2 h3 h4 h5 h6 h7;have hh:SH w F (star (hole γ (QW ck rv) F0 j b xs)<|star (pt it<|.mapIter (some b) c seen last)<|star (pt b<|.map es c) H):=hs.mono λm hm=>Ze<|QS (λm hm=>Ze hm) hm;exact(hh.aY X6 le hb).mono λm hm=>QS (λm hm=>Ze hm)<|Ze hm
theorem Oy(h:SH w F (star (Y9 γ ck rv F0 j b it xs [] cur) H)):SH w F (star (Qy γ (QW ck rv) F0 xs) H):=by
 obtain⟨M,es,c,l',seen,last,hM,_,_,hs,h1,h2,h3,h4,h5,h6,h7⟩:=W8 h;have hs1:SH w F (star (QW ck rv F0 b M)<|star (hole γ (QW ck rv) F0 j b xs) H):=hs.drop.mono λm hm=>QQ (λm hm=>⟨l',h5,h6,es,c,hm,h1,h2⟩) hm;have:=SH.cf X6 (Fz.le_refl _) hs1 (AC.1 hM).1;rw[<-B6 hM] at this;exact this
variable[BEq K][LawfulBEq K]
omit [LawfulBEq K] in
theorem UZ.tq{kd:ma}{k:K}(hk:∀a b,Instr.sameNow kd (ck a) (ck b)=some (a==b)):∀{es:UV pY} {l:UV (K×V)} (i0:Nat),UZ ck rv F es l->
   (Instr.findNow kd (ck k) es i0=some none/\Ju l k=l/\∀x∈l,(k==x.1)=false)∨
   (∃i e x,Instr.findNow kd (ck k) es i0=some (some (i0+i,e))/\i < es.length/\UZ ck rv F (es.eraseIdx i) (Ju l k)/\Ju l k=l.eraseIdx i/\l[i]? =some x/\(k==x.1)=true)
 | [],[],_,_=>.inl ⟨rfl,rfl,λ_ h=>by cases h⟩
 | e::es,x::l,i0,⟨h1,h2,h3⟩=>by
  by_cases hb:(k==x.1)=true
  ·right;refine⟨0,e.val,x,by simp[Instr.findNow,h1,hk,hb],by simp,?_,by simp[Ju,hb],rfl,hb⟩;simp only[Ju,hb,Nm,lr];exact h3
  ·have hb' :(k==x.1)=false:=by simpa using hb
   rcases UZ.tq (k:=k) hk (i0+1) h3 with⟨g1,g2,g3⟩ | ⟨i,e1,y,g1,g2,g3,g4,g5,g6⟩
   ·left;refine⟨by simp[Instr.findNow,h1,hk,hb',g1],by simp[Ju,hb',g2],λz hz=> ?_⟩;rcases y1.1 hz with rfl | hz
    ·exact hb'
    ·exact g3 z hz
   ·right;refine⟨i+1,e1,y,by simp[Instr.findNow,h1,hk,hb',g1];omega,by simpa using g2,?_,by simp[Ju,hb',g4],by simpa using g5,g6⟩;simp only[Ju,hb',By,RK,nE];exact⟨h1,h2,g3⟩
theorem Md:∀{es:UV α} {l:UV β} {i:Nat},(es.eraseIdx i).zip (l.eraseIdx i)=(es.zip l).eraseIdx i
 | [],_,_=>by simp
 | _::_,[],_=>by simp
 | _::_,_::_,0=>rfl
 | _::es,_::l,i+1=>by simp[Md (es:=es) (l:=l)]
theorem Aw{p:α->Bool}:∀{l:UV α} {i:Nat} {x:α},l[i]? =some x->p x=false->(l.eraseIdx i).filter p=l.filter p
 | [],_,_,h,_=>by simp at h
 | y::l,0,x,h,hp=>by simp at h;subst h;simp[hp]
 | y::l,i+1,x,h,hp=>by
  simp only[rI] at h
  simp only[nE,pv,Aw h hp]
omit [BEq K] [LawfulBEq K] in
theorem NL:∀{l:UV (K×V)} {x y:K×V},(l.map Prod.fst).Nodup->x∈l->y∈l->x.1=y.1->x=y
 | [],_,_,_,h,_,_=>by cases h
 | z::l,x,y,hn,hx,hy,e=>by
  simp only[s6,rP] at hn
  rcases y1.1 hx with rfl | hx1<;>rcases y1.1 hy with rfl | hy1
  ·rfl
  ·exact absurd (pK (f:=Prod.fst) hy1) (by rw[<-e];exact hn.1)
  ·exact absurd (pK (f:=Prod.fst) hx1) (by rw[e];exact hn.1)
  ·exact NL hn.2 hx1 hy1 e
end
section
variable{β:Type}{P:PP}{ops:OF j9}{rest:UV j9}{ks:UV Kt}{Q:pU->Act->TO->Prop}{m:H1 β}{r:β}
variable{n:Nat}{D:UV If}{S:UV (Nat×Do)}{F F0:Fz}{hs:UV HP}{d:Nat}{d' :H1 Nat}{ty t kt vt:IF}{pos:String}{after:OF nA}{ox oy:x8}{cd:rh}
variable{K V:Type}{ck:K->Do}{rv:Fz->V->Do->Prop}{b it γ j i' :Nat}{l todo:UV (K×V)}{cur:H1 (K×V)}{xs:UV (UV<|K×V)}
theorem GL.az{p:H1 Nat}(i:Nat)(hi:hs[i]? =some (Qy γ (QW ck rv) F0 xs))(hb:VW γ F j b)(hp:p=some b)(hel:xs[j]? =some l)(hd:Nat.blt d n=true)(ht:P.underlying t=some (.map kt vt))(hx:QI S ox=some (.map p))
  (k:∀it,(l.map Prod.fst).Nodup->GL O P ops rest ks Q (Hd n D ((d,.pointer<|some ⟨it,0,none⟩)::S) F<|hs.set i<|Y9 γ ck rv F0 j b it xs l none) m r):GL O P ops (⟨some d,.range t ox,ty,pos,after,none⟩::rest) ks Q (Hd n D S F hs) m r:=by
 subst hp;refine GL.step rfl (.inr rfl) λhm a w ha=> ?_;have h0:=(ha.2.pull hi).bn hb hel;obtain⟨es,c,l',hpm,hn,hh,hr,hsh,hbi⟩:=WD h0;refine⟨.pointer<|some ⟨w.heap.size,0,none⟩,w.alloc<|.mapIter (some b) c #[] c,?_,k w.heap.size hn hm _ _ ⟨ha.1.put hd _,?_⟩⟩
 ·simp[execOp,Instr.range,ha.1.eval hx,Ji ht,YJ hh]
 ·have h1:=hsh.alloc<|.mapIter (some b) c #[] c;refine SH.push hi<|HB hel h1 hr hbi (λh=>by simp at h) ?_ hpm hn λ_ h=>by cases h
  have e:((es.toList.zip l').filter λz=> !(#[]:OF Nat).contains z.1.born)=es.toList.zip l' :=by
   rw[rX];intro z _;simp
  rw[e,hr.dM.1];exact hpm.symm
theorem GL.tA(i:Nat)(hi:hs[i]? =some (Y9 γ ck rv F0 j b it xs [] cur))(hp:pt' =some ⟨it,0,none⟩)(hd:Nat.blt d n=true)(hx:QI S ox=some (.pointer pt'))
  (k:GL O P ops rest ks Q (Hd n D ((d,.tuple #[.bool false])::S) F hs) m r):GL O P ops (⟨some d,.next ox false,ty,pos,after,none⟩::rest) ks Q (Hd n D S F hs) m r:=by
 subst hp;refine GL.step rfl (.inr rfl) λhm a w ha=> ?_;obtain⟨M,es,c,l',seen,last,_,hb,hit,_,hr,hbi,hl,ht,_⟩:=W8<|ha.2.pull hi;obtain⟨k',hk'⟩:=(Al (P:=P) (ty:=ty) hb hit hr hbi hl ht).1 rfl;refine⟨_,{w with drawn:=k'},?_,k hm _ _ ⟨ha.1.put hd _,ha.2.drew _⟩⟩;simp[execOp,ha.1.eval hx,hk']
theorem GL.a8(i:Nat)(hi:hs[i]? =some (Y9 γ ck rv F0 j b it xs todo cur))(hne:todo≠[])(hp:pt' =some ⟨it,0,none⟩)(hd:Nat.blt d n=true)(hx:QI S ox=some (.pointer pt'))
  (k:∀x rest' v,(x::rest').Perm todo->(∀F',F0<=F'->rv F' x.2 v)->GL O P ops rest ks Q (Hd n D ((d,.tuple #[.bool true,ck x.1,v])::S) F<|hs.set i<|Y9 γ ck rv F0 j b it xs rest'<|some x) m r):GL O P ops (⟨some d,.next ox false,ty,pos,after,none⟩::rest) ks Q (Hd n D S F hs) m r:=by
 subst hp;refine GL.step rfl (.inr rfl) λhm a w ha=> ?_;obtain⟨M,es,c,l',seen,last,hM,hb,hit,hsh,hr,hbi,hl,ht,hpm,hnM,_⟩:=W8<|ha.2.pull hi;obtain⟨z,hz,hseen,k',hk'⟩:=(Al (P:=P) (ty:=ty) hb hit hr hbi hl ht).2 hne;obtain⟨hkey,hval⟩:=hr.bO hz;have hnd:=TH hbi hr;have hsp:=GY (p:=λy:pY×(K×V)=> !seen.contains y.1.born) hnd hz<|by simp only[hseen,pG]
 have e1:∀y:pY×(K×V),(!(seen.push z.1.born).contains y.1.born)=(!seen.contains y.1.born&& !(y.1.born==z.1.born)):=λy=>by
  rw[mn,eJ]
 refine⟨_,put {w with drawn:=k'} it<|.mapIter (some b) c (seen.push z.1.born) c,?_,k z.2 (((es.toList.zip l').filter λy=> !(seen.push z.1.born).contains y.1.born).map Prod.snd) z.1.val ?_ hval hm _ _ ⟨by rw[<-hkey];exact ha.1.put hd _,SH.push hi<|HB hM ((hsh.drew _).put (o' :=.mapIter (some b) c (seen.push z.1.born) c)) hr hbi (λ_=>rfl) (.refl _) hpm hnM λx hx=> ?_⟩⟩
 ·simp[execOp,ha.1.eval hx,hk']
 ·refine List.Perm.trans ?_ ht.symm;have:=(hsp.map Prod.snd).symm;simp only[s6] at this
  refine List.Perm.trans (.of_eq ?_) this;congr 2;exact pZ λy _=>e1 y
 ·simp only[BY] at hx
  exact⟨z,hz,hx,by simp⟩
theorem GL.tG{x:K×V}(i:Nat)(hi:hs[i]? =some (Y9 γ ck rv F0 j b it xs todo<|some x))(hp:pt' =some ⟨it,0,none⟩)(hd:Nat.blt d n=true)(hx:QI S ox=some (.pointer pt'))
  (k:∀v,(∀F',F0<=F'->rv F' x.2 v)->GL O P ops rest ks Q (Hd n D ((d,.tuple #[ck x.1,v])::S) F hs) m r):GL O P ops (⟨some d,.entry ox,ty,pos,after,none⟩::rest) ks Q (Hd n D S F hs) m r:=by
 subst hp;refine GL.step rfl (.inr rfl) λhm a w ha=> ?_;obtain⟨M,es,c,l',seen,last,hM,hb,hit,hsh,hr,hbi,hl,ht,hpm,hnM,hlast⟩:=W8<|ha.2.pull hi;obtain⟨z,hz,hzx,hback⟩:=hlast x rfl;obtain⟨hkey,hval⟩:=hr.bO hz;subst hzx
 have hne:seen.isEmpty=false:=by
  cases h:seen.isEmpty with
  | false=>rfl
  | true=>
   have:seen=#[]:=by simpa using h
   subst this;simp at hback
 have hlc:=hl hne;subst hlc
 have hfind:es.find? (λe=>e.born==z.1.born)=some z.1:=by
  have hmem:z.1∈es.toList:=by rw[<-hr.dM.2];exact pK hz
  have hnd:(es.toList.map (·.born)).Nodup:=hbi.1.imp λh=>mv h
  have:es.toList.find? (λe=>e.born==z.1.born)=some z.1:=by
   clear hb hit hr hbi ht hpm hlast hz hval hkey hsh hback hl
   generalize es.toList=L at hmem hnd
   induction L with
   | nil=>cases hmem
   | cons y L ih=>
    simp only[s6,rP] at hnd
    rcases y1.1 hmem with e | e
    ·rw[ri,<-e];simp
    ·have:(y.born==z.1.born)=false:=by
      cases hbb:y.born==z.1.born with
      | false=>rfl
      | true=>exact absurd (pK (f:=(·.born)) e) (by rw[<-(rb.1 hbb:y.born=z.1.born)];exact hnd.1)
     rw[ri,this];exact ih e hnd.2
  simpa using this
 refine⟨_,w,?_,k z.1.val hval hm _ _ ⟨by rw[<-hkey];exact ha.1.put hd _,ha.2⟩⟩;simp[execOp,Instr.entry,ha.1.eval hx,C9 hit,YJ hb,hback,hfind]
def hO(a b:Nat):H1 Unit:=if a=b then some () else none
theorem yk{a:Nat}{u:Unit}(h:hO a b=some u):a=b:=by
 unfold hO at h;split at h
 ·assumption
 ·cases h
theorem VW.one{c:Nat}(h:VW γ F j b)(h' :VW γ F i' c)(e:i' =j):c=b:=by
 subst e;have:=h.2.symm.trans h'.2;simp at this;exact this.symm
theorem GL.ad[BEq K][LawfulBEq K]{p:H1 Nat}{c:Nat}{x:K×V}{xs' :UV (UV<|K×V)}{T:OF IF}(i:Nat)(hi:hs[i]? =some (Y9 γ ck rv F0 j b it xs todo<|some x))(hb:VW γ F j b)(hc:VW γ F i' c)(hij:i' =j)(hp:p=some c)(hel:xs[i']? =some l)(hd:∀e,d' =some e->Nat.blt e n=true)(hT:T[0]? =some t)(ht:P.underlying t=some (.map kt vt))(ok:XI P kt ck)(hx:QI S ox=some (.map p))(hy:QI S oy=some (ck x.1))(he:xs' =xs.set i' (Ju l x.1))
  (k:GL O P ops rest ks Q (Hd n D (match d' with | some e=>(e,.tuple #[])::S | none=>S) F<|hs.set i<|Y9 γ ck rv F0 j b it xs' todo none) m r):GL O P ops (⟨d',.call ⟨.builtin .delete,#[ox,oy],T⟩,ty,pos,after,none⟩::rest) ks Q (Hd n D S F hs) m r:=by
 obtain rfl:=hb.one hc hij;subst hp;subst he;subst hij;refine GL.step rfl (.inr rfl) λhm a w ha=> ?_;obtain⟨M,es,clock,l',seen,last,hM,hbb,hit,hsh,hr,hbi,hl,htd,hpm,hnM,hlast⟩:=W8<|ha.2.pull hi;obtain rfl:M=l:=by rw[hM] at hel;simpa using hel
 obtain⟨z,hz,hzx,hback⟩:=hlast x rfl;obtain⟨kd,hu,hsame⟩:=ok.und;have hnl:(l'.map Prod.fst).Nodup:=(hpm.map _).nodup_iff.2 hnM;have hxl:x∈l' :=by rw[<-hr.dM.1,<-hzx];exact pK hz
 rcases hr.tq (k:=x.1) hsame 0 with⟨_,_,g3⟩ | ⟨q,e1,y,g1,g2,g3,g4,g5,g6⟩
 ·have:=g3 x hxl;simp at this
 ·have hj:q < es.size:=by simpa using g2
  have hf:=run_findKey (w:=w) hu g1;rw[pz] at hf
  have hyx:y=x:=NL hnl (s7 g5) hxl (by simpa using(rb.1 g6).symm);subst hyx;have hes:(es.eraseIdxIfInBounds q).toList=es.toList.eraseIdx q:=by simp[Array.eraseIdxIfInBounds,hj]
  obtain⟨e2,he2⟩:∃e2,es.toList[q]? =some e2:=⟨_,Rw g2⟩;have hzq:(es.toList.zip l')[q]? =some (e2,y):=by rw[lZ];exact⟨he2,g5⟩
  have hz2:z=(e2,y):=by
   obtain⟨q',hq',ez⟩:=rW hz;have hq2:(es.toList.zip l')[q']? =some z:=by rw[Rw hq',ez]
   have h1:=(lZ.1 hq2).2;have hpw:=mF.1 hnl;have hq1:q < l'.length:=(AC.1 g5).1;have hq1' :q' < l'.length:=(AC.1 h1).1;have a1:l'[q]=y:=(AC.1 g5).2;have a2:l'[q']=y:=by rw[(AC.1 h1).2,hzx]
   have:q' =q:=by
    rcases mw q' q with h | h | h
    ·exact absurd (by rw[rm,rm,a1,a2])<|hpw q' q (by simpa using hq1') (by simpa using hq1) h
    ·exact h
    ·exact absurd (by rw[rm,rm,a1,a2])<|hpw q q' (by simpa using hq1) (by simpa using hq1') h
   subst this;rw[hq2] at hzq;simpa using hzq
  have hseen:seen.contains e2.born=true:=by
   have:=hback;rw[hz2] at this
   simp only at this
   rw[Array.contains_iff_mem];exact Array.mem_of_back? this
  refine⟨.tuple #[],Dec.put w c<|.map (es.eraseIdxIfInBounds q) clock,?_,k hm _ _ ⟨?_,SH.push hi ?_⟩⟩
  ·have:(Builtin.delete_ T ty #[.map<|some c,ck y.1]).run P w= .ok (.tuple #[]) (Dec.put w c<|.map (es.eraseIdxIfInBounds q) clock):=by
    simp[Builtin.delete_,hT,Ji ht,YJ hbb,ok.check,hf,Gw hbb]
   simp[execOp,resolve,invoke,builtin,ha.1.eval hx,ha.1.eval hy,this]
  ·cases d' with
   | none=>exact ha.1.fz _
   | some e=>exact ha.1.put (hd e rfl) _
  ·have h1:=(hsh.mono λm hm=>Ze hm).put (o' :=.map (es.eraseIdxIfInBounds q) clock);have hjl:i' < xs.length:=(AC.1 hM).1;refine HB (M:=Ju M y.1) (by rw[rU];simp[hjl]) (w:=Dec.put w c<|.map (es.eraseIdxIfInBounds q) clock) ?_ (l' :=Ju l' y.1) (by rw[hes];exact g3) (by rw[hes];exact hbi.erase) hl ?_ (CH hpm hnM) (D1 hnM) λ_ h=>by cases h
   ·have h2:=h1.mono λm hm=>Ze hm;have h3:SH (Dec.put w c<|.map (es.eraseIdxIfInBounds q) clock) F (star (hole γ (QW ck rv) F0 i' c xs) _):=h2.mono λm hm=>Ze<|QS (λm hm=>Ze hm) hm;exact(ke (y:=Ju M y.1) h3).mono λm hm=>QS (λm hm=>Ze hm)<|Ze hm
   ·rw[hes,g4,Md,Aw hzq<|by simp only[hseen,x7]];exact htd
theorem Hd.ax(i:Nat)(le:F0<=F)(hb:VW γ F j b)(hi:hs[i]? =some (Y9 γ ck rv F0 j b it xs todo cur))(ha:Hd n D S F hs a w):Hd n D S F (hs.set i<|Y9 γ ck rv F j b it xs todo cur) a w:=⟨ha.1,SH.push hi<|kc le hb<|ha.2.pull hi⟩
theorem GC.ax(i:Nat)(le:F0<=F)(hb:VW γ F j b)(hi:hs[i]? =some (Y9 γ ck rv F0 j b it xs todo cur))(k:GC O P cd ks Q (Hd n D S F<|hs.set i<|Y9 γ ck rv F j b it xs todo cur) m r):GC O P cd ks Q (Hd n D S F hs) m r:=λhm a w ha=>k hm a w<|Hd.ax i le hb hi ha
theorem GE.ax(i:Nat)(le:F0<=F)(hb:VW γ F j b)(hi:hs[i]? =some (Y9 γ ck rv F0 j b it xs todo cur))(k:GE O P ks Q (Hd n D S F<|hs.set i<|Y9 γ ck rv F j b it xs todo cur) m r):GE O P ks Q (Hd n D S F hs) m r:=λhm a w ha=>k hm a w<|Hd.ax i le hb hi ha
theorem GE.tt(i:Nat)(hi:hs[i]? =some (Y9 γ ck rv F0 j b it xs [] cur))(k:GE O P ks Q (Hd n D S F<|hs.set i<|Qy γ (QW ck rv) F0 xs) m r):GE O P ks Q (Hd n D S F hs) m r:=λhm a w ha=>k hm a w ⟨ha.1,SH.push hi<|Oy<|ha.2.pull hi⟩
theorem Hd.tK{x:H1 (K×V)}(i:Nat)(hi:hs[i]? =some (Y9 γ ck rv F0 j b it xs todo x))(ha:Hd n D S F hs a w):Hd n D S F (hs.set i<|Y9 γ ck rv F0 j b it xs todo none) a w:=
 ⟨ha.1,SH.push hi (by
  obtain⟨M,es,c,l',seen,last,hM,_,_,hs,h1,h2,h3,h4,h5,h6,h7⟩:=W8<|ha.2.pull hi;exact HB hM hs h1 h2 h3 h4 h5 h6 λ_ h=>by cases h)⟩
theorem GE.tK{x:H1 (K×V)}(i:Nat)(hi:hs[i]? =some (Y9 γ ck rv F0 j b it xs todo x))(k:GE O P ks Q (Hd n D S F<|hs.set i<|Y9 γ ck rv F0 j b it xs todo none) m r):GE O P ks Q (Hd n D S F hs) m r:=λhm a w ha=>k hm a w<|Hd.tK i hi ha
end
def NO(P:PP)(fn:nH)(F:Fz)(R:HP)(ρ:β->Fz->Do->Prop)(Hs' :β->Fz->UV HP)(r:β):pU->Act->TO->Prop:=bodyPostM Fence.wide 0 P fn (λe w' =>∃F' v,F<=F'/\e= .returned v/\ρ r F' v/\SH w' F' (star (Qh<|Hs' r F') R))
theorem Xz.bN{f:x4}{fn:nH}{c:rh}{args:UV Do}{Hs:UV HP}{m:H1 β}{ρ:β->Fz->Do->Prop}{Hs' :β->Fz->UV HP}
  (hf:P.funcs[f]? =some fn) (hb:fn.body=some c) (hn:fn.ntmps=n) (ha:Nat.ble args.length n=true)
  (k:∀r R,GC none P c [] (NO P fn F R ρ Hs' r) (Hd n [] (DE 0 args) F<|Hs++[R]) m r):Xz P f args.toArray F Hs m ρ Hs' :=by
 intro r hm w R hw;refine(pW (n:=0)).1<|ml hf hb trivial<|k r R hm _ w ⟨?_,hw.mono λm hm=>Kx<|QS (λ_ h=>J1 h) hm⟩;rw[hn];exact Ul ha
section
variable{β:Type}{P:PP}{n:Nat}{S:UV (Nat×Do)}{F F' :Fz}{hs:UV HP}{ks:UV Kt}{fn:nH}{R:HP}{ρ:β->Fz->Do->Prop}{Hs' :β->Fz->UV HP}{x r:β}{rs:UV ResultVar}{vs:UV Do}{ms:UV (Nat×Nat)}
theorem Rk(is:UV Nat)(hr:fn.results=rs.toArray)(ho:yB hs ms)(h:Cq P S F' (HH hs ms) rs vs)(hi:JG is (HH hs ms)=Hs' x F' ++[R])(le:F<=F')(hρ:ρ x F' (SS vs)):some x=some r->∀a w,Hd n (ms.map λp=>U2 p.2) S F' hs a w->LeavesInM Fence.wide 0 P fn a.tmps (λe w' =>∃F' v,F<=F'/\e= .returned v/\ρ r F' v/\SH w' F' (star (Qh<|Hs' r F') R)) a.defers .returning w:=by
 intro e a w ha;simp only[BY] at e
 subst e;rw[ha.1.2.1];refine P7 ha.2 ho λw' h' => ?_
 exact⟨_,JW (n:=n) (a:=a) (D:=a.defers) hr ⟨⟨ha.1.1,rfl,ha.1.2.2⟩,h'⟩ h,F',_,le,rfl,hρ,h'.mono λm hm=>by
  have h1:=VN (ks:=is) hm;rw[hi] at h1
  exact XX<|VO h1⟩
theorem GC.tW(is:UV Nat)(ms:UV (Nat×Nat))(hr:fn.results=rs.toArray)(ho:yB hs ms)(h:Cq P S F' (HH hs ms) rs vs)(hi:JG is (HH hs ms)=Hs' x F' ++[R])(le:F<=F')(hρ:ρ x F' (SS vs)):GC O P .ret ks (NO P fn F R ρ Hs' r) (Hd n (ms.map λp=>U2 p.2) S F' hs) (some x) r:=GC.dC<|Rk is hr ho h hi le hρ
theorem GE.ar(is:UV Nat)(ms:UV (Nat×Nat))(hr:fn.results=rs.toArray)(ho:yB hs ms)(h:Cq P S F' (HH hs ms) rs vs)(hi:JG is (HH hs ms)=Hs' x F' ++[R])(le:F<=F')(hρ:ρ x F' (SS vs)):GE O P [] (NO P fn F R ρ Hs' r) (Hd n (ms.map λp=>U2 p.2) S F' hs) (some x) r:=GE.nil<|Rk is hr ho h hi le hρ
end
def Ny(sz:Nat)(c:UR α)(F:Fz)(p:H1 Of)(cap:Nat)(l:UV α):Prop:=QG sz c F p cap l/\(l=[]->p=none/\cap=0)
section
variable{α:Type}{sz:Nat}{c:UR α}{F F' :Fz}{p:H1 Of}{cap:Nat}{l:UV α}
theorem Ny.nil(h:Ny sz c F p cap l)(e:l=[]):p=none/\cap=0:=h.2 e
theorem Ny.zero:Ny sz c F none 0 ([]:UV α):=⟨QG.nil,λ_=>⟨rfl,rfl⟩⟩
end
def wV(l:UV α):H1 Unit:=match l with | []=>some () | _::_=>none
theorem LD{l:UV α}{u:Unit}(h:wV l=some u):l=[]:=by
 cases l with
 | nil=>rfl
 | cons x l=>cases h
section
variable{K V:Type}{ck:K->Do}{rv:Fz->V->Do->Prop}{γ:Nat}{xs ys:UV (UV<|K×V)}{n:Nat}{D:UV If}{S:UV (Nat×Do)}{F F0:Fz}{hs:UV HP}{a:Act}{w:TO}
theorem Hd.pE(i:Nat)(hi:hs[i]? =some (Qy γ (QW ck rv) F0 xs))(hp:TP xs ys)(ha:Hd n D S F hs a w):Hd n D S F (hs.set i<|Qy γ (QW ck rv) F0 ys) a w:=by
 refine⟨ha.1,SH.push hi ?_⟩;refine(ha.2.pull hi).cD hp.1 λi' x y b' m hx hy hm=> ?_;obtain⟨l',h1,h2,h3⟩:=hm;have h4:=hp.2 i' x y hx hy;exact⟨l',h1.trans h4,(h4.map _).nodup_iff.1 h2,h3⟩
end
end
section
section
variable{β:Type}{O:H1 Nat}{P:PP}{ks:UV Kt}{Q:pU->Act->TO->Prop}{m:H1 β}{r:β}{n:Nat}{D:UV If}{S0:UV (Nat×Do)}{F:Fz}{hs:UV HP}{l:UV j9}
theorem GR.tV{k:Nat}{a0 a b:Act}{vs:UV Do}{L L' :Nat->Bool}(c:GR l k n a0 vs L a)(c' :GR l k n a0 vs L' b)(hvs:k<=vs.length){t:Nat}(ht:∀j,j < k->Vi l j=some t->L j=L' j):a.tmps.getD t undef=b.tmps.getD t undef:=by
 by_cases h:∃j,j < k/\L j=true/\Vi l j=some t
 ·obtain⟨j,hj,hL,e⟩:=h;have hv:vs[j]? =some vs[j]:=Rw (by omega);rw[c.got j _ t hj hL e hv,c'.got j _ t hj (by rw[<-ht j hj e];exact hL) e hv]
 ·rw[c.old t λj hj hL e=>h ⟨j,hj,hL,e⟩,c'.old t λj hj hL e=>h ⟨j,hj,by rw[ht j hj e];exact hL,e⟩]
end
end
section
variable{Q:pU->Act->TO->Prop}{l:UV j9}{P:PP}{st:UV Nat}{n p:Nat}
theorem Fz.r{F:Fz}:F<=F:=Fz.le_refl F
theorem Fz.t{F G H:Fz}(h:F<=G)(k:G<=H):F<=H:=Fz.le_trans h k
section
variable{O:H1 Nat}
def jY(O:H1 Nat)(P:PP)(ops:OF j9)(Q:pU->Act->TO->Prop):UV Nat->UV j9->Act->TO->Prop
 | [],l,a,w=>wpS P ops w (λa' =>Q .normal a' w) l a
 | p::st,l,a,w=>wpS P ops w (λa' =>X0 O P ops (Exit.then (jY O P ops Q st<|l.drop<|p+1) Q) ((l.drop p).take 1) a' w) (l.take p) a
def yK(l:UV j9)(c p i:Nat)(o:j9):Bool:=(o.looksAt l.toArray).all λt=>(List.range p).all λj=>match Vi l (c+j) with
 | none=>true
 | some d=> !Nat.beq d t||((o.after.toList.any λe=>Region.binds .any e&&Nat.beq e.on (c+j))||(Nat.blt i j&&match l[c+j]? with
  | none=>false
  | some oj=>oj.after.toList.any λe=>Region.binds .any e&&Nat.beq e.on (c+i)))
def P6(l:UV j9)(c p:Nat):Nat->UV j9->Bool
 | _,[]=>true
 | i,o::os=>yK l c p i o&&P6 l c p (i+1) os
theorem Pc{c:Nat}:∀{os:UV j9} {i0:Nat},P6 l c p i0 os=true->∀(i:Nat) (o:j9),os[i]? =some o->yK l c p (i0+i) o=true
 | [],_,_,i,o,h=>by simp at h
 | x::os,i0,hl,i,o,h=>by
  simp only[P6,T2] at hl
  cases i with
  | zero=>simp at h;subst h;exact hl.1
  | succ i=>
   have:=Pc hl.2 i o (by simpa using h);rw[show i0+1+i=i0+(i+1) by omega] at this
   exact this
def kC(n:Nat)(l:UV j9)(c p:Nat):Bool:=Dw n ((l.drop c).take p)&&P6 l c p 0 ((l.drop c).take p)&&((l.drop c).take p).all λo=>X5 o.op&&yC o.op
def xZ(msk:UV (UV Bool))(len d:Nat):Bool:=jH d (msk.getD d [])&&(List.range len).all λt=> !Nat.blt d t||(msk.getD t []).getD d false
def u3(n:Nat)(l:UV j9)(msk:UV (UV Bool)):UV Nat->Nat->Bool
 | [],c=>kC n l c (l.length - c)
 | p::st,c=>Nat.blt (c+p) l.length&&kC n l c p&&xZ msk l.length (c+p)&&u3 n l msk st (c+p+1)
def qV(n:Nat)(l:UV j9)(st:UV Nat):Bool:=MF 0 l&&u3 n l (WZ [] l) st 0
def V2(l:UV j9):UV Nat->Nat->Nat
 | [],c=>l.length - c
 | p::_,_=>p
def jc(O:H1 Nat)(P:PP)(l:UV j9)(Q:pU->Act->TO->Prop):UV Nat->Nat->Act->TO->Prop
 | [],_,a,w=>Q .normal a w
 | p::st,c,a,w=>X0 O P l.toArray (Exit.then (jY O P l.toArray Q st<|l.drop<|c+p+1) Q) ((l.drop<|c+p).take 1) a w
theorem Lx{msk:UV (UV Bool)}:∀{st:UV Nat} {c:Nat},u3 n l msk st c=true->c<=l.length->kC n l c (V2 l st c)=true/\c+V2 l st c<=l.length
 | [],c,h,hc=>⟨h,by show c+(l.length - c)<=l.length;omega⟩
 | p::st,c,h,_=>by
  simp only[u3,T2] at h
  exact⟨h.1.1.2,Nat.le_of_lt<|j3 h.1.1.1⟩
theorem jd{w:TO}:∀{st:UV Nat} {c:Nat} {a:Act},c<=l.length->jY O P l.toArray Q st (l.drop c) a w->wpS P l.toArray w (λa' =>jc O P l Q st c a' w) ((l.drop c).take<|V2 l st c) a
 | [],c,a,hc,h=>by
  have e:(l.drop c).take (V2 l [] c)=l.drop c:=s4 (by show(l.drop c).length<=l.length - c;rw[rl];exact IR _);rw[e];exact h
 | p::st,c,a,hc,h=>by
  unfold jY at h
  rw[ng,ng] at h
  exact h
structure qq(O:Option Nat)(P:Program)(l:List Oper)(n:Nat)(Q:Exit->Act->World->Prop)(dfs:List Deferred)(st:List Nat)(c:Nat)(a0:Act)(vs:List Value)(L:Nat->Bool)(a:Act)(w:World):Prop where
 stg:u3 n l (WZ [] l) st c=true
 cl:c<=l.length
 down:Down l L
 pre:∀j,j < c->L j=true
 out:∀j,c+V2 l st c<=j->L j=false
 size:a0.tmps.size=n
 len:vs.length=V2 l st c
 tail:jc O P l Q st c (EB a0 ((l.drop c).take<|V2 l st c) vs) w
 step:∀i o v,((l.drop c).take<|V2 l st c)[i]? =some o->vs[i]? =some v->TN P l.toArray w o v (EB a0 (((l.drop c).take<|V2 l st c).take i)<|vs.take i)
 char:GR (l.drop c) (V2 l st c) n a0 vs (λj=>L<|c+j) a
theorem qq.enter{c:Nat}{a:Act}{L:Nat->Bool}{w:TO}(hs:u3 n l (WZ [] l) st c=true)(hc:c<=l.length)(hd:Down l L)(hpre:∀j,j < c->L j=true)(hout:∀j,c<=j->L j=false)(hz:a.tmps.size=n)(hw:jY O P l.toArray Q st (l.drop c) a w):∃vs,qq O P l n Q [] st c a vs L a w:=by
 obtain⟨vs,h1,h2,h3⟩:=Lr<|jd hc hw;have hlen:=(Lx hs hc).2;refine⟨vs,hs,hc,hd,hpre,λj hj=>hout j (by omega),hz,?_,h2,h3,⟨hz,rfl,λj v t _ hL=> ?_,λt _=>rfl⟩⟩
 ·rw[h1,nl,rl];omega
 ·have:L (c+j)=true:=hL;rw[hout (c+j)<|by omega] at this;cases this
section
variable{P:PP}{n:Nat}{D:UV If}{l:UV j9}
theorem Rs{a:Act}{d:H1 Tmp}{v:Do}:(a.put d v).tmps.size=a.tmps.size:=by
 cases d with
 | none=>rfl
 | some t=>show(a.tmps.setIfInBounds t v).size=_;simp
end
section
variable{β:Type}{P:PP}{ks:UV Kt}{Q:pU->Act->TO->Prop}{m:H1 β}{r:β}{n:Nat}{D:UV If}{S0:UV (Nat×Do)}{F:Fz}{hs:UV HP}{l:UV j9}
theorem ym{id:Nat}(hm:P.follows .mixedOrders=true)(st0:UV Nat)(hB:qV n l st0=true){a0:Act}{w0:TO}(hz0:a0.tmps.size=n)(hw0:jY O P l.toArray Q st0 l a0 {w0 with drawn:=w0.drawn+1}):(Code.region id l.toArray true).wpIn (Pw O) 0 P Q a0 w0:=by
 simp only[qV,T2] at hB
 obtain⟨hord,hst⟩:=hB;have hmask:PG l (WZ [] l):=BB (pre:=[]) rfl rfl (λt m h=>by simp at h);refine XW hm (λL a w=>∃st c a1 vs,qq O P l n Q [] st c a1 vs L a w) (λi o h e he hb=>by have:=Xt hord i o (by simpa using h) e he hb;omega) ?_ ?_ ?_
 ·obtain⟨vs,hI⟩:=qq.enter (L:=λ_=>false) hst (mL _) (λi o _ h=>(by cases h)) (λj hj=>absurd hj<|by omega) (λ_ _=>rfl) hz0 hw0;exact⟨_,_,_,_,hI⟩
 ·rintro L a w i o ho hLi hdeps ⟨st,c,a1,vs,hI⟩;have ho' :l[i]? =some o:=by simpa using ho
  have hil:i < l.length:=Zs ho'
  have hci:c<=i:=by
    rcases pJ i c with h | h
    ·have:=hI.pre i h;rw[hLi] at this;cases this
    ·exact h
  obtain⟨hseg,hle⟩:=Lx hI.stg hI.cl;have hseq:=A9 (l:=l.drop c) (k:=V2 l st c) (a0:=a1) (vs:=vs) hI.size (by simp only[kC,T2] at hseg;exact hseg.1.1) (by rw[rl];omega) hI.len
  have hdnU:Down l (Kg L i):=λj oj hoj hj e he hb=>by
    have:L e.on=true:=by
     by_cases hji:j=i
     ·subst hji;rw[ho'] at hoj;cases hoj;exact hdeps e he hb
     ·exact hI.down j oj hoj (by simpa[Kg,hji] using hj) e he hb
    simp only[Kg];split
    ·rfl
    ·exact this
  rcases pJ i (c+V2 l st c) with hi | hi
  ·
    obtain⟨q,rfl⟩:∃q,i=c+q:=⟨i - c,by omega⟩;have hq:q < V2 l st c:=by omega
    have hot:((l.drop c).take<|V2 l st c)[q]? =some o:=by rw[pF,AT hq,rJ];exact ho'
    have hod:(l.drop c)[q]? =some o:=by rw[rJ];exact ho'
    simp only[kC,T2,s8] at hseg
    obtain⟨⟨hslots,hlooks⟩,hall⟩:=hseg;obtain⟨hnd,hns⟩:=hall o<|s7 hot;have hlk:=Pc hlooks q o hot;rw[pz] at hlk
    obtain⟨v,hv⟩:∃v,vs[q]? =some v:=⟨vs[q]'(by rw[hI.len];exact hq),Rw _⟩
    have hst' :TN P l.toArray w o v a:=(hI.step q o _ hot hv).of_same hns λt ht=>by
     refine(hseq q<|by omega).tV hI.char (by rw[hI.len];exact IR _) λj hj e=> ?_
     have e' :Vi l (c+j)=some t:=by
      unfold Vi at e ⊢;rw[rJ] at e;exact e
     have h1:=s8.1 (s8.1 hlk t ht) j<|rO.2 hj;rw[e'] at h1
     simp only[Nat.beq_refl,x7,nC,rD] at h1
     rcases h1 with h1 | h1
     ·simp only[px,T2] at h1
      obtain⟨e1,he',hb',hon⟩:=h1;have hon:e1.on=c+j:=pH hon;have hmem' :e1∈o.after:=by simpa using he'
      have hL:=hdeps e1 hmem' hb';have:=Xt hord (c+q) o ho' e1 hmem' hb';rw[hon] at hL
      show Nat.blt j q=L (c+j);rw[hL];exact pT<|show j+1<=q by omega
     ·simp only[T2] at h1
      obtain⟨hij,h2⟩:=h1;have hij:q < j:=j3 hij
      have h3:Nat.blt j q=false:=by
       cases hb:Nat.blt j q with
       | false=>rfl
       | true=>have:=j3 hb;omega
      show Nat.blt j q=L (c+j);rw[h3];cases hLj:L (c+j) with
      | false=>rfl
      | true=>
       exfalso;cases hoj:l[c+j]? with
       | none=>rw[hoj] at h2;cases h2
       | some oj=>
        rw[hoj] at h2
        simp only[px,T2] at h2
        obtain⟨e1,he',hb',hon⟩:=h2;have:=hI.down (c+j) oj hoj hLj e1 (by simpa using he') hb';rw[pH hon,hLi] at this
        cases this
    have hnext:∃st2 c2 a2 vs2,qq O P l n Q [] st2 c2 a2 vs2 (Kg L<|c+q) (a.put o.dst v) w:=by
     refine⟨st,c,a1,vs,hI.stg,hI.cl,hdnU,λj hj=> ?_,λj hj=> ?_,hI.size,hI.len,hI.tail,hI.step,?_⟩
     ·simp only[Kg];rw[RW<|by omega];exact hI.pre j hj
     ·simp only[Kg];rw[RW<|by omega];exact hI.out j hj
     ·have:=hI.char.put hslots hq hod hv
      have e:(λj=>Kg L (c+q)<|c+j)=Kg (λj=>L<|c+j) q:=by
       funext j;simp only[Kg];by_cases hj:j=q
       ·subst hj;simp
       ·rw[RW hj,RW<|by omega]
      rw[e];exact this
    rcases hst' with⟨h1,h2⟩ | ⟨h1,h2⟩
    ·rw[AT h1];refine⟨.inr hnd,?_⟩;rw[h2];exact hnext
    ·rw[RW (by simp[h1]),<-h2];exact hnext
  ·
    cases st with
    | nil=>exact absurd hil (by have:V2 l [] c=l.length - c:=rfl;omega)
    | cons p st' =>
     have hsl:V2 l (p::st') c=p:=rfl;rw[hsl] at hi hseq hle
     have hstg:=hI.stg;simp only[u3,xZ,T2,s8] at hstg
     obtain⟨⟨⟨hlt,_⟩,hbar1,hbar2⟩,hst'⟩:=hstg;have hlt:c+p < l.length:=j3 hlt;have hdep:∀(t j:Nat) (m:UV Bool),(WZ [] l)[t]? =some m->m.getD j false=true->∃s,Xd l s t j=true:=λt j m h1 h2=>hmask t m h1 j h2
     have hget:∀t,t < l.length->(WZ [] l)[t]? =some ((WZ [] l).getD t []):=λt ht=>by
      rw[pe];cases h:(WZ [] l)[t]? with
      | some m=>rfl
      | none=>
       exfalso
       have:(WZ [] l).length=l.length:=by
        have gen:∀(os:UV j9) (d:UV (UV Bool)),(WZ d os).length=d.length+os.length:=by
         intro os
         induction os with
         | nil=>intro d;simp[WZ]
         | cons o os ih=>intro d;rw[WZ,ih];simp;omega
        simpa using gen l []
       rw[mG] at h
       omega
     have hip:i=c+p:=by
      rcases pJ (c+p) i with h | h
      ·exfalso;have h1:=hbar2 i<|rO.2 hil;rw[show Nat.blt (c+p) i=true from pT h] at h1
       simp only[x7,nC] at h1
       obtain⟨s,hs⟩:=hdep i (c+p) _ (hget i hil) h1;have:=XA hI.down hs λo' ho'' e he hb=>by rw[ho'] at ho'';cases ho'';exact hdeps e he hb
       rw[hI.out (c+p) (by rw[hsl];exact IR _)] at this
       cases this
      ·omega
     subst hip
     have hallL:∀j,j < c+p->L j=true:=λj hj=>by
      obtain⟨s,hs⟩:=hdep (c+p) j _ (hget _ hil)<|Nt hbar1 hj;exact XA hI.down hs λo' ho'' e he hb=>by rw[ho'] at ho'';cases ho'';exact hdeps e he hb
     have hch:=hI.char;rw[hsl] at hch
     have hLk:(λj=>L<|c+j)=λj=>Nat.blt j p:=by
      funext j;rcases pJ j p with h | h
      ·rw[hallL (c+j)<|by omega];exact(pT h).symm
      ·rw[hI.out (c+j) (by rw[hsl];omega)];cases hb:Nat.blt j p with
       | false=>rfl
       | true=>have:=j3 hb;omega
     have hlen:=hI.len;rw[hsl] at hlen
     have h2:=hseq p<|IR _;rw[s4 (show((l.drop c).take p).length<=p by simp;omega),s4<|show vs.length<=p by omega] at h2
     rw[hLk] at hch
     have hae:=hch.eq h2 (by omega) λj hj=>pT hj;have htail:=hI.tail;rw[hsl,<-hae] at htail
     have hdrop:(l.drop<|c+p).take 1=[o]:=by
      have hg:l[c+p]'hil=o:=by simpa[hil] using ho'
      rw[<-hg,pM hil];rfl
     change X0 O P l.toArray (Exit.then (jY O P l.toArray Q st'<|l.drop<|c+p+1) Q) ((l.drop<|c+p).take 1) a w at htail
     rw[hdrop] at htail
     have hnext:∀a' w',a'.tmps.size=n->jY O P l.toArray Q st' (l.drop<|c+p+1) a' w'->∃st2 c2 a2 vs2,qq O P l n Q [] st2 c2 a2 vs2 (Kg L<|c+p) a' w' :=λa' w' hz h=>by
      obtain⟨vs',hI'⟩:=qq.enter (L:=Kg L<|c+p) hst' (by omega) hdnU (λj hj=>by
       simp only[Kg];by_cases hj' :j=c+p
       ·rw[AT hj']
       ·rw[RW hj'];exact hallL j<|by omega) (λj hj=>by
       simp only[Kg];rw[RW<|by omega];exact hI.out j (by rw[hsl];omega)) hz h
      exact⟨_,_,_,_,hI'⟩
     unfold X0 at htail
     split
     ·rename_i hwn;rw[AT hwn] at htail
      refine EM (λu w' h=>hnext _ w' (by rw[Rs,hch.size]) h) (λd w' h=>hnext _ w' ?_ h) (λe a w he hq=>by cases e<;>first | exact absurd rfl he | exact hq) htail;rw[Rs];exact hch.size
     ·rename_i hwn;rw[RW hwn] at htail
      exact hnext _ _ (by rw[Rs,hch.size]) htail
 ·rintro L a w hallL ⟨st,c,a1,vs,hI⟩;obtain⟨hseg,hle⟩:=Lx hI.stg hI.cl;cases st with
  | cons p st' =>
    exfalso;have hstg:=hI.stg;simp only[u3,T2] at hstg
    have hlt:c+p < l.length:=j3 hstg.1.1.1;have:=hallL (c+p) (by simpa using hlt);rw[hI.out (c+p)<|IR _] at this
    cases this
  | nil=>
    have hseq:=A9 (l:=l.drop c) (k:=V2 l [] c) (a0:=a1) (vs:=vs) hI.size (by simp only[kC,T2] at hseg;exact hseg.1.1) (by rw[rl];exact IR _) hI.len;have hsl:V2 l [] c=l.length - c:=rfl;have h2:=hseq (V2 l [] c)<|IR _;rw[s4 (show((l.drop c).take<|V2 l [] c).length<=V2 l [] c by simp;omega),s4 (show vs.length<=V2 l [] c by rw[hI.len];exact IR _)] at h2
    have hLk:GR (l.drop c) (V2 l [] c) n a1 vs (λj=>Nat.blt j<|V2 l [] c) a:=by
     refine⟨hI.char.size,hI.char.defs,λj v t hj _ hd hv=>hI.char.got j v t hj (hallL _ (by simp;omega)) hd hv,λt ht=>hI.char.old t λj hj _=>ht j hj<|pT hj⟩
    have hae:=hLk.eq h2 (by rw[hI.len];exact IR _) λj hj=>pT hj;have htail:=hI.tail;rw[<-hae] at htail
    exact htail
theorem GC.sP{id:Nat}(hm:P.follows .mixedOrders=true)(hB:qV n l (p::st)=true)
  (walk:GS P l.toArray (l.take p) (X0 O P l.toArray (Exit.then (jY O P l.toArray (Zu O P ks Q) st<|l.drop<|p+1)<|Zu O P ks Q)<|(l.drop p).take 1) (Hd n D S0 F hs) m r):GC O P (.region id l.toArray true) ks Q (Hd n D S0 F hs) m r:=by
 intro hmr a0 w ha;exact ym hm (p::st) hB ha.1.1<|walk hmr a0 {w with drawn:=w.drawn+1} ⟨ha.1,ha.2.drew _⟩
end
section
variable{β:Type}{P:PP}{ops:OF j9}{l tl:UV j9}{ks:UV Kt}{Q:pU->Act->TO->Prop}{A:Act->TO->Prop}{K:pU->Act->TO->Prop}{m:H1 β}{r:β}
theorem GS.cV(h:GL O P ops tl [] K A m r):GS P ops [] (X0 O P ops K tl) A m r:=λhm a w ha=>h hm a w ha
theorem GS.aa(h:GE O P ks Q A m r):GS P ops [] (Zu O P ks Q .normal) A m r:=λhm a w ha=>h hm a w ha
theorem GE.tS(h:GS P ops (l.take p) (X0 O P ops (Exit.then (jY O P ops K st<|l.drop<|p+1) K)<|(l.drop p).take 1) A m r):GE O P [] (Exit.then (jY O P ops K (p::st) l) K) A m r:=λhm a w ha=>h hm a w ha
theorem GE.cE(h:GS P ops l (K .normal) A m r):GE O P [] (Exit.then (jY O P ops K [] l) K) A m r:=λhm a w ha=>h hm a w ha
end
end
end
section
variable{l:UV So}
def bs(l:UV So):ByteArray:=⟨l.toArray⟩
theorem BW:(bs l).size=l.length:=rfl
theorem jC{a b:UV So}:bs a++bs b=bs (a++b):=by
 apply ByteArray.ext;show(bs a++bs b).data=(a++b).toArray;rw[ByteArray.data_append];simp[bs]
theorem Lf:(bs l).toList=l:=ByteArray.toList_mk l
theorem wu{i:Nat}:(bs l)[i]? =l[i]? :=by
 by_cases h:i < l.length
 ·have h' :i < (bs l).size:=h;rw[getElem?_pos (bs l) i h',getElem?_pos l i h];rfl
 ·have h' :¬i < (bs l).size:=h;rw[getElem?_neg (bs l) i h',getElem?_neg l i h]
theorem AM{i j:Nat}:(bs l).extract i j=bs ((l.drop i).take<|j - i):=by
 apply ByteArray.ext;rw[ByteArray.data_extract];show(l.toArray).extract i j=_;simp[bs,List.extract_toArray,List.take_drop]
def encS(n:Int):UV So:=(Utf8.encode n).data.toList
def y3(s:UV So):UV Do:=[.string<|bs s]
section
variable{O:H1 Nat}
section
variable{P:PP}{a:Act}{S:UV (Nat×Do)}{n:Nat}{D:UV If}{d:Nat}{ty t t' :IF}{pos:String}{after:OF nA}{ox oy oz:x8}{kd kd' :pg}{x y:Int}{s u:UV So}{w:TO}
theorem jw(h:Sl n D S a)(hx:QI S ox=some (.string<|bs s))(hy:QI S oy=some (.string<|bs u))(hl:s.length+u.length<=4294967296):(execOp a.eval ⟨some d,.binOp .add t ox oy t',ty,pos,after,none⟩).run P w= .ok (.value<|.string<|bs<|s++u) w:=by
 simp[execOp,h.eval hx,h.eval hy,eqGuard,binOp,Op.stringOp,jC];rw[BW,BW];omega
theorem vp(h:Sl n D S a)(ht:P.underlying t=some .string)(hx:QI S ox=some (.string<|bs s))(hy:QI S oy=some (.string<|bs u)):(execOp a.eval ⟨some d,.binOp .eql t ox oy t',ty,pos,after,none⟩).run P w= .ok (.value<|.bool<|s==u) w:=by
 simp[execOp,h.eval hx,h.eval hy,eqGuard,binOp,Op.stringOp,Lf]
theorem vo(h:Sl n D S a)(ht:P.underlying t=some .string)(hx:QI S ox=some (.string<|bs s))(hy:QI S oy=some (.string<|bs u)):(execOp a.eval ⟨some d,.binOp .neq t ox oy t',ty,pos,after,none⟩).run P w= .ok (.value<|.bool<|!(s==u)) w:=by
 simp[execOp,h.eval hx,h.eval hy,eqGuard,binOp,Op.stringOp,Lf]
theorem js(h:Sl n D S a){T:OF IF}(hT:T[0]? =some t)(ht:P.underlying t=some .string)(hx:QI S ox=some (.string<|bs s)):(execOp a.eval ⟨some d,.call ⟨.builtin .len,#[ox],T⟩,ty,pos,after,none⟩).run P w= .ok (.value<|.int .i64 s.length) w:=by
 simp[execOp,resolve,invoke,builtin,Builtin.len_,h.eval hx,hT,Ji ht,goInt,BW]
theorem jt(h:Sl n D S a)(ht:P.underlying t=some .string)(hx:QI S ox=some (.string<|bs s))(hy:QI S oy=some (.int kd x)){c:So}(hc:ZZ s x=some c):(execOp a.eval ⟨some d,.index t ox oy,ty,pos,after,none⟩).run P w= .ok (.value<|.int .u8 c.toNat) w:=by
 obtain⟨h0,_,h2⟩:=C7 hc;simp[execOp,h.eval hx,h.eval hy,Instr.index,asIntOf,Ji ht,h0,wu,h2]
theorem L6(ht:P.underlying t=some .string)(h:0<=y)(h' :y<=s.length):(Instr.sliceAt t (.string<|bs s) none (some<|.int kd' y) none).run P w= .ok (.string<|bs<|s.take y.toNat) w:=by
 simp only[Instr.sliceAt,pI,Ji ht,Result.andThen,Instr.slice,Instr.sliceBounds,r6,nG,By,RK,Nm,BW];rw[XK (kd:=kd')<|by omega];simp[AM]
theorem Mq(h:Sl n D S a)(ht:P.underlying t=some .string)(hx:QI S ox=some (.string<|bs s))(hz:QI S oz=some (.int kd' y))(hl:ZW s 0 y=some l):(execOp a.eval ⟨some d,.slice t ox none (some oz) none,ty,pos,after,none⟩).run P w= .ok (.value<|.string<|bs l) w:=by
 unfold ZW at hl
 split at hl
 ·rename_i hh;simp only[BY] at hl
  simp only[execOp,h.eval hx,h.eval hz,dO,nI,pI];rw[L6 ht (by omega) (by omega),<-hl];rfl
 ·cases hl
theorem jv(h:Sl n D S a)(h1:P.underlying t=some (.int kd))(h2:P.underlying t' =some .string)(hx:QI S ox=some (.int kd x)):(execOp a.eval ⟨some d,.convert t t' ox,ty,pos,after,none⟩).run P w= .ok (.value<|.string<|bs<|encS x) w:=by
 have e:bs (encS x)=Utf8.encode x:=rfl;simp[execOp,h.eval hx,convert,Ji h1,Ji h2,Conv.intToString,e]
end
section
variable{β:Type}{P:PP}{ops:OF j9}{rest:UV j9}{ks:UV Kt}{Q:pU->Act->TO->Prop}{m:H1 β}{r:β}
variable{n:Nat}{D:UV If}{S:UV (Nat×Do)}{F:Fz}{hs:UV HP}{d:Nat}{ty t t' :IF}{pos:String}{after:OF nA}{ox oy oz:x8}{kd kd' :pg}{x y:Int}{s u:UV So}
theorem GL.bt{f:UV So->H1 β}(hd:Nat.blt d n=true)(hx:QI S ox=some (.string<|bs s))(hy:QI S oy=some (.string<|bs u))(k:∀z,Jf s u=some z->GL O P ops rest ks Q (Hd n D ((d,.string<|bs z)::S) F hs) (f z) r):GL O P ops (⟨some d,.binOp .add t ox oy t',ty,pos,after,none⟩::rest) ks Q (Hd n D S F hs) ((Jf s u).bind f) r:=
 GL.bind λz hz=>by
  unfold Jf at hz
  split at hz
  ·rename_i h;simp only[BY] at hz
   subst hz;exact GL.val hd (λa w ha=>jw ha.1 hx hy h)<|k _ (by unfold Jf;rw[AT h])
  ·cases hz
theorem GL.aD(hd:Nat.blt d n=true)(ht:P.underlying t=some .string)(hx:QI S ox=some (.string<|bs s))(hy:QI S oy=some (.string<|bs u))(k:GL O P ops rest ks Q (Hd n D ((d,.bool<|s==u)::S) F hs) m r):GL O P ops (⟨some d,.binOp .eql t ox oy t',ty,pos,after,none⟩::rest) ks Q (Hd n D S F hs) m r:=GL.val hd (λa w ha=>vp ha.1 ht hx hy) k
theorem GL.sw(hd:Nat.blt d n=true)(ht:P.underlying t=some .string)(hx:QI S ox=some (.string<|bs s))(hy:QI S oy=some (.string<|bs u))(k:GL O P ops rest ks Q (Hd n D ((d,.bool<|!(s==u))::S) F hs) m r):GL O P ops (⟨some d,.binOp .neq t ox oy t',ty,pos,after,none⟩::rest) ks Q (Hd n D S F hs) m r:=GL.val hd (λa w ha=>vo ha.1 ht hx hy) k
theorem GL.dD{T:OF IF}(hd:Nat.blt d n=true)(hT:T[0]? =some t)(ht:P.underlying t=some .string)(hx:QI S ox=some (.string<|bs s))(k:GL O P ops rest ks Q (Hd n D ((d,.int .i64 s.length)::S) F hs) m r):GL O P ops (⟨some d,.call ⟨.builtin .len,#[ox],T⟩,ty,pos,after,none⟩::rest) ks Q (Hd n D S F hs) m r:=GL.val hd (λa w ha=>js ha.1 hT ht hx) k
theorem GL.aC{f:So->H1 β}(hd:Nat.blt d n=true)(ht:P.underlying t=some .string)(hx:QI S ox=some (.string<|bs s))(hy:QI S oy=some (.int kd x))(k:∀c,ZZ s x=some c->GL O P ops rest ks Q (Hd n D ((d,.int .u8 (c.toNat:Int))::S) F hs) (f c) r):GL O P ops (⟨some d,.index t ox oy,ty,pos,after,none⟩::rest) ks Q (Hd n D S F hs) ((ZZ s x).bind f) r:=GL.bind λc hc=>GL.val hd (λa w ha=>jt ha.1 ht hx hy hc)<|k c hc
theorem GL.sQ{f:UV So->H1 β}(hd:Nat.blt d n=true)(ht:P.underlying t=some .string)(hx:QI S ox=some (.string<|bs s))(hz:QI S oz=some (.int kd' y))(k:∀z,ZW s 0 y=some z->GL O P ops rest ks Q (Hd n D ((d,.string<|bs z)::S) F hs) (f z) r):GL O P ops (⟨some d,.slice t ox none (some oz) none,ty,pos,after,none⟩::rest) ks Q (Hd n D S F hs) ((ZW s 0 y).bind f) r:=GL.bind λz h=>GL.val hd (λa w ha=>Mq ha.1 ht hx hz h)<|k z h
theorem GL.encStr(hd:Nat.blt d n=true)(h1:P.underlying t=some (.int kd))(h2:P.underlying t' =some .string)(hx:QI S ox=some (.int kd x))(k:GL O P ops rest ks Q (Hd n D ((d,.string<|bs<|encS x)::S) F hs) m r):GL O P ops (⟨some d,.convert t t' ox,ty,pos,after,none⟩::rest) ks Q (Hd n D S F hs) m r:=GL.val hd (λa w ha=>jv ha.1 h1 h2 hx) k
end
end
end
section
section
variable{O:H1 Nat}
section
variable{β:Type}{P:PP}{ops:OF j9}{rest:UV j9}{ks:UV Kt}{Q:pU->Act->TO->Prop}{m:H1 β}{r:β}
variable{n:Nat}{D:UV If}{S:UV (Nat×Do)}{F F0:Fz}{hs:UV HP}{d e cap T:Nat}{p:H1 Of}{l:UV Int}{ty t t' :IF}{pos:String}{after:OF nA}{ox oy oz:x8}{kd kd' :pg}{x y:Int}{s u:UV So}
def WU(s:UV So):UV Int:=s.map λc=>(c.toNat:Int)
theorem GL.sh(hd:Nat.blt d n=true)(h1:P.underlying t=some .string)(h2:P.underlying t' =some (.slice e))(h3:P.underlying e=some (.int .u8))(hx:QI S ox=some (.string<|bs s))(hl:s.length<=4294967296)
  (k:∀F' p cap,F<=F'->QG 1 (Ex<|KJ .u8) F' p cap (WU s)->GL O P ops rest ks Q (Hd n D ((d,.slice p (WU s).length cap)::S) F' hs) m r):GL O P ops (⟨some d,.convert t t' ox,ty,pos,after,none⟩::rest) ks Q (Hd n D S F hs) m r:=by
 refine GL.step rfl (.inr rfl) λhm a w ha=> ?_;have hrun:=run_bytes_of_string (P:=P) w t t' e (bs s) h1 h2 h3;have hcap:=grownCap_ge w (bs s).size 0 e;have hmax:=grownCap_le_maxLen w (bs s).size 0 e (by rw[BW];unfold maxLen;omega);generalize grownCap w (bs s).size 0 e=cap at hrun hcap hmax
 obtain⟨le,hsh⟩:=SH.cQ (ha.2.drew<|w.drawn+1)<|.cells (bytesRow (bs s) cap) e ((bytesRow (bs s) cap).size,(bytesRow (bs s) cap).size+1);have hlen:(WU s).length=s.length:=by simp[WU]
 have hr:QG 1 (Ex<|KJ .u8) (F.add w.heap.size<|.cells (bytesRow (bs s) cap) e ((bytesRow (bs s) cap).size,(bytesRow (bs s) cap).size+1)) (some ⟨w.heap.size,0,none⟩) cap (WU s):=by
  refine⟨by rw[hlen];exact hcap,by unfold maxLen at hmax;omega,.inr ⟨_,_,_,_,_,rfl,Fz.fx _ _ _,λi x hx F' _=> ?_⟩⟩;have hi:i < s.length:=by rw[<-hlen];exact(AC.1 hx).1
  simp only[WU,pb,Rw hi,dO,BY] at hx
  subst hx;show((bytesRow (bs s) cap).toList.drop<|0+i*1).take 1=[.int .u8 _]
  have e1:(bytesRow (bs s) cap).toList=s.map (λc=>Value.int .u8 c.toNat)++List.replicate (cap - (bs s).size) (.int .u8 0):=by
   simp[bytesRow,bs]
  rw[e1,pz,mM,nF (by simp;omega),pM<|by simpa using hi];simp
 refine⟨_,_,by simp only[execOp,ha.1.eval hx,pI,hrun];rfl,?_⟩;have hk:=k _ _ _ le hr hm;rw[hlen] at hk
 exact hk _ _ ⟨ha.1.put hd _,hsh⟩
theorem GL.sU{f:UV So->H1 β}(hd:Nat.blt d n=true)(h1:P.underlying t=some .string)(h2:P.underlying t' =some (.slice e))(h3:P.underlying e=some (.int .u8))(hx:QI S ox=some (.string<|bs s))
  (k:∀z F' p cap,Jf [] s=some z->F<=F'->QG 1 (Ex<|KJ .u8) F' p cap (WU z)->GL O P ops rest ks Q (Hd n D ((d,.slice p (WU z).length cap)::S) F' hs) (f z) r):GL O P ops (⟨some d,.convert t t' ox,ty,pos,after,none⟩::rest) ks Q (Hd n D S F hs) ((Jf [] s).bind f) r:=
 GL.bind λz hz=>by
  have hz' :=hz;unfold Jf at hz
  split at hz
  ·rename_i h;simp only[rY,BY] at hz
   subst hz;simp only[pO,pz] at h
   exact GL.sh hd h1 h2 h3 hx h λF' p cap le hr=>k _ F' p cap hz' le hr
  ·cases hz
end
section
variable{β:Type}{P:PP}{ops:OF j9}{rest:UV j9}{E:Act->TO->Prop}{m:H1 β}{r:β}
variable{n:Nat}{D:UV If}{S:UV (Nat×Do)}{F F0:Fz}{hs:UV HP}{d e cap T:Nat}{p:H1 Of}{l:UV Int}{ty t t' :IF}{pos:String}{after:OF nA}{ox oy oz:x8}{kd kd' :pg}{x y:Int}{s u:UV So}
theorem GS.aH{z:UV So}(h:ZW s 0 y=some z)(hd:Nat.blt d n=true)(ht:P.underlying t=some .string)(hx:QI S ox=some (.string<|bs s))(hz:QI S oz=some (.int kd' y))(k:GS P ops rest E (Hd n D ((d,.string<|bs z)::S) F hs) m r):GS P ops (⟨some d,.slice t ox none (some oz) none,ty,pos,after,none⟩::rest) E (Hd n D S F hs) m r:=GS.val hd (λa w ha=>Mq ha.1 ht hx hz h) k
end
end
end
section
open Go.RowKit
variable{O:H1 Nat}
def Rt:OF Do:=(Go.Lib.pow10Tab.map λz=>Value.int .u64 z).toArray
def ux(P:PP)(F:Fz)(name:String)(cs:OF Do):Prop:=∃g T fr,P.globalNamed name=some g/\F.mem g=some (.cells cs T fr)
theorem ux.mono{P:PP}{F F' :Fz}{name:String}{cs:OF Do}(h:ux P F name cs)(le:F<=F'):ux P F' name cs:=let⟨g,T,fr,h1,h2⟩:=h;⟨g,T,fr,h1,le.mem _ _ h2⟩
section
variable{β:Type}{P:PP}{ops:OF j9}{rest:UV j9}{ks:UV Kt}{Q:pU->Act->TO->Prop}{m:H1 β}{r:β}
variable{n:Nat}{D:UV If}{S:UV (Nat×Do)}{F:Fz}{hs:UV HP}
variable{d:Nat}{ty t t2 e:IF}{pos:String}{after:OF nA}{ox oy oz:x8}{v:Do}{kd:pg}{x:Int}
theorem Ag{α:Type}:∀{l:UV α} {i:Nat} {x:α},l[i]? =some x->l.set i x=l
 | [],_,_,h=>by simp at h
 | a::l,0,x,h=>by simp at h;subst h;rfl
 | a::l,i+1,x,h=>by simp at h ⊢;exact Ag h
end
end
section
def Fz.del(F:Fz)(b:Nat):Fz:={F with mem:=λk=>if k=b then none else F.mem k}
theorem SH.tQ{w:TO}{F:Fz}{b:Nat}{o:Obj}{H:HP}(h:SH w F H)(hb:F.mem b=some o):SH w (F.del b) (star (pt b o) H):=by
 obtain⟨m,hm,k⟩:=h
 have hmb:m (.blk b)=none:=by
  rcases k.dj b with h | h
  ·exact h
  ·rw[hb] at h;cases h
 refine⟨m.set (.blk b)<|.obj o,B5 hmb hm,?_,?_,?_,?_,k.os,k.tape,k.out⟩
 ·intro x;by_cases e:x=b
  ·subst e;exact .inr<|by simp[Fz.del]
  ·rcases k.dj x with h | h
   ·exact .inl<|by simpa[Mem.set,e] using h
   ·exact .inr<|by simpa[Fz.del,e] using h
 ·intro x c e;by_cases e' :x=b
  ·subst e';simp[Mem.set] at e;subst e;exact⟨o,rfl,k.frz _ _ hb⟩
  ·simp[Mem.set,e'] at e;exact k.own x c e
 ·intro γ c e;exact k.gst γ c<|by simpa[Mem.set] using e
 ·intro x c e;by_cases e' :x=b
  ·subst e';simp[Fz.del] at e
  ·exact k.frz x c<|by simpa[Fz.del,e'] using e
end
section
abbrev fA:=Nat->Int
end
section
variable{α:Type}{c:UR α}{l:UV α}{cap sz e:Nat}{F0:Fz}
section
variable{β:Type}{P:PP}{O:H1 Nat}{ops:OF j9}{rest:UV j9}{ks:UV Kt}{Q:pU->Act->TO->Prop}{m:H1 β}{r:β}
variable{n:Nat}{D:UV If}{S:UV (Nat×Do)}{F:Fz}{hs:UV HP}{d:Nat}{ty:IF}{pos:String}{after:OF nA}{T:OF IF}
theorem QG.tf{b:Nat}{cs:UV Do}{l2:UV α}(le:F0<=F)(le1:F<=F.add b (.cells cs.toArray e (0,0)))(h1:l.length<=cap)(h2:cap<=9223372036854775807)(hpp:Jg sz c F0 l cs)(hl:∃k,l2=l.take k):QG sz c (F.add b<|.cells cs.toArray e (0,0)) (some ⟨b,0,none⟩) cap l2:=by
 obtain⟨q,rfl⟩:=hl;refine⟨by rw[nl];omega,h2,.inr ⟨b,0,cs.toArray,e,(0,0),rfl,Fz.fx _ _ _,λj x hx F' lf=> ?_⟩⟩;rw[pF] at hx
 split at hx
 ·simpa using hpp j x hx F' (Fz.t le<|Fz.t le1 lf)
 ·cases hx
theorem GC.tg{p:H1 Of}{cd:rh}(i:Nat)(hi:hs[i]? =some (Ql sz c F0 e p cap l))(le0:F0<=F)
  (k:∀F1,F<=F1->QG sz c F1 p cap l->(∀F' w hs',F1<=F'->SH w F' (Qh hs')->∃F'',F<=F''/\SH w F'' (Qh<|Ql sz c F0 e p cap l::hs'))->GC O P cd ks Q (Hd n D S F1<|hs.eraseIdx i) m r):GC O P cd ks Q (Hd n D S F hs) m r:=
 λhm a w hA=>by
  have hp:=hA.2.pull hi;obtain⟨mm,⟨m1,m2,dd,s1,s2,⟨h1,h2,h3⟩,hq⟩,kk⟩:=hp;rcases h3 with⟨rfl,rfl⟩ | ⟨b,cs,rfl,hb,hl,hpp⟩
  ·have e1:l=[]:=x6 (by omega);subst e1;refine k F (Fz.le_refl _) ⟨by simp,by simp,.inl rfl⟩ (λF' w hs' le h=>⟨F',le,h.mono λm hm=> ?_⟩) hm a w ⟨hA.1,hA.2.dF i⟩;exact⟨λ_=>none,m,λ_=>.inl rfl,λ_ _ e=>by simp at e,Mem.sub.refl _,Cy,hm⟩
  ·have hh:SH w F (star (pt b<|.cells cs.toArray e (0,0))<|Qh<|hs.eraseIdx i):=⟨mm,⟨m1,m2,dd,s1,s2,hb,hq⟩,kk⟩
   have hbn:F.mem b=none:=by
    rcases kk.dj b with h | h
    ·have:=s1 _ _ hb;rw[h] at this;cases this
    ·exact h
   obtain⟨le1,hw1⟩:=hh.freeze;refine k _ le1 (QG.tf le0 le1 h1 h2 hpp ⟨l.length,by simp⟩) (λF' w' hs' le hw=> ?_) hm a w ⟨hA.1,hw1⟩;have hb' :=le.mem _ _<|Fz.fx F b<|.cells cs.toArray e (0,0)
   have hle:F<=F'.del b:=⟨le.os,le.tape,le.out,λk x hx=>by
    have hk:k≠b:=λe=>by rw[e,hbn] at hx;cases hx
    simp only[Fz.del,hk,RK];exact le.mem _ _<|le1.mem _ _ hx,le.gh,le.gn⟩
   exact⟨F'.del b,hle,(hw.tQ hb').mono λ_ hm=>QQ (λm' hm' =>⟨h1,h2,.inr ⟨b,cs,rfl,hm',hl,hpp⟩⟩) hm⟩
theorem GL.bH{γ:Type}{p:H1 Of}{l2:UV α}{f:x4}{caps ags vs:UV Do}{of:x8}{os:UV x8}{ee:H1 γ}{ρ:γ->Fz->Do->Prop}{g:γ->H1 β}(ρ' :γ->Do->Prop)(i:Nat)(hi:hs[i]? =some (Ql sz c F0 e p cap l))(le0:F0<=F)(hl2:∃k,l2=l.take k)(hd:Nat.blt d n=true)
  (hcall:∀args w,(callFunc f args).run P w= .ok (.enter f args) w) (hf:QI S of=some (.func (.func f) #[] caps.toArray)) (ha:UO S os=some vs) (has:vs++caps=ags)
  (hc:∀F1,F<=F1->QG sz c F1 p cap l2->KE P f ags.toArray F1 ee ρ) (hρ:∀x F' v,ρ x F' v->ρ' x v)
  (k:∀x F' v,ee=some x->F<=F'->ρ' x v->GL O P ops rest ks Q (Hd n D ((d,v)::S) F' hs) (g x) r):GL O P ops (⟨some d,.call ⟨.value of,os.toArray,T⟩,ty,pos,after,none⟩::rest) ks Q (Hd n D S F hs) (ee.bind g) r:=
 GL.bD rfl (.inr rfl) λhm a w hA=>by
  subst has;refine⟨WW hA.1 hcall hf ha,?_⟩;cases he:ee with
  | none=>rw[he] at hm;cases hm
  | some y=>
   rw[he] at hm
   have hp:=hA.2.pull hi;obtain⟨mm,⟨m1,m2,dd,s1,s2,⟨h1,h2,h3⟩,hq⟩,kk⟩:=hp;rcases h3 with⟨rfl,rfl⟩ | ⟨b,cs,rfl,hb,hl,hpp⟩
   ·have e1:l2=[]:=by
     obtain⟨q,rfl⟩:=hl2;rw[x6 (l:=l)<|by omega];simp
    subst e1;refine((hc F (Fz.le_refl _) ⟨by simp,by simp,.inl rfl⟩) y he w _ hA.2).mono ?_;rintro _ w' ⟨F',v,le,rfl,hv,hw⟩;exact⟨_,rfl,k y F' v he le (hρ _ _ _ hv) hm _ _ ⟨hA.1.put hd _,hw⟩⟩
   ·have hh:SH w F (star (pt b<|.cells cs.toArray e (0,0))<|Qh<|hs.eraseIdx i):=⟨mm,⟨m1,m2,dd,s1,s2,hb,hq⟩,kk⟩
    have hbn:F.mem b=none:=by
     rcases kk.dj b with h | h
     ·have:=s1 _ _ hb;rw[h] at this;cases this
     ·exact h
    obtain⟨le1,hw1⟩:=hh.freeze;refine(hc _ le1 (QG.tf le0 le1 h1 h2 hpp hl2) y he w _ hw1).mono ?_;rintro _ w' ⟨F',v,le,rfl,hv,hw⟩;have hb' :=le.mem _ _<|Fz.fx F b<|.cells cs.toArray e (0,0)
    have hle:F<=F'.del b:=⟨le.os,le.tape,le.out,λk x hx=>by
     have hk:k≠b:=λe=>by rw[e,hbn] at hx;cases hx
     simp only[Fz.del,hk,RK];exact le.mem _ _<|le1.mem _ _ hx,le.gh,le.gn⟩
    refine⟨_,rfl,k y (F'.del b) v he hle (hρ _ _ _ hv) hm _ _ ⟨hA.1.put hd _,?_⟩⟩;have h5:=hw.tQ hb';have h6:SH w' (F'.del b) (star (Ql sz c F0 e (some ⟨b,0,none⟩) cap l)<|Qh<|hs.eraseIdx i):=h5.mono λ_ hm=>QQ (λm' hm' =>⟨h1,h2,.inr ⟨b,cs,rfl,hm',hl,hpp⟩⟩) hm;have h7:=SH.push hi h6
    rwa[Ag hi] at h7
end
end
end Go.Dec
end
