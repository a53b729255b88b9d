/- For OfficeDue. -/
import Derived.Test.YtbjgigfhnlnbfaaGreatDoorPd1
import Derived.Shelf.SlIterI.Nil
import Derived.Scope
import Derived.Laws.Strings
import Derived.Laws.BytesArg
import Derived.Laws.IdiomStrings
import Derived.Laws.AppendOwn
import Derived.Lib.AppendIntMem
import Derived.Lib.BufferKept
noncomputable section
namespace Go.Dec
abbrev DO:=@UInt8
abbrev T2:=@List.mem_of_getElem?
abbrev tb:=@List.getD_eq_getElem?_getD
abbrev ei:=@Nat.zero_le
abbrev ej:=@Nat.mul_one
abbrev iD:=@List.getElem?_zip_eq_some
abbrev iR:=@Nat.beq_refl
abbrev iX:=@List.mem_append_left
end Go.Dec
namespace Go.Dec
section
variable{V:Type}{rv:Fz->V->K2->Prop}{P:C1}{k:A4}{F:Fz}{w:B1}
variable{O:Q2 Nat}{μ:Md}
open Go.Maps Go.WideElems Go.RowKit Go.MapKept Go.WideShapes
theorem SH.below{w':B1}{H:HP}(h:SH w F H)(d:Below w.heap.size w w'):SH w' F H:=by
 obtain⟨m,a,k⟩:=h;refine⟨m,a,k.dj,λb c e=> ?_,k.gst,λb o e=> ?_,d.os.trans k.os,d.tape.trans k.tape,d.output.trans k.out⟩
 ·obtain⟨o,g,f⟩:=k.own b c e;exact⟨o,g,(d.block b<|lt_of_heap f).trans f⟩
 ·have:=k.frz b o e;exact(d.block b<|lt_of_heap this).trans this
theorem SH.pR{w':B1}{H:HP}{g:Nat}{o:Obj}(h:SH w F H)(f:Below w.heap.size w w')(r:w.heap.size<=g)(l:w'.heap[g]? =some o):F<=F.add g o/\SH w' (F.add g o) H:=by
 have h' :=h.below f;obtain⟨m,a,k⟩:=h;obtain⟨s,t,i⟩:=h'
 have n:F.mem g=none:=by
  cases e:F.mem g with
  | none=>rfl
  | some x=>have:=lt_of_heap<|k.frz g x e;omega
 have p:m (.blk g)=none:=by
  cases e:m (.blk g) with
  | none=>rfl
  | some x=>obtain⟨o',_,d⟩:=k.own g x e;have:=lt_of_heap d;omega
 refine⟨Fz.pq n,m,a,λb=> ?_,λb c e=> ?_,k.gst,λb x e=> ?_,i.os,i.tape,i.out⟩
 ·show m (.blk b)=none∨Rl F.mem g o b=none;by_cases e:b=g
  ·subst e;exact .inl p
  ·rcases k.dj b with h | h
   ·exact .inl h
   ·exact .inr<|by simpa[Rl,e] using h
 ·obtain⟨o',q,d⟩:=k.own b c e;exact⟨o',q,(f.block b<|lt_of_heap d).trans d⟩
 ·by_cases j:b=g
  ·subst j;have:(F.add b o).mem b=some o:=Fz.cx F b o;rw[this] at e;cases e;exact l
  ·have:F.mem b=some x:=by simpa[Fz.add,Rl,j] using e
   exact(f.block b<|lt_of_heap<|k.frz b x this).trans<|k.frz b x this
def Gn(l:Q0 (Int×V)):Q2 (Q0 Int):=if l.all (λx=>decide<|-9223372036854775808<=x.1/\x.1<=9223372036854775807)=true/\l.length<=1000000 then some ((l.map Prod.fst).mergeSort λa b=>decide<|a<=b) else none
abbrev Tt:Int->K2:=λx=>.int .i64 x
abbrev qJ:K2->Q2 (DataW Unit×Q0 MemPlace):=λ_=>some (.nil,[])
theorem keyOf_int(a:P.underlying k=some (.int .i64)){x:Int}(h: -9223372036854775808<=x/\x<=9223372036854775807):keyOf P k (Tt x)=some (.int .i64 x):=by
 have b:(Lit.int .i64 x).wf=true:=by
  simp[Lit.wf,IntKind.min,IntKind.max,IntKind.bits,IntKind.signed];omega
 simp[keyOf,a,mapKey,b]
theorem gV(a:P.underlying k=some (.int .i64)){x:Int}{e:dO}(he:e.key=Tt x)(h: -9223372036854775808<=x/\x<=9223372036854775807):rd P k qJ e=some (.int .i64 x,.nil):=by
 unfold rd;rw[he,keyOf_int a h];rfl
theorem Uv.keys(b:P.underlying k=some (.int .i64)):∀{es:Q0 dO} {l:Q0 (Int×V)},Uv Tt rv F es l->(∀x∈l,(-9223372036854775808<=x.1/\x.1<=9223372036854775807))->(es.map<|rg P k qJ).map (λp=>intOf p.1)=l.map Prod.fst/\(∀e∈es,∃y,rd P k qJ e=some y)/\es.map (·.key)=l.map (λx=>Tt x.1)
 | [],[],_,_=>⟨rfl,by simp,rfl⟩
 | e::es,x::l,⟨c,_,g⟩,d=>by
  obtain⟨i,j,m⟩:=g.keys b λy n=>d y<|IF _ n;have f:=gV b c (d x zh);refine⟨?_,?_,?_⟩
  ·simp only[Of,i,rg_of f];rfl
  ·intro o a;rcases Tc.1 a with rfl | h
   ·exact⟨_,f⟩
   ·exact j _ h
  ·simp only[Of,m,c]
theorem w8(o:P.underlying k=some (.int .i64)){b clock:Nat}{es:S1 dO}{l' l:Q0 (Int×V)}(q:w.heap[b]? =some (.map es clock))(m:Uv Tt rv F es.toList l')(c:YV es.toList clock)(g:l'.Perm l)(r:(l.map Prod.fst).Nodup)
  (d:l.all (λx=>decide<|-9223372036854775808<=x.1/\x.1<=9223372036854775807)=true) (n:l.length<=1000000):∃D:DataW Unit,w.ownsMap P k qJ b es.size D/\(intKeys D).Perm (l.map Prod.fst)/\Maps.size D=l.length:=by
 have i:∀x∈l',(-9223372036854775808<=x.1/\x.1<=9223372036854775807):=λx s=>by
  have:=If.1 d x<|g.mem_iff.1 s;simpa using this
 obtain⟨t,u,v⟩:=m.keys o i;have f:es.size=l.length:=by rw[<-g.length_eq,<-m.len];simp
 refine⟨.map<|(es.toList.map<|rg P k qJ).foldr DataW.insert [],⟨es,clock,q,⟨by rw[f];unfold maxLen;omega,⟨c.2,c.1.imp λh=>oU h,?_⟩,u⟩,S2 _,rfl⟩,?_,?_⟩
 ·rw[v];have y:(l'.map Prod.fst).Nodup:=((g.map Prod.fst).nodup_iff).2 r;have e:l'.map (λx=>Tt x.1)=(l'.map Prod.fst).map Tt:=by rw[lY];rfl
  rw[e];exact y.map _ λa b j e=>j<|by simpa[Tt] using e
 ·show(((es.toList.map<|rg P k qJ).foldr DataW.insert []).map λp=>intOf p.1).Perm _;refine((sorted_perm _).map _).trans ?_;rw[t];exact g.map _
 ·show((es.toList.map<|rg P k qJ).foldr DataW.insert []).length=_;rw[(sorted_perm _).length_eq];simpa using f
theorem ku{a b:Q0 Int}(h:a.Perm b):a.mergeSort (λx y=>decide<|x<=y)=b.mergeSort (λx y=>decide<|x<=y):=mergeSort_of_perm_i h
def Fy(P:C1)(d g:L3)(k T:A4):Prop:=
 (∀(b f:Nat) (D:DataW Unit) (a:Nat) (w:B1),a < w.heap.size->w.cell? ⟨a,0,none⟩=some (.map<|some b)->w.ownsMap P k qJ b f D->Maps.size D<=1000000->
  Calls P d #[.func (.func g) #[] #[.pointer<|some ⟨a,0,none⟩]] w λe w' =>∃(v:K2) (c:Q0 Int),e= .returned v/\c.Perm (intKeys D)/\w'.ownsRow w.heap.size T 1 v c.length ((c.mergeSort λx y=>decide<|x<=y).map encZ)/\(v= .slice none 0 0↔c=[])/\Below w.heap.size w w')/\
 (∀(a:Nat) (w:B1),a < w.heap.size->w.cell? ⟨a,0,none⟩=some (.map none)->Calls P d #[.func (.func g) #[] #[.pointer<|some ⟨a,0,none⟩]] w λe w' =>e= .returned (.slice none 0 0)/\Below w.heap.size w w')
def KeysOf(P:C1)(b g:L3)(T:A4):Prop:=∀a W,Calls P b #[.map a] W λe w' =>e= .returned (.func (.func g) #[] #[.pointer<|some ⟨W.heap.size,0,none⟩])/\w' =W.alloc (.cells #[.map a] T)
section
variable{β:Type}{P:C1}{ops:S1 Rw}{rest:Q0 Rw}{ks:Q0 Kt}{Q:gw->Act->B1->Prop}{m:Q2 β}{r:β}
variable{n:Nat}{D:Q0 TO}{S:Q0 (Nat×K2)}{F F0:Fz}{hs:Q0 HP}{d:Nat}{ty k T T' :A4}{pos:String}{after:S1 ll}{ox of:IR}{Ty:S1 A4}{fs fk g:L3}
variable{V:Type}{rv:Fz->V->K2->Prop}{b γ j:Nat}{l:Q0 (Int×V)}{xs:Q0 (Q0<|Int×V)}{p x:Q2 Nat}
theorem GG.pE(i:KeysOf P fk g T)(o:Nat.blt d n=true)(c:∀args w,(callFunc fk args).run P w= .ok (.enter fk args) w)(q:QP S of=some (.func (.func fk) #[] #[]))(s:QP S ox=some (.map p))
  (K:∀b e,F<=e->e.mem b=some (.cells #[.map p] T)->GL O P ops rest ks Q (Hd n D ((d,.func (.func g) #[] #[.pointer<|some ⟨b,0,none⟩])::S) e hs) m r):GL O P ops (⟨some d,.call ⟨.value of,#[ox],Ty⟩,ty,pos,after,none⟩::rest) ks Q (Hd n D S F hs) m r:=
 GG.su rfl (.inr rfl) λt a w f=>by
  refine⟨Wx (os:=[ox]) (caps:=[]) (vs:=[.map p]) f.1 c q (by simp[Uk,s]),(i p w).mono ?_⟩;rintro _ w' ⟨rfl,rfl⟩;obtain⟨le,h⟩:=f.2.tA<|.cells #[.map p] T;exact⟨_,rfl,K w.heap.size _ le (Fz.cx ..) t _ _ ⟨f.1.put o _,h⟩⟩
theorem GG.rN{c:U2 Int}{f:Q0 Int->Q2 β}(Y:P.underlying k=some (.int .i64))(aA:Fy P fs g k k)(hc:∀F x,c F x [.int .i64 x]){L:Nat}(hB:F.mem L=some (.cells #[.map p] T))(i:Nat)(hi:hs[i]? =some (ZC γ (QY Tt rv) F0 xs))(hb:UJ γ F j b)(hp:p=some b)(aB:xs[j]? =some l)
  (hd:Nat.blt d n=true) (B:∀args w,(callFunc fs args).run P w= .ok (.enter fs args) w) (hf:QP S of=some (.func (.func fs) #[] #[])) (Z:QP S ox=some (.func (.func g) #[] #[.pointer<|some ⟨L,0,none⟩]))
  (K:∀e M p' cap,Gn l=some e->F<=M->QG 1 c M p' cap e->GL O P ops rest ks Q (Hd n D ((d,.slice p' e.length cap)::S) M hs) (f e) r):GL O P ops (⟨some d,.call ⟨.value of,#[ox],Ty⟩,ty,pos,after,none⟩::rest) ks Q (Hd n D S F hs) ((Gn l).bind f) r:=by
 refine GG.bind λe o=> ?_;have K' :=K e;refine GG.su (f:=fs) (args:=#[.func (.func g) #[] #[.pointer<|some ⟨L,0,none⟩]]) rfl (.inr rfl) λhm a w C=> ?_;refine⟨Wx (os:=[ox]) (caps:=[]) (vs:=[.func (.func g) #[] #[.pointer<|some ⟨L,0,none⟩]]) C.1 B hf (by simp[Uk,Z]),?_⟩;subst hp;have t:=o;unfold Gn at o
 split at o
 ·rename_i E;obtain⟨N,R⟩:=E;simp only[UV] at o
  obtain⟨es,cl,l',aC,hn,G,hr,aD⟩:=(C.2.pull hi).ae hb aB;obtain⟨D0,W,H,aE⟩:=w8 Y G hr aD aC hn N R;have X:=C.2.frozen hB;refine(aA.1 b _ D0 L w (lt_of_heap X) (by simp[World.cell?,X]) W qz).mono ?_;rintro _ w' ⟨v,ss,rfl,aF,⟨aZ,u⟩,aN,A⟩;have s:ss.mergeSort (λx y=>decide<|x<=y)=e:=by rw[<-o];exact ku<|aF.trans H
  have h:e.length=ss.length:=by rw[<-s];simp
  rw[s] at u
  rcases u with⟨rfl,h0⟩ | ⟨gb,cap,cur,rfl,I,aG,r1,r2,r3,r4⟩
  ·have aH:e=[]:=Nm (by rw[h,h0]);subst aH;exact⟨_,rfl,K' F none 0 t (Fz.le_refl F) QG.nil hm _ _ ⟨C.1.put hd _,C.2.below A⟩⟩
  ·obtain⟨le,h2⟩:=C.2.pR A I aG;have Y:=K' _ (some ⟨gb,0,none⟩) cap t le ⟨by rw[h];exact r1,by unfold maxLen at r2;omega,.inr ⟨gb,0,cur,_,_,rfl,Fz.cx ..,λq x Z M _=> ?_⟩⟩
   ·rw[h] at Y
    exact⟨_,rfl,Y hm _ _ ⟨C.1.put hd _,h2⟩⟩
   ·have hq:=Zm Z;rw[h] at hq
    have:(cur.toList.drop<|0+q*1).take 1=[.int .i64 x]:=by
     have e1:cur.toList[q]? =some (.int .i64 x):=by
      have h3:=congrArg (λz=>z[q]?) r4;simp only[yb,hP,Z] at h3
      rw[Bm qz] at h3
      simpa[encZ] using h3
     simp only[sf,ej];rw[x2 (Do.1 e1).1];have e2:=(Do.1 e1).2;simp[e2]
    rw[this];exact hc M x
 ·cases o
def V7(A:Q0 (Q0<|Int×V))(x:Q2 Nat):Q2 (Q0 Int):=match x with
 | none=>some []
 | some i=>(A[i]?).bind Gn
theorem GG.aW{c:U2 Int}{f:Q0 Int->Q2 β}(L:P.underlying k=some (.int .i64))(t:Fy P fs g k k)(M:∀F x,c F x [.int .i64 x]){u:Nat}(E:F.mem u=some (.cells #[.map p] T))(i:Nat)(hi:hs[i]? =some (ZC γ (QY Tt rv) F0 xs))(h:Zx γ F p x)
  (G:Nat.blt d n=true) (o:∀args w,(callFunc fs args).run P w= .ok (.enter fs args) w) (H:QP S of=some (.func (.func fs) #[] #[])) (I:QP S ox=some (.func (.func g) #[] #[.pointer<|some ⟨u,0,none⟩]))
  (K:∀q A p' cap,V7 xs x=some q->F<=A->QG 1 c A p' cap q->GL O P ops rest ks Q (Hd n D ((d,.slice p' q.length cap)::S) A hs) (f q) r):GL O P ops (⟨some d,.call ⟨.value of,#[ox],Ty⟩,ty,pos,after,none⟩::rest) ks Q (Hd n D S F hs) ((V7 xs x).bind f) r:=by
 cases x with
 | some j=>
  obtain⟨b,N,B⟩:=h;cases s:xs[j]? with
  | none=>intro C;simp[V7,s] at C
  | some l=>
   have e:V7 xs (some j)=Gn l:=by simp[V7,s]
   rw[e] at K ⊢
   exact GG.rN L t M E i hi N B s G o H I K
 | none=>
  have B:p=none:=h;subst B;have R:=K [] F none 0 rfl (Fz.le_refl F) QG.nil;refine GG.su (m:=f []) (f:=fs) (args:=#[.func (.func g) #[] #[.pointer<|some ⟨u,0,none⟩]]) rfl (.inr rfl) λC a w z=> ?_;refine⟨Wx (os:=[ox]) (caps:=[]) (vs:=[.func (.func g) #[] #[.pointer<|some ⟨u,0,none⟩]]) z.1 o H (by simp[Uk,I]),?_⟩;have v:=z.2.frozen E;refine(t.2 u w (lt_of_heap v)<|by simp[World.cell?,v]).mono ?_;rintro _ w' ⟨rfl,y⟩;exact⟨_,rfl,R C _ _ ⟨z.1.put G _,z.2.below y⟩⟩
end
end
section
variable{α:Type}
theorem PE{p q:HP}{m:Mem}(h:star p q m):star q p m:=by
 obtain⟨a,b,d,c,e,f,g⟩:=h;exact⟨b,a,d.symm,e,c,g,f⟩
theorem Wo{p q:HP}{m:Mem}(h:star (Qg [p]) q m):star p q m:=by
 obtain⟨k,e,d,f,g,⟨a,b,_,c,_,i,_⟩,j⟩:=h;exact⟨a,e,d.sub c<|Mem.sub.refl _,c.trans f,g,i,j⟩
def zP(P:C1)(F:Fz)(f:L3)(caps:Q0 K2)(arg:α->Fz->Q0 K2->Prop)(Hs:Fz->Q0 HP)(l:Q0 α):Prop:=
 (∀args w,(callFunc f args).run P w= .ok (.enter f args) w)/\
 ∀(σ:Type) (b:Nat) (Y:σ->Fz->HP) (y:α->σ->Q2 (σ×Bool)) (a:Fz),F<=a->WK P b a arg Y y->∀s,Xv P f (.func (.yield b) #[] #[]::caps).toArray a (Hs a++[Y s a]) (WH y l s) (λ_ _ _=>True) λd c=>Hs c++[Y d c]
theorem zP.mk'{P:C1}{F:Fz}{f:L3}{caps:Q0 K2}{arg:α->Fz->Q0 K2->Prop}{Hs:Fz->Q0 HP}{l:Q0 α}(d:∀args w,(callFunc f args).run P w= .ok (.enter f args) w)
  (e:∀(σ:Type) (b:Nat) (Y:σ->Fz->HP) (y:α->σ->Q2 (σ×Bool)) (a:Fz),F<=a->WK P b a arg Y y->∀s,∃m,Xv P f (.func (.yield b) #[] #[]::caps).toArray a (Hs a++[Y s a]) m (λ_ _ _=>True) (λg c=>Hs c++[Y g c])/\∀r,WH y l s=some r->m=some r):zP P F f caps arg Hs l:=
 ⟨d,λσ b Y y a le i s r j=>let⟨_,h,k⟩:=e σ b Y y a le i s;h r (k r j)⟩
section
variable{β:Type}{P:C1}{ks:Q0 Kt}{Q:gw->Act->B1->Prop}{r:β}{n:Nat}{D:Q0 TO}{S:Q0 (Nat×K2)}{F:Fz}{hs:Q0 HP}
variable{α τ:Type}{g:IR}{ps:Q0 Tmp}{assign body:ln}{f:L3}{caps:Q0 K2}{arg:α->Fz->Q0 K2->Prop}{s0:τ}
theorem GG.pQ{l:Q0 α}{bm:α->τ->Q2 τ}{k:τ->Q2 β}(Hs:Fz->Q0 HP)(is:Q0 Nat)(I:τ->Fz->Q0 HP->Prop)(X:QP S g=some (.func (.func f) #[] caps.toArray))(u:zP P F f caps arg Hs l)(B:(ps.all λp=>Nat.blt p n)=true)(y:∀x d vs,arg x d vs->vs.length=ps.length)
  (hi:YJ is hs=Hs F) (C:I s0 F (J9 is hs))
  (round:∀l L F0 o x vs s i R c,F<=F0->F0<=o->arg x o vs->I s F0 c->GC (some l) P assign [] (BP P l body<|RP l L I (fun(_:Empty) _ _=>False) o R<|.next i) (Hd n [] ((ps.zip vs).reverse++S) o<|pt l (UH L)::R::c) (bm x s) i)
  (next:∀q F0 d s c,F<=F0->F0<=d->Y1 bm l s0=some s->I s F0 c->GE none P ks Q (Hd n (WX q::D) S d<|pt q (.deferred<|some [])::(Hs d++c)) (k s) r):GC none P (.rangeFunc g ps.toArray assign body) ks Q (Hd n D S F hs) ((Y1 bm l s0).bind k) r:=by
 intro b a w j;cases z:Y1 bm l s0 with
 | none=>rw[z] at b;cases b
 | some E=>
  rw[z] at b
  refine oD λfn _=> ?_
  let L:Loop:={state:=.ready,pending:=none,fn,tmps:=a.tmps,params:=ps.toArray,assign,body,defers:=w.heap.size}
  let J:Empty->Fz->Q0 HP->Prop:=λ_ _ _=>False
  have G:SH ((w.alloc<|.deferred<|some []).alloc<|.loop L) F (star (Qg<|Hs F++[yS F (w.heap.size+1) L I J (.next s0) F])<|Qg [pt w.heap.size<|.deferred<|some []]):=by
   have t:=(j.2.alloc<|.deferred<|some []).alloc<|.loop L;rw[eO] at t
   refine t.mono λm b=> ?_
   have Y:star (pt (w.heap.size+1)<|UH L) (star (pt w.heap.size<|.deferred<|some [])<|star (Qg<|Hs F)<|Qg<|J9 is hs) m:=
    QS (λm b=>QS (λm b=>by have:=UG (ks:=is) b;rw[hi] at this;exact this) b) b
   have A:=PE<|QS (λm b=>Zi b)<|Zi Y;refine QR (λm b=> ?_)<|QS (λm b=>YD b) A;refine K7<|QS (λm b=>YD (p:=yS F (w.heap.size+1) L I J (.next s0) F) ⟨F,J9 is hs,Fz.le_refl _,Fz.le_refl _,C,b⟩) b
  have Z:WK P (w.heap.size+1) F arg (yS F (w.heap.size+1) L I J) (je λx s=>(bm x s).map UP.next):=by
   refine Rx (S' :=λvs=>(ps.zip vs).reverse++S) (assign:=assign) (body:=body) (λx d vs H=>by rw[y x d vs H];simp[L]) rfl rfl (λvs _=>D4 B ⟨j.1.1,rfl,j.1.2.2⟩) ?_;intro F0 o x vs s i R c K t H C h;cases M:bm x s with
   | none=>rw[M] at h;cases h
   | some s' =>
    rw[M] at h
    simp only[E4,UV] at h
    subst h;exact round _ L F0 o x vs s s' R c K t H C M
  have hc:=u.2 _ _ _ _ F (Fz.le_refl F) Z (.next s0) (.next E) (by rw[Fo,D7,z];rfl) _ _ G;refine⟨w.heap.size+1,[WX w.heap.size],(w.alloc<|.deferred<|some []).alloc<|.loop L,⟨.fn (.func f) caps.toArray,#[.func (.yield<|w.heap.size+1) #[] #[]]⟩,(w.alloc<|.deferred<|some []).alloc<|.loop L,f,(.func (.yield<|w.heap.size+1) #[] #[]::caps).toArray,(w.alloc<|.deferred<|some []).alloc<|.loop L,eD fn a.tmps ps.toArray assign body,?_,λ_ _=>trivial,?_,λe=>(by cases e),?_⟩
  ·have N:a.eval (.const<|.func (.yield<|w.heap.size+1) #[] #[])= .func (.yield<|w.heap.size+1) #[] #[]:=rfl;simp[resolve,Deferred.ofValue,j.1.eval X,N]
  ·simp[invoke,u.1]
  ·refine fl.2<|hc.mono ?_;rintro _ w' ⟨d,v,le,rfl, -,T⟩
   have V:SH w' d (star (yS F (w.heap.size+1) L I J (.next E) d)<|star (Qg<|Hs d)<|Qg [pt w.heap.size<|.deferred<|some []]):=T.mono λm b=>by
    exact Wo<|Zi<|XO<|QR (λm b=>Ve b) b
   obtain⟨F0,c,K,t,W,A⟩:=SH.sk V;refine⟨none,_,D5<|SH.cp (k:=0) rfl A,?_⟩;have h4:SH _ d (Qg<|pt w.heap.size (.deferred<|some [])::(Hs d++c)):=(SH.sF 0<|SH.putAt (k:=0) rfl A<|Ti L none).mono λm b=>QS (λm b=>K7 b)<|Wo<|Zi<|XO b;exact next w.heap.size F0 d E c K t z W b _ _ ⟨⟨j.1.1,by simp[j.1.2.1],j.1.2.2⟩,h4⟩
end
theorem Hd.cU{γ:Nat}{C:Fz->Nat->α->HP}{xs:Q0 α}{n:Nat}{D:Q0 TO}{S:Q0 (Nat×K2)}{F F0:Fz}{hs:Q0 HP}{a:Act}{w:B1}(i:Nat)(c:Hm C)(le:F0<=F)(hi:hs[i]? =some (ZC γ C F0 xs))(b:Hd n D S F hs a w):Hd n D S F (hs.set i<|ZC γ C F xs) a w:=⟨b.1,SH.push hi<|(b.2.pull hi).aN c le⟩
end
section
variable{Q:gw->Act->B1->Prop}{vs:Q0 K2}{l:Q0 Rw}{ops:S1 Rw}{D:Q0 TO}{P:C1}{L:Nat->Bool}{k n d:Nat}{v:K2}{β:Type}{m:Q2 β}{ks:Q0 Kt}{hs:Q0 HP}{a0 a b:Act}{o:Rw}
variable{O:Q2 Nat}{μ:Md}
def Ah(P:C1)(ops:S1 Rw)(w:B1)(o:Rw)(v:K2)(a:Act):Prop:=(Region.wanted o (yielded ops a.tmps)=true/\(execOp a.eval o).run P w= .ok (.value v) w)∨(Region.wanted o (yielded ops a.tmps)=false/\v=undef)
def OR:Act->Q0 Rw->Q0 K2->Act
 | a,o::os,v::vs=>OR (a.put o.dst v) os vs
 | a,_,_=>a
theorem EF:∀{l:Q0 Rw} {vs:Q0 K2} {a:Act} {i:Nat} {o:Rw} {v:K2},l[i]? =some o->vs[i]? =some v->OR a (l.take<|i+1) (vs.take<|i+1)=(OR a (l.take i)<|vs.take i).put o.dst v
 | [],_,_,_,_,_,h,_=>by simp at h
 | _::_,[],_,_,_,_,_,h=>by simp at h
 | x::l,u::vs,a,0,o,v,h,h' =>by
  simp at h h';subst h;subst h';rfl
 | x::l,u::vs,a,i+1,o,v,h,h' =>by
  simp only[List.take_succ_cons,OR];exact EF (l:=l) (by simpa using h)<|by simpa using h'
theorem Ry{w:B1}{K:Act->Prop}:∀{l:Q0 Rw} {a:Act},wpS P ops w K l a->∃vs:Q0 K2,vs.length=l.length/\K (OR a l vs)/\∀i o v,l[i]? =some o->vs[i]? =some v->Ah P ops w o v (OR a (l.take i)<|vs.take i)
 | [],a,h=>⟨[],rfl,h,λi o v h=>by simp at h⟩
 | x::l,a,h=>by
  have key:∃v,Ah P ops w x v a/\wpS P ops w K l (a.put x.dst v):=by
   unfold wpS at h
   split at h
   ·rename_i c;obtain⟨v,e,f⟩:=h;exact⟨v,.inl ⟨c,e⟩,f⟩
   ·rename_i c;exact⟨undef,.inr ⟨by simpa using c,rfl⟩,h⟩
  obtain⟨v,e,f⟩:=key;obtain⟨vs,p,q,r⟩:=Ry f;refine⟨v::vs,by simp[p],q,λi o u g j=> ?_⟩;cases i with
  | zero=>simp at g j;subst g;subst j;exact e
  | succ i=>exact r i o u (by simpa using g)<|by simpa using j
theorem TQ(ops:S1 Rw)(t:S1 K2)(j:Nat):yielded ops t j=match(ops[j]?).bind (·.dst) with
  | none=>none
  | some d=>match t.getD d undef with
   | .bool b=>some b
   | _=>none:=by
 unfold yielded;cases(ops[j]?).bind (·.dst) with
 | none=>rfl
 | some d=>
  simp only[K1,y0];cases t[d]? with
  | none=>rfl
  | some v=>cases v<;>rfl
def gj(l:Q0 Rw)(k:Nat)(o:Rw):Bool:=(o.looksAt l.toArray).all λt=>(List.range k).all λj=>match Vo l j with
 | none=>true
 | some d=> !Nat.beq d t||o.after.toList.any λe=>Region.binds .any e&&Nat.beq e.on j
def jF:Op->Bool
 | .select _ _=>false
 | _=>true
def Df(n:Nat):Q0 Rw->Bool
 | []=>true
 | o::os=>(match o.dst with
  | none=>true
  | some d=>Nat.blt d n&& !os.any (Ta d))&&Df n os
def PW:Q0 Bool->Q0 Bool->Q0 Bool
 | a::xs,b::bs=>(a||b)::PW xs bs
 | [],bs=>bs
 | xs,[]=>xs
def Bj:Nat->Q0 Bool
 | 0=>[true]
 | n+1=>false::Bj n
def gI(done:Q0 (Q0 Bool))(o:Rw):Q0 Bool:=o.after.toList.foldr (λe m=>bif Region.binds .any e then PW (PW (Bj e.on)<|done.getD e.on []) m else m) []
def W1:Q0 (Q0 Bool)->Q0 Rw->Q0 (Q0 Bool)
 | done,[]=>done
 | done,o::l=>W1 (done++[gI done o]) l
def yq:Nat->Q0 Bool->Bool
 | 0,_=>true
 | n+1,b::bs=>b&&yq n bs
 | _+1,[]=>false
def qp(l:Q0 Rw)(k:Nat):Bool:=(List.range l.length).all λt=>Nat.blt t k||yq t ((W1 [] l).getD t [])
theorem Au:∀{a b:Q0 Bool} {j:Nat},(PW a b).getD j false=true->a.getD j false=true∨b.getD j false=true
 | [],bs,j,h=>.inr h
 | a::xs,[],j,h=>.inl h
 | a::xs,b::bs,0,h=>by
  have h:(a||b)=true:=h;rcases Bool.or_eq_true_iff.1 h with h | h
  ·exact .inl h
  ·exact .inr h
 | a::xs,b::bs,j+1,h=>Au (a:=xs) (b:=bs) (j:=j) h
theorem RE:∀{n j:Nat},(Bj n).getD j false=true->j=n
 | 0,0,_=>rfl
 | 0,j+1,h=>by simp[Bj] at h
 | n+1,0,h=>by simp[Bj] at h
 | n+1,j+1,h=>by
  have:(Bj n).getD j false=true:=h;rw[RE this]
def P4(l:Q0 Rw)(done:Q0 (Q0 Bool)):Prop:=∀t m,done[t]? =some m->∀j,m.getD j false=true->∃s,X2 l s t j=true
theorem kS{done:Q0 (Q0 Bool)}(w:P4 l done){t:Nat}(r:l[t]? =some o):∀{j:Nat},(gI done o).getD j false=true->∃s,X2 l s t j=true:=by
 have key:∀(es:Q0 ll),(∀e∈es,e∈o.after.toList)->∀j,(es.foldr (λe m=>bif Region.binds .any e then PW (PW (Bj e.on)<|done.getD e.on []) m else m) []).getD j false=true->∃s,X2 l s t j=true:=λes=>by
  induction es with
  | nil=>intro _ j h;simp at h
  | cons e es u=>
   intro g j h;have c:=λx p=>g x<|IF _ p;simp only[List.foldr_cons] at h
   cases i:Region.binds .any e with
   | false=>rw[i] at h;simp only[cond_false] at h;exact u c j h
   | true=>
    rw[i] at h
    simp only[cond_true] at h
    have f:=g e zh;rcases Au h with h | h
    ·rcases Au h with h | h
     ·have:=RE h;subst this;exact⟨1,by simp only[X2,r];exact aT.2 ⟨e,f,by simp[i]⟩⟩
     ·rw[tb] at h
      cases q:done[e.on]? with
      | none=>rw[tb,q] at h;simp at h
      | some m=>
       rw[tb,q] at h
       obtain⟨s,hs⟩:=w e.on m q j (by rw[tb];exact h);exact⟨s+1,by simp only[X2,r];exact aT.2 ⟨e,f,by simp[i,hs]⟩⟩
    ·exact u c j h
 intro j h;exact key o.after.toList (λ_ h=>h) j h
theorem B0:∀{post pre:Q0 Rw} {done:Q0 (Q0 Bool)},l=pre++post->done.length=pre.length->P4 l done->P4 l (W1 done post)
 | [],_,_,_,_,f=>f
 | o::post,pre,done,e,g,f=>by
  refine B0 (pre:=pre++[o]) (post:=post) (by simp[e]) (by simp[g]) λt m c j i=> ?_;rcases qs t done.length with h | h
  ·rw[x4 h] at c;exact f t m c j i
  ·have p:t=done.length:=by
    have:=(Do.1 c).1;simp at this;omega
   subst p;rw[ta<|S2 _] at c
   simp at c;subst c
   exact kS f (by rw[e,g];simp) i
theorem Mv:∀{n j:Nat} {m:Q0 Bool},yq n m=true->j < n->m.getD j false=true
 | 0,_,_,_,h=>by omega
 | n+1,j,[],h,_=>by cases h
 | n+1,0,b::bs,h,_=>by
  have h:(b&&yq n bs)=true:=h;exact((BY _ _).mp h).1
 | n+1,j+1,b::bs,h,c=>by
  have h:(b&&yq n bs)=true:=h;exact Mv (n:=n) (j:=j) (m:=bs) ((BY _ _).mp h).2 qz
theorem A6(h:qp l k=true):∀t o,k<=t->l[t]? =some o->∀j,j < t->∃s,X2 l s t j=true:=λt o u p j q=>by
 have f:=Zm p;have i:=If.1 h t<|mj.2 f
 have g:Nat.blt t k=false:=by
  cases g:Nat.blt t k with
  | false=>rfl
  | true=>have:=AC g;omega
 rw[g,mv] at i
 have r:P4 l (W1 [] l):=B0 (pre:=[]) rfl rfl λt m c=>by simp at c
 have e:=Mv i q;cases c:(W1 [] l)[t]? with
 | none=>rw[tb (l:=W1 [] l),c] at e;simp at e
 | some m=>rw[tb (l:=W1 [] l),c] at e;exact r t m c j e
theorem Nc:∀{n:Nat} {os:Q0 Rw} {i:Nat} {o:Rw} {d:Nat},Df n os=true->os[i]? =some o->o.dst=some d->d < n/\∀j o',os[j]? =some o'->o'.dst=some d->j=i
 | _,[],_,_,_,_,h,_=>by simp at h
 | n,x::os,0,o,d,e,h,p=>by
  simp at h;subst h
  simp only[Df,p,BY,r8] at e
  refine⟨AC e.1.1,λj o' f c=> ?_⟩;cases j with
  | zero=>rfl
  | succ j=>exact(S7 e.1.2 (by simpa using f) c).elim
 | n,x::os,i+1,o,d,e,h,p=>by
  have g:=e;simp only[Df,BY] at e
  obtain⟨q,r⟩:=Nc (os:=os) (i:=i) e.2 (by simpa using h) p;refine⟨q,λj o' f c=> ?_⟩;cases j with
  | zero=>
   simp at f;subst f
   simp only[Df,c,BY,r8] at g
   exact(S7 g.1.2 (by simpa using h) p).elim
  | succ j=>rw[r j o' (by simpa using f) c]
def gG(n:Nat)(l:Q0 Rw)(k:Nat):Bool:=N4 0 l&&qp l k&&Nat.ble k l.length&&Df n (l.take k)&&(l.take k).all λo=>gj l k o&&jF o.op&&HB o.op
section
variable{β:Type}{P:C1}{ks:Q0 Kt}{Q:gw->Act->B1->Prop}{m:Q2 β}{r:β}{n:Nat}{D:Q0 TO}{S0:Q0 (Nat×K2)}{F:Fz}{hs:Q0 HP}{l:Q0 Rw}
structure Ge(l:List Oper)(k n:Nat)(a0:Act)(vs:List Value)(L:Nat->Bool)(a:Act):Prop where
 size:a.tmps.size=n
 defs:a.defers=a0.defers
 got:∀(j:Nat) (v:Value) (t:Nat),j < k->L j=true->Vo l j=some t->vs[j]? =some v->a.tmps.getD t undef=v
 old:∀t,(∀j,j < k->L j=true->Vo l j≠some t)->a.tmps.getD t undef=a0.tmps.getD t undef
theorem LP{t:S1 K2}(h:d < t.size):(t.setIfInBounds d v).getD d undef=v:=by simp[h]
theorem SF{t:S1 K2}{e:Nat}(h:d≠e):(t.setIfInBounds d v).getD e undef=t.getD e undef:=by
 simp only[y0];rw[om h]
theorem Ge.put(c:Ge l k n a0 vs L a)(B:Df n (l.take k)=true){i:Nat}(hi:i < k)(G:l[i]? =some o)(H:vs[i]? =some v):Ge l k n a0 vs (KS L i) (a.put o.dst v):=by
 have g:Vo l i=o.dst:=by simp[Vo,G]
 have p:∀d,o.dst=some d->d < n/\∀j,j < k->Vo l j=some d->j=i:=λd y=>by
  obtain⟨I,K⟩:=Nc B (i:=i) (o:=o) (d:=d) (by rw[yb,Bm hi];exact G) y;refine⟨I,λj h e=> ?_⟩;cases q:l[j]? with
  | none=>simp[Vo,q] at e
  | some M=>exact K j M (by rw[yb,Bm h];exact q)<|by simpa[Vo,q] using e
 cases y:o.dst with
 | none=>
  refine⟨c.size,c.defs,λj u t h s e z=> ?_,λt A=>c.old t λj h s=>A j h ?_⟩
  ·by_cases f:j=i
   ·subst f;rw[g,y] at e;cases e
   ·exact c.got j u t h (by simpa[KS,f] using s) e z
  ·simp only[KS];split
   ·rfl
   ·exact s
 | some d=>
  obtain⟨C,w⟩:=p d y;refine⟨by simp[Act.put,c.size],c.defs,λj u t h s e z=> ?_,λt A=> ?_⟩
  ·by_cases f:j=i
   ·subst f;rw[g,y] at e;cases e
    rw[H] at z;cases z
    exact LP (by rw[c.size];exact C)
   ·have x:d≠t:=λE=>by subst E;exact f<|w j h e
    show(a.tmps.setIfInBounds d v).getD t undef=u;rw[SF x];exact c.got j u t h (by simpa[KS,f] using s) e z
  ·have x:d≠t:=λE=>by subst E;exact A i hi (by simp[KS])<|by rw[g,y]
   show(a.tmps.setIfInBounds d v).getD t undef=_;rw[SF x];exact c.old t λj h s=>A j h (by simp only[KS];split<;>first | rfl | exact s)
theorem Ge.same{g:Nat->Bool}(c:Ge l k n a0 vs L a)(c' :Ge l k n a0 vs g b)(q:k<=vs.length){t:Nat}(s:∀j,j < k->Vo l j=some t->L j=true/\g j=true):a.tmps.getD t undef=b.tmps.getD t undef:=by
 by_cases h:∃j,j < k/\Vo l j=some t
 ·obtain⟨j,f,e⟩:=h;obtain⟨u,w⟩:=s j f e;have i:vs[j]? =some vs[j]:=C2 qz;rw[c.got j _ t f u e i,c'.got j _ t f w e i]
 ·have p:∀j,j < k->Vo l j≠some t:=λj f e=>h ⟨j,f,e⟩;rw[c.old t λj f _=>p j f,c'.old t λj f _=>p j f]
theorem Ge.eq(c:Ge l k n a0 vs L a)(c' :Ge l k n a0 vs L b)(e:k<=vs.length)(p:∀j,j < k->L j=true):a=b:=by
 have h:∀t,a.tmps.getD t undef=b.tmps.getD t undef:=λt=>c.same c' e λj q _=>⟨p j q,p j q⟩
 have f:a.tmps=b.tmps:=by
  apply Array.ext
  ·rw[c.size,c'.size]
  ·intro i s u;have:=h i;simpa[y0,s,u] using this
 have g:a.defers=b.defers:=by rw[c.defs,c'.defs]
 obtain⟨w,x⟩:=a;obtain⟨y,z⟩:=b;have f:w=y:=f;have g:x=z:=g;rw[f,g]
theorem Ah.of_same{w:B1}(hs:jF o.op=true)(h:Ah P ops w o v a)(he:∀t∈o.looksAt ops,a.tmps.getD t undef=b.tmps.getD t undef):Ah P ops w o v b:=by
 have c:execOp a.eval o=execOp b.eval o:=execOp_congr o (λcs u e=>by rw[e] at hs;cases hs) λx c=>by
  cases x with
  | tmp t=>exact he t (iX _<|List.mem_filterMap.2 ⟨.tmp t,by simpa using c,rfl⟩)
  | const v=>rfl
  | global g=>rfl
  | func f=>rfl
 have j:Region.wanted o (yielded ops a.tmps)=Region.wanted o (yielded ops b.tmps):=by
  unfold Region.wanted;cases p:o.guard with
  | none=>rfl
  | some q=>
   obtain⟨g,i⟩:=q
   have:yielded ops a.tmps g=yielded ops b.tmps g:=by
    rw[TQ,TQ];cases s:(ops[g]?).bind (·.dst) with
    | none=>rfl
    | some t=>
     simp only[];rw[he t<|List.mem_append_right _<|by simp[p,s]]
   simp only[this]
 unfold Ah at*
 rw[<-c,<-j];exact h
theorem SO(c:a0.tmps.size=n)(f:Df n (l.take k)=true)(x:k<=l.length)(g:vs.length=k):∀i,i<=k->Ge l k n a0 vs (λj=>Nat.blt j i) (OR a0 ((l.take k).take i)<|vs.take i)
 | 0,_=>by
  refine⟨c,rfl,λj v t _ y=> ?_,λt _=>rfl⟩;have:Nat.blt j 0=true:=y;have:=AC this;omega
 | i+1,hi=>by
  have p:l[i]? =some l[i]:=C2 qz;have q:vs[i]? =some vs[i]:=C2 qz;have h:=(SO c f x g i qz).put f qz p q;rw[EF (l:=l.take k) (o:=l[i]) (v:=vs[i]) (by rw[yb,Bm qz];exact p) q]
  have e:(λj=>Nat.blt j<|i+1)=KS (λj=>Nat.blt j i) i:=by
   funext j;simp only[KS];by_cases s:j=i
   ·subst s;rw[Bm rfl];exact u2<|S2 _
   ·rw[B2 s];cases u:Nat.blt j i with
    | true=>have:=AC u;exact u2 (show j+1<=i+1 by omega)
    | false=>
     cases z:Nat.blt j (i+1) with
     | false=>rfl
     | true=>
      have:=AC z;have w:Nat.blt j i=true:=u2 (show j+1<=i by omega);rw[u] at w;cases w
  rw[e];exact h
theorem GG.cV{id:Nat}(k:Nat)(hm:P.follows .mixedOrders=true)(hB:gG n l k=true)
  (aH:GL .s P l.toArray (l.take k) [] (λ_=>W8 O P l.toArray (Zh O P ks Q)<|l.drop k) (Hd n D S0 F hs) m r):GC O P (.region id l.toArray true) ks Q (Hd n D S0 F hs) m r:=by
 intro aU a0 w ha;simp only[gG,BY,If] at hB
 obtain⟨⟨⟨⟨M,V⟩,aI⟩,aJ⟩,aK⟩:=hB;have W:=A6 V;have X:k<=l.length:=AC aI;have aV:=aH aU a0 {w with drawn:=w.drawn+1} ⟨ha.1,ha.2.drew _⟩;obtain⟨vs,aW,hK,Y⟩:=Ry aV;have aX:vs.length=k:=by rw[aW];simp;omega
 have N:=SO (a0:=a0) (vs:=vs) (l:=l) ha.1.1 aJ X aX
 let R:(Nat->Bool)->Act->B1->Prop:=λL a w' =>Down l L/\(∀i,k<=i->L i=false)/\w' ={w with drawn:=w.drawn+1}/\Ge l k n a0 vs L a
 let Inv:(Nat->Bool)->Act->B1->Prop:=λL a w=>R L a w∨∃i,k < i/\Down l L/\(∀j,L j=true↔j < i)/\W8 O P l.toArray (Zh O P ks Q) (l.drop i) a w
 have y:∀L a w',(∀i,i < k->L i=true)->R L a w'->W8 O P l.toArray (Zh O P ks Q) (l.drop k) a w' :=by
  rintro L a w' z ⟨_,A,rfl,hc⟩
  have aY:L=λj=>Nat.blt j k:=by
   funext j;rcases qs j k with h | h
   ·rw[z j h];exact(u2 h).symm
   ·rw[A j h];cases B:Nat.blt j k with
    | false=>rfl
    | true=>have:=AC B;omega
  have Z:=N k<|S2 _;rw[OF (show(l.take k).length<=k by simp;omega),OF<|show vs.length<=k by omega] at Z
  rw[aY] at hc
  rw[hc.eq Z qz λj u=>u2 u];exact hK
 refine W7 hm Inv (λi o h e he B=>by have:=XC M i o (by simpa using h) e he B;omega) ?_ ?_ ?_
 ·refine .inl ⟨λi o _ h=>(by cases h),λ_ _=>rfl,rfl,⟨ha.1.1,rfl,λj v t _ h=>(by cases h),λt _=>rfl⟩⟩
 ·intro L a w' i o ho aA g hI;have p:l[i]? =some o:=by simpa using ho
  have aB:i < l.length:=Zm p;by_cases hi:i < k
  ·rcases hI with C | ⟨x,hk,_,z,_⟩
   case inr=>have:=(z i).2 qz;rw[aA] at this;cases this
   obtain⟨aa,A,rfl,hc⟩:=C;have aM:(l.take k)[i]? =some o:=by rw[yb,Bm hi];exact p
   have aN:o∈l.take k:=T2 aM;have ab:=aK o aN;obtain⟨⟨ad,ae⟩,af⟩:=ab;have hv:vs[i]? =some vs[i]:=C2 qz;have ag:=Y i o _ aM hv
   have aO:Ah P l.toArray {w with drawn:=w.drawn+1} o vs[i] a:=ag.of_same ae λt ht=>by
    refine(N i qz).same hc qz λj u e=> ?_;have H:=If.1 (If.1 ad t ht) j<|mj.2 u;rw[e] at H
    simp only[iR,RK,mv,aT,BY] at H
    obtain⟨e',ah,aP,aC⟩:=H;have aC:e'.on=j:=kp aC;have E:e'∈o.after:=by simpa using ah
    refine⟨?_,by rw[<-aC];exact g e' E aP⟩;have:=XC M i o p e' E aP;exact u2<|show j+1<=i by omega
   have f:Inv (KS L i) (a.put o.dst vs[i]) {w with drawn:=w.drawn+1}:=by
    refine .inl ⟨?_,?_,rfl,hc.put aJ hi p hv⟩
    ·intro j oj q u e he B
     have:L e.on=true:=by
      by_cases G:j=i
      ·subst G;rw[p] at q;cases q;exact g e he B
      ·exact aa j oj q (by simpa[KS,G] using u) e he B
     simp only[KS];split
     ·rfl
     ·exact this
    ·intro j u;simp only[KS];rw[B2 qz];exact A j u
   rcases aO with⟨H,Z⟩ | ⟨H,Z⟩
   ·rw[Bm H];refine⟨.inr af,?_⟩;rw[Z];exact f
   ·rw[B2 (by simp[H]),<-Z];exact f
  ·have S:Down l L:=by
    rcases hI with C | ⟨_,_,hd,_,_⟩
    ·exact C.1
    ·exact hd
   have c:∀j,j < i->L j=true:=λj u=>by
    obtain⟨s,hs⟩:=W i o qz p j u;exact W0 S hs λo' T e he B=>by rw[p] at T;cases T;exact g e he B
   have aQ:Down l (KS L i):=λj oj q u e he B=>by
    have:L e.on=true:=by
     by_cases G:j=i
     ·subst G;rw[p] at q;cases q;exact g e he B
     ·exact S j oj q (by simpa[KS,G] using u) e he B
    simp only[KS];split
    ·rfl
    ·exact this
   have I:W8 O P l.toArray (Zh O P ks Q) (l.drop i) a w' :=by
    rcases hI with C | ⟨x,hk,_,z,K⟩
    ·have aj:i=k:=by
      rcases qs k i with h | h
      ·have:=c k h;rw[C.2.1 _<|S2 _] at this;cases this
      ·omega
     subst aj;exact y L a w' c C
    ·have:x=i:=by
      have H:¬i < x:=λh=>by have:=(z i).2 h;rw[aA] at this;cases this
      have Z:¬x < i:=λh=>by have:=(z x).1<|c x h;omega
      omega
     subst this;exact K
   have aD:l.drop i=o::l.drop (i+1):=by
    have hg:l[i]'aB=o:=by simpa[aB] using p
    rw[<-hg];exact x2 aB
   rw[aD] at I
   have f:∀a' w',W8 O P l.toArray (Zh O P ks Q) (l.drop<|i+1) a' w'->Inv (KS L i) a' w' :=λa' w' h=>
    .inr ⟨i+1,by omega,aQ,λj=>by
     simp only[KS];by_cases u:j=i
     ·simp[u]
     ·simp only[u,By];constructor
      ·intro aE
       have:j < i:=by
        rcases qs j i with h | h
        ·exact h
        ·rcases hI with C | ⟨x,hk,_,z,_⟩
         ·rw[C.2.1 j qz] at aE;cases aE
         ·have H:=(z j).1 aE;have:=(z i).2 qz;rw[aA] at this;cases this
       omega
      ·intro ay;exact c j qz,h⟩
   unfold W8 at I
   split
   ·rename_i aF;rw[Bm aF] at I
    exact BE f I
   ·rename_i aF;rw[B2 aF] at I
    exact f _ _ I
 ·intro L a w' c hI
  have I:W8 O P l.toArray (Zh O P ks Q) (l.drop l.length) a w' :=by
   rcases hI with C | ⟨x,hk,_,z,K⟩
   ·have al:k=l.length:=by
     rcases qs k l.length with h | h
     ·have:=c k (by simpa using h);rw[C.2.1 _<|S2 _] at this;cases this
     ·omega
    have:=y L a w' (λi hi=>c i zg) C
    rwa[al] at this
   ·have:l.length<=x:=by
     rcases qs x l.length with h | h
     ·have:=(z x).1 (c x<|by simpa using h);omega
     ·exact h
    rw[j0 this] at K
    rw[j0<|S2 _];exact K
  rw[j0<|S2 _] at I
  exact I
end
section
variable{β:Type}{P:C1}{ops:S1 Rw}{rest l:Q0 Rw}{E A A' :Act->B1->Prop}{m:Q2 β}{r:β}
variable{n:Nat}{D:Q0 TO}{S S' :Q0 (Nat×K2)}{F F' :Fz}{hs hs' :Q0 HP}
theorem GG.cn{c:Q0 Rw}(h:GL O P ops c ks Q A m r):GL .s P ops [] [] (λ_=>W8 O P ops (Zh O P ks Q) c) A m r:=λe a w f=>h e a w f
end
section
variable{O:Q2 Nat}{μ:Md}{β:Type}{P:C1}{ops:S1 Rw}{rest:Q0 Rw}{ks:Q0 Kt}{Q:gw->Act->B1->Prop}{m:Q2 β}{r:β}{n:Nat}{D:Q0 TO}{S:Q0 (Nat×K2)}{F:Fz}{hs:Q0 HP}{d:Nat}{ty:A4}{pos:String}{after:S1 ll}
theorem GG.sI{fn:Fn}{first caps:Q0 IR}{us:Q0 K2}(f:Nat.blt d n=true)(c:Uk S first=some us)(g:Uk S caps=some vs)(k:GL O P ops rest ks Q (Hd n D ((d,.func fn us.toArray vs.toArray)::S) F hs) m r):GL O P ops (⟨some d,.makeFunc fn first.toArray caps.toArray,ty,pos,after,none⟩::rest) ks Q (Hd n D S F hs) m r:=GG.val f (λa w e=>by simp[execOp,Instr.makeFunc,HO e.1 g,HO e.1 c]) k
end
end
section
variable{α ρ:Type}
def zO(P:C1)(F:Fz)(f:L3)(caps:Q0 K2)(arg:α->Fz->Q0 K2->Prop)(Hs:Fz->ρ->Q0 HP)(e:ρ)(q:ρ×Q0 α):Prop:=
 (∀args w,(callFunc f args).run P w= .ok (.enter f args) w)/\
 ∀(σ:Type) (d:Nat) (Y:σ->Fz->HP) (Z:HP) (a:ρ->σ) (y:α->σ->Q2 (σ×Bool)) (b:Fz),F<=b->WK P d b arg Y y->(∀r c,b<=c->∀m,Qg (Hs c r++[Z]) m->Y (a r) c m)->
  Xv P f (.func (.yield d) #[] #[]::caps).toArray b (Hs b e++[Z]) (WH y q.2<|a q.1) (λ_ _ _=>True) (λg c=>[Y g c])
theorem zO.mk'{P:C1}{F:Fz}{f:L3}{caps:Q0 K2}{arg:α->Fz->Q0 K2->Prop}{Hs:Fz->ρ->Q0 HP}{e:ρ}{q:ρ×Q0 α}(g:∀args w,(callFunc f args).run P w= .ok (.enter f args) w)
  (i:∀(σ:Type) (d:Nat) (Y:σ->Fz->HP) (Z:HP) (a:ρ->σ) (y:α->σ->Q2 (σ×Bool)) (b:Fz),F<=b->WK P d b arg Y y->(∀r c,b<=c->∀m,Qg (Hs c r++[Z]) m->Y (a r) c m)->
   ∃m,Xv P f (.func (.yield d) #[] #[]::caps).toArray b (Hs b e++[Z]) m (λ_ _ _=>True) (λj c=>[Y j c])/\∀r,WH y q.2 (a q.1)=some r->m=some r):zO P F f caps arg Hs e q:=
 ⟨g,λσ d Y Z a y b le l n r o=>let⟨_,h,k⟩:=i σ d Y Z a y b le l n;h r (k r o)⟩
section
variable{O:Q2 Nat}{μ:Md}{β:Type}{P:C1}{ks:Q0 Kt}{Q:gw->Act->B1->Prop}{m:Q2 β}{r:β}{n:Nat}{D:Q0 TO}{S:Q0 (Nat×K2)}{F:Fz}{hs:Q0 HP}
theorem GG.nu{c:ln}{Hs:Q0 HP}{Y:HP}(is:Q0 Nat)(hi:YJ is hs=Hs)(b:∀m,Qg Hs m->Y m)(k:GC O P c ks Q (Hd n D S F<|Y::J9 is hs) m r):GC O P c ks Q (Hd n D S F hs) m r:=GG.tB (λ_ _ h=>⟨h.1,h.2.mono λ_ a=>QR (λm a=>b m<|hi▸a)<|UG (ks:=is) a⟩) k
variable{α τ ρ:Type}{g:IR}{ps:Q0 Tmp}{assign body:ln}{f:L3}{caps:Q0 K2}{arg:α->Fz->Q0 K2->Prop}
theorem GG.pP{q:ρ×Q0 α}{bm:α->τ->Q2 τ}{k:τ->Q2 β}(Hs:Fz->ρ->Q0 HP)(B:ρ)(u:ρ->τ)(is:Q0 Nat)(I:τ->Fz->Q0 HP->Prop)(hg:QP S g=some (.func (.func f) #[] caps.toArray))(z:zO P F f caps arg Hs B q)(G:(ps.all λp=>Nat.blt p n)=true)(A:∀x c vs,arg x c vs->vs.length=ps.length)
  (hi:YJ is hs=Hs F B) (H:∀r c,F<=c->I (u r) c (Hs c r++J9 is hs))
  (round:∀l L F0 y x vs s o R h,F<=F0->F0<=y->arg x y vs->I s F0 h->GC (some l) P assign [] (BP P l body<|RP l L I (fun(_:Empty) _ _=>False) y R<|.next o) (Hd n [] ((ps.zip vs).reverse++S) y<|pt l (UH L)::R::h) (bm x s) o)
  (next:∀q' F0 c s h,F<=F0->F0<=c->Y1 bm q.2 (u q.1)=some s->I s F0 h->GE none P ks Q (Hd n (WX q' ::D) S c<|pt q' (.deferred<|some [])::h) (k s) r):GC none P (.rangeFunc g ps.toArray assign body) ks Q (Hd n D S F hs) ((Y1 bm q.2<|u q.1).bind k) r:=by
 intro b a w t;cases C:Y1 bm q.2 (u q.1) with
 | none=>rw[C] at b;cases b
 | some K=>
  rw[C] at b
  refine oD λfn _=> ?_
  let L:Loop:={state:=.ready,pending:=none,fn,tmps:=a.tmps,params:=ps.toArray,assign,body,defers:=w.heap.size}
  let J:Empty->Fz->Q0 HP->Prop:=λ_ _ _=>False
  let Z:HP:=star (pt (w.heap.size+1)<|UH L)<|Qg<|J9 is hs
  have M:SH ((w.alloc<|.deferred<|some []).alloc<|.loop L) F (star (Qg<|Hs F B++[Z])<|Qg [pt w.heap.size<|.deferred<|some []]):=by
   have j:=(t.2.alloc<|.deferred<|some []).alloc<|.loop L;rw[eO] at j
   refine j.mono λm b=> ?_
   have N:star (pt (w.heap.size+1)<|UH L) (star (pt w.heap.size<|.deferred<|some [])<|star (Qg<|Hs F B)<|Qg<|J9 is hs) m:=
    QS (λm b=>QS (λm b=>by have:=UG (ks:=is) b;rw[hi] at this;exact this) b) b
   have E:=PE<|QS (λm b=>Zi b)<|Zi N;refine QR (λm b=> ?_)<|QS (λm b=>YD b) E;exact K7<|QS (λm b=>YD (p:=Z) b) b
  have hY:WK P (w.heap.size+1) F arg (yS F (w.heap.size+1) L I J) (je λx s=>(bm x s).map UP.next):=by
   refine Rx (S' :=λvs=>(ps.zip vs).reverse++S) (assign:=assign) (body:=body) (λx c vs T=>by rw[A x c vs T];simp[L]) rfl rfl (λvs _=>D4 G ⟨t.1.1,rfl,t.1.2.2⟩) ?_;intro F0 y x vs s o R h V j T H i;cases W:bm x s with
   | none=>rw[W] at i;cases i
   | some s' =>
    rw[W] at i
    simp only[E4,UV] at i
    subst i;exact round _ L F0 y x vs s s' R h V j T H W
  have X:∀r c,F<=c->∀m,Qg (Hs c r++[Z]) m->yS F (w.heap.size+1) L I J (.next<|u r) c m:=λr c le m b=>by
   refine⟨c,Hs c r++J9 is hs,le,Fz.le_refl _,H r c le,?_⟩;have j:=Ve b
   have N:star (Qg<|Hs c r) Z m:=QS (λm b=>by
    obtain⟨m1,_,_,s1,_,hp,_⟩:=b;obtain⟨a1,a2,d,t1,t2,g1,g2⟩:=hp;exact⟨a1,a2,d,t1.trans s1,t2.trans s1,g1,g2⟩) j
   exact QS (λm b=>K7 b)<|Zi N
  have hc:=z.2 _ _ _ Z (λr=>.next<|u r) _ F (Fz.le_refl F) hY X (.next K) (by rw[Fo,D7,C];rfl) _ _ M;refine⟨w.heap.size+1,[WX w.heap.size],(w.alloc<|.deferred<|some []).alloc<|.loop L,⟨.fn (.func f) caps.toArray,#[.func (.yield<|w.heap.size+1) #[] #[]]⟩,(w.alloc<|.deferred<|some []).alloc<|.loop L,f,(.func (.yield<|w.heap.size+1) #[] #[]::caps).toArray,(w.alloc<|.deferred<|some []).alloc<|.loop L,eD fn a.tmps ps.toArray assign body,?_,λ_ _=>trivial,?_,λe=>(by cases e),?_⟩
  ·have Y:a.eval (.const<|.func (.yield<|w.heap.size+1) #[] #[])= .func (.yield<|w.heap.size+1) #[] #[]:=rfl;simp[resolve,Deferred.ofValue,t.1.eval hg,Y]
  ·simp[invoke,z.1]
  ·refine fl.2<|hc.mono ?_;rintro _ w' ⟨c,v,le,rfl, -,aA⟩;have aB:SH w' c (star (yS F (w.heap.size+1) L I J (.next K) c)<|Qg [pt w.heap.size<|.deferred<|some []]):=aA.mono λm b=>Wo b;obtain⟨F0,h,V,j,aC,E⟩:=SH.sk aB;refine⟨none,_,D5<|SH.cp (k:=0) rfl E,?_⟩;have h4:SH _ c (Qg<|pt w.heap.size (.deferred<|some [])::h):=(SH.sF 0<|SH.putAt (k:=0) rfl E<|Ti L none).mono λm b=>Wo b;exact next w.heap.size F0 c K h V j C aC b _ _ ⟨⟨t.1.1,by simp[t.1.2.1],t.1.2.2⟩,h4⟩
end
end
section
variable{V K α β:Type}{rv:Fz->V->K2->Prop}{xs:Q0 (Q0<|K×V)}{S:Q0 (Nat×K2)}{pt':Q2 C3}{ck:K->K2}{F F0:Fz}{w:B1}{hs:Q0 HP}{P:C1}{n γ b:Nat}{a:Act}
variable{O:Q2 Nat}{μ:Md}
section
variable{K V:Type}
def vz(ck:K->K2)(rv:Fz->V->K2->Prop)(F:Fz)(b e:Nat)(M d:Q0 (K×V))(cur:Q2 (K×V)):HP:=λm=>∃(es:S1 dO) (clock:Nat) (l' :Q0 (K×V)) (c:S1 Nat) (last:Nat),
 star (pt b<|.map es clock) (pt e<|.mapIter (some b) clock c last) m/\Uv ck rv F es.toList l'/\YV es.toList clock/\(c.isEmpty=false->last=clock)/\
 d.Perm (((es.toList.zip l').filter λz=> !c.contains z.1.born).map Prod.snd)/\l'.Perm M/\(M.map Prod.fst).Nodup/\
 ∀x,cur=some x->∃z∈es.toList.zip l',z.2=x/\c.back? =some z.1.born
def V1(γ:Nat)(ck:K->K2)(rv:Fz->V->K2->Prop)(F:Fz)(j b d:Nat)(xs:Q0 (Q0<|K×V))(c:Q0 (K×V))(cur:Q2 (K×V)):HP:=λm=>∃M,xs[j]? =some M/\star (vz ck rv F b d M c cur) (hole γ (QY ck rv) F j b xs) m
variable{ck:K->K2}{rv:Fz->V->K2->Prop}{F F0:Fz}{w:B1}{H:HP}{b it γ j:Nat}{M todo:Q0 (K×V)}{cur:Q2 (K×V)}{xs:Q0 (Q0<|K×V)}
theorem Xa(h:SH w F (star (V1 γ ck rv F0 j b it xs todo cur) H)):∃(M:Q0 (K×V)) (es:S1 dO) (clock:Nat) (l' :Q0 (K×V)) (e:S1 Nat) (last:Nat),xs[j]? =some M/\
  w.heap[b]? =some (.map es clock)/\w.heap[it]? =some (.mapIter (some b) clock e last)/\SH w F (star (pt it<|.mapIter (some b) clock e last)<|star (pt b<|.map es clock)<|star (hole γ (QY ck rv) F0 j b xs) H)/\Uv ck rv F0 es.toList l'/\YV es.toList clock/\(e.isEmpty=false->last=clock)/\
  todo.Perm (((es.toList.zip l').filter λz=> !e.contains z.1.born).map Prod.snd)/\l'.Perm M/\(M.map Prod.fst).Nodup/\∀x,cur=some x->∃z∈es.toList.zip l',z.2=x/\e.back? =some z.1.born:=by
 obtain⟨m,⟨i,l,d,o,p,⟨M,q,r⟩,s⟩,k⟩:=h;have t:=XO ⟨i,l,d,o,p,r,s⟩;obtain⟨u,v,y,A,B,⟨es,c,l',e,last,C,D⟩,g⟩:=t;have hs:SH w F (star (pt b<|.map es c)<|star (pt it<|.mapIter (some b) c e last)<|star (hole γ (QY ck rv) F0 j b xs) H):=⟨m,XO ⟨u,v,y,A,B,C,g⟩,k⟩;have f:SH w F (star (pt it<|.mapIter (some b) c e last)<|star (pt b<|.map es c)<|star (hole γ (QY ck rv) F0 j b xs) H):=hs.mono λm E=>Zi E;exact⟨M,es,c,l',e,last,q,hs.owned,f.owned,f,D⟩
theorem Hk{es:S1 dO}{clock:Nat}{l' :Q0 (K×V)}{c:S1 Nat}{last:Nat}(g:xs[j]? =some M)(h:SH w F (star (pt it<|.mapIter (some b) clock c last)<|star (pt b<|.map es clock)<|star (hole γ (QY ck rv) F0 j b xs) H))
  (i:Uv ck rv F0 es.toList l') (k:YV es.toList clock) (l:c.isEmpty=false->last=clock) (o:todo.Perm (((es.toList.zip l').filter λz=> !c.contains z.1.born).map Prod.snd)) (p:l'.Perm M) (q:(M.map Prod.fst).Nodup) (r:∀x,cur=some x->∃z∈es.toList.zip l',z.2=x/\c.back? =some z.1.born):SH w F (star (V1 γ ck rv F0 j b it xs todo cur) H):=h.mono λm d=>by
 have e:=UU<|Zi d;have f:=UU e;exact QR (λm d=>⟨M,g,QR (λm d=>⟨es,clock,l',c,last,d,i,k,l,o,p,q,r⟩) d⟩) f
theorem yP{C:Fz->Nat->Q0 (K×V)->HP}{y:Q0 (K×V)}(h:SH w F (star (hole γ C F0 j b xs) H)):SH w F (star (hole γ C F0 j b<|xs.set j y) H):=h.mono λm d=>QR (λm ⟨bs,e,c,g⟩=>⟨bs,by simpa using e,c,by rw[<-Ru (f:=C F0) c,iZ];exact g⟩) d
theorem yO(le:F0<=F)(f:UJ γ F j b)(h:SH w F (star (V1 γ ck rv F0 j b it xs todo cur) H)):SH w F (star (V1 γ ck rv F j b it xs todo cur) H):=by
 obtain⟨M,es,c,l',e,last,g,_,_,hs,i,k,l,o,p,q,r⟩:=Xa h;refine Hk g ?_ (i.up le) k l o p q r;have s:SH w F (star (hole γ (QY ck rv) F0 j b xs)<|star (pt it<|.mapIter (some b) c e last)<|star (pt b<|.map es c) H):=hs.mono λm d=>Zi<|QS (λm d=>Zi d) d;exact(s.rU He le f).mono λm d=>QS (λm d=>Zi d)<|Zi d
theorem qX(h:SH w F (star (V1 γ ck rv F0 j b it xs [] cur) H)):SH w F (star (ZC γ (QY ck rv) F0 xs) H):=by
 obtain⟨M,es,c,l',f,last,g,_,_,hs,i,k,p,q,l,o,r⟩:=Xa h;have d:SH w F (star (QY ck rv F0 b M)<|star (hole γ (QY ck rv) F0 j b xs) H):=hs.drop.mono λm e=>QR (λm e=>⟨l',l,o,es,c,e,i,k⟩) e;have:=SH.tN He (Fz.le_refl _) d (Do.1 g).1;rw[<-Cz g] at this;exact this
variable[BEq K][LawfulBEq K]
omit [LawfulBEq K] in
theorem Uv.mI{kd:oE}{k:K}(g:∀a b,Instr.sameNow kd (ck a) (ck b)=some (a==b)):∀{es:Q0 dO} {l:Q0 (K×V)} (d:Nat),Uv ck rv F es l->
   (Instr.findNow kd (ck k) es d=some none/\J4 l k=l/\∀x∈l,(k==x.1)=false)∨
   (∃i e x,Instr.findNow kd (ck k) es d=some (some (d+i,e))/\i < es.length/\Uv ck rv F (es.eraseIdx i) (J4 l k)/\J4 l k=l.eraseIdx i/\l[i]? =some x/\(k==x.1)=true)
 | [],[],_,_=>.inl ⟨rfl,rfl,λ_ h=>by cases h⟩
 | e::es,x::l,d,⟨m,t,s⟩=>by
  by_cases f:(k==x.1)=true
  ·right;refine⟨0,e.val,x,by simp[Instr.findNow,m,g,f],by simp,?_,by simp[J4,f],rfl,f⟩;simp only[J4,f,B3,iM];exact s
  ·have c:(k==x.1)=false:=by simpa using f
   rcases Uv.mI (k:=k) g (d+1) s with⟨o,p,q⟩ | ⟨i,u,y,o,p,q,v,A,B⟩
   ·left;refine⟨by simp[Instr.findNow,m,g,c,o],by simp[J4,c,p],λz r=> ?_⟩;rcases Tc.1 r with rfl | r
    ·exact c
    ·exact q z r
   ·right;refine⟨i+1,u,y,by simp[Instr.findNow,m,g,c,o];omega,by simpa using p,?_,by simp[J4,c,v],by simpa using A,B⟩;simp only[J4,c,H1,By,lb];exact⟨m,t,q⟩
theorem Lk:∀{es:Q0 α} {l:Q0 β} {i:Nat},(es.eraseIdx i).zip (l.eraseIdx i)=(es.zip l).eraseIdx i
 | [],_,_=>by simp
 | _::_,[],_=>by simp
 | _::_,_::_,0=>rfl
 | _::es,_::l,i+1=>by simp[Lk (es:=es) (l:=l)]
theorem Tp{p:α->Bool}:∀{l:Q0 α} {i:Nat} {x:α},l[i]? =some x->p x=false->(l.eraseIdx i).filter p=l.filter p
 | [],_,_,h,_=>by simp at h
 | y::l,0,x,h,c=>by simp at h;subst h;simp[c]
 | y::l,i+1,x,h,c=>by
  simp only[ts] at h
  simp only[lb,mY,Tp h c]
omit [BEq K] [LawfulBEq K] in
theorem MP:∀{l:Q0 (K×V)} {x y:K×V},(l.map Prod.fst).Nodup->x∈l->y∈l->x.1=y.1->x=y
 | [],_,_,_,h,_,_=>by cases h
 | z::l,x,y,g,i,k,e=>by
  simp only[Of,mc] at g
  rcases Tc.1 i with rfl | c<;>rcases Tc.1 k with rfl | d
  ·rfl
  ·exact absurd (kx (f:=Prod.fst) d) (by rw[<-e];exact g.1)
  ·exact absurd (kx (f:=Prod.fst) c) (by rw[e];exact g.1)
  ·exact MP g.2 c d e
end
section
variable{β:Type}{P:C1}{ops:S1 Rw}{rest:Q0 Rw}{ks:Q0 Kt}{Q:gw->Act->B1->Prop}{m:Q2 β}{r:β}
variable{n:Nat}{D:Q0 TO}{S:Q0 (Nat×K2)}{F F0:Fz}{hs:Q0 HP}{d:Nat}{d' :Q2 Nat}{ty t kt vt:A4}{pos:String}{after:S1 ll}{ox oy:IR}{cd:ln}
variable{K V:Type}{ck:K->K2}{rv:Fz->V->K2->Prop}{b it γ j i' :Nat}{l todo:Q0 (K×V)}{cur:Q2 (K×V)}{xs:Q0 (Q0<|K×V)}
theorem GG.nE{p:Q2 Nat}(i:Nat)(hi:hs[i]? =some (ZC γ (QY ck rv) F0 xs))(x:UJ γ F j b)(y:p=some b)(f:xs[j]? =some l)(A:Nat.blt d n=true)(B:P.underlying t=some (.map kt vt))(C:QP S ox=some (.map p))
  (k:∀it,(l.map Prod.fst).Nodup->GL O P ops rest ks Q (Hd n D ((d,.pointer<|some ⟨it,0,none⟩)::S) F<|hs.set i<|V1 γ ck rv F0 j b it xs l none) m r):GL O P ops (⟨some d,.range t ox,ty,pos,after,none⟩::rest) ks Q (Hd n D S F hs) m r:=by
 subst y;refine GG.step rfl (.inr rfl) λE a w o=> ?_;have G:=(o.2.pull hi).ab x f;obtain⟨es,c,l',g,u,H,v,q,s⟩:=Wy G;refine⟨.pointer<|some ⟨w.heap.size,0,none⟩,w.alloc<|.mapIter (some b) c #[] c,?_,k w.heap.size u E _ _ ⟨o.1.put A _,?_⟩⟩
 ·simp[execOp,Instr.range,o.1.eval C,YA B,YW H]
 ·have I:=q.alloc<|.mapIter (some b) c #[] c;refine SH.push hi<|Hk f I v s (λh=>by simp at h) ?_ g u λ_ h=>by cases h
  have e:((es.toList.zip l').filter λz=> !(#[]:S1 Nat).contains z.1.born)=es.toList.zip l' :=by
   rw[lH];intro z _;simp
  rw[e,v.sK.1];exact g.symm
theorem GG.nJ(i:Nat)(hi:hs[i]? =some (V1 γ ck rv F0 j b it xs [] cur))(p:pt' =some ⟨it,0,none⟩)(q:Nat.blt d n=true)(s:QP S ox=some (.pointer pt'))
  (k:GL O P ops rest ks Q (Hd n D ((d,.tuple #[.bool false])::S) F hs) m r):GL O P ops (⟨some d,.next ox false,ty,pos,after,none⟩::rest) ks Q (Hd n D S F hs) m r:=by
 subst p;refine GG.step rfl (.inr rfl) λu a w e=> ?_;obtain⟨M,es,c,l',o,last,_,v,f,_,x,g,y,z,_⟩:=Xa<|e.2.pull hi;obtain⟨A,h⟩:=(Td (P:=P) (ty:=ty) v f x g y z).1 rfl;refine⟨_,{w with drawn:=A},?_,k u _ _ ⟨e.1.put q _,e.2.drew _⟩⟩;simp[execOp,e.1.eval s,h]
theorem GG.nI(i:Nat)(hi:hs[i]? =some (V1 γ ck rv F0 j b it xs todo cur))(A:todo≠[])(X:pt' =some ⟨it,0,none⟩)(Y:Nat.blt d n=true)(s:QP S ox=some (.pointer pt'))
  (k:∀x f v,(x::f).Perm todo->(∀T,F0<=T->rv T x.2 v)->GL O P ops rest ks Q (Hd n D ((d,.tuple #[.bool true,ck x.1,v])::S) F<|hs.set i<|V1 γ ck rv F0 j b it xs f<|some x) m r):GL O P ops (⟨some d,.next ox false,ty,pos,after,none⟩::rest) ks Q (Hd n D S F hs) m r:=by
 subst X;refine GG.step rfl (.inr rfl) λZ a w B=> ?_;obtain⟨M,es,c,l',e,last,hM,hb,C,E,u,g,hl,W,G,H,_⟩:=Xa<|B.2.pull hi;obtain⟨z,I,h,k',L⟩:=(Td (P:=P) (ty:=ty) hb C u g hl W).2 A;obtain⟨o,q⟩:=u.aF I;have N:=T5 g u;have R:=G8 (p:=λy:dO×(K×V)=> !e.contains y.1.born) N I<|by simp only[h,u0]
 have e1:∀y:dO×(K×V),(!(e.push z.1.born).contains y.1.born)=(!e.contains y.1.born&& !(y.1.born==z.1.born)):=λy=>by
  rw[oM,ia]
 refine⟨_,put {w with drawn:=k'} it<|.mapIter (some b) c (e.push z.1.born) c,?_,k z.2 (((es.toList.zip l').filter λy=> !(e.push z.1.born).contains y.1.born).map Prod.snd) z.1.val ?_ q Z _ _ ⟨by rw[<-o];exact B.1.put Y _,SH.push hi<|Hk hM ((E.drew _).put (o' :=.mapIter (some b) c (e.push z.1.born) c)) u g (λ_=>rfl) (.refl _) G H λx s=> ?_⟩⟩
 ·simp[execOp,B.1.eval s,L]
 ·refine List.Perm.trans ?_ W.symm;have:=(R.map Prod.snd).symm;simp only[Of] at this
  refine List.Perm.trans (.of_eq ?_) this;congr 2;exact s5 λy _=>e1 y
 ·simp only[UV] at s
  exact⟨z,I,s,by simp⟩
theorem GG.nP{x:K×V}(i:Nat)(hi:hs[i]? =some (V1 γ ck rv F0 j b it xs todo<|some x))(hp:pt' =some ⟨it,0,none⟩)(hd:Nat.blt d n=true)(hx:QP S ox=some (.pointer pt'))
  (k:∀v,(∀Z,F0<=Z->rv Z x.2 v)->GL O P ops rest ks Q (Hd n D ((d,.tuple #[ck x.1,v])::S) F hs) m r):GL O P ops (⟨some d,.entry ox,ty,pos,after,none⟩::rest) ks Q (Hd n D S F hs) m r:=by
 subst hp;refine GG.step rfl (.inr rfl) λhm a w G=> ?_;obtain⟨M,es,c,l',o,last,hM,hb,C,H,I,E,hl,ht,N,aH,p⟩:=Xa<|G.2.pull hi;obtain⟨z,R,T,g⟩:=p x rfl;obtain⟨u,A⟩:=I.aF R;subst T
 have W:o.isEmpty=false:=by
  cases h:o.isEmpty with
  | false=>rfl
  | true=>
   have:o=#[]:=by simpa using h
   subst this;simp at g
 have X:=hl W;subst X
 have B:es.find? (λe=>e.born==z.1.born)=some z.1:=by
  have q:z.1∈es.toList:=by rw[<-I.sK.2];exact kx R
  have s:(es.toList.map (·.born)).Nodup:=E.1.imp λh=>oU h
  have:es.toList.find? (λe=>e.born==z.1.born)=some z.1:=by
   clear hb C I E ht N p R A u H g hl
   generalize es.toList=L at q s
   induction L with
   | nil=>cases q
   | cons y L ih=>
    simp only[Of,mc] at s
    rcases Tc.1 q with e | e
    ·rw[lI,<-e];simp
    ·have:(y.born==z.1.born)=false:=by
      cases Y:y.born==z.1.born with
      | false=>rfl
      | true=>exact absurd (kx (f:=(·.born)) e) (by rw[<-(mb.1 Y:y.born=z.1.born)];exact s.1)
     rw[lI,this];exact ih e s.2
  simpa using this
 refine⟨_,w,?_,k z.1.val A hm _ _ ⟨by rw[<-u];exact G.1.put hd _,G.2⟩⟩;simp[execOp,Instr.entry,G.1.eval hx,S6 C,YW hb,g,B]
def di(a b:Nat):Q2 Unit:=if a=b then some () else none
theorem uf{a:Nat}{u:Unit}(h:di a b=some u):a=b:=by
 unfold di at h;split at h
 ·assumption
 ·cases h
theorem UJ.one{c:Nat}(h:UJ γ F j b)(h' :UJ γ F i' c)(e:i' =j):c=b:=by
 subst e;have:=h.2.symm.trans h'.2;simp at this;exact this.symm
theorem GG.ra[BEq K][LawfulBEq K]{p:Q2 Nat}{c:Nat}{x:K×V}{xs' :Q0 (Q0<|K×V)}{T:S1 A4}(i:Nat)(hi:hs[i]? =some (V1 γ ck rv F0 j b it xs todo<|some x))(hb:UJ γ F j b)(hc:UJ γ F i' c)(G:i' =j)(hp:p=some c)(H:xs[i']? =some l)(hd:∀e,d' =some e->Nat.blt e n=true)(hT:T[0]? =some t)(ht:P.underlying t=some (.map kt vt))(ok:Xi P kt ck)(hx:QP S ox=some (.map p))(hy:QP S oy=some (ck x.1))(he:xs' =xs.set i' (J4 l x.1))
  (k:GL O P ops rest ks Q (Hd n D (match d' with | some e=>(e,.tuple #[])::S | none=>S) F<|hs.set i<|V1 γ ck rv F0 j b it xs' todo none) m r):GL O P ops (⟨d',.call ⟨.builtin .delete,#[ox,oy],T⟩,ty,pos,after,none⟩::rest) ks Q (Hd n D S F hs) m r:=by
 obtain rfl:=hb.one hc G;subst hp;subst he;subst G;refine GG.step rfl (.inr rfl) λf a w I=> ?_;obtain⟨M,es,clock,l',L,last,hM,N,af,aF,hr,aG,hl,aH,R,o,s⟩:=Xa<|I.2.pull hi;obtain rfl:M=l:=by rw[hM] at H;simpa using H
 obtain⟨z,hz,W,u⟩:=s x rfl;obtain⟨kd,hu,v⟩:=ok.und;have X:(l'.map Prod.fst).Nodup:=(R.map _).nodup_iff.2 o;have Y:x∈l' :=by rw[<-hr.sK.1,<-W];exact kx hz
 rcases hr.mI (k:=x.1) v 0 with⟨_,_,g3⟩ | ⟨q,e1,y,g1,g2,g3,g4,g5,g6⟩
 ·have:=g3 x Y;simp at this
 ·have hj:q < es.size:=by simpa using g2
  have hf:=run_findKey (w:=w) hu g1;rw[sf] at hf
  have aJ:y=x:=MP X (T2 g5) Y (by simpa using(mb.1 g6).symm);subst aJ;have A:(es.eraseIdxIfInBounds q).toList=es.toList.eraseIdx q:=by simp[Array.eraseIdxIfInBounds,hj]
  obtain⟨Z,aK⟩:∃Z,es.toList[q]? =some Z:=⟨_,C2 g2⟩;have B:(es.toList.zip l')[q]? =some (Z,y):=by rw[iD];exact⟨aK,g5⟩
  have aL:z=(Z,y):=by
   obtain⟨C,aM,ez⟩:=mz hz;have aA:(es.toList.zip l')[C]? =some z:=by rw[C2 aM,ez]
   have h1:=(iD.1 aA).2;have aB:=ed.1 X;have aC:q < l'.length:=(Do.1 g5).1;have g:C < l'.length:=(Do.1 h1).1;have a1:l'[q]=y:=(Do.1 g5).2;have a2:l'[C]=y:=by rw[(Do.1 h1).2,W]
   have:C=q:=by
    rcases oV C q with h | h | h
    ·exact absurd (by rw[lP,lP,a1,a2])<|aB C q (by simpa using g) (by simpa using aC) h
    ·exact h
    ·exact absurd (by rw[lP,lP,a1,a2])<|aB q C (by simpa using aC) (by simpa using g) h
   subst this;rw[aA] at B;simpa using B
  have E:L.contains Z.born=true:=by
   have:=u;rw[aL] at this
   simp only at this
   rw[Array.contains_iff_mem];exact Array.mem_of_back? this
  refine⟨.tuple #[],Dec.put w c<|.map (es.eraseIdxIfInBounds q) clock,?_,k f _ _ ⟨?_,SH.push hi ?_⟩⟩
  ·have:(Builtin.delete_ T ty #[.map<|some c,ck y.1]).run P w= .ok (.tuple #[]) (Dec.put w c<|.map (es.eraseIdxIfInBounds q) clock):=by
    simp[Builtin.delete_,hT,YA ht,YW N,ok.check,hf,FX N]
   simp[execOp,resolve,invoke,builtin,I.1.eval hx,I.1.eval hy,this]
  ·cases d' with
   | none=>exact I.1.c6 _
   | some e=>exact I.1.put (hd e rfl) _
  ·have h1:=(aF.mono λm f=>Zi f).put (o' :=.map (es.eraseIdxIfInBounds q) clock);have aN:i' < xs.length:=(Do.1 hM).1;refine Hk (M:=J4 M y.1) (by rw[my];simp[aN]) (w:=Dec.put w c<|.map (es.eraseIdxIfInBounds q) clock) ?_ (l' :=J4 l' y.1) (by rw[A];exact g3) (by rw[A];exact aG.erase) hl ?_ (C9 R o) (Bl o) λ_ h=>by cases h
   ·have h2:=h1.mono λm f=>Zi f;have h3:SH (Dec.put w c<|.map (es.eraseIdxIfInBounds q) clock) F (star (hole γ (QY ck rv) F0 i' c xs) _):=h2.mono λm f=>Zi<|QS (λm f=>Zi f) f;exact(yP (y:=J4 M y.1) h3).mono λm f=>QS (λm f=>Zi f)<|Zi f
   ·rw[A,g4,Lk,Tp B<|by simp only[E,RK]];exact aH
theorem Hd.nc(i:Nat)(le:F0<=F)(e:UJ γ F j b)(hi:hs[i]? =some (V1 γ ck rv F0 j b it xs todo cur))(c:Hd n D S F hs a w):Hd n D S F (hs.set i<|V1 γ ck rv F j b it xs todo cur) a w:=⟨c.1,SH.push hi<|yO le e<|c.2.pull hi⟩
theorem GG.nc{g:Gp}(i:Nat)(le:F0<=F)(c:UJ γ F j b)(hi:hs[i]? =some (V1 γ ck rv F0 j b it xs todo cur))(k:GG g (Hd n D S F<|hs.set i<|V1 γ ck rv F j b it xs todo cur) m r):GG g (Hd n D S F hs) m r:=by
 exact λe a w f=>k e a w<|Hd.nc i le c hi f
theorem GG.mK(i:Nat)(hi:hs[i]? =some (V1 γ ck rv F0 j b it xs [] cur))(k:GE O P ks Q (Hd n D S F<|hs.set i<|ZC γ (QY ck rv) F0 xs) m r):GE O P ks Q (Hd n D S F hs) m r:=λe a w c=>k e a w ⟨c.1,SH.push hi<|qX<|c.2.pull hi⟩
theorem Hd.nU{x:Q2 (K×V)}(i:Nat)(hi:hs[i]? =some (V1 γ ck rv F0 j b it xs todo x))(e:Hd n D S F hs a w):Hd n D S F (hs.set i<|V1 γ ck rv F0 j b it xs todo none) a w:=
 ⟨e.1,SH.push hi (by
  obtain⟨M,es,c,l',f,last,g,_,_,hs,k,o,p,q,s,u,v⟩:=Xa<|e.2.pull hi;exact Hk g hs k o p q s u λ_ h=>by cases h)⟩
theorem GG.nU{g:Gp}{x:Q2 (K×V)}(i:Nat)(hi:hs[i]? =some (V1 γ ck rv F0 j b it xs todo x))(k:GG g (Hd n D S F<|hs.set i<|V1 γ ck rv F0 j b it xs todo none) m r):GG g (Hd n D S F hs) m r:=by
 exact λc a w e=>k c a w<|Hd.nU i hi e
end
def MS(P:C1)(fn:lg)(F:Fz)(R:HP)(ρ:β->Fz->K2->Prop)(d:β->Fz->Q0 HP)(r:β):gw->Act->B1->Prop:=bodyPostM Fence.wide 0 P fn (λe w' =>∃c v,F<=c/\e= .returned v/\ρ r c v/\SH w' c (star (Qg<|d r c) R))
theorem Xv.aE{f:L3}{fn:lg}{c:ln}{args:Q0 K2}{Hs:Q0 HP}{m:Q2 β}{ρ:β->Fz->K2->Prop}{d:β->Fz->Q0 HP}
  (g:P.funcs[f]? =some fn) (i:fn.body=some c) (j:fn.ntmps=n) (l:Nat.ble args.length n=true)
  (k:∀r R,GC none P c [] (MS P fn F R ρ d r) (Hd n [] (Dw 0 args) F<|Hs++[R]) m r):Xv P f args.toArray F Hs m ρ d:=by
 intro r e w R o;refine(fl (n:=0)).1<|oK g i trivial<|k r R e _ w ⟨?_,o.mono λm e=>K7<|QS (λ_ h=>YD h) e⟩;rw[j];exact WB l
section
variable{β:Type}{P:C1}{n:Nat}{S:Q0 (Nat×K2)}{F F' :Fz}{hs:Q0 HP}{ks:Q0 Kt}{fn:lg}{R:HP}{ρ:β->Fz->K2->Prop}{Hs' :β->Fz->Q0 HP}{x r:β}{rs:Q0 ResultVar}{vs:Q0 K2}{ms:Q0 (Nat×Nat)}
theorem Nl(is:Q0 Nat)(f:fn.results=rs.toArray)(g:v8 hs ms)(h:Sm P S F' (Ho hs ms) rs vs)(hi:YJ is (Ho hs ms)=Hs' x F' ++[R])(le:F<=F')(hρ:ρ x F' (AL vs)):some x=some r->∀a w,Hd n (ms.map λp=>WX p.2) S F' hs a w->LeavesInM Fence.wide 0 P fn a.tmps (λe w' =>∃F' v,F<=F'/\e= .returned v/\ρ r F' v/\SH w' F' (star (Qg<|Hs' r F') R)) a.defers .returning w:=by
 intro e a w c;simp only[UV] at e
 subst e;rw[c.1.2.1];refine R3 c.2 g λw' h' => ?_
 exact⟨_,Jh (n:=n) (a:=a) (D:=a.defers) f ⟨⟨c.1.1,rfl,c.1.2.2⟩,h'⟩ h,F',_,le,rfl,hρ,h'.mono λm i=>by
  have d:=Vd (ks:=is) i;rw[hi] at d
  exact Xw<|Ve d⟩
theorem GG.nq(is:Q0 Nat)(ms:Q0 (Nat×Nat))(c:fn.results=rs.toArray)(d:v8 hs ms)(h:Sm P S F' (Ho hs ms) rs vs)(hi:YJ is (Ho hs ms)=Hs' x F' ++[R])(le:F<=F')(hρ:ρ x F' (AL vs)):GC O P .ret ks (MS P fn F R ρ Hs' r) (Hd n (ms.map λp=>WX p.2) S F' hs) (some x) r:=GG.cz<|Nl is c d h hi le hρ
theorem GG.rz(is:Q0 Nat)(ms:Q0 (Nat×Nat))(c:fn.results=rs.toArray)(d:v8 hs ms)(h:Sm P S F' (Ho hs ms) rs vs)(hi:YJ is (Ho hs ms)=Hs' x F' ++[R])(le:F<=F')(hρ:ρ x F' (AL vs)):GE O P [] (MS P fn F R ρ Hs' r) (Hd n (ms.map λp=>WX p.2) S F' hs) (some x) r:=GG.cN<|Nl is c d h hi le hρ
end
def Mz(d:Nat)(c:U2 α)(F:Fz)(p:Q2 C3)(cap:Nat)(l:Q0 α):Prop:=QG d c F p cap l/\(l=[]->p=none/\cap=0)
section
variable{α:Type}{sz:Nat}{c:U2 α}{F F' :Fz}{p:Q2 C3}{cap:Nat}{l:Q0 α}
theorem Mz.nil(h:Mz sz c F p cap l)(e:l=[]):p=none/\cap=0:=h.2 e
theorem Mz.zero:Mz sz c F none 0 ([]:Q0 α):=⟨QG.nil,λ_=>⟨rfl,rfl⟩⟩
end
def gd(l:Q0 α):Q2 Unit:=match l with | []=>some () | _::_=>none
theorem ET{l:Q0 α}{u:Unit}(h:gd l=some u):l=[]:=by
 cases l with
 | nil=>rfl
 | cons x l=>cases h
section
variable{K V:Type}{ck:K->K2}{rv:Fz->V->K2->Prop}{γ:Nat}{xs ys:Q0 (Q0<|K×V)}{n:Nat}{D:Q0 TO}{S:Q0 (Nat×K2)}{F F0:Fz}{hs:Q0 HP}{a:Act}{w:B1}
theorem Hd.mW(i:Nat)(hi:hs[i]? =some (ZC γ (QY ck rv) F0 xs))(c:PB xs ys)(d:Hd n D S F hs a w):Hd n D S F (hs.set i<|ZC γ (QY ck rv) F0 ys) a w:=by
 refine⟨d.1,SH.push hi ?_⟩;refine(d.2.pull hi).ao c.1 λf x y b' m g h j=> ?_;obtain⟨l',k,l,o⟩:=j;have e:=c.2 f x y g h;exact⟨l',k.trans e,(e.map _).nodup_iff.1 l,o⟩
end
end
section
variable{l:Q0 Rw}{k:Nat}
def Om(l:Q0 Rw)(k i:Nat)(o:Rw):Bool:=(o.looksAt l.toArray).all λt=>(List.range k).all λj=>match Vo l j with
 | none=>true
 | some d=> !Nat.beq d t||((o.after.toList.any λe=>Region.binds .any e&&Nat.beq e.on j)||(Nat.blt i j&&match l[j]? with
  | none=>false
  | some a=>a.after.toList.any λe=>Region.binds .any e&&Nat.beq e.on i))
def MJ(l:Q0 Rw)(k:Nat):Nat->Q0 Rw->Bool
 | _,[]=>true
 | i,o::os=>Om l k i o&&MJ l k (i+1) os
theorem MI:∀{os:Q0 Rw} {a:Nat},MJ l k a os=true->∀(i:Nat) (o:Rw),os[i]? =some o->Om l k (a+i) o=true
 | [],_,_,i,o,h=>by simp at h
 | x::os,a,b,i,o,h=>by
  simp only[MJ,BY] at b
  cases i with
  | zero=>simp at h;subst h;exact b.1
  | succ i=>
   have:=MI b.2 i o (by simpa using h);rw[show a+1+i=a+(i+1) by omega] at this
   exact this
theorem qS{os:Q0 Rw}(h:MJ l k 0 os=true)(i:Nat)(o:Rw)(a:os[i]? =some o):Om l k i o=true:=by
 have:=MI h i o a
 rwa[sf] at this
def um(n:Nat)(l:Q0 Rw)(k:Nat):Bool:=N4 0 l&&qp l k&&Nat.ble k l.length&&Df n (l.take k)&&MJ l k 0 (l.take k)&&(l.take k).all λo=>HB o.op&&jF o.op
section
variable{β:Type}{O:Q2 Nat}{P:C1}{ks:Q0 Kt}{Q:gw->Act->B1->Prop}{m:Q2 β}{r:β}{n:Nat}{D:Q0 TO}{S0:Q0 (Nat×K2)}{F:Fz}{hs:Q0 HP}{l:Q0 Rw}
theorem Ge.rl{a0 a b:Act}{vs:Q0 K2}{L g:Nat->Bool}(c:Ge l k n a0 vs L a)(c' :Ge l k n a0 vs g b)(p:k<=vs.length){t:Nat}(i:∀j,j < k->Vo l j=some t->L j=g j):a.tmps.getD t undef=b.tmps.getD t undef:=by
 by_cases h:∃j,j < k/\L j=true/\Vo l j=some t
 ·obtain⟨j,d,f,e⟩:=h;have o:vs[j]? =some vs[j]:=C2 qz;rw[c.got j _ t d f e o,c'.got j _ t d (by rw[<-i j d e];exact f) e o]
 ·rw[c.old t λj d f e=>h ⟨j,d,f,e⟩,c'.old t λj d f e=>h ⟨j,d,by rw[i j d e];exact f,e⟩]
theorem GG.mH{id:Nat}(k:Nat)(hm:P.follows .mixedOrders=true)(hB:um n l k=true)
  (aK:GL .s P l.toArray (l.take k) [] (λ_=>W8 O P l.toArray (Zh O P ks Q)<|l.drop k) (Hd n D S0 F hs) m r):GC O P (.region id l.toArray true) ks Q (Hd n D S0 F hs) m r:=by
 intro aX a0 w ha;simp only[um,BY,If] at hB
 obtain⟨⟨⟨⟨⟨S,Y⟩,aL⟩,aM⟩,Z⟩,aN⟩:=hB;have aA:=A6 Y;have aB:k<=l.length:=AC aL;have aY:=aK aX a0 {w with drawn:=w.drawn+1} ⟨ha.1,ha.2.drew _⟩;obtain⟨vs,aZ,hK,aC⟩:=Ry aY;have aa:vs.length=k:=by rw[aZ];simp;omega
 have T:=SO (a0:=a0) (vs:=vs) (l:=l) ha.1.1 aM aB aa
 let V:(Nat->Bool)->Act->B1->Prop:=λL a w' =>Down l L/\(∀i,k<=i->L i=false)/\w' ={w with drawn:=w.drawn+1}/\Ge l k n a0 vs L a
 let Inv:(Nat->Bool)->Act->B1->Prop:=λL a w=>V L a w∨∃i,k < i/\Down l L/\(∀j,L j=true↔j < i)/\W8 O P l.toArray (Zh O P ks Q) (l.drop i) a w
 have A:∀L a w',(∀i,i < k->L i=true)->V L a w'->W8 O P l.toArray (Zh O P ks Q) (l.drop k) a w' :=by
  rintro L a w' q ⟨_,B,rfl,hc⟩
  have ab:L=λj=>Nat.blt j k:=by
   funext j;rcases qs j k with h | h
   ·rw[q j h];exact(u2 h).symm
   ·rw[B j h];cases x:Nat.blt j k with
    | false=>rfl
    | true=>have:=AC x;omega
  have y:=T k<|S2 _;rw[OF (show(l.take k).length<=k by simp;omega),OF<|show vs.length<=k by omega] at y
  rw[ab] at hc
  rw[hc.eq y qz λj u=>u2 u];exact hK
 refine W7 hm Inv (λi o h e he x=>by have:=XC S i o (by simpa using h) e he x;omega) ?_ ?_ ?_
 ·refine .inl ⟨λi o _ h=>(by cases h),λ_ _=>rfl,rfl,⟨ha.1.1,rfl,λj v t _ h=>(by cases h),λt _=>rfl⟩⟩
 ·intro L a w' i o ho K f hI;have g:l[i]? =some o:=by simpa using ho
  have aD:i < l.length:=Zm g;by_cases hi:i < k
  ·rcases hI with C | ⟨z,hk,_,q,_⟩
   case inr=>have:=(q i).2 qz;rw[K] at this;cases this
   obtain⟨aP,B,rfl,hc⟩:=C;have aE:(l.take k)[i]? =some o:=by rw[yb,Bm hi];exact g
   have aQ:o∈l.take k:=T2 aE;obtain⟨ae,af⟩:=aN o aQ;have ag:=qS Z i o aE;have hv:vs[i]? =some vs[i]:=C2 qz;have ah:=aC i o _ aE hv
   have aR:Ah P l.toArray {w with drawn:=w.drawn+1} o vs[i] a:=ah.of_same af λt ht=>by
    refine(T i qz).rl hc qz λj u e=> ?_;have p:=If.1 (If.1 ag t ht) j<|mj.2 u;rw[e] at p
    simp only[iR,RK,mv,rm] at p
    rcases p with p | p
    ·simp only[aT,BY] at p
     obtain⟨e',aF,M,E⟩:=p;have E:e'.on=j:=kp E;have G:e'∈o.after:=by simpa using aF
     have q:=f e' G M;have:=XC S i o g e' G M;rw[E] at q
     rw[q];exact u2<|show j+1<=i by omega
    ·simp only[BY] at p
     obtain⟨aS,y⟩:=p;have aS:i < j:=AC aS
     have h3:Nat.blt j i=false:=by
      cases x:Nat.blt j i with
      | false=>rfl
      | true=>have:=AC x;omega
     rw[h3];cases H:L j with
     | false=>rfl
     | true=>
      exfalso;cases c:l[j]? with
      | none=>rw[c] at y;cases y
      | some oj=>
       rw[c] at y
       simp only[aT,BY] at y
       obtain⟨e',aF,M,E⟩:=y;have:=aP j oj c H e' (by simpa using aF) M;rw[kp E,K] at this
       cases this
   have d:Inv (KS L i) (a.put o.dst vs[i]) {w with drawn:=w.drawn+1}:=by
    refine .inl ⟨?_,?_,rfl,hc.put aM hi g hv⟩
    ·intro j oj c u e he x
     have:L e.on=true:=by
      by_cases I:j=i
      ·subst I;rw[g] at c;cases c;exact f e he x
      ·exact aP j oj c (by simpa[KS,I] using u) e he x
     simp only[KS];split
     ·rfl
     ·exact this
    ·intro j u;simp only[KS];rw[B2 qz];exact B j u
   rcases aR with⟨p,y⟩ | ⟨p,y⟩
   ·rw[Bm p];refine⟨.inr ae,?_⟩;rw[y];exact d
   ·rw[B2 (by simp[p]),<-y];exact d
  ·have W:Down l L:=by
    rcases hI with C | ⟨_,_,hd,_,_⟩
    ·exact C.1
    ·exact hd
   have b:∀j,j < i->L j=true:=λj u=>by
    obtain⟨s,hs⟩:=aA i o qz g j u;exact W0 W hs λo' X e he x=>by rw[g] at X;cases X;exact f e he x
   have aV:Down l (KS L i):=λj oj c u e he x=>by
    have:L e.on=true:=by
     by_cases I:j=i
     ·subst I;rw[g] at c;cases c;exact f e he x
     ·exact W j oj c (by simpa[KS,I] using u) e he x
    simp only[KS];split
    ·rfl
    ·exact this
   have N:W8 O P l.toArray (Zh O P ks Q) (l.drop i) a w' :=by
    rcases hI with C | ⟨z,hk,_,q,R⟩
    ·have ai:i=k:=by
      rcases qs k i with h | h
      ·have:=b k h;rw[C.2.1 _<|S2 _] at this;cases this
      ·omega
     subst ai;exact A L a w' b C
    ·have:z=i:=by
      have p:¬i < z:=λh=>by have:=(q i).2 h;rw[K] at this;cases this
      have y:¬z < i:=λh=>by have:=(q z).1<|b z h;omega
      omega
     subst this;exact R
   have aG:l.drop i=o::l.drop (i+1):=by
    have hg:l[i]'aD=o:=by simpa[aD] using g
    rw[<-hg];exact x2 aD
   rw[aG] at N
   have d:∀a' w',W8 O P l.toArray (Zh O P ks Q) (l.drop<|i+1) a' w'->Inv (KS L i) a' w' :=λa' w' h=>
    .inr ⟨i+1,by omega,aV,λj=>by
     simp only[KS];by_cases u:j=i
     ·simp[u]
     ·simp only[u,By];constructor
      ·intro H
       have:j < i:=by
        rcases qs j i with h | h
        ·exact h
        ·rcases hI with C | ⟨z,hk,_,q,_⟩
         ·rw[C.2.1 j qz] at H;cases H
         ·have p:=(q j).1 H;have:=(q i).2 qz;rw[K] at this;cases this
       omega
      ·intro ay;exact b j qz,h⟩
   unfold W8 at N
   split
   ·rename_i aH;rw[Bm aH] at N
    exact BE d N
   ·rename_i aH;rw[B2 aH] at N
    exact d _ _ N
 ·intro L a w' b hI
  have N:W8 O P l.toArray (Zh O P ks Q) (l.drop l.length) a w' :=by
   rcases hI with C | ⟨z,hk,_,q,R⟩
   ·have ak:k=l.length:=by
     rcases qs k l.length with h | h
     ·have:=b k (by simpa using h);rw[C.2.1 _<|S2 _] at this;cases this
     ·omega
    have:=A L a w' (λi hi=>b i zg) C
    rwa[ak] at this
   ·have:l.length<=z:=by
     rcases qs z l.length with h | h
     ·have:=(q z).1 (b z<|by simpa using h);omega
     ·exact h
    rw[j0 this] at R
    rw[j0<|S2 _];exact R
  rw[j0<|S2 _] at N
  exact N
end
end
section
variable{Q:gw->Act->B1->Prop}{l:Q0 Rw}{P:C1}{st:Q0 Nat}{n p:Nat}
theorem Fz.r{F:Fz}:F<=F:=Fz.le_refl F
theorem Fz.t{F G H:Fz}(h:F<=G)(k:G<=H):F<=H:=Fz.le_trans h k
section
variable{O:Q2 Nat}{μ:Md}
def vB(O:Q2 Nat)(P:C1)(ops:S1 Rw)(Q:gw->Act->B1->Prop):Q0 Nat->Q0 Rw->Act->B1->Prop
 | [],l,a,w=>wpS P ops w (λb=>Q .normal b w) l a
 | p::st,l,a,w=>wpS P ops w (λb=>W8 O P ops (Exit.then (vB O P ops Q st<|l.drop<|p+1) Q) ((l.drop p).take 1) b w) (l.take p) a
def uI(l:Q0 Rw)(c p i:Nat)(o:Rw):Bool:=(o.looksAt l.toArray).all λt=>(List.range p).all λj=>match Vo l (c+j) with
 | none=>true
 | some d=> !Nat.beq d t||((o.after.toList.any λe=>Region.binds .any e&&Nat.beq e.on (c+j))||(Nat.blt i j&&match l[c+j]? with
  | none=>false
  | some a=>a.after.toList.any λe=>Region.binds .any e&&Nat.beq e.on (c+i)))
def R2(l:Q0 Rw)(c p:Nat):Nat->Q0 Rw->Bool
 | _,[]=>true
 | i,o::os=>uI l c p i o&&R2 l c p (i+1) os
theorem RS{c:Nat}:∀{os:Q0 Rw} {a:Nat},R2 l c p a os=true->∀(i:Nat) (o:Rw),os[i]? =some o->uI l c p (a+i) o=true
 | [],_,_,i,o,h=>by simp at h
 | x::os,a,b,i,o,h=>by
  simp only[R2,BY] at b
  cases i with
  | zero=>simp at h;subst h;exact b.1
  | succ i=>
   have:=RS b.2 i o (by simpa using h);rw[show a+1+i=a+(i+1) by omega] at this
   exact this
def jt(n:Nat)(l:Q0 Rw)(c p:Nat):Bool:=Df n ((l.drop c).take p)&&R2 l c p 0 ((l.drop c).take p)&&((l.drop c).take p).all λo=>HB o.op&&jF o.op
def dD(a:Q0 (Q0 Bool))(len d:Nat):Bool:=yq d (a.getD d [])&&(List.range len).all λt=> !Nat.blt d t||(a.getD t []).getD d false
def xw(n:Nat)(l:Q0 Rw)(a:Q0 (Q0 Bool)):Q0 Nat->Nat->Bool
 | [],c=>jt n l c (l.length - c)
 | p::st,c=>Nat.blt (c+p) l.length&&jt n l c p&&dD a l.length (c+p)&&xw n l a st (c+p+1)
def kO(n:Nat)(l:Q0 Rw)(st:Q0 Nat):Bool:=N4 0 l&&xw n l (W1 [] l) st 0
def UQ(l:Q0 Rw):Q0 Nat->Nat->Nat
 | [],c=>l.length - c
 | p::_,_=>p
def vK(O:Q2 Nat)(P:C1)(l:Q0 Rw)(Q:gw->Act->B1->Prop):Q0 Nat->Nat->Act->B1->Prop
 | [],_,a,w=>Q .normal a w
 | p::st,c,a,w=>W8 O P l.toArray (Exit.then (vB O P l.toArray Q st<|l.drop<|c+p+1) Q) ((l.drop<|c+p).take 1) a w
theorem OD{a:Q0 (Q0 Bool)}:∀{st:Q0 Nat} {c:Nat},xw n l a st c=true->c<=l.length->jt n l c (UQ l st c)=true/\c+UQ l st c<=l.length
 | [],c,h,b=>⟨h,by show c+(l.length - c)<=l.length;omega⟩
 | p::st,c,h,_=>by
  simp only[xw,BY] at h
  exact⟨h.1.1.2,Nat.le_of_lt<|AC h.1.1.1⟩
theorem vL{w:B1}:∀{st:Q0 Nat} {c:Nat} {a:Act},c<=l.length->vB O P l.toArray Q st (l.drop c) a w->wpS P l.toArray w (λb=>vK O P l Q st c b w) ((l.drop c).take<|UQ l st c) a
 | [],c,a,d,h=>by
  have e:(l.drop c).take (UQ l [] c)=l.drop c:=OF (by show(l.drop c).length<=l.length - c;rw[lO];exact S2 _);rw[e];exact h
 | p::st,c,a,d,h=>by
  unfold vB at h
  rw[eL,eL] at h
  exact h
structure kg(O:Option Nat)(P:Program)(l:List Oper)(n:Nat)(Q:Exit->Act->World->Prop)(dfs:List Deferred)(st:List Nat)(c:Nat)(a0:Act)(vs:List Value)(L:Nat->Bool)(a:Act)(w:World):Prop where
 stg:xw n l (W1 [] l) st c=true
 cl:c<=l.length
 down:Down l L
 pre:∀j,j < c->L j=true
 out:∀j,c+UQ l st c<=j->L j=false
 size:a0.tmps.size=n
 len:vs.length=UQ l st c
 tail:vK O P l Q st c (OR a0 ((l.drop c).take<|UQ l st c) vs) w
 step:∀i o v,((l.drop c).take<|UQ l st c)[i]? =some o->vs[i]? =some v->Ah P l.toArray w o v (OR a0 (((l.drop c).take<|UQ l st c).take i)<|vs.take i)
 char:Ge (l.drop c) (UQ l st c) n a0 vs (λj=>L<|c+j) a
theorem kg.enter{c:Nat}{a:Act}{L:Nat->Bool}{w:B1}(hs:xw n l (W1 [] l) st c=true)(e:c<=l.length)(h:Down l L)(d:∀j,j < c->L j=true)(b:∀j,c<=j->L j=false)(f:a.tmps.size=n)(i:vB O P l.toArray Q st (l.drop c) a w):∃vs,kg O P l n Q [] st c a vs L a w:=by
 obtain⟨vs,k,m,o⟩:=Ry<|vL e i;have g:=(OD hs e).2;refine⟨vs,hs,e,h,d,λj r=>b j qz,f,?_,m,o,⟨f,rfl,λj v t _ q=> ?_,λt _=>rfl⟩⟩
 ·rw[k,el,lO];omega
 ·have:L (c+j)=true:=q;rw[b (c+j) qz] at this;cases this
section
variable{P:C1}{n:Nat}{D:Q0 TO}{l:Q0 Rw}
theorem Nt{a:Act}{d:Q2 Tmp}{v:K2}:(a.put d v).tmps.size=a.tmps.size:=by
 cases d with
 | none=>rfl
 | some t=>show(a.tmps.setIfInBounds t v).size=_;simp
end
section
variable{β:Type}{P:C1}{ks:Q0 Kt}{Q:gw->Act->B1->Prop}{m:Q2 β}{r:β}{n:Nat}{D:Q0 TO}{S0:Q0 (Nat×K2)}{F:Fz}{hs:Q0 HP}{l:Q0 Rw}
theorem uk{id:Nat}(hm:P.follows .mixedOrders=true)(aU:Q0 Nat)(hB:kO n l aU=true){a0:Act}{w0:B1}(aj:a0.tmps.size=n)(ak:vB O P l.toArray Q aU l a0 {w0 with drawn:=w0.drawn+1}):(Code.region id l.toArray true).wpIn (Rm O) 0 P Q a0 w0:=by
 simp only[kO,BY] at hB
 obtain⟨aC,al⟩:=hB;have aG:P4 l (W1 [] l):=B0 (pre:=[]) rfl rfl (λt m h=>by simp at h);refine W7 hm (λL a w=>∃st c a1 vs,kg O P l n Q [] st c a1 vs L a w) (λi o h e he S=>by have:=XC aC i o (by simpa using h) e he S;omega) ?_ ?_ ?_
 ·obtain⟨vs,f⟩:=kg.enter (L:=λ_=>false) al (ei _) (λi o _ h=>(by cases h)) (λj x=>absurd x qz) (λ_ _=>rfl) aj ak;exact⟨_,_,_,_,f⟩
 ·rintro L a w i o ho aV A ⟨st,c,a1,vs,f⟩;have C:l[i]? =some o:=by simpa using ho
  have M:i < l.length:=Zm C
  have bA:c<=i:=by
    rcases qs i c with h | h
    ·have:=f.pre i h;rw[aV] at this;cases this
    ·exact h
  obtain⟨y,aW⟩:=OD f.stg f.cl;have E:=SO (l:=l.drop c) (k:=UQ l st c) (a0:=a1) (vs:=vs) f.size (by simp only[jt,BY] at y;exact y.1.1) (by rw[lO];omega) f.len
  have aD:Down l (KS L i):=λj oj N x e he S=>by
    have:L e.on=true:=by
     by_cases aX:j=i
     ·subst aX;rw[C] at N;cases N;exact A e he S
     ·exact f.down j oj N (by simpa[KS,aX] using x) e he S
    simp only[KS];split
    ·rfl
    ·exact this
  rcases qs i (c+UQ l st c) with hi | hi
  ·
    obtain⟨q,rfl⟩:∃q,i=c+q:=⟨i - c,by omega⟩;have hq:q < UQ l st c:=by omega
    have aI:((l.drop c).take<|UQ l st c)[q]? =some o:=by rw[yb,Bm hq,ml];exact C
    have ao:(l.drop c)[q]? =some o:=by rw[ml];exact C
    simp only[jt,BY,If] at y
    obtain⟨⟨X,Y⟩,aZ⟩:=y;obtain⟨aq,ar⟩:=aZ o<|T2 aI;have aa:=RS Y q o aI;rw[sf] at aa
    obtain⟨v,hv⟩:∃v,vs[q]? =some v:=⟨vs[q]'(by rw[f.len];exact hq),C2 _⟩
    have T:Ah P l.toArray w o v a:=(f.step q o _ aI hv).of_same ar λt ht=>by
     refine(E q qz).rl f.char (by rw[f.len];exact S2 _) λj x e=> ?_
     have e' :Vo l (c+j)=some t:=by
      unfold Vo at e ⊢;rw[ml] at e;exact e
     have B:=If.1 (If.1 aa t ht) j<|mj.2 x;rw[e'] at B
     simp only[iR,RK,mv,rm] at B
     rcases B with B | B
     ·simp only[aT,BY] at B
      obtain⟨e1,aJ,Z,V⟩:=B;have V:e1.on=c+j:=kp V;have W:e1∈o.after:=by simpa using aJ
      have hL:=A e1 W Z;have:=XC aC (c+q) o C e1 W Z;rw[V] at hL
      show Nat.blt j q=L (c+j);rw[hL];exact u2<|show j+1<=q by omega
     ·simp only[BY] at B
      obtain⟨ab,G⟩:=B;have ab:q < j:=AC ab
      have h3:Nat.blt j q=false:=by
       cases S:Nat.blt j q with
       | false=>rfl
       | true=>have:=AC S;omega
      show Nat.blt j q=L (c+j);rw[h3];cases au:L (c+j) with
      | false=>rfl
      | true=>
       exfalso;cases N:l[c+j]? with
       | none=>rw[N] at G;cases G
       | some oj=>
        rw[N] at G
        simp only[aT,BY] at G
        obtain⟨e1,aJ,Z,V⟩:=G;have:=f.down (c+j) oj N au e1 (by simpa using aJ) Z;rw[kp V,aV] at this
        cases this
    have g:∃aK c2 a2 aL,kg O P l n Q [] aK c2 a2 aL (KS L<|c+q) (a.put o.dst v) w:=by
     refine⟨st,c,a1,vs,f.stg,f.cl,aD,λj x=> ?_,λj x=> ?_,f.size,f.len,f.tail,f.step,?_⟩
     ·simp only[KS];rw[B2 qz];exact f.pre j x
     ·simp only[KS];rw[B2 qz];exact f.out j x
     ·have:=f.char.put X hq ao hv
      have e:(λj=>KS L (c+q)<|c+j)=KS (λj=>L<|c+j) q:=by
       funext j;simp only[KS];by_cases x:j=q
       ·subst x;simp
       ·rw[B2 x,B2 qz]
      rw[e];exact this
    rcases T with⟨B,G⟩ | ⟨B,G⟩
    ·rw[Bm B];refine⟨.inr aq,?_⟩;rw[G];exact g
    ·rw[B2 (by simp[B]),<-G];exact g
  ·
    cases st with
    | nil=>exact absurd M (by have:UQ l [] c=l.length - c:=rfl;omega)
    | cons p aA=>
     have H:UQ l (p::aA) c=p:=rfl;rw[H] at hi E aW
     have I:=f.stg;simp only[xw,dD,BY,If] at I
     obtain⟨⟨⟨aB,_⟩,aM,aN⟩,T⟩:=I;have aB:c+p < l.length:=AC aB;have aE:∀(t j:Nat) (m:Q0 Bool),(W1 [] l)[t]? =some m->m.getD j false=true->∃s,X2 l s t j=true:=λt j m B G=>aG t m B j G
     have aF:∀t,t < l.length->(W1 [] l)[t]? =some ((W1 [] l).getD t []):=λt ht=>by
      rw[tb];cases h:(W1 [] l)[t]? with
      | some m=>rfl
      | none=>
       exfalso
       have:(W1 [] l).length=l.length:=by
        have gen:∀(os:Q0 Rw) (d:Q0 (Q0 Bool)),(W1 d os).length=d.length+os.length:=by
         intro os
         induction os with
         | nil=>intro d;simp[W1]
         | cons o os ih=>intro d;rw[W1,ih];simp;omega
        simpa using gen l []
       rw[ee] at h
       omega
     have ax:i=c+p:=by
      rcases qs (c+p) i with h | h
      ·exfalso;have B:=aN i<|mj.2 M;rw[show Nat.blt (c+p) i=true from u2 h] at B
       simp only[RK,mv] at B
       obtain⟨s,hs⟩:=aE i (c+p) _ (aF i M) B;have:=W0 f.down hs λo' K e he S=>by rw[C] at K;cases K;exact A e he S
       rw[f.out (c+p) (by rw[H];exact S2 _)] at this
       cases this
      ·omega
     subst ax
     have z:∀j,j < c+p->L j=true:=λj x=>by
      obtain⟨s,hs⟩:=aE (c+p) j _ (aF _ M)<|Mv aM x;exact W0 f.down hs λo' K e he S=>by rw[C] at K;cases K;exact A e he S
     have R:=f.char;rw[H] at R
     have aO:(λj=>L<|c+j)=λj=>Nat.blt j p:=by
      funext j;rcases qs j p with h | h
      ·rw[z (c+j) qz];exact(u2 h).symm
      ·rw[f.out (c+j) (by rw[H];omega)];cases S:Nat.blt j p with
       | false=>rfl
       | true=>have:=AC S;omega
     have ad:=f.len;rw[H] at ad
     have G:=E p<|S2 _;rw[OF (show((l.drop c).take p).length<=p by simp;omega),OF<|show vs.length<=p by omega] at G
     rw[aO] at R
     have aP:=R.eq G qz λj x=>u2 x;have b:=f.tail;rw[H,<-aP] at b
     have aQ:(l.drop<|c+p).take 1=[o]:=by
      have hg:l[c+p]'M=o:=by simpa[M] using C
      rw[<-hg,x2 M];rfl
     change W8 O P l.toArray (Exit.then (vB O P l.toArray Q aA<|l.drop<|c+p+1) Q) ((l.drop<|c+p).take 1) a w at b
     rw[aQ] at b
     have g:∀a' w',a'.tmps.size=n->vB O P l.toArray Q aA (l.drop<|c+p+1) a' w'->∃aK c2 a2 aL,kg O P l n Q [] aK c2 a2 aL (KS L<|c+p) a' w' :=λa' w' hz h=>by
      obtain⟨vs',ay⟩:=kg.enter (L:=KS L<|c+p) T qz aD (λj x=>by
       simp only[KS];by_cases ae:j=c+p
       ·rw[Bm ae]
       ·rw[B2 ae];exact z j qz) (λj x=>by
       simp only[KS];rw[B2 qz];exact f.out j (by rw[H];omega)) hz h
      exact⟨_,_,_,_,ay⟩
     unfold W8 at b
     split
     ·rename_i aR;rw[Bm aR] at b
      refine Oc (λu w' h=>g _ w' (by rw[Nt,R.size]) h) (λd w' h=>g _ w' ?_ h) (λe a w he hq=>by cases e<;>first | exact absurd rfl he | exact hq) b;rw[Nt];exact R.size
     ·rename_i aR;rw[B2 aR] at b
      exact g _ _ (by rw[Nt,R.size]) b
 ·rintro L a w z ⟨st,c,a1,vs,f⟩;obtain⟨y,aW⟩:=OD f.stg f.cl;cases st with
  | cons p aA=>
    exfalso;have I:=f.stg;simp only[xw,BY] at I
    have aB:c+p < l.length:=AC I.1.1.1;have:=z (c+p) (by simpa using aB);rw[f.out (c+p)<|S2 _] at this
    cases this
  | nil=>
    have E:=SO (l:=l.drop c) (k:=UQ l [] c) (a0:=a1) (vs:=vs) f.size (by simp only[jt,BY] at y;exact y.1.1) (by rw[lO];exact S2 _) f.len;have H:UQ l [] c=l.length - c:=rfl;have G:=E (UQ l [] c)<|S2 _;rw[OF (show((l.drop c).take<|UQ l [] c).length<=UQ l [] c by simp;omega),OF (show vs.length<=UQ l [] c by rw[f.len];exact S2 _)] at G
    have aO:Ge (l.drop c) (UQ l [] c) n a1 vs (λj=>Nat.blt j<|UQ l [] c) a:=by
     refine⟨f.char.size,f.char.defs,λj v t x _ hd hv=>f.char.got j v t x (z _ zg) hd hv,λt ht=>f.char.old t λj x _=>ht j x<|u2 x⟩
    have aP:=aO.eq G (by rw[f.len];exact S2 _) λj x=>u2 x;have b:=f.tail;rw[<-aP] at b
    exact b
theorem GG.pH{id:Nat}(d:P.follows .mixedOrders=true)(e:kO n l (p::st)=true)
  (a:GL .s P l.toArray (l.take p) [] (λ_=>W8 O P l.toArray (Exit.then (vB O P l.toArray (Zh O P ks Q) st<|l.drop<|p+1)<|Zh O P ks Q)<|(l.drop p).take 1) (Hd n D S0 F hs) m r):GC O P (.region id l.toArray true) ks Q (Hd n D S0 F hs) m r:=by
 intro b a0 w c;exact uk d (p::st) e c.1.1<|a b a0 {w with drawn:=w.drawn+1} ⟨c.1,c.2.drew _⟩
end
section
variable{β:Type}{P:C1}{ops:S1 Rw}{l tl:Q0 Rw}{ks:Q0 Kt}{Q:gw->Act->B1->Prop}{A:Act->B1->Prop}{K:gw->Act->B1->Prop}{m:Q2 β}{r:β}
theorem GG.tF(h:GL O P ops tl [] K A m r):GL .s P ops [] [] (λ_=>W8 O P ops K tl) A m r:=λb a w c=>h b a w c
theorem GG.rX(h:GE O P ks Q A m r):GL .s P ops [] [] (λ_=>Zh O P ks Q .normal) A m r:=λb a w c=>h b a w c
theorem GG.nl(h:GL .s P ops (l.take p) [] (λ_=>W8 O P ops (Exit.then (vB O P ops K st<|l.drop<|p+1) K)<|(l.drop p).take 1) A m r):GE O P [] (Exit.then (vB O P ops K (p::st) l) K) A m r:=λb a w c=>h b a w c
theorem GG.aq(h:GL .s P ops l [] (λ_=>K .normal) A m r):GE O P [] (Exit.then (vB O P ops K [] l) K) A m r:=λb a w c=>h b a w c
end
end
end
section
variable{l:Q0 DO}
def bs(l:Q0 DO):ByteArray:=⟨l.toArray⟩
theorem Dc:(bs l).size=l.length:=rfl
theorem yl{a b:Q0 DO}:bs a++bs b=bs (a++b):=by
 apply ByteArray.ext;show(bs a++bs b).data=(a++b).toArray;rw[ByteArray.data_append];simp[bs]
theorem Ep:(bs l).toList=l:=ByteArray.toList_mk l
theorem fC{i:Nat}:(bs l)[i]? =l[i]? :=by
 by_cases h:i < l.length
 ·have h' :i < (bs l).size:=h;rw[getElem?_pos (bs l) i h',getElem?_pos l i h];rfl
 ·have h' :¬i < (bs l).size:=h;rw[getElem?_neg (bs l) i h',getElem?_neg l i h]
theorem CO{i j:Nat}:(bs l).extract i j=bs ((l.drop i).take<|j - i):=by
 apply ByteArray.ext;rw[ByteArray.data_extract];show(l.toArray).extract i j=_;simp[bs,List.extract_toArray,List.take_drop]
def encS(n:Int):Q0 DO:=(Utf8.encode n).data.toList
def AK(s:Q0 DO):Q0 K2:=[.string<|bs s]
section
variable{O:Q2 Nat}{μ:Md}
section
variable{P:C1}{a:Act}{S:Q0 (Nat×K2)}{n:Nat}{D:Q0 TO}{d:Nat}{ty t t' :A4}{pos:String}{after:S1 ll}{ox oy oz:IR}{kd kd' :mX}{x y:Int}{s u:Q0 DO}{w:B1}
theorem vk(h:Sl n D S a)(b:QP S ox=some (.string<|bs s))(c:QP S oy=some (.string<|bs u))(e:s.length+u.length<=4294967296):(execOp a.eval ⟨some d,.binOp .add t ox oy t',ty,pos,after,none⟩).run P w= .ok (.value<|.string<|bs<|s++u) w:=by
 simp[execOp,h.eval b,h.eval c,eqGuard,binOp,Op.stringOp,yl];rw[Dc,Dc];omega
theorem wx(h:Sl n D S a)(_:P.underlying t=some .string)(b:QP S ox=some (.string<|bs s))(c:QP S oy=some (.string<|bs u)):(execOp a.eval ⟨some d,.binOp .eql t ox oy t',ty,pos,after,none⟩).run P w= .ok (.value<|.bool<|s==u) w:=by
 simp[execOp,h.eval b,h.eval c,eqGuard,binOp,Op.stringOp,Ep]
theorem wv(h:Sl n D S a)(_:P.underlying t=some .string)(b:QP S ox=some (.string<|bs s))(c:QP S oy=some (.string<|bs u)):(execOp a.eval ⟨some d,.binOp .neq t ox oy t',ty,pos,after,none⟩).run P w= .ok (.value<|.bool<|!(s==u)) w:=by
 simp[execOp,h.eval b,h.eval c,eqGuard,binOp,Op.stringOp,Ep]
theorem vf(h:Sl n D S a){T:S1 A4}(b:T[0]? =some t)(c:P.underlying t=some .string)(e:QP S ox=some (.string<|bs s)):(execOp a.eval ⟨some d,.call ⟨.builtin .len,#[ox],T⟩,ty,pos,after,none⟩).run P w= .ok (.value<|.int .i64 s.length) w:=by
 simp[execOp,resolve,invoke,builtin,Builtin.len_,h.eval e,b,YA c,goInt,Dc]
theorem vg(h:Sl n D S a)(b:P.underlying t=some .string)(e:QP S ox=some (.string<|bs s))(f:QP S oy=some (.int kd x)){c:DO}(g:ZW s x=some c):(execOp a.eval ⟨some d,.index t ox oy,ty,pos,after,none⟩).run P w= .ok (.value<|.int .u8 c.toNat) w:=by
 obtain⟨i,_,j⟩:=H4 g;simp[execOp,h.eval e,h.eval f,Instr.index,asIntOf,YA b,i,fC,j]
theorem Ix(b:P.underlying t=some .string)(h:0<=x/\x<=y)(h' :y<=s.length):(Instr.sliceAt t (.string<|bs s) (some<|.int kd x) (some<|.int kd' y) none).run P w= .ok (.string<|bs<|(s.drop x.toNat).take<|y.toNat - x.toNat) w:=by
 simp only[Instr.sliceAt,wt,YA b,Result.andThen,Instr.slice,Instr.sliceBounds,lM,lQ,H1,By,B3,Dc];rw[Wb (kd:=kd') qz];simp only[];rw[Wb qz];simp[CO]
theorem OL(b:P.underlying t=some .string)(h:0<=y)(h' :y<=s.length):(Instr.sliceAt t (.string<|bs s) none (some<|.int kd' y) none).run P w= .ok (.string<|bs<|s.take y.toNat) w:=by
 simp only[Instr.sliceAt,wt,YA b,Result.andThen,Instr.slice,Instr.sliceBounds,lM,lQ,H1,By,B3,Dc];rw[Wb (kd:=kd') qz];simp[CO]
theorem vj(h:Sl n D S a)(c:P.underlying t=some .string)(e:QP S ox=some (.string<|bs s))(f:QP S oy=some (.int kd x))(g:QP S oz=some (.int kd' y))(b:ZV s x y=some l):(execOp a.eval ⟨some d,.slice t ox (some oy) (some oz) none,ty,pos,after,none⟩).run P w= .ok (.value<|.string<|bs l) w:=by
 unfold ZV at b
 split at b
 ·rename_i i;simp only[UV] at b
  simp only[execOp,h.eval e,h.eval f,h.eval g,E4,lk,wt];rw[Ix c qz qz,b];rfl
 ·cases b
theorem L5(h:Sl n D S a)(c:P.underlying t=some .string)(e:QP S ox=some (.string<|bs s))(f:QP S oz=some (.int kd' y))(b:ZV s 0 y=some l):(execOp a.eval ⟨some d,.slice t ox none (some oz) none,ty,pos,after,none⟩).run P w= .ok (.value<|.string<|bs l) w:=by
 unfold ZV at b
 split at b
 ·rename_i g;simp only[UV] at b
  simp only[execOp,h.eval e,h.eval f,E4,lk,wt];rw[OL c qz qz,<-b];rfl
 ·cases b
theorem vi(h:Sl n D S a)(b:P.underlying t=some (.int kd))(c:P.underlying t' =some .string)(f:QP S ox=some (.int kd x)):(execOp a.eval ⟨some d,.convert t t' ox,ty,pos,after,none⟩).run P w= .ok (.value<|.string<|bs<|encS x) w:=by
 have e:bs (encS x)=Utf8.encode x:=rfl;simp[execOp,h.eval f,convert,YA b,YA c,Conv.intToString,e]
end
section
variable{β:Type}{P:C1}{ops:S1 Rw}{rest:Q0 Rw}{ks:Q0 Kt}{Q:gw->Act->B1->Prop}{m:Q2 β}{r:β}
variable{n:Nat}{D:Q0 TO}{S:Q0 (Nat×K2)}{F:Fz}{hs:Q0 HP}{d:Nat}{ty t t' :A4}{pos:String}{after:S1 ll}{ox oy oz:IR}{kd kd' :mX}{x y:Int}{s u:Q0 DO}
theorem GG.tn{f:Q0 DO->Q2 β}(c:Nat.blt d n=true)(e:QP S ox=some (.string<|bs s))(g:QP S oy=some (.string<|bs u))(k:∀z,YB s u=some z->GL μ P ops rest ks Q (Hd n D ((d,.string<|bs z)::S) F hs) (f z) r):GL μ P ops (⟨some d,.binOp .add t ox oy t',ty,pos,after,none⟩::rest) ks Q (Hd n D S F hs) ((YB s u).bind f) r:=
 GG.bind λz b=>by
  unfold YB at b
  split at b
  ·rename_i h;simp only[UV] at b
   subst b;exact GG.val c (λa w i=>vk i.1 e g h)<|k _ (by unfold YB;rw[Bm h])
  ·cases b
theorem GG.sG(b:Nat.blt d n=true)(c:P.underlying t=some .string)(e:QP S ox=some (.string<|bs s))(f:QP S oy=some (.string<|bs u))(k:GL μ P ops rest ks Q (Hd n D ((d,.bool<|s==u)::S) F hs) m r):GL μ P ops (⟨some d,.binOp .eql t ox oy t',ty,pos,after,none⟩::rest) ks Q (Hd n D S F hs) m r:=GG.val b (λa w g=>wx g.1 c e f) k
theorem GG.ny(b:Nat.blt d n=true)(c:P.underlying t=some .string)(e:QP S ox=some (.string<|bs s))(f:QP S oy=some (.string<|bs u))(k:GL μ P ops rest ks Q (Hd n D ((d,.bool<|!(s==u))::S) F hs) m r):GL μ P ops (⟨some d,.binOp .neq t ox oy t',ty,pos,after,none⟩::rest) ks Q (Hd n D S F hs) m r:=GG.val b (λa w g=>wv g.1 c e f) k
theorem GG.cy{T:S1 A4}(b:Nat.blt d n=true)(c:T[0]? =some t)(e:P.underlying t=some .string)(f:QP S ox=some (.string<|bs s))(k:GL μ P ops rest ks Q (Hd n D ((d,.int .i64 s.length)::S) F hs) m r):GL μ P ops (⟨some d,.call ⟨.builtin .len,#[ox],T⟩,ty,pos,after,none⟩::rest) ks Q (Hd n D S F hs) m r:=GG.val b (λa w g=>vf g.1 c e f) k
theorem GG.aS{f:DO->Q2 β}(e:Nat.blt d n=true)(g:P.underlying t=some .string)(h:QP S ox=some (.string<|bs s))(i:QP S oy=some (.int kd x))(k:∀c,ZW s x=some c->GL μ P ops rest ks Q (Hd n D ((d,.int .u8 (c.toNat:Int))::S) F hs) (f c) r):GL μ P ops (⟨some d,.index t ox oy,ty,pos,after,none⟩::rest) ks Q (Hd n D S F hs) ((ZW s x).bind f) r:=GG.bind λc b=>GG.val e (λa w j=>vg j.1 g h i b)<|k c b
theorem GG.nT{f:Q0 DO->Q2 β}(b:Nat.blt d n=true)(c:P.underlying t=some .string)(e:QP S ox=some (.string<|bs s))(g:QP S oy=some (.int kd x))(i:QP S oz=some (.int kd' y))(k:∀z,ZV s x y=some z->GL μ P ops rest ks Q (Hd n D ((d,.string<|bs z)::S) F hs) (f z) r):GL μ P ops (⟨some d,.slice t ox (some oy) (some oz) none,ty,pos,after,none⟩::rest) ks Q (Hd n D S F hs) ((ZV s x y).bind f) r:=GG.bind λz h=>GG.val b (λa w j=>vj j.1 c e g i h)<|k z h
theorem GG.rb{f:Q0 DO->Q2 β}(b:Nat.blt d n=true)(c:P.underlying t=some .string)(e:QP S ox=some (.string<|bs s))(g:QP S oz=some (.int kd' y))(k:∀z,ZV s 0 y=some z->GL μ P ops rest ks Q (Hd n D ((d,.string<|bs z)::S) F hs) (f z) r):GL μ P ops (⟨some d,.slice t ox none (some oz) none,ty,pos,after,none⟩::rest) ks Q (Hd n D S F hs) ((ZV s 0 y).bind f) r:=GG.bind λz h=>GG.val b (λa w i=>L5 i.1 c e g h)<|k z h
theorem GG.encStr(b:Nat.blt d n=true)(c:P.underlying t=some (.int kd))(e:P.underlying t' =some .string)(f:QP S ox=some (.int kd x))(k:GL μ P ops rest ks Q (Hd n D ((d,.string<|bs<|encS x)::S) F hs) m r):GL μ P ops (⟨some d,.convert t t' ox,ty,pos,after,none⟩::rest) ks Q (Hd n D S F hs) m r:=GG.val b (λa w g=>vi g.1 c e f) k
end
end
end
section
section
variable{O:Q2 Nat}{μ:Md}
section
variable{β:Type}{P:C1}{ops:S1 Rw}{rest:Q0 Rw}{ks:Q0 Kt}{Q:gw->Act->B1->Prop}{m:Q2 β}{r:β}
variable{n:Nat}{D:Q0 TO}{S:Q0 (Nat×K2)}{F F0:Fz}{hs:Q0 HP}{d e cap T:Nat}{p:Q2 C3}{l:Q0 Int}{ty t t' :A4}{pos:String}{after:S1 ll}{ox oy oz:IR}{kd kd' :mX}{x y:Int}{s u:Q0 DO}
theorem GG.rB{z:Q0 DO}(h:ZV s 0 y=some z)(b:Nat.blt d n=true)(c:P.underlying t=some .string)(f:QP S ox=some (.string<|bs s))(g:QP S oz=some (.int kd' y))(k:GL μ P ops rest ks Q (Hd n D ((d,.string<|bs z)::S) F hs) m r):GL μ P ops (⟨some d,.slice t ox none (some oz) none,ty,pos,after,none⟩::rest) ks Q (Hd n D S F hs) m r:=GG.val b (λa w i=>L5 i.1 c f g h) k
def XN(s:Q0 DO):Q0 Int:=s.map λc=>(c.toNat:Int)
theorem GG.pW(A:Nat.blt d n=true)(B:P.underlying t=some .string)(C:P.underlying t' =some (.slice e))(E:P.underlying e=some (.int .u8))(j:QP S ox=some (.string<|bs s))(K:s.length<=4294967296)
  (k:∀o p cap,F<=o->QG 1 (Ex<|KG .u8) o p cap (XN s)->GL O P ops rest ks Q (Hd n D ((d,.slice p (XN s).length cap)::S) o hs) m r):GL O P ops (⟨some d,.convert t t' ox,ty,pos,after,none⟩::rest) ks Q (Hd n D S F hs) m r:=by
 refine GG.step rfl (.inr rfl) λG a w q=> ?_;have f:=run_bytes_of_string (P:=P) w t t' e (bs s) B C E;have g:=grownCap_ge w (bs s).size 0 e;have h:=grownCap_le_maxLen w (bs s).size 0 e (by rw[Dc];unfold maxLen;omega);generalize grownCap w (bs s).size 0 e=cap at f g h
 obtain⟨le,v⟩:=SH.tA (q.2.drew<|w.drawn+1)<|.cells (bytesRow (bs s) cap) e ((bytesRow (bs s) cap).size,(bytesRow (bs s) cap).size+1);have b:(XN s).length=s.length:=by simp[XN]
 have H:QG 1 (Ex<|KG .u8) (F.add w.heap.size<|.cells (bytesRow (bs s) cap) e ((bytesRow (bs s) cap).size,(bytesRow (bs s) cap).size+1)) (some ⟨w.heap.size,0,none⟩) cap (XN s):=by
  refine⟨by rw[b];exact g,by unfold maxLen at h;omega,.inr ⟨_,_,_,_,_,rfl,Fz.cx _ _ _,λi x j o _=> ?_⟩⟩;have hi:i < s.length:=by rw[<-b];exact(Do.1 j).1
  simp only[XN,hP,C2 hi,E4,UV] at j
  subst j;show((bytesRow (bs s) cap).toList.drop<|0+i*1).take 1=[.int .u8 _]
  have I:(bytesRow (bs s) cap).toList=s.map (λc=>Value.int .u8 c.toNat)++List.replicate (cap - (bs s).size) (.int .u8 0):=by
   simp[bytesRow,bs]
  rw[I,sf,ej,ld zg,x2<|by simpa using hi];simp
 refine⟨_,_,by simp only[execOp,q.1.eval j,wt,f];rfl,?_⟩;have z:=k _ _ _ le H G;rw[b] at z
 exact z _ _ ⟨q.1.put A _,v⟩
theorem GG.pK{f:Q0 DO->Q2 β}(g:Nat.blt d n=true)(i:P.underlying t=some .string)(j:P.underlying t' =some (.slice e))(o:P.underlying e=some (.int .u8))(q:QP S ox=some (.string<|bs s))
  (k:∀z b p cap,YB [] s=some z->F<=b->QG 1 (Ex<|KG .u8) b p cap (XN z)->GL O P ops rest ks Q (Hd n D ((d,.slice p (XN z).length cap)::S) b hs) (f z) r):GL O P ops (⟨some d,.convert t t' ox,ty,pos,after,none⟩::rest) ks Q (Hd n D S F hs) ((YB [] s).bind f) r:=
 GG.bind λz a=>by
  have c:=a;unfold YB at a
  split at a
  ·rename_i h;simp only[me,UV] at a
   subst a;simp only[hF,sf] at h
   exact GG.pW g i j o q h λb p cap le v=>k _ b p cap c le v
  ·cases a
end
end
end
section
open Go.RowKit
variable{O:Q2 Nat}{μ:Md}
def Nu:S1 K2:=(Go.Lib.pow10Tab.map λz=>Value.int .u64 z).toArray
def xu(P:C1)(F:Fz)(name:String)(cs:S1 K2):Prop:=∃g T fr,P.globalNamed name=some g/\F.mem g=some (.cells cs T fr)
theorem xu.mono{P:C1}{F a:Fz}{name:String}{cs:S1 K2}(h:xu P F name cs)(le:F<=a):xu P a name cs:=let⟨g,T,fr,b,c⟩:=h;⟨g,T,fr,b,le.mem _ _ c⟩
section
variable{β:Type}{P:C1}{ops:S1 Rw}{rest:Q0 Rw}{ks:Q0 Kt}{Q:gw->Act->B1->Prop}{m:Q2 β}{r:β}
variable{n:Nat}{D:Q0 TO}{S:Q0 (Nat×K2)}{F:Fz}{hs:Q0 HP}
variable{d:Nat}{ty t t2 e:A4}{pos:String}{after:S1 ll}{ox oy oz:IR}{v:K2}{kd:mX}{x:Int}
theorem TX{α:Type}:∀{l:Q0 α} {i:Nat} {x:α},l[i]? =some x->l.set i x=l
 | [],_,_,h=>by simp at h
 | a::l,0,x,h=>by simp at h;subst h;rfl
 | a::l,i+1,x,h=>by simp at h ⊢;exact TX h
end
end
section
def Fz.del(F:Fz)(b:Nat):Fz:={F with mem:=λk=>if k=b then none else F.mem k}
theorem SH.nj{w:B1}{F:Fz}{b:Nat}{o:Obj}{H:HP}(h:SH w F H)(f:F.mem b=some o):SH w (F.del b) (star (pt b o) H):=by
 obtain⟨m,g,k⟩:=h
 have d:m (.blk b)=none:=by
  rcases k.dj b with h | h
  ·exact h
  ·rw[f] at h;cases h
 refine⟨m.set (.blk b)<|.obj o,Cx d g,?_,?_,?_,?_,k.os,k.tape,k.out⟩
 ·intro x;by_cases e:x=b
  ·subst e;exact .inr<|by simp[Fz.del]
  ·rcases k.dj x with h | h
   ·exact .inl<|by simpa[Mem.set,e] using h
   ·exact .inr<|by simpa[Fz.del,e] using h
 ·intro x c e;by_cases a:x=b
  ·subst a;simp[Mem.set] at e;subst e;exact⟨o,rfl,k.frz _ _ f⟩
  ·simp[Mem.set,a] at e;exact k.own x c e
 ·intro γ c e;exact k.gst γ c<|by simpa[Mem.set] using e
 ·intro x c e;by_cases a:x=b
  ·subst a;simp[Fz.del] at e
  ·exact k.frz x c<|by simpa[Fz.del,a] using e
end
section
abbrev bq:=Nat->Int
end
section
variable{α:Type}{c:U2 α}{l:Q0 α}{cap sz e:Nat}{F0:Fz}
section
variable{β:Type}{P:C1}{O:Q2 Nat}{ops:S1 Rw}{rest:Q0 Rw}{ks:Q0 Kt}{Q:gw->Act->B1->Prop}{m:Q2 β}{r:β}
variable{n:Nat}{D:Q0 TO}{S:Q0 (Nat×K2)}{F:Fz}{hs:Q0 HP}{d:Nat}{ty:A4}{pos:String}{after:S1 ll}{T:S1 A4}
theorem QG.mA{b:Nat}{cs:Q0 K2}{l2:Q0 α}(le:F0<=F)(f:F<=F.add b (.cells cs.toArray e (0,0)))(s:l.length<=cap)(h:cap<=9223372036854775807)(g:Je sz c F0 l cs)(i:∃k,l2=l.take k):QG sz c (F.add b<|.cells cs.toArray e (0,0)) (some ⟨b,0,none⟩) cap l2:=by
 obtain⟨q,rfl⟩:=i;refine⟨by rw[el];omega,h,.inr ⟨b,0,cs.toArray,e,(0,0),rfl,Fz.cx _ _ _,λj x a o p=> ?_⟩⟩;rw[yb] at a
 split at a
 ·simpa using g j x a o (Fz.t le<|Fz.t f p)
 ·cases a
theorem GG.mB{p:Q2 C3}{G:ln}(i:Nat)(hi:hs[i]? =some (Qm sz c F0 e p cap l))(v:F0<=F)
  (k:∀t,F<=t->QG sz c t p cap l->(∀g w f,t<=g->SH w g (Qg f)->∃q,F<=q/\SH w q (Qg<|Qm sz c F0 e p cap l::f))->GC O P G ks Q (Hd n D S t<|hs.eraseIdx i) m r):GC O P G ks Q (Hd n D S F hs) m r:=
 λo a w u=>by
  have N:=u.2.pull hi;obtain⟨R,⟨V,W,X,H,Y,⟨I,K,Z⟩,hq⟩,L⟩:=N;rcases Z with⟨rfl,rfl⟩ | ⟨b,cs,rfl,M,hl,s⟩
  ·have e1:l=[]:=Nm qz;subst e1;refine k F (Fz.le_refl _) ⟨by simp,by simp,.inl rfl⟩ (λg w f le h=>⟨g,le,h.mono λm o=> ?_⟩) o a w ⟨u.1,u.2.sF i⟩;exact⟨λ_=>none,m,λ_=>.inl rfl,λ_ _ e=>by simp at e,Mem.sub.refl _,PQ,o⟩
  ·have hh:SH w F (star (pt b<|.cells cs.toArray e (0,0))<|Qg<|hs.eraseIdx i):=⟨R,⟨V,W,X,H,Y,M,hq⟩,L⟩
   have y:F.mem b=none:=by
    rcases L.dj b with h | h
    ·have:=H _ _ M;rw[h] at this;cases this
    ·exact h
   obtain⟨j,z⟩:=hh.freeze;refine k _ j (QG.mA v j I K s ⟨l.length,by simp⟩) (λg w' f le hw=> ?_) o a w ⟨u.1,z⟩;have A:=le.mem _ _<|Fz.cx F b<|.cells cs.toArray e (0,0)
   have B:F<=g.del b:=⟨le.os,le.tape,le.out,λk x C=>by
    have hk:k≠b:=λe=>by rw[e,y] at C;cases C
    simp only[Fz.del,hk,By];exact le.mem _ _<|j.mem _ _ C,le.gh,le.gn⟩
   exact⟨g.del b,B,(hw.nj A).mono λ_ o=>QR (λm' E=>⟨I,K,.inr ⟨b,cs,rfl,E,hl,s⟩⟩) o⟩
theorem GG.sw{γ:Type}{p:Q2 C3}{l2:Q0 α}{f:L3}{caps u vs:Q0 K2}{of:IR}{os:Q0 IR}{C:Q2 γ}{ρ:γ->Fz->K2->Prop}{g:γ->Q2 β}(ρ' :γ->K2->Prop)(i:Nat)(hi:hs[i]? =some (Qm sz c F0 e p cap l))(E:F0<=F)(z:∃k,l2=l.take k)(W:Nat.blt d n=true)
  (o:∀args w,(callFunc f args).run P w= .ok (.enter f args) w) (hf:QP S of=some (.func (.func f) #[] caps.toArray)) (ha:Uk S os=some vs) (has:vs++caps=u)
  (X:∀G,F<=G->QG sz c G p cap l2->Z9 P f u.toArray G C ρ) (hρ:∀x j v,ρ x j v->ρ' x v)
  (k:∀x j v,C=some x->F<=j->ρ' x v->GL O P ops rest ks Q (Hd n D ((d,v)::S) j hs) (g x) r):GL O P ops (⟨some d,.call ⟨.value of,os.toArray,T⟩,ty,pos,after,none⟩::rest) ks Q (Hd n D S F hs) (C.bind g) r:=
 GG.su rfl (.inr rfl) λs a w A=>by
  subst has;refine⟨Wx A.1 o hf ha,?_⟩;cases he:C with
  | none=>rw[he] at s;cases s
  | some y=>
   rw[he] at s
   have hp:=A.2.pull hi;obtain⟨mm,⟨m1,m2,dd,Y,s2,⟨Z,h2,h3⟩,hq⟩,kk⟩:=hp;rcases h3 with⟨rfl,rfl⟩ | ⟨b,cs,rfl,hb,hl,B⟩
   ·have e1:l2=[]:=by
     obtain⟨q,rfl⟩:=z;rw[Nm (l:=l) qz];simp
    subst e1;refine((X F (Fz.le_refl _) ⟨by simp,by simp,.inl rfl⟩) y he w _ A.2).mono ?_;rintro _ w' ⟨j,v,le,rfl,H,I⟩;exact⟨_,rfl,k y j v he le (hρ _ _ _ H) s _ _ ⟨A.1.put W _,I⟩⟩
   ·have hh:SH w F (star (pt b<|.cells cs.toArray e (0,0))<|Qg<|hs.eraseIdx i):=⟨mm,⟨m1,m2,dd,Y,s2,hb,hq⟩,kk⟩
    have K:F.mem b=none:=by
     rcases kk.dj b with h | h
     ·have:=Y _ _ hb;rw[h] at this;cases this
     ·exact h
    obtain⟨t,L⟩:=hh.freeze;refine(X _ t (QG.mA E t Z h2 B z) y he w _ L).mono ?_;rintro _ w' ⟨j,v,le,rfl,H,I⟩;have M:=le.mem _ _<|Fz.cx F b<|.cells cs.toArray e (0,0)
    have N:F<=j.del b:=⟨le.os,le.tape,le.out,λk x R=>by
     have hk:k≠b:=λe=>by rw[e,K] at R;cases R
     simp only[Fz.del,hk,By];exact le.mem _ _<|t.mem _ _ R,le.gh,le.gn⟩
    refine⟨_,rfl,k y (j.del b) v he N (hρ _ _ _ H) s _ _ ⟨A.1.put W _,?_⟩⟩;have h5:=I.nj M;have h6:SH w' (j.del b) (star (Qm sz c F0 e (some ⟨b,0,none⟩) cap l)<|Qg<|hs.eraseIdx i):=h5.mono λ_ s=>QR (λm' V=>⟨Z,h2,.inr ⟨b,cs,rfl,V,hl,B⟩⟩) s;have h7:=SH.push hi h6
    rwa[TX hi] at h7
end
end
end Go.Dec
end
