/- For OfficeBonds. -/
import Derived.Test.YtdoocboganbagaaGreatDoorPb1
import Derived.Shelf.SlIterI.Nil
import Derived.Scope
import Derived.Laws.Strings
import Derived.Laws.BytesArg
import Derived.Laws.IdiomStrings
import Derived.Laws.AppendOwn
import Derived.Lib.AppendIntMem
import Derived.Lib.BufferKept
noncomputable section
namespace Go.Dec
abbrev H1:=@UInt8
abbrev T2:=@List.mem_of_getElem?
abbrev s6:=@List.getD_eq_getElem?_getD
abbrev oO:=@Nat.zero_le
abbrev oP:=@Nat.mul_one
abbrev ib:=@List.getElem?_zip_eq_some
abbrev qAB:=@List.mem_append_left
end Go.Dec
namespace Go.Dec
section
variable{V:Type}{rv:Fz->V->UV->Prop}{P:B3}{k:S1}{F:Fz}{w:By}
variable{O:K1 Nat}{μ:Md}
open Go.Maps Go.WideElems Go.RowKit Go.MapKept Go.WideShapes
theorem SH.below{w':By}{H:HP}(h:SH w F H)(d:Below w.heap.size w w'):SH w' F H:=by
 obtain⟨m,a,k⟩:=h;refine⟨m,a,k.dj,λb c e=> ?_,k.gst,λb o e=> ?_,d.os.trans k.os,d.tape.trans k.tape,d.output.trans k.out⟩
 ·obtain⟨o,g,f⟩:=k.own b c e;exact⟨o,g,(d.block b<|lt_of_heap f).trans f⟩
 ·have:=k.frz b o e;exact(d.block b<|lt_of_heap this).trans this
theorem SH.pN{w':By}{H:HP}{g:Nat}{o:Obj}(h:SH w F H)(f:Below w.heap.size w w')(r:w.heap.size<=g)(l:w'.heap[g]? =some o):F<=F.add g o/\SH w' (F.add g o) H:=by
 have h' :=h.below f;obtain⟨m,a,k⟩:=h;obtain⟨s,t,i⟩:=h'
 have n:F.mem g=none:=by
  cases e:F.mem g with
  | none=>rfl
  | some x=>have:=lt_of_heap<|k.frz g x e;omega
 have p:m (.blk g)=none:=by
  cases e:m (.blk g) with
  | none=>rfl
  | some x=>obtain⟨o',_,d⟩:=k.own g x e;have:=lt_of_heap d;omega
 refine⟨Fz.pg n,m,a,λb=> ?_,λb c e=> ?_,k.gst,λb x e=> ?_,i.os,i.tape,i.out⟩
 ·show m (.blk b)=none∨Rx F.mem g o b=none;by_cases e:b=g
  ·subst e;exact .inl p
  ·rcases k.dj b with h | h
   ·exact .inl h
   ·exact .inr<|by simpa[Rx,e] using h
 ·obtain⟨o',q,d⟩:=k.own b c e;exact⟨o',q,(f.block b<|lt_of_heap d).trans d⟩
 ·by_cases j:b=g
  ·subst j;have:(F.add b o).mem b=some o:=Fz.cv F b o;rw[this] at e;cases e;exact l
  ·have:F.mem b=some x:=by simpa[Fz.add,Rx,j] using e
   exact(f.block b<|lt_of_heap<|k.frz b x this).trans<|k.frz b x this
def Gy(l:Q0 (Int×V)):K1 (Q0 Int):=if l.all (λx=>decide<|-9223372036854775808<=x.1/\x.1<=9223372036854775807)=true/\l.length<=1000000 then some ((l.map Prod.fst).mergeSort λa b=>decide<|a<=b) else none
abbrev T3:Int->UV:=λx=>.int .i64 x
abbrev qM:UV->K1 (DataW Unit×Q0 MemPlace):=λ_=>some (.nil,[])
theorem keyOf_int(a:P.underlying k=some (.int .i64)){x:Int}(h: -9223372036854775808<=x/\x<=9223372036854775807):keyOf P k (T3 x)=some (.int .i64 x):=by
 have b:(Lit.int .i64 x).wf=true:=by
  simp[Lit.wf,IntKind.min,IntKind.max,IntKind.bits,IntKind.signed];omega
 simp[keyOf,a,mapKey,b]
theorem gX(a:P.underlying k=some (.int .i64)){x:Int}{e:gw}(he:e.key=T3 x)(h: -9223372036854775808<=x/\x<=9223372036854775807):rd P k qM e=some (.int .i64 x,.nil):=by
 unfold rd;rw[he,keyOf_int a h];rfl
theorem Uv.keys(b:P.underlying k=some (.int .i64)):∀{es:Q0 gw} {l:Q0 (Int×V)},Uv T3 rv F es l->(∀x∈l,(-9223372036854775808<=x.1/\x.1<=9223372036854775807))->(es.map<|rg P k qM).map (λp=>intOf p.1)=l.map Prod.fst/\(∀e∈es,∃y,rd P k qM e=some y)/\es.map (·.key)=l.map (λx=>T3 x.1)
 | [],[],_,_=>⟨rfl,by simp,rfl⟩
 | e::es,x::l,⟨c,_,g⟩,d=>by
  obtain⟨i,j,m⟩:=g.keys b λy n=>d y<|L3 _ n;have f:=gX b c (d x eF);refine⟨?_,?_,?_⟩
  ·simp only[E4,i,rg_of f];rfl
  ·intro o a;rcases TO.1 a with rfl | h
   ·exact⟨_,f⟩
   ·exact j _ h
  ·simp only[E4,m,c]
theorem w7(o:P.underlying k=some (.int .i64)){b clock:Nat}{es:So gw}{l' l:Q0 (Int×V)}(q:w.heap[b]? =some (.map es clock))(m:Uv T3 rv F es.toList l')(c:Ya es.toList clock)(g:l'.Perm l)(r:(l.map Prod.fst).Nodup)
  (d:l.all (λx=>decide<|-9223372036854775808<=x.1/\x.1<=9223372036854775807)=true) (n:l.length<=1000000):∃D:DataW Unit,w.ownsMap P k qM b es.size D/\(intKeys D).Perm (l.map Prod.fst)/\Maps.size D=l.length:=by
 have i:∀x∈l',(-9223372036854775808<=x.1/\x.1<=9223372036854775807):=λx s=>by
  have:=IN.1 d x<|g.mem_iff.1 s;simpa using this
 obtain⟨t,u,v⟩:=m.keys o i;have f:es.size=l.length:=by rw[<-g.length_eq,<-m.len];simp
 refine⟨.map<|(es.toList.map<|rg P k qM).foldr DataW.insert [],⟨es,clock,q,⟨by rw[f];unfold maxLen;omega,⟨c.2,c.1.imp λh=>iB h,?_⟩,u⟩,S2 _,rfl⟩,?_,?_⟩
 ·rw[v];have y:(l'.map Prod.fst).Nodup:=((g.map Prod.fst).nodup_iff).2 r;have e:l'.map (λx=>T3 x.1)=(l'.map Prod.fst).map T3:=by rw[lJ];rfl
  rw[e];exact y.map _ λa b j e=>j<|by simpa[T3] using e
 ·show(((es.toList.map<|rg P k qM).foldr DataW.insert []).map λp=>intOf p.1).Perm _;refine((sorted_perm _).map _).trans ?_;rw[t];exact g.map _
 ·show((es.toList.map<|rg P k qM).foldr DataW.insert []).length=_;rw[(sorted_perm _).length_eq];simpa using f
theorem kr{a b:Q0 Int}(h:a.Perm b):a.mergeSort (λx y=>decide<|x<=y)=b.mergeSort (λx y=>decide<|x<=y):=mergeSort_of_perm_i h
def DH(P:B3)(d g:Rw)(k T:S1):Prop:=
 (∀(b f:Nat) (D:DataW Unit) (a:Nat) (w:By),a < w.heap.size->w.cell? ⟨a,0,none⟩=some (.map<|some b)->w.ownsMap P k qM b f D->Maps.size D<=1000000->
  Calls P d #[.func (.func g) #[] #[.pointer<|some ⟨a,0,none⟩]] w λe w' =>∃(v:UV) (c:Q0 Int),e= .returned v/\c.Perm (intKeys D)/\w'.ownsRow w.heap.size T 1 v c.length ((c.mergeSort λx y=>decide<|x<=y).map encZ)/\(v= .slice none 0 0↔c=[])/\Below w.heap.size w w')/\
 (∀(a:Nat) (w:By),a < w.heap.size->w.cell? ⟨a,0,none⟩=some (.map none)->Calls P d #[.func (.func g) #[] #[.pointer<|some ⟨a,0,none⟩]] w λe w' =>e= .returned (.slice none 0 0)/\Below w.heap.size w w')
def KeysOf(P:B3)(b g:Rw)(T:S1):Prop:=∀a W,Calls P b #[.map a] W λe w' =>e= .returned (.func (.func g) #[] #[.pointer<|some ⟨W.heap.size,0,none⟩])/\w' =W.alloc (.cells #[.map a] T)
section
variable{β:Type}{P:B3}{eG:So Nm}{rest:Q0 Nm}{ks:Q0 Kt}{Q:hP->Act->By->Prop}{m:K1 β}{r:β}
variable{n:Nat}{D:Q0 AC}{S:Q0 (Nat×UV)}{F F0:Fz}{hs:Q0 HP}{d:Nat}{ty k T T' :S1}{pos:String}{after:So lY}{ox of:L5}{Ty:So S1}{fs fk g:Rw}
variable{V:Type}{rv:Fz->V->UV->Prop}{b γ j:Nat}{l:Q0 (Int×V)}{xs:Q0 (Q0<|Int×V)}{p x:K1 Nat}
theorem GG.tz(i:KeysOf P fk g T)(o:Nat.blt d n=true)(c:∀args w,(callFunc fk args).run P w= .ok (.enter fk args) w)(q:QQ S of=some (.func (.func fk) #[] #[]))(s:QQ S ox=some (.map p))
  (K:∀b e,F<=e->e.mem b=some (.cells #[.map p] T)->GL O P eG rest ks Q (Hd n D ((d,.func (.func g) #[] #[.pointer<|some ⟨b,0,none⟩])::S) e hs) m r):GL O P eG (⟨some d,.call ⟨.value of,#[ox],Ty⟩,ty,pos,after,none⟩::rest) ks Q (Hd n D S F hs) m r:=
 GG.sq rfl (.inr rfl) λt a w f=>by
  refine⟨Wy (os:=[ox]) (eb:=[]) (vs:=[.map p]) f.1 c q (by simp[Un,s]),(i p w).mono ?_⟩;rintro _ w' ⟨rfl,rfl⟩;obtain⟨le,h⟩:=f.2.a6<|.cells #[.map p] T;exact⟨_,rfl,K w.heap.size _ le (Fz.cv ..) t _ _ ⟨f.1.put o _,h⟩⟩
theorem GG.rI{c:Uo Int}{f:Q0 Int->K1 β}(Y:P.underlying k=some (.int .i64))(aA:DH P fs g k k)(hc:∀F x,c F x [.int .i64 x]){L:Nat}(hB:F.mem L=some (.cells #[.map p] T))(i:Nat)(hi:hs[i]? =some (ZD γ (QZ T3 rv) F0 xs))(hb:UB γ F j b)(hp:p=some b)(aB:xs[j]? =some l)
  (hd:Nat.blt d n=true) (B:∀args w,(callFunc fs args).run P w= .ok (.enter fs args) w) (hf:QQ S of=some (.func (.func fs) #[] #[])) (Z:QQ S ox=some (.func (.func g) #[] #[.pointer<|some ⟨L,0,none⟩]))
  (K:∀e M p' cap,Gy l=some e->F<=M->QG 1 c M p' cap e->GL O P eG rest ks Q (Hd n D ((d,.slice p' e.length cap)::S) M hs) (f e) r):GL O P eG (⟨some d,.call ⟨.value of,#[ox],Ty⟩,ty,pos,after,none⟩::rest) ks Q (Hd n D S F hs) ((Gy l).bind f) r:=by
 refine GG.bind λe o=> ?_;have K' :=K e;refine GG.sq (f:=fs) (args:=#[.func (.func g) #[] #[.pointer<|some ⟨L,0,none⟩]]) rfl (.inr rfl) λhm a w C=> ?_;refine⟨Wy (os:=[ox]) (eb:=[]) (vs:=[.func (.func g) #[] #[.pointer<|some ⟨L,0,none⟩]]) C.1 B hf (by simp[Un,Z]),?_⟩;subst hp;have t:=o;unfold Gy at o
 split at o
 ·rename_i E;obtain⟨N,R⟩:=E;simp only[W1] at o
  obtain⟨es,cl,l',aC,hn,G,hr,aD⟩:=(C.2.pull hi).ae hb aB;obtain⟨D0,W,H,aE⟩:=w7 Y G hr aD aC hn N R;have X:=C.2.frozen hB;refine(aA.1 b _ D0 L w (lt_of_heap X) (by simp[World.cell?,X]) W eB).mono ?_;rintro _ w' ⟨v,ss,rfl,aF,⟨aZ,u⟩,aN,A⟩;have s:ss.mergeSort (λx y=>decide<|x<=y)=e:=by rw[<-o];exact kr<|aF.trans H
  have h:e.length=ss.length:=by rw[<-s];simp
  rw[s] at u
  rcases u with⟨rfl,h0⟩ | ⟨gb,cap,cur,rfl,I,aG,r1,r2,r3,r4⟩
  ·have aH:e=[]:=RW (by rw[h,h0]);subst aH;exact⟨_,rfl,K' F none 0 t (Fz.le_refl F) QG.nil hm _ _ ⟨C.1.put hd _,C.2.below A⟩⟩
  ·obtain⟨le,h2⟩:=C.2.pN A I aG;have Y:=K' _ (some ⟨gb,0,none⟩) cap t le ⟨by rw[h];exact r1,by unfold maxLen at r2;omega,.inr ⟨gb,0,cur,_,_,rfl,Fz.cv ..,λq x Z M _=> ?_⟩⟩
   ·rw[h] at Y
    exact⟨_,rfl,Y hm _ _ ⟨C.1.put hd _,h2⟩⟩
   ·have hq:=Zx Z;rw[h] at hq
    have:(cur.toList.drop<|0+q*1).take 1=[.int .i64 x]:=by
     have e1:cur.toList[q]? =some (.int .i64 x):=by
      have h3:=congrArg (λz=>z[q]?) r4;simp only[yb,x8,Z] at h3
      rw[BY eB] at h3
      simpa[encZ] using h3
     simp only[dO,oP];rw[u2 (DO.1 e1).1];have e2:=(DO.1 e1).2;simp[e2]
    rw[this];exact hc M x
 ·cases o
def UC(A:Q0 (Q0<|Int×V))(x:K1 Nat):K1 (Q0 Int):=match x with
 | none=>some []
 | some i=>(A[i]?).bind Gy
theorem GG.aX{c:Uo Int}{f:Q0 Int->K1 β}(L:P.underlying k=some (.int .i64))(t:DH P fs g k k)(M:∀F x,c F x [.int .i64 x]){u:Nat}(E:F.mem u=some (.cells #[.map p] T))(i:Nat)(hi:hs[i]? =some (ZD γ (QZ T3 rv) F0 xs))(h:Z3 γ F p x)
  (G:Nat.blt d n=true) (o:∀args w,(callFunc fs args).run P w= .ok (.enter fs args) w) (H:QQ S of=some (.func (.func fs) #[] #[])) (I:QQ S ox=some (.func (.func g) #[] #[.pointer<|some ⟨u,0,none⟩]))
  (K:∀q A p' cap,UC xs x=some q->F<=A->QG 1 c A p' cap q->GL O P eG rest ks Q (Hd n D ((d,.slice p' q.length cap)::S) A hs) (f q) r):GL O P eG (⟨some d,.call ⟨.value of,#[ox],Ty⟩,ty,pos,after,none⟩::rest) ks Q (Hd n D S F hs) ((UC xs x).bind f) r:=by
 cases x with
 | some j=>
  obtain⟨b,N,B⟩:=h;cases s:xs[j]? with
  | none=>intro C;simp[UC,s] at C
  | some l=>
   have e:UC xs (some j)=Gy l:=by simp[UC,s]
   rw[e] at K ⊢
   exact GG.rI L t M E i hi N B s G o H I K
 | none=>
  have B:p=none:=h;subst B;have R:=K [] F none 0 rfl (Fz.le_refl F) QG.nil;refine GG.sq (m:=f []) (f:=fs) (args:=#[.func (.func g) #[] #[.pointer<|some ⟨u,0,none⟩]]) rfl (.inr rfl) λC a w z=> ?_;refine⟨Wy (os:=[ox]) (eb:=[]) (vs:=[.func (.func g) #[] #[.pointer<|some ⟨u,0,none⟩]]) z.1 o H (by simp[Un,I]),?_⟩;have v:=z.2.frozen E;refine(t.2 u w (lt_of_heap v)<|by simp[World.cell?,v]).mono ?_;rintro _ w' ⟨rfl,y⟩;exact⟨_,rfl,R C _ _ ⟨z.1.put G _,z.2.below y⟩⟩
end
end
section
variable{α:Type}
theorem PO{p q:HP}{m:Mem}(h:star p q m):star q p m:=by
 obtain⟨a,b,d,c,e,f,g⟩:=h;exact⟨b,a,d.symm,e,c,g,f⟩
theorem Wq{p q:HP}{m:Mem}(h:star (Qh [p]) q m):star p q m:=by
 obtain⟨k,e,d,f,g,⟨a,b,_,c,_,i,_⟩,j⟩:=h;exact⟨a,e,d.sub c<|Mem.sub.refl _,c.trans f,g,i,j⟩
def zI(P:B3)(F:Fz)(f:Rw)(eb:Q0 UV)(arg:α->Fz->Q0 UV->Prop)(Hs:Fz->Q0 HP)(l:Q0 α):Prop:=
 (∀args w,(callFunc f args).run P w= .ok (.enter f args) w)/\
 ∀(σ:Type) (b:Nat) (Y:σ->Fz->HP) (y:α->σ->K1 (σ×Bool)) (a:Fz),F<=a->WJ P b a arg Y y->∀s,Xs P f (.func (.yield b) #[] #[]::eb).toArray a (Hs a++[Y s a]) (WG y l s) (λ_ _ _=>True) λd c=>Hs c++[Y d c]
theorem zI.mk'{P:B3}{F:Fz}{f:Rw}{eb:Q0 UV}{arg:α->Fz->Q0 UV->Prop}{Hs:Fz->Q0 HP}{l:Q0 α}(d:∀args w,(callFunc f args).run P w= .ok (.enter f args) w)
  (e:∀(σ:Type) (b:Nat) (Y:σ->Fz->HP) (y:α->σ->K1 (σ×Bool)) (a:Fz),F<=a->WJ P b a arg Y y->∀s,∃m,Xs P f (.func (.yield b) #[] #[]::eb).toArray a (Hs a++[Y s a]) m (λ_ _ _=>True) (λg c=>Hs c++[Y g c])/\∀r,WG y l s=some r->m=some r):zI P F f eb arg Hs l:=
 ⟨d,λσ b Y y a le i s r j=>let⟨_,h,k⟩:=e σ b Y y a le i s;h r (k r j)⟩
section
variable{β:Type}{P:B3}{ks:Q0 Kt}{Q:hP->Act->By->Prop}{r:β}{n:Nat}{D:Q0 AC}{S:Q0 (Nat×UV)}{F:Fz}{hs:Q0 HP}
variable{α τ:Type}{g:L5}{ps:Q0 Tmp}{assign body:la}{f:Rw}{eb:Q0 UV}{arg:α->Fz->Q0 UV->Prop}{s0:τ}
theorem GG.pL{l:Q0 α}{bm:α->τ->K1 τ}{k:τ->K1 β}(Hs:Fz->Q0 HP)(is:Q0 Nat)(I:τ->Fz->Q0 HP->Prop)(X:QQ S g=some (.func (.func f) #[] eb.toArray))(u:zI P F f eb arg Hs l)(B:(ps.all λp=>Nat.blt p n)=true)(y:∀x d vs,arg x d vs->vs.length=ps.length)
  (hi:YN is hs=Hs F) (C:I s0 F (YF is hs))
  (round:∀l L F0 o x vs s i R c,F<=F0->F0<=o->arg x o vs->I s F0 c->GC (some l) P assign [] (BP P l body<|RP l L I (fun(_:Empty) _ _=>False) o R<|.next i) (Hd n [] ((ps.zip vs).reverse++S) o<|pt l (UK L)::R::c) (bm x s) i)
  (next:∀q F0 d s c,F<=F0->F0<=d->VB bm l s0=some s->I s F0 c->GE none P ks Q (Hd n (WZ q::D) S d<|pt q (.deferred<|some [])::(Hs d++c)) (k s) r):GC none P (.rangeFunc g ps.toArray assign body) ks Q (Hd n D S F hs) ((VB bm l s0).bind k) r:=by
 intro b a w j;cases z:VB bm l s0 with
 | none=>rw[z] at b;cases b
 | some E=>
  rw[z] at b
  refine og λfn _=> ?_
  let L:Loop:={state:=.ready,pending:=none,fn,tmps:=a.tmps,params:=ps.toArray,assign,body,defers:=w.heap.size}
  let J:Empty->Fz->Q0 HP->Prop:=λ_ _ _=>False
  have G:SH ((w.alloc<|.deferred<|some []).alloc<|.loop L) F (star (Qh<|Hs F++[yS F (w.heap.size+1) L I J (.next s0) F])<|Qh [pt w.heap.size<|.deferred<|some []]):=by
   have t:=(j.2.alloc<|.deferred<|some []).alloc<|.loop L;rw[et] at t
   refine t.mono λm b=> ?_
   have Y:star (pt (w.heap.size+1)<|UK L) (star (pt w.heap.size<|.deferred<|some [])<|star (Qh<|Hs F)<|Qh<|YF is hs) m:=
    QR (λm b=>QR (λm b=>by have:=UJ (ks:=is) b;rw[hi] at this;exact this) b) b
   have A:=PO<|QR (λm b=>Zj b)<|Zj Y;refine QP (λm b=> ?_)<|QR (λm b=>Jy b) A;refine K7<|QR (λm b=>Jy (p:=yS F (w.heap.size+1) L I J (.next s0) F) ⟨F,YF is hs,Fz.le_refl _,Fz.le_refl _,C,b⟩) b
  have Z:WJ P (w.heap.size+1) F arg (yS F (w.heap.size+1) L I J) (jc λx s=>(bm x s).map UQ.next):=by
   refine R7 (S' :=λvs=>(ps.zip vs).reverse++S) (assign:=assign) (body:=body) (λx d vs H=>by rw[y x d vs H];simp[L]) rfl rfl (λvs _=>BA B ⟨j.1.1,rfl,j.1.2.2⟩) ?_;intro F0 o x vs s i R c K t H C h;cases M:bm x s with
   | none=>rw[M] at h;cases h
   | some s' =>
    rw[M] at h
    simp only[L4,W1] at h
    subst h;exact round _ L F0 o x vs s s' R c K t H C M
  have hc:=u.2 _ _ _ _ F (Fz.le_refl F) Z (.next s0) (.next E) (by rw[Fu,BF,z];rfl) _ _ G;refine⟨w.heap.size+1,[WZ w.heap.size],(w.alloc<|.deferred<|some []).alloc<|.loop L,⟨.fn (.func f) eb.toArray,#[.func (.yield<|w.heap.size+1) #[] #[]]⟩,(w.alloc<|.deferred<|some []).alloc<|.loop L,f,(.func (.yield<|w.heap.size+1) #[] #[]::eb).toArray,(w.alloc<|.deferred<|some []).alloc<|.loop L,lx fn a.tmps ps.toArray assign body,?_,λ_ _=>trivial,?_,λe=>(by cases e),?_⟩
  ·have N:a.eval (.const<|.func (.yield<|w.heap.size+1) #[] #[])= .func (.yield<|w.heap.size+1) #[] #[]:=rfl;simp[resolve,Deferred.ofValue,j.1.eval X,N]
  ·simp[invoke,u.1]
  ·refine hQ.2<|hc.mono ?_;rintro _ w' ⟨d,v,le,rfl, -,T⟩
   have V:SH w' d (star (yS F (w.heap.size+1) L I J (.next E) d)<|star (Qh<|Hs d)<|Qh [pt w.heap.size<|.deferred<|some []]):=T.mono λm b=>by
    exact Wq<|Zj<|XN<|QP (λm b=>Yx b) b
   obtain⟨F0,c,K,t,W,A⟩:=SH.sh V;refine⟨none,_,BB<|SH.cf (k:=0) rfl A,?_⟩;have h4:SH _ d (Qh<|pt w.heap.size (.deferred<|some [])::(Hs d++c)):=(SH.sD 0<|SH.putAt (k:=0) rfl A<|Tq L none).mono λm b=>QR (λm b=>K7 b)<|Wq<|Zj<|XN b;exact next w.heap.size F0 d E c K t z W b _ _ ⟨⟨j.1.1,by simp[j.1.2.1],j.1.2.2⟩,h4⟩
end
theorem Hd.cQ{γ:Nat}{C:Fz->Nat->α->HP}{xs:Q0 α}{n:Nat}{D:Q0 AC}{S:Q0 (Nat×UV)}{F F0:Fz}{hs:Q0 HP}{a:Act}{w:By}(i:Nat)(c:HC C)(le:F0<=F)(hi:hs[i]? =some (ZD γ C F0 xs))(b:Hd n D S F hs a w):Hd n D S F (hs.set i<|ZD γ C F xs) a w:=⟨b.1,SH.push hi<|(b.2.pull hi).aL c le⟩
end
section
variable{Q:hP->Act->By->Prop}{vs:Q0 UV}{l:Q0 Nm}{eG:So Nm}{D:Q0 AC}{P:B3}{L:Nat->Bool}{k n d:Nat}{v:UV}{β:Type}{m:K1 β}{ks:Q0 Kt}{hs:Q0 HP}{a0 a b:Act}{o:Nm}
variable{O:K1 Nat}{μ:Md}
def PH(P:B3)(eG:So Nm)(w:By)(o:Nm)(v:UV)(a:Act):Prop:=(Region.wanted o (yielded eG a.tmps)=true/\(execOp a.eval o).run P w= .ok (.value v) w)∨(Region.wanted o (yielded eG a.tmps)=false/\v=undef)
def OY:Act->Q0 Nm->Q0 UV->Act
 | a,o::os,v::vs=>OY (a.put o.dst v) os vs
 | a,_,_=>a
theorem ED:∀{l:Q0 Nm} {vs:Q0 UV} {a:Act} {i:Nat} {o:Nm} {v:UV},l[i]? =some o->vs[i]? =some v->OY a (l.take<|i+1) (vs.take<|i+1)=(OY a (l.take i)<|vs.take i).put o.dst v
 | [],_,_,_,_,_,h,_=>by simp at h
 | _::_,[],_,_,_,_,_,h=>by simp at h
 | x::l,u::vs,a,0,o,v,h,h' =>by
  simp at h h';subst h;subst h';rfl
 | x::l,u::vs,a,i+1,o,v,h,h' =>by
  simp only[List.take_succ_cons,OY];exact ED (l:=l) (by simpa using h)<|by simpa using h'
theorem OA{w:By}{K:Act->Prop}:∀{l:Q0 Nm} {a:Act},wpS P eG w K l a->∃vs:Q0 UV,vs.length=l.length/\K (OY a l vs)/\∀i o v,l[i]? =some o->vs[i]? =some v->PH P eG w o v (OY a (l.take i)<|vs.take i)
 | [],a,h=>⟨[],rfl,h,λi o v h=>by simp at h⟩
 | x::l,a,h=>by
  have key:∃v,PH P eG w x v a/\wpS P eG w K l (a.put x.dst v):=by
   unfold wpS at h
   split at h
   ·rename_i c;obtain⟨v,e,f⟩:=h;exact⟨v,.inl ⟨c,e⟩,f⟩
   ·rename_i c;exact⟨undef,.inr ⟨by simpa using c,rfl⟩,h⟩
  obtain⟨v,e,f⟩:=key;obtain⟨vs,p,q,r⟩:=OA f;refine⟨v::vs,by simp[p],q,λi o u g j=> ?_⟩;cases i with
  | zero=>simp at g j;subst g;subst j;exact e
  | succ i=>exact r i o u (by simpa using g)<|by simpa using j
theorem TZ(eG:So Nm)(t:So UV)(j:Nat):yielded eG t j=match(eG[j]?).bind (·.dst) with
  | none=>none
  | some d=>match t.getD d undef with
   | .bool b=>some b
   | _=>none:=by
 unfold yielded;cases(eG[j]?).bind (·.dst) with
 | none=>rfl
 | some d=>
  simp only[K2,kx];cases t[d]? with
  | none=>rfl
  | some v=>cases v<;>rfl
def gm(l:Q0 Nm)(k:Nat)(o:Nm):Bool:=(o.looksAt l.toArray).all λt=>(List.range k).all λj=>match V6 l j with
 | none=>true
 | some d=> !Nat.beq d t||o.after.toList.any λe=>Region.binds .any e&&Nat.beq e.on j
def uB:Op->Bool
 | .select _ _=>false
 | _=>true
def Bs(n:Nat):Q0 Nm->Bool
 | []=>true
 | o::os=>(match o.dst with
  | none=>true
  | some d=>Nat.blt d n&& !os.any (Tk d))&&Bs n os
def Pg:Q0 Bool->Q0 Bool->Q0 Bool
 | a::xs,b::bs=>(a||b)::Pg xs bs
 | [],bs=>bs
 | xs,[]=>xs
def Bt:Nat->Q0 Bool
 | 0=>[true]
 | n+1=>false::Bt n
def gH(done:Q0 (Q0 Bool))(o:Nm):Q0 Bool:=o.after.toList.foldr (λe m=>bif Region.binds .any e then Pg (Pg (Bt e.on)<|done.getD e.on []) m else m) []
def W7:Q0 (Q0 Bool)->Q0 Nm->Q0 (Q0 Bool)
 | done,[]=>done
 | done,o::l=>W7 (done++[gH done o]) l
def yp:Nat->Q0 Bool->Bool
 | 0,_=>true
 | n+1,b::bs=>b&&yp n bs
 | _+1,[]=>false
def jR(l:Q0 Nm)(k:Nat):Bool:=(List.range l.length).all λt=>Nat.blt t k||yp t ((W7 [] l).getD t [])
theorem A7:∀{a b:Q0 Bool} {j:Nat},(Pg a b).getD j false=true->a.getD j false=true∨b.getD j false=true
 | [],bs,j,h=>.inr h
 | a::xs,[],j,h=>.inl h
 | a::xs,b::bs,0,h=>by
  have h:(a||b)=true:=h;rcases Bool.or_eq_true_iff.1 h with h | h
  ·exact .inl h
  ·exact .inr h
 | a::xs,b::bs,j+1,h=>A7 (a:=xs) (b:=bs) (j:=j) h
theorem RQ:∀{n j:Nat},(Bt n).getD j false=true->j=n
 | 0,0,_=>rfl
 | 0,j+1,h=>by simp[Bt] at h
 | n+1,0,h=>by simp[Bt] at h
 | n+1,j+1,h=>by
  have:(Bt n).getD j false=true:=h;rw[RQ this]
def RE(l:Q0 Nm)(done:Q0 (Q0 Bool)):Prop:=∀t m,done[t]? =some m->∀j,m.getD j false=true->∃s,X6 l s t j=true
theorem kQ{done:Q0 (Q0 Bool)}(w:RE l done){t:Nat}(r:l[t]? =some o):∀{j:Nat},(gH done o).getD j false=true->∃s,X6 l s t j=true:=by
 have key:∀(es:Q0 lY),(∀e∈es,e∈o.after.toList)->∀j,(es.foldr (λe m=>bif Region.binds .any e then Pg (Pg (Bt e.on)<|done.getD e.on []) m else m) []).getD j false=true->∃s,X6 l s t j=true:=λes=>by
  induction es with
  | nil=>intro _ j h;simp at h
  | cons e es u=>
   intro g j h;have c:=λx p=>g x<|L3 _ p;simp only[List.foldr_cons] at h
   cases i:Region.binds .any e with
   | false=>rw[i] at h;simp only[cond_false] at h;exact u c j h
   | true=>
    rw[i] at h
    simp only[cond_true] at h
    have f:=g e eF;rcases A7 h with h | h
    ·rcases A7 h with h | h
     ·have:=RQ h;subst this;exact⟨1,by simp only[X6,r];exact n1.2 ⟨e,f,by simp[i]⟩⟩
     ·rw[s6] at h
      cases q:done[e.on]? with
      | none=>rw[s6,q] at h;simp at h
      | some m=>
       rw[s6,q] at h
       obtain⟨s,hs⟩:=w e.on m q j (by rw[s6];exact h);exact⟨s+1,by simp only[X6,r];exact n1.2 ⟨e,f,by simp[i,hs]⟩⟩
    ·exact u c j h
 intro j h;exact key o.after.toList (λ_ h=>h) j h
theorem CA:∀{post pre:Q0 Nm} {done:Q0 (Q0 Bool)},l=pre++post->done.length=pre.length->RE l done->RE l (W7 done post)
 | [],_,_,_,_,f=>f
 | o::post,pre,done,e,g,f=>by
  refine CA (pre:=pre++[o]) (post:=post) (by simp[e]) (by simp[g]) λt m c j i=> ?_;rcases kn t done.length with h | h
  ·rw[u1 h] at c;exact f t m c j i
  ·have p:t=done.length:=by
    have:=(DO.1 c).1;simp at this;omega
   subst p;rw[s5<|S2 _] at c
   simp at c;subst c
   exact kQ f (by rw[e,g];simp) i
theorem Mw:∀{n j:Nat} {m:Q0 Bool},yp n m=true->j < n->m.getD j false=true
 | 0,_,_,_,h=>by omega
 | n+1,j,[],h,_=>by cases h
 | n+1,0,b::bs,h,_=>by
  have h:(b&&yp n bs)=true:=h;exact((Do _ _).mp h).1
 | n+1,j+1,b::bs,h,c=>by
  have h:(b&&yp n bs)=true:=h;exact Mw (n:=n) (j:=j) (m:=bs) ((Do _ _).mp h).2 eB
theorem Ma(h:jR l k=true):∀t o,k<=t->l[t]? =some o->∀j,j < t->∃s,X6 l s t j=true:=λt o u p j q=>by
 have f:=Zx p;have i:=IN.1 h t<|mn.2 f
 have g:Nat.blt t k=false:=by
  cases g:Nat.blt t k with
  | false=>rfl
  | true=>have:=A4 g;omega
 rw[g,lU] at i
 have r:RE l (W7 [] l):=CA (pre:=[]) rfl rfl λt m c=>by simp at c
 have e:=Mw i q;cases c:(W7 [] l)[t]? with
 | none=>rw[s6 (l:=W7 [] l),c] at e;simp at e
 | some m=>rw[s6 (l:=W7 [] l),c] at e;exact r t m c j e
theorem Nj:∀{n:Nat} {os:Q0 Nm} {i:Nat} {o:Nm} {d:Nat},Bs n os=true->os[i]? =some o->o.dst=some d->d < n/\∀j o',os[j]? =some o'->o'.dst=some d->j=i
 | _,[],_,_,_,_,h,_=>by simp at h
 | n,x::os,0,o,d,e,h,p=>by
  simp at h;subst h
  simp only[Bs,p,Do,tb] at e
  refine⟨A4 e.1.1,λj o' f c=> ?_⟩;cases j with
  | zero=>rfl
  | succ j=>exact(AD e.1.2 (by simpa using f) c).elim
 | n,x::os,i+1,o,d,e,h,p=>by
  have g:=e;simp only[Bs,Do] at e
  obtain⟨q,r⟩:=Nj (os:=os) (i:=i) e.2 (by simpa using h) p;refine⟨q,λj o' f c=> ?_⟩;cases j with
  | zero=>
   simp at f;subst f
   simp only[Bs,c,Do,tb] at g
   exact(AD g.1.2 (by simpa using h) p).elim
  | succ j=>rw[r j o' (by simpa using f) c]
def gF(n:Nat)(l:Q0 Nm)(k:Nat):Bool:=LK 0 l&&jR l k&&Nat.ble k l.length&&Bs n (l.take k)&&(l.take k).all λo=>gm l k o&&uB o.op&&He o.op
section
variable{β:Type}{P:B3}{ks:Q0 Kt}{Q:hP->Act->By->Prop}{m:K1 β}{r:β}{n:Nat}{D:Q0 AC}{S0:Q0 (Nat×UV)}{F:Fz}{hs:Q0 HP}{l:Q0 Nm}
structure FB(l:List Oper)(k n:Nat)(a0:Act)(vs:List Value)(L:Nat->Bool)(a:Act):Prop where
 size:a.tmps.size=n
 defs:a.defers=a0.defers
 got:∀(j:Nat) (v:Value) (t:Nat),j < k->L j=true->V6 l j=some t->vs[j]? =some v->a.tmps.getD t undef=v
 old:∀t,(∀j,j < k->L j=true->V6 l j≠some t)->a.tmps.getD t undef=a0.tmps.getD t undef
theorem LP{t:So UV}(h:d < t.size):(t.setIfInBounds d v).getD d undef=v:=by simp[h]
theorem SM{t:So UV}{e:Nat}(h:d≠e):(t.setIfInBounds d v).getD e undef=t.getD e undef:=by
 simp only[kx];rw[iM h]
theorem FB.put(c:FB l k n a0 vs L a)(B:Bs n (l.take k)=true){i:Nat}(hi:i < k)(G:l[i]? =some o)(H:vs[i]? =some v):FB l k n a0 vs (Kb L i) (a.put o.dst v):=by
 have g:V6 l i=o.dst:=by simp[V6,G]
 have p:∀d,o.dst=some d->d < n/\∀j,j < k->V6 l j=some d->j=i:=λd y=>by
  obtain⟨I,K⟩:=Nj B (i:=i) (o:=o) (d:=d) (by rw[yb,BY hi];exact G) y;refine⟨I,λj h e=> ?_⟩;cases q:l[j]? with
  | none=>simp[V6,q] at e
  | some M=>exact K j M (by rw[yb,BY h];exact q)<|by simpa[V6,q] using e
 cases y:o.dst with
 | none=>
  refine⟨c.size,c.defs,λj u t h s e z=> ?_,λt A=>c.old t λj h s=>A j h ?_⟩
  ·by_cases f:j=i
   ·subst f;rw[g,y] at e;cases e
   ·exact c.got j u t h (by simpa[Kb,f] using s) e z
  ·simp only[Kb];split
   ·rfl
   ·exact s
 | some d=>
  obtain⟨C,w⟩:=p d y;refine⟨by simp[Act.put,c.size],c.defs,λj u t h s e z=> ?_,λt A=> ?_⟩
  ·by_cases f:j=i
   ·subst f;rw[g,y] at e;cases e
    rw[H] at z;cases z
    exact LP (by rw[c.size];exact C)
   ·have x:d≠t:=λE=>by subst E;exact f<|w j h e
    show(a.tmps.setIfInBounds d v).getD t undef=u;rw[SM x];exact c.got j u t h (by simpa[Kb,f] using s) e z
  ·have x:d≠t:=λE=>by subst E;exact A i hi (by simp[Kb])<|by rw[g,y]
   show(a.tmps.setIfInBounds d v).getD t undef=_;rw[SM x];exact c.old t λj h s=>A j h (by simp only[Kb];split<;>first | rfl | exact s)
theorem FB.same{g:Nat->Bool}(c:FB l k n a0 vs L a)(c' :FB l k n a0 vs g b)(q:k<=vs.length){t:Nat}(s:∀j,j < k->V6 l j=some t->L j=true/\g j=true):a.tmps.getD t undef=b.tmps.getD t undef:=by
 by_cases h:∃j,j < k/\V6 l j=some t
 ·obtain⟨j,f,e⟩:=h;obtain⟨u,w⟩:=s j f e;have i:vs[j]? =some vs[j]:=C1 eB;rw[c.got j _ t f u e i,c'.got j _ t f w e i]
 ·have p:∀j,j < k->V6 l j≠some t:=λj f e=>h ⟨j,f,e⟩;rw[c.old t λj f _=>p j f,c'.old t λj f _=>p j f]
theorem FB.eq(c:FB l k n a0 vs L a)(c' :FB l k n a0 vs L b)(e:k<=vs.length)(p:∀j,j < k->L j=true):a=b:=by
 have h:∀t,a.tmps.getD t undef=b.tmps.getD t undef:=λt=>c.same c' e λj q _=>⟨p j q,p j q⟩
 have f:a.tmps=b.tmps:=by
  apply Array.ext
  ·rw[c.size,c'.size]
  ·intro i s u;have:=h i;simpa[kx,s,u] using this
 have g:a.defers=b.defers:=by rw[c.defs,c'.defs]
 obtain⟨w,x⟩:=a;obtain⟨y,z⟩:=b;have f:w=y:=f;have g:x=z:=g;rw[f,g]
theorem PH.of_same{w:By}(hs:uB o.op=true)(h:PH P eG w o v a)(he:∀t∈o.looksAt eG,a.tmps.getD t undef=b.tmps.getD t undef):PH P eG w o v b:=by
 have c:execOp a.eval o=execOp b.eval o:=execOp_congr o (λcs u e=>by rw[e] at hs;cases hs) λx c=>by
  cases x with
  | tmp t=>exact he t (qAB _<|List.mem_filterMap.2 ⟨.tmp t,by simpa using c,rfl⟩)
  | const v=>rfl
  | global g=>rfl
  | func f=>rfl
 have j:Region.wanted o (yielded eG a.tmps)=Region.wanted o (yielded eG b.tmps):=by
  unfold Region.wanted;cases p:o.guard with
  | none=>rfl
  | some q=>
   obtain⟨g,i⟩:=q
   have:yielded eG a.tmps g=yielded eG b.tmps g:=by
    rw[TZ,TZ];cases s:(eG[g]?).bind (·.dst) with
    | none=>rfl
    | some t=>
     simp only[];rw[he t<|List.mem_append_right _<|by simp[p,s]]
   simp only[this]
 unfold PH at*
 rw[<-c,<-j];exact h
theorem T5(c:a0.tmps.size=n)(f:Bs n (l.take k)=true)(x:k<=l.length)(g:vs.length=k):∀i,i<=k->FB l k n a0 vs (λj=>Nat.blt j i) (OY a0 ((l.take k).take i)<|vs.take i)
 | 0,_=>by
  refine⟨c,rfl,λj v t _ y=> ?_,λt _=>rfl⟩;have:Nat.blt j 0=true:=y;have:=A4 this;omega
 | i+1,hi=>by
  have p:l[i]? =some l[i]:=C1 eB;have q:vs[i]? =some vs[i]:=C1 eB;have h:=(T5 c f x g i eB).put f eB p q;rw[ED (l:=l.take k) (o:=l[i]) (v:=vs[i]) (by rw[yb,BY eB];exact p) q]
  have e:(λj=>Nat.blt j<|i+1)=Kb (λj=>Nat.blt j i) i:=by
   funext j;simp only[Kb];by_cases s:j=i
   ·subst s;rw[BY rfl];exact hN<|S2 _
   ·rw[B1 s];cases u:Nat.blt j i with
    | true=>have:=A4 u;exact hN (show j+1<=i+1 by omega)
    | false=>
     cases z:Nat.blt j (i+1) with
     | false=>rfl
     | true=>
      have:=A4 z;have w:Nat.blt j i=true:=hN (show j+1<=i by omega);rw[u] at w;cases w
  rw[e];exact h
theorem GG.cS{id:Nat}(k:Nat)(hm:P.follows .mixedOrders=true)(hB:gF n l k=true)
  (aH:GL .s P l.toArray (l.take k) [] (λ_=>Xl O P l.toArray (Zw O P ks Q)<|l.drop k) (Hd n D S0 F hs) m r):GC O P (.region id l.toArray true) ks Q (Hd n D S0 F hs) m r:=by
 intro aU a0 w ha;simp only[gF,Do,IN] at hB
 obtain⟨⟨⟨⟨M,V⟩,aI⟩,aJ⟩,aK⟩:=hB;have W:=Ma V;have X:k<=l.length:=A4 aI;have aV:=aH aU a0 {w with drawn:=w.drawn+1} ⟨ha.1,ha.2.drew _⟩;obtain⟨vs,aW,hK,Y⟩:=OA aV;have aX:vs.length=k:=by rw[aW];simp;omega
 have N:=T5 (a0:=a0) (vs:=vs) (l:=l) ha.1.1 aJ X aX
 let R:(Nat->Bool)->Act->By->Prop:=λL a w' =>Down l L/\(∀i,k<=i->L i=false)/\w' ={w with drawn:=w.drawn+1}/\FB l k n a0 vs L a
 let Inv:(Nat->Bool)->Act->By->Prop:=λL a w=>R L a w∨∃i,k < i/\Down l L/\(∀j,L j=true↔j < i)/\Xl O P l.toArray (Zw O P ks Q) (l.drop i) a w
 have y:∀L a w',(∀i,i < k->L i=true)->R L a w'->Xl O P l.toArray (Zw O P ks Q) (l.drop k) a w' :=by
  rintro L a w' z ⟨_,A,rfl,hc⟩
  have aY:L=λj=>Nat.blt j k:=by
   funext j;rcases kn j k with h | h
   ·rw[z j h];exact(hN h).symm
   ·rw[A j h];cases B:Nat.blt j k with
    | false=>rfl
    | true=>have:=A4 B;omega
  have Z:=N k<|S2 _;rw[IF (show(l.take k).length<=k by simp;omega),IF<|show vs.length<=k by omega] at Z
  rw[aY] at hc
  rw[hc.eq Z eB λj u=>hN u];exact hK
 refine X0 hm Inv (λi o h e he B=>by have:=HQ M i o (by simpa using h) e he B;omega) ?_ ?_ ?_
 ·refine .inl ⟨λi o _ h=>(by cases h),λ_ _=>rfl,rfl,⟨ha.1.1,rfl,λj v t _ h=>(by cases h),λt _=>rfl⟩⟩
 ·intro L a w' i o ho aA g hI;have p:l[i]? =some o:=by simpa using ho
  have aB:i < l.length:=Zx p;by_cases hi:i < k
  ·rcases hI with C | ⟨x,hk,_,z,_⟩
   case inr=>have:=(z i).2 eB;rw[aA] at this;cases this
   obtain⟨aa,A,rfl,hc⟩:=C;have aM:(l.take k)[i]? =some o:=by rw[yb,BY hi];exact p
   have aN:o∈l.take k:=T2 aM;have ab:=aK o aN;obtain⟨⟨ad,ae⟩,af⟩:=ab;have hv:vs[i]? =some vs[i]:=C1 eB;have ag:=Y i o _ aM hv
   have aO:PH P l.toArray {w with drawn:=w.drawn+1} o vs[i] a:=ag.of_same ae λt ht=>by
    refine(N i eB).same hc eB λj u e=> ?_;have H:=IN.1 (IN.1 ad t ht) j<|mn.2 u;rw[e] at H
    simp only[Nat.beq_refl,RK,lU,n1,Do] at H
    obtain⟨e',ah,aP,aC⟩:=H;have aC:e'.on=j:=j0 aC;have E:e'∈o.after:=by simpa using ah
    refine⟨?_,by rw[<-aC];exact g e' E aP⟩;have:=HQ M i o p e' E aP;exact hN<|show j+1<=i by omega
   have f:Inv (Kb L i) (a.put o.dst vs[i]) {w with drawn:=w.drawn+1}:=by
    refine .inl ⟨?_,?_,rfl,hc.put aJ hi p hv⟩
    ·intro j oj q u e he B
     have:L e.on=true:=by
      by_cases G:j=i
      ·subst G;rw[p] at q;cases q;exact g e he B
      ·exact aa j oj q (by simpa[Kb,G] using u) e he B
     simp only[Kb];split
     ·rfl
     ·exact this
    ·intro j u;simp only[Kb];rw[B1 eB];exact A j u
   rcases aO with⟨H,Z⟩ | ⟨H,Z⟩
   ·rw[BY H];refine⟨.inr af,?_⟩;rw[Z];exact f
   ·rw[B1 (by simp[H]),<-Z];exact f
  ·have S:Down l L:=by
    rcases hI with C | ⟨_,_,hd,_,_⟩
    ·exact C.1
    ·exact hd
   have c:∀j,j < i->L j=true:=λj u=>by
    obtain⟨s,hs⟩:=W i o eB p j u;exact Xb S hs λo' T e he B=>by rw[p] at T;cases T;exact g e he B
   have aQ:Down l (Kb L i):=λj oj q u e he B=>by
    have:L e.on=true:=by
     by_cases G:j=i
     ·subst G;rw[p] at q;cases q;exact g e he B
     ·exact S j oj q (by simpa[Kb,G] using u) e he B
    simp only[Kb];split
    ·rfl
    ·exact this
   have I:Xl O P l.toArray (Zw O P ks Q) (l.drop i) a w' :=by
    rcases hI with C | ⟨x,hk,_,z,K⟩
    ·have aj:i=k:=by
      rcases kn k i with h | h
      ·have:=c k h;rw[C.2.1 _<|S2 _] at this;cases this
      ·omega
     subst aj;exact y L a w' c C
    ·have:x=i:=by
      have H:¬i < x:=λh=>by have:=(z i).2 h;rw[aA] at this;cases this
      have Z:¬x < i:=λh=>by have:=(z x).1<|c x h;omega
      omega
     subst this;exact K
   have aD:l.drop i=o::l.drop (i+1):=by
    have hg:l[i]'aB=o:=by simpa[aB] using p
    rw[<-hg];exact u2 aB
   rw[aD] at I
   have f:∀a' w',Xl O P l.toArray (Zw O P ks Q) (l.drop<|i+1) a' w'->Inv (Kb L i) a' w' :=λa' w' h=>
    .inr ⟨i+1,by omega,aQ,λj=>by
     simp only[Kb];by_cases u:j=i
     ·simp[u]
     ·simp only[u,Bm];constructor
      ·intro aE
       have:j < i:=by
        rcases kn j i with h | h
        ·exact h
        ·rcases hI with C | ⟨x,hk,_,z,_⟩
         ·rw[C.2.1 j eB] at aE;cases aE
         ·have H:=(z j).1 aE;have:=(z i).2 eB;rw[aA] at this;cases this
       omega
      ·intro ay;exact c j eB,h⟩
   unfold Xl at I
   split
   ·rename_i aF;rw[BY aF] at I
    exact SB f I
   ·rename_i aF;rw[B1 aF] at I
    exact f _ _ I
 ·intro L a w' c hI
  have I:Xl O P l.toArray (Zw O P ks Q) (l.drop l.length) a w' :=by
   rcases hI with C | ⟨x,hk,_,z,K⟩
   ·have al:k=l.length:=by
     rcases kn k l.length with h | h
     ·have:=c k (by simpa using h);rw[C.2.1 _<|S2 _] at this;cases this
     ·omega
    have:=y L a w' (λi hi=>c i eE) C
    rwa[al] at this
   ·have:l.length<=x:=by
     rcases kn x l.length with h | h
     ·have:=(z x).1 (c x<|by simpa using h);omega
     ·exact h
    rw[u0 this] at K
    rw[u0<|S2 _];exact K
  rw[u0<|S2 _] at I
  exact I
end
section
variable{β:Type}{P:B3}{eG:So Nm}{rest l:Q0 Nm}{E A A' :Act->By->Prop}{m:K1 β}{r:β}
variable{n:Nat}{D:Q0 AC}{S S' :Q0 (Nat×UV)}{F F' :Fz}{hs hs' :Q0 HP}
theorem GG.cc{c:Q0 Nm}(h:GL O P eG c ks Q A m r):GL .s P eG [] [] (λ_=>Xl O P eG (Zw O P ks Q) c) A m r:=λe a w f=>h e a w f
end
section
variable{O:K1 Nat}{μ:Md}{β:Type}{P:B3}{eG:So Nm}{rest:Q0 Nm}{ks:Q0 Kt}{Q:hP->Act->By->Prop}{m:K1 β}{r:β}{n:Nat}{D:Q0 AC}{S:Q0 (Nat×UV)}{F:Fz}{hs:Q0 HP}{d:Nat}{ty:S1}{pos:String}{after:So lY}
theorem GG.sG{fn:Fn}{first eb:Q0 L5}{us:Q0 UV}(f:Nat.blt d n=true)(c:Un S first=some us)(g:Un S eb=some vs)(k:GL O P eG rest ks Q (Hd n D ((d,.func fn us.toArray vs.toArray)::S) F hs) m r):GL O P eG (⟨some d,.makeFunc fn first.toArray eb.toArray,ty,pos,after,none⟩::rest) ks Q (Hd n D S F hs) m r:=GG.val f (λa w e=>by simp[execOp,Instr.makeFunc,HT e.1 g,HT e.1 c]) k
end
end
section
variable{α ρ:Type}
def zH(P:B3)(F:Fz)(f:Rw)(eb:Q0 UV)(arg:α->Fz->Q0 UV->Prop)(Hs:Fz->ρ->Q0 HP)(e:ρ)(q:ρ×Q0 α):Prop:=
 (∀args w,(callFunc f args).run P w= .ok (.enter f args) w)/\
 ∀(σ:Type) (d:Nat) (Y:σ->Fz->HP) (Z:HP) (a:ρ->σ) (y:α->σ->K1 (σ×Bool)) (b:Fz),F<=b->WJ P d b arg Y y->(∀r c,b<=c->∀m,Qh (Hs c r++[Z]) m->Y (a r) c m)->
  Xs P f (.func (.yield d) #[] #[]::eb).toArray b (Hs b e++[Z]) (WG y q.2<|a q.1) (λ_ _ _=>True) (λg c=>[Y g c])
theorem zH.mk'{P:B3}{F:Fz}{f:Rw}{eb:Q0 UV}{arg:α->Fz->Q0 UV->Prop}{Hs:Fz->ρ->Q0 HP}{e:ρ}{q:ρ×Q0 α}(g:∀args w,(callFunc f args).run P w= .ok (.enter f args) w)
  (i:∀(σ:Type) (d:Nat) (Y:σ->Fz->HP) (Z:HP) (a:ρ->σ) (y:α->σ->K1 (σ×Bool)) (b:Fz),F<=b->WJ P d b arg Y y->(∀r c,b<=c->∀m,Qh (Hs c r++[Z]) m->Y (a r) c m)->
   ∃m,Xs P f (.func (.yield d) #[] #[]::eb).toArray b (Hs b e++[Z]) m (λ_ _ _=>True) (λj c=>[Y j c])/\∀r,WG y q.2 (a q.1)=some r->m=some r):zH P F f eb arg Hs e q:=
 ⟨g,λσ d Y Z a y b le l n r o=>let⟨_,h,k⟩:=i σ d Y Z a y b le l n;h r (k r o)⟩
section
variable{O:K1 Nat}{μ:Md}{β:Type}{P:B3}{ks:Q0 Kt}{Q:hP->Act->By->Prop}{m:K1 β}{r:β}{n:Nat}{D:Q0 AC}{S:Q0 (Nat×UV)}{F:Fz}{hs:Q0 HP}
theorem GG.np{c:la}{Hs:Q0 HP}{Y:HP}(is:Q0 Nat)(hi:YN is hs=Hs)(b:∀m,Qh Hs m->Y m)(k:GC O P c ks Q (Hd n D S F<|Y::YF is hs) m r):GC O P c ks Q (Hd n D S F hs) m r:=GG.a7 (λ_ _ h=>⟨h.1,h.2.mono λ_ a=>QP (λm a=>b m<|hi▸a)<|UJ (ks:=is) a⟩) k
variable{α τ ρ:Type}{g:L5}{ps:Q0 Tmp}{assign body:la}{f:Rw}{eb:Q0 UV}{arg:α->Fz->Q0 UV->Prop}
theorem GG.pK{q:ρ×Q0 α}{bm:α->τ->K1 τ}{k:τ->K1 β}(Hs:Fz->ρ->Q0 HP)(B:ρ)(u:ρ->τ)(is:Q0 Nat)(I:τ->Fz->Q0 HP->Prop)(hg:QQ S g=some (.func (.func f) #[] eb.toArray))(z:zH P F f eb arg Hs B q)(G:(ps.all λp=>Nat.blt p n)=true)(A:∀x c vs,arg x c vs->vs.length=ps.length)
  (hi:YN is hs=Hs F B) (H:∀r c,F<=c->I (u r) c (Hs c r++YF is hs))
  (round:∀l L F0 y x vs s o R h,F<=F0->F0<=y->arg x y vs->I s F0 h->GC (some l) P assign [] (BP P l body<|RP l L I (fun(_:Empty) _ _=>False) y R<|.next o) (Hd n [] ((ps.zip vs).reverse++S) y<|pt l (UK L)::R::h) (bm x s) o)
  (next:∀q' F0 c s h,F<=F0->F0<=c->VB bm q.2 (u q.1)=some s->I s F0 h->GE none P ks Q (Hd n (WZ q' ::D) S c<|pt q' (.deferred<|some [])::h) (k s) r):GC none P (.rangeFunc g ps.toArray assign body) ks Q (Hd n D S F hs) ((VB bm q.2<|u q.1).bind k) r:=by
 intro b a w t;cases C:VB bm q.2 (u q.1) with
 | none=>rw[C] at b;cases b
 | some K=>
  rw[C] at b
  refine og λfn _=> ?_
  let L:Loop:={state:=.ready,pending:=none,fn,tmps:=a.tmps,params:=ps.toArray,assign,body,defers:=w.heap.size}
  let J:Empty->Fz->Q0 HP->Prop:=λ_ _ _=>False
  let Z:HP:=star (pt (w.heap.size+1)<|UK L)<|Qh<|YF is hs
  have M:SH ((w.alloc<|.deferred<|some []).alloc<|.loop L) F (star (Qh<|Hs F B++[Z])<|Qh [pt w.heap.size<|.deferred<|some []]):=by
   have j:=(t.2.alloc<|.deferred<|some []).alloc<|.loop L;rw[et] at j
   refine j.mono λm b=> ?_
   have N:star (pt (w.heap.size+1)<|UK L) (star (pt w.heap.size<|.deferred<|some [])<|star (Qh<|Hs F B)<|Qh<|YF is hs) m:=
    QR (λm b=>QR (λm b=>by have:=UJ (ks:=is) b;rw[hi] at this;exact this) b) b
   have E:=PO<|QR (λm b=>Zj b)<|Zj N;refine QP (λm b=> ?_)<|QR (λm b=>Jy b) E;exact K7<|QR (λm b=>Jy (p:=Z) b) b
  have hY:WJ P (w.heap.size+1) F arg (yS F (w.heap.size+1) L I J) (jc λx s=>(bm x s).map UQ.next):=by
   refine R7 (S' :=λvs=>(ps.zip vs).reverse++S) (assign:=assign) (body:=body) (λx c vs T=>by rw[A x c vs T];simp[L]) rfl rfl (λvs _=>BA G ⟨t.1.1,rfl,t.1.2.2⟩) ?_;intro F0 y x vs s o R h V j T H i;cases W:bm x s with
   | none=>rw[W] at i;cases i
   | some s' =>
    rw[W] at i
    simp only[L4,W1] at i
    subst i;exact round _ L F0 y x vs s s' R h V j T H W
  have X:∀r c,F<=c->∀m,Qh (Hs c r++[Z]) m->yS F (w.heap.size+1) L I J (.next<|u r) c m:=λr c le m b=>by
   refine⟨c,Hs c r++YF is hs,le,Fz.le_refl _,H r c le,?_⟩;have j:=Yx b
   have N:star (Qh<|Hs c r) Z m:=QR (λm b=>by
    obtain⟨m1,_,_,s1,_,hp,_⟩:=b;obtain⟨a1,a2,d,t1,t2,g1,g2⟩:=hp;exact⟨a1,a2,d,t1.trans s1,t2.trans s1,g1,g2⟩) j
   exact QR (λm b=>K7 b)<|Zj N
  have hc:=z.2 _ _ _ Z (λr=>.next<|u r) _ F (Fz.le_refl F) hY X (.next K) (by rw[Fu,BF,C];rfl) _ _ M;refine⟨w.heap.size+1,[WZ w.heap.size],(w.alloc<|.deferred<|some []).alloc<|.loop L,⟨.fn (.func f) eb.toArray,#[.func (.yield<|w.heap.size+1) #[] #[]]⟩,(w.alloc<|.deferred<|some []).alloc<|.loop L,f,(.func (.yield<|w.heap.size+1) #[] #[]::eb).toArray,(w.alloc<|.deferred<|some []).alloc<|.loop L,lx fn a.tmps ps.toArray assign body,?_,λ_ _=>trivial,?_,λe=>(by cases e),?_⟩
  ·have Y:a.eval (.const<|.func (.yield<|w.heap.size+1) #[] #[])= .func (.yield<|w.heap.size+1) #[] #[]:=rfl;simp[resolve,Deferred.ofValue,t.1.eval hg,Y]
  ·simp[invoke,z.1]
  ·refine hQ.2<|hc.mono ?_;rintro _ w' ⟨c,v,le,rfl, -,aA⟩;have aB:SH w' c (star (yS F (w.heap.size+1) L I J (.next K) c)<|Qh [pt w.heap.size<|.deferred<|some []]):=aA.mono λm b=>Wq b;obtain⟨F0,h,V,j,aC,E⟩:=SH.sh aB;refine⟨none,_,BB<|SH.cf (k:=0) rfl E,?_⟩;have h4:SH _ c (Qh<|pt w.heap.size (.deferred<|some [])::h):=(SH.sD 0<|SH.putAt (k:=0) rfl E<|Tq L none).mono λm b=>Wq b;exact next w.heap.size F0 c K h V j C aC b _ _ ⟨⟨t.1.1,by simp[t.1.2.1],t.1.2.2⟩,h4⟩
end
end
section
variable{V K α β:Type}{rv:Fz->V->UV->Prop}{xs:Q0 (Q0<|K×V)}{S:Q0 (Nat×UV)}{pt':K1 C3}{ck:K->UV}{F F0:Fz}{w:By}{hs:Q0 HP}{P:B3}{n γ b:Nat}{a:Act}
variable{O:K1 Nat}{μ:Md}
section
variable{K V:Type}
def vx(ck:K->UV)(rv:Fz->V->UV->Prop)(F:Fz)(b e:Nat)(M d:Q0 (K×V))(cur:K1 (K×V)):HP:=λm=>∃(es:So gw) (clock:Nat) (l' :Q0 (K×V)) (c:So Nat) (last:Nat),
 star (pt b<|.map es clock) (pt e<|.mapIter (some b) clock c last) m/\Uv ck rv F es.toList l'/\Ya es.toList clock/\(c.isEmpty=false->last=clock)/\
 d.Perm (((es.toList.zip l').filter λz=> !c.contains z.1.born).map Prod.snd)/\l'.Perm M/\(M.map Prod.fst).Nodup/\
 ∀x,cur=some x->∃z∈es.toList.zip l',z.2=x/\c.back? =some z.1.born
def V2(γ:Nat)(ck:K->UV)(rv:Fz->V->UV->Prop)(F:Fz)(j b d:Nat)(xs:Q0 (Q0<|K×V))(c:Q0 (K×V))(cur:K1 (K×V)):HP:=λm=>∃M,xs[j]? =some M/\star (vx ck rv F b d M c cur) (hole γ (QZ ck rv) F j b xs) m
variable{ck:K->UV}{rv:Fz->V->UV->Prop}{F F0:Fz}{w:By}{H:HP}{b it γ j:Nat}{M ed:Q0 (K×V)}{cur:K1 (K×V)}{xs:Q0 (Q0<|K×V)}
theorem XZ(h:SH w F (star (V2 γ ck rv F0 j b it xs ed cur) H)):∃(M:Q0 (K×V)) (es:So gw) (clock:Nat) (l' :Q0 (K×V)) (e:So Nat) (last:Nat),xs[j]? =some M/\
  w.heap[b]? =some (.map es clock)/\w.heap[it]? =some (.mapIter (some b) clock e last)/\SH w F (star (pt it<|.mapIter (some b) clock e last)<|star (pt b<|.map es clock)<|star (hole γ (QZ ck rv) F0 j b xs) H)/\Uv ck rv F0 es.toList l'/\Ya es.toList clock/\(e.isEmpty=false->last=clock)/\
  ed.Perm (((es.toList.zip l').filter λz=> !e.contains z.1.born).map Prod.snd)/\l'.Perm M/\(M.map Prod.fst).Nodup/\∀x,cur=some x->∃z∈es.toList.zip l',z.2=x/\e.back? =some z.1.born:=by
 obtain⟨m,⟨i,l,d,o,p,⟨M,q,r⟩,s⟩,k⟩:=h;have t:=XN ⟨i,l,d,o,p,r,s⟩;obtain⟨u,v,y,A,B,⟨es,c,l',e,last,C,D⟩,g⟩:=t;have hs:SH w F (star (pt b<|.map es c)<|star (pt it<|.mapIter (some b) c e last)<|star (hole γ (QZ ck rv) F0 j b xs) H):=⟨m,XN ⟨u,v,y,A,B,C,g⟩,k⟩;have f:SH w F (star (pt it<|.mapIter (some b) c e last)<|star (pt b<|.map es c)<|star (hole γ (QZ ck rv) F0 j b xs) H):=hs.mono λm E=>Zj E;exact⟨M,es,c,l',e,last,q,hs.owned,f.owned,f,D⟩
theorem Hl{es:So gw}{clock:Nat}{l' :Q0 (K×V)}{c:So Nat}{last:Nat}(g:xs[j]? =some M)(h:SH w F (star (pt it<|.mapIter (some b) clock c last)<|star (pt b<|.map es clock)<|star (hole γ (QZ ck rv) F0 j b xs) H))
  (i:Uv ck rv F0 es.toList l') (k:Ya es.toList clock) (l:c.isEmpty=false->last=clock) (o:ed.Perm (((es.toList.zip l').filter λz=> !c.contains z.1.born).map Prod.snd)) (p:l'.Perm M) (q:(M.map Prod.fst).Nodup) (r:∀x,cur=some x->∃z∈es.toList.zip l',z.2=x/\c.back? =some z.1.born):SH w F (star (V2 γ ck rv F0 j b it xs ed cur) H):=h.mono λm d=>by
 have e:=UX<|Zj d;have f:=UX e;exact QP (λm d=>⟨M,g,QP (λm d=>⟨es,clock,l',c,last,d,i,k,l,o,p,q,r⟩) d⟩) f
theorem yO{C:Fz->Nat->Q0 (K×V)->HP}{y:Q0 (K×V)}(h:SH w F (star (hole γ C F0 j b xs) H)):SH w F (star (hole γ C F0 j b<|xs.set j y) H):=h.mono λm d=>QP (λm ⟨bs,e,c,g⟩=>⟨bs,by simpa using e,c,by rw[<-R5 (f:=C F0) c,qAD];exact g⟩) d
theorem yM(le:F0<=F)(f:UB γ F j b)(h:SH w F (star (V2 γ ck rv F0 j b it xs ed cur) H)):SH w F (star (V2 γ ck rv F j b it xs ed cur) H):=by
 obtain⟨M,es,c,l',e,last,g,_,_,hs,i,k,l,o,p,q,r⟩:=XZ h;refine Hl g ?_ (i.up le) k l o p q r;have s:SH w F (star (hole γ (QZ ck rv) F0 j b xs)<|star (pt it<|.mapIter (some b) c e last)<|star (pt b<|.map es c) H):=hs.mono λm d=>Zj<|QR (λm d=>Zj d) d;exact(s.rP Hf le f).mono λm d=>QR (λm d=>Zj d)<|Zj d
theorem qZ(h:SH w F (star (V2 γ ck rv F0 j b it xs [] cur) H)):SH w F (star (ZD γ (QZ ck rv) F0 xs) H):=by
 obtain⟨M,es,c,l',f,last,g,_,_,hs,i,k,p,q,l,o,r⟩:=XZ h;have d:SH w F (star (QZ ck rv F0 b M)<|star (hole γ (QZ ck rv) F0 j b xs) H):=hs.drop.mono λm e=>QP (λm e=>⟨l',l,o,es,c,e,i,k⟩) e;have:=SH.aV Hf (Fz.le_refl _) d (DO.1 g).1;rw[<-C5 g] at this;exact this
variable[BEq K][LawfulBEq K]
omit [LawfulBEq K] in
theorem Uv.mE{kd:oh}{k:K}(g:∀a b,Instr.sameNow kd (ck a) (ck b)=some (a==b)):∀{es:Q0 gw} {l:Q0 (K×V)} (d:Nat),Uv ck rv F es l->
   (Instr.findNow kd (ck k) es d=some none/\YA l k=l/\∀x∈l,(k==x.1)=false)∨
   (∃i e x,Instr.findNow kd (ck k) es d=some (some (d+i,e))/\i < es.length/\Uv ck rv F (es.eraseIdx i) (YA l k)/\YA l k=l.eraseIdx i/\l[i]? =some x/\(k==x.1)=true)
 | [],[],_,_=>.inl ⟨rfl,rfl,λ_ h=>by cases h⟩
 | e::es,x::l,d,⟨m,t,s⟩=>by
  by_cases f:(k==x.1)=true
  ·right;refine⟨0,e.val,x,by simp[Instr.findNow,m,g,f],by simp,?_,by simp[YA,f],rfl,f⟩;simp only[YA,f,B2,iq];exact s
  ·have c:(k==x.1)=false:=by simpa using f
   rcases Uv.mE (k:=k) g (d+1) s with⟨o,p,q⟩ | ⟨i,u,y,o,p,q,v,A,B⟩
   ·left;refine⟨by simp[Instr.findNow,m,g,c,o],by simp[YA,c,p],λz r=> ?_⟩;rcases TO.1 r with rfl | r
    ·exact c
    ·exact q z r
   ·right;refine⟨i+1,u,y,by simp[Instr.findNow,m,g,c,o];omega,by simpa using p,?_,by simp[YA,c,v],by simpa using A,B⟩;simp only[YA,c,W2,Bm,lV];exact⟨m,t,q⟩
theorem Lj:∀{es:Q0 α} {l:Q0 β} {i:Nat},(es.eraseIdx i).zip (l.eraseIdx i)=(es.zip l).eraseIdx i
 | [],_,_=>by simp
 | _::_,[],_=>by simp
 | _::_,_::_,0=>rfl
 | _::es,_::l,i+1=>by simp[Lj (es:=es) (l:=l)]
theorem Tw{p:α->Bool}:∀{l:Q0 α} {i:Nat} {x:α},l[i]? =some x->p x=false->(l.eraseIdx i).filter p=l.filter p
 | [],_,_,h,_=>by simp at h
 | y::l,0,x,h,c=>by simp at h;subst h;simp[c]
 | y::l,i+1,x,h,c=>by
  simp only[s9] at h
  simp only[lV,nt,Tw h c]
omit [BEq K] [LawfulBEq K] in
theorem MR:∀{l:Q0 (K×V)} {x y:K×V},(l.map Prod.fst).Nodup->x∈l->y∈l->x.1=y.1->x=y
 | [],_,_,_,h,_,_=>by cases h
 | z::l,x,y,g,i,k,e=>by
  simp only[E4,ma] at g
  rcases TO.1 i with rfl | c<;>rcases TO.1 k with rfl | d
  ·rfl
  ·exact absurd (IR (f:=Prod.fst) d) (by rw[<-e];exact g.1)
  ·exact absurd (IR (f:=Prod.fst) c) (by rw[e];exact g.1)
  ·exact MR g.2 c d e
end
section
variable{β:Type}{P:B3}{eG:So Nm}{rest:Q0 Nm}{ks:Q0 Kt}{Q:hP->Act->By->Prop}{m:K1 β}{r:β}
variable{n:Nat}{D:Q0 AC}{S:Q0 (Nat×UV)}{F F0:Fz}{hs:Q0 HP}{d:Nat}{d' :K1 Nat}{ty t kt vt:S1}{pos:String}{after:So lY}{ox oy:L5}{cd:la}
variable{K V:Type}{ck:K->UV}{rv:Fz->V->UV->Prop}{b it γ j i' :Nat}{l ed:Q0 (K×V)}{cur:K1 (K×V)}{xs:Q0 (Q0<|K×V)}
theorem GG.nA{p:K1 Nat}(i:Nat)(hi:hs[i]? =some (ZD γ (QZ ck rv) F0 xs))(x:UB γ F j b)(y:p=some b)(f:xs[j]? =some l)(A:Nat.blt d n=true)(B:P.underlying t=some (.map kt vt))(C:QQ S ox=some (.map p))
  (k:∀it,(l.map Prod.fst).Nodup->GL O P eG rest ks Q (Hd n D ((d,.pointer<|some ⟨it,0,none⟩)::S) F<|hs.set i<|V2 γ ck rv F0 j b it xs l none) m r):GL O P eG (⟨some d,.range t ox,ty,pos,after,none⟩::rest) ks Q (Hd n D S F hs) m r:=by
 subst y;refine GG.step rfl (.inr rfl) λE a w o=> ?_;have G:=(o.2.pull hi).sw x f;obtain⟨es,c,l',g,u,H,v,q,s⟩:=Wz G;refine⟨.pointer<|some ⟨w.heap.size,0,none⟩,w.alloc<|.mapIter (some b) c #[] c,?_,k w.heap.size u E _ _ ⟨o.1.put A _,?_⟩⟩
 ·simp[execOp,Instr.range,o.1.eval C,YG B,Yb H]
 ·have I:=q.alloc<|.mapIter (some b) c #[] c;refine SH.push hi<|Hl f I v s (λh=>by simp at h) ?_ g u λ_ h=>by cases h
  have e:((es.toList.zip l').filter λz=> !(#[]:So Nat).contains z.1.born)=es.toList.zip l' :=by
   rw[mw];intro z _;simp
  rw[e,v.sJ.1];exact g.symm
theorem GG.nG(i:Nat)(hi:hs[i]? =some (V2 γ ck rv F0 j b it xs [] cur))(p:pt' =some ⟨it,0,none⟩)(q:Nat.blt d n=true)(s:QQ S ox=some (.pointer pt'))
  (k:GL O P eG rest ks Q (Hd n D ((d,.tuple #[.bool false])::S) F hs) m r):GL O P eG (⟨some d,.next ox false,ty,pos,after,none⟩::rest) ks Q (Hd n D S F hs) m r:=by
 subst p;refine GG.step rfl (.inr rfl) λu a w e=> ?_;obtain⟨M,es,c,l',o,last,_,v,f,_,x,g,y,z,_⟩:=XZ<|e.2.pull hi;obtain⟨A,h⟩:=(Tm (P:=P) (ty:=ty) v f x g y z).1 rfl;refine⟨_,{w with drawn:=A},?_,k u _ _ ⟨e.1.put q _,e.2.drew _⟩⟩;simp[execOp,e.1.eval s,h]
theorem GG.nF(i:Nat)(hi:hs[i]? =some (V2 γ ck rv F0 j b it xs ed cur))(A:ed≠[])(X:pt' =some ⟨it,0,none⟩)(Y:Nat.blt d n=true)(s:QQ S ox=some (.pointer pt'))
  (k:∀x f v,(x::f).Perm ed->(∀T,F0<=T->rv T x.2 v)->GL O P eG rest ks Q (Hd n D ((d,.tuple #[.bool true,ck x.1,v])::S) F<|hs.set i<|V2 γ ck rv F0 j b it xs f<|some x) m r):GL O P eG (⟨some d,.next ox false,ty,pos,after,none⟩::rest) ks Q (Hd n D S F hs) m r:=by
 subst X;refine GG.step rfl (.inr rfl) λZ a w B=> ?_;obtain⟨M,es,c,l',e,last,hM,hb,C,E,u,g,hl,W,G,H,_⟩:=XZ<|B.2.pull hi;obtain⟨z,I,h,k',L⟩:=(Tm (P:=P) (ty:=ty) hb C u g hl W).2 A;obtain⟨o,q⟩:=u.aF I;have N:=PD g u;have R:=FG (p:=λy:gw×(K×V)=> !e.contains y.1.born) N I<|by simp only[h,k4]
 have e1:∀y:gw×(K×V),(!(e.push z.1.born).contains y.1.born)=(!e.contains y.1.born&& !(y.1.born==z.1.born)):=λy=>by
  rw[o0,qAE]
 refine⟨_,put {w with drawn:=k'} it<|.mapIter (some b) c (e.push z.1.born) c,?_,k z.2 (((es.toList.zip l').filter λy=> !(e.push z.1.born).contains y.1.born).map Prod.snd) z.1.val ?_ q Z _ _ ⟨by rw[<-o];exact B.1.put Y _,SH.push hi<|Hl hM ((E.drew _).put (o' :=.mapIter (some b) c (e.push z.1.born) c)) u g (λ_=>rfl) (.refl _) G H λx s=> ?_⟩⟩
 ·simp[execOp,B.1.eval s,L]
 ·refine List.Perm.trans ?_ W.symm;have:=(R.map Prod.snd).symm;simp only[E4] at this
  refine List.Perm.trans (.of_eq ?_) this;congr 2;exact bY λy _=>e1 y
 ·simp only[W1] at s
  exact⟨z,I,s,by simp⟩
theorem GG.nM{x:K×V}(i:Nat)(hi:hs[i]? =some (V2 γ ck rv F0 j b it xs ed<|some x))(hp:pt' =some ⟨it,0,none⟩)(hd:Nat.blt d n=true)(hx:QQ S ox=some (.pointer pt'))
  (k:∀v,(∀Z,F0<=Z->rv Z x.2 v)->GL O P eG rest ks Q (Hd n D ((d,.tuple #[ck x.1,v])::S) F hs) m r):GL O P eG (⟨some d,.entry ox,ty,pos,after,none⟩::rest) ks Q (Hd n D S F hs) m r:=by
 subst hp;refine GG.step rfl (.inr rfl) λhm a w G=> ?_;obtain⟨M,es,c,l',o,last,hM,hb,C,H,I,E,hl,ht,N,aH,p⟩:=XZ<|G.2.pull hi;obtain⟨z,R,T,g⟩:=p x rfl;obtain⟨u,A⟩:=I.aF R;subst T
 have W:o.isEmpty=false:=by
  cases h:o.isEmpty with
  | false=>rfl
  | true=>
   have:o=#[]:=by simpa using h
   subst this;simp at g
 have X:=hl W;subst X
 have B:es.find? (λe=>e.born==z.1.born)=some z.1:=by
  have q:z.1∈es.toList:=by rw[<-I.sJ.2];exact IR R
  have s:(es.toList.map (·.born)).Nodup:=E.1.imp λh=>iB h
  have:es.toList.find? (λe=>e.born==z.1.born)=some z.1:=by
   clear hb C I E ht N p R A u H g hl
   generalize es.toList=L at q s
   induction L with
   | nil=>cases q
   | cons y L ih=>
    simp only[E4,ma] at s
    rcases TO.1 q with e | e
    ·rw[mx,<-e];simp
    ·have:(y.born==z.1.born)=false:=by
      cases Y:y.born==z.1.born with
      | false=>rfl
      | true=>exact absurd (IR (f:=(·.born)) e) (by rw[<-(mX.1 Y:y.born=z.1.born)];exact s.1)
     rw[mx,this];exact ih e s.2
  simpa using this
 refine⟨_,w,?_,k z.1.val A hm _ _ ⟨by rw[<-u];exact G.1.put hd _,G.2⟩⟩;simp[execOp,Instr.entry,G.1.eval hx,AB C,Yb hb,g,B]
def dh(a b:Nat):K1 Unit:=if a=b then some () else none
theorem uh{a:Nat}{u:Unit}(h:dh a b=some u):a=b:=by
 unfold dh at h;split at h
 ·assumption
 ·cases h
theorem UB.one{c:Nat}(h:UB γ F j b)(h' :UB γ F i' c)(e:i' =j):c=b:=by
 subst e;have:=h.2.symm.trans h'.2;simp at this;exact this.symm
theorem GG.rU[BEq K][LawfulBEq K]{p:K1 Nat}{c:Nat}{x:K×V}{xs' :Q0 (Q0<|K×V)}{T:So S1}(i:Nat)(hi:hs[i]? =some (V2 γ ck rv F0 j b it xs ed<|some x))(hb:UB γ F j b)(hc:UB γ F i' c)(G:i' =j)(hp:p=some c)(H:xs[i']? =some l)(hd:∀e,d' =some e->Nat.blt e n=true)(hT:T[0]? =some t)(ht:P.underlying t=some (.map kt vt))(ok:Xj P kt ck)(hx:QQ S ox=some (.map p))(hy:QQ S oy=some (ck x.1))(he:xs' =xs.set i' (YA l x.1))
  (k:GL O P eG rest ks Q (Hd n D (match d' with | some e=>(e,.tuple #[])::S | none=>S) F<|hs.set i<|V2 γ ck rv F0 j b it xs' ed none) m r):GL O P eG (⟨d',.call ⟨.builtin .delete,#[ox,oy],T⟩,ty,pos,after,none⟩::rest) ks Q (Hd n D S F hs) m r:=by
 obtain rfl:=hb.one hc G;subst hp;subst he;subst G;refine GG.step rfl (.inr rfl) λf a w I=> ?_;obtain⟨M,es,clock,l',L,last,hM,N,af,aF,hr,aG,hl,aH,R,o,s⟩:=XZ<|I.2.pull hi;obtain rfl:M=l:=by rw[hM] at H;simpa using H
 obtain⟨z,hz,W,u⟩:=s x rfl;obtain⟨kd,hu,v⟩:=ok.und;have X:(l'.map Prod.fst).Nodup:=(R.map _).nodup_iff.2 o;have Y:x∈l' :=by rw[<-hr.sJ.1,<-W];exact IR hz
 rcases hr.mE (k:=x.1) v 0 with⟨_,_,g3⟩ | ⟨q,e1,y,g1,g2,g3,g4,g5,g6⟩
 ·have:=g3 x Y;simp at this
 ·have hj:q < es.size:=by simpa using g2
  have hf:=run_findKey (w:=w) hu g1;rw[dO] at hf
  have aJ:y=x:=MR X (T2 g5) Y (by simpa using(mX.1 g6).symm);subst aJ;have A:(es.eraseIdxIfInBounds q).toList=es.toList.eraseIdx q:=by simp[Array.eraseIdxIfInBounds,hj]
  obtain⟨Z,aK⟩:∃Z,es.toList[q]? =some Z:=⟨_,C1 g2⟩;have B:(es.toList.zip l')[q]? =some (Z,y):=by rw[ib];exact⟨aK,g5⟩
  have aL:z=(Z,y):=by
   obtain⟨C,aM,ez⟩:=mv hz;have aA:(es.toList.zip l')[C]? =some z:=by rw[C1 aM,ez]
   have h1:=(ib.1 aA).2;have aB:=oJ.1 X;have aC:q < l'.length:=(DO.1 g5).1;have g:C < l'.length:=(DO.1 h1).1;have a1:l'[q]=y:=(DO.1 g5).2;have a2:l'[C]=y:=by rw[(DO.1 h1).2,W]
   have:C=q:=by
    rcases iC C q with h | h | h
    ·exact absurd (by rw[lL,lL,a1,a2])<|aB C q (by simpa using g) (by simpa using aC) h
    ·exact h
    ·exact absurd (by rw[lL,lL,a1,a2])<|aB q C (by simpa using aC) (by simpa using g) h
   subst this;rw[aA] at B;simpa using B
  have E:L.contains Z.born=true:=by
   have:=u;rw[aL] at this
   simp only at this
   rw[Array.contains_iff_mem];exact Array.mem_of_back? this
  refine⟨.tuple #[],Dec.put w c<|.map (es.eraseIdxIfInBounds q) clock,?_,k f _ _ ⟨?_,SH.push hi ?_⟩⟩
  ·have:(Builtin.delete_ T ty #[.map<|some c,ck y.1]).run P w= .ok (.tuple #[]) (Dec.put w c<|.map (es.eraseIdxIfInBounds q) clock):=by
    simp[Builtin.delete_,hT,YG ht,Yb N,ok.check,hf,Fg N]
   simp[execOp,resolve,invoke,builtin,I.1.eval hx,I.1.eval hy,this]
  ·cases d' with
   | none=>exact I.1.cz _
   | some e=>exact I.1.put (hd e rfl) _
  ·have h1:=(aF.mono λm f=>Zj f).put (o' :=.map (es.eraseIdxIfInBounds q) clock);have aN:i' < xs.length:=(DO.1 hM).1;refine Hl (M:=YA M y.1) (by rw[mu];simp[aN]) (w:=Dec.put w c<|.map (es.eraseIdxIfInBounds q) clock) ?_ (l' :=YA l' y.1) (by rw[A];exact g3) (by rw[A];exact aG.erase) hl ?_ (SF R o) (Bv o) λ_ h=>by cases h
   ·have h2:=h1.mono λm f=>Zj f;have h3:SH (Dec.put w c<|.map (es.eraseIdxIfInBounds q) clock) F (star (hole γ (QZ ck rv) F0 i' c xs) _):=h2.mono λm f=>Zj<|QR (λm f=>Zj f) f;exact(yO (y:=YA M y.1) h3).mono λm f=>QR (λm f=>Zj f)<|Zj f
   ·rw[A,g4,Lj,Tw B<|by simp only[E,RK]];exact aH
theorem Hd.nW(i:Nat)(le:F0<=F)(e:UB γ F j b)(hi:hs[i]? =some (V2 γ ck rv F0 j b it xs ed cur))(c:Hd n D S F hs a w):Hd n D S F (hs.set i<|V2 γ ck rv F j b it xs ed cur) a w:=⟨c.1,SH.push hi<|yM le e<|c.2.pull hi⟩
theorem GG.nW{g:Gp}(i:Nat)(le:F0<=F)(c:UB γ F j b)(hi:hs[i]? =some (V2 γ ck rv F0 j b it xs ed cur))(k:GG g (Hd n D S F<|hs.set i<|V2 γ ck rv F j b it xs ed cur) m r):GG g (Hd n D S F hs) m r:=by
 exact λe a w f=>k e a w<|Hd.nW i le c hi f
theorem GG.mG(i:Nat)(hi:hs[i]? =some (V2 γ ck rv F0 j b it xs [] cur))(k:GE O P ks Q (Hd n D S F<|hs.set i<|ZD γ (QZ ck rv) F0 xs) m r):GE O P ks Q (Hd n D S F hs) m r:=λe a w c=>k e a w ⟨c.1,SH.push hi<|qZ<|c.2.pull hi⟩
theorem Hd.nS{x:K1 (K×V)}(i:Nat)(hi:hs[i]? =some (V2 γ ck rv F0 j b it xs ed x))(e:Hd n D S F hs a w):Hd n D S F (hs.set i<|V2 γ ck rv F0 j b it xs ed none) a w:=
 ⟨e.1,SH.push hi (by
  obtain⟨M,es,c,l',f,last,g,_,_,hs,k,o,p,q,s,u,v⟩:=XZ<|e.2.pull hi;exact Hl g hs k o p q s u λ_ h=>by cases h)⟩
theorem GG.nS{g:Gp}{x:K1 (K×V)}(i:Nat)(hi:hs[i]? =some (V2 γ ck rv F0 j b it xs ed x))(k:GG g (Hd n D S F<|hs.set i<|V2 γ ck rv F0 j b it xs ed none) m r):GG g (Hd n D S F hs) m r:=by
 exact λc a w e=>k c a w<|Hd.nS i hi e
end
def MU(P:B3)(fn:lX)(F:Fz)(R:HP)(ρ:β->Fz->UV->Prop)(d:β->Fz->Q0 HP)(r:β):hP->Act->By->Prop:=bodyPostM Fence.wide 0 P fn (λe w' =>∃c v,F<=c/\e= .returned v/\ρ r c v/\SH w' c (star (Qh<|d r c) R))
theorem Xs.aE{f:Rw}{fn:lX}{c:la}{args:Q0 UV}{Hs:Q0 HP}{m:K1 β}{ρ:β->Fz->UV->Prop}{d:β->Fz->Q0 HP}
  (g:P.funcs[f]? =some fn) (i:fn.body=some c) (j:fn.ntmps=n) (l:Nat.ble args.length n=true)
  (k:∀r R,GC none P c [] (MU P fn F R ρ d r) (Hd n [] (D2 0 args) F<|Hs++[R]) m r):Xs P f args.toArray F Hs m ρ d:=by
 intro r e w R o;refine(hQ (n:=0)).1<|ot g i trivial<|k r R e _ w ⟨?_,o.mono λm e=>K7<|QR (λ_ h=>Jy h) e⟩;rw[j];exact WA l
section
variable{β:Type}{P:B3}{n:Nat}{S:Q0 (Nat×UV)}{F F' :Fz}{hs:Q0 HP}{ks:Q0 Kt}{fn:lX}{R:HP}{ρ:β->Fz->UV->Prop}{Hs' :β->Fz->Q0 HP}{x r:β}{rs:Q0 ResultVar}{vs:Q0 UV}{ms:Q0 (Nat×Nat)}
theorem Nr(is:Q0 Nat)(f:fn.results=rs.toArray)(g:v7 hs ms)(h:Ss P S F' (Hv hs ms) rs vs)(hi:YN is (Hv hs ms)=Hs' x F' ++[R])(le:F<=F')(hρ:ρ x F' (AU vs)):some x=some r->∀a w,Hd n (ms.map λp=>WZ p.2) S F' hs a w->LeavesInM Fence.wide 0 P fn a.tmps (λe w' =>∃F' v,F<=F'/\e= .returned v/\ρ r F' v/\SH w' F' (star (Qh<|Hs' r F') R)) a.defers .returning w:=by
 intro e a w c;simp only[W1] at e
 subst e;rw[c.1.2.1];refine NC c.2 g λw' h' => ?_
 exact⟨_,Jm (n:=n) (a:=a) (D:=a.defers) f ⟨⟨c.1.1,rfl,c.1.2.2⟩,h'⟩ h,F',_,le,rfl,hρ,h'.mono λm i=>by
  have d:=Yw (ks:=is) i;rw[hi] at d
  exact XM<|Yx d⟩
theorem GG.nl(is:Q0 Nat)(ms:Q0 (Nat×Nat))(c:fn.results=rs.toArray)(d:v7 hs ms)(h:Ss P S F' (Hv hs ms) rs vs)(hi:YN is (Hv hs ms)=Hs' x F' ++[R])(le:F<=F')(hρ:ρ x F' (AU vs)):GC O P .ret ks (MU P fn F R ρ Hs' r) (Hd n (ms.map λp=>WZ p.2) S F' hs) (some x) r:=GG.cw<|Nr is c d h hi le hρ
theorem GG.rp(is:Q0 Nat)(ms:Q0 (Nat×Nat))(c:fn.results=rs.toArray)(d:v7 hs ms)(h:Ss P S F' (Hv hs ms) rs vs)(hi:YN is (Hv hs ms)=Hs' x F' ++[R])(le:F<=F')(hρ:ρ x F' (AU vs)):GE O P [] (MU P fn F R ρ Hs' r) (Hd n (ms.map λp=>WZ p.2) S F' hs) (some x) r:=GG.cK<|Nr is c d h hi le hρ
end
def M1(d:Nat)(c:Uo α)(F:Fz)(p:K1 C3)(cap:Nat)(l:Q0 α):Prop:=QG d c F p cap l/\(l=[]->p=none/\cap=0)
section
variable{α:Type}{sz:Nat}{c:Uo α}{F F' :Fz}{p:K1 C3}{cap:Nat}{l:Q0 α}
theorem M1.nil(h:M1 sz c F p cap l)(e:l=[]):p=none/\cap=0:=h.2 e
theorem M1.zero:M1 sz c F none 0 ([]:Q0 α):=⟨QG.nil,λ_=>⟨rfl,rfl⟩⟩
end
def gi(l:Q0 α):K1 Unit:=match l with | []=>some () | _::_=>none
theorem EP{l:Q0 α}{u:Unit}(h:gi l=some u):l=[]:=by
 cases l with
 | nil=>rfl
 | cons x l=>cases h
section
variable{K V:Type}{ck:K->UV}{rv:Fz->V->UV->Prop}{γ:Nat}{xs ys:Q0 (Q0<|K×V)}{n:Nat}{D:Q0 AC}{S:Q0 (Nat×UV)}{F F0:Fz}{hs:Q0 HP}{a:Act}{w:By}
theorem Hd.mV(i:Nat)(hi:hs[i]? =some (ZD γ (QZ ck rv) F0 xs))(c:PI xs ys)(d:Hd n D S F hs a w):Hd n D S F (hs.set i<|ZD γ (QZ ck rv) F0 ys) a w:=by
 refine⟨d.1,SH.push hi ?_⟩;refine(d.2.pull hi).al c.1 λf x y b' m g h j=> ?_;obtain⟨l',k,l,o⟩:=j;have e:=c.2 f x y g h;exact⟨l',k.trans e,(e.map _).nodup_iff.1 l,o⟩
end
end
section
section
variable{β:Type}{O:K1 Nat}{P:B3}{ks:Q0 Kt}{Q:hP->Act->By->Prop}{m:K1 β}{r:β}{n:Nat}{D:Q0 AC}{S0:Q0 (Nat×UV)}{F:Fz}{hs:Q0 HP}{l:Q0 Nm}
theorem FB.nk{k:Nat}{a0 a b:Act}{vs:Q0 UV}{L g:Nat->Bool}(c:FB l k n a0 vs L a)(c' :FB l k n a0 vs g b)(p:k<=vs.length){t:Nat}(i:∀j,j < k->V6 l j=some t->L j=g j):a.tmps.getD t undef=b.tmps.getD t undef:=by
 by_cases h:∃j,j < k/\L j=true/\V6 l j=some t
 ·obtain⟨j,d,f,e⟩:=h;have o:vs[j]? =some vs[j]:=C1 eB;rw[c.got j _ t d f e o,c'.got j _ t d (by rw[<-i j d e];exact f) e o]
 ·rw[c.old t λj d f e=>h ⟨j,d,f,e⟩,c'.old t λj d f e=>h ⟨j,d,by rw[i j d e];exact f,e⟩]
end
end
section
variable{Q:hP->Act->By->Prop}{l:Q0 Nm}{P:B3}{st:Q0 Nat}{n p:Nat}
theorem Fz.r{F:Fz}:F<=F:=Fz.le_refl F
theorem Fz.t{F G H:Fz}(h:F<=G)(k:G<=H):F<=H:=Fz.le_trans h k
section
variable{O:K1 Nat}{μ:Md}
def vB(O:K1 Nat)(P:B3)(eG:So Nm)(Q:hP->Act->By->Prop):Q0 Nat->Q0 Nm->Act->By->Prop
 | [],l,a,w=>wpS P eG w (λb=>Q .normal b w) l a
 | p::st,l,a,w=>wpS P eG w (λb=>Xl O P eG (Exit.then (vB O P eG Q st<|l.drop<|p+1) Q) ((l.drop p).take 1) b w) (l.take p) a
def uJ(l:Q0 Nm)(c p i:Nat)(o:Nm):Bool:=(o.looksAt l.toArray).all λt=>(List.range p).all λj=>match V6 l (c+j) with
 | none=>true
 | some d=> !Nat.beq d t||((o.after.toList.any λe=>Region.binds .any e&&Nat.beq e.on (c+j))||(Nat.blt i j&&match l[c+j]? with
  | none=>false
  | some a=>a.after.toList.any λe=>Region.binds .any e&&Nat.beq e.on (c+i)))
def NB(l:Q0 Nm)(c p:Nat):Nat->Q0 Nm->Bool
 | _,[]=>true
 | i,o::os=>uJ l c p i o&&NB l c p (i+1) os
theorem Rb{c:Nat}:∀{os:Q0 Nm} {a:Nat},NB l c p a os=true->∀(i:Nat) (o:Nm),os[i]? =some o->uJ l c p (a+i) o=true
 | [],_,_,i,o,h=>by simp at h
 | x::os,a,b,i,o,h=>by
  simp only[NB,Do] at b
  cases i with
  | zero=>simp at h;subst h;exact b.1
  | succ i=>
   have:=Rb b.2 i o (by simpa using h);rw[show a+1+i=a+(i+1) by omega] at this
   exact this
def jt(n:Nat)(l:Q0 Nm)(c p:Nat):Bool:=Bs n ((l.drop c).take p)&&NB l c p 0 ((l.drop c).take p)&&((l.drop c).take p).all λo=>He o.op&&uB o.op
def dA(a:Q0 (Q0 Bool))(len d:Nat):Bool:=yp d (a.getD d [])&&(List.range len).all λt=> !Nat.blt d t||(a.getD t []).getD d false
def xv(n:Nat)(l:Q0 Nm)(a:Q0 (Q0 Bool)):Q0 Nat->Nat->Bool
 | [],c=>jt n l c (l.length - c)
 | p::st,c=>Nat.blt (c+p) l.length&&jt n l c p&&dA a l.length (c+p)&&xv n l a st (c+p+1)
def kL(n:Nat)(l:Q0 Nm)(st:Q0 Nat):Bool:=LK 0 l&&xv n l (W7 [] l) st 0
def US(l:Q0 Nm):Q0 Nat->Nat->Nat
 | [],c=>l.length - c
 | p::_,_=>p
def vK(O:K1 Nat)(P:B3)(l:Q0 Nm)(Q:hP->Act->By->Prop):Q0 Nat->Nat->Act->By->Prop
 | [],_,a,w=>Q .normal a w
 | p::st,c,a,w=>Xl O P l.toArray (Exit.then (vB O P l.toArray Q st<|l.drop<|c+p+1) Q) ((l.drop<|c+p).take 1) a w
theorem OK{a:Q0 (Q0 Bool)}:∀{st:Q0 Nat} {c:Nat},xv n l a st c=true->c<=l.length->jt n l c (US l st c)=true/\c+US l st c<=l.length
 | [],c,h,b=>⟨h,by show c+(l.length - c)<=l.length;omega⟩
 | p::st,c,h,_=>by
  simp only[xv,Do] at h
  exact⟨h.1.1.2,Nat.le_of_lt<|A4 h.1.1.1⟩
theorem vL{w:By}:∀{st:Q0 Nat} {c:Nat} {a:Act},c<=l.length->vB O P l.toArray Q st (l.drop c) a w->wpS P l.toArray w (λb=>vK O P l Q st c b w) ((l.drop c).take<|US l st c) a
 | [],c,a,d,h=>by
  have e:(l.drop c).take (US l [] c)=l.drop c:=IF (by show(l.drop c).length<=l.length - c;rw[lK];exact S2 _);rw[e];exact h
 | p::st,c,a,d,h=>by
  unfold vB at h
  rw[en,en] at h
  exact h
structure kg(O:Option Nat)(P:Program)(l:List Oper)(n:Nat)(Q:Exit->Act->World->Prop)(dfs:List Deferred)(st:List Nat)(c:Nat)(a0:Act)(vs:List Value)(L:Nat->Bool)(a:Act)(w:World):Prop where
 stg:xv n l (W7 [] l) st c=true
 cl:c<=l.length
 down:Down l L
 pre:∀j,j < c->L j=true
 out:∀j,c+US l st c<=j->L j=false
 size:a0.tmps.size=n
 len:vs.length=US l st c
 tail:vK O P l Q st c (OY a0 ((l.drop c).take<|US l st c) vs) w
 step:∀i o v,((l.drop c).take<|US l st c)[i]? =some o->vs[i]? =some v->PH P l.toArray w o v (OY a0 (((l.drop c).take<|US l st c).take i)<|vs.take i)
 char:FB (l.drop c) (US l st c) n a0 vs (λj=>L<|c+j) a
theorem kg.enter{c:Nat}{a:Act}{L:Nat->Bool}{w:By}(hs:xv n l (W7 [] l) st c=true)(e:c<=l.length)(h:Down l L)(d:∀j,j < c->L j=true)(b:∀j,c<=j->L j=false)(f:a.tmps.size=n)(i:vB O P l.toArray Q st (l.drop c) a w):∃vs,kg O P l n Q [] st c a vs L a w:=by
 obtain⟨vs,k,m,o⟩:=OA<|vL e i;have g:=(OK hs e).2;refine⟨vs,hs,e,h,d,λj r=>b j eB,f,?_,m,o,⟨f,rfl,λj v t _ q=> ?_,λt _=>rfl⟩⟩
 ·rw[k,oR,lK];omega
 ·have:L (c+j)=true:=q;rw[b (c+j) eB] at this;cases this
section
variable{P:B3}{n:Nat}{D:Q0 AC}{l:Q0 Nm}
theorem Nz{a:Act}{d:K1 Tmp}{v:UV}:(a.put d v).tmps.size=a.tmps.size:=by
 cases d with
 | none=>rfl
 | some t=>show(a.tmps.setIfInBounds t v).size=_;simp
end
section
variable{β:Type}{P:B3}{ks:Q0 Kt}{Q:hP->Act->By->Prop}{m:K1 β}{r:β}{n:Nat}{D:Q0 AC}{S0:Q0 (Nat×UV)}{F:Fz}{hs:Q0 HP}{l:Q0 Nm}
theorem uj{id:Nat}(hm:P.follows .mixedOrders=true)(aU:Q0 Nat)(hB:kL n l aU=true){a0:Act}{w0:By}(aj:a0.tmps.size=n)(ak:vB O P l.toArray Q aU l a0 {w0 with drawn:=w0.drawn+1}):(Code.region id l.toArray true).wpIn (Ry O) 0 P Q a0 w0:=by
 simp only[kL,Do] at hB
 obtain⟨aC,al⟩:=hB;have aG:RE l (W7 [] l):=CA (pre:=[]) rfl rfl (λt m h=>by simp at h);refine X0 hm (λL a w=>∃st c a1 vs,kg O P l n Q [] st c a1 vs L a w) (λi o h e he S=>by have:=HQ aC i o (by simpa using h) e he S;omega) ?_ ?_ ?_
 ·obtain⟨vs,f⟩:=kg.enter (L:=λ_=>false) al (oO _) (λi o _ h=>(by cases h)) (λj x=>absurd x eB) (λ_ _=>rfl) aj ak;exact⟨_,_,_,_,f⟩
 ·rintro L a w i o ho aV A ⟨st,c,a1,vs,f⟩;have C:l[i]? =some o:=by simpa using ho
  have M:i < l.length:=Zx C
  have bA:c<=i:=by
    rcases kn i c with h | h
    ·have:=f.pre i h;rw[aV] at this;cases this
    ·exact h
  obtain⟨y,aW⟩:=OK f.stg f.cl;have E:=T5 (l:=l.drop c) (k:=US l st c) (a0:=a1) (vs:=vs) f.size (by simp only[jt,Do] at y;exact y.1.1) (by rw[lK];omega) f.len
  have aD:Down l (Kb L i):=λj oj N x e he S=>by
    have:L e.on=true:=by
     by_cases aX:j=i
     ·subst aX;rw[C] at N;cases N;exact A e he S
     ·exact f.down j oj N (by simpa[Kb,aX] using x) e he S
    simp only[Kb];split
    ·rfl
    ·exact this
  rcases kn i (c+US l st c) with hi | hi
  ·
    obtain⟨q,rfl⟩:∃q,i=c+q:=⟨i - c,by omega⟩;have hq:q < US l st c:=by omega
    have aI:((l.drop c).take<|US l st c)[q]? =some o:=by rw[yb,BY hq,me];exact C
    have ao:(l.drop c)[q]? =some o:=by rw[me];exact C
    simp only[jt,Do,IN] at y
    obtain⟨⟨X,Y⟩,aZ⟩:=y;obtain⟨aq,ar⟩:=aZ o<|T2 aI;have aa:=Rb Y q o aI;rw[dO] at aa
    obtain⟨v,hv⟩:∃v,vs[q]? =some v:=⟨vs[q]'(by rw[f.len];exact hq),C1 _⟩
    have T:PH P l.toArray w o v a:=(f.step q o _ aI hv).of_same ar λt ht=>by
     refine(E q eB).nk f.char (by rw[f.len];exact S2 _) λj x e=> ?_
     have e' :V6 l (c+j)=some t:=by
      unfold V6 at e ⊢;rw[me] at e;exact e
     have B:=IN.1 (IN.1 aa t ht) j<|mn.2 x;rw[e'] at B
     simp only[Nat.beq_refl,RK,lU,nn] at B
     rcases B with B | B
     ·simp only[n1,Do] at B
      obtain⟨e1,aJ,Z,V⟩:=B;have V:e1.on=c+j:=j0 V;have W:e1∈o.after:=by simpa using aJ
      have hL:=A e1 W Z;have:=HQ aC (c+q) o C e1 W Z;rw[V] at hL
      show Nat.blt j q=L (c+j);rw[hL];exact hN<|show j+1<=q by omega
     ·simp only[Do] at B
      obtain⟨ab,G⟩:=B;have ab:q < j:=A4 ab
      have h3:Nat.blt j q=false:=by
       cases S:Nat.blt j q with
       | false=>rfl
       | true=>have:=A4 S;omega
      show Nat.blt j q=L (c+j);rw[h3];cases au:L (c+j) with
      | false=>rfl
      | true=>
       exfalso;cases N:l[c+j]? with
       | none=>rw[N] at G;cases G
       | some oj=>
        rw[N] at G
        simp only[n1,Do] at G
        obtain⟨e1,aJ,Z,V⟩:=G;have:=f.down (c+j) oj N au e1 (by simpa using aJ) Z;rw[j0 V,aV] at this
        cases this
    have g:∃aK c2 a2 aL,kg O P l n Q [] aK c2 a2 aL (Kb L<|c+q) (a.put o.dst v) w:=by
     refine⟨st,c,a1,vs,f.stg,f.cl,aD,λj x=> ?_,λj x=> ?_,f.size,f.len,f.tail,f.step,?_⟩
     ·simp only[Kb];rw[B1 eB];exact f.pre j x
     ·simp only[Kb];rw[B1 eB];exact f.out j x
     ·have:=f.char.put X hq ao hv
      have e:(λj=>Kb L (c+q)<|c+j)=Kb (λj=>L<|c+j) q:=by
       funext j;simp only[Kb];by_cases x:j=q
       ·subst x;simp
       ·rw[B1 x,B1 eB]
      rw[e];exact this
    rcases T with⟨B,G⟩ | ⟨B,G⟩
    ·rw[BY B];refine⟨.inr aq,?_⟩;rw[G];exact g
    ·rw[B1 (by simp[B]),<-G];exact g
  ·
    cases st with
    | nil=>exact absurd M (by have:US l [] c=l.length - c:=rfl;omega)
    | cons p aA=>
     have H:US l (p::aA) c=p:=rfl;rw[H] at hi E aW
     have I:=f.stg;simp only[xv,dA,Do,IN] at I
     obtain⟨⟨⟨aB,_⟩,aM,aN⟩,T⟩:=I;have aB:c+p < l.length:=A4 aB;have aE:∀(t j:Nat) (m:Q0 Bool),(W7 [] l)[t]? =some m->m.getD j false=true->∃s,X6 l s t j=true:=λt j m B G=>aG t m B j G
     have aF:∀t,t < l.length->(W7 [] l)[t]? =some ((W7 [] l).getD t []):=λt ht=>by
      rw[s6];cases h:(W7 [] l)[t]? with
      | some m=>rfl
      | none=>
       exfalso
       have:(W7 [] l).length=l.length:=by
        have gen:∀(os:Q0 Nm) (d:Q0 (Q0 Bool)),(W7 d os).length=d.length+os.length:=by
         intro os
         induction os with
         | nil=>intro d;simp[W7]
         | cons o os ih=>intro d;rw[W7,ih];simp;omega
        simpa using gen l []
       rw[oK] at h
       omega
     have ax:i=c+p:=by
      rcases kn (c+p) i with h | h
      ·exfalso;have B:=aN i<|mn.2 M;rw[show Nat.blt (c+p) i=true from hN h] at B
       simp only[RK,lU] at B
       obtain⟨s,hs⟩:=aE i (c+p) _ (aF i M) B;have:=Xb f.down hs λo' K e he S=>by rw[C] at K;cases K;exact A e he S
       rw[f.out (c+p) (by rw[H];exact S2 _)] at this
       cases this
      ·omega
     subst ax
     have z:∀j,j < c+p->L j=true:=λj x=>by
      obtain⟨s,hs⟩:=aE (c+p) j _ (aF _ M)<|Mw aM x;exact Xb f.down hs λo' K e he S=>by rw[C] at K;cases K;exact A e he S
     have R:=f.char;rw[H] at R
     have aO:(λj=>L<|c+j)=λj=>Nat.blt j p:=by
      funext j;rcases kn j p with h | h
      ·rw[z (c+j) eB];exact(hN h).symm
      ·rw[f.out (c+j) (by rw[H];omega)];cases S:Nat.blt j p with
       | false=>rfl
       | true=>have:=A4 S;omega
     have ad:=f.len;rw[H] at ad
     have G:=E p<|S2 _;rw[IF (show((l.drop c).take p).length<=p by simp;omega),IF<|show vs.length<=p by omega] at G
     rw[aO] at R
     have aP:=R.eq G eB λj x=>hN x;have b:=f.tail;rw[H,<-aP] at b
     have aQ:(l.drop<|c+p).take 1=[o]:=by
      have hg:l[c+p]'M=o:=by simpa[M] using C
      rw[<-hg,u2 M];rfl
     change Xl O P l.toArray (Exit.then (vB O P l.toArray Q aA<|l.drop<|c+p+1) Q) ((l.drop<|c+p).take 1) a w at b
     rw[aQ] at b
     have g:∀a' w',a'.tmps.size=n->vB O P l.toArray Q aA (l.drop<|c+p+1) a' w'->∃aK c2 a2 aL,kg O P l n Q [] aK c2 a2 aL (Kb L<|c+p) a' w' :=λa' w' hz h=>by
      obtain⟨vs',ay⟩:=kg.enter (L:=Kb L<|c+p) T eB aD (λj x=>by
       simp only[Kb];by_cases ae:j=c+p
       ·rw[BY ae]
       ·rw[B1 ae];exact z j eB) (λj x=>by
       simp only[Kb];rw[B1 eB];exact f.out j (by rw[H];omega)) hz h
      exact⟨_,_,_,_,ay⟩
     unfold Xl at b
     split
     ·rename_i aR;rw[BY aR] at b
      refine Ol (λu w' h=>g _ w' (by rw[Nz,R.size]) h) (λd w' h=>g _ w' ?_ h) (λe a w he hq=>by cases e<;>first | exact absurd rfl he | exact hq) b;rw[Nz];exact R.size
     ·rename_i aR;rw[B1 aR] at b
      exact g _ _ (by rw[Nz,R.size]) b
 ·rintro L a w z ⟨st,c,a1,vs,f⟩;obtain⟨y,aW⟩:=OK f.stg f.cl;cases st with
  | cons p aA=>
    exfalso;have I:=f.stg;simp only[xv,Do] at I
    have aB:c+p < l.length:=A4 I.1.1.1;have:=z (c+p) (by simpa using aB);rw[f.out (c+p)<|S2 _] at this
    cases this
  | nil=>
    have E:=T5 (l:=l.drop c) (k:=US l [] c) (a0:=a1) (vs:=vs) f.size (by simp only[jt,Do] at y;exact y.1.1) (by rw[lK];exact S2 _) f.len;have H:US l [] c=l.length - c:=rfl;have G:=E (US l [] c)<|S2 _;rw[IF (show((l.drop c).take<|US l [] c).length<=US l [] c by simp;omega),IF (show vs.length<=US l [] c by rw[f.len];exact S2 _)] at G
    have aO:FB (l.drop c) (US l [] c) n a1 vs (λj=>Nat.blt j<|US l [] c) a:=by
     refine⟨f.char.size,f.char.defs,λj v t x _ hd hv=>f.char.got j v t x (z _ eE) hd hv,λt ht=>f.char.old t λj x _=>ht j x<|hN x⟩
    have aP:=aO.eq G (by rw[f.len];exact S2 _) λj x=>hN x;have b:=f.tail;rw[<-aP] at b
    exact b
theorem GG.pC{id:Nat}(d:P.follows .mixedOrders=true)(e:kL n l (p::st)=true)
  (a:GL .s P l.toArray (l.take p) [] (λ_=>Xl O P l.toArray (Exit.then (vB O P l.toArray (Zw O P ks Q) st<|l.drop<|p+1)<|Zw O P ks Q)<|(l.drop p).take 1) (Hd n D S0 F hs) m r):GC O P (.region id l.toArray true) ks Q (Hd n D S0 F hs) m r:=by
 intro b a0 w c;exact uj d (p::st) e c.1.1<|a b a0 {w with drawn:=w.drawn+1} ⟨c.1,c.2.drew _⟩
end
section
variable{β:Type}{P:B3}{eG:So Nm}{l tl:Q0 Nm}{ks:Q0 Kt}{Q:hP->Act->By->Prop}{A:Act->By->Prop}{K:hP->Act->By->Prop}{m:K1 β}{r:β}
theorem GG.tC(h:GL O P eG tl [] K A m r):GL .s P eG [] [] (λ_=>Xl O P eG K tl) A m r:=λb a w c=>h b a w c
theorem GG.rR(h:GE O P ks Q A m r):GL .s P eG [] [] (λ_=>Zw O P ks Q .normal) A m r:=λb a w c=>h b a w c
theorem GG.nc(h:GL .s P eG (l.take p) [] (λ_=>Xl O P eG (Exit.then (vB O P eG K st<|l.drop<|p+1) K)<|(l.drop p).take 1) A m r):GE O P [] (Exit.then (vB O P eG K (p::st) l) K) A m r:=λb a w c=>h b a w c
theorem GG.an(h:GL .s P eG l [] (λ_=>K .normal) A m r):GE O P [] (Exit.then (vB O P eG K [] l) K) A m r:=λb a w c=>h b a w c
end
end
end
section
variable{l:Q0 H1}
def bs(l:Q0 H1):ByteArray:=⟨l.toArray⟩
theorem AI:(bs l).size=l.length:=rfl
theorem Es:(bs l).toList=l:=ByteArray.toList_mk l
theorem fG{i:Nat}:(bs l)[i]? =l[i]? :=by
 by_cases h:i < l.length
 ·have h' :i < (bs l).size:=h;rw[getElem?_pos (bs l) i h',getElem?_pos l i h];rfl
 ·have h' :¬i < (bs l).size:=h;rw[getElem?_neg (bs l) i h',getElem?_neg l i h]
theorem CW{i j:Nat}:(bs l).extract i j=bs ((l.drop i).take<|j - i):=by
 apply ByteArray.ext;rw[ByteArray.data_extract];show(l.toArray).extract i j=_;simp[bs,List.extract_toArray,List.take_drop]
def AR(s:Q0 H1):Q0 UV:=[.string<|bs s]
section
variable{O:K1 Nat}{μ:Md}
section
variable{P:B3}{a:Act}{S:Q0 (Nat×UV)}{n:Nat}{D:Q0 AC}{d:Nat}{ty t t' :S1}{pos:String}{after:So lY}{ox oy oz:L5}{kd kd' :r6}{x y:Int}{s u:Q0 H1}{w:By}
theorem wv(h:Sl n D S a)(_:P.underlying t=some .string)(b:QQ S ox=some (.string<|bs s))(c:QQ S oy=some (.string<|bs u)):(execOp a.eval ⟨some d,.binOp .eql t ox oy t',ty,pos,after,none⟩).run P w= .ok (.value<|.bool<|s==u) w:=by
 simp[execOp,h.eval b,h.eval c,eqGuard,binOp,Op.stringOp,Es]
theorem wu(h:Sl n D S a)(_:P.underlying t=some .string)(b:QQ S ox=some (.string<|bs s))(c:QQ S oy=some (.string<|bs u)):(execOp a.eval ⟨some d,.binOp .neq t ox oy t',ty,pos,after,none⟩).run P w= .ok (.value<|.bool<|!(s==u)) w:=by
 simp[execOp,h.eval b,h.eval c,eqGuard,binOp,Op.stringOp,Es]
theorem vf(h:Sl n D S a){T:So S1}(b:T[0]? =some t)(c:P.underlying t=some .string)(e:QQ S ox=some (.string<|bs s)):(execOp a.eval ⟨some d,.call ⟨.builtin .len,#[ox],T⟩,ty,pos,after,none⟩).run P w= .ok (.value<|.int .i64 s.length) w:=by
 simp[execOp,resolve,invoke,builtin,Builtin.len_,h.eval e,b,YG c,goInt,AI]
theorem vg(h:Sl n D S a)(b:P.underlying t=some .string)(e:QQ S ox=some (.string<|bs s))(f:QQ S oy=some (.int kd x)){c:H1}(g:ZX s x=some c):(execOp a.eval ⟨some d,.index t ox oy,ty,pos,after,none⟩).run P w= .ok (.value<|.int .u8 c.toNat) w:=by
 obtain⟨i,_,j⟩:=GF g;simp[execOp,h.eval e,h.eval f,Instr.index,asIntOf,YG b,i,fG,j]
theorem I2(b:P.underlying t=some .string)(h:0<=x/\x<=y)(h' :y<=s.length):(Instr.sliceAt t (.string<|bs s) (some<|.int kd x) (some<|.int kd' y) none).run P w= .ok (.string<|bs<|(s.drop x.toNat).take<|y.toNat - x.toNat) w:=by
 simp only[Instr.sliceAt,j3,YG b,Result.andThen,Instr.slice,Instr.sliceBounds,lI,lM,W2,Bm,B2,AI];rw[Wc (kd:=kd') eB];simp only[];rw[Wc eB];simp[CW]
theorem OT(b:P.underlying t=some .string)(h:0<=y)(h' :y<=s.length):(Instr.sliceAt t (.string<|bs s) none (some<|.int kd' y) none).run P w= .ok (.string<|bs<|s.take y.toNat) w:=by
 simp only[Instr.sliceAt,j3,YG b,Result.andThen,Instr.slice,Instr.sliceBounds,lI,lM,W2,Bm,B2,AI];rw[Wc (kd:=kd') eB];simp[CW]
theorem vi(h:Sl n D S a)(c:P.underlying t=some .string)(e:QQ S ox=some (.string<|bs s))(f:QQ S oy=some (.int kd x))(g:QQ S oz=some (.int kd' y))(b:ZZ s x y=some l):(execOp a.eval ⟨some d,.slice t ox (some oy) (some oz) none,ty,pos,after,none⟩).run P w= .ok (.value<|.string<|bs l) w:=by
 unfold ZZ at b
 split at b
 ·rename_i i;simp only[W1] at b
  simp only[execOp,h.eval e,h.eval f,h.eval g,L4,lZ,j3];rw[I2 c eB eB,b];rfl
 ·cases b
theorem Lx(h:Sl n D S a)(c:P.underlying t=some .string)(e:QQ S ox=some (.string<|bs s))(f:QQ S oz=some (.int kd' y))(b:ZZ s 0 y=some l):(execOp a.eval ⟨some d,.slice t ox none (some oz) none,ty,pos,after,none⟩).run P w= .ok (.value<|.string<|bs l) w:=by
 unfold ZZ at b
 split at b
 ·rename_i g;simp only[W1] at b
  simp only[execOp,h.eval e,h.eval f,L4,lZ,j3];rw[OT c eB eB,<-b];rfl
 ·cases b
end
section
variable{β:Type}{P:B3}{eG:So Nm}{rest:Q0 Nm}{ks:Q0 Kt}{Q:hP->Act->By->Prop}{m:K1 β}{r:β}
variable{n:Nat}{D:Q0 AC}{S:Q0 (Nat×UV)}{F:Fz}{hs:Q0 HP}{d:Nat}{ty t t' :S1}{pos:String}{after:So lY}{ox oy oz:L5}{kd kd' :r6}{x y:Int}{s u:Q0 H1}
theorem GG.sH(b:Nat.blt d n=true)(c:P.underlying t=some .string)(e:QQ S ox=some (.string<|bs s))(f:QQ S oy=some (.string<|bs u))(k:GL μ P eG rest ks Q (Hd n D ((d,.bool<|s==u)::S) F hs) m r):GL μ P eG (⟨some d,.binOp .eql t ox oy t',ty,pos,after,none⟩::rest) ks Q (Hd n D S F hs) m r:=GG.val b (λa w g=>wv g.1 c e f) k
theorem GG.nu(b:Nat.blt d n=true)(c:P.underlying t=some .string)(e:QQ S ox=some (.string<|bs s))(f:QQ S oy=some (.string<|bs u))(k:GL μ P eG rest ks Q (Hd n D ((d,.bool<|!(s==u))::S) F hs) m r):GL μ P eG (⟨some d,.binOp .neq t ox oy t',ty,pos,after,none⟩::rest) ks Q (Hd n D S F hs) m r:=GG.val b (λa w g=>wu g.1 c e f) k
theorem GG.cx{T:So S1}(b:Nat.blt d n=true)(c:T[0]? =some t)(e:P.underlying t=some .string)(f:QQ S ox=some (.string<|bs s))(k:GL μ P eG rest ks Q (Hd n D ((d,.int .i64 s.length)::S) F hs) m r):GL μ P eG (⟨some d,.call ⟨.builtin .len,#[ox],T⟩,ty,pos,after,none⟩::rest) ks Q (Hd n D S F hs) m r:=GG.val b (λa w g=>vf g.1 c e f) k
theorem GG.aR{f:H1->K1 β}(e:Nat.blt d n=true)(g:P.underlying t=some .string)(h:QQ S ox=some (.string<|bs s))(i:QQ S oy=some (.int kd x))(k:∀c,ZX s x=some c->GL μ P eG rest ks Q (Hd n D ((d,.int .u8 (c.toNat:Int))::S) F hs) (f c) r):GL μ P eG (⟨some d,.index t ox oy,ty,pos,after,none⟩::rest) ks Q (Hd n D S F hs) ((ZX s x).bind f) r:=GG.bind λc b=>GG.val e (λa w j=>vg j.1 g h i b)<|k c b
theorem GG.nR{f:Q0 H1->K1 β}(b:Nat.blt d n=true)(c:P.underlying t=some .string)(e:QQ S ox=some (.string<|bs s))(g:QQ S oy=some (.int kd x))(i:QQ S oz=some (.int kd' y))(k:∀z,ZZ s x y=some z->GL μ P eG rest ks Q (Hd n D ((d,.string<|bs z)::S) F hs) (f z) r):GL μ P eG (⟨some d,.slice t ox (some oy) (some oz) none,ty,pos,after,none⟩::rest) ks Q (Hd n D S F hs) ((ZZ s x y).bind f) r:=GG.bind λz h=>GG.val b (λa w j=>vi j.1 c e g i h)<|k z h
theorem GG.rV{f:Q0 H1->K1 β}(b:Nat.blt d n=true)(c:P.underlying t=some .string)(e:QQ S ox=some (.string<|bs s))(g:QQ S oz=some (.int kd' y))(k:∀z,ZZ s 0 y=some z->GL μ P eG rest ks Q (Hd n D ((d,.string<|bs z)::S) F hs) (f z) r):GL μ P eG (⟨some d,.slice t ox none (some oz) none,ty,pos,after,none⟩::rest) ks Q (Hd n D S F hs) ((ZZ s 0 y).bind f) r:=GG.bind λz h=>GG.val b (λa w i=>Lx i.1 c e g h)<|k z h
end
end
end
section
section
variable{O:K1 Nat}{μ:Md}
section
variable{β:Type}{P:B3}{eG:So Nm}{rest:Q0 Nm}{ks:Q0 Kt}{Q:hP->Act->By->Prop}{m:K1 β}{r:β}
variable{n:Nat}{D:Q0 AC}{S:Q0 (Nat×UV)}{F F0:Fz}{hs:Q0 HP}{d e cap T:Nat}{p:K1 C3}{l:Q0 Int}{ty t t' :S1}{pos:String}{after:So lY}{ox oy oz:L5}{kd kd' :r6}{x y:Int}{s u:Q0 H1}
theorem GG.pv{z:Q0 H1}(h:ZZ s 0 y=some z)(b:Nat.blt d n=true)(c:P.underlying t=some .string)(f:QQ S ox=some (.string<|bs s))(g:QQ S oz=some (.int kd' y))(k:GL μ P eG rest ks Q (Hd n D ((d,.string<|bs z)::S) F hs) m r):GL μ P eG (⟨some d,.slice t ox none (some oz) none,ty,pos,after,none⟩::rest) ks Q (Hd n D S F hs) m r:=GG.val b (λa w i=>Lx i.1 c f g h) k
def XL(s:Q0 H1):Q0 Int:=s.map λc=>(c.toNat:Int)
theorem GG.pR(A:Nat.blt d n=true)(B:P.underlying t=some .string)(C:P.underlying t' =some (.slice e))(E:P.underlying e=some (.int .u8))(j:QQ S ox=some (.string<|bs s))(K:s.length<=4294967296)
  (k:∀o p cap,F<=o->QG 1 (Ex<|Zy .u8) o p cap (XL s)->GL O P eG rest ks Q (Hd n D ((d,.slice p (XL s).length cap)::S) o hs) m r):GL O P eG (⟨some d,.convert t t' ox,ty,pos,after,none⟩::rest) ks Q (Hd n D S F hs) m r:=by
 refine GG.step rfl (.inr rfl) λG a w q=> ?_;have f:=run_bytes_of_string (P:=P) w t t' e (bs s) B C E;have g:=grownCap_ge w (bs s).size 0 e;have h:=grownCap_le_maxLen w (bs s).size 0 e (by rw[AI];unfold maxLen;omega);generalize grownCap w (bs s).size 0 e=cap at f g h
 obtain⟨le,v⟩:=SH.a6 (q.2.drew<|w.drawn+1)<|.cells (bytesRow (bs s) cap) e ((bytesRow (bs s) cap).size,(bytesRow (bs s) cap).size+1);have b:(XL s).length=s.length:=by simp[XL]
 have H:QG 1 (Ex<|Zy .u8) (F.add w.heap.size<|.cells (bytesRow (bs s) cap) e ((bytesRow (bs s) cap).size,(bytesRow (bs s) cap).size+1)) (some ⟨w.heap.size,0,none⟩) cap (XL s):=by
  refine⟨by rw[b];exact g,by unfold maxLen at h;omega,.inr ⟨_,_,_,_,_,rfl,Fz.cv _ _ _,λi x j o _=> ?_⟩⟩;have hi:i < s.length:=by rw[<-b];exact(DO.1 j).1
  simp only[XL,x8,C1 hi,L4,W1] at j
  subst j;show((bytesRow (bs s) cap).toList.drop<|0+i*1).take 1=[.int .u8 _]
  have I:(bytesRow (bs s) cap).toList=s.map (λc=>Value.int .u8 c.toNat)++List.replicate (cap - (bs s).size) (.int .u8 0):=by
   simp[bytesRow,bs]
  rw[I,dO,oP,lW eE,u2<|by simpa using hi];simp
 refine⟨_,_,by simp only[execOp,q.1.eval j,j3,f];rfl,?_⟩;have z:=k _ _ _ le H G;rw[b] at z
 exact z _ _ ⟨q.1.put A _,v⟩
theorem GG.pG{f:Q0 H1->K1 β}(g:Nat.blt d n=true)(i:P.underlying t=some .string)(j:P.underlying t' =some (.slice e))(o:P.underlying e=some (.int .u8))(q:QQ S ox=some (.string<|bs s))
  (k:∀z b p cap,VU [] s=some z->F<=b->QG 1 (Ex<|Zy .u8) b p cap (XL z)->GL O P eG rest ks Q (Hd n D ((d,.slice p (XL z).length cap)::S) b hs) (f z) r):GL O P eG (⟨some d,.convert t t' ox,ty,pos,after,none⟩::rest) ks Q (Hd n D S F hs) ((VU [] s).bind f) r:=
 GG.bind λz a=>by
  have c:=a;unfold VU at a
  split at a
  ·rename_i h;simp only[r7,W1] at a
   subst a;simp only[kp,dO] at h
   exact GG.pR g i j o q h λb p cap le v=>k _ b p cap c le v
  ·cases a
end
end
end
section
open Go.RowKit
variable{O:K1 Nat}{μ:Md}
def N0:So UV:=(Go.Lib.pow10Tab.map λz=>Value.int .u64 z).toArray
def xr(P:B3)(F:Fz)(name:String)(cs:So UV):Prop:=∃g T fr,P.globalNamed name=some g/\F.mem g=some (.cells cs T fr)
theorem xr.mono{P:B3}{F a:Fz}{name:String}{cs:So UV}(h:xr P F name cs)(le:F<=a):xr P a name cs:=let⟨g,T,fr,b,c⟩:=h;⟨g,T,fr,b,le.mem _ _ c⟩
section
variable{β:Type}{P:B3}{eG:So Nm}{rest:Q0 Nm}{ks:Q0 Kt}{Q:hP->Act->By->Prop}{m:K1 β}{r:β}
variable{n:Nat}{D:Q0 AC}{S:Q0 (Nat×UV)}{F:Fz}{hs:Q0 HP}
variable{d:Nat}{ty t t2 e:S1}{pos:String}{after:So lY}{ox oy oz:L5}{v:UV}{kd:r6}{x:Int}
theorem Th{α:Type}:∀{l:Q0 α} {i:Nat} {x:α},l[i]? =some x->l.set i x=l
 | [],_,_,h=>by simp at h
 | a::l,0,x,h=>by simp at h;subst h;rfl
 | a::l,i+1,x,h=>by simp at h ⊢;exact Th h
end
end
section
def Fz.del(F:Fz)(b:Nat):Fz:={F with mem:=λk=>if k=b then none else F.mem k}
theorem SH.nY{w:By}{F:Fz}{b:Nat}{o:Obj}{H:HP}(h:SH w F H)(f:F.mem b=some o):SH w (F.del b) (star (pt b o) H):=by
 obtain⟨m,g,k⟩:=h
 have d:m (.blk b)=none:=by
  rcases k.dj b with h | h
  ·exact h
  ·rw[f] at h;cases h
 refine⟨m.set (.blk b)<|.obj o,C0 d g,?_,?_,?_,?_,k.os,k.tape,k.out⟩
 ·intro x;by_cases e:x=b
  ·subst e;exact .inr<|by simp[Fz.del]
  ·rcases k.dj x with h | h
   ·exact .inl<|by simpa[Mem.set,e] using h
   ·exact .inr<|by simpa[Fz.del,e] using h
 ·intro x c e;by_cases a:x=b
  ·subst a;simp[Mem.set] at e;subst e;exact⟨o,rfl,k.frz _ _ f⟩
  ·simp[Mem.set,a] at e;exact k.own x c e
 ·intro γ c e;exact k.gst γ c<|by simpa[Mem.set] using e
 ·intro x c e;by_cases a:x=b
  ·subst a;simp[Fz.del] at e
  ·exact k.frz x c<|by simpa[Fz.del,a] using e
end
section
abbrev bk:=Nat->Int
end
section
variable{α:Type}{c:Uo α}{l:Q0 α}{cap sz e:Nat}{F0:Fz}
section
variable{β:Type}{P:B3}{O:K1 Nat}{eG:So Nm}{rest:Q0 Nm}{ks:Q0 Kt}{Q:hP->Act->By->Prop}{m:K1 β}{r:β}
variable{n:Nat}{D:Q0 AC}{S:Q0 (Nat×UV)}{F:Fz}{hs:Q0 HP}{d:Nat}{ty:S1}{pos:String}{after:So lY}{T:So S1}
theorem QG.nw{b:Nat}{cs:Q0 UV}{l2:Q0 α}(le:F0<=F)(f:F<=F.add b (.cells cs.toArray e (0,0)))(s:l.length<=cap)(h:cap<=9223372036854775807)(g:Jj sz c F0 l cs)(i:∃k,l2=l.take k):QG sz c (F.add b<|.cells cs.toArray e (0,0)) (some ⟨b,0,none⟩) cap l2:=by
 obtain⟨q,rfl⟩:=i;refine⟨by rw[oR];omega,h,.inr ⟨b,0,cs.toArray,e,(0,0),rfl,Fz.cv _ _ _,λj x a o p=> ?_⟩⟩;rw[yb] at a
 split at a
 ·simpa using g j x a o (Fz.t le<|Fz.t f p)
 ·cases a
theorem GG.nx{p:K1 C3}{G:la}(i:Nat)(hi:hs[i]? =some (Ql sz c F0 e p cap l))(v:F0<=F)
  (k:∀t,F<=t->QG sz c t p cap l->(∀g w f,t<=g->SH w g (Qh f)->∃q,F<=q/\SH w q (Qh<|Ql sz c F0 e p cap l::f))->GC O P G ks Q (Hd n D S t<|hs.eraseIdx i) m r):GC O P G ks Q (Hd n D S F hs) m r:=
 λo a w u=>by
  have N:=u.2.pull hi;obtain⟨R,⟨V,W,X,H,Y,⟨I,K,Z⟩,hq⟩,L⟩:=N;rcases Z with⟨rfl,rfl⟩ | ⟨b,cs,rfl,M,hl,s⟩
  ·have e1:l=[]:=RW eB;subst e1;refine k F (Fz.le_refl _) ⟨by simp,by simp,.inl rfl⟩ (λg w f le h=>⟨g,le,h.mono λm o=> ?_⟩) o a w ⟨u.1,u.2.sD i⟩;exact⟨λ_=>none,m,λ_=>.inl rfl,λ_ _ e=>by simp at e,Mem.sub.refl _,Pb,o⟩
  ·have hh:SH w F (star (pt b<|.cells cs.toArray e (0,0))<|Qh<|hs.eraseIdx i):=⟨R,⟨V,W,X,H,Y,M,hq⟩,L⟩
   have y:F.mem b=none:=by
    rcases L.dj b with h | h
    ·have:=H _ _ M;rw[h] at this;cases this
    ·exact h
   obtain⟨j,z⟩:=hh.freeze;refine k _ j (QG.nw v j I K s ⟨l.length,by simp⟩) (λg w' f le hw=> ?_) o a w ⟨u.1,z⟩;have A:=le.mem _ _<|Fz.cv F b<|.cells cs.toArray e (0,0)
   have B:F<=g.del b:=⟨le.os,le.tape,le.out,λk x C=>by
    have hk:k≠b:=λe=>by rw[e,y] at C;cases C
    simp only[Fz.del,hk,Bm];exact le.mem _ _<|j.mem _ _ C,le.gh,le.gn⟩
   exact⟨g.del b,B,(hw.nY A).mono λ_ o=>QP (λm' E=>⟨I,K,.inr ⟨b,cs,rfl,E,hl,s⟩⟩) o⟩
theorem GG.su{γ:Type}{p:K1 C3}{l2:Q0 α}{f:Rw}{eb u vs:Q0 UV}{of:L5}{os:Q0 L5}{C:K1 γ}{ρ:γ->Fz->UV->Prop}{g:γ->K1 β}(ρ' :γ->UV->Prop)(i:Nat)(hi:hs[i]? =some (Ql sz c F0 e p cap l))(E:F0<=F)(z:∃k,l2=l.take k)(W:Nat.blt d n=true)
  (o:∀args w,(callFunc f args).run P w= .ok (.enter f args) w) (hf:QQ S of=some (.func (.func f) #[] eb.toArray)) (ha:Un S os=some vs) (has:vs++eb=u)
  (X:∀G,F<=G->QG sz c G p cap l2->KJ P f u.toArray G C ρ) (hρ:∀x j v,ρ x j v->ρ' x v)
  (k:∀x j v,C=some x->F<=j->ρ' x v->GL O P eG rest ks Q (Hd n D ((d,v)::S) j hs) (g x) r):GL O P eG (⟨some d,.call ⟨.value of,os.toArray,T⟩,ty,pos,after,none⟩::rest) ks Q (Hd n D S F hs) (C.bind g) r:=
 GG.sq rfl (.inr rfl) λs a w A=>by
  subst has;refine⟨Wy A.1 o hf ha,?_⟩;cases he:C with
  | none=>rw[he] at s;cases s
  | some y=>
   rw[he] at s
   have hp:=A.2.pull hi;obtain⟨mm,⟨m1,m2,dd,Y,s2,⟨Z,h2,h3⟩,hq⟩,kk⟩:=hp;rcases h3 with⟨rfl,rfl⟩ | ⟨b,cs,rfl,hb,hl,B⟩
   ·have e1:l2=[]:=by
     obtain⟨q,rfl⟩:=z;rw[RW (l:=l) eB];simp
    subst e1;refine((X F (Fz.le_refl _) ⟨by simp,by simp,.inl rfl⟩) y he w _ A.2).mono ?_;rintro _ w' ⟨j,v,le,rfl,H,I⟩;exact⟨_,rfl,k y j v he le (hρ _ _ _ H) s _ _ ⟨A.1.put W _,I⟩⟩
   ·have hh:SH w F (star (pt b<|.cells cs.toArray e (0,0))<|Qh<|hs.eraseIdx i):=⟨mm,⟨m1,m2,dd,Y,s2,hb,hq⟩,kk⟩
    have K:F.mem b=none:=by
     rcases kk.dj b with h | h
     ·have:=Y _ _ hb;rw[h] at this;cases this
     ·exact h
    obtain⟨t,L⟩:=hh.freeze;refine(X _ t (QG.nw E t Z h2 B z) y he w _ L).mono ?_;rintro _ w' ⟨j,v,le,rfl,H,I⟩;have M:=le.mem _ _<|Fz.cv F b<|.cells cs.toArray e (0,0)
    have N:F<=j.del b:=⟨le.os,le.tape,le.out,λk x R=>by
     have hk:k≠b:=λe=>by rw[e,K] at R;cases R
     simp only[Fz.del,hk,Bm];exact le.mem _ _<|t.mem _ _ R,le.gh,le.gn⟩
    refine⟨_,rfl,k y (j.del b) v he N (hρ _ _ _ H) s _ _ ⟨A.1.put W _,?_⟩⟩;have h5:=I.nY M;have h6:SH w' (j.del b) (star (Ql sz c F0 e (some ⟨b,0,none⟩) cap l)<|Qh<|hs.eraseIdx i):=h5.mono λ_ s=>QP (λm' V=>⟨Z,h2,.inr ⟨b,cs,rfl,V,hl,B⟩⟩) s;have h7:=SH.push hi h6
    rwa[Th hi] at h7
end
end
end Go.Dec
end
