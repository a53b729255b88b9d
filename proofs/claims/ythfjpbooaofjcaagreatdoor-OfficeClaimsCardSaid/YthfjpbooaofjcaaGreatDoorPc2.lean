/- For OfficeClaims. -/
import Derived.Test.YthfjpbooaofjcaaGreatDoorPc1
import Derived.Shelf.SlIterI.Nil
import Derived.Scope
import Derived.Laws.Strings
import Derived.Laws.BytesArg
import Derived.Laws.IdiomStrings
import Derived.Laws.AppendOwn
import Derived.Lib.AppendIntMem
import Derived.Lib.BufferKept
noncomputable section
namespace Go.Dec
abbrev H1:=@UInt8
abbrev S1:=@List.mem_of_getElem?
abbrev nn:=@List.getD_eq_getElem?_getD
abbrev oh:=@Nat.zero_le
abbrev qAS:=@Nat.mul_one
abbrev qAm:=@List.take_succ_cons
abbrev qBG:=@List.getElem?_zip_eq_some
abbrev qBZ:=@List.mem_append_left
end Go.Dec
namespace Go.Dec
variable{V β α τ K:Type}{P:B2}{F F0 F' :Fz}{w w' :By}{O:Q2 Nat}{μ:Md}{H:HP}{o:Obj}{x y:Int}{b clock n d γ j c e i it sz cap:Nat}{es:C3 ta}{l rest:Q0 L0}{eX:C3 L0}{ks:Q0 Kt}{Q:s6->Act->By->Prop}{D:Q0 AT}{S S0:Q0 (Nat×K2)}{hs Hs:Q0 HP}{ty t' :S2}{pos:String}{after:C3 oX}{ox of oy oz:OF}{p:Q2 C1}{eY vs:Q0 K2}{g L:Nat->Bool}{ps:Q0 Tmp}{assign body:oZ}{a a0:Act}{v:K2}{A:Act->By->Prop}{u s:Q0 H1}{T:C3 S2}{fn:oW}{kd kd' :lO}{rv:Fz->V->K2->Prop}{k:τ->Q2 β}{m:Q2 β}{f:Q0 H1->Q2 β}{arg:α->Fz->Q0 K2->Prop}{bm:α->τ->Q2 τ}{ρ:β->Fz->K2->Prop}{xs:Q0 (Q0<|K×V)}{ck:K->K2}{ix:Q0 (K×V)}{l2:Q0 α}
section
variable{k:S2}
open Go.Maps Go.WideElems Go.RowKit Go.MapKept Go.WideShapes
theorem SH.below(h:SH w F H)(d:Below w.heap.size w w'):SH w' F H:=by
 obtain⟨m,a,k⟩:=h;refine⟨m,a,k.dj,λb c e=> ?_,k.gst,λb o e=> ?_,d.os.trans k.os,d.tape.trans k.tape,d.output.trans k.out⟩
 .obtain⟨o,g,f⟩:=k.own b c e;exact⟨o,g,(d.block b<|lt_of_heap f).trans f⟩
 .have:=k.frz b o e;exact(d.block b<|lt_of_heap this).trans this
theorem SH.rC{g:Nat}(h:SH w F H)(f:Below w.heap.size w w')(r:w.heap.size<=g)(l:w'.heap[g]? =some o):F<=F.add g o/\SH w' (F.add g o) H:=by
 have h' :=h.below f;obtain⟨m,a,k⟩:=h;obtain⟨s,t,i⟩:=h'
 have n:F.mem g=none:=by
  cases e:F.mem g with
  | none=>rfl
  | some x=>have:=lt_of_heap<|k.frz g x e;omega
 have p:m (.blk g)=none:=by
  cases e:m (.blk g) with
  | none=>rfl
  | some x=>obtain⟨o',_,d⟩:=k.own g x e;have:=lt_of_heap d;omega
 refine⟨Fz.rX n,m,a,λb=> ?_,λb c e=> ?_,k.gst,λb x e=> ?_,i.os,i.tape,i.out⟩
 .show m (.blk b)=none∨NG F.mem g o b=none;by_cases e:b=g
  .subst e;exact .inl p
  .rcases k.dj b with h | h
   .exact .inl h
   .exact .inr<|by simpa[NG,e] using h
 .obtain⟨o',q,d⟩:=k.own b c e;exact⟨o',q,(f.block b<|lt_of_heap d).trans d⟩
 .by_cases j:b=g
  .subst j;have:(F.add b o).mem b=some o:=Fz.sV F b o;rw[this] at e;cases e;exact l
  .have:F.mem b=some x:=by simpa[Fz.add,NG,j] using e
   exact(f.block b<|lt_of_heap<|k.frz b x this).trans<|k.frz b x this
def FC(l:Q0 (Int×V)):Q2 (Q0 Int):=if l.all (λx=>decide<|-9223372036854775808<=x.1/\x.1<=9223372036854775807)=true/\l.length<=1000000 then some ((l.map Prod.fst).mergeSort λa b=>decide<|a<=b) else none
abbrev AY:Int->K2:=λx=>.int .i64 x
abbrev qU:K2->Q2 (DataW Unit×Q0 MemPlace):=λ_=>some (.nil,[])
theorem keyOf_int(a:P.underlying k=some (.int .i64))(h: -9223372036854775808<=x/\x<=9223372036854775807):keyOf P k (AY x)=some (.int .i64 x):=by
 have b:(Lit.int .i64 x).wf=true:=by
  simp[Lit.wf,IntKind.min,IntKind.max,IntKind.bits,IntKind.signed];omega
 simp[keyOf,a,mapKey,b]
theorem fA(a:P.underlying k=some (.int .i64)){e:ta}(he:e.key=AY x)(h: -9223372036854775808<=x/\x<=9223372036854775807):rd P k qU e=some (.int .i64 x,.nil):=by
 unfold rd;rw[he,keyOf_int a h];rfl
theorem Uw.keys(b:P.underlying k=some (.int .i64)):∀{es:Q0 ta} {l:Q0 (Int×V)},Uw AY rv F es l->(∀x∈l,(-9223372036854775808<=x.1/\x.1<=9223372036854775807))->(es.map<|rg P k qU).map (λp=>intOf p.1)=l.map Prod.fst/\(∀e∈es,∃y,rd P k qU e=some y)/\es.map (·.key)=l.map (λx=>AY x.1)
 | [],[],_,_=>⟨rfl,by simp,rfl⟩
 | e::es,x::l,⟨c,_,g⟩,d=>by
  obtain⟨i,j,m⟩:=g.keys b λy n=>d y<|L3 _ n;have f:=fA b c (d x ic);refine⟨?_,?_,?_⟩
  .simp only[Of,i,rg_of f];rfl
  .intro o a;rcases A4.1 a with rfl | h
   .exact⟨_,f⟩
   .exact j _ h
  .simp only[Of,m,c]
theorem xI(o:P.underlying k=some (.int .i64)){l' l:Q0 (Int×V)}(q:w.heap[b]? =some (.map es clock))(m:Uw AY rv F es.toList l')(c:Ye es.toList clock)(g:l'.Perm l)(r:(l.map Prod.fst).Nodup)
  (d:l.all (λx=>decide<|-9223372036854775808<=x.1/\x.1<=9223372036854775807)=true) (n:l.length<=1000000):∃D:DataW Unit,w.ownsMap P k qU b es.size D/\(intKeys D).Perm (l.map Prod.fst)/\Maps.size D=l.length:=by
 have i:∀x∈l',(-9223372036854775808<=x.1/\x.1<=9223372036854775807):=λx s=>by
  have:=IN.1 d x<|g.mem_iff.1 s;simpa using this
 obtain⟨t,u,v⟩:=m.keys o i;have f:es.size=l.length:=by rw[<-g.length_eq,<-m.len];simp
 refine⟨.map<|(es.toList.map<|rg P k qU).foldr DataW.insert [],⟨es,clock,q,⟨by rw[f];unfold maxLen;omega,⟨c.2,c.1.imp λh=>qAt h,?_⟩,u⟩,So _,rfl⟩,?_,?_⟩
 .rw[v];have y:(l'.map Prod.fst).Nodup:=((g.map Prod.fst).nodup_iff).2 r;have e:l'.map (λx=>AY x.1)=(l'.map Prod.fst).map AY:=by rw[qAF];rfl
  rw[e];exact y.map _ λa b j e=>j<|by simpa[AY] using e
 .show(((es.toList.map<|rg P k qU).foldr DataW.insert []).map λp=>intOf p.1).Perm _;refine((sorted_perm _).map _).trans ?_;rw[t];exact g.map _
 .show((es.toList.map<|rg P k qU).foldr DataW.insert []).length=_;rw[(sorted_perm _).length_eq];simpa using f
theorem jM{a b:Q0 Int}(h:a.Perm b):a.mergeSort (λx y=>decide<|x<=y)=b.mergeSort (λx y=>decide<|x<=y):=mergeSort_of_perm_i h
def DQ(P:B2)(d g:Nm)(k T:S2):Prop:=
 (∀(b f:Nat) (D:DataW Unit) (a:Nat) (w:By),a < w.heap.size->w.cell? ⟨a,0,none⟩=some (.map<|some b)->w.ownsMap P k qU b f D->Maps.size D<=1000000->
  Calls P d #[.func (.func g) #[] #[.pointer<|some ⟨a,0,none⟩]] w λe w' =>∃(v:K2) (c:Q0 Int),e= .returned v/\c.Perm (intKeys D)/\w'.ownsRow w.heap.size T 1 v c.length ((c.mergeSort λx y=>decide<|x<=y).map encZ)/\(v= .slice none 0 0↔c=[])/\Below w.heap.size w w')/\
 (∀(a:Nat) (w:By),a < w.heap.size->w.cell? ⟨a,0,none⟩=some (.map none)->Calls P d #[.func (.func g) #[] #[.pointer<|some ⟨a,0,none⟩]] w λe w' =>e= .returned (.slice none 0 0)/\Below w.heap.size w w')
def KeysOf(P:B2)(b g:Nm)(T:S2):Prop:=∀a W,Calls P b #[.map a] W λe w' =>e= .returned (.func (.func g) #[] #[.pointer<|some ⟨W.heap.size,0,none⟩])/\w' =W.alloc (.cells #[.map a] T)
section
variable{r:β}
variable{k T T' :S2}{Ty:C3 S2}{fs fk g:Nm}
variable{l:Q0 (Int×V)}{xs:Q0 (Q0<|Int×V)}{p x:Q2 Nat}
theorem GG.ph(i:KeysOf P fk g T)(o:Nat.blt d n=true)(c:∀args w,(callFunc fk args).run P w= .ok (.enter fk args) w)(q:QS S of=some (.func (.func fk) #[] #[]))(s:QS S ox=some (.map p))
  (K:∀b e,F<=e->e.mem b=some (.cells #[.map p] T)->GL O P eX rest ks Q (Hd n D ((d,.func (.func g) #[] #[.pointer<|some ⟨b,0,none⟩])::S) e hs) m r):GL O P eX (⟨some d,.call ⟨.value of,#[ox],Ty⟩,ty,pos,after,none⟩::rest) ks Q (Hd n D S F hs) m r:=
 GG.aV rfl (.inr rfl) λt a w f=>by
  refine⟨W7 (os:=[ox]) (eY:=[]) (vs:=[.map p]) f.1 c q (by simp[Un,s]),(i p w).mono ?_⟩;rintro _ w' ⟨rfl,rfl⟩;obtain⟨le,h⟩:=f.2.tg<|.cells #[.map p] T;exact⟨_,rfl,K w.heap.size _ le (Fz.sV ..) t _ _ ⟨f.1.put o _,h⟩⟩
theorem GG.ru{c:Up Int}{f:Q0 Int->Q2 β}(Y:P.underlying k=some (.int .i64))(aA:DQ P fs g k k)(hc:∀F x,c F x [.int .i64 x]){L:Nat}(hB:F.mem L=some (.cells #[.map p] T))(i:Nat)(hi:hs[i]? =some (ZE γ (Qc AY rv) F0 xs))(hb:UE γ F j b)(hp:p=some b)(aB:xs[j]? =some l)
  (hd:Nat.blt d n=true) (B:∀args w,(callFunc fs args).run P w= .ok (.enter fs args) w) (hf:QS S of=some (.func (.func fs) #[] #[])) (Z:QS S ox=some (.func (.func g) #[] #[.pointer<|some ⟨L,0,none⟩]))
  (K:∀e M p' cap,FC l=some e->F<=M->QI 1 c M p' cap e->GL O P eX rest ks Q (Hd n D ((d,.slice p' e.length cap)::S) M hs) (f e) r):GL O P eX (⟨some d,.call ⟨.value of,#[ox],Ty⟩,ty,pos,after,none⟩::rest) ks Q (Hd n D S F hs) ((FC l).bind f) r:=by
 refine GG.bind λe o=> ?_;have K' :=K e;refine GG.aV (f:=fs) (args:=#[.func (.func g) #[] #[.pointer<|some ⟨L,0,none⟩]]) rfl (.inr rfl) λhm a w C=> ?_;refine⟨W7 (os:=[ox]) (eY:=[]) (vs:=[.func (.func g) #[] #[.pointer<|some ⟨L,0,none⟩]]) C.1 B hf (by simp[Un,Z]),?_⟩;subst hp;have t:=o;unfold FC at o
 split at o
 .rename_i E;obtain⟨N,R⟩:=E;simp only[UV] at o
  obtain⟨es,cl,l',aC,hn,G,hr,aD⟩:=(C.2.pull hi).tH hb aB;obtain⟨D0,W,H,aE⟩:=xI Y G hr aD aC hn N R;have X:=C.2.frozen hB;refine(aA.1 b _ D0 L w (lt_of_heap X) (by simp[World.cell?,X]) W hQ).mono ?_;rintro _ w' ⟨v,ss,rfl,aF,⟨aZ,u⟩,aN,A⟩;have s:ss.mergeSort (λx y=>decide<|x<=y)=e:=by rw[<-o];exact jM<|aF.trans H
  have h:e.length=ss.length:=by rw[<-s];simp
  rw[s] at u
  rcases u with⟨rfl,h0⟩ | ⟨gb,cap,cur,rfl,I,aG,r1,r2,r3,r4⟩
  .have aH:e=[]:=Rw (by rw[h,h0]);subst aH;exact⟨_,rfl,K' F none 0 t (Fz.le_refl F) QI.nil hm _ _ ⟨C.1.put hd _,C.2.below A⟩⟩
  .obtain⟨le,h2⟩:=C.2.rC A I aG;have Y:=K' _ (some ⟨gb,0,none⟩) cap t le ⟨by rw[h];exact r1,by unfold maxLen at r2;omega,.inr ⟨gb,0,cur,_,_,rfl,Fz.sV ..,λq x Z M _=> ?_⟩⟩
   .rw[h] at Y
    exact⟨_,rfl,Y hm _ _ ⟨C.1.put hd _,h2⟩⟩
   .have hq:=Zz Z;rw[h] at hq
    have:(cur.toList.drop<|0+q*1).take 1=[.int .i64 x]:=by
     have e1:cur.toList[q]? =some (.int .i64 x):=by
      have h3:=congrArg (λz=>z[q]?) r4;simp only[If,tb,Z] at h3
      rw[DO hQ] at h3
      simpa[encZ] using h3
     simp only[s5,qAS];rw[dO (Fm.1 e1).1];have e2:=(Fm.1 e1).2;simp[e2]
    rw[this];exact hc M x
 .cases o
def UG(A:Q0 (Q0<|Int×V))(x:Q2 Nat):Q2 (Q0 Int):=match x with
 | none=>some []
 | some i=>(A[i]?).bind FC
theorem GG.tB{c:Up Int}{f:Q0 Int->Q2 β}(L:P.underlying k=some (.int .i64))(t:DQ P fs g k k)(M:∀F x,c F x [.int .i64 x]){u:Nat}(E:F.mem u=some (.cells #[.map p] T))(i:Nat)(hi:hs[i]? =some (ZE γ (Qc AY rv) F0 xs))(h:Z4 γ F p x)
  (G:Nat.blt d n=true) (o:∀args w,(callFunc fs args).run P w= .ok (.enter fs args) w) (H:QS S of=some (.func (.func fs) #[] #[])) (I:QS S ox=some (.func (.func g) #[] #[.pointer<|some ⟨u,0,none⟩]))
  (K:∀q A p' cap,UG xs x=some q->F<=A->QI 1 c A p' cap q->GL O P eX rest ks Q (Hd n D ((d,.slice p' q.length cap)::S) A hs) (f q) r):GL O P eX (⟨some d,.call ⟨.value of,#[ox],Ty⟩,ty,pos,after,none⟩::rest) ks Q (Hd n D S F hs) ((UG xs x).bind f) r:=by
 cases x with
 | some j=>
  obtain⟨b,N,B⟩:=h;cases s:xs[j]? with
  | none=>intro C;simp[UG,s] at C
  | some l=>
   have e:UG xs (some j)=FC l:=by simp[UG,s]
   rw[e] at K ⊢
   exact GG.ru L t M E i hi N B s G o H I K
 | none=>
  have B:p=none:=h;subst B;have R:=K [] F none 0 rfl (Fz.le_refl F) QI.nil;refine GG.aV (m:=f []) (f:=fs) (args:=#[.func (.func g) #[] #[.pointer<|some ⟨u,0,none⟩]]) rfl (.inr rfl) λC a w z=> ?_;refine⟨W7 (os:=[ox]) (eY:=[]) (vs:=[.func (.func g) #[] #[.pointer<|some ⟨u,0,none⟩]]) z.1 o H (by simp[Un,I]),?_⟩;have v:=z.2.frozen E;refine(t.2 u w (lt_of_heap v)<|by simp[World.cell?,v]).mono ?_;rintro _ w' ⟨rfl,y⟩;exact⟨_,rfl,R C _ _ ⟨z.1.put G _,z.2.below y⟩⟩
end
end
theorem Pf{p q:HP}{m:Mem}(h:star p q m):star q p m:=by
 obtain⟨a,b,d,c,e,f,g⟩:=h;exact⟨b,a,d.symm,e,c,g,f⟩
theorem Wt{p q:HP}{m:Mem}(h:star (Qk [p]) q m):star p q m:=by
 obtain⟨k,e,d,f,g,⟨a,b,_,c,_,i,_⟩,j⟩:=h;exact⟨a,e,d.sub c<|Mem.sub.refl _,c.trans f,g,i,j⟩
def zb(P:B2)(F:Fz)(f:Nm)(eY:Q0 K2)(arg:α->Fz->Q0 K2->Prop)(Hs:Fz->Q0 HP)(l:Q0 α):Prop:=
 (∀args w,(callFunc f args).run P w= .ok (.enter f args) w)/\
 ∀(σ:Type) (b:Nat) (Y:σ->Fz->HP) (y:α->σ->Q2 (σ×Bool)) (a:Fz),F<=a->WK P b a arg Y y->∀s,X6 P f (.func (.yield b) #[] #[]::eY).toArray a (Hs a++[Y s a]) (WG y l s) (λ_ _ _=>True) λd c=>Hs c++[Y d c]
theorem zb.mk'{f:Nm}{Hs:Fz->Q0 HP}{l:Q0 α}(d:∀args w,(callFunc f args).run P w= .ok (.enter f args) w)
  (e:∀(σ:Type) (b:Nat) (Y:σ->Fz->HP) (y:α->σ->Q2 (σ×Bool)) (a:Fz),F<=a->WK P b a arg Y y->∀s,∃m,X6 P f (.func (.yield b) #[] #[]::eY).toArray a (Hs a++[Y s a]) m (λ_ _ _=>True) (λg c=>Hs c++[Y g c])/\∀r,WG y l s=some r->m=some r):zb P F f eY arg Hs l:=
 ⟨d,λσ b Y y a le i s r j=>let⟨_,h,k⟩:=e σ b Y y a le i s;h r (k r j)⟩
section
variable{r:β}
variable{g:OF}{f:Nm}{s0:τ}
theorem GG.rA{l:Q0 α}(Hs:Fz->Q0 HP)(is:Q0 Nat)(I:τ->Fz->Q0 HP->Prop)(X:QS S g=some (.func (.func f) #[] eY.toArray))(u:zb P F f eY arg Hs l)(B:(ps.all λp=>Nat.blt p n)=true)(y:∀x d vs,arg x d vs->vs.length=ps.length)
  (hi:YN is hs=Hs F) (C:I s0 F (YC is hs))
  (round:∀l L F0 o x vs s i R c,F<=F0->F0<=o->arg x o vs->I s F0 c->GC (some l) P assign [] (BP P l body<|RP l L I (fun(_:Empty) _ _=>False) o R<|.next i) (Hd n [] ((ps.zip vs).reverse++S) o<|pt l (UP L)::R::c) (bm x s) i)
  (next:∀q F0 d s c,F<=F0->F0<=d->VH bm l s0=some s->I s F0 c->GE none P ks Q (Hd n (WZ q::D) S d<|pt q (.deferred<|some [])::(Hs d++c)) (k s) r):GC none P (.rangeFunc g ps.toArray assign body) ks Q (Hd n D S F hs) ((VH bm l s0).bind k) r:=by
 intro b a w j;cases z:VH bm l s0 with
 | none=>rw[z] at b;cases b
 | some E=>
  rw[z] at b
  refine qAe λfn _=> ?_
  let L:Loop:={state:=.ready,pending:=none,fn,tmps:=a.tmps,params:=ps.toArray,assign,body,defers:=w.heap.size}
  let J:Empty->Fz->Q0 HP->Prop:=λ_ _ _=>False
  have G:SH ((w.alloc<|.deferred<|some []).alloc<|.loop L) F (star (Qk<|Hs F++[yS F (w.heap.size+1) L I J (.next s0) F])<|Qk [pt w.heap.size<|.deferred<|some []]):=by
   have t:=(j.2.alloc<|.deferred<|some []).alloc<|.loop L;rw[qAA] at t
   refine t.mono λm b=> ?_
   have Y:star (pt (w.heap.size+1)<|UP L) (star (pt w.heap.size<|.deferred<|some [])<|star (Qk<|Hs F)<|Qk<|YC is hs) m:=
    QT (λm b=>QT (λm b=>by have:=UO (ks:=is) b;rw[hi] at this;exact this) b) b
   have A:=Pf<|QT (λm b=>Zm b)<|Zm Y;refine QR (λm b=> ?_)<|QT (λm b=>Jx b) A;refine JD<|QT (λm b=>Jx (p:=yS F (w.heap.size+1) L I J (.next s0) F) ⟨F,YC is hs,Fz.le_refl _,Fz.le_refl _,C,b⟩) b
  have Z:WK P (w.heap.size+1) F arg (yS F (w.heap.size+1) L I J) (jz λx s=>(bm x s).map UN.next):=by
   refine NQ (S' :=λvs=>(ps.zip vs).reverse++S) (assign:=assign) (body:=body) (λx d vs H=>by rw[y x d vs H];simp[L]) rfl rfl (λvs _=>BE B ⟨j.1.1,rfl,j.1.2.2⟩) ?_;intro F0 o x vs s i R c K t H C h;cases M:bm x s with
   | none=>rw[M] at h;cases h
   | some s' =>
    rw[M] at h
    simp only[RK,UV] at h
    subst h;exact round _ L F0 o x vs s s' R c K t H C M
  have hc:=u.2 _ _ _ _ F (Fz.le_refl F) Z (.next s0) (.next E) (by rw[DD,BI,z];rfl) _ _ G;refine⟨w.heap.size+1,[WZ w.heap.size],(w.alloc<|.deferred<|some []).alloc<|.loop L,⟨.fn (.func f) eY.toArray,#[.func (.yield<|w.heap.size+1) #[] #[]]⟩,(w.alloc<|.deferred<|some []).alloc<|.loop L,f,(.func (.yield<|w.heap.size+1) #[] #[]::eY).toArray,(w.alloc<|.deferred<|some []).alloc<|.loop L,oq fn a.tmps ps.toArray assign body,?_,λ_ _=>trivial,?_,λe=>(by cases e),?_⟩
  .have N:a.eval (.const<|.func (.yield<|w.heap.size+1) #[] #[])= .func (.yield<|w.heap.size+1) #[] #[]:=rfl;simp[resolve,Deferred.ofValue,j.1.eval X,N]
  .simp[invoke,u.1]
  .refine s9.2<|hc.mono ?_;rintro _ w' ⟨d,v,le,rfl, -,T⟩
   have V:SH w' d (star (yS F (w.heap.size+1) L I J (.next E) d)<|star (Qk<|Hs d)<|Qk [pt w.heap.size<|.deferred<|some []]):=T.mono λm b=>by
    exact Wt<|Zm<|XS<|QR (λm b=>Y5 b) b
   obtain⟨F0,c,K,t,W,A⟩:=SH.aM V;refine⟨none,_,BF<|SH.sK (k:=0) rfl A,?_⟩;have h4:SH _ d (Qk<|pt w.heap.size (.deferred<|some [])::(Hs d++c)):=(SH.se 0<|SH.putAt (k:=0) rfl A<|T4 L none).mono λm b=>QT (λm b=>JD b)<|Wt<|Zm<|XS b;exact next w.heap.size F0 d E c K t z W b _ _ ⟨⟨j.1.1,by simp[j.1.2.1],j.1.2.2⟩,h4⟩
end
theorem Hd.sA{C:Fz->Nat->α->HP}{xs:Q0 α}(i:Nat)(c:HK C)(le:F0<=F)(hi:hs[i]? =some (ZE γ C F0 xs))(b:Hd n D S F hs a w):Hd n D S F (hs.set i<|ZE γ C F xs) a w:=⟨b.1,SH.push hi<|(b.2.pull hi).ar c le⟩
section
variable{k:Nat}{b:Act}{o:L0}
def PZ(P:B2)(eX:C3 L0)(w:By)(o:L0)(v:K2)(a:Act):Prop:=(Region.wanted o (yielded eX a.tmps)=true/\(execOp a.eval o).run P w= .ok (.value v) w)∨(Region.wanted o (yielded eX a.tmps)=false/\v=undef)
def Oi:Act->Q0 L0->Q0 K2->Act
 | a,o::os,v::vs=>Oi (a.put o.dst v) os vs
 | a,_,_=>a
theorem ES:∀{l:Q0 L0} {vs:Q0 K2} {a:Act} {i:Nat} {o:L0} {v:K2},l[i]? =some o->vs[i]? =some v->Oi a (l.take<|i+1) (vs.take<|i+1)=(Oi a (l.take i)<|vs.take i).put o.dst v
 | [],_,_,_,_,_,h,_=>by simp at h
 | _::_,[],_,_,_,_,_,h=>by simp at h
 | x::l,u::vs,a,0,o,v,h,h' =>by
  simp at h h';subst h;subst h';rfl
 | x::l,u::vs,a,i+1,o,v,h,h' =>by
  simp only[qAm,Oi];exact ES (l:=l) (by simpa using h)<|by simpa using h'
theorem OL{w:By}{K:Act->Prop}:∀{l:Q0 L0} {a:Act},wpS P eX w K l a->∃vs:Q0 K2,vs.length=l.length/\K (Oi a l vs)/\∀i o v,l[i]? =some o->vs[i]? =some v->PZ P eX w o v (Oi a (l.take i)<|vs.take i)
 | [],a,h=>⟨[],rfl,h,λi o v h=>by simp at h⟩
 | x::l,a,h=>by
  have key:∃v,PZ P eX w x v a/\wpS P eX w K l (a.put x.dst v):=by
   unfold wpS at h
   split at h
   .rename_i c;obtain⟨v,e,f⟩:=h;exact⟨v,.inl ⟨c,e⟩,f⟩
   .rename_i c;exact⟨undef,.inr ⟨by simpa using c,rfl⟩,h⟩
  obtain⟨v,e,f⟩:=key;obtain⟨vs,p,q,r⟩:=OL f;refine⟨v::vs,by simp[p],q,λi o u g j=> ?_⟩;cases i with
  | zero=>simp at g j;subst g;subst j;exact e
  | succ i=>exact r i o u (by simpa using g)<|by simpa using j
theorem Tl(eX:C3 L0)(t:C3 K2)(j:Nat):yielded eX t j=match(eX[j]?).bind (·.dst) with
  | none=>none
  | some d=>match t.getD d undef with
   | .bool b=>some b
   | _=>none:=by
 unfold yielded;cases(eX[j]?).bind (·.dst) with
 | none=>rfl
 | some d=>
  simp only[K1,k4];cases t[d]? with
  | none=>rfl
  | some v=>cases v<;>rfl
def fJ(l:Q0 L0)(k:Nat)(o:L0):Bool:=(o.looksAt l.toArray).all λt=>(List.range k).all λj=>match UC l j with
 | none=>true
 | some d=> !Nat.beq d t||o.after.toList.any λe=>Region.binds .any e&&Nat.beq e.on j
def uT:Op->Bool
 | .select _ _=>false
 | _=>true
def Bz(n:Nat):Q0 L0->Bool
 | []=>true
 | o::os=>(match o.dst with
  | none=>true
  | some d=>Nat.blt d n&& !os.any (Tu d))&&Bz n os
def Pu:Q0 Bool->Q0 Bool->Q0 Bool
 | a::xs,b::bs=>(a||b)::Pu xs bs
 | [],bs=>bs
 | xs,[]=>xs
def B0:Nat->Q0 Bool
 | 0=>[true]
 | n+1=>false::B0 n
def gY(done:Q0 (Q0 Bool))(o:L0):Q0 Bool:=o.after.toList.foldr (λe m=>bif Region.binds .any e then Pu (Pu (B0 e.on)<|done.getD e.on []) m else m) []
def XC:Q0 (Q0 Bool)->Q0 L0->Q0 (Q0 Bool)
 | done,[]=>done
 | done,o::l=>XC (done++[gY done o]) l
def vH:Nat->Q0 Bool->Bool
 | 0,_=>true
 | n+1,b::bs=>b&&vH n bs
 | _+1,[]=>false
def jm(l:Q0 L0)(k:Nat):Bool:=(List.range l.length).all λt=>Nat.blt t k||vH t ((XC [] l).getD t [])
theorem TK:∀{a b:Q0 Bool} {j:Nat},(Pu a b).getD j false=true->a.getD j false=true∨b.getD j false=true
 | [],bs,j,h=>.inr h
 | a::xs,[],j,h=>.inl h
 | a::xs,b::bs,0,h=>by
  have h:(a||b)=true:=h;rcases Bool.or_eq_true_iff.1 h with h | h
  .exact .inl h
  .exact .inr h
 | a::xs,b::bs,j+1,h=>TK (a:=xs) (b:=bs) (j:=j) h
theorem Rj:∀{n j:Nat},(B0 n).getD j false=true->j=n
 | 0,0,_=>rfl
 | 0,j+1,h=>by simp[B0] at h
 | n+1,0,h=>by simp[B0] at h
 | n+1,j+1,h=>by
  have:(B0 n).getD j false=true:=h;rw[Rj this]
def RY(l:Q0 L0)(done:Q0 (Q0 Bool)):Prop:=∀t m,done[t]? =some m->∀j,m.getD j false=true->∃s,HE l s t j=true
theorem ki{done:Q0 (Q0 Bool)}(w:RY l done){t:Nat}(r:l[t]? =some o):∀{j:Nat},(gY done o).getD j false=true->∃s,HE l s t j=true:=by
 have key:∀(es:Q0 oX),(∀e∈es,e∈o.after.toList)->∀j,(es.foldr (λe m=>bif Region.binds .any e then Pu (Pu (B0 e.on)<|done.getD e.on []) m else m) []).getD j false=true->∃s,HE l s t j=true:=λes=>by
  induction es with
  | nil=>intro _ j h;simp at h
  | cons e es u=>
   intro g j h;have c:=λx p=>g x<|L3 _ p;simp only[List.foldr_cons] at h
   cases i:Region.binds .any e with
   | false=>rw[i] at h;simp only[cond_false] at h;exact u c j h
   | true=>
    rw[i] at h
    simp only[cond_true] at h
    have f:=g e ic;rcases TK h with h | h
    .rcases TK h with h | h
     .have:=Rj h;subst this;exact⟨1,by simp only[HE,r];exact lT.2 ⟨e,f,by simp[i]⟩⟩
     .rw[nn] at h
      cases q:done[e.on]? with
      | none=>rw[nn,q] at h;simp at h
      | some m=>
       rw[nn,q] at h
       obtain⟨s,hs⟩:=w e.on m q j (by rw[nn];exact h);exact⟨s+1,by simp only[HE,r];exact lT.2 ⟨e,f,by simp[i,hs]⟩⟩
    .exact u c j h
 intro j h;exact key o.after.toList (λ_ h=>h) j h
theorem CJ:∀{post pre:Q0 L0} {done:Q0 (Q0 Bool)},l=pre++post->done.length=pre.length->RY l done->RY l (XC done post)
 | [],_,_,_,_,f=>f
 | o::post,pre,done,e,g,f=>by
  refine CJ (pre:=pre++[o]) (post:=post) (by simp[e]) (by simp[g]) λt m c j i=> ?_;rcases u0 t done.length with h | h
  .rw[x8 h] at c;exact f t m c j i
  .have p:t=done.length:=by
    have:=(Fm.1 c).1;simp at this;omega
   subst p;rw[lR<|So _] at c
   simp at c;subst c
   exact ki f (by rw[e,g];simp) i
theorem M7:∀{n j:Nat} {m:Q0 Bool},vH n m=true->j < n->m.getD j false=true
 | 0,_,_,_,h=>by omega
 | n+1,j,[],h,_=>by cases h
 | n+1,0,b::bs,h,_=>by
  have h:(b&&vH n bs)=true:=h;exact((BY _ _).mp h).1
 | n+1,j+1,b::bs,h,c=>by
  have h:(b&&vH n bs)=true:=h;exact M7 (n:=n) (j:=j) (m:=bs) ((BY _ _).mp h).2 hQ
theorem Mk(h:jm l k=true):∀t o,k<=t->l[t]? =some o->∀j,j < t->∃s,HE l s t j=true:=λt o u p j q=>by
 have f:=Zz p;have i:=IN.1 h t<|ll.2 f
 have g:Nat.blt t k=false:=by
  cases g:Nat.blt t k with
  | false=>rfl
  | true=>have:=AC g;omega
 rw[g,oS] at i
 have r:RY l (XC [] l):=CJ (pre:=[]) rfl rfl λt m c=>by simp at c
 have e:=M7 i q;cases c:(XC [] l)[t]? with
 | none=>rw[nn (l:=XC [] l),c] at e;simp at e
 | some m=>rw[nn (l:=XC [] l),c] at e;exact r t m c j e
theorem Nz:∀{n:Nat} {os:Q0 L0} {i:Nat} {o:L0} {d:Nat},Bz n os=true->os[i]? =some o->o.dst=some d->d < n/\∀j o',os[j]? =some o'->o'.dst=some d->j=i
 | _,[],_,_,_,_,h,_=>by simp at h
 | n,x::os,0,o,d,e,h,p=>by
  simp at h;subst h
  simp only[Bz,p,BY,r8] at e
  refine⟨AC e.1.1,λj o' f c=> ?_⟩;cases j with
  | zero=>rfl
  | succ j=>exact(AN e.1.2 (by simpa using f) c).elim
 | n,x::os,i+1,o,d,e,h,p=>by
  have g:=e;simp only[Bz,BY] at e
  obtain⟨q,r⟩:=Nz (os:=os) (i:=i) e.2 (by simpa using h) p;refine⟨q,λj o' f c=> ?_⟩;cases j with
  | zero=>
   simp at f;subst f
   simp only[Bz,c,BY,r8] at g
   exact(AN g.1.2 (by simpa using h) p).elim
  | succ j=>rw[r j o' (by simpa using f) c]
def gW(n:Nat)(l:Q0 L0)(k:Nat):Bool:=LU 0 l&&jm l k&&Nat.ble k l.length&&Bz n (l.take k)&&(l.take k).all λo=>fJ l k o&&uT o.op&&Ht o.op
section
variable{r:β}
structure FL(l:List Oper)(k n:Nat)(a0:Act)(vs:List Value)(L:Nat->Bool)(a:Act):Prop where
 size:a.tmps.size=n
 defs:a.defers=a0.defers
 got:∀(j:Nat) (v:Value) (t:Nat),j < k->L j=true->UC l j=some t->vs[j]? =some v->a.tmps.getD t undef=v
 old:∀t,(∀j,j < k->L j=true->UC l j≠some t)->a.tmps.getD t undef=a0.tmps.getD t undef
theorem LZ{t:C3 K2}(h:d < t.size):(t.setIfInBounds d v).getD d undef=v:=by simp[h]
theorem SY{t:C3 K2}(h:d≠e):(t.setIfInBounds d v).getD e undef=t.getD e undef:=by
 simp only[k4];rw[qA3 h]
theorem FL.put(c:FL l k n a0 vs L a)(B:Bz n (l.take k)=true)(hi:i < k)(G:l[i]? =some o)(H:vs[i]? =some v):FL l k n a0 vs (Kh L i) (a.put o.dst v):=by
 have g:UC l i=o.dst:=by simp[UC,G]
 have p:∀d,o.dst=some d->d < n/\∀j,j < k->UC l j=some d->j=i:=λd y=>by
  obtain⟨I,K⟩:=Nz B (i:=i) (o:=o) (d:=d) (by rw[If,DO hi];exact G) y;refine⟨I,λj h e=> ?_⟩;cases q:l[j]? with
  | none=>simp[UC,q] at e
  | some M=>exact K j M (by rw[If,DO h];exact q)<|by simpa[UC,q] using e
 cases y:o.dst with
 | none=>
  refine⟨c.size,c.defs,λj u t h s e z=> ?_,λt A=>c.old t λj h s=>A j h ?_⟩
  .by_cases f:j=i
   .subst f;rw[g,y] at e;cases e
   .exact c.got j u t h (by simpa[Kh,f] using s) e z
  .simp only[Kh];split
   .rfl
   .exact s
 | some d=>
  obtain⟨C,w⟩:=p d y;refine⟨by simp[Act.put,c.size],c.defs,λj u t h s e z=> ?_,λt A=> ?_⟩
  .by_cases f:j=i
   .subst f;rw[g,y] at e;cases e
    rw[H] at z;cases z
    exact LZ (by rw[c.size];exact C)
   .have x:d≠t:=λE=>by subst E;exact f<|w j h e
    show(a.tmps.setIfInBounds d v).getD t undef=u;rw[SY x];exact c.got j u t h (by simpa[Kh,f] using s) e z
  .have x:d≠t:=λE=>by subst E;exact A i hi (by simp[Kh])<|by rw[g,y]
   show(a.tmps.setIfInBounds d v).getD t undef=_;rw[SY x];exact c.old t λj h s=>A j h (by simp only[Kh];split<;>first | rfl | exact s)
theorem FL.same(c:FL l k n a0 vs L a)(c' :FL l k n a0 vs g b)(q:k<=vs.length){t:Nat}(s:∀j,j < k->UC l j=some t->L j=true/\g j=true):a.tmps.getD t undef=b.tmps.getD t undef:=by
 by_cases h:∃j,j < k/\UC l j=some t
 .obtain⟨j,f,e⟩:=h;obtain⟨u,w⟩:=s j f e;have i:vs[j]? =some vs[j]:=B3 hQ;rw[c.got j _ t f u e i,c'.got j _ t f w e i]
 .have p:∀j,j < k->UC l j≠some t:=λj f e=>h ⟨j,f,e⟩;rw[c.old t λj f _=>p j f,c'.old t λj f _=>p j f]
theorem FL.eq(c:FL l k n a0 vs L a)(c' :FL l k n a0 vs L b)(e:k<=vs.length)(p:∀j,j < k->L j=true):a=b:=by
 have h:∀t,a.tmps.getD t undef=b.tmps.getD t undef:=λt=>c.same c' e λj q _=>⟨p j q,p j q⟩
 have f:a.tmps=b.tmps:=by
  apply Array.ext
  .rw[c.size,c'.size]
  .intro i s u;have:=h i;simpa[k4,s,u] using this
 have g:a.defers=b.defers:=by rw[c.defs,c'.defs]
 obtain⟨w,x⟩:=a;obtain⟨y,z⟩:=b;have f:w=y:=f;have g:x=z:=g;rw[f,g]
theorem PZ.of_same(hs:uT o.op=true)(h:PZ P eX w o v a)(he:∀t∈o.looksAt eX,a.tmps.getD t undef=b.tmps.getD t undef):PZ P eX w o v b:=by
 have c:execOp a.eval o=execOp b.eval o:=execOp_congr o (λcs u e=>by rw[e] at hs;cases hs) λx c=>by
  cases x with
  | tmp t=>exact he t (qBZ _<|List.mem_filterMap.2 ⟨.tmp t,by simpa using c,rfl⟩)
  | const v=>rfl
  | global g=>rfl
  | func f=>rfl
 have j:Region.wanted o (yielded eX a.tmps)=Region.wanted o (yielded eX b.tmps):=by
  unfold Region.wanted;cases p:o.guard with
  | none=>rfl
  | some q=>
   obtain⟨g,i⟩:=q
   have:yielded eX a.tmps g=yielded eX b.tmps g:=by
    rw[Tl,Tl];cases s:(eX[g]?).bind (·.dst) with
    | none=>rfl
    | some t=>
     simp only[];rw[he t<|List.mem_append_right _<|by simp[p,s]]
   simp only[this]
 unfold PZ at*
 rw[<-c,<-j];exact h
theorem PG(c:a0.tmps.size=n)(f:Bz n (l.take k)=true)(x:k<=l.length)(g:vs.length=k):∀i,i<=k->FL l k n a0 vs (λj=>Nat.blt j i) (Oi a0 ((l.take k).take i)<|vs.take i)
 | 0,_=>by
  refine⟨c,rfl,λj v t _ y=> ?_,λt _=>rfl⟩;have:Nat.blt j 0=true:=y;have:=AC this;omega
 | i+1,hi=>by
  have p:l[i]? =some l[i]:=B3 hQ;have q:vs[i]? =some vs[i]:=B3 hQ;have h:=(PG c f x g i hQ).put f hQ p q;rw[ES (l:=l.take k) (o:=l[i]) (v:=vs[i]) (by rw[If,DO hQ];exact p) q]
  have e:(λj=>Nat.blt j<|i+1)=Kh (λj=>Nat.blt j i) i:=by
   funext j;simp only[Kh];by_cases s:j=i
   .subst s;rw[DO rfl];exact sp<|So _
   .rw[Do s];cases u:Nat.blt j i with
    | true=>have:=AC u;exact sp (show j+1<=i+1 by omega)
    | false=>
     cases z:Nat.blt j (i+1) with
     | false=>rfl
     | true=>
      have:=AC z;have w:Nat.blt j i=true:=sp (show j+1<=i by omega);rw[u] at w;cases w
  rw[e];exact h
theorem GG.cz{id:Nat}(k:Nat)(hm:P.follows .mixedOrders=true)(hB:gW n l k=true)
  (aH:GL .s P l.toArray (l.take k) [] (λ_=>Xp O P l.toArray (Z0 O P ks Q)<|l.drop k) (Hd n D S0 F hs) m r):GC O P (.region id l.toArray true) ks Q (Hd n D S0 F hs) m r:=by
 intro aU a0 w ha;simp only[gW,BY,IN] at hB
 obtain⟨⟨⟨⟨M,V⟩,aI⟩,aJ⟩,aK⟩:=hB;have W:=Mk V;have X:k<=l.length:=AC aI;have aV:=aH aU a0 {w with drawn:=w.drawn+1} ⟨ha.1,ha.2.drew _⟩;obtain⟨vs,aW,hK,Y⟩:=OL aV;have aX:vs.length=k:=by rw[aW];simp;omega
 have N:=PG (a0:=a0) (vs:=vs) (l:=l) ha.1.1 aJ X aX
 let R:(Nat->Bool)->Act->By->Prop:=λL a w' =>Down l L/\(∀i,k<=i->L i=false)/\w' ={w with drawn:=w.drawn+1}/\FL l k n a0 vs L a
 let Inv:(Nat->Bool)->Act->By->Prop:=λL a w=>R L a w∨∃i,k < i/\Down l L/\(∀j,L j=true↔j < i)/\Xp O P l.toArray (Z0 O P ks Q) (l.drop i) a w
 have y:∀L a w',(∀i,i < k->L i=true)->R L a w'->Xp O P l.toArray (Z0 O P ks Q) (l.drop k) a w' :=by
  rintro L a w' z ⟨_,A,rfl,hc⟩
  have aY:L=λj=>Nat.blt j k:=by
   funext j;rcases u0 j k with h | h
   .rw[z j h];exact(sp h).symm
   .rw[A j h];cases B:Nat.blt j k with
    | false=>rfl
    | true=>have:=AC B;omega
  have Z:=N k<|So _;rw[IF (show(l.take k).length<=k by simp;omega),IF<|show vs.length<=k by omega] at Z
  rw[aY] at hc
  rw[hc.eq Z hQ λj u=>sp u];exact hK
 refine X7 hm Inv (λi o h e he B=>by have:=HY M i o (by simpa using h) e he B;omega) ?_ ?_ ?_
 .refine .inl ⟨λi o _ h=>(by cases h),λ_ _=>rfl,rfl,⟨ha.1.1,rfl,λj v t _ h=>(by cases h),λt _=>rfl⟩⟩
 .intro L a w' i o ho aA g hI;have p:l[i]? =some o:=by simpa using ho
  have aB:i < l.length:=Zz p;by_cases hi:i < k
  .rcases hI with C | ⟨x,hk,_,z,_⟩
   case inr=>have:=(z i).2 hQ;rw[aA] at this;cases this
   obtain⟨aa,A,rfl,hc⟩:=C;have aM:(l.take k)[i]? =some o:=by rw[If,DO hi];exact p
   have aN:o∈l.take k:=S1 aM;have ab:=aK o aN;obtain⟨⟨ad,ae⟩,af⟩:=ab;have hv:vs[i]? =some vs[i]:=B3 hQ;have ag:=Y i o _ aM hv
   have aO:PZ P l.toArray {w with drawn:=w.drawn+1} o vs[i] a:=ag.of_same ae λt ht=>by
    refine(N i hQ).same hc hQ λj u e=> ?_;have H:=IN.1 (IN.1 ad t ht) j<|ll.2 u;rw[e] at H
    simp only[Nat.beq_refl,RW,oS,lT,BY] at H
    obtain⟨e',ah,aP,aC⟩:=H;have aC:e'.on=j:=yb aC;have E:e'∈o.after:=by simpa using ah
    refine⟨?_,by rw[<-aC];exact g e' E aP⟩;have:=HY M i o p e' E aP;exact sp<|show j+1<=i by omega
   have f:Inv (Kh L i) (a.put o.dst vs[i]) {w with drawn:=w.drawn+1}:=by
    refine .inl ⟨?_,?_,rfl,hc.put aJ hi p hv⟩
    .intro j oj q u e he B
     have:L e.on=true:=by
      by_cases G:j=i
      .subst G;rw[p] at q;cases q;exact g e he B
      .exact aa j oj q (by simpa[Kh,G] using u) e he B
     simp only[Kh];split
     .rfl
     .exact this
    .intro j u;simp only[Kh];rw[Do hQ];exact A j u
   rcases aO with⟨H,Z⟩ | ⟨H,Z⟩
   .rw[DO H];refine⟨.inr af,?_⟩;rw[Z];exact f
   .rw[Do (by simp[H]),<-Z];exact f
  .have S:Down l L:=by
    rcases hI with C | ⟨_,_,hd,_,_⟩
    .exact C.1
    .exact hd
   have c:∀j,j < i->L j=true:=λj u=>by
    obtain⟨s,hs⟩:=W i o hQ p j u;exact Xh S hs λo' T e he B=>by rw[p] at T;cases T;exact g e he B
   have aQ:Down l (Kh L i):=λj oj q u e he B=>by
    have:L e.on=true:=by
     by_cases G:j=i
     .subst G;rw[p] at q;cases q;exact g e he B
     .exact S j oj q (by simpa[Kh,G] using u) e he B
    simp only[Kh];split
    .rfl
    .exact this
   have I:Xp O P l.toArray (Z0 O P ks Q) (l.drop i) a w' :=by
    rcases hI with C | ⟨x,hk,_,z,K⟩
    .have aj:i=k:=by
      rcases u0 k i with h | h
      .have:=c k h;rw[C.2.1 _<|So _] at this;cases this
      .omega
     subst aj;exact y L a w' c C
    .have:x=i:=by
      have H:¬i < x:=λh=>by have:=(z i).2 h;rw[aA] at this;cases this
      have Z:¬x < i:=λh=>by have:=(z x).1<|c x h;omega
      omega
     subst this;exact K
   have aD:l.drop i=o::l.drop (i+1):=by
    have hg:l[i]'aB=o:=by simpa[aB] using p
    rw[<-hg];exact dO aB
   rw[aD] at I
   have f:∀a' w',Xp O P l.toArray (Z0 O P ks Q) (l.drop<|i+1) a' w'->Inv (Kh L i) a' w' :=λa' w' h=>
    .inr ⟨i+1,by omega,aQ,λj=>by
     simp only[Kh];by_cases u:j=i
     .simp[u]
     .simp only[u,Bm];constructor
      .intro aE
       have:j < i:=by
        rcases u0 j i with h | h
        .exact h
        .rcases hI with C | ⟨x,hk,_,z,_⟩
         .rw[C.2.1 j hQ] at aE;cases aE
         .have H:=(z j).1 aE;have:=(z i).2 hQ;rw[aA] at this;cases this
       omega
      .intro ay;exact c j hQ,h⟩
   unfold Xp at I
   split
   .rename_i aF;rw[DO aF] at I
    exact SO f I
   .rename_i aF;rw[Do aF] at I
    exact f _ _ I
 .intro L a w' c hI
  have I:Xp O P l.toArray (Z0 O P ks Q) (l.drop l.length) a w' :=by
   rcases hI with C | ⟨x,hk,_,z,K⟩
   .have al:k=l.length:=by
     rcases u0 k l.length with h | h
     .have:=c k (by simpa using h);rw[C.2.1 _<|So _] at this;cases this
     .omega
    have:=y L a w' (λi hi=>c i ia) C
    rwa[al] at this
   .have:l.length<=x:=by
     rcases u0 x l.length with h | h
     .have:=(z x).1 (c x<|by simpa using h);omega
     .exact h
    rw[x4 this] at K
    rw[x4<|So _];exact K
  rw[x4<|So _] at I
  exact I
end
section
variable{E A' :Act->By->Prop}{r:β}
variable{S' :Q0 (Nat×K2)}{hs' :Q0 HP}
theorem GG.sI{c:Q0 L0}(h:GL O P eX c ks Q A m r):GL .s P eX [] [] (λ_=>Xp O P eX (Z0 O P ks Q) c) A m r:=λe a w f=>h e a w f
end
section
variable{r:β}
theorem GG.sl{fn:Fn}{first eY:Q0 OF}{us:Q0 K2}(f:Nat.blt d n=true)(c:Un S first=some us)(g:Un S eY=some vs)(k:GL O P eX rest ks Q (Hd n D ((d,.func fn us.toArray vs.toArray)::S) F hs) m r):GL O P eX (⟨some d,.makeFunc fn first.toArray eY.toArray,ty,pos,after,none⟩::rest) ks Q (Hd n D S F hs) m r:=GG.val f (λa w e=>by simp[execOp,Instr.makeFunc,He e.1 g,He e.1 c]) k
end
end
section
variable{ρ:Type}
def za(P:B2)(F:Fz)(f:Nm)(eY:Q0 K2)(arg:α->Fz->Q0 K2->Prop)(Hs:Fz->ρ->Q0 HP)(e:ρ)(q:ρ×Q0 α):Prop:=
 (∀args w,(callFunc f args).run P w= .ok (.enter f args) w)/\
 ∀(σ:Type) (d:Nat) (Y:σ->Fz->HP) (Z:HP) (a:ρ->σ) (y:α->σ->Q2 (σ×Bool)) (b:Fz),F<=b->WK P d b arg Y y->(∀r c,b<=c->∀m,Qk (Hs c r++[Z]) m->Y (a r) c m)->
  X6 P f (.func (.yield d) #[] #[]::eY).toArray b (Hs b e++[Z]) (WG y q.2<|a q.1) (λ_ _ _=>True) (λg c=>[Y g c])
theorem za.mk'{f:Nm}{Hs:Fz->ρ->Q0 HP}{e:ρ}{q:ρ×Q0 α}(g:∀args w,(callFunc f args).run P w= .ok (.enter f args) w)
  (i:∀(σ:Type) (d:Nat) (Y:σ->Fz->HP) (Z:HP) (a:ρ->σ) (y:α->σ->Q2 (σ×Bool)) (b:Fz),F<=b->WK P d b arg Y y->(∀r c,b<=c->∀m,Qk (Hs c r++[Z]) m->Y (a r) c m)->
   ∃m,X6 P f (.func (.yield d) #[] #[]::eY).toArray b (Hs b e++[Z]) m (λ_ _ _=>True) (λj c=>[Y j c])/\∀r,WG y q.2 (a q.1)=some r->m=some r):za P F f eY arg Hs e q:=
 ⟨g,λσ d Y Z a y b le l n r o=>let⟨_,h,k⟩:=i σ d Y Z a y b le l n;h r (k r o)⟩
section
variable{r:β}
theorem GG.mS{c:oZ}{Y:HP}(is:Q0 Nat)(hi:YN is hs=Hs)(b:∀m,Qk Hs m->Y m)(k:GC O P c ks Q (Hd n D S F<|Y::YC is hs) m r):GC O P c ks Q (Hd n D S F hs) m r:=GG.th (λ_ _ h=>⟨h.1,h.2.mono λ_ a=>QR (λm a=>b m<|hi▸a)<|UO (ks:=is) a⟩) k
variable{ρ:Type}{g:OF}{f:Nm}
theorem GG.pz{q:ρ×Q0 α}(Hs:Fz->ρ->Q0 HP)(B:ρ)(u:ρ->τ)(is:Q0 Nat)(I:τ->Fz->Q0 HP->Prop)(hg:QS S g=some (.func (.func f) #[] eY.toArray))(z:za P F f eY arg Hs B q)(G:(ps.all λp=>Nat.blt p n)=true)(A:∀x c vs,arg x c vs->vs.length=ps.length)
  (hi:YN is hs=Hs F B) (H:∀r c,F<=c->I (u r) c (Hs c r++YC is hs))
  (round:∀l L F0 y x vs s o R h,F<=F0->F0<=y->arg x y vs->I s F0 h->GC (some l) P assign [] (BP P l body<|RP l L I (fun(_:Empty) _ _=>False) y R<|.next o) (Hd n [] ((ps.zip vs).reverse++S) y<|pt l (UP L)::R::h) (bm x s) o)
  (next:∀q' F0 c s h,F<=F0->F0<=c->VH bm q.2 (u q.1)=some s->I s F0 h->GE none P ks Q (Hd n (WZ q' ::D) S c<|pt q' (.deferred<|some [])::h) (k s) r):GC none P (.rangeFunc g ps.toArray assign body) ks Q (Hd n D S F hs) ((VH bm q.2<|u q.1).bind k) r:=by
 intro b a w t;cases C:VH bm q.2 (u q.1) with
 | none=>rw[C] at b;cases b
 | some K=>
  rw[C] at b
  refine qAe λfn _=> ?_
  let L:Loop:={state:=.ready,pending:=none,fn,tmps:=a.tmps,params:=ps.toArray,assign,body,defers:=w.heap.size}
  let J:Empty->Fz->Q0 HP->Prop:=λ_ _ _=>False
  let Z:HP:=star (pt (w.heap.size+1)<|UP L)<|Qk<|YC is hs
  have M:SH ((w.alloc<|.deferred<|some []).alloc<|.loop L) F (star (Qk<|Hs F B++[Z])<|Qk [pt w.heap.size<|.deferred<|some []]):=by
   have j:=(t.2.alloc<|.deferred<|some []).alloc<|.loop L;rw[qAA] at j
   refine j.mono λm b=> ?_
   have N:star (pt (w.heap.size+1)<|UP L) (star (pt w.heap.size<|.deferred<|some [])<|star (Qk<|Hs F B)<|Qk<|YC is hs) m:=
    QT (λm b=>QT (λm b=>by have:=UO (ks:=is) b;rw[hi] at this;exact this) b) b
   have E:=Pf<|QT (λm b=>Zm b)<|Zm N;refine QR (λm b=> ?_)<|QT (λm b=>Jx b) E;exact JD<|QT (λm b=>Jx (p:=Z) b) b
  have hY:WK P (w.heap.size+1) F arg (yS F (w.heap.size+1) L I J) (jz λx s=>(bm x s).map UN.next):=by
   refine NQ (S' :=λvs=>(ps.zip vs).reverse++S) (assign:=assign) (body:=body) (λx c vs T=>by rw[A x c vs T];simp[L]) rfl rfl (λvs _=>BE G ⟨t.1.1,rfl,t.1.2.2⟩) ?_;intro F0 y x vs s o R h V j T H i;cases W:bm x s with
   | none=>rw[W] at i;cases i
   | some s' =>
    rw[W] at i
    simp only[RK,UV] at i
    subst i;exact round _ L F0 y x vs s s' R h V j T H W
  have X:∀r c,F<=c->∀m,Qk (Hs c r++[Z]) m->yS F (w.heap.size+1) L I J (.next<|u r) c m:=λr c le m b=>by
   refine⟨c,Hs c r++YC is hs,le,Fz.le_refl _,H r c le,?_⟩;have j:=Y5 b
   have N:star (Qk<|Hs c r) Z m:=QT (λm b=>by
    obtain⟨m1,_,_,s1,_,hp,_⟩:=b;obtain⟨a1,a2,d,t1,t2,g1,g2⟩:=hp;exact⟨a1,a2,d,t1.trans s1,t2.trans s1,g1,g2⟩) j
   exact QT (λm b=>JD b)<|Zm N
  have hc:=z.2 _ _ _ Z (λr=>.next<|u r) _ F (Fz.le_refl F) hY X (.next K) (by rw[DD,BI,C];rfl) _ _ M;refine⟨w.heap.size+1,[WZ w.heap.size],(w.alloc<|.deferred<|some []).alloc<|.loop L,⟨.fn (.func f) eY.toArray,#[.func (.yield<|w.heap.size+1) #[] #[]]⟩,(w.alloc<|.deferred<|some []).alloc<|.loop L,f,(.func (.yield<|w.heap.size+1) #[] #[]::eY).toArray,(w.alloc<|.deferred<|some []).alloc<|.loop L,oq fn a.tmps ps.toArray assign body,?_,λ_ _=>trivial,?_,λe=>(by cases e),?_⟩
  .have Y:a.eval (.const<|.func (.yield<|w.heap.size+1) #[] #[])= .func (.yield<|w.heap.size+1) #[] #[]:=rfl;simp[resolve,Deferred.ofValue,t.1.eval hg,Y]
  .simp[invoke,z.1]
  .refine s9.2<|hc.mono ?_;rintro _ w' ⟨c,v,le,rfl, -,aA⟩;have aB:SH w' c (star (yS F (w.heap.size+1) L I J (.next K) c)<|Qk [pt w.heap.size<|.deferred<|some []]):=aA.mono λm b=>Wt b;obtain⟨F0,h,V,j,aC,E⟩:=SH.aM aB;refine⟨none,_,BF<|SH.sK (k:=0) rfl E,?_⟩;have h4:SH _ c (Qk<|pt w.heap.size (.deferred<|some [])::h):=(SH.se 0<|SH.putAt (k:=0) rfl E<|T4 L none).mono λm b=>Wt b;exact next w.heap.size F0 c K h V j C aC b _ _ ⟨⟨t.1.1,by simp[t.1.2.1],t.1.2.2⟩,h4⟩
end
end
section
variable{pt':Q2 C1}
section
def uP(ck:K->K2)(rv:Fz->V->K2->Prop)(F:Fz)(b e:Nat)(M d:Q0 (K×V))(cur:Q2 (K×V)):HP:=λm=>∃(es:C3 ta) (clock:Nat) (l' :Q0 (K×V)) (c:C3 Nat) (last:Nat),
 star (pt b<|.map es clock) (pt e<|.mapIter (some b) clock c last) m/\Uw ck rv F es.toList l'/\Ye es.toList clock/\(c.isEmpty=false->last=clock)/\
 d.Perm (((es.toList.zip l').filter λz=> !c.contains z.1.born).map Prod.snd)/\l'.Perm M/\(M.map Prod.fst).Nodup/\
 ∀x,cur=some x->∃z∈es.toList.zip l',z.2=x/\c.back? =some z.1.born
def UB(γ:Nat)(ck:K->K2)(rv:Fz->V->K2->Prop)(F:Fz)(j b d:Nat)(xs:Q0 (Q0<|K×V))(c:Q0 (K×V))(cur:Q2 (K×V)):HP:=λm=>∃M,xs[j]? =some M/\star (uP ck rv F b d M c cur) (hole γ (Qc ck rv) F j b xs) m
variable{M:Q0 (K×V)}{cur:Q2 (K×V)}
theorem Xg(h:SH w F (star (UB γ ck rv F0 j b it xs ix cur) H)):∃(M:Q0 (K×V)) (es:C3 ta) (clock:Nat) (l' :Q0 (K×V)) (e:C3 Nat) (last:Nat),xs[j]? =some M/\
  w.heap[b]? =some (.map es clock)/\w.heap[it]? =some (.mapIter (some b) clock e last)/\SH w F (star (pt it<|.mapIter (some b) clock e last)<|star (pt b<|.map es clock)<|star (hole γ (Qc ck rv) F0 j b xs) H)/\Uw ck rv F0 es.toList l'/\Ye es.toList clock/\(e.isEmpty=false->last=clock)/\
  ix.Perm (((es.toList.zip l').filter λz=> !e.contains z.1.born).map Prod.snd)/\l'.Perm M/\(M.map Prod.fst).Nodup/\∀x,cur=some x->∃z∈es.toList.zip l',z.2=x/\e.back? =some z.1.born:=by
 obtain⟨m,⟨i,l,d,o,p,⟨M,q,r⟩,s⟩,k⟩:=h;have t:=XS ⟨i,l,d,o,p,r,s⟩;obtain⟨u,v,y,A,B,⟨es,c,l',e,last,C,D⟩,g⟩:=t;have hs:SH w F (star (pt b<|.map es c)<|star (pt it<|.mapIter (some b) c e last)<|star (hole γ (Qc ck rv) F0 j b xs) H):=⟨m,XS ⟨u,v,y,A,B,C,g⟩,k⟩;have f:SH w F (star (pt it<|.mapIter (some b) c e last)<|star (pt b<|.map es c)<|star (hole γ (Qc ck rv) F0 j b xs) H):=hs.mono λm E=>Zm E;exact⟨M,es,c,l',e,last,q,hs.owned,f.owned,f,D⟩
theorem Hz{l' :Q0 (K×V)}{c:C3 Nat}{last:Nat}(g:xs[j]? =some M)(h:SH w F (star (pt it<|.mapIter (some b) clock c last)<|star (pt b<|.map es clock)<|star (hole γ (Qc ck rv) F0 j b xs) H))
  (i:Uw ck rv F0 es.toList l') (k:Ye es.toList clock) (l:c.isEmpty=false->last=clock) (o:ix.Perm (((es.toList.zip l').filter λz=> !c.contains z.1.born).map Prod.snd)) (p:l'.Perm M) (q:(M.map Prod.fst).Nodup) (r:∀x,cur=some x->∃z∈es.toList.zip l',z.2=x/\c.back? =some z.1.born):SH w F (star (UB γ ck rv F0 j b it xs ix cur) H):=h.mono λm d=>by
 have e:=Ua<|Zm d;have f:=Ua e;exact QR (λm d=>⟨M,g,QR (λm d=>⟨es,clock,l',c,last,d,i,k,l,o,p,q,r⟩) d⟩) f
theorem yo{C:Fz->Nat->Q0 (K×V)->HP}{y:Q0 (K×V)}(h:SH w F (star (hole γ C F0 j b xs) H)):SH w F (star (hole γ C F0 j b<|xs.set j y) H):=h.mono λm d=>QR (λm ⟨bs,e,c,g⟩=>⟨bs,by simpa using e,c,by rw[<-NO (f:=C F0) c,qBb];exact g⟩) d
theorem yn(le:F0<=F)(f:UE γ F j b)(h:SH w F (star (UB γ ck rv F0 j b it xs ix cur) H)):SH w F (star (UB γ ck rv F j b it xs ix cur) H):=by
 obtain⟨M,es,c,l',e,last,g,_,_,hs,i,k,l,o,p,q,r⟩:=Xg h;refine Hz g ?_ (i.up le) k l o p q r;have s:SH w F (star (hole γ (Qc ck rv) F0 j b xs)<|star (pt it<|.mapIter (some b) c e last)<|star (pt b<|.map es c) H):=hs.mono λm d=>Zm<|QT (λm d=>Zm d) d;exact(s.nF Hu le f).mono λm d=>QT (λm d=>Zm d)<|Zm d
theorem qg(h:SH w F (star (UB γ ck rv F0 j b it xs [] cur) H)):SH w F (star (ZE γ (Qc ck rv) F0 xs) H):=by
 obtain⟨M,es,c,l',f,last,g,_,_,hs,i,k,p,q,l,o,r⟩:=Xg h;have d:SH w F (star (Qc ck rv F0 b M)<|star (hole γ (Qc ck rv) F0 j b xs) H):=hs.drop.mono λm e=>QR (λm e=>⟨l',l,o,es,c,e,i,k⟩) e;have:=SH.az Hu (Fz.le_refl _) d (Fm.1 g).1;rw[<-SF g] at this;exact this
variable[BEq K][LawfulBEq K]
omit [LawfulBEq K] in
theorem Uw.mf{kd:qAg}{k:K}(g:∀a b,Instr.sameNow kd (ck a) (ck b)=some (a==b)):∀{es:Q0 ta} {l:Q0 (K×V)} (d:Nat),Uw ck rv F es l->
   (Instr.findNow kd (ck k) es d=some none/\J7 l k=l/\∀x∈l,(k==x.1)=false)∨
   (∃i e x,Instr.findNow kd (ck k) es d=some (some (d+i,e))/\i < es.length/\Uw ck rv F (es.eraseIdx i) (J7 l k)/\J7 l k=l.eraseIdx i/\l[i]? =some x/\(k==x.1)=true)
 | [],[],_,_=>.inl ⟨rfl,rfl,λ_ h=>by cases h⟩
 | e::es,x::l,d,⟨m,t,s⟩=>by
  by_cases f:(k==x.1)=true
  .right;refine⟨0,e.val,x,by simp[Instr.findNow,m,g,f],by simp,?_,by simp[J7,f],rfl,f⟩;simp only[J7,f,B1,qBO];exact s
  .have c:(k==x.1)=false:=by simpa using f
   rcases Uw.mf (k:=k) g (d+1) s with⟨o,p,q⟩ | ⟨i,u,y,o,p,q,v,A,B⟩
   .left;refine⟨by simp[Instr.findNow,m,g,c,o],by simp[J7,c,p],λz r=> ?_⟩;rcases A4.1 r with rfl | r
    .exact c
    .exact q z r
   .right;refine⟨i+1,u,y,by simp[Instr.findNow,m,g,c,o];omega,by simpa using p,?_,by simp[J7,c,v],by simpa using A,B⟩;simp only[J7,c,W1,Bm,oU];exact⟨m,t,q⟩
theorem Lx:∀{es:Q0 α} {l:Q0 β} {i:Nat},(es.eraseIdx i).zip (l.eraseIdx i)=(es.zip l).eraseIdx i
 | [],_,_=>by simp
 | _::_,[],_=>by simp
 | _::_,_::_,0=>rfl
 | _::es,_::l,i+1=>by simp[Lx (es:=es) (l:=l)]
theorem PB{p:α->Bool}:∀{l:Q0 α} {i:Nat} {x:α},l[i]? =some x->p x=false->(l.eraseIdx i).filter p=l.filter p
 | [],_,_,h,_=>by simp at h
 | y::l,0,x,h,c=>by simp at h;subst h;simp[c]
 | y::l,i+1,x,h,c=>by
  simp only[la] at h
  simp only[oU,lS,PB h c]
omit [BEq K] [LawfulBEq K] in
theorem Mb:∀{l:Q0 (K×V)} {x y:K×V},(l.map Prod.fst).Nodup->x∈l->y∈l->x.1=y.1->x=y
 | [],_,_,_,h,_,_=>by cases h
 | z::l,x,y,g,i,k,e=>by
  simp only[Of,lr] at g
  rcases A4.1 i with rfl | c<;>rcases A4.1 k with rfl | d
  .rfl
  .exact absurd (wt (f:=Prod.fst) d) (by rw[<-e];exact g.1)
  .exact absurd (wt (f:=Prod.fst) c) (by rw[e];exact g.1)
  .exact Mb g.2 c d e
end
section
variable{r:β}
variable{d' :Q2 Nat}{t kt vt:S2}{cd:oZ}
variable{i' :Nat}{l:Q0 (K×V)}{cur:Q2 (K×V)}
theorem GG.ng{p:Q2 Nat}(i:Nat)(hi:hs[i]? =some (ZE γ (Qc ck rv) F0 xs))(x:UE γ F j b)(y:p=some b)(f:xs[j]? =some l)(A:Nat.blt d n=true)(B:P.underlying t=some (.map kt vt))(C:QS S ox=some (.map p))
  (k:∀it,(l.map Prod.fst).Nodup->GL O P eX rest ks Q (Hd n D ((d,.pointer<|some ⟨it,0,none⟩)::S) F<|hs.set i<|UB γ ck rv F0 j b it xs l none) m r):GL O P eX (⟨some d,.range t ox,ty,pos,after,none⟩::rest) ks Q (Hd n D S F hs) m r:=by
 subst y;refine GG.step rfl (.inr rfl) λE a w o=> ?_;have G:=(o.2.pull hi).aY x f;obtain⟨es,c,l',g,u,H,v,q,s⟩:=W8 G;refine⟨.pointer<|some ⟨w.heap.size,0,none⟩,w.alloc<|.mapIter (some b) c #[] c,?_,k w.heap.size u E _ _ ⟨o.1.put A _,?_⟩⟩
 .simp[execOp,Instr.range,o.1.eval C,YU B,Yf H]
 .have I:=q.alloc<|.mapIter (some b) c #[] c;refine SH.push hi<|Hz f I v s (λh=>by simp at h) ?_ g u λ_ h=>by cases h
  have e:((es.toList.zip l').filter λz=> !(#[]:C3 Nat).contains z.1.born)=es.toList.zip l' :=by
   rw[el];intro z _;simp
  rw[e,v.sq.1];exact g.symm
theorem GG.nq(i:Nat)(hi:hs[i]? =some (UB γ ck rv F0 j b it xs [] cur))(p:pt' =some ⟨it,0,none⟩)(q:Nat.blt d n=true)(s:QS S ox=some (.pointer pt'))
  (k:GL O P eX rest ks Q (Hd n D ((d,.tuple #[.bool false])::S) F hs) m r):GL O P eX (⟨some d,.next ox false,ty,pos,after,none⟩::rest) ks Q (Hd n D S F hs) m r:=by
 subst p;refine GG.step rfl (.inr rfl) λu a w e=> ?_;obtain⟨M,es,c,l',o,last,_,v,f,_,x,g,y,z,_⟩:=Xg<|e.2.pull hi;obtain⟨A,h⟩:=(Tx (P:=P) (ty:=ty) v f x g y z).1 rfl;refine⟨_,{w with drawn:=A},?_,k u _ _ ⟨e.1.put q _,e.2.drew _⟩⟩;simp[execOp,e.1.eval s,h]
theorem GG.np(i:Nat)(hi:hs[i]? =some (UB γ ck rv F0 j b it xs ix cur))(A:ix≠[])(X:pt' =some ⟨it,0,none⟩)(Y:Nat.blt d n=true)(s:QS S ox=some (.pointer pt'))
  (k:∀x f v,(x::f).Perm ix->(∀T,F0<=T->rv T x.2 v)->GL O P eX rest ks Q (Hd n D ((d,.tuple #[.bool true,ck x.1,v])::S) F<|hs.set i<|UB γ ck rv F0 j b it xs f<|some x) m r):GL O P eX (⟨some d,.next ox false,ty,pos,after,none⟩::rest) ks Q (Hd n D S F hs) m r:=by
 subst X;refine GG.step rfl (.inr rfl) λZ a w B=> ?_;obtain⟨M,es,c,l',e,last,hM,hb,C,E,u,g,hl,W,G,H,_⟩:=Xg<|B.2.pull hi;obtain⟨z,I,h,k',L⟩:=(Tx (P:=P) (ty:=ty) hb C u g hl W).2 A;obtain⟨o,q⟩:=u.ah I;have N:=PS g u;have R:=FU (p:=λy:ta×(K×V)=> !e.contains y.1.born) N I<|by simp only[h,u1]
 have e1:∀y:ta×(K×V),(!(e.push z.1.born).contains y.1.born)=(!e.contains y.1.born&& !(y.1.born==z.1.born)):=λy=>by
  rw[qAn,qBd]
 refine⟨_,put {w with drawn:=k'} it<|.mapIter (some b) c (e.push z.1.born) c,?_,k z.2 (((es.toList.zip l').filter λy=> !(e.push z.1.born).contains y.1.born).map Prod.snd) z.1.val ?_ q Z _ _ ⟨by rw[<-o];exact B.1.put Y _,SH.push hi<|Hz hM ((E.drew _).put (o' :=.mapIter (some b) c (e.push z.1.born) c)) u g (λ_=>rfl) (.refl _) G H λx s=> ?_⟩⟩
 .simp[execOp,B.1.eval s,L]
 .refine List.Perm.trans ?_ W.symm;have:=(R.map Prod.snd).symm;simp only[Of] at this
  refine List.Perm.trans (.of_eq ?_) this;congr 2;exact td λy _=>e1 y
 .simp only[UV] at s
  exact⟨z,I,s,by simp⟩
theorem GG.ny{x:K×V}(i:Nat)(hi:hs[i]? =some (UB γ ck rv F0 j b it xs ix<|some x))(hp:pt' =some ⟨it,0,none⟩)(hd:Nat.blt d n=true)(hx:QS S ox=some (.pointer pt'))
  (k:∀v,(∀Z,F0<=Z->rv Z x.2 v)->GL O P eX rest ks Q (Hd n D ((d,.tuple #[ck x.1,v])::S) F hs) m r):GL O P eX (⟨some d,.entry ox,ty,pos,after,none⟩::rest) ks Q (Hd n D S F hs) m r:=by
 subst hp;refine GG.step rfl (.inr rfl) λhm a w G=> ?_;obtain⟨M,es,c,l',o,last,hM,hb,C,H,I,E,hl,ht,N,aH,p⟩:=Xg<|G.2.pull hi;obtain⟨z,R,T,g⟩:=p x rfl;obtain⟨u,A⟩:=I.ah R;subst T
 have W:o.isEmpty=false:=by
  cases h:o.isEmpty with
  | false=>rfl
  | true=>
   have:o=#[]:=by simpa using h
   subst this;simp at g
 have X:=hl W;subst X
 have B:es.find? (λe=>e.born==z.1.born)=some z.1:=by
  have q:z.1∈es.toList:=by rw[<-I.sq.2];exact wt R
  have s:(es.toList.map (·.born)).Nodup:=E.1.imp λh=>qAt h
  have:es.toList.find? (λe=>e.born==z.1.born)=some z.1:=by
   clear hb C I E ht N p R A u H g hl
   generalize es.toList=L at q s
   induction L with
   | nil=>cases q
   | cons y L ih=>
    simp only[Of,lr] at s
    rcases A4.1 q with e | e
    .rw[oF,<-e];simp
    .have:(y.born==z.1.born)=false:=by
      cases Y:y.born==z.1.born with
      | false=>rfl
      | true=>exact absurd (wt (f:=(·.born)) e) (by rw[<-(r6.1 Y:y.born=z.1.born)];exact s.1)
     rw[oF,this];exact ih e s.2
  simpa using this
 refine⟨_,w,?_,k z.1.val A hm _ _ ⟨by rw[<-u];exact G.1.put hd _,G.2⟩⟩;simp[execOp,Instr.entry,G.1.eval hx,AM C,Yf hb,g,B]
def bJ(a b:Nat):Q2 Unit:=if a=b then some () else none
theorem u3{a:Nat}{u:Unit}(h:bJ a b=some u):a=b:=by
 unfold bJ at h;split at h
 .assumption
 .cases h
theorem UE.one(h:UE γ F j b)(h' :UE γ F i' c)(e:i' =j):c=b:=by
 subst e;have:=h.2.symm.trans h'.2;simp at this;exact this.symm
theorem GG.nJ[BEq K][LawfulBEq K]{p:Q2 Nat}{x:K×V}{xs' :Q0 (Q0<|K×V)}(i:Nat)(hi:hs[i]? =some (UB γ ck rv F0 j b it xs ix<|some x))(hb:UE γ F j b)(hc:UE γ F i' c)(G:i' =j)(hp:p=some c)(H:xs[i']? =some l)(hd:∀e,d' =some e->Nat.blt e n=true)(hT:T[0]? =some t)(ht:P.underlying t=some (.map kt vt))(ok:HL P kt ck)(hx:QS S ox=some (.map p))(hy:QS S oy=some (ck x.1))(he:xs' =xs.set i' (J7 l x.1))
  (k:GL O P eX rest ks Q (Hd n D (match d' with | some e=>(e,.tuple #[])::S | none=>S) F<|hs.set i<|UB γ ck rv F0 j b it xs' ix none) m r):GL O P eX (⟨d',.call ⟨.builtin .delete,#[ox,oy],T⟩,ty,pos,after,none⟩::rest) ks Q (Hd n D S F hs) m r:=by
 obtain rfl:=hb.one hc G;subst hp;subst he;subst G;refine GG.step rfl (.inr rfl) λf a w I=> ?_;obtain⟨M,es,clock,l',L,last,hM,N,af,aF,hr,aG,hl,aH,R,o,s⟩:=Xg<|I.2.pull hi;obtain rfl:M=l:=by rw[hM] at H;simpa using H
 obtain⟨z,hz,W,u⟩:=s x rfl;obtain⟨kd,hu,v⟩:=ok.und;have X:(l'.map Prod.fst).Nodup:=(R.map _).nodup_iff.2 o;have Y:x∈l' :=by rw[<-hr.sq.1,<-W];exact wt hz
 rcases hr.mf (k:=x.1) v 0 with⟨_,_,g3⟩ | ⟨q,e1,y,g1,g2,g3,g4,g5,g6⟩
 .have:=g3 x Y;simp at this
 .have hj:q < es.size:=by simpa using g2
  have hf:=run_findKey (w:=w) hu g1;rw[s5] at hf
  have aJ:y=x:=Mb X (S1 g5) Y (by simpa using(r6.1 g6).symm);subst aJ;have A:(es.eraseIdxIfInBounds q).toList=es.toList.eraseIdx q:=by simp[Array.eraseIdxIfInBounds,hj]
  obtain⟨Z,aK⟩:∃Z,es.toList[q]? =some Z:=⟨_,B3 g2⟩;have B:(es.toList.zip l')[q]? =some (Z,y):=by rw[qBG];exact⟨aK,g5⟩
  have aL:z=(Z,y):=by
   obtain⟨C,aM,ez⟩:=lz hz;have aA:(es.toList.zip l')[C]? =some z:=by rw[B3 aM,ez]
   have h1:=(qBG.1 aA).2;have aB:=qAN.1 X;have aC:q < l'.length:=(Fm.1 g5).1;have g:C < l'.length:=(Fm.1 h1).1;have a1:l'[q]=y:=(Fm.1 g5).2;have a2:l'[C]=y:=by rw[(Fm.1 h1).2,W]
   have:C=q:=by
    rcases qAu C q with h | h | h
    .exact absurd (by rw[oK,oK,a1,a2])<|aB C q (by simpa using g) (by simpa using aC) h
    .exact h
    .exact absurd (by rw[oK,oK,a1,a2])<|aB q C (by simpa using aC) (by simpa using g) h
   subst this;rw[aA] at B;simpa using B
  have E:L.contains Z.born=true:=by
   have:=u;rw[aL] at this
   simp only at this
   rw[Array.contains_iff_mem];exact Array.mem_of_back? this
  refine⟨.tuple #[],Dec.put w c<|.map (es.eraseIdxIfInBounds q) clock,?_,k f _ _ ⟨?_,SH.push hi ?_⟩⟩
  .have:(Builtin.delete_ T ty #[.map<|some c,ck y.1]).run P w= .ok (.tuple #[]) (Dec.put w c<|.map (es.eraseIdxIfInBounds q) clock):=by
    simp[Builtin.delete_,hT,YU ht,Yf N,ok.check,hf,Ft N]
   simp[execOp,resolve,invoke,builtin,I.1.eval hx,I.1.eval hy,this]
  .cases d' with
   | none=>exact I.1.sb _
   | some e=>exact I.1.put (hd e rfl) _
  .have h1:=(aF.mono λm f=>Zm f).put (o' :=.map (es.eraseIdxIfInBounds q) clock);have aN:i' < xs.length:=(Fm.1 hM).1;refine Hz (M:=J7 M y.1) (by rw[lg];simp[aN]) (w:=Dec.put w c<|.map (es.eraseIdxIfInBounds q) clock) ?_ (l' :=J7 l' y.1) (by rw[A];exact g3) (by rw[A];exact aG.erase) hl ?_ (SS R o) (B7 o) λ_ h=>by cases h
   .have h2:=h1.mono λm f=>Zm f;have h3:SH (Dec.put w c<|.map (es.eraseIdxIfInBounds q) clock) F (star (hole γ (Qc ck rv) F0 i' c xs) _):=h2.mono λm f=>Zm<|QT (λm f=>Zm f) f;exact(yo (y:=J7 M y.1) h3).mono λm f=>QT (λm f=>Zm f)<|Zm f
   .rw[A,g4,Lx,PB B<|by simp only[E,RW]];exact aH
theorem Hd.mH(i:Nat)(le:F0<=F)(e:UE γ F j b)(hi:hs[i]? =some (UB γ ck rv F0 j b it xs ix cur))(c:Hd n D S F hs a w):Hd n D S F (hs.set i<|UB γ ck rv F j b it xs ix cur) a w:=⟨c.1,SH.push hi<|yn le e<|c.2.pull hi⟩
theorem GG.mH{g:Gp}(i:Nat)(le:F0<=F)(c:UE γ F j b)(hi:hs[i]? =some (UB γ ck rv F0 j b it xs ix cur))(k:GG g (Hd n D S F<|hs.set i<|UB γ ck rv F j b it xs ix cur) m r):GG g (Hd n D S F hs) m r:=by
 exact λe a w f=>k e a w<|Hd.mH i le c hi f
theorem GG.mj(i:Nat)(hi:hs[i]? =some (UB γ ck rv F0 j b it xs [] cur))(k:GE O P ks Q (Hd n D S F<|hs.set i<|ZE γ (Qc ck rv) F0 xs) m r):GE O P ks Q (Hd n D S F hs) m r:=λe a w c=>k e a w ⟨c.1,SH.push hi<|qg<|c.2.pull hi⟩
theorem Hd.mD{x:Q2 (K×V)}(i:Nat)(hi:hs[i]? =some (UB γ ck rv F0 j b it xs ix x))(e:Hd n D S F hs a w):Hd n D S F (hs.set i<|UB γ ck rv F0 j b it xs ix none) a w:=
 ⟨e.1,SH.push hi (by
  obtain⟨M,es,c,l',f,last,g,_,_,hs,k,o,p,q,s,u,v⟩:=Xg<|e.2.pull hi;exact Hz g hs k o p q s u λ_ h=>by cases h)⟩
theorem GG.mD{g:Gp}{x:Q2 (K×V)}(i:Nat)(hi:hs[i]? =some (UB γ ck rv F0 j b it xs ix x))(k:GG g (Hd n D S F<|hs.set i<|UB γ ck rv F0 j b it xs ix none) m r):GG g (Hd n D S F hs) m r:=by
 exact λc a w e=>k c a w<|Hd.mD i hi e
end
def Mf(P:B2)(fn:oW)(F:Fz)(R:HP)(ρ:β->Fz->K2->Prop)(d:β->Fz->Q0 HP)(r:β):s6->Act->By->Prop:=bodyPostM Fence.wide 0 P fn (λe w' =>∃c v,F<=c/\e= .returned v/\ρ r c v/\SH w' c (star (Qk<|d r c) R))
theorem X6.af{f:Nm}{c:oZ}{args:Q0 K2}{d:β->Fz->Q0 HP}
  (g:P.funcs[f]? =some fn) (i:fn.body=some c) (j:fn.ntmps=n) (l:Nat.ble args.length n=true)
  (k:∀r R,GC none P c [] (Mf P fn F R ρ d r) (Hd n [] (D4 0 args) F<|Hs++[R]) m r):X6 P f args.toArray F Hs m ρ d:=by
 intro r e w R o;refine(s9 (n:=0)).1<|qAl g i trivial<|k r R e _ w ⟨?_,o.mono λm e=>JD<|QT (λ_ h=>Jx h) e⟩;rw[j];exact WC l
section
variable{R:HP}{Hs' :β->Fz->Q0 HP}{x r:β}{rs:Q0 ResultVar}{ms:Q0 (Nat×Nat)}
theorem N4(is:Q0 Nat)(f:fn.results=rs.toArray)(g:uR hs ms)(h:S5 P S F' (H6 hs ms) rs vs)(hi:YN is (H6 hs ms)=Hs' x F' ++[R])(le:F<=F')(hρ:ρ x F' (Ai vs)):some x=some r->∀a w,Hd n (ms.map λp=>WZ p.2) S F' hs a w->LeavesInM Fence.wide 0 P fn a.tmps (λe w' =>∃F' v,F<=F'/\e= .returned v/\ρ r F' v/\SH w' F' (star (Qk<|Hs' r F') R)) a.defers .returning w:=by
 intro e a w c;simp only[UV] at e
 subst e;rw[c.1.2.1];refine NU c.2 g λw' h' => ?_
 exact⟨_,Jn (n:=n) (a:=a) (D:=a.defers) f ⟨⟨c.1.1,rfl,c.1.2.2⟩,h'⟩ h,F',_,le,rfl,hρ,h'.mono λm i=>by
  have d:=YZ (ks:=is) i;rw[hi] at d
  exact XR<|Y5 d⟩
theorem GG.mQ(is:Q0 Nat)(ms:Q0 (Nat×Nat))(c:fn.results=rs.toArray)(d:uR hs ms)(h:S5 P S F' (H6 hs ms) rs vs)(hi:YN is (H6 hs ms)=Hs' x F' ++[R])(le:F<=F')(hρ:ρ x F' (Ai vs)):GC O P .ret ks (Mf P fn F R ρ Hs' r) (Hd n (ms.map λp=>WZ p.2) S F' hs) (some x) r:=GG.sR<|N4 is c d h hi le hρ
theorem GG.nX(is:Q0 Nat)(ms:Q0 (Nat×Nat))(c:fn.results=rs.toArray)(d:uR hs ms)(h:S5 P S F' (H6 hs ms) rs vs)(hi:YN is (H6 hs ms)=Hs' x F' ++[R])(le:F<=F')(hρ:ρ x F' (Ai vs)):GE O P [] (Mf P fn F R ρ Hs' r) (Hd n (ms.map λp=>WZ p.2) S F' hs) (some x) r:=GG.cg<|N4 is c d h hi le hρ
end
def LB(sz:Nat)(c:Up α)(F:Fz)(p:Q2 C1)(cap:Nat)(l:Q0 α):Prop:=QI sz c F p cap l/\(l=[]->p=none/\cap=0)
section
variable{c:Up α}{l:Q0 α}
theorem LB.nil(h:LB sz c F p cap l)(e:l=[]):p=none/\cap=0:=h.2 e
theorem LB.zero:LB sz c F none 0 ([]:Q0 α):=⟨QI.nil,λ_=>⟨rfl,rfl⟩⟩
end
def fF(l:Q0 α):Q2 Unit:=match l with | []=>some () | _::_=>none
theorem Ed{l:Q0 α}{u:Unit}(h:fF l=some u):l=[]:=by
 cases l with
 | nil=>rfl
 | cons x l=>cases h
section
variable{ys:Q0 (Q0<|K×V)}
theorem Hd.lK(i:Nat)(hi:hs[i]? =some (ZE γ (Qc ck rv) F0 xs))(c:Pa xs ys)(d:Hd n D S F hs a w):Hd n D S F (hs.set i<|ZE γ (Qc ck rv) F0 ys) a w:=by
 refine⟨d.1,SH.push hi ?_⟩;refine(d.2.pull hi).tP c.1 λf x y b' m g h j=> ?_;obtain⟨l',k,l,o⟩:=j;have e:=c.2 f x y g h;exact⟨l',k.trans e,(e.map _).nodup_iff.1 l,o⟩
end
end
section
variable{r:β}
theorem FL.mP{k:Nat}{b:Act}(c:FL l k n a0 vs L a)(c' :FL l k n a0 vs g b)(p:k<=vs.length){t:Nat}(i:∀j,j < k->UC l j=some t->L j=g j):a.tmps.getD t undef=b.tmps.getD t undef:=by
 by_cases h:∃j,j < k/\L j=true/\UC l j=some t
 .obtain⟨j,d,f,e⟩:=h;have o:vs[j]? =some vs[j]:=B3 hQ;rw[c.got j _ t d f e o,c'.got j _ t d (by rw[<-i j d e];exact f) e o]
 .rw[c.old t λj d f e=>h ⟨j,d,f,e⟩,c'.old t λj d f e=>h ⟨j,d,by rw[i j d e];exact f,e⟩]
end
section
variable{st:Q0 Nat}{p:Nat}
theorem Fz.r:F<=F:=Fz.le_refl F
theorem Fz.t{G H:Fz}(h:F<=G)(k:G<=H):F<=H:=Fz.le_trans h k
def vd(O:Q2 Nat)(P:B2)(eX:C3 L0)(Q:s6->Act->By->Prop):Q0 Nat->Q0 L0->Act->By->Prop
 | [],l,a,w=>wpS P eX w (λb=>Q .normal b w) l a
 | p::st,l,a,w=>wpS P eX w (λb=>Xp O P eX (Exit.then (vd O P eX Q st<|l.drop<|p+1) Q) ((l.drop p).take 1) b w) (l.take p) a
def ub(l:Q0 L0)(c p i:Nat)(o:L0):Bool:=(o.looksAt l.toArray).all λt=>(List.range p).all λj=>match UC l (c+j) with
 | none=>true
 | some d=> !Nat.beq d t||((o.after.toList.any λe=>Region.binds .any e&&Nat.beq e.on (c+j))||(Nat.blt i j&&match l[c+j]? with
  | none=>false
  | some a=>a.after.toList.any λe=>Region.binds .any e&&Nat.beq e.on (c+i)))
def NT(l:Q0 L0)(c p:Nat):Nat->Q0 L0->Bool
 | _,[]=>true
 | i,o::os=>ub l c p i o&&NT l c p (i+1) os
theorem Rt{c:Nat}:∀{os:Q0 L0} {a:Nat},NT l c p a os=true->∀(i:Nat) (o:L0),os[i]? =some o->ub l c p (a+i) o=true
 | [],_,_,i,o,h=>by simp at h
 | x::os,a,b,i,o,h=>by
  simp only[NT,BY] at b
  cases i with
  | zero=>simp at h;subst h;exact b.1
  | succ i=>
   have:=Rt b.2 i o (by simpa using h);rw[show a+1+i=a+(i+1) by omega] at this
   exact this
def yI(n:Nat)(l:Q0 L0)(c p:Nat):Bool:=Bz n ((l.drop c).take p)&&NT l c p 0 ((l.drop c).take p)&&((l.drop c).take p).all λo=>Ht o.op&&uT o.op
def dc(a:Q0 (Q0 Bool))(len d:Nat):Bool:=vH d (a.getD d [])&&(List.range len).all λt=> !Nat.blt d t||(a.getD t []).getD d false
def gI(n:Nat)(l:Q0 L0)(a:Q0 (Q0 Bool)):Q0 Nat->Nat->Bool
 | [],c=>yI n l c (l.length - c)
 | p::st,c=>Nat.blt (c+p) l.length&&yI n l c p&&dc a l.length (c+p)&&gI n l a st (c+p+1)
def kc(n:Nat)(l:Q0 L0)(st:Q0 Nat):Bool:=LU 0 l&&gI n l (XC [] l) st 0
def UX(l:Q0 L0):Q0 Nat->Nat->Nat
 | [],c=>l.length - c
 | p::_,_=>p
def vj(O:Q2 Nat)(P:B2)(l:Q0 L0)(Q:s6->Act->By->Prop):Q0 Nat->Nat->Act->By->Prop
 | [],_,a,w=>Q .normal a w
 | p::st,c,a,w=>Xp O P l.toArray (Exit.then (vd O P l.toArray Q st<|l.drop<|c+p+1) Q) ((l.drop<|c+p).take 1) a w
theorem OW{a:Q0 (Q0 Bool)}:∀{st:Q0 Nat} {c:Nat},gI n l a st c=true->c<=l.length->yI n l c (UX l st c)=true/\c+UX l st c<=l.length
 | [],c,h,b=>⟨h,by show c+(l.length - c)<=l.length;omega⟩
 | p::st,c,h,_=>by
  simp only[gI,BY] at h
  exact⟨h.1.1.2,Nat.le_of_lt<|AC h.1.1.1⟩
theorem vk:∀{st:Q0 Nat} {c:Nat} {a:Act},c<=l.length->vd O P l.toArray Q st (l.drop c) a w->wpS P l.toArray w (λb=>vj O P l Q st c b w) ((l.drop c).take<|UX l st c) a
 | [],c,a,d,h=>by
  have e:(l.drop c).take (UX l [] c)=l.drop c:=IF (by show(l.drop c).length<=l.length - c;rw[oJ];exact So _);rw[e];exact h
 | p::st,c,a,d,h=>by
  unfold vd at h
  rw[o8,o8] at h
  exact h
structure jG(O:Option Nat)(P:Program)(l:List Oper)(n:Nat)(Q:Exit->Act->World->Prop)(dfs:List Deferred)(st:List Nat)(c:Nat)(a0:Act)(vs:List Value)(L:Nat->Bool)(a:Act)(w:World):Prop where
 stg:gI n l (XC [] l) st c=true
 cl:c<=l.length
 down:Down l L
 pre:∀j,j < c->L j=true
 out:∀j,c+UX l st c<=j->L j=false
 size:a0.tmps.size=n
 len:vs.length=UX l st c
 tail:vj O P l Q st c (Oi a0 ((l.drop c).take<|UX l st c) vs) w
 step:∀i o v,((l.drop c).take<|UX l st c)[i]? =some o->vs[i]? =some v->PZ P l.toArray w o v (Oi a0 (((l.drop c).take<|UX l st c).take i)<|vs.take i)
 char:FL (l.drop c) (UX l st c) n a0 vs (λj=>L<|c+j) a
theorem jG.enter(hs:gI n l (XC [] l) st c=true)(e:c<=l.length)(h:Down l L)(d:∀j,j < c->L j=true)(b:∀j,c<=j->L j=false)(f:a.tmps.size=n)(i:vd O P l.toArray Q st (l.drop c) a w):∃vs,jG O P l n Q [] st c a vs L a w:=by
 obtain⟨vs,k,m,o⟩:=OL<|vk e i;have g:=(OW hs e).2;refine⟨vs,hs,e,h,d,λj r=>b j hQ,f,?_,m,o,⟨f,rfl,λj v t _ q=> ?_,λt _=>rfl⟩⟩
 .rw[k,qAU,oJ];omega
 .have:L (c+j)=true:=q;rw[b (c+j) hQ] at this;cases this
theorem MC{d:Q2 Tmp}:(a.put d v).tmps.size=a.tmps.size:=by
 cases d with
 | none=>rfl
 | some t=>show(a.tmps.setIfInBounds t v).size=_;simp
section
variable{r:β}
theorem u5{id:Nat}(hm:P.follows .mixedOrders=true)(aU:Q0 Nat)(hB:kc n l aU=true){w0:By}(aj:a0.tmps.size=n)(ak:vd O P l.toArray Q aU l a0 {w0 with drawn:=w0.drawn+1}):(Code.region id l.toArray true).wpIn (NH O) 0 P Q a0 w0:=by
 simp only[kc,BY] at hB
 obtain⟨aC,al⟩:=hB;have aG:RY l (XC [] l):=CJ (pre:=[]) rfl rfl (λt m h=>by simp at h);refine X7 hm (λL a w=>∃st c a1 vs,jG O P l n Q [] st c a1 vs L a w) (λi o h e he S=>by have:=HY aC i o (by simpa using h) e he S;omega) ?_ ?_ ?_
 .obtain⟨vs,f⟩:=jG.enter (L:=λ_=>false) al (oh _) (λi o _ h=>(by cases h)) (λj x=>absurd x hQ) (λ_ _=>rfl) aj ak;exact⟨_,_,_,_,f⟩
 .rintro L a w i o ho aV A ⟨st,c,a1,vs,f⟩;have C:l[i]? =some o:=by simpa using ho
  have M:i < l.length:=Zz C
  have bA:c<=i:=by
    rcases u0 i c with h | h
    .have:=f.pre i h;rw[aV] at this;cases this
    .exact h
  obtain⟨y,aW⟩:=OW f.stg f.cl;have E:=PG (l:=l.drop c) (k:=UX l st c) (a0:=a1) (vs:=vs) f.size (by simp only[yI,BY] at y;exact y.1.1) (by rw[oJ];omega) f.len
  have aD:Down l (Kh L i):=λj oj N x e he S=>by
    have:L e.on=true:=by
     by_cases aX:j=i
     .subst aX;rw[C] at N;cases N;exact A e he S
     .exact f.down j oj N (by simpa[Kh,aX] using x) e he S
    simp only[Kh];split
    .rfl
    .exact this
  rcases u0 i (c+UX l st c) with hi | hi
  ·
    obtain⟨q,rfl⟩:∃q,i=c+q:=⟨i - c,by omega⟩;have hq:q < UX l st c:=by omega
    have aI:((l.drop c).take<|UX l st c)[q]? =some o:=by rw[If,DO hq,lY];exact C
    have ao:(l.drop c)[q]? =some o:=by rw[lY];exact C
    simp only[yI,BY,IN] at y
    obtain⟨⟨X,Y⟩,aZ⟩:=y;obtain⟨aq,ar⟩:=aZ o<|S1 aI;have aa:=Rt Y q o aI;rw[s5] at aa
    obtain⟨v,hv⟩:∃v,vs[q]? =some v:=⟨vs[q]'(by rw[f.len];exact hq),B3 _⟩
    have T:PZ P l.toArray w o v a:=(f.step q o _ aI hv).of_same ar λt ht=>by
     refine(E q hQ).mP f.char (by rw[f.len];exact So _) λj x e=> ?_
     have e' :UC l (c+j)=some t:=by
      unfold UC at e ⊢;rw[lY] at e;exact e
     have B:=IN.1 (IN.1 aa t ht) j<|ll.2 x;rw[e'] at B
     simp only[Nat.beq_refl,RW,oS,mx] at B
     rcases B with B | B
     .simp only[lT,BY] at B
      obtain⟨e1,aJ,Z,V⟩:=B;have V:e1.on=c+j:=yb V;have W:e1∈o.after:=by simpa using aJ
      have hL:=A e1 W Z;have:=HY aC (c+q) o C e1 W Z;rw[V] at hL
      show Nat.blt j q=L (c+j);rw[hL];exact sp<|show j+1<=q by omega
     .simp only[BY] at B
      obtain⟨ab,G⟩:=B;have ab:q < j:=AC ab
      have h3:Nat.blt j q=false:=by
       cases S:Nat.blt j q with
       | false=>rfl
       | true=>have:=AC S;omega
      show Nat.blt j q=L (c+j);rw[h3];cases au:L (c+j) with
      | false=>rfl
      | true=>
       exfalso;cases N:l[c+j]? with
       | none=>rw[N] at G;cases G
       | some oj=>
        rw[N] at G
        simp only[lT,BY] at G
        obtain⟨e1,aJ,Z,V⟩:=G;have:=f.down (c+j) oj N au e1 (by simpa using aJ) Z;rw[yb V,aV] at this
        cases this
    have g:∃aK c2 a2 aL,jG O P l n Q [] aK c2 a2 aL (Kh L<|c+q) (a.put o.dst v) w:=by
     refine⟨st,c,a1,vs,f.stg,f.cl,aD,λj x=> ?_,λj x=> ?_,f.size,f.len,f.tail,f.step,?_⟩
     .simp only[Kh];rw[Do hQ];exact f.pre j x
     .simp only[Kh];rw[Do hQ];exact f.out j x
     .have:=f.char.put X hq ao hv
      have e:(λj=>Kh L (c+q)<|c+j)=Kh (λj=>L<|c+j) q:=by
       funext j;simp only[Kh];by_cases x:j=q
       .subst x;simp
       .rw[Do x,Do hQ]
      rw[e];exact this
    rcases T with⟨B,G⟩ | ⟨B,G⟩
    .rw[DO B];refine⟨.inr aq,?_⟩;rw[G];exact g
    .rw[Do (by simp[B]),<-G];exact g
  ·
    cases st with
    | nil=>exact absurd M (by have:UX l [] c=l.length - c:=rfl;omega)
    | cons p aA=>
     have H:UX l (p::aA) c=p:=rfl;rw[H] at hi E aW
     have I:=f.stg;simp only[gI,dc,BY,IN] at I
     obtain⟨⟨⟨aB,_⟩,aM,aN⟩,T⟩:=I;have aB:c+p < l.length:=AC aB;have aE:∀(t j:Nat) (m:Q0 Bool),(XC [] l)[t]? =some m->m.getD j false=true->∃s,HE l s t j=true:=λt j m B G=>aG t m B j G
     have aF:∀t,t < l.length->(XC [] l)[t]? =some ((XC [] l).getD t []):=λt ht=>by
      rw[nn];cases h:(XC [] l)[t]? with
      | some m=>rfl
      | none=>
       exfalso
       have:(XC [] l).length=l.length:=by
        have gen:∀(os:Q0 L0) (d:Q0 (Q0 Bool)),(XC d os).length=d.length+os.length:=by
         intro os
         induction os with
         | nil=>intro d;simp[XC]
         | cons o os ih=>intro d;rw[XC,ih];simp;omega
        simpa using gen l []
       rw[qAO] at h
       omega
     have ax:i=c+p:=by
      rcases u0 (c+p) i with h | h
      .exfalso;have B:=aN i<|ll.2 M;rw[show Nat.blt (c+p) i=true from sp h] at B
       simp only[RW,oS] at B
       obtain⟨s,hs⟩:=aE i (c+p) _ (aF i M) B;have:=Xh f.down hs λo' K e he S=>by rw[C] at K;cases K;exact A e he S
       rw[f.out (c+p) (by rw[H];exact So _)] at this
       cases this
      .omega
     subst ax
     have z:∀j,j < c+p->L j=true:=λj x=>by
      obtain⟨s,hs⟩:=aE (c+p) j _ (aF _ M)<|M7 aM x;exact Xh f.down hs λo' K e he S=>by rw[C] at K;cases K;exact A e he S
     have R:=f.char;rw[H] at R
     have aO:(λj=>L<|c+j)=λj=>Nat.blt j p:=by
      funext j;rcases u0 j p with h | h
      .rw[z (c+j) hQ];exact(sp h).symm
      .rw[f.out (c+j) (by rw[H];omega)];cases S:Nat.blt j p with
       | false=>rfl
       | true=>have:=AC S;omega
     have ad:=f.len;rw[H] at ad
     have G:=E p<|So _;rw[IF (show((l.drop c).take p).length<=p by simp;omega),IF<|show vs.length<=p by omega] at G
     rw[aO] at R
     have aP:=R.eq G hQ λj x=>sp x;have b:=f.tail;rw[H,<-aP] at b
     have aQ:(l.drop<|c+p).take 1=[o]:=by
      have hg:l[c+p]'M=o:=by simpa[M] using C
      rw[<-hg,dO M];rfl
     change Xp O P l.toArray (Exit.then (vd O P l.toArray Q aA<|l.drop<|c+p+1) Q) ((l.drop<|c+p).take 1) a w at b
     rw[aQ] at b
     have g:∀a' w',a'.tmps.size=n->vd O P l.toArray Q aA (l.drop<|c+p+1) a' w'->∃aK c2 a2 aL,jG O P l n Q [] aK c2 a2 aL (Kh L<|c+p) a' w' :=λa' w' hz h=>by
      obtain⟨vs',ay⟩:=jG.enter (L:=Kh L<|c+p) T hQ aD (λj x=>by
       simp only[Kh];by_cases ae:j=c+p
       .rw[DO ae]
       .rw[Do ae];exact z j hQ) (λj x=>by
       simp only[Kh];rw[Do hQ];exact f.out j (by rw[H];omega)) hz h
      exact⟨_,_,_,_,ay⟩
     unfold Xp at b
     split
     .rename_i aR;rw[DO aR] at b
      refine Ox (λu w' h=>g _ w' (by rw[MC,R.size]) h) (λd w' h=>g _ w' ?_ h) (λe a w he hq=>by cases e<;>first | exact absurd rfl he | exact hq) b;rw[MC];exact R.size
     .rename_i aR;rw[Do aR] at b
      exact g _ _ (by rw[MC,R.size]) b
 .rintro L a w z ⟨st,c,a1,vs,f⟩;obtain⟨y,aW⟩:=OW f.stg f.cl;cases st with
  | cons p aA=>
    exfalso;have I:=f.stg;simp only[gI,BY] at I
    have aB:c+p < l.length:=AC I.1.1.1;have:=z (c+p) (by simpa using aB);rw[f.out (c+p)<|So _] at this
    cases this
  | nil=>
    have E:=PG (l:=l.drop c) (k:=UX l [] c) (a0:=a1) (vs:=vs) f.size (by simp only[yI,BY] at y;exact y.1.1) (by rw[oJ];exact So _) f.len;have H:UX l [] c=l.length - c:=rfl;have G:=E (UX l [] c)<|So _;rw[IF (show((l.drop c).take<|UX l [] c).length<=UX l [] c by simp;omega),IF (show vs.length<=UX l [] c by rw[f.len];exact So _)] at G
    have aO:FL (l.drop c) (UX l [] c) n a1 vs (λj=>Nat.blt j<|UX l [] c) a:=by
     refine⟨f.char.size,f.char.defs,λj v t x _ hd hv=>f.char.got j v t x (z _ ia) hd hv,λt ht=>f.char.old t λj x _=>ht j x<|sp x⟩
    have aP:=aO.eq G (by rw[f.len];exact So _) λj x=>sp x;have b:=f.tail;rw[<-aP] at b
    exact b
theorem GG.pn{id:Nat}(d:P.follows .mixedOrders=true)(e:kc n l (p::st)=true)
  (a:GL .s P l.toArray (l.take p) [] (λ_=>Xp O P l.toArray (Exit.then (vd O P l.toArray (Z0 O P ks Q) st<|l.drop<|p+1)<|Z0 O P ks Q)<|(l.drop p).take 1) (Hd n D S0 F hs) m r):GC O P (.region id l.toArray true) ks Q (Hd n D S0 F hs) m r:=by
 intro b a0 w c;exact u5 d (p::st) e c.1.1<|a b a0 {w with drawn:=w.drawn+1} ⟨c.1,c.2.drew _⟩
end
section
variable{tl:Q0 L0}{K:s6->Act->By->Prop}{r:β}
theorem GG.tq(h:GL O P eX tl [] K A m r):GL .s P eX [] [] (λ_=>Xp O P eX K tl) A m r:=λb a w c=>h b a w c
theorem GG.nH(h:GE O P ks Q A m r):GL .s P eX [] [] (λ_=>Z0 O P ks Q .normal) A m r:=λb a w c=>h b a w c
theorem GG.mM(h:GL .s P eX (l.take p) [] (λ_=>Xp O P eX (Exit.then (vd O P eX K st<|l.drop<|p+1) K)<|(l.drop p).take 1) A m r):GE O P [] (Exit.then (vd O P eX K (p::st) l) K) A m r:=λb a w c=>h b a w c
theorem GG.tQ(h:GL .s P eX l [] (λ_=>K .normal) A m r):GE O P [] (Exit.then (vd O P eX K [] l) K) A m r:=λb a w c=>h b a w c
end
end
section
variable{l:Q0 H1}
def bs(l:Q0 H1):ByteArray:=⟨l.toArray⟩
theorem AS:(bs l).size=l.length:=rfl
theorem E9:(bs l).toList=l:=ByteArray.toList_mk l
theorem fX:(bs l)[i]? =l[i]? :=by
 by_cases h:i < l.length
 .have h' :i < (bs l).size:=h;rw[getElem?_pos (bs l) i h',getElem?_pos l i h];rfl
 .have h' :¬i < (bs l).size:=h;rw[getElem?_neg (bs l) i h',getElem?_neg l i h]
theorem Cg:(bs l).extract i j=bs ((l.drop i).take<|j - i):=by
 apply ByteArray.ext;rw[ByteArray.data_extract];show(l.toArray).extract i j=_;simp[bs,List.extract_toArray,List.take_drop]
def Af(s:Q0 H1):Q0 K2:=[.string<|bs s]
section
variable{t:S2}
theorem xC(h:Sl n D S a)(_:P.underlying t=some .string)(b:QS S ox=some (.string<|bs s))(c:QS S oy=some (.string<|bs u)):(execOp a.eval ⟨some d,.binOp .eql t ox oy t',ty,pos,after,none⟩).run P w= .ok (.value<|.bool<|s==u) w:=by
 simp[execOp,h.eval b,h.eval c,eqGuard,binOp,Op.stringOp,E9]
theorem xB(h:Sl n D S a)(_:P.underlying t=some .string)(b:QS S ox=some (.string<|bs s))(c:QS S oy=some (.string<|bs u)):(execOp a.eval ⟨some d,.binOp .neq t ox oy t',ty,pos,after,none⟩).run P w= .ok (.value<|.bool<|!(s==u)) w:=by
 simp[execOp,h.eval b,h.eval c,eqGuard,binOp,Op.stringOp,E9]
theorem uB(h:Sl n D S a)(b:T[0]? =some t)(c:P.underlying t=some .string)(e:QS S ox=some (.string<|bs s)):(execOp a.eval ⟨some d,.call ⟨.builtin .len,#[ox],T⟩,ty,pos,after,none⟩).run P w= .ok (.value<|.int .i64 s.length) w:=by
 simp[execOp,resolve,invoke,builtin,Builtin.len_,h.eval e,b,YU c,goInt,AS]
theorem uC(h:Sl n D S a)(b:P.underlying t=some .string)(e:QS S ox=some (.string<|bs s))(f:QS S oy=some (.int kd x)){c:H1}(g:ZI s x=some c):(execOp a.eval ⟨some d,.index t ox oy,ty,pos,after,none⟩).run P w= .ok (.value<|.int .u8 c.toNat) w:=by
 obtain⟨i,_,j⟩:=Xv g;simp[execOp,h.eval e,h.eval f,Instr.index,asIntOf,YU b,i,fX,j]
theorem qC(b:P.underlying t=some .string)(h:0<=x/\x<=y)(h' :y<=s.length):(Instr.sliceAt t (.string<|bs s) (some<|.int kd x) (some<|.int kd' y) none).run P w= .ok (.string<|bs<|(s.drop x.toNat).take<|y.toNat - x.toNat) w:=by
 simp only[Instr.sliceAt,y1,YU b,Result.andThen,Instr.slice,Instr.sliceBounds,oI,oL,W1,Bm,B1,AS];rw[Wc (kd:=kd') hQ];simp only[];rw[Wc hQ];simp[Cg]
theorem Od(b:P.underlying t=some .string)(h:0<=y)(h' :y<=s.length):(Instr.sliceAt t (.string<|bs s) none (some<|.int kd' y) none).run P w= .ok (.string<|bs<|s.take y.toNat) w:=by
 simp only[Instr.sliceAt,y1,YU b,Result.andThen,Instr.slice,Instr.sliceBounds,oI,oL,W1,Bm,B1,AS];rw[Wc (kd:=kd') hQ];simp[Cg]
theorem uE(h:Sl n D S a)(c:P.underlying t=some .string)(e:QS S ox=some (.string<|bs s))(f:QS S oy=some (.int kd x))(g:QS S oz=some (.int kd' y))(b:Zc s x y=some l):(execOp a.eval ⟨some d,.slice t ox (some oy) (some oz) none,ty,pos,after,none⟩).run P w= .ok (.value<|.string<|bs l) w:=by
 unfold Zc at b
 split at b
 .rename_i i;simp only[UV] at b
  simp only[execOp,h.eval e,h.eval f,h.eval g,RK,oY,y1];rw[qC c hQ hQ,b];rfl
 .cases b
theorem EH(h:Sl n D S a)(c:P.underlying t=some .string)(e:QS S ox=some (.string<|bs s))(f:QS S oz=some (.int kd' y))(b:Zc s 0 y=some l):(execOp a.eval ⟨some d,.slice t ox none (some oz) none,ty,pos,after,none⟩).run P w= .ok (.value<|.string<|bs l) w:=by
 unfold Zc at b
 split at b
 .rename_i g;simp only[UV] at b
  simp only[execOp,h.eval e,h.eval f,RK,oY,y1];rw[Od c hQ hQ,<-b];rfl
 .cases b
end
section
variable{r:β}
variable{t:S2}
theorem GG.si(b:Nat.blt d n=true)(c:P.underlying t=some .string)(e:QS S ox=some (.string<|bs s))(f:QS S oy=some (.string<|bs u))(k:GL μ P eX rest ks Q (Hd n D ((d,.bool<|s==u)::S) F hs) m r):GL μ P eX (⟨some d,.binOp .eql t ox oy t',ty,pos,after,none⟩::rest) ks Q (Hd n D S F hs) m r:=GG.val b (λa w g=>xC g.1 c e f) k
theorem GG.rD(b:Nat.blt d n=true)(c:P.underlying t=some .string)(e:QS S ox=some (.string<|bs s))(f:QS S oy=some (.string<|bs u))(k:GL μ P eX rest ks Q (Hd n D ((d,.bool<|!(s==u))::S) F hs) m r):GL μ P eX (⟨some d,.binOp .neq t ox oy t',ty,pos,after,none⟩::rest) ks Q (Hd n D S F hs) m r:=GG.val b (λa w g=>xB g.1 c e f) k
theorem GG.sZ(b:Nat.blt d n=true)(c:T[0]? =some t)(e:P.underlying t=some .string)(f:QS S ox=some (.string<|bs s))(k:GL μ P eX rest ks Q (Hd n D ((d,.int .i64 s.length)::S) F hs) m r):GL μ P eX (⟨some d,.call ⟨.builtin .len,#[ox],T⟩,ty,pos,after,none⟩::rest) ks Q (Hd n D S F hs) m r:=GG.val b (λa w g=>uB g.1 c e f) k
theorem GG.ay{f:H1->Q2 β}(e:Nat.blt d n=true)(g:P.underlying t=some .string)(h:QS S ox=some (.string<|bs s))(i:QS S oy=some (.int kd x))(k:∀c,ZI s x=some c->GL μ P eX rest ks Q (Hd n D ((d,.int .u8 (c.toNat:Int))::S) F hs) (f c) r):GL μ P eX (⟨some d,.index t ox oy,ty,pos,after,none⟩::rest) ks Q (Hd n D S F hs) ((ZI s x).bind f) r:=GG.bind λc b=>GG.val e (λa w j=>uC j.1 g h i b)<|k c b
theorem GG.mC(b:Nat.blt d n=true)(c:P.underlying t=some .string)(e:QS S ox=some (.string<|bs s))(g:QS S oy=some (.int kd x))(i:QS S oz=some (.int kd' y))(k:∀z,Zc s x y=some z->GL μ P eX rest ks Q (Hd n D ((d,.string<|bs z)::S) F hs) (f z) r):GL μ P eX (⟨some d,.slice t ox (some oy) (some oz) none,ty,pos,after,none⟩::rest) ks Q (Hd n D S F hs) ((Zc s x y).bind f) r:=GG.bind λz h=>GG.val b (λa w j=>uE j.1 c e g i h)<|k z h
theorem GG.nK(b:Nat.blt d n=true)(c:P.underlying t=some .string)(e:QS S ox=some (.string<|bs s))(g:QS S oz=some (.int kd' y))(k:∀z,Zc s 0 y=some z->GL μ P eX rest ks Q (Hd n D ((d,.string<|bs z)::S) F hs) (f z) r):GL μ P eX (⟨some d,.slice t ox none (some oz) none,ty,pos,after,none⟩::rest) ks Q (Hd n D S F hs) ((Zc s 0 y).bind f) r:=GG.bind λz h=>GG.val b (λa w i=>EH i.1 c e g h)<|k z h
end
end
section
variable{r:β}
variable{T:Nat}{l:Q0 Int}{t:S2}
theorem GG.rf{z:Q0 H1}(h:Zc s 0 y=some z)(b:Nat.blt d n=true)(c:P.underlying t=some .string)(f:QS S ox=some (.string<|bs s))(g:QS S oz=some (.int kd' y))(k:GL μ P eX rest ks Q (Hd n D ((d,.string<|bs z)::S) F hs) m r):GL μ P eX (⟨some d,.slice t ox none (some oz) none,ty,pos,after,none⟩::rest) ks Q (Hd n D S F hs) m r:=GG.val b (λa w i=>EH i.1 c f g h) k
def XQ(s:Q0 H1):Q0 Int:=s.map λc=>(c.toNat:Int)
theorem GG.rH(A:Nat.blt d n=true)(B:P.underlying t=some .string)(C:P.underlying t' =some (.slice e))(E:P.underlying e=some (.int .u8))(j:QS S ox=some (.string<|bs s))(K:s.length<=4294967296)
  (k:∀o p cap,F<=o->QI 1 (Ex<|Zy .u8) o p cap (XQ s)->GL O P eX rest ks Q (Hd n D ((d,.slice p (XQ s).length cap)::S) o hs) m r):GL O P eX (⟨some d,.convert t t' ox,ty,pos,after,none⟩::rest) ks Q (Hd n D S F hs) m r:=by
 refine GG.step rfl (.inr rfl) λG a w q=> ?_;have f:=run_bytes_of_string (P:=P) w t t' e (bs s) B C E;have g:=grownCap_ge w (bs s).size 0 e;have h:=grownCap_le_maxLen w (bs s).size 0 e (by rw[AS];unfold maxLen;omega);generalize grownCap w (bs s).size 0 e=cap at f g h
 obtain⟨le,v⟩:=SH.tg (q.2.drew<|w.drawn+1)<|.cells (bytesRow (bs s) cap) e ((bytesRow (bs s) cap).size,(bytesRow (bs s) cap).size+1);have b:(XQ s).length=s.length:=by simp[XQ]
 have H:QI 1 (Ex<|Zy .u8) (F.add w.heap.size<|.cells (bytesRow (bs s) cap) e ((bytesRow (bs s) cap).size,(bytesRow (bs s) cap).size+1)) (some ⟨w.heap.size,0,none⟩) cap (XQ s):=by
  refine⟨by rw[b];exact g,by unfold maxLen at h;omega,.inr ⟨_,_,_,_,_,rfl,Fz.sV _ _ _,λi x j o _=> ?_⟩⟩;have hi:i < s.length:=by rw[<-b];exact(Fm.1 j).1
  simp only[XQ,tb,B3 hi,RK,UV] at j
  subst j;show((bytesRow (bs s) cap).toList.drop<|0+i*1).take 1=[.int .u8 _]
  have I:(bytesRow (bs s) cap).toList=s.map (λc=>Value.int .u8 c.toNat)++List.replicate (cap - (bs s).size) (.int .u8 0):=by
   simp[bytesRow,bs]
  rw[I,s5,qAS,oV ia,dO<|by simpa using hi];simp
 refine⟨_,_,by simp only[execOp,q.1.eval j,y1,f];rfl,?_⟩;have z:=k _ _ _ le H G;rw[b] at z
 exact z _ _ ⟨q.1.put A _,v⟩
theorem GG.pv(g:Nat.blt d n=true)(i:P.underlying t=some .string)(j:P.underlying t' =some (.slice e))(o:P.underlying e=some (.int .u8))(q:QS S ox=some (.string<|bs s))
  (k:∀z b p cap,Y1 [] s=some z->F<=b->QI 1 (Ex<|Zy .u8) b p cap (XQ z)->GL O P eX rest ks Q (Hd n D ((d,.slice p (XQ z).length cap)::S) b hs) (f z) r):GL O P eX (⟨some d,.convert t t' ox,ty,pos,after,none⟩::rest) ks Q (Hd n D S F hs) ((Y1 [] s).bind f) r:=
 GG.bind λz a=>by
  have c:=a;unfold Y1 at a
  split at a
  .rename_i h;simp only[lQ,UV] at a
   subst a;simp only[qs,s5] at h
   exact GG.rH g i j o q h λb p cap le v=>k _ b p cap c le v
  .cases a
end
section
open Go.RowKit
def MD:C3 K2:=(Go.Lib.pow10Tab.map λz=>Value.int .u64 z).toArray
def gB(P:B2)(F:Fz)(name:String)(cs:C3 K2):Prop:=∃g T fr,P.globalNamed name=some g/\F.mem g=some (.cells cs T fr)
theorem gB.mono{a:Fz}{name:String}{cs:C3 K2}(h:gB P F name cs)(le:F<=a):gB P a name cs:=let⟨g,T,fr,b,c⟩:=h;⟨g,T,fr,b,le.mem _ _ c⟩
section
variable{r:β}
variable{t t2 e:S2}
theorem Tr{α:Type}:∀{l:Q0 α} {i:Nat} {x:α},l[i]? =some x->l.set i x=l
 | [],_,_,h=>by simp at h
 | a::l,0,x,h=>by simp at h;subst h;rfl
 | a::l,i+1,x,h=>by simp at h ⊢;exact Tr h
end
end
def Fz.del(F:Fz)(b:Nat):Fz:={F with mem:=λk=>if k=b then none else F.mem k}
theorem SH.mK(h:SH w F H)(f:F.mem b=some o):SH w (F.del b) (star (pt b o) H):=by
 obtain⟨m,g,k⟩:=h
 have d:m (.blk b)=none:=by
  rcases k.dj b with h | h
  .exact h
  .rw[f] at h;cases h
 refine⟨m.set (.blk b)<|.obj o,SD d g,?_,?_,?_,?_,k.os,k.tape,k.out⟩
 .intro x;by_cases e:x=b
  .subst e;exact .inr<|by simp[Fz.del]
  .rcases k.dj x with h | h
   .exact .inl<|by simpa[Mem.set,e] using h
   .exact .inr<|by simpa[Fz.del,e] using h
 .intro x c e;by_cases a:x=b
  .subst a;simp[Mem.set] at e;subst e;exact⟨o,rfl,k.frz _ _ f⟩
  .simp[Mem.set,a] at e;exact k.own x c e
 .intro γ c e;exact k.gst γ c<|by simpa[Mem.set] using e
 .intro x c e;by_cases a:x=b
  .subst a;simp[Fz.del] at e
  .exact k.frz x c<|by simpa[Fz.del,a] using e
abbrev cN:=Nat->Int
section
variable{c:Up α}{l:Q0 α}
section
variable{r:β}
theorem QI.mW{cs:Q0 K2}(le:F0<=F)(f:F<=F.add b (.cells cs.toArray e (0,0)))(s:l.length<=cap)(h:cap<=9223372036854775807)(g:Jm sz c F0 l cs)(i:∃k,l2=l.take k):QI sz c (F.add b<|.cells cs.toArray e (0,0)) (some ⟨b,0,none⟩) cap l2:=by
 obtain⟨q,rfl⟩:=i;refine⟨by rw[qAU];omega,h,.inr ⟨b,0,cs.toArray,e,(0,0),rfl,Fz.sV _ _ _,λj x a o p=> ?_⟩⟩;rw[If] at a
 split at a
 .simpa using g j x a o (Fz.t le<|Fz.t f p)
 .cases a
theorem GG.mX{G:oZ}(i:Nat)(hi:hs[i]? =some (Qg sz c F0 e p cap l))(v:F0<=F)
  (k:∀t,F<=t->QI sz c t p cap l->(∀g w f,t<=g->SH w g (Qk f)->∃q,F<=q/\SH w q (Qk<|Qg sz c F0 e p cap l::f))->GC O P G ks Q (Hd n D S t<|hs.eraseIdx i) m r):GC O P G ks Q (Hd n D S F hs) m r:=
 λo a w u=>by
  have N:=u.2.pull hi;obtain⟨R,⟨V,W,X,H,Y,⟨I,K,Z⟩,hq⟩,L⟩:=N;rcases Z with⟨rfl,rfl⟩ | ⟨b,cs,rfl,M,hl,s⟩
  .have e1:l=[]:=Rw hQ;subst e1;refine k F (Fz.le_refl _) ⟨by simp,by simp,.inl rfl⟩ (λg w f le h=>⟨g,le,h.mono λm o=> ?_⟩) o a w ⟨u.1,u.2.se i⟩;exact⟨λ_=>none,m,λ_=>.inl rfl,λ_ _ e=>by simp at e,Mem.sub.refl _,Pp,o⟩
  .have hh:SH w F (star (pt b<|.cells cs.toArray e (0,0))<|Qk<|hs.eraseIdx i):=⟨R,⟨V,W,X,H,Y,M,hq⟩,L⟩
   have y:F.mem b=none:=by
    rcases L.dj b with h | h
    .have:=H _ _ M;rw[h] at this;cases this
    .exact h
   obtain⟨j,z⟩:=hh.freeze;refine k _ j (QI.mW v j I K s ⟨l.length,by simp⟩) (λg w' f le hw=> ?_) o a w ⟨u.1,z⟩;have A:=le.mem _ _<|Fz.sV F b<|.cells cs.toArray e (0,0)
   have B:F<=g.del b:=⟨le.os,le.tape,le.out,λk x C=>by
    have hk:k≠b:=λe=>by rw[e,y] at C;cases C
    simp only[Fz.del,hk,Bm];exact le.mem _ _<|j.mem _ _ C,le.gh,le.gn⟩
   exact⟨g.del b,B,(hw.mK A).mono λ_ o=>QR (λm' E=>⟨I,K,.inr ⟨b,cs,rfl,E,hl,s⟩⟩) o⟩
theorem GG.aX{γ:Type}{f:Nm}{u:Q0 K2}{os:Q0 OF}{C:Q2 γ}{ρ:γ->Fz->K2->Prop}{g:γ->Q2 β}(ρ' :γ->K2->Prop)(i:Nat)(hi:hs[i]? =some (Qg sz c F0 e p cap l))(E:F0<=F)(z:∃k,l2=l.take k)(W:Nat.blt d n=true)
  (o:∀args w,(callFunc f args).run P w= .ok (.enter f args) w) (hf:QS S of=some (.func (.func f) #[] eY.toArray)) (ha:Un S os=some vs) (has:vs++eY=u)
  (X:∀G,F<=G->QI sz c G p cap l2->KO P f u.toArray G C ρ) (hρ:∀x j v,ρ x j v->ρ' x v)
  (k:∀x j v,C=some x->F<=j->ρ' x v->GL O P eX rest ks Q (Hd n D ((d,v)::S) j hs) (g x) r):GL O P eX (⟨some d,.call ⟨.value of,os.toArray,T⟩,ty,pos,after,none⟩::rest) ks Q (Hd n D S F hs) (C.bind g) r:=
 GG.aV rfl (.inr rfl) λs a w A=>by
  subst has;refine⟨W7 A.1 o hf ha,?_⟩;cases he:C with
  | none=>rw[he] at s;cases s
  | some y=>
   rw[he] at s
   have hp:=A.2.pull hi;obtain⟨mm,⟨m1,m2,dd,Y,s2,⟨Z,h2,h3⟩,hq⟩,kk⟩:=hp;rcases h3 with⟨rfl,rfl⟩ | ⟨b,cs,rfl,hb,hl,B⟩
   .have e1:l2=[]:=by
     obtain⟨q,rfl⟩:=z;rw[Rw (l:=l) hQ];simp
    subst e1;refine((X F (Fz.le_refl _) ⟨by simp,by simp,.inl rfl⟩) y he w _ A.2).mono ?_;rintro _ w' ⟨j,v,le,rfl,H,I⟩;exact⟨_,rfl,k y j v he le (hρ _ _ _ H) s _ _ ⟨A.1.put W _,I⟩⟩
   .have hh:SH w F (star (pt b<|.cells cs.toArray e (0,0))<|Qk<|hs.eraseIdx i):=⟨mm,⟨m1,m2,dd,Y,s2,hb,hq⟩,kk⟩
    have K:F.mem b=none:=by
     rcases kk.dj b with h | h
     .have:=Y _ _ hb;rw[h] at this;cases this
     .exact h
    obtain⟨t,L⟩:=hh.freeze;refine(X _ t (QI.mW E t Z h2 B z) y he w _ L).mono ?_;rintro _ w' ⟨j,v,le,rfl,H,I⟩;have M:=le.mem _ _<|Fz.sV F b<|.cells cs.toArray e (0,0)
    have N:F<=j.del b:=⟨le.os,le.tape,le.out,λk x R=>by
     have hk:k≠b:=λe=>by rw[e,K] at R;cases R
     simp only[Fz.del,hk,Bm];exact le.mem _ _<|t.mem _ _ R,le.gh,le.gn⟩
    refine⟨_,rfl,k y (j.del b) v he N (hρ _ _ _ H) s _ _ ⟨A.1.put W _,?_⟩⟩;have h5:=I.mK M;have h6:SH w' (j.del b) (star (Qg sz c F0 e (some ⟨b,0,none⟩) cap l)<|Qk<|hs.eraseIdx i):=h5.mono λ_ s=>QR (λm' V=>⟨Z,h2,.inr ⟨b,cs,rfl,V,hl,B⟩⟩) s;have h7:=SH.push hi h6
    rwa[Tr hi] at h7
end
end
end Go.Dec
end
