/- For TopLedgers. -/
import Derived.Test.YtnniagcgccfobaaGreatDoorPz1
import Derived.Shelf.SlIterI.Nil
import Derived.Laws.Strings
import Derived.Laws.BytesArg
import Derived.Laws.IdiomStrings
import Derived.Laws.AppendOwn
import Derived.Lib.AppendIntMem
import Derived.Lib.BufferKept
noncomputable section
namespace Go.Dec
section
variable{O:Option Nat}
open Go.Maps Go.WideElems Go.RowKit Go.MapKept Go.WideShapes
theorem SH.below{w w' :World}{F:Fz}{H:HP}(h:SH w F H)(hb:Below w.heap.size w w'):SH w' F H:=by
 obtain⟨m,a,k⟩:=h;refine⟨m,a,k.dj,λb c e=> ?_,k.gst,λb o e=> ?_,hb.os.trans k.os,hb.tape.trans k.tape,hb.output.trans k.out⟩
 ·obtain⟨o,e1,e2⟩:=k.own b c e;exact⟨o,e1,(hb.block b (lt_of_heap e2)).trans e2⟩
 ·have:=k.frz b o e;exact(hb.block b (lt_of_heap this)).trans this
theorem SH.xp{w w' :World}{F:Fz}{H:HP}{g:Nat}{o:Obj}(h:SH w F H)(hb:Below w.heap.size w w')(hg:w.heap.size<=g)(ho:w'.heap[g]? =some o):F<=F.add g o/\SH w' (F.add g o) H:=by
 have h' :=h.below hb;obtain⟨m,a,k⟩:=h;obtain⟨m',a',k'⟩:=h'
 have h0:F.mem g=none:=by
  cases e:F.mem g with
  | none=>rfl
  | some x=>have:=lt_of_heap (k.frz g x e);omega
 have h1:m (.blk g)=none:=by
  cases e:m (.blk g) with
  | none=>rfl
  | some x=>obtain⟨o',_,e2⟩:=k.own g x e;have:=lt_of_heap e2;omega
 refine⟨Fz.gA h0,m,a,λb=> ?_,λb c e=> ?_,k.gst,λb x e=> ?_,k'.os,k'.tape,k'.out⟩
 ·show m (.blk b)=none∨S8 F.mem g o b=none;by_cases e:b=g
  ·subst e;exact .inl h1
  ·rcases k.dj b with h | h
   ·exact .inl h
   ·exact .inr (by simpa[S8,e] using h)
 ·obtain⟨o',e1,e2⟩:=k.own b c e;exact⟨o',e1,(hb.block b (lt_of_heap e2)).trans e2⟩
 ·by_cases e' :b=g
  ·subst e';have:(F.add b o).mem b=some o:=Fz.uS F b o;rw[this] at e;cases e;exact ho
  ·have:F.mem b=some x:=by simpa[Fz.add,S8,e'] using e
   exact(hb.block b (lt_of_heap (k.frz b x this))).trans (k.frz b x this)
def GH{V:Type}(l:List (Int×V)):Option (List Int):=
 if l.all (λx=>decide (-9223372036854775808<=x.1/\x.1<=9223372036854775807))=true/\l.length<=1000000 then some ((l.map Prod.fst).mergeSort (λa b=>decide (a<=b))) else none
abbrev zb:Int->Value:=λx=>.int .i64 x
abbrev MP:Value->Option (DataW Unit×List MemPlace):=λ_=>some (.nil,[])
theorem keyOf_int{P:Program}{k:TypeId}(hk:P.underlying k=some (.int .i64)){x:Int}(h: -9223372036854775808<=x/\x<=9223372036854775807):keyOf P k (zb x)=some (.int .i64 x):=by
 have hw:(Lit.int .i64 x).wf=true:=by
  simp[Lit.wf,IntKind.min,IntKind.max,IntKind.bits,IntKind.signed];omega
 simp[keyOf,hk,mapKey,hw]
theorem jK{P:Program}{k:TypeId}(hk:P.underlying k=some (.int .i64)){x:Int}{e:MapEntry}(he:e.key=zb x)(h: -9223372036854775808<=x/\x<=9223372036854775807):rd P k MP e=some (.int .i64 x,.nil):=by
 unfold rd;rw[he,keyOf_int hk h];rfl
theorem Yr.keys{V:Type}{rv:Fz->V->Value->Prop}{F:Fz}{P:Program}{k:TypeId}(hk:P.underlying k=some (.int .i64)):∀{es:List MapEntry} {l:List (Int×V)},Yr zb rv F es l->(∀x∈l,(-9223372036854775808<=x.1/\x.1<=9223372036854775807))->(es.map (rg P k MP)).map (λp=>intOf p.1)=l.map Prod.fst/\(∀e∈es,∃y,rd P k MP e=some y)/\es.map (·.key)=l.map (λx=>zb x.1)
 | [],[],_,_=>⟨rfl,by simp,rfl⟩
 | e::es,x::l,⟨h1,_,h3⟩,hb=>by
  obtain⟨g1,g2,g3⟩:=h3.keys hk (λy hy=>hb y (List.mem_cons_of_mem _ hy));have h0:=jK hk h1 (hb x (by simp));refine⟨?_,?_,?_⟩
  ·simp only[List.map_cons,g1,rg_of h0];rfl
  ·intro e' he';rcases List.mem_cons.1 he' with rfl | h
   ·exact⟨_,h0⟩
   ·exact g2 _ h
  ·simp only[List.map_cons,g3,h1]
theorem z7{V:Type}{rv:Fz->V->Value->Prop}{F:Fz}{P:Program}{k:TypeId}(hk:P.underlying k=some (.int .i64)){w:World}{b clock:Nat}{es:Array MapEntry}{l' l:List (Int×V)}(hb:w.heap[b]? =some (.map es clock))(hr:Yr zb rv F es.toList l')(hbi:JQ es.toList clock)(hp:l'.Perm l)(hn:(l.map Prod.fst).Nodup)
  (hall:l.all (λx=>decide (-9223372036854775808<=x.1/\x.1<=9223372036854775807))=true) (hlen:l.length<=1000000):
  ∃D:DataW Unit,w.ownsMap P k MP b es.size D/\(intKeys D).Perm (l.map Prod.fst)/\Maps.size D=l.length:=by
 have hb' :∀x∈l',(-9223372036854775808<=x.1/\x.1<=9223372036854775807):=λx hx=>by
  have:=List.all_eq_true.1 hall x (hp.mem_iff.1 hx);simpa using this
 obtain⟨g1,g2,g3⟩:=hr.keys hk hb';have hsz:es.size=l.length:=by rw[<-hp.length_eq,<-hr.len];simp
 refine⟨.map ((es.toList.map (rg P k MP)).foldr DataW.insert []),⟨es,clock,hb,⟨by rw[hsz];unfold maxLen;omega,⟨hbi.2,hbi.1.imp λh=>Nat.ne_of_lt h,?_⟩,g2⟩,Nat.le_refl _,rfl⟩,?_,?_⟩
 ·rw[g3];have h1:(l'.map Prod.fst).Nodup:=((hp.map Prod.fst).nodup_iff).2 hn;have e:l'.map (λx=>zb x.1)=(l'.map Prod.fst).map zb:=by rw[List.map_map];rfl
  rw[e];exact h1.map _ (λa b hab e=>hab (by simpa[zb] using e))
 ·show(((es.toList.map (rg P k MP)).foldr DataW.insert []).map λp=>intOf p.1).Perm _;refine((sorted_perm _).map _).trans ?_;rw[g1];exact hp.map _
 ·show((es.toList.map (rg P k MP)).foldr DataW.insert []).length=_;rw[(sorted_perm _).length_eq];simpa using hsz
theorem zo{a b:List Int}(h:a.Perm b):a.mergeSort (λx y=>decide (x<=y))=b.mergeSort (λx y=>decide (x<=y)):=mergeSort_of_perm_i h
def HE(P:Program)(fs g:FuncId)(k T:TypeId):Prop:=
 (∀(b nn:Nat) (D:DataW Unit) (Bm:Nat) (w:World),Bm < w.heap.size->w.cell? ⟨Bm,0,none⟩=some (.map (some b))->w.ownsMap P k MP b nn D->Maps.size D<=1000000->
  Calls P fs #[.func (.func g) #[] #[.pointer (some ⟨Bm,0,none⟩)]] w λe w' =>∃(v:Value) (ss:List Int),e= .returned v/\ss.Perm (intKeys D)/\w'.ownsRow w.heap.size T 1 v ss.length ((ss.mergeSort (λx y=>decide (x<=y))).map encZ)/\(v= .slice none 0 0↔ss=[])/\Below w.heap.size w w')/\
 (∀(Bm:Nat) (w:World),Bm < w.heap.size->w.cell? ⟨Bm,0,none⟩=some (.map none)->Calls P fs #[.func (.func g) #[] #[.pointer (some ⟨Bm,0,none⟩)]] w λe w' =>e= .returned (.slice none 0 0)/\Below w.heap.size w w')
def KeysOf(P:Program)(fk g:FuncId)(T:TypeId):Prop:=
 ∀mb W,Calls P fk #[.map mb] W λe w' =>e= .returned (.func (.func g) #[] #[.pointer (some ⟨W.heap.size,0,none⟩)])/\w' =W.alloc (.cells #[.map mb] T)
section
variable{β:Type}{P:Program}{ops:Array Oper}{rest:List Oper}{ks:List Kt}{Q:Exit->Act->World->Prop}{m:Option β}{r:β}
variable{n:Nat}{D:List Deferred}{S:List (Nat×Value)}{F F0:Fz}{hs:List HP}{d:Nat}{ty k T T' :TypeId}{pos:String}{after:Array Edge}{ox of:Operand}{Ty:Array TypeId}{fs fk g:FuncId}
variable{V:Type}{rv:Fz->V->Value->Prop}{b γ j:Nat}{l:List (Int×V)}{xs:List (List (Int×V))}{p x:Option Nat}
theorem GL.gB(hk:KeysOf P fk g T)(hd:Nat.blt d n=true)(hcall:∀args w,(callFunc fk args).run P w= .ok (.enter fk args) w)(hf:QK S of=some (.func (.func fk) #[] #[]))(hx:QK S ox=some (.map p))
  (K:∀b F',F<=F'->F'.mem b=some (.cells #[.map p] T)->GL O P ops rest ks Q (Hd n D ((d,.func (.func g) #[] #[.pointer (some ⟨b,0,none⟩)])::S) F' hs) m r):
  GL O P ops (⟨some d,.call ⟨.value of,#[ox],Ty⟩,ty,pos,after,none⟩::rest) ks Q (Hd n D S F hs) m r:=
 GL.uk rfl (.inr rfl) λhm a w hA=>by
  refine⟨YO (os:=[ox]) (caps:=[]) (vs:=[.map p]) hA.1 hcall hf (by simp[YQ,hx]),(hk p w).mono ?_⟩;rintro _ w' ⟨rfl,rfl⟩;obtain⟨le,h⟩:=hA.2.xH (.cells #[.map p] T);exact⟨_,rfl,K w.heap.size _ le (Fz.uS ..) hm _ _ ⟨hA.1.put hd _,h⟩⟩
theorem GL.gQ{c:Z9 Int}{f:List Int->Option β}(hk:P.underlying k=some (.int .i64))(hs0:HE P fs g k k)(hc:∀F x,c F x [.int .i64 x]){Bm:Nat}(hB:F.mem Bm=some (.cells #[.map p] T))(i:Nat)(hi:hs[i]? =some (Qo γ (Q4 zb rv) F0 xs))(hb:J5 γ F j b)(hp:p=some b)(hel:xs[j]? =some l)
  (hd:Nat.blt d n=true) (hcall:∀args w,(callFunc fs args).run P w= .ok (.enter fs args) w) (hf:QK S of=some (.func (.func fs) #[] #[])) (hx:QK S ox=some (.func (.func g) #[] #[.pointer (some ⟨Bm,0,none⟩)]))
  (K:∀ks' F' p' cap,GH l=some ks'->F<=F'->QI 1 c F' p' cap ks'->GL O P ops rest ks Q (Hd n D ((d,.slice p' ks'.length cap)::S) F' hs) (f ks') r):
  GL O P ops (⟨some d,.call ⟨.value of,#[ox],Ty⟩,ty,pos,after,none⟩::rest) ks Q (Hd n D S F hs) ((GH l).bind f) r:=by
 refine GL.bind λks' hks=> ?_;have K' :=K ks';refine GL.uk (f:=fs) (args:=#[.func (.func g) #[] #[.pointer (some ⟨Bm,0,none⟩)]]) rfl (.inr rfl) λhm a w hA=> ?_;refine⟨YO (os:=[ox]) (caps:=[]) (vs:=[.func (.func g) #[] #[.pointer (some ⟨Bm,0,none⟩)]]) hA.1 hcall hf (by simp[YQ,hx]),?_⟩;subst hp;have hks0:=hks;unfold GH at hks
 split at hks
 ·rename_i hcond;obtain⟨hall,hlen⟩:=hcond;simp only[Option.some.injEq] at hks
  obtain⟨es,cl,l',hpm,hn,hheap,hr,hbi⟩:=(hA.2.pull hi).wV hb hel;obtain⟨D0,hown,hperm,hsize⟩:=z7 hk hheap hr hbi hpm hn hall hlen;have hBw:=hA.2.frozen hB;refine(hs0.1 b _ D0 Bm w (lt_of_heap hBw) (by simp[World.cell?,hBw]) hown (by omega)).mono ?_;rintro _ w' ⟨v,ss,rfl,hss,⟨hrl,hrow⟩,hnil,hbel⟩;have hsort:ss.mergeSort (λx y=>decide (x<=y))=ks' :=by rw[<-hks];exact zo (hss.trans hperm)
  have hlen2:ks'.length=ss.length:=by rw[<-hsort];simp
  rw[hsort] at hrow
  rcases hrow with⟨rfl,h0⟩ | ⟨gb,cap,cur,rfl,hbase,hgb,r1,r2,r3,r4⟩
  ·have hk0:ks' =[]:=List.eq_nil_of_length_eq_zero (by rw[hlen2,h0]);subst hk0;exact⟨_,rfl,K' F none 0 hks0 (Fz.le_refl F) QI.nil hm _ _ ⟨hA.1.put hd _,hA.2.below hbel⟩⟩
  ·obtain⟨le,h2⟩:=hA.2.xp hbel hbase hgb;have hk:=K' _ (some ⟨gb,0,none⟩) cap hks0 le ⟨by rw[hlen2];exact r1,by unfold maxLen at r2;omega,.inr ⟨gb,0,cur,_,_,rfl,Fz.uS ..,λq x hx F' _=> ?_⟩⟩
   ·rw[hlen2] at hk
    exact⟨_,rfl,hk hm _ _ ⟨hA.1.put hd _,h2⟩⟩
   ·have hq:=Z1 hx;rw[hlen2] at hq
    have:(cur.toList.drop (0+q*1)).take 1=[.int .i64 x]:=by
     have e1:cur.toList[q]? =some (.int .i64 x):=by
      have h3:=congrArg (λz=>z[q]?) r4;simp only[List.getElem?_take,List.getElem?_map,hx] at h3
      rw[if_pos (by omega)] at h3
      simpa[encZ] using h3
     simp only[Nat.zero_add,Nat.mul_one];rw[List.drop_eq_getElem_cons (List.getElem?_eq_some_iff.1 e1).1];have e2:=(List.getElem?_eq_some_iff.1 e1).2;simp[e2]
    rw[this];exact hc F' x
 ·cases hks
def VJ{V:Type}(A:List (List (Int×V)))(x:Option Nat):Option (List Int):=match x with
 | none=>some []
 | some i=>(A[i]?).bind GH
theorem GL.wt{c:Z9 Int}{f:List Int->Option β}(hk:P.underlying k=some (.int .i64))(hs0:HE P fs g k k)(hc:∀F x,c F x [.int .i64 x]){Bm:Nat}(hB:F.mem Bm=some (.cells #[.map p] T))(i:Nat)(hi:hs[i]? =some (Qo γ (Q4 zb rv) F0 xs))(h:Zf γ F p x)
  (hd:Nat.blt d n=true) (hcall:∀args w,(callFunc fs args).run P w= .ok (.enter fs args) w) (hf:QK S of=some (.func (.func fs) #[] #[])) (hx:QK S ox=some (.func (.func g) #[] #[.pointer (some ⟨Bm,0,none⟩)]))
  (K:∀ks' F' p' cap,VJ xs x=some ks'->F<=F'->QI 1 c F' p' cap ks'->GL O P ops rest ks Q (Hd n D ((d,.slice p' ks'.length cap)::S) F' hs) (f ks') r):
  GL O P ops (⟨some d,.call ⟨.value of,#[ox],Ty⟩,ty,pos,after,none⟩::rest) ks Q (Hd n D S F hs) ((VJ xs x).bind f) r:=by
 cases x with
 | some j=>
  obtain⟨b,hb,hp⟩:=h;cases hel:xs[j]? with
  | none=>intro hm;simp[VJ,hel] at hm
  | some l=>
   have e:VJ xs (some j)=GH l:=by simp[VJ,hel]
   rw[e] at K ⊢
   exact GL.gQ hk hs0 hc hB i hi hb hp hel hd hcall hf hx K
 | none=>
  have hp:p=none:=h;subst hp;have K' :=K [] F none 0 rfl (Fz.le_refl F) QI.nil;refine GL.uk (m:=f []) (f:=fs) (args:=#[.func (.func g) #[] #[.pointer (some ⟨Bm,0,none⟩)]]) rfl (.inr rfl) λhm a w hA=> ?_;refine⟨YO (os:=[ox]) (caps:=[]) (vs:=[.func (.func g) #[] #[.pointer (some ⟨Bm,0,none⟩)]]) hA.1 hcall hf (by simp[YQ,hx]),?_⟩;have hBw:=hA.2.frozen hB;refine(hs0.2 Bm w (lt_of_heap hBw) (by simp[World.cell?,hBw])).mono ?_;rintro _ w' ⟨rfl,hbel⟩;exact⟨_,rfl,K' hm _ _ ⟨hA.1.put hd _,hA.2.below hbel⟩⟩
end
end
section
theorem Pq{p q:HP}{m:Mem}(h:star p q m):star q p m:=by
 obtain⟨m1,m2,d,s1,s2,hp,hq⟩:=h;exact⟨m2,m1,d.symm,s2,s1,hq,hp⟩
theorem Gj{p q:HP}{m:Mem}(h:star (QY [p]) q m):star p q m:=by
 obtain⟨m1,m2,d,s1,s2,⟨a,b,_,t1,_,hp,_⟩,hq⟩:=h;exact⟨a,m2,d.sub t1 (Mem.sub.refl _),t1.trans s1,s2,hp,hq⟩
def LS{α:Type}(P:Program)(F:Fz)(f:FuncId)(caps:List Value)(arg:α->Fz->List Value->Prop)(Hs:Fz->List HP)(l:List α):Prop:=
 (∀args w,(callFunc f args).run P w= .ok (.enter f args) w)/\
 ∀(σ:Type) (ly:Nat) (Y:σ->Fz->HP) (y:α->σ->Option (σ×Bool)) (F1:Fz),F<=F1->VN P ly F1 arg Y y->∀s,Ff P f (.func (.yield ly) #[] #[]::caps).toArray F1 (Hs F1++[Y s F1]) (Vw y l s) (λ_ _ _=>True) (λs' F' =>Hs F' ++[Y s' F'])
theorem LS.mk'{α:Type}{P:Program}{F:Fz}{f:FuncId}{caps:List Value}{arg:α->Fz->List Value->Prop}{Hs:Fz->List HP}{l:List α}(h1:∀args w,(callFunc f args).run P w= .ok (.enter f args) w)
  (h2:∀(σ:Type) (ly:Nat) (Y:σ->Fz->HP) (y:α->σ->Option (σ×Bool)) (F1:Fz),F<=F1->VN P ly F1 arg Y y->∀s,∃m,Ff P f (.func (.yield ly) #[] #[]::caps).toArray F1 (Hs F1++[Y s F1]) m (λ_ _ _=>True) (λs' F' =>Hs F' ++[Y s' F'])/\∀r,Vw y l s=some r->m=some r):LS P F f caps arg Hs l:=
 ⟨h1,λσ ly Y y F1 le hy s r hr=>let⟨_,h,k⟩:=h2 σ ly Y y F1 le hy s;h r (k r hr)⟩
section
variable{β:Type}{P:Program}{ks:List Kt}{Q:Exit->Act->World->Prop}{r:β}{n:Nat}{D:List Deferred}{S:List (Nat×Value)}{F:Fz}{hs:List HP}
variable{α τ:Type}{g:Operand}{ps:List Tmp}{assign body:Code}{f:FuncId}{caps:List Value}{arg:α->Fz->List Value->Prop}{s0:τ}
theorem GC.xo{l:List α}{bm:α->τ->Option τ}{k:τ->Option β}(Hs:Fz->List HP)(is:List Nat)(I:τ->Fz->List HP->Prop)(hg:QK S g=some (.func (.func f) #[] caps.toArray))(hit:LS P F f caps arg Hs l)(hps:(ps.all λp=>Nat.blt p n)=true)(harg:∀x F' vs,arg x F' vs->vs.length=ps.length)
  (hi:Js is hs=Hs F) (hI:I s0 F (YW is hs))
  (round:∀l L F0 F1 x vs s ctl R hs',F<=F0->F0<=F1->arg x F1 vs->I s F0 hs'->GC (some l) P assign [] (BP P l body (RP l L I (fun(_:Empty) _ _=>False) F1 R (.next ctl))) (Hd n [] ((ps.zip vs).reverse++S) F1 (pt l (Vu L)::R::hs')) (bm x s) ctl)
  (next:∀q F0 F' s hs',F<=F0->F0<=F'->JY bm l s0=some s->I s F0 hs'->GE none P ks Q (Hd n (UI q::D) S F' (pt q (.deferred (some []))::(Hs F' ++hs'))) (k s) r):
  GC none P (.rangeFunc g ps.toArray assign body) ks Q (Hd n D S F hs) ((JY bm l s0).bind k) r:=by
 intro hm a w ha;cases hl:JY bm l s0 with
 | none=>rw[hl] at hm;cases hm
 | some sf=>
  rw[hl] at hm
  refine wpIn_rangeFunc λfn _=> ?_
  let L:Loop:={state:=.ready,pending:=none,fn,tmps:=a.tmps,params:=ps.toArray,assign,body,defers:=w.heap.size}
  let J:Empty->Fz->List HP->Prop:=λ_ _ _=>False
  have hw1:SH ((w.alloc (.deferred (some []))).alloc (.loop L)) F (star (QY (Hs F++[yS F (w.heap.size+1) L I J (.next s0) F])) (QY [pt w.heap.size (.deferred (some []))])):=by
   have h1:=(ha.2.alloc (.deferred (some []))).alloc (.loop L);rw[World.size_alloc] at h1
   refine h1.mono λm hm=> ?_
   have h2:star (pt (w.heap.size+1) (Vu L)) (star (pt w.heap.size (.deferred (some []))) (star (QY (Hs F)) (QY (YW is hs)))) m:=
    QM (λm hm=>QM (λm hm=>by have:=Vg (ks:=is) hm;rw[hi] at this;exact this) hm) hm
   have h3:=Pq (QM (λm hm=>ZT hm) (ZT h2));refine QS (λm hm=> ?_) (QM (λm hm=>YD hm) h3);refine Ka (QM (λm hm=>YD (p:=yS F (w.heap.size+1) L I J (.next s0) F) ⟨F,YW is hs,Fz.le_refl _,Fz.le_refl _,hI,hm⟩) hm)
  have hY:VN P (w.heap.size+1) F arg (yS F (w.heap.size+1) L I J) (I5 (λx s=>(bm x s).map JM.next)):=by
   refine Rq (S' :=λvs=>(ps.zip vs).reverse++S) (assign:=assign) (body:=body) (λx F' vs hx=>by rw[harg x F' vs hx];simp[L]) rfl rfl (λvs _=>Cr hps ⟨ha.1.1,rfl,ha.1.2.2⟩) ?_;intro F0 F1 x vs s ctl R hs' h0 h1 hx hI hmm;cases hb:bm x s with
   | none=>rw[hb] at hmm;cases hmm
   | some s' =>
    rw[hb] at hmm
    simp only[Option.map_some,Option.some.injEq] at hmm
    subst hmm;exact round _ L F0 F1 x vs s s' R hs' h0 h1 hx hI hb
  have hc:=hit.2 _ _ _ _ F (Fz.le_refl F) hY (.next s0) (.next sf) (by rw[G4,H7,hl];rfl) _ _ hw1;refine⟨w.heap.size+1,[UI w.heap.size],(w.alloc (.deferred (some []))).alloc (.loop L),⟨.fn (.func f) caps.toArray,#[.func (.yield (w.heap.size+1)) #[] #[]]⟩,(w.alloc (.deferred (some []))).alloc (.loop L),f,(.func (.yield (w.heap.size+1)) #[] #[]::caps).toArray,(w.alloc (.deferred (some []))).alloc (.loop L),run_enterLoop_outer fn a.tmps ps.toArray assign body,?_,λ_ _=>trivial,?_,λe=>(by cases e),?_⟩
  ·have hc0:a.eval (.const (.func (.yield (w.heap.size+1)) #[] #[]))= .func (.yield (w.heap.size+1)) #[] #[]:=rfl;simp[resolve,Deferred.ofValue,ha.1.eval hg,hc0]
  ·simp[invoke,hit.1]
  ·refine callsIn_wide.2 (hc.mono ?_);rintro _ w' ⟨F',v,le,rfl, -,hw'⟩
   have hw2:SH w' F' (star (yS F (w.heap.size+1) L I J (.next sf) F') (star (QY (Hs F')) (QY [pt w.heap.size (.deferred (some []))]))):=hw'.mono λm hm=>by
    exact Gj (ZT (V1 (QS (λm hm=>Jx hm) hm)))
   obtain⟨F0,hs',h0,h1,hI',h3⟩:=SH.wM hw2;refine⟨none,_,Cs (SH.uV (k:=0) rfl h3),?_⟩;have h4:SH _ F' (QY (pt w.heap.size (.deferred (some []))::(Hs F' ++hs'))):=(SH.wC 0 (SH.putAt (k:=0) rfl h3 (RH L none))).mono λm hm=>QM (λm hm=>Ka hm) (Gj (ZT (V1 hm)));exact next w.heap.size F0 F' sf hs' h0 h1 hl hI' hm _ _ ⟨⟨ha.1.1,by simp[ha.1.2.1],ha.1.2.2⟩,h4⟩
end
theorem Hd.uL{α:Type}{γ:Nat}{C:Fz->Nat->α->HP}{xs:List α}{n:Nat}{D:List Deferred}{S:List (Nat×Value)}{F F0:Fz}{hs:List HP}{a:Act}{w:World}(i:Nat)(hC:US C)(le:F0<=F)(hi:hs[i]? =some (Qo γ C F0 xs))(ha:Hd n D S F hs a w):Hd n D S F (hs.set i (Qo γ C F xs)) a w:=
 ⟨ha.1,SH.push hi ((ha.2.pull hi).wb hC le)⟩
end
section
variable{O:Option Nat}
def wpS(P:Program)(ops:Array Oper)(w:World)(K:Act->Prop):List Oper->Act->Prop
 | [],a=>K a
 | o::rest,a=>if Region.wanted o (yielded ops a.tmps) then ∃v,(execOp a.eval o).run P w= .ok (.value v) w/\wpS P ops w K rest (a.put o.dst v) else wpS P ops w K rest (a.put o.dst undef)
def GS{β:Type}(P:Program)(ops:Array Oper)(l:List Oper)(E A:Act->World->Prop)(m:Option β)(r:β):Prop:=
 m=some r->∀a w,A a w->wpS P ops w (λa' =>E a' w) l a
def T8(P:Program)(ops:Array Oper)(w:World)(o:Oper)(v:Value)(a:Act):Prop:=
 (Region.wanted o (yielded ops a.tmps)=true/\(execOp a.eval o).run P w= .ok (.value v) w)∨(Region.wanted o (yielded ops a.tmps)=false/\v=undef)
def Lv:Act->List Oper->List Value->Act
 | a,o::os,v::vs=>Lv (a.put o.dst v) os vs
 | a,_,_=>a
theorem P5:∀{l:List Oper} {vs:List Value} {a:Act} {i:Nat} {o:Oper} {v:Value},l[i]? =some o->vs[i]? =some v->Lv a (l.take (i+1)) (vs.take (i+1))=(Lv a (l.take i) (vs.take i)).put o.dst v
 | [],_,_,_,_,_,h,_=>by simp at h
 | _::_,[],_,_,_,_,_,h=>by simp at h
 | x::l,u::vs,a,0,o,v,h,h' =>by
  simp at h h';subst h;subst h';rfl
 | x::l,u::vs,a,i+1,o,v,h,h' =>by
  simp only[List.take_succ_cons,Lv];exact P5 (l:=l) (by simpa using h) (by simpa using h')
theorem Ep{P:Program}{ops:Array Oper}{w:World}{K:Act->Prop}:∀{l:List Oper} {a:Act},wpS P ops w K l a->∃vs:List Value,vs.length=l.length/\K (Lv a l vs)/\∀i o v,l[i]? =some o->vs[i]? =some v->T8 P ops w o v (Lv a (l.take i) (vs.take i))
 | [],a,h=>⟨[],rfl,h,λi o v h=>by simp at h⟩
 | x::l,a,h=>by
  have key:∃v,T8 P ops w x v a/\wpS P ops w K l (a.put x.dst v):=by
   unfold wpS at h
   split at h
   ·rename_i hw;obtain⟨v,h1,h2⟩:=h;exact⟨v,.inl ⟨hw,h1⟩,h2⟩
   ·rename_i hw;exact⟨undef,.inr ⟨by simpa using hw,rfl⟩,h⟩
  obtain⟨v,h1,h2⟩:=key;obtain⟨vs,g1,g2,g3⟩:=Ep h2;refine⟨v::vs,by simp[g1],g2,λi o u ho hu=> ?_⟩;cases i with
  | zero=>simp at ho hu;subst ho;subst hu;exact h1
  | succ i=>exact g3 i o u (by simpa using ho) (by simpa using hu)
theorem Bw(ops:Array Oper)(t:Array Value)(j:Nat):yielded ops t j=match(ops[j]?).bind (·.dst) with
  | none=>none
  | some d=>match t.getD d undef with
   | .bool b=>some b
   | _=>none:=by
 unfold yielded;cases(ops[j]?).bind (·.dst) with
 | none=>rfl
 | some d=>
  simp only[Option.bind_some,Array.getD_eq_getD_getElem?];cases t[d]? with
  | none=>rfl
  | some v=>cases v<;>rfl
def jR(l:List Oper)(k:Nat)(o:Oper):Bool:=(o.looksAt l.toArray).all λt=>(List.range k).all λj=>match Yp l j with
 | none=>true
 | some d=> !Nat.beq d t||o.after.toList.any λe=>Region.binds .any e&&Nat.beq e.on j
def kl:Op->Bool
 | .select _ _=>false
 | _=>true
def Fi(n:Nat):List Oper->Bool
 | []=>true
 | o::os=>(match o.dst with
  | none=>true
  | some d=>Nat.blt d n&& !os.any (B4 d))&&Fi n os
def C6:List Bool->List Bool->List Bool
 | a::xs,b::bs=>(a||b)::C6 xs bs
 | [],bs=>bs
 | xs,[]=>xs
def Gl:Nat->List Bool
 | 0=>[true]
 | n+1=>false::Gl n
def kq(done:List (List Bool))(o:Oper):List Bool:=o.after.toList.foldr (λe m=>bif Region.binds .any e then C6 (C6 (Gl e.on) (done.getD e.on [])) m else m) []
def GR:List (List Bool)->List Oper->List (List Bool)
 | done,[]=>done
 | done,o::l=>GR (done++[kq done o]) l
def zP:Nat->List Bool->Bool
 | 0,_=>true
 | n+1,b::bs=>b&&zP n bs
 | _+1,[]=>false
def OK(l:List Oper)(k:Nat):Bool:=(List.range l.length).all λt=>Nat.blt t k||zP t ((GR [] l).getD t [])
theorem Bd:∀{a b:List Bool} {j:Nat},(C6 a b).getD j false=true->a.getD j false=true∨b.getD j false=true
 | [],bs,j,h=>.inr h
 | a::xs,[],j,h=>.inl h
 | a::xs,b::bs,0,h=>by
  have h:(a||b)=true:=h;rcases Bool.or_eq_true_iff.1 h with h | h
  ·exact .inl h
  ·exact .inr h
 | a::xs,b::bs,j+1,h=>Bd (a:=xs) (b:=bs) (j:=j) h
theorem Sh:∀{n j:Nat},(Gl n).getD j false=true->j=n
 | 0,0,_=>rfl
 | 0,j+1,h=>by simp[Gl] at h
 | n+1,0,h=>by simp[Gl] at h
 | n+1,j+1,h=>by
  have:(Gl n).getD j false=true:=h;rw[Sh this]
def PC(l:List Oper)(done:List (List Bool)):Prop:=∀t m,done[t]? =some m->∀j,m.getD j false=true->∃s,WA l s t j=true
theorem EO{l:List Oper}{done:List (List Bool)}(hd:PC l done){t:Nat}{o:Oper}(ho:l[t]? =some o):∀{j:Nat},(kq done o).getD j false=true->∃s,WA l s t j=true:=by
 have key:∀(es:List Edge),(∀e∈es,e∈o.after.toList)->∀j,(es.foldr (λe m=>bif Region.binds .any e then C6 (C6 (Gl e.on) (done.getD e.on [])) m else m) []).getD j false=true->∃s,WA l s t j=true:=λes=>by
  induction es with
  | nil=>intro _ j h;simp at h
  | cons e es ih=>
   intro hes j h;have hes' :=λe' he' =>hes e' (List.mem_cons_of_mem _ he');simp only[List.foldr_cons] at h
   cases hb:Region.binds .any e with
   | false=>rw[hb] at h;simp only[cond_false] at h;exact ih hes' j h
   | true=>
    rw[hb] at h
    simp only[cond_true] at h
    have hmem:=hes e (by simp);rcases Bd h with h | h
    ·rcases Bd h with h | h
     ·have:=Sh h;subst this;exact⟨1,by simp only[WA,ho];exact List.any_eq_true.2 ⟨e,hmem,by simp[hb]⟩⟩
     ·rw[List.getD_eq_getElem?_getD] at h
      cases hm:done[e.on]? with
      | none=>rw[List.getD_eq_getElem?_getD,hm] at h;simp at h
      | some m=>
       rw[List.getD_eq_getElem?_getD,hm] at h
       obtain⟨s,hs⟩:=hd e.on m hm j (by rw[List.getD_eq_getElem?_getD];exact h);exact⟨s+1,by simp only[WA,ho];exact List.any_eq_true.2 ⟨e,hmem,by simp[hb,hs]⟩⟩
    ·exact ih hes' j h
 intro j h;exact key o.after.toList (λ_ h=>h) j h
theorem Bp{l:List Oper}:∀{post pre:List Oper} {done:List (List Bool)},l=pre++post->done.length=pre.length->PC l done->PC l (GR done post)
 | [],_,_,_,_,hd=>hd
 | o::post,pre,done,e,hl,hd=>by
  refine Bp (pre:=pre++[o]) (post:=post) (by simp[e]) (by simp[hl]) λt m hm j hj=> ?_;rcases Nat.lt_or_ge t done.length with h | h
  ·rw[List.getElem?_append_left h] at hm;exact hd t m hm j hj
  ·have ht:t=done.length:=by
    have:=(List.getElem?_eq_some_iff.1 hm).1;simp at this;omega
   subst ht;rw[List.getElem?_append_right (Nat.le_refl _)] at hm
   simp at hm;subst hm
   exact EO hd (by rw[e,hl];simp) hj
theorem LI:∀{n j:Nat} {m:List Bool},zP n m=true->j < n->m.getD j false=true
 | 0,_,_,_,h=>by omega
 | n+1,j,[],h,_=>by cases h
 | n+1,0,b::bs,h,_=>by
  have h:(b&&zP n bs)=true:=h;exact((Bool.and_eq_true _ _).mp h).1
 | n+1,j+1,b::bs,h,hj=>by
  have h:(b&&zP n bs)=true:=h;exact LI (n:=n) (j:=j) (m:=bs) ((Bool.and_eq_true _ _).mp h).2 (by omega)
theorem Ti{l:List Oper}{k:Nat}(h:OK l k=true):∀t o,k<=t->l[t]? =some o->∀j,j < t->∃s,WA l s t j=true:=λt o hk ho j hj=>by
 have hlt:=Z1 ho;have h1:=List.all_eq_true.1 h t (List.mem_range.2 hlt)
 have hb:Nat.blt t k=false:=by
  cases hb:Nat.blt t k with
  | false=>rfl
  | true=>have:=Nat.le_of_ble_eq_true hb;omega
 rw[hb,Bool.false_or] at h1
 have hM:PC l (GR [] l):=Bp (pre:=[]) rfl rfl λt m hm=>by simp at hm
 have h2:=LI h1 hj;cases hm:(GR [] l)[t]? with
 | none=>rw[List.getD_eq_getElem?_getD (l:=GR [] l),hm] at h2;simp at h2
 | some m=>rw[List.getD_eq_getElem?_getD (l:=GR [] l),hm] at h2;exact hM t m hm j h2
theorem Aj:∀{n:Nat} {os:List Oper} {i:Nat} {o:Oper} {d:Nat},Fi n os=true->os[i]? =some o->o.dst=some d->d < n/\∀j o',os[j]? =some o'->o'.dst=some d->j=i
 | _,[],_,_,_,_,h,_=>by simp at h
 | n,x::os,0,o,d,hf,h,hd=>by
  simp at h;subst h
  simp only[Fi,hd,Bool.and_eq_true,Bool.not_eq_true'] at hf
  refine⟨Nat.le_of_ble_eq_true hf.1.1,λj o' hj hd' => ?_⟩;cases j with
  | zero=>rfl
  | succ j=>exact(Dp hf.1.2 (by simpa using hj) hd').elim
 | n,x::os,i+1,o,d,hf,h,hd=>by
  have hf' :=hf;simp only[Fi,Bool.and_eq_true] at hf
  obtain⟨g1,g2⟩:=Aj (os:=os) (i:=i) hf.2 (by simpa using h) hd;refine⟨g1,λj o' hj hd' => ?_⟩;cases j with
  | zero=>
   simp at hj;subst hj
   simp only[Fi,hd',Bool.and_eq_true,Bool.not_eq_true'] at hf'
   exact(Dp hf'.1.2 (by simpa using h) hd).elim
  | succ j=>rw[g2 j o' (by simpa using hj) hd']
def kp(n:Nat)(l:List Oper)(k:Nat):Bool:=ND 0 l&&OK l k&&Nat.ble k l.length&&Fi n (l.take k)&&(l.take k).all λo=>jR l k o&&kl o.op&&Xd o.op
section
variable{β:Type}{P:Program}{ks:List Kt}{Q:Exit->Act->World->Prop}{m:Option β}{r:β}{n:Nat}{D:List Deferred}{S0:List (Nat×Value)}{F:Fz}{hs:List HP}{l:List Oper}
structure DW(l:List Oper)(k n:Nat)(a0:Act)(vs:List Value)(L:Nat->Bool)(a:Act):Prop where
 size:a.tmps.size=n
 defs:a.defers=a0.defers
 got:∀(j:Nat) (v:Value) (t:Nat),j < k->L j=true->Yp l j=some t->vs[j]? =some v->a.tmps.getD t undef=v
 old:∀t,(∀j,j < k->L j=true->Yp l j≠some t)->a.tmps.getD t undef=a0.tmps.getD t undef
theorem PS{t:Array Value}{d:Nat}{v:Value}(h:d < t.size):(t.setIfInBounds d v).getD d undef=v:=by simp[Array.getD_eq_getD_getElem?,h]
theorem DH{t:Array Value}{d e:Nat}{v:Value}(h:d≠e):(t.setIfInBounds d v).getD e undef=t.getD e undef:=by
 simp only[Array.getD_eq_getD_getElem?];rw[Array.getElem?_setIfInBounds_ne h]
theorem DW.put{k:Nat}{a0 a:Act}{vs:List Value}{L:Nat->Bool}(c:DW l k n a0 vs L a)(hsl:Fi n (l.take k)=true){i:Nat}{o:Oper}{v:Value}(hi:i < k)(ho:l[i]? =some o)(hv:vs[i]? =some v):DW l k n a0 vs (KP L i) (a.put o.dst v):=by
 have hdst:Yp l i=o.dst:=by simp[Yp,ho]
 have hslot:∀d,o.dst=some d->d < n/\∀j,j < k->Yp l j=some d->j=i:=λd hd=>by
  obtain⟨g1,g2⟩:=Aj hsl (i:=i) (o:=o) (d:=d) (by rw[List.getElem?_take,if_pos hi];exact ho) hd;refine⟨g1,λj hj e=> ?_⟩;cases hoj:l[j]? with
  | none=>simp[Yp,hoj] at e
  | some oj=>exact g2 j oj (by rw[List.getElem?_take,if_pos hj];exact hoj) (by simpa[Yp,hoj] using e)
 cases hd:o.dst with
 | none=>
  refine⟨c.size,c.defs,λj u t hj hL e hu=> ?_,λt ht=>c.old t λj hj hL=>ht j hj ?_⟩
  ·by_cases hji:j=i
   ·subst hji;rw[hdst,hd] at e;cases e
   ·exact c.got j u t hj (by simpa[KP,hji] using hL) e hu
  ·simp only[KP];split
   ·rfl
   ·exact hL
 | some d=>
  obtain⟨hdn,huniq⟩:=hslot d hd;refine⟨by simp[Act.put,c.size],c.defs,λj u t hj hL e hu=> ?_,λt ht=> ?_⟩
  ·by_cases hji:j=i
   ·subst hji;rw[hdst,hd] at e;cases e
    rw[hv] at hu;cases hu
    exact PS (by rw[c.size];exact hdn)
   ·have hne:d≠t:=λe' =>by subst e';exact hji (huniq j hj e)
    show(a.tmps.setIfInBounds d v).getD t undef=u;rw[DH hne];exact c.got j u t hj (by simpa[KP,hji] using hL) e hu
  ·have hne:d≠t:=λe' =>by subst e';exact ht i hi (by simp[KP]) (by rw[hdst,hd])
   show(a.tmps.setIfInBounds d v).getD t undef=_;rw[DH hne];exact c.old t λj hj hL=>ht j hj (by simp only[KP];split<;>first | rfl | exact hL)
theorem DW.same{k:Nat}{a0 a b:Act}{vs:List Value}{L L' :Nat->Bool}(c:DW l k n a0 vs L a)(c' :DW l k n a0 vs L' b)(hvs:k<=vs.length){t:Nat}(ht:∀j,j < k->Yp l j=some t->L j=true/\L' j=true):a.tmps.getD t undef=b.tmps.getD t undef:=by
 by_cases h:∃j,j < k/\Yp l j=some t
 ·obtain⟨j,hj,e⟩:=h;obtain⟨h1,h2⟩:=ht j hj e;have hv:vs[j]? =some vs[j]:=List.getElem?_eq_getElem (by omega);rw[c.got j _ t hj h1 e hv,c'.got j _ t hj h2 e hv]
 ·have hn:∀j,j < k->Yp l j≠some t:=λj hj e=>h ⟨j,hj,e⟩;rw[c.old t λj hj _=>hn j hj,c'.old t λj hj _=>hn j hj]
theorem DW.eq{k:Nat}{a0 a b:Act}{vs:List Value}{L:Nat->Bool}(c:DW l k n a0 vs L a)(c' :DW l k n a0 vs L b)(hvs:k<=vs.length)(hL:∀j,j < k->L j=true):a=b:=by
 have h:∀t,a.tmps.getD t undef=b.tmps.getD t undef:=λt=>c.same c' hvs λj hj _=>⟨hL j hj,hL j hj⟩
 have ht:a.tmps=b.tmps:=by
  apply Array.ext
  ·rw[c.size,c'.size]
  ·intro i h1 h2;have:=h i;simpa[Array.getD_eq_getD_getElem?,h1,h2] using this
 have hd:a.defers=b.defers:=by rw[c.defs,c'.defs]
 obtain⟨ta,da⟩:=a;obtain⟨tb,db⟩:=b;have ht:ta=tb:=ht;have hd:da=db:=hd;rw[ht,hd]
theorem T8.of_same{ops:Array Oper}{w:World}{o:Oper}{v:Value}{a b:Act}(hs:kl o.op=true)(h:T8 P ops w o v a)(he:∀t∈o.looksAt ops,a.tmps.getD t undef=b.tmps.getD t undef):T8 P ops w o v b:=by
 have hx:execOp a.eval o=execOp b.eval o:=execOp_congr o (λcs bb e=>by rw[e] at hs;cases hs) λx hx=>by
  cases x with
  | tmp t=>exact he t (List.mem_append_left _ (List.mem_filterMap.2 ⟨.tmp t,by simpa using hx,rfl⟩))
  | const v=>rfl
  | global g=>rfl
  | func f=>rfl
 have hw:Region.wanted o (yielded ops a.tmps)=Region.wanted o (yielded ops b.tmps):=by
  unfold Region.wanted;cases hg:o.guard with
  | none=>rfl
  | some gw=>
   obtain⟨g,want⟩:=gw
   have:yielded ops a.tmps g=yielded ops b.tmps g:=by
    rw[Bw,Bw];cases ht:(ops[g]?).bind (·.dst) with
    | none=>rfl
    | some t=>
     simp only[];rw[he t (List.mem_append_right _ (by simp[hg,ht]))]
   simp only[this]
 unfold T8 at*
 rw[<-hx,<-hw];exact h
theorem M7{k:Nat}{a0:Act}{vs:List Value}(hsz:a0.tmps.size=n)(hsl:Fi n (l.take k)=true)(hk:k<=l.length)(hvs:vs.length=k):∀i,i<=k->DW l k n a0 vs (λj=>Nat.blt j i) (Lv a0 ((l.take k).take i) (vs.take i))
 | 0,_=>by
  refine⟨hsz,rfl,λj v t _ hL=> ?_,λt _=>rfl⟩;have:Nat.blt j 0=true:=hL;have:=Nat.le_of_ble_eq_true this;omega
 | i+1,hi=>by
  have ho:l[i]? =some l[i]:=List.getElem?_eq_getElem (by omega);have hv:vs[i]? =some vs[i]:=List.getElem?_eq_getElem (by omega);have h:=(M7 hsz hsl hk hvs i (by omega)).put hsl (by omega) ho hv;rw[P5 (l:=l.take k) (o:=l[i]) (v:=vs[i]) (by rw[List.getElem?_take,if_pos (by omega)];exact ho) hv]
  have e:(λj=>Nat.blt j (i+1))=KP (λj=>Nat.blt j i) i:=by
   funext j;simp only[KP];by_cases hj:j=i
   ·subst hj;rw[if_pos rfl];exact Nat.ble_eq_true_of_le (Nat.le_refl _)
   ·rw[if_neg hj];cases h1:Nat.blt j i with
    | true=>have:=Nat.le_of_ble_eq_true h1;exact Nat.ble_eq_true_of_le (show j+1<=i+1 by omega)
    | false=>
     cases h2:Nat.blt j (i+1) with
     | false=>rfl
     | true=>
      have:=Nat.le_of_ble_eq_true h2;have h3:Nat.blt j i=true:=Nat.ble_eq_true_of_le (show j+1<=i by omega);rw[h1] at h3;cases h3
  rw[e];exact h
theorem GC.uT{id:Nat}(k:Nat)(hm:P.follows .mixedOrders=true)(hB:kp n l k=true)
  (walk:GS P l.toArray (l.take k) (XK O P l.toArray (Zs O P ks Q) (l.drop k)) (Hd n D S0 F hs) m r):GC O P (.region id l.toArray true) ks Q (Hd n D S0 F hs) m r:=by
 intro hmr a0 w ha;simp only[kp,Bool.and_eq_true,List.all_eq_true] at hB
 obtain⟨⟨⟨⟨hord,hdeep⟩,hlen⟩,hsl⟩,hall⟩:=hB;have htail:=Ti hdeep;have hlen' :k<=l.length:=Nat.le_of_ble_eq_true hlen;have hw1:=walk hmr a0 {w with drawn:=w.drawn+1} ⟨ha.1,ha.2.drew _⟩;obtain⟨vs,hvl,hK,hstep⟩:=Ep hw1;have hvk:vs.length=k:=by rw[hvl];simp;omega
 have hseq:=M7 (a0:=a0) (vs:=vs) (l:=l) ha.1.1 hsl hlen' hvk
 let Free:(Nat->Bool)->Act->World->Prop:=λL a w' =>Down l L/\(∀i,k<=i->L i=false)/\w' ={w with drawn:=w.drawn+1}/\DW l k n a0 vs L a
 let Inv:(Nat->Bool)->Act->World->Prop:=λL a w=>Free L a w∨∃i,k < i/\Down l L/\(∀j,L j=true↔j < i)/\XK O P l.toArray (Zs O P ks Q) (l.drop i) a w
 have hend0:∀L a w',(∀i,i < k->L i=true)->Free L a w'->XK O P l.toArray (Zs O P ks Q) (l.drop k) a w' :=by
  rintro L a w' hL ⟨_,hout,rfl,hc⟩
  have hLk:L=λj=>Nat.blt j k:=by
   funext j;rcases Nat.lt_or_ge j k with h | h
   ·rw[hL j h];exact(Nat.ble_eq_true_of_le h).symm
   ·rw[hout j h];cases hb:Nat.blt j k with
    | false=>rfl
    | true=>have:=Nat.le_of_ble_eq_true hb;omega
  have h2:=hseq k (Nat.le_refl _);rw[List.take_of_length_le (show(l.take k).length<=k by simp;omega),List.take_of_length_le (show vs.length<=k by omega)] at h2
  rw[hLk] at hc
  rw[hc.eq h2 (by omega) λj hj=>Nat.ble_eq_true_of_le hj];exact hK
 refine Ws hm Inv (λi o h e he hb=>by have:=Xj hord i o (by simpa using h) e he hb;omega) ?_ ?_ ?_
 ·refine .inl ⟨λi o _ h=>(by cases h),λ_ _=>rfl,rfl,⟨ha.1.1,rfl,λj v t _ h=>(by cases h),λt _=>rfl⟩⟩
 ·intro L a w' i o ho hLi hdeps hI;have ho' :l[i]? =some o:=by simpa using ho
  have hil:i < l.length:=Z1 ho';by_cases hi:i < k
  ·rcases hI with hF | ⟨k',hk,_,hL,_⟩
   case inr=>have:=(hL i).2 (by omega);rw[hLi] at this;cases this
   obtain⟨hdn,hout,rfl,hc⟩:=hF;have hot:(l.take k)[i]? =some o:=by rw[List.getElem?_take,if_pos hi];exact ho'
   have hmem:o∈l.take k:=List.mem_of_getElem? hot;have hoB:=hall o hmem;obtain⟨⟨hlk,hns⟩,hnd⟩:=hoB;have hv:vs[i]? =some vs[i]:=List.getElem?_eq_getElem (by omega);have hst:=hstep i o _ hot hv
   have hst' :T8 P l.toArray {w with drawn:=w.drawn+1} o vs[i] a:=hst.of_same hns λt ht=>by
    refine(hseq i (by omega)).same hc (by omega) λj hj e=> ?_;have h1:=List.all_eq_true.1 (List.all_eq_true.1 hlk t ht) j (List.mem_range.2 hj);rw[e] at h1
    simp only[Nat.beq_refl,Bool.not_true,Bool.false_or,List.any_eq_true,Bool.and_eq_true] at h1
    obtain⟨e',he',hb',hon⟩:=h1;have hon:e'.on=j:=Nat.eq_of_beq_eq_true hon;have hmem' :e'∈o.after:=by simpa using he'
    refine⟨?_,by rw[<-hon];exact hdeps e' hmem' hb'⟩;have:=Xj hord i o ho' e' hmem' hb';exact Nat.ble_eq_true_of_le (show j+1<=i by omega)
   have hnext:Inv (KP L i) (a.put o.dst vs[i]) {w with drawn:=w.drawn+1}:=by
    refine .inl ⟨?_,?_,rfl,hc.put hsl hi ho' hv⟩
    ·intro j oj hoj hj e he hb
     have:L e.on=true:=by
      by_cases hji:j=i
      ·subst hji;rw[ho'] at hoj;cases hoj;exact hdeps e he hb
      ·exact hdn j oj hoj (by simpa[KP,hji] using hj) e he hb
     simp only[KP];split
     ·rfl
     ·exact this
    ·intro j hj;simp only[KP];rw[if_neg (by omega)];exact hout j hj
   rcases hst' with⟨h1,h2⟩ | ⟨h1,h2⟩
   ·rw[if_pos h1];refine⟨.inr hnd,?_⟩;rw[h2];exact hnext
   ·rw[if_neg (by simp[h1]),<-h2];exact hnext
  ·have hdnL:Down l L:=by
    rcases hI with hF | ⟨_,_,hd,_,_⟩
    ·exact hF.1
    ·exact hd
   have hallL:∀j,j < i->L j=true:=λj hj=>by
    obtain⟨s,hs⟩:=htail i o (by omega) ho' j hj;exact Wa hdnL hs λo' ho'' e he hb=>by rw[ho'] at ho'';cases ho'';exact hdeps e he hb
   have hdnU:Down l (KP L i):=λj oj hoj hj e he hb=>by
    have:L e.on=true:=by
     by_cases hji:j=i
     ·subst hji;rw[ho'] at hoj;cases hoj;exact hdeps e he hb
     ·exact hdnL j oj hoj (by simpa[KP,hji] using hj) e he hb
    simp only[KP];split
    ·rfl
    ·exact this
   have hw:XK O P l.toArray (Zs O P ks Q) (l.drop i) a w' :=by
    rcases hI with hF | ⟨k',hk,_,hL,hwp⟩
    ·have hiV:i=k:=by
      rcases Nat.lt_or_ge k i with h | h
      ·have:=hallL k h;rw[hF.2.1 _ (Nat.le_refl _)] at this;cases this
      ·omega
     subst hiV;exact hend0 L a w' hallL hF
    ·have:k' =i:=by
      have h1:¬i < k' :=λh=>by have:=(hL i).2 h;rw[hLi] at this;cases this
      have h2:¬k' < i:=λh=>by have:=(hL k').1 (hallL k' h);omega
      omega
     subst this;exact hwp
   have hdrop:l.drop i=o::l.drop (i+1):=by
    have hg:l[i]'hil=o:=by simpa[hil] using ho'
    rw[<-hg];exact List.drop_eq_getElem_cons hil
   rw[hdrop] at hw
   have hnext:∀a' w',XK O P l.toArray (Zs O P ks Q) (l.drop (i+1)) a' w'->Inv (KP L i) a' w' :=λa' w' h=>
    .inr ⟨i+1,by omega,hdnU,λj=>by
     simp only[KP];by_cases hj:j=i
     ·simp[hj]
     ·simp only[hj,if_false];constructor
      ·intro hLj
       have:j < i:=by
        rcases Nat.lt_or_ge j i with h | h
        ·exact h
        ·rcases hI with hF | ⟨k',hk,_,hL,_⟩
         ·rw[hF.2.1 j (by omega)] at hLj;cases hLj
         ·have h1:=(hL j).1 hLj;have:=(hL i).2 (by omega);rw[hLi] at this;cases this
       omega
      ·intro hj';exact hallL j (by omega),h⟩
   unfold XK at hw
   split
   ·rename_i hwn;rw[if_pos hwn] at hw
    exact Fw hnext hw
   ·rename_i hwn;rw[if_neg hwn] at hw
    exact hnext _ _ hw
 ·intro L a w' hallL hI
  have hw:XK O P l.toArray (Zs O P ks Q) (l.drop l.length) a w' :=by
   rcases hI with hF | ⟨k',hk,_,hL,hwp⟩
   ·have hVl:k=l.length:=by
     rcases Nat.lt_or_ge k l.length with h | h
     ·have:=hallL k (by simpa using h);rw[hF.2.1 _ (Nat.le_refl _)] at this;cases this
     ·omega
    have:=hend0 L a w' (λi hi=>hallL i (by simp;omega)) hF
    rwa[hVl] at this
   ·have:l.length<=k' :=by
     rcases Nat.lt_or_ge k' l.length with h | h
     ·have:=(hL k').1 (hallL k' (by simpa using h));omega
     ·exact h
    rw[List.drop_eq_nil_of_le this] at hwp
    rw[List.drop_eq_nil_of_le (Nat.le_refl _)];exact hwp
  rw[List.drop_eq_nil_of_le (Nat.le_refl _)] at hw
  exact hw
end
section
variable{β:Type}{P:Program}{ops:Array Oper}{rest l:List Oper}{E A A' :Act->World->Prop}{m:Option β}{r:β}
variable{n:Nat}{D:List Deferred}{S S' :List (Nat×Value)}{F F' :Fz}{hs hs' :List HP}
theorem GS.step{o:Oper}(hg:o.guard=none)(h:m=some r->∀a w,A a w->∃v,(execOp a.eval o).run P w= .ok (.value v) w/\wpS P ops w (λa' =>E a' w) rest (a.put o.dst v)):GS P ops (o::rest) E A m r:=by
 intro hm a w ha;obtain⟨v,h1,h2⟩:=h hm a w ha;unfold wpS;rw[if_pos (by simp[Region.wanted,hg])];exact⟨v,h1,h2⟩
theorem GS.ub{O:Option Nat}{tl:List Oper}{ks:List Kt}{Q:Exit->Act->World->Prop}(h:GL O P ops tl ks Q A m r):GS P ops [] (XK O P ops (Zs O P ks Q) tl) A m r:=λhm a w ha=>h hm a w ha
end
section
section
variable{β:Type}{P:Program}{ops:Array Oper}{l rest:List Oper}{E:Act->World->Prop}{A A' :Act->World->Prop}{m:Option β}{r:β}
theorem GS.bind{α:Type}{e:Option α}{f:α->Option β}(h:∀y,e=some y->GS P ops l E A (f y) r):GS P ops l E A (e.bind f) r:=
 λhm=>by
  cases e with
  | none=>simp at hm
  | some y=>exact h y rfl hm
end
end
section
section
variable{β:Type}{P:Program}{ops:Array Oper}{rest:List Oper}{E:Act->World->Prop}{A:Act->World->Prop}{m:Option β}{r:β}
section
variable{n:Nat}{D:List Deferred}{S:List (Nat×Value)}{F:Fz}{hs:List HP}
theorem GS.val{d:Nat}{op:Op}{ty:TypeId}{pos:String}{after:Array Edge}{v:Value}(hd:Nat.blt d n=true)
  (hrun:∀a w,Hd n D S F hs a w->(execOp a.eval ⟨some d,op,ty,pos,after,none⟩).run P w= .ok (.value v) w)
  (k:GS P ops rest E (Hd n D ((d,v)::S) F hs) m r) (hnd:Xd op=true:=by rfl):GS P ops (⟨some d,op,ty,pos,after,none⟩::rest) E (Hd n D S F hs) m r:=
 have _:=hnd
 GS.step rfl λhm a w ha=>⟨v,hrun a w ha,k hm _ w ⟨ha.1.put hd v,ha.2⟩⟩
section
variable{d:Nat}{ty t t' :TypeId}{pos:String}{after:Array Edge}{ox oy oz:Operand}{v u:Value}{kd:IntKind}{x y:Int}
theorem GS.move(hd:Nat.blt d n=true)(hx:QK S ox=some v)(k:GS P ops rest E (Hd n D ((d,v)::S) F hs) m r):
  GS P ops (⟨some d,.move ox,ty,pos,after,none⟩::rest) E (Hd n D S F hs) m r:=
 GS.val hd (λa w ha=>by simp[execOp,ha.1.eval hx]) k
theorem GS.assign(hd:Nat.blt d n=true)(hx:QK S ox=some v)(k:GS P ops rest E (Hd n D ((d,v)::S) F hs) m r):
  GS P ops (⟨some d,.assign ox,ty,pos,after,none⟩::rest) E (Hd n D S F hs) m r:=
 GS.val hd (λa w ha=>by simp[execOp,ha.1.eval hx]) k
theorem GS.uN{f:Int->Option β}(hd:Nat.blt d n=true)(hx:QK S ox=some (.int kd x))(k:∀y,y=x->GS P ops rest E (Hd n D ((d,.int kd y)::S) F hs) (f y) r):
 GS P ops (⟨some d,.assign ox,ty,pos,after,none⟩::rest) E (Hd n D S F hs) (QL x f) r:=GS.assign hd hx (k x rfl)
theorem GS.add(hd:Nat.blt d n=true)(hx:QK S ox=some (.int kd x))(hy:QK S oy=some (.int kd y))(k:GS P ops rest E (Hd n D ((d,.int kd (kd.wrap (x+y)))::S) F hs) m r):
  GS P ops (⟨some d,.binOp .add t ox oy t',ty,pos,after,none⟩::rest) E (Hd n D S F hs) m r:=
 GS.val hd (λa w ha=>by simp[execOp,ha.1.eval hx,ha.1.eval hy,eqGuard,binOp,Op.intArith]) k
theorem GS.sub(hd:Nat.blt d n=true)(hx:QK S ox=some (.int kd x))(hy:QK S oy=some (.int kd y))(k:GS P ops rest E (Hd n D ((d,.int kd (kd.wrap (x - y)))::S) F hs) m r):
  GS P ops (⟨some d,.binOp .sub t ox oy t',ty,pos,after,none⟩::rest) E (Hd n D S F hs) m r:=
 GS.val hd (λa w ha=>by simp[execOp,ha.1.eval hx,ha.1.eval hy,eqGuard,binOp,Op.intArith]) k
theorem GS.mul(hd:Nat.blt d n=true)(hx:QK S ox=some (.int kd x))(hy:QK S oy=some (.int kd y))(k:GS P ops rest E (Hd n D ((d,.int kd (kd.wrap (x*y)))::S) F hs) m r):
  GS P ops (⟨some d,.binOp .mul t ox oy t',ty,pos,after,none⟩::rest) E (Hd n D S F hs) m r:=
 GS.val hd (λa w ha=>by simp[execOp,ha.1.eval hx,ha.1.eval hy,eqGuard,binOp,Op.intArith]) k
theorem GS.xW(hd:Nat.blt d n=true)(h0:y≠0)(hx:QK S ox=some (.int kd x))(hy:QK S oy=some (.int kd y))(k:GS P ops rest E (Hd n D ((d,.int kd (kd.wrap (x.tdiv y)))::S) F hs) m r):
  GS P ops (⟨some d,.binOp .quo t ox oy t',ty,pos,after,none⟩::rest) E (Hd n D S F hs) m r:=
 GS.val hd (λa w ha=>by simp[execOp,ha.1.eval hx,ha.1.eval hy,eqGuard,binOp,Op.intDiv,h0]) k
theorem GS.quo{f:Int->Option β}(hd:Nat.blt d n=true)(hx:QK S ox=some (.int kd x))(hy:QK S oy=some (.int kd y))(k:∀z,Lu kd x y=some z->GS P ops rest E (Hd n D ((d,.int kd z)::S) F hs) (f z) r):
  GS P ops (⟨some d,.binOp .quo t ox oy t',ty,pos,after,none⟩::rest) E (Hd n D S F hs) ((Lu kd x y).bind f) r:=
 GS.bind λz hz=>by
  have h0:y≠0:=λe=>by simp[Lu,e] at hz
  have:z=kd.wrap (x.tdiv y):=by simpa[Lu,h0] using hz.symm
  have hk:=k z hz;rw[this] at hk ⊢
  exact GS.xW hd h0 hx hy hk
theorem GS.leq(hd:Nat.blt d n=true)(hx:QK S ox=some (.int kd x))(hy:QK S oy=some (.int kd y))(k:GS P ops rest E (Hd n D ((d,.bool (decide (x<=y)))::S) F hs) m r):
  GS P ops (⟨some d,.binOp .leq t ox oy t',ty,pos,after,none⟩::rest) E (Hd n D S F hs) m r:=
 GS.val hd (λa w ha=>by simp[execOp,ha.1.eval hx,ha.1.eval hy,eqGuard,binOp,Op.intCmp]) k
theorem GS.gtr(hd:Nat.blt d n=true)(hx:QK S ox=some (.int kd x))(hy:QK S oy=some (.int kd y))(k:GS P ops rest E (Hd n D ((d,.bool (decide (x > y)))::S) F hs) m r):
  GS P ops (⟨some d,.binOp .gtr t ox oy t',ty,pos,after,none⟩::rest) E (Hd n D S F hs) m r:=
 GS.val hd (λa w ha=>by simp[execOp,ha.1.eval hx,ha.1.eval hy,eqGuard,binOp,Op.intCmp]) k
theorem GS.geq(hd:Nat.blt d n=true)(hx:QK S ox=some (.int kd x))(hy:QK S oy=some (.int kd y))(k:GS P ops rest E (Hd n D ((d,.bool (decide (x≥y)))::S) F hs) m r):
  GS P ops (⟨some d,.binOp .geq t ox oy t',ty,pos,after,none⟩::rest) E (Hd n D S F hs) m r:=
 GS.val hd (λa w ha=>by simp[execOp,ha.1.eval hx,ha.1.eval hy,eqGuard,binOp,Op.intCmp]) k
theorem GS.not{b:Bool}(hd:Nat.blt d n=true)(hx:QK S ox=some (.bool b))(k:GS P ops rest E (Hd n D ((d,.bool (!b))::S) F hs) m r):
  GS P ops (⟨some d,.unOp .not t ox,ty,pos,after,none⟩::rest) E (Hd n D S F hs) m r:=
 GS.val hd (λa w ha=>by simp[execOp,ha.1.eval hx,Op.unary]) k
theorem GS.wE{ds:TypeDesc}{kd' :IntKind}(hd:Nat.blt d n=true)(h1:P.underlying t=some ds)(h2:P.underlying t' =some (.int kd'))(hx:QK S ox=some (.int kd x))(k:GS P ops rest E (Hd n D ((d,.int kd' (kd'.wrap x))::S) F hs) m r):
  GS P ops (⟨some d,.convert t t' ox,ty,pos,after,none⟩::rest) E (Hd n D S F hs) m r:=
 GS.val hd (λa w ha=>by
  simp only[execOp,ha.1.eval hx,convert,Sem.run_bind,JP h1,JP h2,Result.andThen];cases ds<;>simp[Conv.intToInt]) k
theorem GS.build{fs:Array Field}{pl:Array (Nat×Nat)}{zc cs:Array Value}{z:Value}{parts:List (Nat×Operand)}{ps:List (Nat×Value)}(hd:Nat.blt d n=true)(ht:P.underlying t=some (.struct fs))(hz:∀w,(zeroValue t).run P w= .ok z w)(hpl:Places P fs pl)
  (hx:BK S parts=some ps) (hc:z.cells=zc) (hi:Instr.fill (pl[·]?) zc ps=some cs) (k:GS P ops rest E (Hd n D ((d,.agg cs)::S) F hs) m r):
  GS P ops (⟨some d,.build t parts.toArray,ty,pos,after,none⟩::rest) E (Hd n D S F hs) m r:=
 GS.val hd (λa w ha=>by
  have hm:=Xn ha.1 hx;subst hc;simp only[execOp,Instr.build,Sem.run_bind,hz,Result.andThen,JP ht,hpl w];simp[hm,hi]) k
theorem GS.fieldAddr{i b o z:Nat}{fs:Array Field}{f:Field}(hd:Nat.blt d n=true)(ht:P.underlying t=some (.struct fs))(hf:fs[i]? =some f)(hz:∀w,(sizeOf f.type).run P w= .ok (z+1) w)
  (hx:QK S ox=some (.pointer (some ⟨b,o,none⟩))) (k:GS P ops rest E (Hd n D ((d,.pointer (some ⟨b,o+f.offset,none⟩))::S) F hs) m r):
  GS P ops (⟨some d,.fieldAddr t ox i,ty,pos,after,none⟩::rest) E (Hd n D S F hs) m r:=
 GS.val hd (λa w ha=>by simp[execOp,ha.1.eval hx,Instr.fieldAt,JP ht,hf,Instr.sureAddr,fieldPlace,hz,Y8]) k
theorem GS.vu{len e b o z j:Nat}(hd:Nat.blt d n=true)(ht:P.underlying t=some (.array len e))(hz:∀w,(sizeOf e).run P w= .ok z w)
  (hx:QK S ox=some (.pointer (some ⟨b,o,none⟩))) (hy:QK S oy=some (.int kd x)) (hj:Kj len x=some j) (k:GS P ops rest E (Hd n D ((d,.pointer (some ⟨b,o+j*z,none⟩))::S) F hs) m r):
  GS P ops (⟨some d,.indexAddr t ox oy,ty,pos,after,none⟩::rest) E (Hd n D S F hs) m r:=
 GS.val hd (λa w ha=>by
  obtain⟨h0,h1,h2,_⟩:=Qa hj;subst h2;simp[execOp,ha.1.eval hx,ha.1.eval hy,Instr.indexAt,asIntOf,JP ht,Instr.sureAddr,h0,h1,hz,Y8]) k
theorem GS.uU{len cap e b o z j:Nat}(hd:Nat.blt d n=true)(ht:P.underlying t=some (.slice e))(hz:∀w,(sizeOf e).run P w= .ok z w)
  (hx:QK S ox=some (.slice (some ⟨b,o,none⟩) len cap)) (hy:QK S oy=some (.int kd x)) (hj:Kj len x=some j) (k:GS P ops rest E (Hd n D ((d,.pointer (some ⟨b,o+j*z,none⟩))::S) F hs) m r):
  GS P ops (⟨some d,.indexAddr t ox oy,ty,pos,after,none⟩::rest) E (Hd n D S F hs) m r:=
 GS.val hd (λa w ha=>by
  obtain⟨h0,h1,h2,_⟩:=Qa hj;subst h2;simp[execOp,ha.1.eval hx,ha.1.eval hy,Instr.indexAt,asIntOf,JP ht,h0,h1,hz,Y8]) k
theorem GS.min2{T:Array TypeId}(hd:Nat.blt d n=true)(hx:QK S ox=some (.int kd x))(hy:QK S oy=some (.int kd y))(k:GS P ops rest E (Hd n D ((d,.int kd (if y < x then y else x))::S) F hs) m r):
  GS P ops (⟨some d,.call ⟨.builtin .min,#[ox,oy],T⟩,ty,pos,after,none⟩::rest) E (Hd n D S F hs) m r:=
 GS.val hd (λa w ha=>by simp[execOp,resolve,invoke,builtin,Builtin.min_,Builtin.min2,ha.1.eval hx,ha.1.eval hy]) k
end
end
end
end
section
section
variable{β:Type}{P:Program}{ops:Array Oper}{rest:List Oper}{E:Act->World->Prop}{m:Option β}{r:β}
variable{n:Nat}{D:List Deferred}{S:List (Nat×Value)}{F:Fz}{hs:List HP}
variable{d:Nat}{ty t t' :TypeId}{pos:String}{after:Array Edge}{ox oy oz:Operand}{v u:Value}{kd:IntKind}{x y:Int}
theorem GS.J{b o T:Nat}{cs:List Value}{fr:Nat×Nat}(hd:Nat.blt d n=true)(hA:∀w,(isAgg t).run P w= .ok false w)(hx:QK S ox=some (.pointer (some ⟨b,o,none⟩)))(hb:F.mem b=some (.cells cs.toArray T fr))(hv:cs[o]? =some v)
  (k:GS P ops rest E (Hd n D ((d,v)::S) F hs) m r):GS P ops (⟨some d,.load t ox,ty,pos,after,none⟩::rest) E (Hd n D S F hs) m r:=
 GS.val hd (λa w ha=>by simp[execOp,ha.1.eval hx,Wj hA (by rw[cell_of_heap (ha.2.frozen hb)];exact hv)]) k
theorem GS.uD{b o T z:Nat}{cs vs:List Value}{fr:Nat×Nat}(hd:Nat.blt d n=true)(hA:∀w,(isAgg t).run P w= .ok true w)(hz:∀w,(sizeOf t).run P w= .ok z w)(hx:QK S ox=some (.pointer (some ⟨b,o,none⟩)))(hb:F.mem b=some (.cells cs.toArray T fr))(hv:(cs.drop o).take z=vs)(hl:vs.length=z)
  (k:GS P ops rest E (Hd n D ((d,.agg vs.toArray)::S) F hs) m r):GS P ops (⟨some d,.load t ox,ty,pos,after,none⟩::rest) E (Hd n D S F hs) m r:=
 GS.val hd (λa w ha=>by simp[execOp,ha.1.eval hx,Wi hA hz (ha.2.frozen hb) hv hl]) k
theorem GS.uC{b o T i:Nat}{cs:List Value}{fr:Nat×Nat}(hd:Nat.blt d n=true)(hA:∀w,(isAgg t).run P w= .ok false w)(hx:QK S ox=some (.pointer (some ⟨b,o,none⟩)))(hb:hs[i]? =some (pt b (.cells cs.toArray T fr)))(hv:cs[o]? =some v)
  (k:GS P ops rest E (Hd n D ((d,v)::S) F hs) m r):GS P ops (⟨some d,.load t ox,ty,pos,after,none⟩::rest) E (Hd n D S F hs) m r:=
 GS.val hd (λa w ha=>by simp[execOp,ha.1.eval hx,Wj hA (by rw[cell_of_heap (SH.uV hb ha.2)];exact hv)]) k
theorem GS.uO{b o T z i:Nat}{cs vs:List Value}{fr:Nat×Nat}(hd:Nat.blt d n=true)(hA:∀w,(isAgg t).run P w= .ok true w)(hz:∀w,(sizeOf t).run P w= .ok z w)(hx:QK S ox=some (.pointer (some ⟨b,o,none⟩)))(hb:hs[i]? =some (pt b (.cells cs.toArray T fr)))(hv:(cs.drop o).take z=vs)(hl:vs.length=z)
  (k:GS P ops rest E (Hd n D ((d,.agg vs.toArray)::S) F hs) m r):GS P ops (⟨some d,.load t ox,ty,pos,after,none⟩::rest) E (Hd n D S F hs) m r:=
 GS.val hd (λa w ha=>by simp[execOp,ha.1.eval hx,Wi hA hz (SH.uV hb ha.2) hv hl]) k
end
end
section
section
variable{β:Type}{P:Program}{ops:Array Oper}{rest:List Oper}{E:Act->World->Prop}{m:Option β}{r:β}
variable{n:Nat}{D:List Deferred}{S:List (Nat×Value)}{F:Fz}{hs:List HP}
variable{d:Nat}{ty t t' :TypeId}{pos:String}{after:Array Edge}{ox oy oz:Operand}{v u:Value}{kd:IntKind}{x y:Int}
theorem GS.fP{α:Type}{sz:Nat}{c:Z9 α}{p:Option Addr}{cap e:Nat}{l:List α}{z:α}(hd:Nat.blt d n=true)(ht:P.underlying t=some (.slice e))(hz:∀w,(sizeOf e).run P w= .ok sz w)
  (hr:QI sz c F p cap l) (hx:QK S ox=some (.slice p l.length cap)) (hy:QK S oy=some (.int kd x)) (hi:Zi l x=some z)
  (k:∀b o T fr cs,F.mem b=some (.cells (List.toArray cs) T fr)->c F z ((cs.drop o).take sz)->GS P ops rest E (Hd n D ((d,.pointer (some ⟨b,o,none⟩))::S) F hs) m r):
  GS P ops (⟨some d,.indexAddr t ox oy,ty,pos,after,none⟩::rest) E (Hd n D S F hs) m r:=by
 obtain⟨h0,h1,h2⟩:=Ua hi;obtain⟨b,o,T,fr,cs,rfl,h3,h4⟩:=hr.at_ h2;have hj:Kj l.length x=some x.toNat:=by unfold Kj;rw[if_pos (by omega)]
 exact GS.uU hd ht hz hx hy hj (k b _ T fr cs h3 h4)
theorem GS.idx{α:Type}{sz:Nat}{c:Z9 α}{p:Option Addr}{cap e:Nat}{l:List α}{f:α->Option β}(hd:Nat.blt d n=true)(ht:P.underlying t=some (.slice e))(hz:∀w,(sizeOf e).run P w= .ok sz w)
  (hr:QI sz c F p cap l) (hx:QK S ox=some (.slice p l.length cap)) (hy:QK S oy=some (.int kd x))
  (k:∀z b o T fr cs,Zi l x=some z->F.mem b=some (.cells (List.toArray cs) T fr)->c F z ((cs.drop o).take sz)->GS P ops rest E (Hd n D ((d,.pointer (some ⟨b,o,none⟩))::S) F hs) (f z) r):
  GS P ops (⟨some d,.indexAddr t ox oy,ty,pos,after,none⟩::rest) E (Hd n D S F hs) ((Zi l x).bind f) r:=
 GS.bind λz hi=>GS.fP hd ht hz hr hx hy hi (λb o T fr cs h1 h2=>k z b o T fr cs hi h1 h2)
end
end
section
section
variable{β:Type}{P:Program}{ops:Array Oper}{rest:List Oper}{E:Act->World->Prop}{A:Act->World->Prop}{m:Option β}{r:β}
variable{n:Nat}{D:List Deferred}{S S0:List (Nat×Value)}{F F' :Fz}{hs:List HP}
theorem GS.nilCheck{d:Nat}{ty:TypeId}{pos:String}{after:Array Edge}{ox:Operand}{p:Addr}(hd:Nat.blt d n=true)(hx:QK S ox=some (.pointer (some p)))(k:GS P ops rest E (Hd n D ((d,.pointer (some p))::S) F hs) m r):
  GS P ops (⟨some d,.nilCheck ox,ty,pos,after,none⟩::rest) E (Hd n D S F hs) m r:=
 GS.val hd (λa w ha=>by simp[execOp,ha.1.eval hx]) k
theorem GS.xq{d:Nat}{ty t t' :TypeId}{pos:String}{after:Array Edge}{ox oy:Operand}{xs ys:Array Value}{b:Bool}(hd:Nat.blt d n=true)(hg:P.eqGuardType P.depth t=false)(hq:∀w,(Op.equal t (.agg xs) (.agg ys)).run P w= .ok b w)
  (hx:QK S ox=some (.agg xs)) (hy:QK S oy=some (.agg ys)) (k:GS P ops rest E (Hd n D ((d,.bool (!b))::S) F hs) m r):
  GS P ops (⟨some d,.binOp .neq t ox oy t',ty,pos,after,none⟩::rest) E (Hd n D S F hs) m r:=
 GS.val hd (λa w ha=>by simp[execOp,ha.1.eval hx,ha.1.eval hy,eqGuard,binOp,hg,hq]) k
end
end
section
section
variable{β:Type}{P:Program}{ops:Array Oper}{rest:List Oper}{E:Act->World->Prop}{m:Option β}{r:β}
variable{n:Nat}{D:List Deferred}{S:List (Nat×Value)}{F F0:Fz}{hs:List HP}
variable{d:Nat}{d' :Option Nat}{ty t e:TypeId}{pos:String}{after:Array Edge}{ox oy oz:Operand}{v:Value}
theorem GS.R{a:Addr}{p:Option Addr}(hp:p=some a)(hd:Nat.blt d n=true)(hx:QK S ox=some (.pointer p))(k:GS P ops rest E (Hd n D ((d,.pointer (some a))::S) F hs) m r):
  GS P ops (⟨some d,.nilCheck ox,ty,pos,after,none⟩::rest) E (Hd n D S F hs) m r:=by
 subst hp;exact GS.nilCheck hd hx k
section
variable{α:Type}{γ T j b o:Nat}{c:Z9 α}{xs:List α}{x:α}
theorem GS.vy{Φ:Value->Prop}(i:Nat)(hi:hs[i]? =some (Qo γ (VH T c) F0 xs))(le0:F0<=F)(hb:J5 γ F j b)(hel:xs[j]? =some x)(hd:Nat.blt d n=true)(hA:∀w,(isAgg t).run P w= .ok false w)
  (hx:QK S ox=some (.pointer (some ⟨b,o,none⟩))) (hg:∀vs,c F x vs->∃v,vs[o]? =some v/\Φ v) (k:∀v,Φ v->GS P ops rest E (Hd n D ((d,v)::S) F hs) m r):
  GS P ops (⟨some d,.load t ox,ty,pos,after,none⟩::rest) E (Hd n D S F hs) m r:=by
 refine GS.step rfl λhm a w ha=> ?_;obtain⟨vs,h1,h2⟩:=(ha.2.pull hi).wN hb hel;obtain⟨v,hv,hΦ⟩:=hg _ (h1 F le0);refine⟨v,?_,k v hΦ hm _ _ ⟨ha.1.put hd _,ha.2⟩⟩;simp[execOp,ha.1.eval hx,Wj hA (by rw[cell_of_heap h2];exact hv)]
end
section
variable{K V:Type}{ck:K->Value}{rv:Fz->V->Value->Prop}{γ j b:Nat}{xs:List (List (K×V))}{l l' :List (K×V)}{key:K}{val z:V}{kt vt:TypeId}
variable[BEq K][LawfulBEq K]
theorem GS.wB{p:Option Nat}{zv:Value}(i:Nat)(hi:hs[i]? =some (Qo γ (Q4 ck rv) F0 xs))(le0:F0<=F)(hb:J5 γ F j b)(hp:p=some b)(hel:xs[j]? =some l)(hd:Nat.blt d n=true)(ht:P.underlying t=some (.map kt vt))(ok:Hk P kt ck)(hzv:∀w,(zeroValue vt).run P w= .ok zv w)(hz:rv F z zv)(hx:QK S ox=some (.map p))(hy:QK S oy=some (ck key))
  (k:∀v,rv F ((Q5 l key).getD z) v->GS P ops rest E (Hd n D ((d,v)::S) F hs) m r):GS P ops (⟨some d,.lookup t ox oy false,ty,pos,after,none⟩::rest) E (Hd n D S F hs) m r:=by
 subst hp;refine GS.step rfl λhm a w ha=> ?_;obtain⟨es,c,l',hpm,hn,hb',hr,_⟩:=(ha.2.pull hi).wV hb hel;obtain⟨v,hv,hrun⟩:=BW (key:=key) hb' hr le0 ht ok hzv hz false;rw[WJ hpm hn] at hv
 refine⟨v,?_,k v hv hm _ _ ⟨ha.1.put hd _,ha.2⟩⟩;simp[execOp,ha.1.eval hx,ha.1.eval hy,hrun]
end
end
end
section
variable{O:Option Nat}{β:Type}{P:Program}{ops:Array Oper}{rest:List Oper}{ks:List Kt}{Q:Exit->Act->World->Prop}{m:Option β}{r:β}{n:Nat}{D:List Deferred}{S:List (Nat×Value)}{F:Fz}{hs:List HP}{d:Nat}{ty:TypeId}{pos:String}{after:Array Edge}
theorem GL.uf{fn:Fn}{first caps:List Operand}{us vs:List Value}(hd:Nat.blt d n=true)(hx0:YQ S first=some us)(hx:YQ S caps=some vs)(k:GL O P ops rest ks Q (Hd n D ((d,.func fn us.toArray vs.toArray)::S) F hs) m r):
  GL O P ops (⟨some d,.makeFunc fn first.toArray caps.toArray,ty,pos,after,none⟩::rest) ks Q (Hd n D S F hs) m r:=
 GL.val hd (λa w ha=>by simp[execOp,Instr.makeFunc,Wl ha.1 hx,Wl ha.1 hx0]) k
end
end
section
def LR{α ρ:Type}(P:Program)(F:Fz)(f:FuncId)(caps:List Value)(arg:α->Fz->List Value->Prop)(Hs:Fz->ρ->List HP)(r0:ρ)(q:ρ×List α):Prop:=
 (∀args w,(callFunc f args).run P w= .ok (.enter f args) w)/\
 ∀(σ:Type) (ly:Nat) (Y:σ->Fz->HP) (Z:HP) (upd:ρ->σ) (y:α->σ->Option (σ×Bool)) (F1:Fz),F<=F1->VN P ly F1 arg Y y->(∀r F',F1<=F'->∀m,QY (Hs F' r++[Z]) m->Y (upd r) F' m)->
  Ff P f (.func (.yield ly) #[] #[]::caps).toArray F1 (Hs F1 r0++[Z]) (Vw y q.2 (upd q.1)) (λ_ _ _=>True) (λs' F' =>[Y s' F'])
theorem LR.mk'{α ρ:Type}{P:Program}{F:Fz}{f:FuncId}{caps:List Value}{arg:α->Fz->List Value->Prop}{Hs:Fz->ρ->List HP}{r0:ρ}{q:ρ×List α}(h1:∀args w,(callFunc f args).run P w= .ok (.enter f args) w)
  (h2:∀(σ:Type) (ly:Nat) (Y:σ->Fz->HP) (Z:HP) (upd:ρ->σ) (y:α->σ->Option (σ×Bool)) (F1:Fz),F<=F1->VN P ly F1 arg Y y->(∀r F',F1<=F'->∀m,QY (Hs F' r++[Z]) m->Y (upd r) F' m)->
   ∃m,Ff P f (.func (.yield ly) #[] #[]::caps).toArray F1 (Hs F1 r0++[Z]) m (λ_ _ _=>True) (λs' F' =>[Y s' F'])/\∀r,Vw y q.2 (upd q.1)=some r->m=some r):LR P F f caps arg Hs r0 q:=
 ⟨h1,λσ ly Y Z upd y F1 le hy hp r hr=>let⟨_,h,k⟩:=h2 σ ly Y Z upd y F1 le hy hp;h r (k r hr)⟩
section
variable{O:Option Nat}{β:Type}{P:Program}{ks:List Kt}{Q:Exit->Act->World->Prop}{m:Option β}{r:β}{n:Nat}{D:List Deferred}{S:List (Nat×Value)}{F:Fz}{hs:List HP}
theorem GC.fp{c:Code}{Hs:List HP}{Y:HP}(is:List Nat)(hi:Js is hs=Hs)(hp:∀m,QY Hs m->Y m)(k:GC O P c ks Q (Hd n D S F (Y::YW is hs)) m r):GC O P c ks Q (Hd n D S F hs) m r:=
 GC.wq (λ_ _ h=>⟨h.1,h.2.mono λ_ hm=>QS (λm hm=>hp m (hi▸hm)) (Vg (ks:=is) hm)⟩) k
variable{α τ ρ:Type}{g:Operand}{ps:List Tmp}{assign body:Code}{f:FuncId}{caps:List Value}{arg:α->Fz->List Value->Prop}
theorem GC.xn{q:ρ×List α}{bm:α->τ->Option τ}{k:τ->Option β}(Hs:Fz->ρ->List HP)(r0:ρ)(s0:ρ->τ)(is:List Nat)(I:τ->Fz->List HP->Prop)(hg:QK S g=some (.func (.func f) #[] caps.toArray))(hit:LR P F f caps arg Hs r0 q)(hps:(ps.all λp=>Nat.blt p n)=true)(harg:∀x F' vs,arg x F' vs->vs.length=ps.length)
  (hi:Js is hs=Hs F r0) (hI:∀r F',F<=F'->I (s0 r) F' (Hs F' r++YW is hs))
  (round:∀l L F0 F1 x vs s ctl R hs',F<=F0->F0<=F1->arg x F1 vs->I s F0 hs'->GC (some l) P assign [] (BP P l body (RP l L I (fun(_:Empty) _ _=>False) F1 R (.next ctl))) (Hd n [] ((ps.zip vs).reverse++S) F1 (pt l (Vu L)::R::hs')) (bm x s) ctl)
  (next:∀q' F0 F' s hs',F<=F0->F0<=F'->JY bm q.2 (s0 q.1)=some s->I s F0 hs'->GE none P ks Q (Hd n (UI q' ::D) S F' (pt q' (.deferred (some []))::hs')) (k s) r):
  GC none P (.rangeFunc g ps.toArray assign body) ks Q (Hd n D S F hs) ((JY bm q.2 (s0 q.1)).bind k) r:=by
 intro hm a w ha;cases hl:JY bm q.2 (s0 q.1) with
 | none=>rw[hl] at hm;cases hm
 | some sf=>
  rw[hl] at hm
  refine wpIn_rangeFunc λfn _=> ?_
  let L:Loop:={state:=.ready,pending:=none,fn,tmps:=a.tmps,params:=ps.toArray,assign,body,defers:=w.heap.size}
  let J:Empty->Fz->List HP->Prop:=λ_ _ _=>False
  let Z:HP:=star (pt (w.heap.size+1) (Vu L)) (QY (YW is hs))
  have hw1:SH ((w.alloc (.deferred (some []))).alloc (.loop L)) F (star (QY (Hs F r0++[Z])) (QY [pt w.heap.size (.deferred (some []))])):=by
   have h1:=(ha.2.alloc (.deferred (some []))).alloc (.loop L);rw[World.size_alloc] at h1
   refine h1.mono λm hm=> ?_
   have h2:star (pt (w.heap.size+1) (Vu L)) (star (pt w.heap.size (.deferred (some []))) (star (QY (Hs F r0)) (QY (YW is hs)))) m:=
    QM (λm hm=>QM (λm hm=>by have:=Vg (ks:=is) hm;rw[hi] at this;exact this) hm) hm
   have h3:=Pq (QM (λm hm=>ZT hm) (ZT h2));refine QS (λm hm=> ?_) (QM (λm hm=>YD hm) h3);exact Ka (QM (λm hm=>YD (p:=Z) hm) hm)
  have hY:VN P (w.heap.size+1) F arg (yS F (w.heap.size+1) L I J) (I5 (λx s=>(bm x s).map JM.next)):=by
   refine Rq (S' :=λvs=>(ps.zip vs).reverse++S) (assign:=assign) (body:=body) (λx F' vs hx=>by rw[harg x F' vs hx];simp[L]) rfl rfl (λvs _=>Cr hps ⟨ha.1.1,rfl,ha.1.2.2⟩) ?_;intro F0 F1 x vs s ctl R hs' h0 h1 hx hI hmm;cases hb:bm x s with
   | none=>rw[hb] at hmm;cases hmm
   | some s' =>
    rw[hb] at hmm
    simp only[Option.map_some,Option.some.injEq] at hmm
    subst hmm;exact round _ L F0 F1 x vs s s' R hs' h0 h1 hx hI hb
  have hpk:∀r F',F<=F'->∀m,QY (Hs F' r++[Z]) m->yS F (w.heap.size+1) L I J (.next (s0 r)) F' m:=λr F' le m hm=>by
   refine⟨F',Hs F' r++YW is hs,le,Fz.le_refl _,hI r F' le,?_⟩;have h1:=Jx hm
   have h2:star (QY (Hs F' r)) Z m:=QM (λm hm=>by
    obtain⟨m1,_,_,s1,_,hp,_⟩:=hm;obtain⟨a1,a2,d,t1,t2,g1,g2⟩:=hp;exact⟨a1,a2,d,t1.trans s1,t2.trans s1,g1,g2⟩) h1
   exact QM (λm hm=>Ka hm) (ZT h2)
  have hc:=hit.2 _ _ _ Z (λr=>.next (s0 r)) _ F (Fz.le_refl F) hY hpk (.next sf) (by rw[G4,H7,hl];rfl) _ _ hw1;refine⟨w.heap.size+1,[UI w.heap.size],(w.alloc (.deferred (some []))).alloc (.loop L),⟨.fn (.func f) caps.toArray,#[.func (.yield (w.heap.size+1)) #[] #[]]⟩,(w.alloc (.deferred (some []))).alloc (.loop L),f,(.func (.yield (w.heap.size+1)) #[] #[]::caps).toArray,(w.alloc (.deferred (some []))).alloc (.loop L),run_enterLoop_outer fn a.tmps ps.toArray assign body,?_,λ_ _=>trivial,?_,λe=>(by cases e),?_⟩
  ·have hc0:a.eval (.const (.func (.yield (w.heap.size+1)) #[] #[]))= .func (.yield (w.heap.size+1)) #[] #[]:=rfl;simp[resolve,Deferred.ofValue,ha.1.eval hg,hc0]
  ·simp[invoke,hit.1]
  ·refine callsIn_wide.2 (hc.mono ?_);rintro _ w' ⟨F',v,le,rfl, -,hw'⟩;have hw2:SH w' F' (star (yS F (w.heap.size+1) L I J (.next sf) F') (QY [pt w.heap.size (.deferred (some []))])):=hw'.mono λm hm=>Gj hm;obtain⟨F0,hs',h0,h1,hI',h3⟩:=SH.wM hw2;refine⟨none,_,Cs (SH.uV (k:=0) rfl h3),?_⟩;have h4:SH _ F' (QY (pt w.heap.size (.deferred (some []))::hs')):=(SH.wC 0 (SH.putAt (k:=0) rfl h3 (RH L none))).mono λm hm=>Gj hm;exact next w.heap.size F0 F' sf hs' h0 h1 hl hI' hm _ _ ⟨⟨ha.1.1,by simp[ha.1.2.1],ha.1.2.2⟩,h4⟩
end
end
section
variable{O:Option Nat}
section
variable{K V:Type}
def qV(ck:K->Value)(rv:Fz->V->Value->Prop)(F:Fz)(b it:Nat)(M todo:List (K×V))(cur:Option (K×V)):HP:=λm=>∃(es:Array MapEntry) (clock:Nat) (l' :List (K×V)) (seen:Array Nat) (last:Nat),
 star (pt b (.map es clock)) (pt it (.mapIter (some b) clock seen last)) m/\Yr ck rv F es.toList l'/\JQ es.toList clock/\(seen.isEmpty=false->last=clock)/\
 todo.Perm (((es.toList.zip l').filter (λz=> !seen.contains z.1.born)).map Prod.snd)/\l'.Perm M/\(M.map Prod.fst).Nodup/\
 ∀x,cur=some x->∃z∈es.toList.zip l',z.2=x/\seen.back? =some z.1.born
def Jl(γ:Nat)(ck:K->Value)(rv:Fz->V->Value->Prop)(F:Fz)(j b it:Nat)(xs:List (List (K×V)))(todo:List (K×V))(cur:Option (K×V)):HP:=λm=>∃M,xs[j]? =some M/\star (qV ck rv F b it M todo cur) (hole γ (Q4 ck rv) F j b xs) m
variable{ck:K->Value}{rv:Fz->V->Value->Prop}{F F0:Fz}{w:World}{H:HP}{b it γ j:Nat}{M todo:List (K×V)}{cur:Option (K×V)}{xs:List (List (K×V))}
theorem UF(h:SH w F (star (Jl γ ck rv F0 j b it xs todo cur) H)):∃(M:List (K×V)) (es:Array MapEntry) (clock:Nat) (l' :List (K×V)) (seen:Array Nat) (last:Nat),xs[j]? =some M/\
  w.heap[b]? =some (.map es clock)/\w.heap[it]? =some (.mapIter (some b) clock seen last)/\SH w F (star (pt it (.mapIter (some b) clock seen last)) (star (pt b (.map es clock)) (star (hole γ (Q4 ck rv) F0 j b xs) H)))/\Yr ck rv F0 es.toList l'/\JQ es.toList clock/\(seen.isEmpty=false->last=clock)/\
  todo.Perm (((es.toList.zip l').filter (λz=> !seen.contains z.1.born)).map Prod.snd)/\l'.Perm M/\(M.map Prod.fst).Nodup/\∀x,cur=some x->∃z∈es.toList.zip l',z.2=x/\seen.back? =some z.1.born:=by
 obtain⟨m,⟨m1,m2,d,s1,s2,⟨M,hM,hA⟩,hq⟩,k⟩:=h;have h1:=V1 ⟨m1,m2,d,s1,s2,hA,hq⟩;obtain⟨m3,m4,d',t1,t2,⟨es,c,l',seen,last,h2,h3⟩,hq'⟩:=h1;have hs:SH w F (star (pt b (.map es c)) (star (pt it (.mapIter (some b) c seen last)) (star (hole γ (Q4 ck rv) F0 j b xs) H))):=⟨m,V1 ⟨m3,m4,d',t1,t2,h2,hq'⟩,k⟩;have hs' :SH w F (star (pt it (.mapIter (some b) c seen last)) (star (pt b (.map es c)) (star (hole γ (Q4 ck rv) F0 j b xs) H))):=hs.mono λm hm=>ZT hm;exact⟨M,es,c,l',seen,last,hM,hs.owned,hs'.owned,hs',h3⟩
theorem WY{es:Array MapEntry}{clock:Nat}{l' :List (K×V)}{seen:Array Nat}{last:Nat}(hM:xs[j]? =some M)(h:SH w F (star (pt it (.mapIter (some b) clock seen last)) (star (pt b (.map es clock)) (star (hole γ (Q4 ck rv) F0 j b xs) H))))
  (h1:Yr ck rv F0 es.toList l') (h2:JQ es.toList clock) (h3:seen.isEmpty=false->last=clock) (h4:todo.Perm (((es.toList.zip l').filter (λz=> !seen.contains z.1.born)).map Prod.snd)) (h5:l'.Perm M) (h6:(M.map Prod.fst).Nodup) (h7:∀x,cur=some x->∃z∈es.toList.zip l',z.2=x/\seen.back? =some z.1.born):
  SH w F (star (Jl γ ck rv F0 j b it xs todo cur) H):=h.mono λm hm=>by
 have hm1:=YT (ZT hm);have hm2:=YT hm1;exact QS (λm hm=>⟨M,hM,QS (λm hm=>⟨es,clock,l',seen,last,hm,h1,h2,h3,h4,h5,h6,h7⟩) hm⟩) hm2
theorem IJ{C:Fz->Nat->List (K×V)->HP}{y:List (K×V)}(h:SH w F (star (hole γ C F0 j b xs) H)):SH w F (star (hole γ C F0 j b (xs.set j y)) H):=
 h.mono λm hm=>QS (λm ⟨bs,h1,h2,h3⟩=>⟨bs,by simpa using h1,h2,by rw[<-AI (f:=C F0) h2,List.eraseIdx_set_eq];exact h3⟩) hm
theorem IH(le:F0<=F)(hb:J5 γ F j b)(h:SH w F (star (Jl γ ck rv F0 j b it xs todo cur) H)):SH w F (star (Jl γ ck rv F j b it xs todo cur) H):=by
 obtain⟨M,es,c,l',seen,last,hM,_,_,hs,h1,h2,h3,h4,h5,h6,h7⟩:=UF h;refine WY hM ?_ (h1.up le) h2 h3 h4 h5 h6 h7;have hh:SH w F (star (hole γ (Q4 ck rv) F0 j b xs) (star (pt it (.mapIter (some b) c seen last)) (star (pt b (.map es c)) H))):=hs.mono λm hm=>ZT (QM (λm hm=>ZT hm) hm);exact(hh.gZ WQ le hb).mono λm hm=>QM (λm hm=>ZT hm) (ZT hm)
theorem Me(h:SH w F (star (Jl γ ck rv F0 j b it xs [] cur) H)):SH w F (star (Qo γ (Q4 ck rv) F0 xs) H):=by
 obtain⟨M,es,c,l',seen,last,hM,_,_,hs,h1,h2,h3,h4,h5,h6,h7⟩:=UF h;have hs1:SH w F (star (Q4 ck rv F0 b M) (star (hole γ (Q4 ck rv) F0 j b xs) H)):=hs.drop.mono λm hm=>QS (λm hm=>⟨l',h5,h6,es,c,hm,h1,h2⟩) hm;have:=SH.xN WQ (Fz.le_refl _) hs1 (List.getElem?_eq_some_iff.1 hM).1;rw[<-Fk hM] at this;exact this
variable[BEq K][LawfulBEq K]
omit [LawfulBEq K] in
theorem Yr.fy{kd:TypeDesc}{k:K}(hk:∀a b,Instr.sameNow kd (ck a) (ck b)=some (a==b)):
  ∀{es:List MapEntry} {l:List (K×V)} (i0:Nat),Yr ck rv F es l->
   (Instr.findNow kd (ck k) es i0=some none/\Kr l k=l/\∀x∈l,(k==x.1)=false)∨
   (∃i e x,Instr.findNow kd (ck k) es i0=some (some (i0+i,e))/\i < es.length/\Yr ck rv F (es.eraseIdx i) (Kr l k)/\Kr l k=l.eraseIdx i/\l[i]? =some x/\(k==x.1)=true)
 | [],[],_,_=>.inl ⟨rfl,rfl,λ_ h=>by cases h⟩
 | e::es,x::l,i0,⟨h1,h2,h3⟩=>by
  by_cases hb:(k==x.1)=true
  ·right;refine⟨0,e.val,x,by simp[Instr.findNow,h1,hk,hb],by simp,?_,by simp[Kr,hb],rfl,hb⟩;simp only[Kr,hb,if_true,List.eraseIdx_cons_zero];exact h3
  ·have hb' :(k==x.1)=false:=by simpa using hb
   rcases Yr.fy (k:=k) hk (i0+1) h3 with⟨g1,g2,g3⟩ | ⟨i,e1,y,g1,g2,g3,g4,g5,g6⟩
   ·left;refine⟨by simp[Instr.findNow,h1,hk,hb',g1],by simp[Kr,hb',g2],λz hz=> ?_⟩;rcases List.mem_cons.1 hz with rfl | hz
    ·exact hb'
    ·exact g3 z hz
   ·right;refine⟨i+1,e1,y,by simp[Instr.findNow,h1,hk,hb',g1];omega,by simpa using g2,?_,by simp[Kr,hb',g4],by simpa using g5,g6⟩;simp only[Kr,hb',Bool.false_eq_true,if_false,List.eraseIdx_cons_succ];exact⟨h1,h2,g3⟩
theorem Pk{α β:Type}:∀{es:List α} {l:List β} {i:Nat},(es.eraseIdx i).zip (l.eraseIdx i)=(es.zip l).eraseIdx i
 | [],_,_=>by simp
 | _::_,[],_=>by simp
 | _::_,_::_,0=>rfl
 | _::es,_::l,i+1=>by simp[Pk (es:=es) (l:=l)]
theorem CU{α:Type}{p:α->Bool}:∀{l:List α} {i:Nat} {x:α},l[i]? =some x->p x=false->(l.eraseIdx i).filter p=l.filter p
 | [],_,_,h,_=>by simp at h
 | y::l,0,x,h,hp=>by simp at h;subst h;simp[hp]
 | y::l,i+1,x,h,hp=>by
  simp only[List.getElem?_cons_succ] at h
  simp only[List.eraseIdx_cons_succ,List.filter_cons,CU h hp]
omit [BEq K] [LawfulBEq K] in
theorem TM:∀{l:List (K×V)} {x y:K×V},(l.map Prod.fst).Nodup->x∈l->y∈l->x.1=y.1->x=y
 | [],_,_,_,h,_,_=>by cases h
 | z::l,x,y,hn,hx,hy,e=>by
  simp only[List.map_cons,List.nodup_cons] at hn
  rcases List.mem_cons.1 hx with rfl | hx1<;>rcases List.mem_cons.1 hy with rfl | hy1
  ·rfl
  ·exact absurd (List.mem_map_of_mem (f:=Prod.fst) hy1) (by rw[<-e];exact hn.1)
  ·exact absurd (List.mem_map_of_mem (f:=Prod.fst) hx1) (by rw[e];exact hn.1)
  ·exact TM hn.2 hx1 hy1 e
end
section
variable{β:Type}{P:Program}{ops:Array Oper}{rest:List Oper}{ks:List Kt}{Q:Exit->Act->World->Prop}{m:Option β}{r:β}
variable{n:Nat}{D:List Deferred}{S:List (Nat×Value)}{F F0:Fz}{hs:List HP}{d:Nat}{d' :Option Nat}{ty t kt vt:TypeId}{pos:String}{after:Array Edge}{ox oy:Operand}{cd:Code}
variable{K V:Type}{ck:K->Value}{rv:Fz->V->Value->Prop}{b it γ j i' :Nat}{l todo:List (K×V)}{cur:Option (K×V)}{xs:List (List (K×V))}
theorem GL.fH{p:Option Nat}(i:Nat)(hi:hs[i]? =some (Qo γ (Q4 ck rv) F0 xs))(hb:J5 γ F j b)(hp:p=some b)(hel:xs[j]? =some l)(hd:Nat.blt d n=true)(ht:P.underlying t=some (.map kt vt))(hx:QK S ox=some (.map p))
  (k:∀it,(l.map Prod.fst).Nodup->GL O P ops rest ks Q (Hd n D ((d,.pointer (some ⟨it,0,none⟩))::S) F (hs.set i (Jl γ ck rv F0 j b it xs l none))) m r):
  GL O P ops (⟨some d,.range t ox,ty,pos,after,none⟩::rest) ks Q (Hd n D S F hs) m r:=by
 subst hp;refine GL.step rfl (.inr rfl) λhm a w ha=> ?_;have h0:=(ha.2.pull hi).wX hb hel;obtain⟨es,c,l',hpm,hn,hh,hr,hsh,hbi⟩:=W6 h0;refine⟨.pointer (some ⟨w.heap.size,0,none⟩),w.alloc (.mapIter (some b) c #[] c),?_,k w.heap.size hn hm _ _ ⟨ha.1.put hd _,?_⟩⟩
 ·simp[execOp,Instr.range,ha.1.eval hx,JP ht,Ya hh]
 ·have h1:=hsh.alloc (.mapIter (some b) c #[] c);refine SH.push hi (WY hel h1 hr hbi (λh=>by simp at h) ?_ hpm hn (λ_ h=>by cases h))
  have e:((es.toList.zip l').filter (λz=> !(#[]:Array Nat).contains z.1.born))=es.toList.zip l' :=by
   rw[List.filter_eq_self];intro z _;simp
  rw[e,hr.ug.1];exact hpm.symm
theorem GL.fK{pt' :Option Addr}(i:Nat)(hi:hs[i]? =some (Jl γ ck rv F0 j b it xs [] cur))(hp:pt' =some ⟨it,0,none⟩)(hd:Nat.blt d n=true)(hx:QK S ox=some (.pointer pt'))
  (k:GL O P ops rest ks Q (Hd n D ((d,.tuple #[.bool false])::S) F hs) m r):
  GL O P ops (⟨some d,.next ox false,ty,pos,after,none⟩::rest) ks Q (Hd n D S F hs) m r:=by
 subst hp;refine GL.step rfl (.inr rfl) λhm a w ha=> ?_;obtain⟨M,es,c,l',seen,last,_,hb,hit,_,hr,hbi,hl,ht,_⟩:=UF (ha.2.pull hi);obtain⟨k',hk'⟩:=(B6 (P:=P) (ty:=ty) hb hit hr hbi hl ht).1 rfl;refine⟨_,{w with drawn:=k'},?_,k hm _ _ ⟨ha.1.put hd _,ha.2.drew _⟩⟩;simp[execOp,ha.1.eval hx,hk']
theorem GL.fJ{pt' :Option Addr}(i:Nat)(hi:hs[i]? =some (Jl γ ck rv F0 j b it xs todo cur))(hne:todo≠[])(hp:pt' =some ⟨it,0,none⟩)(hd:Nat.blt d n=true)(hx:QK S ox=some (.pointer pt'))
  (k:∀x rest' v,(x::rest').Perm todo->(∀F',F0<=F'->rv F' x.2 v)->GL O P ops rest ks Q (Hd n D ((d,.tuple #[.bool true,ck x.1,v])::S) F (hs.set i (Jl γ ck rv F0 j b it xs rest' (some x)))) m r):
  GL O P ops (⟨some d,.next ox false,ty,pos,after,none⟩::rest) ks Q (Hd n D S F hs) m r:=by
 subst hp;refine GL.step rfl (.inr rfl) λhm a w ha=> ?_;obtain⟨M,es,c,l',seen,last,hM,hb,hit,hsh,hr,hbi,hl,ht,hpm,hnM,_⟩:=UF (ha.2.pull hi);obtain⟨z,hz,hseen,k',hk'⟩:=(B6 (P:=P) (ty:=ty) hb hit hr hbi hl ht).2 hne;obtain⟨hkey,hval⟩:=hr.wK hz;have hnd:=Ck hbi hr;have hsp:=Xf (p:=λy:MapEntry×(K×V)=> !seen.contains y.1.born) hnd hz (by simp only[hseen,Bool.not_false])
 have e1:∀y:MapEntry×(K×V),(!(seen.push z.1.born).contains y.1.born)=(!seen.contains y.1.born&& !(y.1.born==z.1.born)):=λy=>by
  rw[Array.contains_push,Bool.not_or]
 refine⟨_,put {w with drawn:=k'} it (.mapIter (some b) c (seen.push z.1.born) c),?_,k z.2 (((es.toList.zip l').filter (λy=> !(seen.push z.1.born).contains y.1.born)).map Prod.snd) z.1.val ?_ hval hm _ _ ⟨by rw[<-hkey];exact ha.1.put hd _,SH.push hi (WY hM ((hsh.drew _).put (o' :=.mapIter (some b) c (seen.push z.1.born) c)) hr hbi (λ_=>rfl) (.refl _) hpm hnM (λx hx=> ?_))⟩⟩
 ·simp[execOp,ha.1.eval hx,hk']
 ·refine List.Perm.trans ?_ ht.symm;have:=(hsp.map Prod.snd).symm;simp only[List.map_cons] at this
  refine List.Perm.trans (.of_eq ?_) this;congr 2;exact List.filter_congr λy _=>e1 y
 ·simp only[Option.some.injEq] at hx
  exact⟨z,hz,hx,by simp⟩
theorem GL.fR{pt' :Option Addr}{x:K×V}(i:Nat)(hi:hs[i]? =some (Jl γ ck rv F0 j b it xs todo (some x)))(hp:pt' =some ⟨it,0,none⟩)(hd:Nat.blt d n=true)(hx:QK S ox=some (.pointer pt'))
  (k:∀v,(∀F',F0<=F'->rv F' x.2 v)->GL O P ops rest ks Q (Hd n D ((d,.tuple #[ck x.1,v])::S) F hs) m r):
  GL O P ops (⟨some d,.entry ox,ty,pos,after,none⟩::rest) ks Q (Hd n D S F hs) m r:=by
 subst hp;refine GL.step rfl (.inr rfl) λhm a w ha=> ?_;obtain⟨M,es,c,l',seen,last,hM,hb,hit,hsh,hr,hbi,hl,ht,hpm,hnM,hlast⟩:=UF (ha.2.pull hi);obtain⟨z,hz,hzx,hback⟩:=hlast x rfl;obtain⟨hkey,hval⟩:=hr.wK hz;subst hzx
 have hne:seen.isEmpty=false:=by
  cases h:seen.isEmpty with
  | false=>rfl
  | true=>
   have:seen=#[]:=by simpa using h
   subst this;simp at hback
 have hlc:=hl hne;subst hlc
 have hfind:es.find? (λe=>e.born==z.1.born)=some z.1:=by
  have hmem:z.1∈es.toList:=by rw[<-hr.ug.2];exact List.mem_map_of_mem hz
  have hnd:(es.toList.map (·.born)).Nodup:=hbi.1.imp λh=>Nat.ne_of_lt h
  have:es.toList.find? (λe=>e.born==z.1.born)=some z.1:=by
   clear hb hit hr hbi ht hpm hlast hz hval hkey hsh hback hl
   generalize es.toList=L at hmem hnd
   induction L with
   | nil=>cases hmem
   | cons y L ih=>
    simp only[List.map_cons,List.nodup_cons] at hnd
    rcases List.mem_cons.1 hmem with e | e
    ·rw[List.find?_cons,<-e];simp
    ·have:(y.born==z.1.born)=false:=by
      cases hbb:y.born==z.1.born with
      | false=>rfl
      | true=>exact absurd (List.mem_map_of_mem (f:=(·.born)) e) (by rw[<-(beq_iff_eq.1 hbb:y.born=z.1.born)];exact hnd.1)
     rw[List.find?_cons,this];exact ih e hnd.2
  simpa using this
 refine⟨_,w,?_,k z.1.val hval hm _ _ ⟨by rw[<-hkey];exact ha.1.put hd _,ha.2⟩⟩;simp[execOp,Instr.entry,ha.1.eval hx,Dk hit,Ya hb,hback,hfind]
def yX(a b:Nat):Option Unit:=if a=b then some () else none
theorem qz{a b:Nat}{u:Unit}(h:yX a b=some u):a=b:=by
 unfold yX at h;split at h
 ·assumption
 ·cases h
theorem J5.one{c:Nat}(h:J5 γ F j b)(h' :J5 γ F i' c)(e:i' =j):c=b:=by
 subst e;have:=h.2.symm.trans h'.2;simp at this;exact this.symm
theorem GL.gf[BEq K][LawfulBEq K]{p:Option Nat}{c:Nat}{x:K×V}{xs' :List (List (K×V))}{T:Array TypeId}(i:Nat)(hi:hs[i]? =some (Jl γ ck rv F0 j b it xs todo (some x)))(hb:J5 γ F j b)(hc:J5 γ F i' c)(hij:i' =j)(hp:p=some c)(hel:xs[i']? =some l)(hd:∀e,d' =some e->Nat.blt e n=true)(hT:T[0]? =some t)(ht:P.underlying t=some (.map kt vt))(ok:Hk P kt ck)(hx:QK S ox=some (.map p))(hy:QK S oy=some (ck x.1))(he:xs' =xs.set i' (Kr l x.1))
  (k:GL O P ops rest ks Q (Hd n D (match d' with | some e=>(e,.tuple #[])::S | none=>S) F (hs.set i (Jl γ ck rv F0 j b it xs' todo none))) m r):GL O P ops (⟨d',.call ⟨.builtin .delete,#[ox,oy],T⟩,ty,pos,after,none⟩::rest) ks Q (Hd n D S F hs) m r:=by
 obtain rfl:=hb.one hc hij;subst hp;subst he;subst hij;refine GL.step rfl (.inr rfl) λhm a w ha=> ?_;obtain⟨M,es,clock,l',seen,last,hM,hbb,hit,hsh,hr,hbi,hl,htd,hpm,hnM,hlast⟩:=UF (ha.2.pull hi);obtain rfl:M=l:=by rw[hM] at hel;simpa using hel
 obtain⟨z,hz,hzx,hback⟩:=hlast x rfl;obtain⟨kd,hu,hsame⟩:=ok.und;have hnl:(l'.map Prod.fst).Nodup:=(hpm.map _).nodup_iff.2 hnM;have hxl:x∈l' :=by rw[<-hr.ug.1,<-hzx];exact List.mem_map_of_mem hz
 rcases hr.fy (k:=x.1) hsame 0 with⟨_,_,g3⟩ | ⟨q,e1,y,g1,g2,g3,g4,g5,g6⟩
 ·have:=g3 x hxl;simp at this
 ·have hj:q < es.size:=by simpa using g2
  have hf:=run_findKey (w:=w) hu g1;rw[Nat.zero_add] at hf
  have hyx:y=x:=TM hnl (List.mem_of_getElem? g5) hxl (by simpa using(beq_iff_eq.1 g6).symm);subst hyx;have hes:(es.eraseIdxIfInBounds q).toList=es.toList.eraseIdx q:=by simp[Array.eraseIdxIfInBounds,hj]
  obtain⟨e2,he2⟩:∃e2,es.toList[q]? =some e2:=⟨_,List.getElem?_eq_getElem g2⟩;have hzq:(es.toList.zip l')[q]? =some (e2,y):=by rw[List.getElem?_zip_eq_some];exact⟨he2,g5⟩
  have hz2:z=(e2,y):=by
   obtain⟨q',hq',ez⟩:=List.getElem_of_mem hz;have hq2:(es.toList.zip l')[q']? =some z:=by rw[List.getElem?_eq_getElem hq',ez]
   have h1:=(List.getElem?_zip_eq_some.1 hq2).2;have hpw:=List.pairwise_iff_getElem.1 hnl;have hq1:q < l'.length:=(List.getElem?_eq_some_iff.1 g5).1;have hq1' :q' < l'.length:=(List.getElem?_eq_some_iff.1 h1).1;have a1:l'[q]=y:=(List.getElem?_eq_some_iff.1 g5).2;have a2:l'[q']=y:=by rw[(List.getElem?_eq_some_iff.1 h1).2,hzx]
   have:q' =q:=by
    rcases Nat.lt_trichotomy q' q with h | h | h
    ·exact absurd (by rw[List.getElem_map,List.getElem_map,a1,a2]) (hpw q' q (by simpa using hq1') (by simpa using hq1) h)
    ·exact h
    ·exact absurd (by rw[List.getElem_map,List.getElem_map,a1,a2]) (hpw q q' (by simpa using hq1) (by simpa using hq1') h)
   subst this;rw[hq2] at hzq;simpa using hzq
  have hseen:seen.contains e2.born=true:=by
   have:=hback;rw[hz2] at this
   simp only at this
   rw[Array.contains_iff_mem];exact Array.mem_of_back? this
  refine⟨.tuple #[],Dec.put w c (.map (es.eraseIdxIfInBounds q) clock),?_,k hm _ _ ⟨?_,SH.push hi ?_⟩⟩
  ·have:(Builtin.delete_ T ty #[.map (some c),ck y.1]).run P w= .ok (.tuple #[]) (Dec.put w c (.map (es.eraseIdxIfInBounds q) clock)):=by
    simp[Builtin.delete_,hT,JP ht,Ya hbb,ok.check,hf,Fm hbb]
   simp[execOp,resolve,invoke,builtin,ha.1.eval hx,ha.1.eval hy,this]
  ·cases d' with
   | none=>exact ha.1.ud _
   | some e=>exact ha.1.put (hd e rfl) _
  ·have h1:=(hsh.mono λm hm=>ZT hm).put (o' :=.map (es.eraseIdxIfInBounds q) clock);have hjl:i' < xs.length:=(List.getElem?_eq_some_iff.1 hM).1;refine WY (M:=Kr M y.1) (by rw[List.getElem?_set];simp[hjl]) (w:=Dec.put w c (.map (es.eraseIdxIfInBounds q) clock)) ?_ (l' :=Kr l' y.1) (by rw[hes];exact g3) (by rw[hes];exact hbi.erase) hl ?_ (DB hpm hnM) (Gu hnM) (λ_ h=>by cases h)
   ·have h2:=h1.mono λm hm=>ZT hm;have h3:SH (Dec.put w c (.map (es.eraseIdxIfInBounds q) clock)) F (star (hole γ (Q4 ck rv) F0 i' c xs) _):=h2.mono λm hm=>ZT (QM (λm hm=>ZT hm) hm);exact(IJ (y:=Kr M y.1) h3).mono λm hm=>QM (λm hm=>ZT hm) (ZT hm)
   ·rw[hes,g4,Pk,CU hzq (by simp only[hseen,Bool.not_true])];exact htd
theorem Hd.fB(i:Nat)(le:F0<=F)(hb:J5 γ F j b)(hi:hs[i]? =some (Jl γ ck rv F0 j b it xs todo cur)){a:Act}{w:World}(ha:Hd n D S F hs a w):Hd n D S F (hs.set i (Jl γ ck rv F j b it xs todo cur)) a w:=
 ⟨ha.1,SH.push hi (IH le hb (ha.2.pull hi))⟩
theorem GC.fB(i:Nat)(le:F0<=F)(hb:J5 γ F j b)(hi:hs[i]? =some (Jl γ ck rv F0 j b it xs todo cur))(k:GC O P cd ks Q (Hd n D S F (hs.set i (Jl γ ck rv F j b it xs todo cur))) m r):GC O P cd ks Q (Hd n D S F hs) m r:=λhm a w ha=>k hm a w (Hd.fB i le hb hi ha)
theorem GE.fB(i:Nat)(le:F0<=F)(hb:J5 γ F j b)(hi:hs[i]? =some (Jl γ ck rv F0 j b it xs todo cur))(k:GE O P ks Q (Hd n D S F (hs.set i (Jl γ ck rv F j b it xs todo cur))) m r):GE O P ks Q (Hd n D S F hs) m r:=λhm a w ha=>k hm a w (Hd.fB i le hb hi ha)
theorem GE.fz(i:Nat)(hi:hs[i]? =some (Jl γ ck rv F0 j b it xs [] cur))(k:GE O P ks Q (Hd n D S F (hs.set i (Qo γ (Q4 ck rv) F0 xs))) m r):GE O P ks Q (Hd n D S F hs) m r:=λhm a w ha=>k hm a w ⟨ha.1,SH.push hi (Me (ha.2.pull hi))⟩
theorem Hd.fW{x:Option (K×V)}(i:Nat)(hi:hs[i]? =some (Jl γ ck rv F0 j b it xs todo x)){a:Act}{w:World}(ha:Hd n D S F hs a w):Hd n D S F (hs.set i (Jl γ ck rv F0 j b it xs todo none)) a w:=
 ⟨ha.1,SH.push hi (by
  obtain⟨M,es,c,l',seen,last,hM,_,_,hs,h1,h2,h3,h4,h5,h6,h7⟩:=UF (ha.2.pull hi);exact WY hM hs h1 h2 h3 h4 h5 h6 (λ_ h=>by cases h))⟩
theorem GE.fW{x:Option (K×V)}(i:Nat)(hi:hs[i]? =some (Jl γ ck rv F0 j b it xs todo x))(k:GE O P ks Q (Hd n D S F (hs.set i (Jl γ ck rv F0 j b it xs todo none))) m r):GE O P ks Q (Hd n D S F hs) m r:=λhm a w ha=>k hm a w (Hd.fW i hi ha)
end
def Mq{β:Type}(P:Program)(fn:Func)(F:Fz)(R:HP)(ρ:β->Fz->Value->Prop)(Hs' :β->Fz->List HP)(r:β):Exit->Act->World->Prop:=
 bodyPostM Fence.wide 0 P fn (λe w' =>∃F' v,F<=F'/\e= .returned v/\ρ r F' v/\SH w' F' (star (QY (Hs' r F')) R))
theorem Ff.wJ{β:Type}{P:Program}{f:FuncId}{fn:Func}{c:Code}{args:List Value}{F:Fz}{Hs:List HP}{m:Option β}{ρ:β->Fz->Value->Prop}{Hs' :β->Fz->List HP}{n:Nat}
  (hf:P.funcs[f]? =some fn) (hb:fn.body=some c) (hn:fn.ntmps=n) (ha:Nat.ble args.length n=true)
  (k:∀r R,GC none P c [] (Mq P fn F R ρ Hs' r) (Hd n [] (HD 0 args) F (Hs++[R])) m r):Ff P f args.toArray F Hs m ρ Hs' :=by
 intro r hm w R hw;refine(callsIn_wide (n:=0)).1 (callsIn_of_wp_marks hf hb trivial (k r R hm _ w ⟨?_,hw.mono λm hm=>Ka (QM (λ_ h=>YD h) hm)⟩));rw[hn];exact Y0 ha
section
variable{β:Type}{P:Program}{n:Nat}{S:List (Nat×Value)}{F F' :Fz}{hs:List HP}{ks:List Kt}{fn:Func}{R:HP}{ρ:β->Fz->Value->Prop}{Hs' :β->Fz->List HP}{x r:β}{rs:List ResultVar}{vs:List Value}{ms:List (Nat×Nat)}
theorem Ll(is:List Nat)(hr:fn.results=rs.toArray)(ho:kj hs ms)(h:BA P S F' (HO hs ms) rs vs)(hi:Js is (HO hs ms)=Hs' x F' ++[R])(le:F<=F')(hρ:ρ x F' (Bu vs)):
  some x=some r->∀a w,Hd n (ms.map λp=>UI p.2) S F' hs a w->LeavesInM Fence.wide 0 P fn a.tmps (λe w' =>∃F' v,F<=F'/\e= .returned v/\ρ r F' v/\SH w' F' (star (QY (Hs' r F')) R)) a.defers .returning w:=by
 intro e a w ha;simp only[Option.some.injEq] at e
 subst e;rw[ha.1.2.1];refine CN ha.2 ho λw' h' => ?_
 exact⟨_,Kx (n:=n) (a:=a) (D:=a.defers) hr ⟨⟨ha.1.1,rfl,ha.1.2.2⟩,h'⟩ h,F',_,le,rfl,hρ,h'.mono λm hm=>by
  have h1:=Jw (ks:=is) hm;rw[hi] at h1
  exact Um (Jx h1)⟩
theorem GE.fx(is:List Nat)(ms:List (Nat×Nat))(hr:fn.results=rs.toArray)(ho:kj hs ms)(h:BA P S F' (HO hs ms) rs vs)(hi:Js is (HO hs ms)=Hs' x F' ++[R])(le:F<=F')(hρ:ρ x F' (Bu vs)):
 GE O P [] (Mq P fn F R ρ Hs' r) (Hd n (ms.map λp=>UI p.2) S F' hs) (some x) r:=GE.nil (Ll is hr ho h hi le hρ)
end
def PB{α:Type}(sz:Nat)(c:Z9 α)(F:Fz)(p:Option Addr)(cap:Nat)(l:List α):Prop:=QI sz c F p cap l/\(l=[]->p=none/\cap=0)
section
variable{α:Type}{sz:Nat}{c:Z9 α}{F F' :Fz}{p:Option Addr}{cap:Nat}{l:List α}
theorem PB.nil(h:PB sz c F p cap l)(e:l=[]):p=none/\cap=0:=h.2 e
theorem PB.zero:PB sz c F none 0 ([]:List α):=⟨QI.nil,λ_=>⟨rfl,rfl⟩⟩
end
def jO{α:Type}(l:List α):Option Unit:=match l with | []=>some () | _::_=>none
theorem RD{α:Type}{l:List α}{u:Unit}(h:jO l=some u):l=[]:=by
 cases l with
 | nil=>rfl
 | cons x l=>cases h
section
variable{K V:Type}{ck:K->Value}{rv:Fz->V->Value->Prop}{γ:Nat}{xs ys:List (List (K×V))}{n:Nat}{D:List Deferred}{S:List (Nat×Value)}{F F0:Fz}{hs:List HP}{a:Act}{w:World}
theorem Hd.dR(i:Nat)(hi:hs[i]? =some (Qo γ (Q4 ck rv) F0 xs))(hp:Co xs ys)(ha:Hd n D S F hs a w):Hd n D S F (hs.set i (Qo γ (Q4 ck rv) F0 ys)) a w:=by
 refine⟨ha.1,SH.push hi ?_⟩;refine(ha.2.pull hi).wo hp.1 λi' x y b' m hx hy hm=> ?_;obtain⟨l',h1,h2,h3⟩:=hm;have h4:=hp.2 i' x y hx hy;exact⟨l',h1.trans h4,(h4.map _).nodup_iff.1 h2,h3⟩
end
end
section
theorem Fz.r{F:Fz}:F<=F:=Fz.le_refl F
theorem Fz.t{F G H:Fz}(h:F<=G)(k:G<=H):F<=H:=Fz.le_trans h k
end
section
def bs(l:List UInt8):ByteArray:=⟨l.toArray⟩
theorem Xg{l:List UInt8}:(bs l).size=l.length:=rfl
theorem Ih{l:List UInt8}:(bs l).toList=l:=ByteArray.toList_mk l
theorem jZ{l:List UInt8}{i:Nat}:(bs l)[i]? =l[i]? :=by
 by_cases h:i < l.length
 ·have h' :i < (bs l).size:=h;rw[getElem?_pos (bs l) i h',getElem?_pos l i h];rfl
 ·have h' :¬i < (bs l).size:=h;rw[getElem?_neg (bs l) i h',getElem?_neg l i h]
def Nx(l:List Int):List UInt8:=l.map λx=>UInt8.ofNat x.toNat
def encS(n:Int):List UInt8:=(Utf8.encode n).data.toList
def kP(s:List UInt8):List Value:=[.string (bs s)]
section
variable{O:Option Nat}
section
variable{P:Program}{a:Act}{S:List (Nat×Value)}{n:Nat}{D:List Deferred}{d:Nat}{ty t t' :TypeId}{pos:String}{after:Array Edge}{ox oy oz:Operand}{kd kd' :IntKind}{x y:Int}{s u:List UInt8}{w:World}
theorem zq(h:Sl n D S a)(ht:P.underlying t=some .string)(hx:QK S ox=some (.string (bs s)))(hy:QK S oy=some (.string (bs u))):
  (execOp a.eval ⟨some d,.binOp .eql t ox oy t',ty,pos,after,none⟩).run P w= .ok (.value (.bool (s==u))) w:=by
 simp[execOp,h.eval hx,h.eval hy,eqGuard,binOp,Op.stringOp,Ih]
theorem qJ(h:Sl n D S a)(ht:P.underlying t=some .string)(hx:QK S ox=some (.string (bs s)))(hy:QK S oy=some (.int kd x)){c:UInt8}(hc:Zi s x=some c):
  (execOp a.eval ⟨some d,.index t ox oy,ty,pos,after,none⟩).run P w= .ok (.value (.int .u8 c.toNat)) w:=by
 obtain⟨h0,_,h2⟩:=Ua hc;simp[execOp,h.eval hx,h.eval hy,Instr.index,asIntOf,JP ht,h0,jZ,h2]
theorem qM(h:Sl n D S a)(h1:P.underlying t=some (.int kd))(h2:P.underlying t' =some .string)(hx:QK S ox=some (.int kd x)):
  (execOp a.eval ⟨some d,.convert t t' ox,ty,pos,after,none⟩).run P w= .ok (.value (.string (bs (encS x)))) w:=by
 have e:bs (encS x)=Utf8.encode x:=rfl;simp[execOp,h.eval hx,convert,JP h1,JP h2,Conv.intToString,e]
end
section
variable{β:Type}{P:Program}{ops:Array Oper}{rest:List Oper}{ks:List Kt}{Q:Exit->Act->World->Prop}{m:Option β}{r:β}
variable{n:Nat}{D:List Deferred}{S:List (Nat×Value)}{F:Fz}{hs:List HP}{d:Nat}{ty t t' :TypeId}{pos:String}{after:Array Edge}{ox oy oz:Operand}{kd kd' :IntKind}{x y:Int}{s u:List UInt8}
theorem GL.fO{f:UInt8->Option β}(hd:Nat.blt d n=true)(ht:P.underlying t=some .string)(hx:QK S ox=some (.string (bs s)))(hy:QK S oy=some (.int kd x))(k:∀c,Zi s x=some c->GL O P ops rest ks Q (Hd n D ((d,.int .u8 (c.toNat:Int))::S) F hs) (f c) r):
  GL O P ops (⟨some d,.index t ox oy,ty,pos,after,none⟩::rest) ks Q (Hd n D S F hs) ((Zi s x).bind f) r:=
 GL.bind λc hc=>GL.val hd (λa w ha=>qJ ha.1 ht hx hy hc) (k c hc)
end
section
variable{β:Type}{P:Program}{ops:Array Oper}{rest:List Oper}{E:Act->World->Prop}{m:Option β}{r:β}
variable{n:Nat}{D:List Deferred}{S:List (Nat×Value)}{F:Fz}{hs:List HP}{d:Nat}{ty t t' :TypeId}{pos:String}{after:Array Edge}{ox oy oz:Operand}{kd kd' :IntKind}{x y:Int}{s u:List UInt8}
theorem GS.dE(hd:Nat.blt d n=true)(ht:P.underlying t=some .string)(hx:QK S ox=some (.string (bs s)))(hy:QK S oy=some (.string (bs u)))(k:GS P ops rest E (Hd n D ((d,.bool (s==u))::S) F hs) m r):
  GS P ops (⟨some d,.binOp .eql t ox oy t',ty,pos,after,none⟩::rest) E (Hd n D S F hs) m r:=
 GS.val hd (λa w ha=>zq ha.1 ht hx hy) k
theorem GS.encStr(hd:Nat.blt d n=true)(h1:P.underlying t=some (.int kd))(h2:P.underlying t' =some .string)(hx:QK S ox=some (.int kd x))(k:GS P ops rest E (Hd n D ((d,.string (bs (encS x)))::S) F hs) m r):
  GS P ops (⟨some d,.convert t t' ox,ty,pos,after,none⟩::rest) E (Hd n D S F hs) m r:=
 GS.val hd (λa w ha=>qM ha.1 h1 h2 hx) k
end
end
end
section
theorem EV{P:Program}{w:World}{src dst e b o cap:Nat}{T:TypeId}{fr:Nat×Nat}{cs:List Value}{l:List Int}(hs:P.underlying src=some (.slice e))(he:P.underlying e=some (.int .u8))(hd:P.underlying dst=some .string)
  (hb:w.heap[b]? =some (.cells cs.toArray T fr)) (hp:∀(i:Nat) (x:Int),l[i]? =some x->(cs.drop (o+i*1)).take 1=[.int .u8 x]):
  (convert src dst (.slice (some ⟨b,o,none⟩) l.length cap)).run P w= .ok (.string (bs (Nx l))) w:=by
 have h:=run_convert_bytes_arg (P:=P) w src e hs he b o l.length cap l rfl (λi hi=>by
  have hx:l[i]? =some l[i]:=List.getElem?_eq_getElem hi;have h1:=hp i _ hx;rw[cell_of_heap hb];rw[Nat.mul_one] at h1
  have h2:((cs.drop (o+i)).take 1)[0]? =some (.int .u8 l[i]):=by rw[h1];rfl
  rw[List.getElem?_take,if_pos (by decide),List.getElem?_drop] at h2
  rw[Nat.add_zero] at h2
  rw[h2,List.getD_eq_getElem?_getD,hx];rfl) dst hd
 exact h
theorem EU{P:Program}(w:World){src dst e:Nat}(hs:P.underlying src=some (.slice e))(he:P.underlying e=some (.int .u8))(hd:P.underlying dst=some .string)(p:Option Addr)(c:Nat):
  (convert src dst (.slice p 0 c)).run P w= .ok (.string (bs [])) w:=by
 cases p with
 | none=>exact run_convert_bytes_nil w src e hs he 0 c dst hd
 | some a=>
  rw[run_convert_bytes_string w src dst e _ 0 c hs he hd,run_bytesToString w a 0 c [] (by simp[loadCells];rfl)];rfl
theorem Nj{P:Program}{w:World}{F:Fz}{H:HP}{src dst e cap:Nat}{p:Option Addr}{l:List Int}(h:SH w F H)(hr:QI 1 (Ex (QR .u8)) F p cap l)(hs:P.underlying src=some (.slice e))(he:P.underlying e=some (.int .u8))(hd:P.underlying dst=some .string):
  (convert src dst (.slice p l.length cap)).run P w= .ok (.string (bs (Nx l))) w:=by
 obtain⟨_,_,h3⟩:=hr;rcases h3 with rfl | ⟨b,o,cs,T,fr,rfl,hb,hp⟩
 ·exact EU w hs he hd p cap
 ·exact EV (cs:=cs.toList) hs he hd (by simpa using h.frozen hb) λi x hx=>hp i x hx F (Fz.le_refl F)
section
variable{O:Option Nat}
section
variable{β:Type}{P:Program}{ops:Array Oper}{rest:List Oper}{ks:List Kt}{Q:Exit->Act->World->Prop}{m:Option β}{r:β}
variable{n:Nat}{D:List Deferred}{S:List (Nat×Value)}{F F0:Fz}{hs:List HP}{d e cap T:Nat}{p:Option Addr}{l:List Int}{ty t t' :TypeId}{pos:String}{after:Array Edge}{ox oy oz:Operand}{kd kd' :IntKind}{x y:Int}{s u:List UInt8}
theorem GL.gM(hd:Nat.blt d n=true)(h1:P.underlying t=some (.slice e))(h2:P.underlying e=some (.int .u8))(h3:P.underlying t' =some .string)(hr:QI 1 (Ex (QR .u8)) F p cap l)(hx:QK S ox=some (.slice p l.length cap))(k:GL O P ops rest ks Q (Hd n D ((d,.string (bs (Nx l)))::S) F hs) m r):
  GL O P ops (⟨some d,.convert t t' ox,ty,pos,after,none⟩::rest) ks Q (Hd n D S F hs) m r:=
 GL.val hd (λa w ha=>by simp[execOp,ha.1.eval hx,Nj ha.2 hr h1 h2 h3]) k
def VM(s:List UInt8):List Int:=s.map λc=>(c.toNat:Int)
end
end
end
section
open Go.RowKit
variable{O:Option Nat}
structure XS(B:Nat)(F:Fz)(R:HP)(m:Mem):Prop where
 own:R m
 lt:∀b c,m (.blk b)=some c->b < B
 top:B=0∨(∃c,m (.blk (B - 1))=some c)∨∃o,F.mem (B - 1)=some o
def FB(F:Fz)(B:Nat):Prop:=∀b o,F.mem b=some o->b < B
theorem SH.dQ{w:World}{F:Fz}{R:HP}(h:SH w F R):∃B,FB F B/\SH w F (XS B F R):=by
 obtain⟨m,hR,k⟩:=h
 have main:∀n,(∀b c,m (.blk b)=some c->b < n)->FB F n->∃B,FB F B/\XS B F R m:=by
  intro n
  induction n with
  | zero=>exact λh1 h2=>⟨0,h2,hR,h1,.inl rfl⟩
  | succ n ih=>
   intro h1 h2;by_cases ht:(∃c,m (.blk n)=some c)∨∃o,F.mem n=some o
   ·exact⟨n+1,h2,hR,h1,.inr ht⟩
   ·refine ih (λb c e=> ?_) (λb o e=> ?_)
    ·have:=h1 b c e;have hne:b≠n:=λe' =>ht (.inl ⟨c,e'▸e⟩);omega
    ·have:=h2 b o e;have hne:b≠n:=λe' =>ht (.inr ⟨o,e'▸e⟩);omega
 obtain⟨B,h1,h2⟩:=main w.heap.size (λb c e=>by obtain⟨o,_,h⟩:=k.own b c e;exact lt_of_heap h) (λb o e=>lt_of_heap (k.frz b o e));exact⟨B,h1,m,h2,k⟩
theorem SH.xk{w:World}{F:Fz}{B:Nat}{R:HP}(h:SH w F (XS B F R)):B<=w.heap.size:=by
 obtain⟨m,hm,k⟩:=h;rcases hm.top with h0 | ⟨c,hc⟩ | ⟨o,ho⟩
 ·omega
 ·obtain⟨o,_,h⟩:=k.own _ _ hc;have:=lt_of_heap h;omega
 ·have:=lt_of_heap (k.frz _ _ ho);omega
theorem SH.fZ{w w' :World}{F:Fz}{B:Nat}{R:HP}(hF:FB F B)(h:SH w F (XS B F R))(hb:Below B w w'):SH w' F (XS B F R):=by
 obtain⟨m,hm,k⟩:=h;refine⟨m,hm,k.dj,λb c e=> ?_,k.gst,λb o e=> ?_,hb.os.trans k.os,hb.tape.trans k.tape,hb.output.trans k.out⟩
 ·obtain⟨o,e1,e2⟩:=k.own b c e;exact⟨o,e1,(hb.block b (hm.lt b c e)).trans e2⟩
 ·exact(hb.block b (hF b o e)).trans (k.frz b o e)
def Cj(B T:Nat)(v:Value)(l:List Int):HP:=λm=>(v= .slice none 0 0/\l=[])∨∃g cap cur,v= .slice (some ⟨g,0,none⟩) l.length cap/\B<=g/\pt g (.cells cur T (0,0)) m/\l.length<=cap/\cap<=maxLen/\cur.size=cap*1/\cur.toList.take (l.length*1)=l.map (Value.int .u8)
theorem zK{B T:Nat}{m:Mem}:Cj B T (.slice none 0 0) [] m:=.inl ⟨rfl,rfl⟩
theorem SH.gO{w:World}{F:Fz}{B T:Nat}{v:Value}{l:List Int}{H:HP}(h:SH w F (star (Cj B T v l) H)):w.ownsRow B T 1 v l.length (l.map (Value.int .u8)):=by
 obtain⟨m,⟨m1,m2,d,s1,s2,hp,hq⟩,k⟩:=h;rcases hp with⟨rfl,rfl⟩ | ⟨g,cap,cur,rfl,hB,hg,h1,h2,h3,h4⟩
 ·exact World.ownsRow_nil _ _ _ _
 ·exact⟨by simp,.inr ⟨g,cap,cur,rfl,hB,k.gT (s1 _ _ hg),h1,h2,h3,h4⟩⟩
theorem SH.fA{w w' :World}{F:Fz}{B T:Nat}{v:Value}{l:List Int}{R:HP}(hF:FB F B)(h:SH w F (XS B F R))(hb:Below B w w')(ho:w'.ownsRow B T 1 v l.length (l.map (Value.int .u8))):SH w' F (QY [Cj B T v l,XS B F R]):=by
 obtain⟨m,hm,k⟩:=SH.fZ hF h hb;rcases ho.2 with⟨hv,h0⟩ | ⟨g,cap,cur,hv,hB,hg,h1,h2,h3,h4⟩
 ·refine SH.two ⟨m,⟨λ_=>none,m,λ_=>.inl rfl,λ_ _ e=>by simp at e,Mem.sub.refl _,.inl ⟨hv,List.eq_nil_of_length_eq_zero h0⟩,hm⟩,k⟩
 ·have hmg:m (.blk g)=none:=by
   cases e:m (.blk g) with
   | none=>rfl
   | some c=>have:=hm.lt g c e;omega
  refine SH.two ⟨m.set (.blk g) (.obj (.cells cur T (0,0))),⟨Mem.set (λ_=>none) (.blk g) (.obj (.cells cur T (0,0))),m,?_,?_,?_,.inr ⟨g,cap,cur,hv,hB,by simp[pt,Mem.set],h1,h2,h3,h4⟩,hm⟩,?_⟩
  ·intro b;by_cases e:b= .blk g
   ·subst e;exact .inr hmg
   ·exact .inl (by simp[Mem.set,e])
  ·intro b x e;by_cases e' :b= .blk g
   ·simpa[Mem.set,e'] using e
   ·simp[Mem.set,e'] at e
  ·intro b x e;by_cases e' :b= .blk g
   ·subst e';rw[hmg] at e;cases e
   ·simpa[Mem.set,e'] using e
  ·refine⟨?_,?_,?_,k.frz,k.os,k.tape,k.out⟩
   ·intro b;by_cases e:b=g
    ·subst e;right;cases hf:F.mem b with
     | none=>rfl
     | some o=>have:=hF b o hf;omega
    ·rcases k.dj b with h | h
     ·exact .inl (by simpa[Mem.set,e] using h)
     ·exact .inr h
   ·intro b x e;by_cases e' :b=g
    ·subst e';simp[Mem.set] at e;subst e;exact⟨_,rfl,hg⟩
    ·simp[Mem.set,e'] at e;exact k.own b x e
   ·intro γ c e;exact k.gst γ c (by simpa[Mem.set] using e)
def BZ:Array Value:=(Go.Lib.pow10Tab.map λz=>Value.int .u64 z).toArray
def za(P:Program)(F:Fz)(name:String)(cs:Array Value):Prop:=∃g T fr,P.globalNamed name=some g/\F.mem g=some (.cells cs T fr)
theorem za.mono{P:Program}{F F' :Fz}{name:String}{cs:Array Value}(h:za P F name cs)(le:F<=F'):za P F' name cs:=
 let⟨g,T,fr,h1,h2⟩:=h;⟨g,T,fr,h1,le.mem _ _ h2⟩
def OS(P:Program)(f T:Nat):Prop:=∀(B n:Nat) (i:Int), -9223372036854775808<=i->i<=9223372036854775807->∀(sv:Value) (xs:List Value) (w:World),w.ownsRow B T 1 sv n xs->B<=w.heap.size->n+21<=140737488355328->
 Go.Lib.TabBelow P B w "internal/strconv.uint64pow10" .u64 Go.Lib.pow10Tab->Calls P f #[sv,.int .i64 i,.int .i64 10] w λe w' =>∃v',e= .returned v'/\w'.ownsRow B T 1 v' (n+(Go.Lib.itoa i).length) (xs++Go.Lib.byteCells (Go.Lib.itoa i))/\Below B w w'
def CO(n:Int):List Int:=(Go.Lib.itoa n).map λb=>(b.toNat:Int)
theorem Md(n:Int):(CO n).map (Value.int .u8)=Go.Lib.byteCells (Go.Lib.itoa n):=by simp[CO,Go.Lib.byteCells]
theorem IG(n:Int):(CO n).length=(Go.Lib.itoa n).length:=by simp[CO]
section
variable{β:Type}{P:Program}{ops:Array Oper}{rest:List Oper}{ks:List Kt}{Q:Exit->Act->World->Prop}{m:Option β}{r:β}
variable{n:Nat}{D:List Deferred}{S:List (Nat×Value)}{F:Fz}{hs:List HP}
variable{d:Nat}{ty t e:TypeId}{pos:String}{after:Array Edge}{ox oy oz:Operand}{v:Value}{kd:IntKind}{x:Int}
theorem GL.xI{len sz:Nat}{z:Value}{cs zc:List Value}{parts:List (Nat×Operand)}{ps:List (Nat×Value)}(hd:Nat.blt d n=true)(ht:P.underlying t=some (.slice e))(hz:∀w,(sizeOf e).run P w= .ok sz w)(hzero:∀w,(zeroValue e).run P w= .ok z w)(h0:Nat.blt 0 (len*sz)=true)(hbig:Nat.ble (len*sz) 16777216=true)
  (hx:BK S parts=some ps) (hzc:(Array.range (len*sz)).map (λi=>z.cells[i%z.cells.size]!)=zc.toArray) (hfill:Instr.fill (λi=>some (i*sz,sz)) zc.toArray ps=some cs.toArray)
  (k:∀b,GL O P ops rest ks Q (Hd n D ((d,.slice (some ⟨b,0,none⟩) len len)::S) F (pt b (.cells cs.toArray e)::hs)) m r):
  GL O P ops (⟨some d,.buildSlice t len parts.toArray,ty,pos,after,none⟩::rest) ks Q (Hd n D S F hs) m r:=
 GL.step rfl (.inr rfl) λhm a w ha=>by
  have hb1:0 < len*sz:=Nat.le_of_ble_eq_true h0;have hb2:=Nat.le_of_ble_eq_true hbig;have h1:=ha.2.alloc (.cells cs.toArray e);refine⟨.slice (some ⟨w.heap.size,0,none⟩) len len,w.alloc (.cells cs.toArray e),?_,k w.heap.size hm _ _ ⟨ha.1.put hd _,h1⟩⟩;have hm' :=Xn ha.1 hx;have hne:¬len*sz=0:=by omega
  have hgt:¬len*sz > 16777216:=by omega
  simp only[execOp,Instr.buildSlice,Sem.run_bind,JP ht,hz,Result.andThen,List.map_toArray,hm'];simp only[Nat.reducePow,hgt,hne,if_false,Sem.run_pure,Result.andThen,Sem.run_bind,hzero,hzc,hfill,newRow,run_newObj,World.alloc_eq]
variable{B T:Nat}{R:HP}{l:List Int}
theorem GL.dB{b ot:Nat}(hF:FB F B)(hd:Nat.blt d n=true)(ht:P.underlying t=some (.slice T))(hinfo:(P.info? T).map (λi=>(i.zero,i.size,i.bytes))=some (some (.int .u8 0),1,1))(hlim:l.length+1<=4294967296)
  (hx:QK S ox=some v) (hy:QK S oy=some (.slice (some ⟨b,0,none⟩) 1 1))
  (k:∀v',GL O P ops rest ks Q (Hd n D ((d,v')::S) F [Cj B T v' (l++[x]),XS B F R]) m r) (_ho:ot=T:=by rfl):
  GL O P ops (⟨some d,.call ⟨.builtin .append,#[ox,oy],#[t,t]⟩,ty,pos,after,none⟩::rest) ks Q (Hd n D S F [pt b (.cells [Value.int .u8 x].toArray T),Cj B T v l,XS B F R]) m r:=by
 obtain⟨i,hi,hz0,hz1,hz2⟩:=info_parts hinfo;refine GL.step rfl (.inr rfl) λhm a w ha=> ?_;have hbel:=ha.2.only (k:=2) rfl;have hsz:=hbel.xk;have hown:=SH.gO (ha.2.pull (k:=1) rfl);have hb:=ha.2.uV (k:=0) rfl
 obtain⟨v',w',hrun,hown',hg,_⟩:=run_append_own (P:=P) (w:=w) B t ty T i (.int .u8 0) 1 1 ht hi hz0 hz1 hz2 rfl (by decide) v l.length _ hown ⟨b,0,none⟩ 1 1 [Value.int .u8 x] rfl
  (by intro j u hj;match j,hj with | 0,hj=>simp at hj;subst hj;simp[Addr.add,World.cell?,hb]) (by intro u hu;simp at hu;subst hu;rfl) (by unfold maxLen;omega) (by omega) hsz
 have hbw:Below B w w' :=⟨hg.os,hg.tape,hg.output,hg.size,λk hk=>hg.block k (by omega) λe=>by have:=(hown.lt k e.symm).1;omega⟩;refine⟨v',w',?_,k v' hm _ _ ⟨ha.1.put hd _,SH.fA hF hbel hbw ?_⟩⟩
 ·simp[execOp,resolve,invoke,builtin,ha.1.eval hx,ha.1.eval hy,hrun]
 ·simpa using hown'
theorem GL.gm{f:FuncId}{Ty:Array TypeId}{of:Operand}(hC:OS P f T)(hF:FB F B)(hT:za P F "internal/strconv.uint64pow10" BZ)(hd:Nat.blt d n=true)(hcall:∀args w,(callFunc f args).run P w= .ok (.enter f args) w)(hf:QK S of=some (.func (.func f) #[] #[]))(h0: -9223372036854775808<=x)(h1:x<=9223372036854775807)(hlim:l.length<=4294967296)
  (ha:YQ S [ox,oy,oz]=some [v,.int .i64 x,.int .i64 10])
  (k:∀v',GL O P ops rest ks Q (Hd n D ((d,v')::S) F [Cj B T v' (l++CO x),XS B F R]) m r):
  GL O P ops (⟨some d,.call ⟨.value of,#[ox,oy,oz],Ty⟩,ty,pos,after,none⟩::rest) ks Q (Hd n D S F [Cj B T v l,XS B F R]) m r:=
 GL.uk rfl (.inr rfl) λhm a w hA=>by
  have hbel:=hA.2.only (k:=1) rfl;have hsz:=hbel.xk;have hown:=SH.gO (hA.2.pull (k:=0) rfl);refine⟨YO (caps:=[]) (os:=[ox,oy,oz]) hA.1 hcall hf ha,?_⟩;obtain⟨g,T',fr,hg,hFg⟩:=hT;refine(hC B l.length x h0 h1 v _ w hown hsz (by omega) λw' hb=> ?_).mono ?_
  ·show World.var? P w' _=_;have hgw:=hA.2.frozen hFg;have:=(hb.block g (hF g _ hFg)).trans hgw;simp[World.var?,hg,this,BZ]
  ·rintro _ w' ⟨v',rfl,hown',hb⟩;refine⟨v',rfl,k v' hm _ _ ⟨hA.1.put hd _,SH.fA hF hbel hb ?_⟩⟩;have e1:(l++CO x).length=l.length+(Go.Lib.itoa x).length:=by simp[IG]
   have e2:(l++CO x).map (Value.int .u8)=l.map (Value.int .u8)++Go.Lib.byteCells (Go.Lib.itoa x):=by rw[List.map_append,Md]
   rw[e1,e2];exact hown'
theorem SH.xD{w:World}(h:SH w F (QY [Cj B T v l,XS B F R])):∃F' p c,F<=F'/\v= .slice p l.length c/\QI 1 (Ex (QR .u8)) F' p c l/\SH w F' (QY [XS B F R]):=by
 have h:=h.pull (k:=0) rfl;obtain⟨m,⟨m1,m2,d,s1,s2,hp,hq⟩,k⟩:=h;rcases hp with⟨rfl,rfl⟩ | ⟨g,cap,cur,rfl,hB,hg,h1,h2,h3,h4⟩
 ·exact⟨F,none,0,Fz.le_refl _,rfl,QI.nil,m2,hq,k.sub s2⟩
 ·have hh:SH w F (star (pt g (.cells cur T (0,0))) (QY [XS B F R])):=⟨m,⟨m1,m2,d,s1,s2,hg,hq⟩,k⟩;obtain⟨le,h'⟩:=hh.freeze;refine⟨_,some ⟨g,0,none⟩,cap,le,rfl,⟨h1,by unfold maxLen at h2;omega,.inr ⟨g,0,cur,T,(0,0),rfl,Fz.uS _ _ _,λi x hx F' _=> ?_⟩⟩,h'⟩
  have hi:i < l.length:=by
   rcases Nat.lt_or_ge i l.length with h | h
   ·exact h
   ·rw[List.getElem?_eq_none h] at hx;cases hx
  have e:=congrArg (λz:List Value=>z[i]?) h4;simp only[List.getElem?_take,List.getElem?_map,hx,Option.map_some,Nat.mul_one,hi,if_true] at e
  simp only[Nat.zero_add,Nat.mul_one];show(cur.toList.drop i).take 1=QR .u8 x
  have hlt:i < cur.toList.length:=by
   rcases Nat.lt_or_ge i cur.toList.length with h | h
   ·exact h
   ·rw[List.getElem?_eq_none h] at e;cases e
  rw[List.drop_eq_getElem_cons hlt];rw[List.getElem?_eq_getElem hlt] at e
  simp only[Option.some.injEq] at e
  simp[e,QR]
theorem GC.xD{c:Code}(k:∀F' p cap,F<=F'->v= .slice p l.length cap->QI 1 (Ex (QR .u8)) F' p cap l->GC O P c ks Q (Hd n D S F' [XS B F R]) m r):GC O P c ks Q (Hd n D S F [Cj B T v l,XS B F R]) m r:=
 λhm a w ha=>by
  obtain⟨F',p,cap,le,hv,hr,h⟩:=ha.2.xD;exact k F' p cap le hv hr hm a w ⟨ha.1,h⟩
theorem GC.fY{c:Code}(T:Nat)(k:GC O P c ks Q (Hd n D S F [Cj B T (.slice none 0 0) [],XS B F R]) m r):GC O P c ks Q (Hd n D S F [XS B F R]) m r:=
 λhm a w ha=>k hm a w ⟨ha.1,ha.2.mono λm h=>⟨λ_=>none,m,λ_=>.inl rfl,λ_ _ e=>by simp at e,Mem.sub.refl _,zK,h⟩⟩
theorem GL.xG{ti ta:TypeId}{xs:Value}{dsc:TypeDesc}(hd:Nat.blt d n=true)(hu:P.underlying ta=some dsc)(hn:∀z,dsc≠.interface z)(hx:QK S ox=some (.iface ta xs))(k:GL O P ops rest ks Q (Hd n D ((d,.tuple #[xs,.bool true])::S) F hs) m r):
  GL O P ops (⟨some d,.typeAssert ox ti ta true,ty,pos,after,none⟩::rest) ks Q (Hd n D S F hs) m r:=
 GL.val hd (λa w ha=>by
  simp only[execOp,ha.1.eval hx,Instr.typeAssert,Sem.run_bind,JP hu,Result.andThen];cases dsc with
  | interface z=>exact absurd rfl (hn z)
  | _=>simp) k
theorem GL.gk{ti ta td:TypeId}{xs z:Value}{dsc:TypeDesc}(hd:Nat.blt d n=true)(hu:P.underlying ta=some dsc)(hn:∀z,dsc≠.interface z)(hne:Nat.beq td ta=false)(hz:∀w,(zeroValue ta).run P w= .ok z w)(hx:QK S ox=some (.iface td xs))(k:GL O P ops rest ks Q (Hd n D ((d,.tuple #[z,.bool false])::S) F hs) m r):
  GL O P ops (⟨some d,.typeAssert ox ti ta true,ty,pos,after,none⟩::rest) ks Q (Hd n D S F hs) m r:=
 GL.val hd (λa w ha=>by
  have h0:¬td=ta:=λe=>by subst e;simp at hne
  simp only[execOp,ha.1.eval hx,Instr.typeAssert,Sem.run_bind,JP hu,Result.andThen];cases dsc with
  | interface z=>exact absurd rfl (hn z)
  | _=>simp[h0,hz]) k
theorem GL.xg{tx:TypeId}{xs:Value}{dsc:TypeDesc}(hd:Nat.blt d n=true)(hu:P.underlying tx=some dsc)(hn:∀z,dsc≠.interface z)(hx:QK S ox=some xs)(k:GL O P ops rest ks Q (Hd n D ((d,.iface tx xs)::S) F hs) m r):
  GL O P ops (⟨some d,.makeInterface tx ox,ty,pos,after,none⟩::rest) ks Q (Hd n D S F hs) m r:=
 GL.val hd (λa w ha=>by
  simp only[execOp,ha.1.eval hx,Instr.makeInterface,Sem.run_bind,JP hu,Result.andThen];cases dsc with
  | interface z=>exact absurd rfl (hn z)
  | _=>simp) k
end
inductive Wr where
 | b (x:Int)
 | l (xs:List Int)
def R7(tb tl:Nat):Z9 Wr:=λF x vs=>match x with
 | .b n=>vs=[.iface tb (.int .u8 n)]
 | .l ns=>∃p k,vs=[.iface tl (.slice p ns.length k)]/\QI 1 (Ex (QR .i64)) F p k ns
theorem KN.fT{β:Type}{P:Program}{f:FuncId}{fn:Func}{c:Code}{args:List Value}{F:Fz}{m:Option β}{ρ:β->Fz->Value->Prop}{n:Nat}
  (hf:P.funcs[f]? =some fn) (hb:fn.body=some c) (hn:fn.ntmps=n) (ha:Nat.ble args.length n=true)
  (k:∀B r R,FB F B->GC none P c [] (AV P fn F (XS B F R) ρ r) (Hd n [] (HD 0 args) F [XS B F R]) m r):KN P f args.toArray F m ρ:=by
 intro r hm w R hw;obtain⟨B,hB,hw'⟩:=hw.dQ
 have h0:Calls P f args.toArray w (λe w' =>∃F' v,F<=F'/\e= .returned v/\ρ r F' v/\SH w' F' (XS B F R)):=by
  refine calls_of_wp hf hb (wpIn_wide.1 (k B r R hB hm _ w ⟨?_,hw'.one⟩));rw[hn];exact Y0 ha
 refine h0.mono ?_;rintro e w' ⟨F',v,le,h1,h2,h3⟩;exact⟨F',v,le,h1,h2,h3.mono λm h=>h.own⟩
def PA(tb tl:Nat)(F:Fz)(p:Value)(_:Unit)(x:Wr):Prop:=R7 tb tl F x [p]
theorem P4{tb tl:Nat}{F F' :Fz}{x:Wr}{vs:List Value}(le:F<=F')(h:R7 tb tl F x vs):R7 tb tl F' x vs:=by
 cases x with
 | b n=>exact h
 | l ns=>obtain⟨p,k,h1,h2⟩:=h;exact⟨p,k,h1,h2.mono le⟩
theorem PA.mono{tb tl:Nat}{F F' :Fz}{p:Value}{u:Unit}{x:Wr}(h:PA tb tl F p u x)(le:F<=F'):PA tb tl F' p u x:=P4 le h
theorem Vc.any{P:Program}{e tb tl:Nat}(size:∀w,(sizeOf e).run P w= .ok 1 w)(info:∃ti:TypeInfo,(∀w,(typeInfo e).run P w= .ok ti w)/\ti.bytes≠0/\ti.bytes<=4096)(zero:∃z,(∀w,(zeroValue e).run P w= .ok z w)/\z.cells.size=1):Vc P e 1 (R7 tb tl):=
 ⟨λ_ x vs h=>by cases x with
  | b n=>rw[show vs=_ from h];rfl
  | l ns=>obtain⟨p,k,h1,h2⟩:=h;rw[h1];rfl,λ_ x vs h=>by cases x with
  | b n=>rw[show vs=_ from h];rfl
  | l ns=>obtain⟨p,k,h1,h2⟩:=h;rw[h1];rfl,λ_ _ _ _ le h=>P4 le h,size,info,zero⟩
def zX(_:Fz)(p:Value)(_:Unit)(b:Bool):Prop:=match b with
 | true=>∃t v,p= .iface t v
 | false=>p= .nilIface
theorem QI.gU{α:Type}{sz:Nat}{c:α->List Value}{F:Fz}{b T k n:Nat}{f:Nat->α}{fr:Nat×Nat}(hc:∀x,(c x).length=sz)(hk:(Nat.ble k n&&Nat.ble n 1000000)=true)(hb:F.mem b=some (.cells (Qt n c f).toArray T fr)):QI sz (Ex c) F (some ⟨b,0,none⟩) n (XI k f):=by
 simp only[Bool.and_eq_true] at hk
 have h1:=Nat.le_of_ble_eq_true hk.1;have h2:=Nat.le_of_ble_eq_true hk.2;refine⟨by rw[Uy];exact h1,by omega,.inr ⟨b,0,_,T,fr,rfl,hb,λi x hx F' _=> ?_⟩⟩
 have hi:i < k/\f i=x:=by
  have:=T5 (n:=k) (f:=f) (q:=λj y=>j < k/\f j=y) (λj hj=>⟨hj,rfl⟩) i x hx;exact this
 show((Qt n c f).toArray.toList.drop (0+i*sz)).take sz=c x;simp only[Nat.zero_add];rw[<-hi.2]
 have main:∀(l:List Nat) (j:Nat) (y:Nat),l[j]? =some y->(((l.map f).flatMap c).drop (j*sz)).take sz=c (f y):=by
  intro l
  induction l with
  | nil=>intro j y h;simp at h
  | cons a l ih=>
   intro j y h;cases j with
   | zero=>
    simp at h;subst h
    simp only[Nat.zero_mul,List.drop_zero,List.map_cons,List.flatMap_cons];rw[<-hc (f a)];exact List.take_left
   | succ j=>
    simp only[List.map_cons,List.flatMap_cons];rw[show(j+1)*sz=(c (f a)).length+j*sz by rw[hc,Nat.add_mul];omega,<-List.drop_drop,List.drop_left];exact ih j y (by simpa using h)
 exact main (List.range n) i i (List.getElem?_range (by have:=hi.1;omega))
def Tl(f:Nat->Int)(k:Nat)(l:List Int):Nat->Int:=λi=>if i < min k l.length then l.getD i 0 else f i
section
variable{β:Type}{P:Program}{ops:Array Oper}{rest:List Oper}{ks:List Kt}{Q:Exit->Act->World->Prop}{m:Option β}{r:β}
variable{n:Nat}{D:List Deferred}{S:List (Nat×Value)}{F:Fz}{hs:List HP}
variable{d:Nat}{ty t t2 e:TypeId}{pos:String}{after:Array Edge}{ox oy oz:Operand}{v:Value}{kd:IntKind}{x:Int}
theorem GL.wF{len e sz b o k:Nat}(hd:Nat.blt d n=true)(ht:P.underlying t=some (.array len e))(hz:∀w,(sizeOf e).run P w= .ok sz w)(hx:QK S ox=some (.pointer (some ⟨b,o,none⟩)))(hy:QK S oy=some (.int kd (k:Int)))(hk:Nat.ble k len=true)(h0:Nat.blt 0 len=true)
  (kk:GL O P ops rest ks Q (Hd n D ((d,.slice (some ⟨b,o,none⟩) k len)::S) F hs) m r):
  GL O P ops (⟨some d,.slice t ox none (some oy) none,ty,pos,after,none⟩::rest) ks Q (Hd n D S F hs) m r:=
 GL.val hd (λa w ha=>by
  have h1:0 < len:=Nat.le_of_ble_eq_true h0;have h2:k<=len:=Nat.le_of_ble_eq_true hk;simp only[execOp,ha.1.eval hx,ha.1.eval hy,Instr.sliceAt,JP ht,Sem.run_bind,Result.andThen,Instr.sureAddr,Sem.run_pure,Instr.sliceBounds,Option.map_some,Option.map_none,Bool.false_eq_true,if_false];rw[H6 (by omega)];simp[hz,Y8]) kk
theorem GL.fi{p:Option Addr}{k k' c:Nat}(e:k=k')(h:GL O P ops rest ks Q (Hd n D ((d,.slice p k' c)::S) F hs) m r):GL O P ops rest ks Q (Hd n D ((d,.slice p k c)::S) F hs) m r:=e▸h
theorem GL.xd{b:Bool}{p:Value}{ot:TypeId}{ms:Array (String×TypeId)}(hd:Nat.blt d n=true)(hr:zX F p () b)(ht:P.underlying t=some (.interface ms))(hx:QK S ox=some p)
  (k:GL O P ops rest ks Q (Hd n D ((d,.bool (!b))::S) F hs) m r):
  GL O P ops (⟨some d,.binOp .eql t ox (.const .nilIface) ot,ty,pos,after,none⟩::rest) ks Q (Hd n D S F hs) m r:=
 GL.val hd (λa w ha=>by
  cases b with
  | true=>obtain⟨tt,vv,rfl⟩:=hr;have h1:a.eval (.const .nilIface)= .nilIface:=rfl;simp[execOp,ha.1.eval hx,h1,eqGuard,binOp,Sy ht]
  | false=>obtain rfl:p= .nilIface:=hr;have h1:a.eval (.const .nilIface)= .nilIface:=rfl;simp[execOp,ha.1.eval hx,h1,eqGuard,binOp,OG ht]) k
theorem Vm(kd:IntKind)(N:Nat)(f:Nat->Int):Qt N (QR kd) f=(List.range N).map λi=>Value.int kd (f i):=by
 unfold Qt XI
 induction(List.range N) with
 | nil=>rfl
 | cons a l ih=>simp only[List.map_cons,List.flatMap_cons,ih];rfl
theorem QI.takeN{α:Type}{sz:Nat}{c:Z9 α}{F:Fz}{p:Option Addr}{cap:Nat}{l:List α}(h:QI sz c F p cap l)(k:Nat):QI sz c F p cap (l.take k):=by
 obtain⟨h0,h1,h2⟩:=h;refine⟨by simp;omega,h1,?_⟩;rcases h2 with rfl | ⟨b,o,cs,T,fr,rfl,hb,h⟩
 ·exact .inl (by simp)
 ·refine .inr ⟨b,o,cs,T,fr,rfl,hb,λi x hx=>h i x ?_⟩;rw[List.getElem?_take] at hx
  split at hx
  ·exact hx
  ·cases hx
theorem A5{kd:IntKind}{F:Fz}{l:List Int}{us:List Value}(hl:us.length=l.length)(h:KX 1 (Ex (QR kd)) F l us):us=l.map (Value.int kd):=by
 apply List.ext_getElem?;intro i;rw[List.getElem?_map];rcases Nat.lt_or_ge i l.length with hi | hi
 ·have e:=h i l[i] (List.getElem?_eq_getElem hi) F (Fz.le_refl F);have e:(us.drop (i*1)).take 1=QR kd l[i]:=e;have hu:i < us.length:=by omega
  rw[Nat.mul_one,List.drop_eq_getElem_cons hu,List.take_succ_cons,List.take_zero] at e
  rw[List.getElem?_eq_getElem hu,List.getElem?_eq_getElem hi,(List.cons.inj e).1];rfl
 ·rw[List.getElem?_eq_none (by omega),List.getElem?_eq_none hi];rfl
theorem N5{cs vs:List Value}(h:vs.length<=cs.length):ZA cs 0 vs=vs++cs.drop vs.length:=by
 have h1:=Xa vs cs 0 (by omega);have h2:=XM vs cs 0 vs.length (by omega);rw[<-List.take_append_drop vs.length (ZA cs 0 vs),h2];simp only[Nat.zero_add,List.take_zero,List.nil_append] at h1
 rw[h1]
theorem GL.gg{N k T b e2 cap2:Nat}{f f2:Nat->Int}{l:List Int}{p2:Option Addr}(i:Nat)(hi:hs[i]? =some (pt b (.cells (Qt N (QR .u8) f).toArray T)))(hd:Nat.blt d n=true)(ht:P.underlying t=some (.slice e))(_ht2:P.underlying t2=some (.slice e2))(hz:∀w,(sizeOf e).run P w= .ok 1 w)(hk:Nat.ble k N=true)
  (hx:QK S ox=some (.slice (some ⟨b,0,none⟩) k N)) (hy:QK S oy=some (.slice p2 l.length cap2)) (hr:QI 1 (Ex (QR .u8)) F p2 cap2 l) (hf:f2=Tl f k l)
  (kk:GL O P ops rest ks Q (Hd n D ((d,.int .i64 (KF (l.length:Int) (k:Int)))::S) F (hs.set i (pt b (.cells (Qt N (QR .u8) f2).toArray T)))) m r):
  GL O P ops (⟨some d,.call ⟨.builtin .copy,#[ox,oy],#[t,t2]⟩,ty,pos,after,none⟩::rest) ks Q (Hd n D S F hs) m r:=by
 refine GL.step rfl (.inr rfl) λhm a w ha=> ?_;have hkN:=Nat.le_of_ble_eq_true hk;have hr' :=hr.takeN (min l.length k);have hln:(l.take (min l.length k)).length=min l.length k:=List.length_take.trans (by omega);obtain⟨us,hus,hp,hall,hsrc⟩:=Pv (P:=P) (k:=l.length) (λ_ x vs h=>by rw[show vs=_ from h];rfl) (λ_ x vs h=>by rw[show vs=_ from h];rfl) hr';rw[Nat.mul_one] at hus
 have hue:=A5 hus hp;rw[hln] at hsrc
 have hw:=hsrc w λb o e=>ha.2.frozen e;have hb:=ha.2.uV hi;have hcl:(Qt N (QR .u8) f).length=N:=by rw[Vm];simp
 have hst:=VP (P:=P) (o:=0) (i:=0) hb (by rw[hcl,hus,hln];omega) hall
 have he:ZA (Qt N (QR .u8) f) (0+0) us=Qt N (QR .u8) f2:=by
  rw[Nat.zero_add,N5 (by rw[hcl,hus,hln];omega),hue,Vm,Vm,hf];apply List.ext_getElem?;intro j;rcases Nat.lt_or_ge j (min l.length k) with hj | hj
  ·have hjl:j < l.length:=by omega
   rw[List.getElem?_append_left (by simp;omega),List.getElem?_map,List.getElem?_take,if_pos hj,List.getElem?_map,List.getElem?_range (by omega)];have hj2:j < min k l.length:=by omega
   simp[Tl,hj2,List.getElem?_eq_getElem hjl]
  ·rw[List.getElem?_append_right (by simp;omega),List.getElem?_drop,List.getElem?_map,List.getElem?_map];have e1:((l.take (min l.length k)).map (Value.int .u8)).length+(j - ((l.take (min l.length k)).map (Value.int .u8)).length)=j:=by simp;omega
   rw[e1];rcases Nat.lt_or_ge j N with h | h
   ·rw[List.getElem?_range h];have hj2:¬j < min k l.length:=by omega
    simp[Tl,hj2]
   ·rw[List.getElem?_eq_none (by simpa using h)];rfl
 rw[he] at hst
 refine⟨.int .i64 (KF (l.length:Int) (k:Int)),_,?_,kk hm _ _ ⟨ha.1.put hd _,SH.putAt hi ha.2 (.cells (Qt N (QR .u8) f2).toArray T)⟩⟩
 have hmin:(KF (l.length:Int) (k:Int))=((min l.length k:Nat):Int):=by
  unfold KF;split<;>omega
 rw[hmin];have hmin' :Nat.min l.length k=min l.length k:=rfl;simp[execOp,resolve,invoke,builtin,ha.1.eval hx,ha.1.eval hy,Builtin.copy_,JP ht,Builtin.lenOf,hz,hmin',hw,hst,goInt]
theorem Fj{α:Type}:∀{l:List α} {i:Nat} {x:α},l[i]? =some x->l.set i x=l
 | [],_,_,h=>by simp at h
 | a::l,0,x,h=>by simp at h;subst h;rfl
 | a::l,i+1,x,h=>by simp at h ⊢;exact Fj h
theorem GL.gj{α:Type}{f:FuncId}{b:Nat}{ob:Obj}{of:Operand}{Ty:Array TypeId}{ee:Option α}{g:α->Option β}{val:α->Value}(i:Nat)(hi:hs[i]? =some (pt b ob))(hd:Nat.blt d n=true)(hcall:∀args w,(callFunc f args).run P w= .ok (.enter f args) w)(hf:QK S of=some (.func (.func f) #[] #[]))(ha:YQ S [ox]=some [.pointer (some ⟨b,0,none⟩)])
  (hc:CT P f #[.pointer (some ⟨b,0,none⟩)] F (pt b ob) ee (λx _ v=>v=val x) (λ_ _ _=>pt b ob))
  (k:∀x F',F<=F'->GL O P ops rest ks Q (Hd n D ((d,val x)::S) F' hs) (g x) r):
  GL O P ops (⟨some d,.call ⟨.value of,#[ox],Ty⟩,ty,pos,after,none⟩::rest) ks Q (Hd n D S F hs) (ee.bind g) r:=
 GL.uk rfl (.inr rfl) λhm a w hA=>by
  refine⟨YO (caps:=[]) (os:=[ox]) hA.1 hcall hf ha,?_⟩;cases he:ee with
  | none=>rw[he] at hm;cases hm
  | some y=>
   rw[he] at hm
   refine(hc y he w _ (hA.2.pull hi)).mono ?_;rintro _ w' ⟨F',v,le,rfl,rfl,hw⟩;refine⟨_,rfl,k y F' le hm _ _ ⟨hA.1.put hd _,?_⟩⟩;have:=SH.push hi hw
   rwa[Fj hi] at this
end
end
section
section
variable{ε:Type}{P:Program}{penc:ε->Value}{fn:Func}{n i0 d0:Nat}{args:List Value}{F:Fz}{Hs:List HP}{Hp:ε->Fz->List HP}{rest:Code}{T0:Array TypeId}{ty0:TypeId}{pos0:String}{after0:Array Edge}
theorem FL{a:Act}{cs cs' :List Frame}{w:World}{v:Value}{Q:Exit->Act->List Frame->World->Prop}
  {S:List (Nat×Value)} (hsl:Sl n [] S a) (hd0:Nat.blt d0 n=true)
  (hrec:(match recoverD cs with | some (v,cs')=>(v,cs') | none=>(.nilIface,cs))=(v,cs')) (hQ:∀a',Sl n [] ((d0,v)::S) a'->Q .normal a' cs' w):wpOpsSIn Fence.wide 0 P #[⟨some d0,.call ⟨.builtin .recover,#[],T0⟩,ty0,pos0,after0,none⟩] Q [0] a cs w:=
 CE (i:=0) (w' :=w) (o:=⟨some d0,.call ⟨.builtin .recover,#[],T0⟩,ty0,pos0,after0,none⟩) rfl (by simp[Region.wanted]) Sm hrec (hQ _ (hsl.put hd0 v))
theorem OR.dP{f:FuncId}(hf:P.funcs[f]? =some fn)(hb:fn.body=some (.seq (.region i0 #[⟨some d0,.call ⟨.builtin .recover,#[],T0⟩,ty0,pos0,after0,none⟩] false) rest))(hn:fn.ntmps=n)(ha:Nat.ble args.length n=true)(hd0:Nat.blt d0 n=true)
  (h0:∀R,GC none P rest [] (NR P fn F Hs R) (Hd n [] ((d0,.nilIface)::HD 0 args) F (Hs++[R])) (some ()) ())
  (h1:∀q R,GC none P rest [] (NP P fn F (Hp q) R) (Hd n [] ((d0,penc q)::HD 0 args) F (Hs++[R])) (some ()) ()):OR P penc f args.toArray F Hs Hp:=by
 refine⟨λw R hw=> ?_,λq w R hw=> ?_⟩
 ·refine callsDIn_of_wpSIn hf hb trivial λc₀ cs hu=> ?_;refine wpSIn_seq (wpSIn_region (FL (n:=n) (v:=.nilIface) (cs' :=c₀::cs) (S:=HD 0 args) (by rw[hn];exact Y0 ha) hd0 (by simp[recoverD,hu]) λa' ha' => ?_));refine wpSIn_of_wpIn rfl (wpIn_mono (h0 R rfl a' w ⟨ha',hw.mono λm hm=>Ka (QM (λ_ h=>YD h) hm)⟩) ?_);rintro e a2 w2 ⟨he,hd,⟨v,hv⟩,hs⟩;have hc:c₀::cs={c₀ with mode:=.returning}::cs:=by cases c₀;simp_all
  rcases he with rfl | rfl
  ·exact⟨hd,.returning,hc,v,hv,rfl,⟨v,rfl⟩,hs⟩
  ·exact⟨hd,.returning,hc,v,hv,rfl,⟨v,rfl⟩,hs⟩
 ·refine callsDIn_of_wpSIn hf hb trivial λc₀ cs hu=> ?_;refine wpSIn_seq (wpSIn_region (FL (n:=n) (v:=penc q) (cs' :={c₀ with mode:=.panicking [{v:=penc q,recovered:=true}]}::cs) (S:=HD 0 args) (by rw[hn];exact Y0 ha) hd0 (by simp[recoverD,hu]) λa' ha' => ?_));refine wpSIn_of_wpIn rfl (wpIn_mono (h1 q R rfl a' w ⟨ha',hw.mono λm hm=>Ka (QM (λ_ h=>YD h) hm)⟩) ?_);rintro e a2 w2 ⟨he,hd,⟨v,hv⟩,hs⟩;rcases he with rfl | rfl
  ·exact⟨hd,_,rfl,v,hv,rfl,⟨v,rfl⟩,hs⟩
  ·exact⟨hd,_,rfl,v,hv,rfl,⟨v,rfl⟩,hs⟩
end
theorem LV.plain{β:Type}{P:Program}{f:FuncId}{args:Array Value}{F:Fz}{m:Option β}{ρ:β->Fz->Value->Prop}(h:LV (G:=Unit) P f args F m (λ_=>ρ) (λ_ _ _=>[])):KN P f args F m ρ:=by
 intro r hm w R hw;refine(h r hm w R hw).mono ?_;rintro e w' ⟨_,F',v,le,h1,h2,h3⟩;exact⟨F',v,le,h1,h2,h3.drop⟩
def LH(N:Nat)(l:List Int):Option (Nat->Int):=if N<=l.length then some (λi=>l.getD i 0) else none
theorem QI.arr{kd:IntKind}{F:Fz}{p:Option Addr}{cap N:Nat}{l:List Int}{f:Nat->Int}(hr:QI 1 (Ex (QR kd)) F p cap l)(hN:0 < N)(hf:LH N l=some f):∃b o T fr,∃cs:List Value,p=some ⟨b,o,none⟩/\F.mem b=some (.cells cs.toArray T fr)/\(cs.drop o).take N=Qt N (QR kd) f:=by
 unfold LH at hf
 split at hf
 ·rename_i hle;simp only[Option.some.injEq] at hf
  subst hf;obtain⟨h0,h1,h2⟩:=hr;rcases h2 with rfl | ⟨b,o,cs,T,fr,rfl,hb,h⟩
  ·simp at hle;omega
  ·refine⟨b,o,T,fr,cs.toList,rfl,by simpa using hb,?_⟩;have hp:KX 1 (Ex (QR kd)) F l (cs.toList.drop o):=λi x hx F' le=>by rw[List.drop_drop];exact h i x hx F' le
   have hl:=hp.len (λ_ x vs h=>by rw[show vs=_ from h];rfl);rw[Nat.mul_one] at hl
   have hp2:KX 1 (Ex (QR kd)) F (l.take N) ((cs.toList.drop o).take N):=by
    have h3:KX 1 (Ex (QR kd)) F (l.take N) (cs.toList.drop o):=λi x hx=>hp i x (by
     rw[List.getElem?_take] at hx
     split at hx
     ·exact hx
     ·cases hx)
    have h4:=h3.take;rw[Nat.mul_one,List.length_take,Nat.min_eq_left hle] at h4
    exact h4
   have e:=A5 (by simp at hl ⊢;omega) hp2;rw[e,Vm];apply List.ext_getElem?;intro i;rw[List.getElem?_map,List.getElem?_map,List.getElem?_take];rcases Nat.lt_or_ge i N with hi | hi
   ·have hil:i < l.length:=by omega
    rw[if_pos hi,List.getElem?_range hi];simp[List.getElem?_eq_getElem hil]
   ·rw[if_neg (by omega),List.getElem?_eq_none (l:=List.range N) (by simpa using hi)];rfl
 ·cases hf
def Fz.del(F:Fz)(b:Nat):Fz:={F with mem:=λk=>if k=b then none else F.mem k}
theorem SH.fE{w:World}{F:Fz}{b:Nat}{o:Obj}{H:HP}(h:SH w F H)(hb:F.mem b=some o):SH w (F.del b) (star (pt b o) H):=by
 obtain⟨m,hm,k⟩:=h
 have hmb:m (.blk b)=none:=by
  rcases k.dj b with h | h
  ·exact h
  ·rw[hb] at h;cases h
 refine⟨m.set (.blk b) (.obj o),Fh hmb hm,?_,?_,?_,?_,k.os,k.tape,k.out⟩
 ·intro x;by_cases e:x=b
  ·subst e;exact .inr (by simp[Fz.del])
  ·rcases k.dj x with h | h
   ·exact .inl (by simpa[Mem.set,e] using h)
   ·exact .inr (by simpa[Fz.del,e] using h)
 ·intro x c e;by_cases e' :x=b
  ·subst e';simp[Mem.set] at e;subst e;exact⟨o,rfl,k.frz _ _ hb⟩
  ·simp[Mem.set,e'] at e;exact k.own x c e
 ·intro γ c e;exact k.gst γ c (by simpa[Mem.set] using e)
 ·intro x c e;by_cases e' :x=b
  ·subst e';simp[Fz.del] at e
  ·exact k.frz x c (by simpa[Fz.del,e'] using e)
section
variable{O:Option Nat}{β:Type}{P:Program}{ops:Array Oper}{rest:List Oper}{ks:List Kt}{Q:Exit->Act->World->Prop}{m:Option β}{r:β}
variable{n:Nat}{D:List Deferred}{S:List (Nat×Value)}{F:Fz}{hs:List HP}
variable{d:Nat}{ty t:TypeId}{pos:String}{after:Array Edge}{ox:Operand}
theorem GL.xv{kd:IntKind}{ta e N cap:Nat}{p:Option Addr}{l:List Int}{g:(Nat->Int)->Option β}(hd:Nat.blt d n=true)(ht:P.underlying ta=some (.array N e))(hN:Nat.blt 0 N=true)(hr:QI 1 (Ex (QR kd)) F p cap l)(hx:QK S ox=some (.slice p l.length cap))
  (k:∀f b o T fr cs,LH N l=some f->F.mem b=some (.cells (List.toArray cs) T fr)->(cs.drop o).take N=Qt N (QR kd) f->GL O P ops rest ks Q (Hd n D ((d,.pointer (some ⟨b,o,none⟩))::S) F hs) (g f) r):
  GL O P ops (⟨some d,.sliceToArrayPointer ta ox,ty,pos,after,none⟩::rest) ks Q (Hd n D S F hs) ((LH N l).bind g) r:=
 GL.bind λf hf=>by
  obtain⟨b,o,T,fr,cs,rfl,hb,hc⟩:=hr.arr (Nat.le_of_ble_eq_true hN) hf;refine GL.val hd (λa w ha=> ?_) (k f b o T fr cs hf hb hc)
  have hle:N<=l.length:=by
   unfold LH at hf
   split at hf
   ·assumption
   ·cases hf
  have hn:¬l.length < N:=by omega
  simp[execOp,ha.1.eval hx,Instr.arrayAt,JP ht,hn]
theorem GL.gI{α γ:Type}{sz e cap:Nat}{c:α->List Value}{F0:Fz}{p:Option Addr}{l:List α}{f:FuncId}{caps ags vs:List Value}{of:Operand}{os:List Operand}{T:Array TypeId}{ee:Option γ}{val:γ->Value}{g:γ->Option β}(i:Nat)(hi:hs[i]? =some (Qj sz (Ex c) F0 e p cap l))(hd:Nat.blt d n=true)
  (hcall:∀args w,(callFunc f args).run P w= .ok (.enter f args) w) (hf:QK S of=some (.func (.func f) #[] caps.toArray)) (ha:YQ S os=some vs) (has:vs++caps=ags)
  (hc:∀F1,F<=F1->QI sz (Ex c) F1 p cap l->KN P f ags.toArray F1 ee (λx _ v=>v=val x))
  (k:∀x F',ee=some x->F<=F'->GL O P ops rest ks Q (Hd n D ((d,val x)::S) F' hs) (g x) r):
  GL O P ops (⟨some d,.call ⟨.value of,os.toArray,T⟩,ty,pos,after,none⟩::rest) ks Q (Hd n D S F hs) (ee.bind g) r:=
 GL.uk rfl (.inr rfl) λhm a w hA=>by
  subst has;refine⟨YO hA.1 hcall hf ha,?_⟩;cases he:ee with
  | none=>rw[he] at hm;cases hm
  | some y=>
   rw[he] at hm
   have hp:=hA.2.pull hi;obtain⟨mm,⟨m1,m2,dd,s1,s2,⟨h1,h2,h3⟩,hq⟩,kk⟩:=hp;rcases h3 with⟨rfl,rfl⟩ | ⟨b,cs,rfl,hb,hl,hpp⟩
   ·have e1:l=[]:=List.eq_nil_of_length_eq_zero (by omega);subst e1;refine((hc F (Fz.le_refl _) ⟨by simp,by simp,.inl rfl⟩) y he w _ hA.2).mono ?_;rintro _ w' ⟨F',v,le,rfl,rfl,hw⟩;exact⟨_,rfl,k y F' he le hm _ _ ⟨hA.1.put hd _,hw⟩⟩
   ·have hh:SH w F (star (pt b (.cells cs.toArray e (0,0))) (QY (hs.eraseIdx i))):=⟨mm,⟨m1,m2,dd,s1,s2,hb,hq⟩,kk⟩
    have hbn:F.mem b=none:=by
     rcases kk.dj b with h | h
     ·have:=s1 _ _ hb;rw[h] at this;cases this
     ·exact h
    obtain⟨le1,hw1⟩:=hh.freeze
    have hrep:QI sz (Ex c) (F.add b (.cells cs.toArray e (0,0))) (some ⟨b,0,none⟩) cap l:=⟨h1,h2,.inr ⟨b,0,cs.toArray,e,(0,0),rfl,Fz.uS _ _ _,λj x hx F' _=>by
     simpa using hpp j x hx F0 (Fz.le_refl _)⟩⟩
    refine(hc _ le1 hrep y he w _ hw1).mono ?_;rintro _ w' ⟨F',v,le,rfl,rfl,hw⟩;have hb' :=le.mem _ _ (Fz.uS F b (.cells cs.toArray e (0,0)))
    have hle:F<=F'.del b:=⟨le.os,le.tape,le.out,λk x hx=>by
     have hk:k≠b:=λe=>by rw[e,hbn] at hx;cases hx
     simp only[Fz.del,hk,if_false];exact le.mem _ _ (le1.mem _ _ hx),le.gh,le.gn⟩
    refine⟨_,rfl,k y (F'.del b) he hle hm _ _ ⟨hA.1.put hd _,?_⟩⟩;have h5:=hw.fE hb';have h6:SH w' (F'.del b) (star (Qj sz (Ex c) F0 e (some ⟨b,0,none⟩) cap l) (QY (hs.eraseIdx i))):=h5.mono λ_ hm=>QS (λm' hm' =>⟨h1,h2,.inr ⟨b,cs,rfl,hm',hl,hpp⟩⟩) hm;have h7:=SH.push hi h6
    rwa[Fj hi] at h7
end
section
variable{β:Type}{P:Program}{ops:Array Oper}{rest:List Oper}{E:Act->World->Prop}{m:Option β}{r:β}
variable{n:Nat}{D:List Deferred}{S:List (Nat×Value)}{F:Fz}{hs:List HP}{d:Nat}{ty t tx:TypeId}{pos:String}{after:Array Edge}{ox oy:Operand}{kd:IntKind}{xs:Value}
theorem GS.xJ{len e sz b o:Nat}(hd:Nat.blt d n=true)(ht:P.underlying t=some (.array len e))(hz:∀w,(sizeOf e).run P w= .ok sz w)(hx:QK S ox=some (.pointer (some ⟨b,o,none⟩)))(h0:Nat.blt 0 len=true)
  (k:GS P ops rest E (Hd n D ((d,.slice (some ⟨b,o,none⟩) len len)::S) F hs) m r):
  GS P ops (⟨some d,.slice t ox none none none,ty,pos,after,none⟩::rest) E (Hd n D S F hs) m r:=
 GS.val hd (λa w ha=>by
  have:0 < len:=Nat.le_of_ble_eq_true h0;simp[execOp,ha.1.eval hx,Instr.sliceAt,JP ht,Instr.sureAddr,Instr.sliceBounds,hz,Y8]) k
end
end
section
abbrev Uh:=Nat->Int
def WM(f:Uh):List Value:=Qt 96 (QR .u8) f
theorem KG(f:Uh):(WM f).length=96:=by unfold WM;rw[Vm];simp
theorem An(f:Uh):(WM f).all Value.oneCell' =true:=by unfold WM;rw[Vm,List.all_map];exact List.all_eq_true.2 λ_ _=>rfl
theorem Cu(f:Uh):((WM f).drop 0).take 96=WM f:=List.take_of_length_le (Nat.le_of_eq (KG f))
def JA(L:List Uh):List Value:=L.flatMap WM
theorem WD:∀(L:List Uh),(JA L).length=L.length*96
 | []=>rfl
 | f::L=>by simp only[JA,List.flatMap_cons,List.length_append,List.length_cons,KG];have:=WD L;unfold JA at this;omega
theorem MB:∀{L:List Uh} {k:Nat} {f:Uh},L[k]? =some f->((JA L).drop (k*96)).take 96=WM f
 | [],_,_,h=>by simp at h
 | g::L,0,f,h=>by
  simp at h;subst h
  simp only[JA,List.flatMap_cons,Nat.zero_mul,List.drop_zero];rw[<-KG g];exact List.take_left
 | g::L,k+1,f,h=>by
  have e:JA (g::L)=WM g++JA L:=rfl;rw[e,show(k+1)*96=(WM g).length+k*96 by rw[KG];omega,<-List.drop_drop,List.drop_left];exact MB (by simpa using h)
theorem DZ(L K:List Uh):JA (L++K)=JA L++JA K:=by simp[JA]
theorem LG{kd:IntKind}{N q:Nat}{f:Nat->Int}{v:Int}(hq:q < N):ZA (Qt N (QR kd) f) (0+q*1) [.int kd v]=Qt N (QR kd) (ZC f q v):=by
 rw[Vm,Vm];simp only[ZA,Nat.zero_add,Nat.mul_one];apply List.ext_getElem?;intro i;rw[List.getElem?_set,List.getElem?_map,List.getElem?_map];by_cases h:q=i
 ·subst h;have hn:Nat.beq q q=true:=Nat.beq_refl q;simp[hq,ZC]
 ·have hb:Nat.beq i q=false:=by
   cases hb:Nat.beq i q with
   | false=>rfl
   | true=>exact absurd (Nat.eq_of_beq_eq_true hb).symm h
  rw[if_neg h];rcases Nat.lt_or_ge i N with hi | hi
  ·rw[List.getElem?_range hi];simp[ZC,hb]
  ·rw[List.getElem?_eq_none (by simpa using hi)];rfl
theorem Ri{kd:IntKind}{N:Nat}{f:Nat->Int}{j:Nat}(h:j < N):(Qt N (QR kd) f)[0+j*1]? =some (.int kd (f j)):=by
 rw[Vm,List.getElem?_map,List.getElem?_range (by omega)];simp
theorem Gf{kd:IntKind}{N:Nat}{f:Nat->Int}:(Qt N (QR kd) f).length=N:=by rw[Vm];simp
def Gp(T b:Nat)(pre:List Value)(L:List Uh)(post:List Value):HP:=pt b (.cells (pre++(JA L++post)).toArray T)
theorem R2{pre post:List Value}{L:List Uh}{k:Nat}{f:Uh}(h:L[k]? =some f):((pre++(JA L++post)).drop (pre.length+k*96)).take 96=WM f:=by
 have hk:k < L.length:=by
  rcases Nat.lt_or_ge k L.length with h' | h'
  ·exact h'
  ·rw[List.getElem?_eq_none h'] at h;cases h
 rw[<-List.drop_drop,List.drop_left,List.drop_append_of_le_length (by rw[WD];omega),List.take_append_of_le_length (by rw[List.length_drop,WD];omega)];exact MB h
theorem Sk{a vs b:List Value}:∀{o:Nat},o+vs.length<=b.length->ZA (a++b) (a.length+o) vs=a++ZA b o vs:=by
 induction vs generalizing b with
 | nil=>intro o _;rfl
 | cons v vs ih=>
  intro o h;simp only[List.length_cons] at h
  simp only[ZA];rw[List.set_append_right _ _ (by omega),show a.length+o - a.length=o by omega,show a.length+o+1=a.length+(o+1) by omega];exact ih (by simp;omega)
theorem Sj{post:List Value}{f' :Uh}:∀{L:List Uh} {k:Nat},k < L.length->ZA (JA L++post) (k*96) (WM f')=JA (L.set k f')++post
 | [],_,h=>by simp at h
 | g::L,0,_=>by
  have e:JA (g::L)++post=WM g++(JA L++post):=by simp[JA]
  rw[e,Nat.zero_mul,N5 (by rw[List.length_append,KG,KG];omega),KG,<-KG g,List.drop_left];simp[JA]
 | g::L,k+1,h=>by
  have e:JA (g::L)++post=WM g++(JA L++post):=by simp[JA]
  have hk:k < L.length:=by simpa using h
  rw[e,show(k+1)*96=(WM g).length+k*96 by rw[KG];omega,Sk (by rw[List.length_append,KG,WD];omega),Sj hk];simp[JA]
section
variable{O:Option Nat}{β:Type}{P:Program}{ops:Array Oper}{rest:List Oper}{ks:List Kt}{Q:Exit->Act->World->Prop}{m:Option β}{r:β}
variable{n:Nat}{D:List Deferred}{S:List (Nat×Value)}{F:Fz}{hs:List HP}
variable{d:Nat}{ty t:TypeId}{pos:String}{after:Array Edge}{ox oy:Operand}{T b k:Nat}{pre post:List Value}{L:List Uh}{f:Uh}
theorem GL.wv{o i:Nat}(ho:o=pre.length+k*96)(hd:Nat.blt d n=true)(hA:∀w,(isAgg t).run P w= .ok true w)(hz:∀w,(sizeOf t).run P w= .ok 96 w)(hx:QK S ox=some (.pointer (some ⟨b,o,none⟩)))(hi:hs[i]? =some (Gp T b pre L post))(hf:L[k]? =some f)
  (kk:GL O P ops rest ks Q (Hd n D ((d,.agg (WM f).toArray)::S) F hs) m r):GL O P ops (⟨some d,.load t ox,ty,pos,after,none⟩::rest) ks Q (Hd n D S F hs) m r:=
 GL.uO hd hA hz hx hi (by subst ho;exact R2 hf) (KG f) kk
theorem GL.xK{o i:Nat}(ho:o=pre.length+k*96)(hz:∀w,(sizeOf t).run P w= .ok 96 w)(hx:QK S ox=some (.pointer (some ⟨b,o,none⟩)))(hy:QK S oy=some (.agg (WM f).toArray))(hi:hs[i]? =some (Gp T b pre L post))(hk:k < L.length)
  (kk:GL O P ops rest ks Q (Hd n D S F (hs.set i (Gp T b pre (L.set k f) post))) m r):GL O P ops (⟨none,.store t ox oy,ty,pos,after,none⟩::rest) ks Q (Hd n D S F hs) m r:=by
 have h1:=WD L;have hl:=KG f;refine GL.store hz hx hy rfl hl hi (by subst ho;rw[hl,List.length_append,List.length_append,h1];omega) ?_ ?_ kk
 ·unfold WM;rw[Vm,List.all_map];exact List.all_eq_true.2 λ_ _=>rfl
 ·subst ho;rw[Sk (by rw[hl,List.length_append,h1];omega),Sj hk]
theorem GL.gR{γ:Type}{o q cap:Nat}{fn:FuncId}{caps ags vs:List Value}{of:Operand}{os:List Operand}{Ty:Array TypeId}{ee:Option γ}{val:γ->Value}{g:γ->Option β}(i:Nat)(hi:hs[i]? =some (Gp T b pre L post))(ho:o=pre.length)(hq:q<=L.length)(hcap:q<=cap)(hcm:cap<=9223372036854775807)(hd:Nat.blt d n=true)
  (hcall:∀args w,(callFunc fn args).run P w= .ok (.enter fn args) w) (hf:QK S of=some (.func (.func fn) #[] caps.toArray)) (ha:YQ S os=some vs) (has:vs++caps=ags)
  (hc:∀F1,F<=F1->QI 96 (Ex (Qt 96 (QR .u8))) F1 (some ⟨b,o,none⟩) cap (L.take q)->KN P fn ags.toArray F1 ee (λx _ v=>v=val x))
  (kk:∀x F',ee=some x->F<=F'->GL O P ops rest ks Q (Hd n D ((d,val x)::S) F' hs) (g x) r):
  GL O P ops (⟨some d,.call ⟨.value of,os.toArray,Ty⟩,ty,pos,after,none⟩::rest) ks Q (Hd n D S F hs) (ee.bind g) r:=
 GL.uk rfl (.inr rfl) λhm a w hA=>by
  subst has;subst ho;refine⟨YO hA.1 hcall hf ha,?_⟩;cases he:ee with
  | none=>rw[he] at hm;cases hm
  | some y=>
   rw[he] at hm
   have hh:=hA.2.pull hi
   have hbn:F.mem b=none:=by
    obtain⟨mm,⟨m1,m2,dd,s1,s2,hb,hq⟩,kk⟩:=hh;rcases kk.dj b with h | h
    ·have:=s1 _ _ hb;rw[h] at this;cases this
    ·exact h
   obtain⟨le1,hw1⟩:=SH.freeze hh
   have hrep:QI 96 (Ex (Qt 96 (QR .u8))) (F.add b (.cells (pre++(JA L++post)).toArray T)) (some ⟨b,pre.length,none⟩) cap (L.take q):=⟨by simp;omega,hcm,.inr ⟨b,pre.length,_,T,(0,0),rfl,Fz.uS _ _ _,λj x hx F' _=>by
    show((pre++(JA L++post)).drop (pre.length+j*96)).take 96=WM x;refine R2 ?_;rw[List.getElem?_take] at hx
    split at hx
    ·exact hx
    ·cases hx⟩⟩
   refine(hc _ le1 hrep y he w _ hw1).mono ?_;rintro _ w' ⟨F',v,le,rfl,rfl,hw⟩;have hb' :=le.mem _ _ (Fz.uS F b _)
   have hle:F<=F'.del b:=⟨le.os,le.tape,le.out,λk x hx=>by
    have hk:k≠b:=λe=>by rw[e,hbn] at hx;cases hx
    simp only[Fz.del,hk,if_false];exact le.mem _ _ (le1.mem _ _ hx),le.gh,le.gn⟩
   refine⟨_,rfl,kk y (F'.del b) he hle hm _ _ ⟨hA.1.put hd _,?_⟩⟩;have h7:SH w' (F'.del b) (QY (hs.set i (Gp T b pre L post))):=SH.push hi (hw.fE hb')
   rwa[Fj hi] at h7
theorem GL.xy{p:Option Addr}{len cap e sz:Nat}{hi:Int}{kd:IntKind}(hd:Nat.blt d n=true)(ht:P.underlying t=some (.slice e))(hz:∀w,(sizeOf e).run P w= .ok sz w)(hx:QK S ox=some (.slice p len cap))(hy:QK S oy=some (.int kd hi))(h:0<=hi/\hi<=cap)
  (kk:GL O P ops rest ks Q (Hd n D ((d,.slice (if cap=0 then p else p.map (·.add (0*sz))) hi.toNat cap)::S) F hs) m r):
  GL O P ops (⟨some d,.slice t ox none (some oy) none,ty,pos,after,none⟩::rest) ks Q (Hd n D S F hs) m r:=
 GL.val hd (λa w ha=>by
  simp only[execOp,ha.1.eval hx,ha.1.eval hy,Option.map_some,Option.map_none,Sem.run_bind];rw[B5 ht hz h];rfl) kk
theorem GL.wP{o q len cap e sz:Nat}{kd:IntKind}(hd:Nat.blt d n=true)(ht:P.underlying t=some (.slice e))(hz:∀w,(sizeOf e).run P w= .ok sz w)(hx:QK S ox=some (.slice (some ⟨b,o,none⟩) len cap))(hy:QK S oy=some (.int kd (q:Int)))(h:q<=cap)
  (kk:GL O P ops rest ks Q (Hd n D ((d,.slice (some ⟨b,o,none⟩) q cap)::S) F hs) m r):
  GL O P ops (⟨some d,.slice t ox none (some oy) none,ty,pos,after,none⟩::rest) ks Q (Hd n D S F hs) m r:=by
 refine GL.xy hd ht hz hx hy (by omega) ?_;have e:(if cap=0 then(some ⟨b,o,none⟩:Option Addr) else(some ⟨b,o,none⟩:Option Addr).map (·.add (0*sz)))=some ⟨b,o,none⟩:=by split<;>simp[Addr.add]
 rw[e];exact kk
theorem GC.hp{c:Code}(i:Nat){p q:HP}(hi:hs[i]? =some p)(h:∀m,p m->q m)(k:GC O P c ks Q (Hd n D S F (hs.set i q)) m r):GC O P c ks Q (Hd n D S F hs) m r:=
 λhm a w ha=>k hm a w ⟨ha.1,SH.push hi ((ha.2.pull hi).mono λ_=>QS h)⟩
theorem GL.gi{α γ:Type}{sz T0:Nat}{c:α->List Value}{fn:FuncId}{caps ags vs:List Value}{of:Operand}{os:List Operand}{Ty:Array TypeId}{ee:Option γ}{val:γ->Option Addr->Nat->Value}{lst:γ->List α}{g:γ->Option β}(hd:Nat.blt d n=true)
  (hcall:∀args w,(callFunc fn args).run P w= .ok (.enter fn args) w) (hf:QK S of=some (.func (.func fn) #[] caps.toArray)) (ha:YQ S os=some vs) (has:vs++caps=ags)
  (hc:CT P fn ags.toArray F Sz ee (λ_ _ _=>True) (λx F' v m=>∃p q,v=val x p q/\Qj sz (Ex c) F' T0 p q (lst x) m))
  (k:∀x F' p q,ee=some x->F<=F'->GL O P ops rest ks Q (Hd n D ((d,val x p q)::S) F' (Qj sz (Ex c) F' T0 p q (lst x)::hs)) (g x) r):
  GL O P ops (⟨some d,.call ⟨.value of,os.toArray,Ty⟩,ty,pos,after,none⟩::rest) ks Q (Hd n D S F hs) (ee.bind g) r:=
 GL.uk rfl (.inr rfl) λhm a w hA=>by
  subst has;refine⟨YO hA.1 hcall hf ha,?_⟩;cases he:ee with
  | none=>rw[he] at hm;cases hm
  | some y=>
   rw[he] at hm
   have h0:SH w F (star Sz (QY hs)):=hA.2.mono λm hm=>⟨λ_=>none,m,λ_=>.inl rfl,λ_ _ e=>by simp at e,Mem.sub.refl _,trivial,hm⟩;refine(hc y he w _ h0).mono ?_;rintro _ w' ⟨F',v,le,rfl, -,mm,⟨m1,m2,dd,s1,s2,⟨p,q,rfl,ho⟩,hR⟩,kk⟩;exact⟨_,rfl,k y F' p q he le hm _ _ ⟨hA.1.put hd _,mm,⟨m1,m2,dd,s1,s2,ho,hR⟩,kk⟩⟩
theorem GL.xT{α α' γ:Type}{sz e cap sz2 T2:Nat}{c:α->List Value}{c2:α'->List Value}{F0:Fz}{p:Option Addr}{l:List α}{fn:FuncId}{caps ags vs:List Value}{of:Operand}{os:List Operand}{Ty:Array TypeId}{ee:Option γ}{val:γ->Option Addr->Nat->Value}{lst:γ->List α'}{g:γ->Option β}(i:Nat)(hi:hs[i]? =some (Qj sz (Ex c) F0 e p cap l))(hd:Nat.blt d n=true)
  (hcall:∀args w,(callFunc fn args).run P w= .ok (.enter fn args) w) (hf:QK S of=some (.func (.func fn) #[] caps.toArray)) (ha:YQ S os=some vs) (has:vs++caps=ags)
  (hc:∀F1,F<=F1->QI sz (Ex c) F1 p cap l->CT P fn ags.toArray F1 Sz ee (λ_ _ _=>True) (λx F' v m=>∃p q,v=val x p q/\Qj sz2 (Ex c2) F' T2 p q (lst x) m))
  (k:∀x F' p2 q2,ee=some x->F<=F'->GL O P ops rest ks Q (Hd n D ((d,val x p2 q2)::S) F' (Qj sz2 (Ex c2) F' T2 p2 q2 (lst x)::hs)) (g x) r):
  GL O P ops (⟨some d,.call ⟨.value of,os.toArray,Ty⟩,ty,pos,after,none⟩::rest) ks Q (Hd n D S F hs) (ee.bind g) r:=
 GL.uk rfl (.inr rfl) λhm a w hA=>by
  subst has;refine⟨YO hA.1 hcall hf ha,?_⟩;cases he:ee with
  | none=>rw[he] at hm;cases hm
  | some y=>
   rw[he] at hm
   have hp:=hA.2.pull hi;obtain⟨mm,⟨m1,m2,dd,s1,s2,⟨h1,h2,h3⟩,hq⟩,kk⟩:=hp
   have up:∀{F1 F2:Fz} {p q m},Qj sz2 (Ex c2) F1 T2 p q (lst y) m->Qj sz2 (Ex c2) F2 T2 p q (lst y) m:=fun{F1 F2 p q m} h=>by
    obtain⟨g1,g2,g3⟩:=h;rcases g3 with g3 | ⟨b,cs,e,hb,hl,hpp⟩
    ·exact⟨g1,g2,.inl g3⟩
    ·exact⟨g1,g2,.inr ⟨b,cs,e,hb,hl,λj x hx F' _=>hpp j x hx F1 (Fz.le_refl _)⟩⟩
   rcases h3 with⟨rfl,rfl⟩ | ⟨b,cs,rfl,hb,hl,hpp⟩
   ·have e1:l=[]:=List.eq_nil_of_length_eq_zero (by omega);subst e1;have h0:SH w F (star Sz (QY hs)):=hA.2.mono λm hm=>⟨λ_=>none,m,λ_=>.inl rfl,λ_ _ e=>by simp at e,Mem.sub.refl _,trivial,hm⟩;refine((hc F (Fz.le_refl _) ⟨by simp,by simp,.inl rfl⟩) y he w _ h0).mono ?_;rintro _ w' ⟨F',v,le,rfl, -,mm,⟨m1,m2,dd,s1,s2,⟨p,q,rfl,ho⟩,hR⟩,kk⟩;exact⟨_,rfl,k y F' p q he le hm _ _ ⟨hA.1.put hd _,mm,⟨m1,m2,dd,s1,s2,ho,hR⟩,kk⟩⟩
   ·have hh:SH w F (star (pt b (.cells cs.toArray e (0,0))) (QY (hs.eraseIdx i))):=⟨mm,⟨m1,m2,dd,s1,s2,hb,hq⟩,kk⟩
    have hbn:F.mem b=none:=by
     rcases kk.dj b with h | h
     ·have:=s1 _ _ hb;rw[h] at this;cases this
     ·exact h
    obtain⟨le1,hw1⟩:=hh.freeze
    have hrep:QI sz (Ex c) (F.add b (.cells cs.toArray e (0,0))) (some ⟨b,0,none⟩) cap l:=⟨h1,h2,.inr ⟨b,0,cs.toArray,e,(0,0),rfl,Fz.uS _ _ _,λj x hx F' _=>by
     simpa using hpp j x hx F0 (Fz.le_refl _)⟩⟩
    have h0:SH w (F.add b (.cells cs.toArray e (0,0))) (star Sz (QY (hs.eraseIdx i))):=hw1.mono λm hm=>⟨λ_=>none,m,λ_=>.inl rfl,λ_ _ e=>by simp at e,Mem.sub.refl _,trivial,hm⟩;refine(hc _ le1 hrep y he w _ h0).mono ?_;rintro _ w' ⟨F',v,le,rfl, -,hw⟩;obtain⟨mm3,⟨m3,m4,dd3,s3,s4,⟨p,q,rfl,ho⟩,hR⟩,kk3⟩:=hw;have hw3:SH w' F' (star (Qj sz2 (Ex c2) F' T2 p q (lst y)) (QY (hs.eraseIdx i))):=⟨mm3,⟨m3,m4,dd3,s3,s4,ho,hR⟩,kk3⟩;have hb' :=le.mem _ _ (Fz.uS F b (.cells cs.toArray e (0,0)))
    have hle:F<=F'.del b:=⟨le.os,le.tape,le.out,λk x hx=>by
     have hk:k≠b:=λe=>by rw[e,hbn] at hx;cases hx
     simp only[Fz.del,hk,if_false];exact le.mem _ _ (le1.mem _ _ hx),le.gh,le.gn⟩
    refine⟨_,rfl,k y (F'.del b) p q he hle hm _ _ ⟨hA.1.put hd _,?_⟩⟩;have h5:=hw3.fE hb';have h6:SH w' (F'.del b) (star (Qj sz2 (Ex c2) (F'.del b) T2 p q (lst y)) (star (Qj sz (Ex c) F0 e (some ⟨b,0,none⟩) cap l) (QY (hs.eraseIdx i)))):=h5.mono λ_ hm=>QS (λ_ h=>up h) (ZT (QS (λm' hm' =>⟨h1,h2,.inr ⟨b,cs,rfl,hm',hl,hpp⟩⟩) hm));refine h6.mono λ_ hm=>QM (λm' hm' => ?_) hm;have h7:=Wh hi hm'
    rwa[Fj hi] at h7
theorem A0{F:Fz}:∀{L:List Uh} {cs:List Value},L.length*96<=cs.length->KX 96 (Ex (Qt 96 (QR .u8))) F L cs->cs.take (L.length*96)=JA L
 | [],_,_,_=>by simp[JA]
 | f::L,cs,hl,h=>by
  simp only[List.length_cons] at hl
  have h0:cs.take 96=WM f:=by
   have h9:(cs.drop (0*96)).take 96=WM f:=h 0 f rfl F (Fz.le_refl F);simpa using h9
  have h1:KX 96 (Ex (Qt 96 (QR .u8))) F L (cs.drop 96):=λi x hx F' le=>by
   have:=h (i+1) x (by simpa using hx) F' le;rw[List.drop_drop]
   rwa[show(i+1)*96=96+i*96 by omega] at this
  have h2:=A0 (by rw[List.length_drop];omega) h1;rw[List.length_cons,show(L.length+1)*96=96+L.length*96 by omega,List.take_add,h0,h2];rfl
theorem PO{F:Fz}{L:List Uh}{post:List Value}:KX 96 (Ex (Qt 96 (QR .u8))) F L (JA L++post):=λi x hx F' _=>by
 have h9:=R2 (pre:=[]) (post:=post) hx;simp only[List.nil_append,List.length_nil,Nat.zero_add] at h9
 exact h9
theorem GL.gS{F0:Fz}{p:Option Addr}{cap a q:Nat}{fn:FuncId}{of:Operand}{Ty:Array TypeId}{mm:List Uh->Option (Bool×List Uh)}{g:Bool×List Uh->Option β}(i:Nat)(hi:hs[i]? =some (Qj 96 (Ex (Qt 96 (QR .u8))) F0 T p cap L))(hq:1<=q)(hle:a+q<=L.length)(hd:Nat.blt d n=true)
  (hcall:∀args w,(callFunc fn args).run P w= .ok (.enter fn args) w) (hf:QK S of=some (.func (.func fn) #[] #[])) (ha:YQ S [ox]=some [.slice (p.map (·.add (a*96))) q (cap - a)])
  (hlen:∀M x,mm M=some x->x.2.length=M.length)
  (hc:∀(b:Nat) (pre post:List Value) (M:List Uh) (c:Nat),M.length<=c->c<=9223372036854775807->CT P fn #[.slice (some ⟨b,pre.length,none⟩) M.length c] F (Gp T b pre M post) (mm M) (λr _ v=>v= .bool r.1) (λr _ _=>Gp T b pre r.2 post))
  (kk:∀x F',mm ((L.drop a).take q)=some x->F<=F'->GL O P ops rest ks Q (Hd n D ((d,.bool x.1)::S) F' (hs.set i (Qj 96 (Ex (Qt 96 (QR .u8))) F' T p cap (L.take a++(x.2++L.drop (a+q)))))) (g x) r):
  GL O P ops (⟨some d,.call ⟨.value of,#[ox],Ty⟩,ty,pos,after,none⟩::rest) ks Q (Hd n D S F hs) ((mm ((L.drop a).take q)).bind g) r:=
 GL.uk rfl (.inr rfl) λhm a' w hA=>by
  refine⟨YO (caps:=[]) (os:=[ox]) hA.1 hcall hf ha,?_⟩;have hp:=hA.2.pull hi;obtain⟨m0,⟨m1,m2,dd,s1,s2,⟨h1,h2,h3⟩,hqq⟩,kk0⟩:=hp;rcases h3 with⟨rfl,rfl⟩ | ⟨b,cs,rfl,hb,hl,hpp⟩
  ·omega
  ·have hMl:((L.drop a).take q).length=q:=by rw[List.length_take,List.length_drop];omega
   have hAl:(L.take a).length=a:=by rw[List.length_take];omega
   have hcs:cs=JA L++cs.drop (L.length*96):=by
    have:=A0 (by rw[hl];exact Nat.mul_le_mul_right _ h1) hpp;rw[<-this,List.take_append_drop]
   have hL:L=L.take a++((L.drop a).take q++L.drop (a+q)):=by
    rw[<-List.drop_drop,List.take_append_drop,List.take_append_drop]
   generalize cs.drop (L.length*96)=post at hcs
   have hcs2:cs=JA (L.take a)++(JA ((L.drop a).take q)++(JA (L.drop (a+q))++post)):=by
    rw[hcs]
    conv=>lhs;rw[hL]
    rw[DZ,DZ,List.append_assoc,List.append_assoc]
   have hpre:(JA (L.take a)).length=a*96:=by rw[WD,hAl]
   have hh:SH w F (star (Gp T b (JA (L.take a)) ((L.drop a).take q) (JA (L.drop (a+q))++post)) (QY (hs.eraseIdx i))):=⟨m0,⟨m1,m2,dd,s1,s2,by rw[hcs2] at hb;exact hb,hqq⟩,kk0⟩
   have hval:(#[.slice ((some ⟨b,0,none⟩:Option Addr).map (·.add (a*96))) q (cap - a)]:Array Value)=#[.slice (some ⟨b,(JA (L.take a)).length,none⟩) ((L.drop a).take q).length (cap - a)]:=by
    have ea:(⟨b,0,none⟩:Addr).add (a*96)=⟨b,a*96,none⟩:=by rw[Y8,Nat.zero_add]
    rw[hpre,hMl,Option.map_some,ea]
   cases he:mm ((L.drop a).take q) with
   | none=>rw[he] at hm;cases hm
   | some y=>
    rw[he] at hm
    show Calls P fn #[.slice ((some ⟨b,0,none⟩:Option Addr).map (·.add (a*96))) q (cap - a)] w _;rw[hval];refine(hc b _ _ _ (cap - a) (by omega) (by omega) y he w _ hh).mono ?_;rintro _ w' ⟨F',v,le,rfl,rfl,hw⟩;refine⟨_,rfl,kk y F' he le hm _ _ ⟨hA.1.put hd _,?_⟩⟩;have hy:=hlen _ _ he;rw[hMl] at hy
    have hw2:SH w' F' (star (Qj 96 (Ex (Qt 96 (QR .u8))) F' T (some ⟨b,0,none⟩) cap (L.take a++(y.2++L.drop (a+q)))) (QY (hs.eraseIdx i))):=by
     refine hw.mono λm hm=>QS (λm' hm' =>⟨?_,h2,.inr ⟨b,JA (L.take a++(y.2++L.drop (a+q)))++post,rfl,?_,?_,PO⟩⟩) hm
     ·rw[List.length_append,List.length_append,hAl,hy,List.length_drop];omega
     ·have e:JA (L.take a++(y.2++L.drop (a+q)))++post=JA (L.take a)++(JA y.2++(JA (L.drop (a+q))++post)):=by
       rw[DZ,DZ,List.append_assoc,List.append_assoc]
      rw[e];exact hm'
     ·have e2:=congrArg List.length hcs;rw[List.length_append,WD] at e2
      rw[List.length_append,WD,List.length_append,List.length_append,hAl,hy,List.length_drop];omega
    exact SH.push hi hw2
end
end
section
def TX{G β:Type}(P:Program)(fn:Func)(F:Fz)(R:HP)(ρ:G->β->Fz->Value->Prop)(Hs' :G->β->Fz->List HP)(r:β):Exit->Act->World->Prop:=
 bodyPostM Fence.wide 0 P fn (λe w' =>∃U F' v,F<=F'/\e= .returned v/\ρ U r F' v/\SH w' F' (star (QY (Hs' U r F')) R))
theorem LV.wJ{G β:Type}{P:Program}{f:FuncId}{fn:Func}{c:Code}{args:List Value}{F:Fz}{m:Option β}{ρ:G->β->Fz->Value->Prop}{Hs' :G->β->Fz->List HP}{n:Nat}
  (hf:P.funcs[f]? =some fn) (hb:fn.body=some c) (hn:fn.ntmps=n) (ha:Nat.ble args.length n=true)
  (k:∀r R,GC none P c [] (TX P fn F R ρ Hs' r) (Hd n [] (HD 0 args) F [R]) m r):LV P f args.toArray F m ρ Hs' :=by
 intro r hm w R hw;refine(callsIn_wide (n:=0)).1 (callsIn_of_wp_marks hf hb trivial (k r R hm _ w ⟨?_,hw.one⟩));rw[hn];exact Y0 ha
section
variable{G β:Type}{P:Program}{O:Option Nat}{n:Nat}{S:List (Nat×Value)}{F F' :Fz}{hs:List HP}{ks:List Kt}{fn:Func}{R:HP}{ρ:G->β->Fz->Value->Prop}{Hs' :G->β->Fz->List HP}{x r:β}{rs:List ResultVar}{vs:List Value}{ms:List (Nat×Nat)}
theorem Lk(U:G)(is:List Nat)(ms:List (Nat×Nat))(hr:fn.results=rs.toArray)(ho:kj hs ms)(h:BA P S F' (HO hs ms) rs vs)(hi:Js is (HO hs ms)=Hs' U x F' ++[R])(le:F<=F')(hρ:ρ U x F' (Bu vs)):
  some x=some r->∀a w,Hd n (ms.map λp=>UI p.2) S F' hs a w->TX P fn F R ρ Hs' r .ret a w:=by
 intro e a w ha;simp only[Option.some.injEq] at e
 subst e;show LeavesInM _ _ _ _ _ _ a.defers _ _;rw[ha.1.2.1];refine CN ha.2 ho λw' h' => ?_
 exact⟨_,Kx (n:=n) (a:=a) (D:=a.defers) hr ⟨⟨ha.1.1,rfl,ha.1.2.2⟩,h'⟩ h,U,F',_,le,rfl,hρ,h'.mono λm hm=>by
  have h1:=Jw (ks:=is) hm;rw[hi] at h1
  exact Um (Jx h1)⟩
end
abbrev yg{α β:Type}(P:Program)(f:FuncId)(args:Array Value)(F:Fz)(m:Option β)(val:β->Option Addr->Nat->Value)(lst:β->List α)(sz:Nat)(c:α->List Value)(T:TypeId):Prop:=
 LV (G:=Option Addr×Nat) P f args F m (λU x _ v=>v=val x U.1 U.2) (λU x F' =>[Qj sz (Ex c) F' T U.1 U.2 (lst x)])
section
variable{α β γ:Type}{P:Program}{f:FuncId}{val:β->Option Addr->Nat->Value}{lst:β->List α}{sz:Nat}{c:α->List Value}{T:TypeId}{F:Fz}{m:Option β}
theorem yg.frozen{args:Array Value}(h:yg P f args F m val lst sz c T):KN P f args F m (λx F' v=>∃p q,v=val x p q/\QI sz (Ex c) F' p q (lst x)):=by
 intro r hm w R hw;refine(h r hm w R hw).mono ?_;rintro e w' ⟨⟨p,q⟩,F',v,le,rfl,rfl,hS⟩
 have hS2:SH w' F' (star (Qj sz (Ex c) F' T p q (lst r)) R):=hS.mono λm hm=>by
  obtain⟨m1,m2,d,s1,s2,⟨m3,m4,d2,s3,s4,h1,h2⟩,h3⟩:=hm;exact⟨m3,m2,d.sub s3 (Mem.sub.refl _),s3.trans s1,s2,h1,h3⟩
 obtain⟨F2,le2,h2,h3⟩:=hS2.uK (Fz.le_refl _);exact⟨F2,_,Fz.t le le2,rfl,⟨p,q,rfl,h3⟩,h2⟩
theorem Aq{α:Type}{sz:Nat}{c:Z9 α}{T:TypeId}{β:Type}{P:Program}{F:Fz}{n i:Nat}{S:List (Nat×Value)}{F' :Fz}{hs:List HP}{fn:Func}{R:HP}{ρ:Option Addr×Nat->β->Fz->Value->Prop}{Hs' :Option Addr×Nat->β->Fz->List HP}{x r:β}{rs:List ResultVar}{vs:List Value}(ms:List (Nat×Nat))(hr:fn.results=rs.toArray)(ho:kj hs ms)(h:BA P S F' (HO hs ms) rs vs)(hi:(HO hs ms)[i]? =some R)(le:F<=F')(hv:ρ (none,0) x F' (Bu vs))(hl:Hs' (none,0) x F' =[Qj sz c F' T none 0 []]):
  some x=some r->∀a w,Hd n (ms.map λp=>UI p.2) S F' hs a w->TX P fn F R ρ Hs' r .ret a w:=by
 intro e a w ha;simp only[Option.some.injEq] at e
 subst e;show LeavesInM _ _ _ _ _ _ a.defers _ _;rw[ha.1.2.1];refine CN ha.2 ho λw' h' => ?_;refine⟨_,Kx (n:=n) (a:=a) (D:=a.defers) hr ⟨⟨ha.1.1,rfl,ha.1.2.2⟩,h'⟩ h,(none,0),F',_,le,rfl,hv,(h'.only hi).mono λm hm=> ?_⟩;refine⟨λ_=>none,m,λ_=>.inl rfl,λ_ _ e=>by simp at e,Mem.sub.refl _,?_,hm⟩;rw[hl];exact YD Cw
variable{O:Option Nat}{ops:Array Oper}{rest:List Oper}{ks:List Kt}{Q:Exit->Act->World->Prop}{r:γ}
variable{n:Nat}{D:List Deferred}{S:List (Nat×Value)}{hs:List HP}{d:Nat}{ty:TypeId}{pos:String}{after:Array Edge}
theorem GL.x4{m:Option γ}{α:Type}{sz:Nat}{c:Z9 α}{T:TypeId}{F0:Fz}{p:Option Addr}{cap:Nat}{l:List α}{os:List Oper}(i:Nat)(hi:hs[i]? =some (Qj sz c F0 T p cap l))(k:l.length<=cap->cap<=9223372036854775807->GL O P ops os ks Q (Hd n D S F hs) m r):GL O P ops os ks Q (Hd n D S F hs) m r:=
 λhm a w ha=>by
  obtain⟨mm,⟨m1,m2,dd,s1,s2,⟨h1,h2,h3⟩,hq⟩,kk⟩:=ha.2.pull hi;exact k h1 h2 hm a w ha
theorem GL.fX{caps ags vs:List Value}{of:Operand}{os:List Operand}{Ty:Array TypeId}{g:β->Option γ}(hd:Nat.blt d n=true)
  (hcall:∀args w,(callFunc f args).run P w= .ok (.enter f args) w) (hf:QK S of=some (.func (.func f) #[] caps.toArray)) (ha:YQ S os=some vs) (has:vs++caps=ags)
  (hc:yg P f ags.toArray F m val lst sz c T) (k:∀x F' p q,m=some x->F<=F'->GL O P ops rest ks Q (Hd n D ((d,val x p q)::S) F' (Qj sz (Ex c) F' T p q (lst x)::hs)) (g x) r):
  GL O P ops (⟨some d,.call ⟨.value of,os.toArray,Ty⟩,ty,pos,after,none⟩::rest) ks Q (Hd n D S F hs) (m.bind g) r:=
 GL.xS hd hcall hf ha has hc (λx U F' v hx le hv=>by subst hv;exact k x F' U.1 U.2 hx le)
end
def yT{G β:Type}(P:Program)(f:FuncId)(args:Array Value)(F:Fz)(Hs:List HP)(m:Option β)(ρ:G->β->Fz->Value->Prop)(Hs' :G->β->Fz->List HP):Prop:=
 ∀r,m=some r->∀w R,SH w F (star (QY Hs) R)->Calls P f args w (λe w' =>∃U F' v,F<=F'/\e= .returned v/\ρ U r F' v/\SH w' F' (star (QY (Hs' U r F')) R))
def NQ{G β:Type}(P:Program)(fn:Func)(F:Fz)(R:HP)(ρ:G->β->Fz->Value->Prop)(Hs' :G->β->Fz->List HP)(r:β):Exit->Act->World->Prop:=
 bodyPost P fn (λe w' =>∃U F' v,F<=F'/\e= .returned v/\ρ U r F' v/\SH w' F' (star (QY (Hs' U r F')) R))
theorem yT.enter{G β:Type}{P:Program}{f:FuncId}{fn:Func}{c:Code}{args:List Value}{F:Fz}{Hs:List HP}{m:Option β}{ρ:G->β->Fz->Value->Prop}{Hs' :G->β->Fz->List HP}{n:Nat}
  (hf:P.funcs[f]? =some fn) (hb:fn.body=some c) (hn:fn.ntmps=n) (ha:Nat.ble args.length n=true)
  (k:∀r R,GC none P c [] (NQ P fn F R ρ Hs' r) (Hd n [] (HD 0 args) F (Hs++[R])) m r):yT P f args.toArray F Hs m ρ Hs' :=by
 intro r hm w R hw;refine calls_of_wp hf hb (wpIn_wide.1 (k r R hm _ w ⟨?_,hw.mono λm hm=>Ka (QM (λ_ h=>YD h) hm)⟩));rw[hn];exact Y0 ha
section
variable{G β:Type}{P:Program}{n:Nat}{S:List (Nat×Value)}{F F' :Fz}{hs:List HP}{ks:List Kt}{fn:Func}{R:HP}{ρ:G->β->Fz->Value->Prop}{Hs' :G->β->Fz->List HP}{x r:β}{rs:List ResultVar}{vs:List Value}
theorem On(U:G)(is:List Nat)(hr:fn.results=rs.toArray)(h:BA P S F' hs rs vs)(hi:Js is hs=Hs' U x F' ++[R])(le:F<=F')(hρ:ρ U x F' (Bu vs)):
  some x=some r->∀a w,Hd n [] S F' hs a w->NQ P fn F R ρ Hs' r .ret a w:=by
 intro e a w ha;simp only[Option.some.injEq] at e
 subst e;refine⟨ha.1.2.1,_,Kx hr ha h,U,F',_,le,rfl,hρ,ha.2.mono λm hm=> ?_⟩;have h1:=Jw (ks:=is) hm;rw[hi] at h1
 exact Um (Jx h1)
theorem GE.dF{O:Option Nat}(U:G)(is:List Nat)(hr:fn.results=rs.toArray)(h:BA P S F' hs rs vs)(hi:Js is hs=Hs' U x F' ++[R])(le:F<=F')(hρ:ρ U x F' (Bu vs)):
 GE O P [] (NQ P fn F R ρ Hs' r) (Hd n [] S F' hs) (some x) r:=GE.nil (On U is hr h hi le hρ)
end
section
variable{β:Type}{P:Program}{O:Option Nat}{ops:Array Oper}{rest:List Oper}{ks:List Kt}{Q:Exit->Act->World->Prop}{m:Option β}{r:β}
variable{n:Nat}{D:List Deferred}{S:List (Nat×Value)}{F:Fz}{hs:List HP}{d:Nat}{ty:TypeId}{pos:String}{after:Array Edge}{T:Array TypeId}
theorem GL.xj{G α:Type}{f:FuncId}{caps ags vs:List Value}{of:Operand}{os:List Operand}{em:Option α}{ρ:G->α->Fz->Value->Prop}{Hs:List HP}{Hs' :G->α->Fz->List HP}{g:α->Option β}(is:List Nat)
  (hd:Nat.blt d n=true) (hcall:∀args w,(callFunc f args).run P w= .ok (.enter f args) w) (hf:QK S of=some (.func (.func f) #[] caps.toArray)) (ha:YQ S os=some vs) (has:vs++caps=ags) (hi:Js is hs=Hs)
  (hc:yT P f ags.toArray F Hs em ρ Hs') (k:∀x U F' v,em=some x->F<=F'->ρ U x F' v->GL O P ops rest ks Q (Hd n D ((d,v)::S) F' (Hs' U x F' ++YW is hs)) (g x) r):
  GL O P ops (⟨some d,.call ⟨.value of,os.toArray,T⟩,ty,pos,after,none⟩::rest) ks Q (Hd n D S F hs) (em.bind g) r:=
 GL.uk rfl (.inr rfl) λhm a w hA=>by
  subst has;refine⟨YO hA.1 hcall hf ha,?_⟩;cases he:em with
  | none=>rw[he] at hm;cases hm
  | some y=>
   rw[he] at hm
   have hsh:SH w F (star (QY Hs) (QY (YW is hs))):=hA.2.mono λm hm=>by
    have:=Vg (ks:=is) hm;rw[hi] at this;exact this
   refine(hc y he w _ hsh).mono ?_;rintro _ w' ⟨U,F',v,le,rfl,hρ,hw⟩;exact⟨v,rfl,k y U F' v he le hρ hm _ _ ⟨hA.1.put hd _,hw.mono λ_=>Ka⟩⟩
def BU{α:Type}(l:List α)(lo hi:Int):Option (List α):=if lo < hi then Ke l lo hi else none
theorem Sg{α:Type}{l l2:List α}{lo hi:Int}(h:BU l lo hi=some l2):0<=lo/\lo < hi/\hi<=l.length/\l2=(l.drop lo.toNat).take (hi.toNat - lo.toNat)/\l2.length=hi.toNat - lo.toNat:=by
 unfold BU at h
 split at h
 ·unfold Ke at h
  split at h
  ·rename_i h1 h2;simp only[Option.some.injEq] at h
   refine⟨h2.1,h1,h2.2.2,h.symm,?_⟩;rw[<-h,List.length_take,List.length_drop];omega
  ·cases h
 ·cases h
theorem GL.fF{α:Type}{sz e cap:Nat}{c:Z9 α}{F0:Fz}{p:Option Addr}{l:List α}{t:TypeId}{kd kd' :IntKind}{lo hi:Int}{ox oy oz:Operand}{g:List α->Option β}(i:Nat)(hI:hs[i]? =some (Qj sz c F0 e p cap l))(hd:Nat.blt d n=true)(ht:P.underlying t=some (.slice e))(hz:∀w,(sizeOf e).run P w= .ok sz w)(hx:QK S ox=some (.slice p l.length cap))(hy:QK S oy=some (.int kd lo))(hm:QK S oz=some (.int kd' hi))
  (k:∀l2,BU l lo hi=some l2->GL O P ops rest ks Q (Hd n D ((d,.slice (p.map (·.add (lo.toNat*sz))) l2.length (cap - lo.toNat))::S) F hs) (g l2) r):
  GL O P ops (⟨some d,.slice t ox (some oy) (some oz) none,ty,pos,after,none⟩::rest) ks Q (Hd n D S F hs) ((BU l lo hi).bind g) r:=
 GL.bind λl2 hl=>GL.x4 i hI λhN _=>by
  obtain⟨h0,h1,h2,_,h4⟩:=Sg hl;have hk:=k l2 hl;rw[h4] at hk
  refine GL.val hd (λa w ha=> ?_) hk;simp only[execOp,ha.1.eval hx,ha.1.eval hy,ha.1.eval hm,Option.map_some,Option.map_none,Sem.run_bind];rw[Xt ht hz (by omega) (by omega)];have hne:¬cap=lo.toNat:=by omega
  rw[if_neg hne];rfl
theorem GL.fN{sz b e n0 cap j:Nat}{p:Option Addr}{t:TypeId}{kd:IntKind}{lo x:Int}{ox oy:Operand}(hp:p=some ⟨b,0,none⟩)(h0:0<=lo)(hj:Kj n0 x=some j)(hd:Nat.blt d n=true)(ht:P.underlying t=some (.slice e))(hz:∀w,(sizeOf e).run P w= .ok sz w)
  (hx:QK S ox=some (.slice (p.map (·.add (lo.toNat*sz))) n0 cap)) (hy:QK S oy=some (.int kd x))
  (k:GL O P ops rest ks Q (Hd n D ((d,.pointer (some ⟨b,0+(lo+(j:Int)).toNat*sz,none⟩))::S) F hs) m r):
  GL O P ops (⟨some d,.indexAddr t ox oy,ty,pos,after,none⟩::rest) ks Q (Hd n D S F hs) m r:=by
 subst hp;have e1:(some ⟨b,0,none⟩:Option Addr).map (·.add (lo.toNat*sz))=some ⟨b,lo.toNat*sz,none⟩:=by rw[Option.map_some,Y8,Nat.zero_add]
 rw[e1] at hx
 have e2:0+(lo+(j:Int)).toNat*sz=lo.toNat*sz+j*sz:=by
  rw[Nat.zero_add,show(lo+(j:Int)).toNat=lo.toNat+j by omega,Nat.add_mul]
 rw[e2] at k
 exact GL.uU hd ht hz hx hy hj k
theorem GL.dC{kd:IntKind}{x y z u:Int}{ox oy oz ou:Operand}(hd:Nat.blt d n=true)(hx:QK S ox=some (.int kd x))(hy:QK S oy=some (.int kd y))(hz:QK S oz=some (.int kd z))(hu:QK S ou=some (.int kd u))
  (k:GL O P ops rest ks Q (Hd n D ((d,.int kd (imax (imax (imax x y) z) u))::S) F hs) m r):
  GL O P ops (⟨some d,.call ⟨.builtin .max,#[ox,oy,oz,ou],T⟩,ty,pos,after,none⟩::rest) ks Q (Hd n D S F hs) m r:=
 GL.val hd (λa w ha=>by simp[execOp,resolve,invoke,builtin,Builtin.max_,Builtin.max2,ha.1.eval hx,ha.1.eval hy,ha.1.eval hz,ha.1.eval hu,imax]) k
end
end
end Go.Dec
end
