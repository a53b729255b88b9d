/- For OfficeNone. -/
import Derived.Test.YtogaibncbkhjlaaGreatDoorPo1
import Derived.Shelf.SlIterI.Nil
import Derived.Scope
import Derived.Laws.Strings
import Derived.Laws.BytesArg
import Derived.Laws.IdiomStrings
import Derived.Laws.AppendOwn
import Derived.Lib.AppendIntMem
import Derived.Lib.BufferKept
noncomputable section
namespace Go.Dec
section
variable{O:Option Nat}
open Go.Maps Go.WideElems Go.RowKit Go.MapKept Go.WideShapes
theorem SH.below{w w' :World}{F:Fz}{H:HP}(h:SH w F H)(hb:Below w.heap.size w w'):SH w' F H:=by
 obtain⟨m,a,k⟩:=h;refine⟨m,a,k.dj,λb c e=> ?_,k.gst,λb o e=> ?_,hb.os.trans k.os,hb.tape.trans k.tape,hb.output.trans k.out⟩
 ·obtain⟨o,e1,e2⟩:=k.own b c e;exact⟨o,e1,(hb.block b (lt_of_heap e2)).trans e2⟩
 ·have:=k.frz b o e;exact(hb.block b (lt_of_heap this)).trans this
theorem SH.fP{w w' :World}{F:Fz}{H:HP}{g:Nat}{o:Obj}(h:SH w F H)(hb:Below w.heap.size w w')(hg:w.heap.size<=g)(ho:w'.heap[g]? =some o):F<=F.add g o/\SH w' (F.add g o) H:=by
 have h' :=h.below hb;obtain⟨m,a,k⟩:=h;obtain⟨m',a',k'⟩:=h'
 have h0:F.mem g=none:=by
  cases e:F.mem g with
  | none=>rfl
  | some x=>have:=lt_of_heap (k.frz g x e);omega
 have h1:m (.blk g)=none:=by
  cases e:m (.blk g) with
  | none=>rfl
  | some x=>obtain⟨o',_,e2⟩:=k.own g x e;have:=lt_of_heap e2;omega
 refine⟨Fz.fh h0,m,a,λb=> ?_,λb c e=> ?_,k.gst,λb x e=> ?_,k'.os,k'.tape,k'.out⟩
 ·show m (.blk b)=none∨TH F.mem g o b=none;by_cases e:b=g
  ·subst e;exact .inl h1
  ·rcases k.dj b with h | h
   ·exact .inl h
   ·exact .inr (by simpa[TH,e] using h)
 ·obtain⟨o',e1,e2⟩:=k.own b c e;exact⟨o',e1,(hb.block b (lt_of_heap e2)).trans e2⟩
 ·by_cases e' :b=g
  ·subst e';have:(F.add b o).mem b=some o:=Fz.wH F b o;rw[this] at e;cases e;exact ho
  ·have:F.mem b=some x:=by simpa[Fz.add,TH,e'] using e
   exact(hb.block b (lt_of_heap (k.frz b x this))).trans (k.frz b x this)
def HU{V:Type}(l:List (Int×V)):Option (List Int):=
 if l.all (λx=>decide (-9223372036854775808<=x.1/\x.1<=9223372036854775807))=true/\l.length<=1000000 then some ((l.map Prod.fst).mergeSort (λa b=>decide (a<=b))) else none
abbrev Sh:Int->Value:=λx=>.int .i64 x
abbrev LV:Value->Option (DataW Unit×List MemPlace):=λ_=>some (.nil,[])
theorem keyOf_int{P:Program}{k:TypeId}(hk:P.underlying k=some (.int .i64)){x:Int}(h: -9223372036854775808<=x/\x<=9223372036854775807):keyOf P k (Sh x)=some (.int .i64 x):=by
 have hw:(Lit.int .i64 x).wf=true:=by
  simp[Lit.wf,IntKind.min,IntKind.max,IntKind.bits,IntKind.signed];omega
 simp[keyOf,hk,mapKey,hw]
theorem yF{P:Program}{k:TypeId}(hk:P.underlying k=some (.int .i64)){x:Int}{e:MapEntry}(he:e.key=Sh x)(h: -9223372036854775808<=x/\x<=9223372036854775807):rd P k LV e=some (.int .i64 x,.nil):=by
 unfold rd;rw[he,keyOf_int hk h];rfl
theorem UB.keys{V:Type}{rv:Fz->V->Value->Prop}{F:Fz}{P:Program}{k:TypeId}(hk:P.underlying k=some (.int .i64)):∀{es:List MapEntry} {l:List (Int×V)},UB Sh rv F es l->(∀x∈l,(-9223372036854775808<=x.1/\x.1<=9223372036854775807))->(es.map (rg P k LV)).map (λp=>intOf p.1)=l.map Prod.fst/\(∀e∈es,∃y,rd P k LV e=some y)/\es.map (·.key)=l.map (λx=>Sh x.1)
 | [],[],_,_=>⟨rfl,by simp,rfl⟩
 | e::es,x::l,⟨h1,_,h3⟩,hb=>by
  obtain⟨g1,g2,g3⟩:=h3.keys hk (λy hy=>hb y (List.mem_cons_of_mem _ hy));have h0:=yF hk h1 (hb x (by simp));refine⟨?_,?_,?_⟩
  ·simp only[List.map_cons,g1,rg_of h0];rfl
  ·intro e' he';rcases List.mem_cons.1 he' with rfl | h
   ·exact⟨_,h0⟩
   ·exact g2 _ h
  ·simp only[List.map_cons,g3,h1]
theorem kz{V:Type}{rv:Fz->V->Value->Prop}{F:Fz}{P:Program}{k:TypeId}(hk:P.underlying k=some (.int .i64)){w:World}{b clock:Nat}{es:Array MapEntry}{l' l:List (Int×V)}(hb:w.heap[b]? =some (.map es clock))(hr:UB Sh rv F es.toList l')(hbi:J3 es.toList clock)(hp:l'.Perm l)(hn:(l.map Prod.fst).Nodup)
  (hall:l.all (λx=>decide (-9223372036854775808<=x.1/\x.1<=9223372036854775807))=true) (hlen:l.length<=1000000):
  ∃D:DataW Unit,w.ownsMap P k LV b es.size D/\(intKeys D).Perm (l.map Prod.fst)/\Maps.size D=l.length:=by
 have hb' :∀x∈l',(-9223372036854775808<=x.1/\x.1<=9223372036854775807):=λx hx=>by
  have:=List.all_eq_true.1 hall x (hp.mem_iff.1 hx);simpa using this
 obtain⟨g1,g2,g3⟩:=hr.keys hk hb';have hsz:es.size=l.length:=by rw[<-hp.length_eq,<-hr.len];simp
 refine⟨.map ((es.toList.map (rg P k LV)).foldr DataW.insert []),⟨es,clock,hb,⟨by rw[hsz];unfold maxLen;omega,⟨hbi.2,hbi.1.imp λh=>Nat.ne_of_lt h,?_⟩,g2⟩,Nat.le_refl _,rfl⟩,?_,?_⟩
 ·rw[g3];have h1:(l'.map Prod.fst).Nodup:=((hp.map Prod.fst).nodup_iff).2 hn;have e:l'.map (λx=>Sh x.1)=(l'.map Prod.fst).map Sh:=by rw[List.map_map];rfl
  rw[e];exact h1.map _ (λa b hab e=>hab (by simpa[Sh] using e))
 ·show(((es.toList.map (rg P k LV)).foldr DataW.insert []).map λp=>intOf p.1).Perm _;refine((sorted_perm _).map _).trans ?_;rw[g1];exact hp.map _
 ·show((es.toList.map (rg P k LV)).foldr DataW.insert []).length=_;rw[(sorted_perm _).length_eq];simpa using hsz
theorem OS{a b:List Int}(h:a.Perm b):a.mergeSort (λx y=>decide (x<=y))=b.mergeSort (λx y=>decide (x<=y)):=mergeSort_of_perm_i h
def GR(P:Program)(fs g:FuncId)(k T:TypeId):Prop:=
 (∀(b nn:Nat) (D:DataW Unit) (Bm:Nat) (w:World),Bm < w.heap.size->w.cell? ⟨Bm,0,none⟩=some (.map (some b))->w.ownsMap P k LV b nn D->Maps.size D<=1000000->
  Calls P fs #[.func (.func g) #[] #[.pointer (some ⟨Bm,0,none⟩)]] w λe w' =>∃(v:Value) (ss:List Int),e= .returned v/\ss.Perm (intKeys D)/\w'.ownsRow w.heap.size T 1 v ss.length ((ss.mergeSort (λx y=>decide (x<=y))).map encZ)/\(v= .slice none 0 0↔ss=[])/\Below w.heap.size w w')/\
 (∀(Bm:Nat) (w:World),Bm < w.heap.size->w.cell? ⟨Bm,0,none⟩=some (.map none)->Calls P fs #[.func (.func g) #[] #[.pointer (some ⟨Bm,0,none⟩)]] w λe w' =>e= .returned (.slice none 0 0)/\Below w.heap.size w w')
def KeysOf(P:Program)(fk g:FuncId)(T:TypeId):Prop:=
 ∀mb W,Calls P fk #[.map mb] W λe w' =>e= .returned (.func (.func g) #[] #[.pointer (some ⟨W.heap.size,0,none⟩)])/\w' =W.alloc (.cells #[.map mb] T)
section
variable{β:Type}{P:Program}{ops:Array Oper}{rest:List Oper}{ks:List Kt}{Q:Exit->Act->World->Prop}{m:Option β}{r:β}
variable{n:Nat}{D:List Deferred}{S:List (Nat×Value)}{F F0:Fz}{hs:List HP}{d:Nat}{ty k T T' :TypeId}{pos:String}{after:Array Edge}{ox of:Operand}{Ty:Array TypeId}{fs fk g:FuncId}
variable{V:Type}{rv:Fz->V->Value->Prop}{b γ j:Nat}{l:List (Int×V)}{xs:List (List (Int×V))}{p x:Option Nat}
theorem GL.fC(hk:KeysOf P fk g T)(hd:Nat.blt d n=true)(hcall:∀args w,(callFunc fk args).run P w= .ok (.enter fk args) w)(hf:QK S of=some (.func (.func fk) #[] #[]))(hx:QK S ox=some (.map p))
  (K:∀b F',F<=F'->F'.mem b=some (.cells #[.map p] T)->GL O P ops rest ks Q (Hd n D ((d,.func (.func g) #[] #[.pointer (some ⟨b,0,none⟩)])::S) F' hs) m r):
  GL O P ops (⟨some d,.call ⟨.value of,#[ox],Ty⟩,ty,pos,after,none⟩::rest) ks Q (Hd n D S F hs) m r:=
 GL.xE rfl (.inr rfl) λhm a w hA=>by
  refine⟨U2 (os:=[ox]) (caps:=[]) (vs:=[.map p]) hA.1 hcall hf (by simp[UC,hx]),(hk p w).mono ?_⟩;rintro _ w' ⟨rfl,rfl⟩;obtain⟨le,h⟩:=hA.2.gD (.cells #[.map p] T);exact⟨_,rfl,K w.heap.size _ le (Fz.wH ..) hm _ _ ⟨hA.1.put hd _,h⟩⟩
theorem GL.dB{c:Kb Int}{f:List Int->Option β}(hk:P.underlying k=some (.int .i64))(hs0:GR P fs g k k)(hc:∀F x,c F x [.int .i64 x]){Bm:Nat}(hB:F.mem Bm=some (.cells #[.map p] T))(i:Nat)(hi:hs[i]? =some (Qw γ (QU Sh rv) F0 xs))(hb:VE γ F j b)(hp:p=some b)(hel:xs[j]? =some l)
  (hd:Nat.blt d n=true) (hcall:∀args w,(callFunc fs args).run P w= .ok (.enter fs args) w) (hf:QK S of=some (.func (.func fs) #[] #[])) (hx:QK S ox=some (.func (.func g) #[] #[.pointer (some ⟨Bm,0,none⟩)]))
  (K:∀ks' F' p' cap,HU l=some ks'->F<=F'->QH 1 c F' p' cap ks'->GL O P ops rest ks Q (Hd n D ((d,.slice p' ks'.length cap)::S) F' hs) (f ks') r):
  GL O P ops (⟨some d,.call ⟨.value of,#[ox],Ty⟩,ty,pos,after,none⟩::rest) ks Q (Hd n D S F hs) ((HU l).bind f) r:=by
 refine GL.bind λks' hks=> ?_;have K' :=K ks';refine GL.xE (f:=fs) (args:=#[.func (.func g) #[] #[.pointer (some ⟨Bm,0,none⟩)]]) rfl (.inr rfl) λhm a w hA=> ?_;refine⟨U2 (os:=[ox]) (caps:=[]) (vs:=[.func (.func g) #[] #[.pointer (some ⟨Bm,0,none⟩)]]) hA.1 hcall hf (by simp[UC,hx]),?_⟩;subst hp;have hks0:=hks;unfold HU at hks
 split at hks
 ·rename_i hcond;obtain⟨hall,hlen⟩:=hcond;simp only[Option.some.injEq] at hks
  obtain⟨es,cl,l',hpm,hn,hheap,hr,hbi⟩:=(hA.2.pull hi).xa hb hel;obtain⟨D0,hown,hperm,hsize⟩:=kz hk hheap hr hbi hpm hn hall hlen;have hBw:=hA.2.frozen hB;refine(hs0.1 b _ D0 Bm w (lt_of_heap hBw) (by simp[World.cell?,hBw]) hown (by omega)).mono ?_;rintro _ w' ⟨v,ss,rfl,hss,⟨hrl,hrow⟩,hnil,hbel⟩;have hsort:ss.mergeSort (λx y=>decide (x<=y))=ks' :=by rw[<-hks];exact OS (hss.trans hperm)
  have hlen2:ks'.length=ss.length:=by rw[<-hsort];simp
  rw[hsort] at hrow
  rcases hrow with⟨rfl,h0⟩ | ⟨gb,cap,cur,rfl,hbase,hgb,r1,r2,r3,r4⟩
  ·have hk0:ks' =[]:=List.eq_nil_of_length_eq_zero (by rw[hlen2,h0]);subst hk0;exact⟨_,rfl,K' F none 0 hks0 (Fz.le_refl F) QH.nil hm _ _ ⟨hA.1.put hd _,hA.2.below hbel⟩⟩
  ·obtain⟨le,h2⟩:=hA.2.fP hbel hbase hgb;have hk:=K' _ (some ⟨gb,0,none⟩) cap hks0 le ⟨by rw[hlen2];exact r1,by unfold maxLen at r2;omega,.inr ⟨gb,0,cur,_,_,rfl,Fz.wH ..,λq x hx F' _=> ?_⟩⟩
   ·rw[hlen2] at hk
    exact⟨_,rfl,hk hm _ _ ⟨hA.1.put hd _,h2⟩⟩
   ·have hq:=Zv hx;rw[hlen2] at hq
    have:(cur.toList.drop (0+q*1)).take 1=[.int .i64 x]:=by
     have e1:cur.toList[q]? =some (.int .i64 x):=by
      have h3:=congrArg (λz=>z[q]?) r4;simp only[List.getElem?_take,List.getElem?_map,hx] at h3
      rw[if_pos (by omega)] at h3
      simpa[encZ] using h3
     simp only[Nat.zero_add,Nat.mul_one];rw[List.drop_eq_getElem_cons (List.getElem?_eq_some_iff.1 e1).1];have e2:=(List.getElem?_eq_some_iff.1 e1).2;simp[e2]
    rw[this];exact hc F' x
 ·cases hks
def VU{V:Type}(A:List (List (Int×V)))(x:Option Nat):Option (List Int):=match x with
 | none=>some []
 | some i=>(A[i]?).bind HU
theorem GL.xc{c:Kb Int}{f:List Int->Option β}(hk:P.underlying k=some (.int .i64))(hs0:GR P fs g k k)(hc:∀F x,c F x [.int .i64 x]){Bm:Nat}(hB:F.mem Bm=some (.cells #[.map p] T))(i:Nat)(hi:hs[i]? =some (Qw γ (QU Sh rv) F0 xs))(h:Zp γ F p x)
  (hd:Nat.blt d n=true) (hcall:∀args w,(callFunc fs args).run P w= .ok (.enter fs args) w) (hf:QK S of=some (.func (.func fs) #[] #[])) (hx:QK S ox=some (.func (.func g) #[] #[.pointer (some ⟨Bm,0,none⟩)]))
  (K:∀ks' F' p' cap,VU xs x=some ks'->F<=F'->QH 1 c F' p' cap ks'->GL O P ops rest ks Q (Hd n D ((d,.slice p' ks'.length cap)::S) F' hs) (f ks') r):
  GL O P ops (⟨some d,.call ⟨.value of,#[ox],Ty⟩,ty,pos,after,none⟩::rest) ks Q (Hd n D S F hs) ((VU xs x).bind f) r:=by
 cases x with
 | some j=>
  obtain⟨b,hb,hp⟩:=h;cases hel:xs[j]? with
  | none=>intro hm;simp[VU,hel] at hm
  | some l=>
   have e:VU xs (some j)=HU l:=by simp[VU,hel]
   rw[e] at K ⊢
   exact GL.dB hk hs0 hc hB i hi hb hp hel hd hcall hf hx K
 | none=>
  have hp:p=none:=h;subst hp;have K' :=K [] F none 0 rfl (Fz.le_refl F) QH.nil;refine GL.xE (m:=f []) (f:=fs) (args:=#[.func (.func g) #[] #[.pointer (some ⟨Bm,0,none⟩)]]) rfl (.inr rfl) λhm a w hA=> ?_;refine⟨U2 (os:=[ox]) (caps:=[]) (vs:=[.func (.func g) #[] #[.pointer (some ⟨Bm,0,none⟩)]]) hA.1 hcall hf (by simp[UC,hx]),?_⟩;have hBw:=hA.2.frozen hB;refine(hs0.2 Bm w (lt_of_heap hBw) (by simp[World.cell?,hBw])).mono ?_;rintro _ w' ⟨rfl,hbel⟩;exact⟨_,rfl,K' hm _ _ ⟨hA.1.put hd _,hA.2.below hbel⟩⟩
end
end
section
theorem S2{p q:HP}{m:Mem}(h:star p q m):star q p m:=by
 obtain⟨m1,m2,d,s1,s2,hp,hq⟩:=h;exact⟨m2,m1,d.symm,s2,s1,hq,hp⟩
theorem Us{p q:HP}{m:Mem}(h:star (Qj [p]) q m):star p q m:=by
 obtain⟨m1,m2,d,s1,s2,⟨a,b,_,t1,_,hp,_⟩,hq⟩:=h;exact⟨a,m2,d.sub t1 (Mem.sub.refl _),t1.trans s1,s2,hp,hq⟩
def EH{α:Type}(P:Program)(F:Fz)(f:FuncId)(caps:List Value)(arg:α->Fz->List Value->Prop)(Hs:Fz->List HP)(l:List α):Prop:=
 (∀args w,(callFunc f args).run P w= .ok (.enter f args) w)/\
 ∀(σ:Type) (ly:Nat) (Y:σ->Fz->HP) (y:α->σ->Option (σ×Bool)) (F1:Fz),F<=F1->Vk P ly F1 arg Y y->∀s,Xe P f (.func (.yield ly) #[] #[]::caps).toArray F1 (Hs F1++[Y s F1]) (V0 y l s) (λ_ _ _=>True) (λs' F' =>Hs F' ++[Y s' F'])
theorem EH.mk'{α:Type}{P:Program}{F:Fz}{f:FuncId}{caps:List Value}{arg:α->Fz->List Value->Prop}{Hs:Fz->List HP}{l:List α}(h1:∀args w,(callFunc f args).run P w= .ok (.enter f args) w)
  (h2:∀(σ:Type) (ly:Nat) (Y:σ->Fz->HP) (y:α->σ->Option (σ×Bool)) (F1:Fz),F<=F1->Vk P ly F1 arg Y y->∀s,∃m,Xe P f (.func (.yield ly) #[] #[]::caps).toArray F1 (Hs F1++[Y s F1]) m (λ_ _ _=>True) (λs' F' =>Hs F' ++[Y s' F'])/\∀r,V0 y l s=some r->m=some r):EH P F f caps arg Hs l:=
 ⟨h1,λσ ly Y y F1 le hy s r hr=>let⟨_,h,k⟩:=h2 σ ly Y y F1 le hy s;h r (k r hr)⟩
section
variable{β:Type}{P:Program}{ks:List Kt}{Q:Exit->Act->World->Prop}{r:β}{n:Nat}{D:List Deferred}{S:List (Nat×Value)}{F:Fz}{hs:List HP}
variable{α τ:Type}{g:Operand}{ps:List Tmp}{assign body:Code}{f:FuncId}{caps:List Value}{arg:α->Fz->List Value->Prop}{s0:τ}
theorem GC.fO{l:List α}{bm:α->τ->Option τ}{k:τ->Option β}(Hs:Fz->List HP)(is:List Nat)(I:τ->Fz->List HP->Prop)(hg:QK S g=some (.func (.func f) #[] caps.toArray))(hit:EH P F f caps arg Hs l)(hps:(ps.all λp=>Nat.blt p n)=true)(harg:∀x F' vs,arg x F' vs->vs.length=ps.length)
  (hi:K9 is hs=Hs F) (hI:I s0 F (JN is hs))
  (round:∀l L F0 F1 x vs s ctl R hs',F<=F0->F0<=F1->arg x F1 vs->I s F0 hs'->GC (some l) P assign [] (BP P l body (RP l L I (fun(_:Empty) _ _=>False) F1 R (.next ctl))) (Hd n [] ((ps.zip vs).reverse++S) F1 (pt l (Un L)::R::hs')) (bm x s) ctl)
  (next:∀q F0 F' s hs',F<=F0->F0<=F'->YI bm l s0=some s->I s F0 hs'->GE none P ks Q (Hd n (U7 q::D) S F' (pt q (.deferred (some []))::(Hs F' ++hs'))) (k s) r):
  GC none P (.rangeFunc g ps.toArray assign body) ks Q (Hd n D S F hs) ((YI bm l s0).bind k) r:=by
 intro hm a w ha;cases hl:YI bm l s0 with
 | none=>rw[hl] at hm;cases hm
 | some sf=>
  rw[hl] at hm
  refine wpIn_rangeFunc λfn _=> ?_
  let L:Loop:={state:=.ready,pending:=none,fn,tmps:=a.tmps,params:=ps.toArray,assign,body,defers:=w.heap.size}
  let J:Empty->Fz->List HP->Prop:=λ_ _ _=>False
  have hw1:SH ((w.alloc (.deferred (some []))).alloc (.loop L)) F (star (Qj (Hs F++[yS F (w.heap.size+1) L I J (.next s0) F])) (Qj [pt w.heap.size (.deferred (some []))])):=by
   have h1:=(ha.2.alloc (.deferred (some []))).alloc (.loop L);rw[World.size_alloc] at h1
   refine h1.mono λm hm=> ?_
   have h2:star (pt (w.heap.size+1) (Un L)) (star (pt w.heap.size (.deferred (some []))) (star (Qj (Hs F)) (Qj (JN is hs)))) m:=
    QR (λm hm=>QR (λm hm=>by have:=VZ (ks:=is) hm;rw[hi] at this;exact this) hm) hm
   have h3:=S2 (QR (λm hm=>Zd hm) (Zd h2));refine QX (λm hm=> ?_) (QR (λm hm=>Y5 hm) h3);refine K4 (QR (λm hm=>Y5 (p:=yS F (w.heap.size+1) L I J (.next s0) F) ⟨F,JN is hs,Fz.le_refl _,Fz.le_refl _,hI,hm⟩) hm)
  have hY:Vk P (w.heap.size+1) F arg (yS F (w.heap.size+1) L I J) (IB (λx s=>(bm x s).map Vb.next)):=by
   refine TS (S' :=λvs=>(ps.zip vs).reverse++S) (assign:=assign) (body:=body) (λx F' vs hx=>by rw[harg x F' vs hx];simp[L]) rfl rfl (λvs _=>Bu hps ⟨ha.1.1,rfl,ha.1.2.2⟩) ?_;intro F0 F1 x vs s ctl R hs' h0 h1 hx hI hmm;cases hb:bm x s with
   | none=>rw[hb] at hmm;cases hmm
   | some s' =>
    rw[hb] at hmm
    simp only[Option.map_some,Option.some.injEq] at hmm
    subst hmm;exact round _ L F0 F1 x vs s s' R hs' h0 h1 hx hI hb
  have hc:=hit.2 _ _ _ _ F (Fz.le_refl F) hY (.next s0) (.next sf) (by rw[GI,FI,hl];rfl) _ _ hw1;refine⟨w.heap.size+1,[U7 w.heap.size],(w.alloc (.deferred (some []))).alloc (.loop L),⟨.fn (.func f) caps.toArray,#[.func (.yield (w.heap.size+1)) #[] #[]]⟩,(w.alloc (.deferred (some []))).alloc (.loop L),f,(.func (.yield (w.heap.size+1)) #[] #[]::caps).toArray,(w.alloc (.deferred (some []))).alloc (.loop L),run_enterLoop_outer fn a.tmps ps.toArray assign body,?_,λ_ _=>trivial,?_,λe=>(by cases e),?_⟩
  ·have hc0:a.eval (.const (.func (.yield (w.heap.size+1)) #[] #[]))= .func (.yield (w.heap.size+1)) #[] #[]:=rfl;simp[resolve,Deferred.ofValue,ha.1.eval hg,hc0]
  ·simp[invoke,hit.1]
  ·refine callsIn_wide.2 (hc.mono ?_);rintro _ w' ⟨F',v,le,rfl, -,hw'⟩
   have hw2:SH w' F' (star (yS F (w.heap.size+1) L I J (.next sf) F') (star (Qj (Hs F')) (Qj [pt w.heap.size (.deferred (some []))]))):=hw'.mono λm hm=>by
    exact Us (Zd (WQ (QX (λm hm=>Y6 hm) hm)))
   obtain⟨F0,hs',h0,h1,hI',h3⟩:=SH.w7 hw2;refine⟨none,_,Bv (SH.wD (k:=0) rfl h3),?_⟩;have h4:SH _ F' (Qj (pt w.heap.size (.deferred (some []))::(Hs F' ++hs'))):=(SH.wW 0 (SH.putAt (k:=0) rfl h3 (Az L none))).mono λm hm=>QR (λm hm=>K4 hm) (Us (Zd (WQ hm)));exact next w.heap.size F0 F' sf hs' h0 h1 hl hI' hm _ _ ⟨⟨ha.1.1,by simp[ha.1.2.1],ha.1.2.2⟩,h4⟩
end
theorem Hd.u3{α:Type}{γ:Nat}{C:Fz->Nat->α->HP}{xs:List α}{n:Nat}{D:List Deferred}{S:List (Nat×Value)}{F F0:Fz}{hs:List HP}{a:Act}{w:World}(i:Nat)(hC:Wl C)(le:F0<=F)(hi:hs[i]? =some (Qw γ C F0 xs))(ha:Hd n D S F hs a w):Hd n D S F (hs.set i (Qw γ C F xs)) a w:=
 ⟨ha.1,SH.push hi ((ha.2.pull hi).xT hC le)⟩
end
section
variable{O:Option Nat}
def wpS(P:Program)(ops:Array Oper)(w:World)(K:Act->Prop):List Oper->Act->Prop
 | [],a=>K a
 | o::rest,a=>if Region.wanted o (yielded ops a.tmps) then ∃v,(execOp a.eval o).run P w= .ok (.value v) w/\wpS P ops w K rest (a.put o.dst v) else wpS P ops w K rest (a.put o.dst undef)
def GS{β:Type}(P:Program)(ops:Array Oper)(l:List Oper)(E A:Act->World->Prop)(m:Option β)(r:β):Prop:=
 m=some r->∀a w,A a w->wpS P ops w (λa' =>E a' w) l a
def Sx(P:Program)(ops:Array Oper)(w:World)(o:Oper)(v:Value)(a:Act):Prop:=
 (Region.wanted o (yielded ops a.tmps)=true/\(execOp a.eval o).run P w= .ok (.value v) w)∨(Region.wanted o (yielded ops a.tmps)=false/\v=undef)
def MC:Act->List Oper->List Value->Act
 | a,o::os,v::vs=>MC (a.put o.dst v) os vs
 | a,_,_=>a
theorem NK:∀{l:List Oper} {vs:List Value} {a:Act} {i:Nat} {o:Oper} {v:Value},l[i]? =some o->vs[i]? =some v->MC a (l.take (i+1)) (vs.take (i+1))=(MC a (l.take i) (vs.take i)).put o.dst v
 | [],_,_,_,_,_,h,_=>by simp at h
 | _::_,[],_,_,_,_,_,h=>by simp at h
 | x::l,u::vs,a,0,o,v,h,h' =>by
  simp at h h';subst h;subst h';rfl
 | x::l,u::vs,a,i+1,o,v,h,h' =>by
  simp only[List.take_succ_cons,MC];exact NK (l:=l) (by simpa using h) (by simpa using h')
theorem Nx{P:Program}{ops:Array Oper}{w:World}{K:Act->Prop}:∀{l:List Oper} {a:Act},wpS P ops w K l a->∃vs:List Value,vs.length=l.length/\K (MC a l vs)/\∀i o v,l[i]? =some o->vs[i]? =some v->Sx P ops w o v (MC a (l.take i) (vs.take i))
 | [],a,h=>⟨[],rfl,h,λi o v h=>by simp at h⟩
 | x::l,a,h=>by
  have key:∃v,Sx P ops w x v a/\wpS P ops w K l (a.put x.dst v):=by
   unfold wpS at h
   split at h
   ·rename_i hw;obtain⟨v,h1,h2⟩:=h;exact⟨v,.inl ⟨hw,h1⟩,h2⟩
   ·rename_i hw;exact⟨undef,.inr ⟨by simpa using hw,rfl⟩,h⟩
  obtain⟨v,h1,h2⟩:=key;obtain⟨vs,g1,g2,g3⟩:=Nx h2;refine⟨v::vs,by simp[g1],g2,λi o u ho hu=> ?_⟩;cases i with
  | zero=>simp at ho hu;subst ho;subst hu;exact h1
  | succ i=>exact g3 i o u (by simpa using ho) (by simpa using hu)
theorem SG(ops:Array Oper)(t:Array Value)(j:Nat):yielded ops t j=match(ops[j]?).bind (·.dst) with
  | none=>none
  | some d=>match t.getD d undef with
   | .bool b=>some b
   | _=>none:=by
 unfold yielded;cases(ops[j]?).bind (·.dst) with
 | none=>rfl
 | some d=>
  simp only[Option.bind_some,Array.getD_eq_getD_getElem?];cases t[d]? with
  | none=>rfl
  | some v=>cases v<;>rfl
def yO(l:List Oper)(k:Nat)(o:Oper):Bool:=(o.looksAt l.toArray).all λt=>(List.range k).all λj=>match VR l j with
 | none=>true
 | some d=> !Nat.beq d t||o.after.toList.any λe=>Region.binds .any e&&Nat.beq e.on j
def zR:Op->Bool
 | .select _ _=>false
 | _=>true
def Ft(n:Nat):List Oper->Bool
 | []=>true
 | o::os=>(match o.dst with
  | none=>true
  | some d=>Nat.blt d n&& !os.any (SL d))&&Ft n os
def AA:List Bool->List Bool->List Bool
 | a::xs,b::bs=>(a||b)::AA xs bs
 | [],bs=>bs
 | xs,[]=>xs
def Fu:Nat->List Bool
 | 0=>[true]
 | n+1=>false::Fu n
def j5(done:List (List Bool))(o:Oper):List Bool:=o.after.toList.foldr (λe m=>bif Region.binds .any e then AA (AA (Fu e.on) (done.getD e.on [])) m else m) []
def U8:List (List Bool)->List Oper->List (List Bool)
 | done,[]=>done
 | done,o::l=>U8 (done++[j5 done o]) l
def qH:Nat->List Bool->Bool
 | 0,_=>true
 | n+1,b::bs=>b&&qH n bs
 | _+1,[]=>false
def Oy(l:List Oper)(k:Nat):Bool:=(List.range l.length).all λt=>Nat.blt t k||qH t ((U8 [] l).getD t [])
theorem Co:∀{a b:List Bool} {j:Nat},(AA a b).getD j false=true->a.getD j false=true∨b.getD j false=true
 | [],bs,j,h=>.inr h
 | a::xs,[],j,h=>.inl h
 | a::xs,b::bs,0,h=>by
  have h:(a||b)=true:=h;rcases Bool.or_eq_true_iff.1 h with h | h
  ·exact .inl h
  ·exact .inr h
 | a::xs,b::bs,j+1,h=>Co (a:=xs) (b:=bs) (j:=j) h
theorem Aq:∀{n j:Nat},(Fu n).getD j false=true->j=n
 | 0,0,_=>rfl
 | 0,j+1,h=>by simp[Fu] at h
 | n+1,0,h=>by simp[Fu] at h
 | n+1,j+1,h=>by
  have:(Fu n).getD j false=true:=h;rw[Aq this]
def Ai(l:List Oper)(done:List (List Bool)):Prop:=∀t m,done[t]? =some m->∀j,m.getD j false=true->∃s,XA l s t j=true
theorem E9{l:List Oper}{done:List (List Bool)}(hd:Ai l done){t:Nat}{o:Oper}(ho:l[t]? =some o):∀{j:Nat},(j5 done o).getD j false=true->∃s,XA l s t j=true:=by
 have key:∀(es:List Edge),(∀e∈es,e∈o.after.toList)->∀j,(es.foldr (λe m=>bif Region.binds .any e then AA (AA (Fu e.on) (done.getD e.on [])) m else m) []).getD j false=true->∃s,XA l s t j=true:=λes=>by
  induction es with
  | nil=>intro _ j h;simp at h
  | cons e es ih=>
   intro hes j h;have hes' :=λe' he' =>hes e' (List.mem_cons_of_mem _ he');simp only[List.foldr_cons] at h
   cases hb:Region.binds .any e with
   | false=>rw[hb] at h;simp only[cond_false] at h;exact ih hes' j h
   | true=>
    rw[hb] at h
    simp only[cond_true] at h
    have hmem:=hes e (by simp);rcases Co h with h | h
    ·rcases Co h with h | h
     ·have:=Aq h;subst this;exact⟨1,by simp only[XA,ho];exact List.any_eq_true.2 ⟨e,hmem,by simp[hb]⟩⟩
     ·rw[List.getD_eq_getElem?_getD] at h
      cases hm:done[e.on]? with
      | none=>rw[List.getD_eq_getElem?_getD,hm] at h;simp at h
      | some m=>
       rw[List.getD_eq_getElem?_getD,hm] at h
       obtain⟨s,hs⟩:=hd e.on m hm j (by rw[List.getD_eq_getElem?_getD];exact h);exact⟨s+1,by simp only[XA,ho];exact List.any_eq_true.2 ⟨e,hmem,by simp[hb,hs]⟩⟩
    ·exact ih hes' j h
 intro j h;exact key o.after.toList (λ_ h=>h) j h
theorem DH{l:List Oper}:∀{post pre:List Oper} {done:List (List Bool)},l=pre++post->done.length=pre.length->Ai l done->Ai l (U8 done post)
 | [],_,_,_,_,hd=>hd
 | o::post,pre,done,e,hl,hd=>by
  refine DH (pre:=pre++[o]) (post:=post) (by simp[e]) (by simp[hl]) λt m hm j hj=> ?_;rcases Nat.lt_or_ge t done.length with h | h
  ·rw[List.getElem?_append_left h] at hm;exact hd t m hm j hj
  ·have ht:t=done.length:=by
    have:=(List.getElem?_eq_some_iff.1 hm).1;simp at this;omega
   subst ht;rw[List.getElem?_append_right (Nat.le_refl _)] at hm
   simp at hm;subst hm
   exact E9 hd (by rw[e,hl];simp) hj
theorem RF:∀{n j:Nat} {m:List Bool},qH n m=true->j < n->m.getD j false=true
 | 0,_,_,_,h=>by omega
 | n+1,j,[],h,_=>by cases h
 | n+1,0,b::bs,h,_=>by
  have h:(b&&qH n bs)=true:=h;exact((Bool.and_eq_true _ _).mp h).1
 | n+1,j+1,b::bs,h,hj=>by
  have h:(b&&qH n bs)=true:=h;exact RF (n:=n) (j:=j) (m:=bs) ((Bool.and_eq_true _ _).mp h).2 (by omega)
theorem Px{l:List Oper}{k:Nat}(h:Oy l k=true):∀t o,k<=t->l[t]? =some o->∀j,j < t->∃s,XA l s t j=true:=λt o hk ho j hj=>by
 have hlt:=Zv ho;have h1:=List.all_eq_true.1 h t (List.mem_range.2 hlt)
 have hb:Nat.blt t k=false:=by
  cases hb:Nat.blt t k with
  | false=>rfl
  | true=>have:=Nat.le_of_ble_eq_true hb;omega
 rw[hb,Bool.false_or] at h1
 have hM:Ai l (U8 [] l):=DH (pre:=[]) rfl rfl λt m hm=>by simp at hm
 have h2:=RF h1 hj;cases hm:(U8 [] l)[t]? with
 | none=>rw[List.getD_eq_getElem?_getD (l:=U8 [] l),hm] at h2;simp at h2
 | some m=>rw[List.getD_eq_getElem?_getD (l:=U8 [] l),hm] at h2;exact hM t m hm j h2
theorem Tz:∀{n:Nat} {os:List Oper} {i:Nat} {o:Oper} {d:Nat},Ft n os=true->os[i]? =some o->o.dst=some d->d < n/\∀j o',os[j]? =some o'->o'.dst=some d->j=i
 | _,[],_,_,_,_,h,_=>by simp at h
 | n,x::os,0,o,d,hf,h,hd=>by
  simp at h;subst h
  simp only[Ft,hd,Bool.and_eq_true,Bool.not_eq_true'] at hf
  refine⟨Nat.le_of_ble_eq_true hf.1.1,λj o' hj hd' => ?_⟩;cases j with
  | zero=>rfl
  | succ j=>exact(B9 hf.1.2 (by simpa using hj) hd').elim
 | n,x::os,i+1,o,d,hf,h,hd=>by
  have hf' :=hf;simp only[Ft,Bool.and_eq_true] at hf
  obtain⟨g1,g2⟩:=Tz (os:=os) (i:=i) hf.2 (by simpa using h) hd;refine⟨g1,λj o' hj hd' => ?_⟩;cases j with
  | zero=>
   simp at hj;subst hj
   simp only[Ft,hd',Bool.and_eq_true,Bool.not_eq_true'] at hf'
   exact(B9 hf'.1.2 (by simpa using h) hd).elim
  | succ j=>rw[g2 j o' (by simpa using hj) hd']
def j4(n:Nat)(l:List Oper)(k:Nat):Bool:=Rb 0 l&&Oy l k&&Nat.ble k l.length&&Ft n (l.take k)&&(l.take k).all λo=>yO l k o&&zR o.op&&X0 o.op
section
variable{β:Type}{P:Program}{ks:List Kt}{Q:Exit->Act->World->Prop}{m:Option β}{r:β}{n:Nat}{D:List Deferred}{S0:List (Nat×Value)}{F:Fz}{hs:List HP}{l:List Oper}
structure He(l:List Oper)(k n:Nat)(a0:Act)(vs:List Value)(L:Nat->Bool)(a:Act):Prop where
 size:a.tmps.size=n
 defs:a.defers=a0.defers
 got:∀(j:Nat) (v:Value) (t:Nat),j < k->L j=true->VR l j=some t->vs[j]? =some v->a.tmps.getD t undef=v
 old:∀t,(∀j,j < k->L j=true->VR l j≠some t)->a.tmps.getD t undef=a0.tmps.getD t undef
theorem Rh{t:Array Value}{d:Nat}{v:Value}(h:d < t.size):(t.setIfInBounds d v).getD d undef=v:=by simp[Array.getD_eq_getD_getElem?,h]
theorem BL{t:Array Value}{d e:Nat}{v:Value}(h:d≠e):(t.setIfInBounds d v).getD e undef=t.getD e undef:=by
 simp only[Array.getD_eq_getD_getElem?];rw[Array.getElem?_setIfInBounds_ne h]
theorem He.put{k:Nat}{a0 a:Act}{vs:List Value}{L:Nat->Bool}(c:He l k n a0 vs L a)(hsl:Ft n (l.take k)=true){i:Nat}{o:Oper}{v:Value}(hi:i < k)(ho:l[i]? =some o)(hv:vs[i]? =some v):He l k n a0 vs (Km L i) (a.put o.dst v):=by
 have hdst:VR l i=o.dst:=by simp[VR,ho]
 have hslot:∀d,o.dst=some d->d < n/\∀j,j < k->VR l j=some d->j=i:=λd hd=>by
  obtain⟨g1,g2⟩:=Tz hsl (i:=i) (o:=o) (d:=d) (by rw[List.getElem?_take,if_pos hi];exact ho) hd;refine⟨g1,λj hj e=> ?_⟩;cases hoj:l[j]? with
  | none=>simp[VR,hoj] at e
  | some oj=>exact g2 j oj (by rw[List.getElem?_take,if_pos hj];exact hoj) (by simpa[VR,hoj] using e)
 cases hd:o.dst with
 | none=>
  refine⟨c.size,c.defs,λj u t hj hL e hu=> ?_,λt ht=>c.old t λj hj hL=>ht j hj ?_⟩
  ·by_cases hji:j=i
   ·subst hji;rw[hdst,hd] at e;cases e
   ·exact c.got j u t hj (by simpa[Km,hji] using hL) e hu
  ·simp only[Km];split
   ·rfl
   ·exact hL
 | some d=>
  obtain⟨hdn,huniq⟩:=hslot d hd;refine⟨by simp[Act.put,c.size],c.defs,λj u t hj hL e hu=> ?_,λt ht=> ?_⟩
  ·by_cases hji:j=i
   ·subst hji;rw[hdst,hd] at e;cases e
    rw[hv] at hu;cases hu
    exact Rh (by rw[c.size];exact hdn)
   ·have hne:d≠t:=λe' =>by subst e';exact hji (huniq j hj e)
    show(a.tmps.setIfInBounds d v).getD t undef=u;rw[BL hne];exact c.got j u t hj (by simpa[Km,hji] using hL) e hu
  ·have hne:d≠t:=λe' =>by subst e';exact ht i hi (by simp[Km]) (by rw[hdst,hd])
   show(a.tmps.setIfInBounds d v).getD t undef=_;rw[BL hne];exact c.old t λj hj hL=>ht j hj (by simp only[Km];split<;>first | rfl | exact hL)
theorem He.same{k:Nat}{a0 a b:Act}{vs:List Value}{L L' :Nat->Bool}(c:He l k n a0 vs L a)(c' :He l k n a0 vs L' b)(hvs:k<=vs.length){t:Nat}(ht:∀j,j < k->VR l j=some t->L j=true/\L' j=true):a.tmps.getD t undef=b.tmps.getD t undef:=by
 by_cases h:∃j,j < k/\VR l j=some t
 ·obtain⟨j,hj,e⟩:=h;obtain⟨h1,h2⟩:=ht j hj e;have hv:vs[j]? =some vs[j]:=List.getElem?_eq_getElem (by omega);rw[c.got j _ t hj h1 e hv,c'.got j _ t hj h2 e hv]
 ·have hn:∀j,j < k->VR l j≠some t:=λj hj e=>h ⟨j,hj,e⟩;rw[c.old t λj hj _=>hn j hj,c'.old t λj hj _=>hn j hj]
theorem He.eq{k:Nat}{a0 a b:Act}{vs:List Value}{L:Nat->Bool}(c:He l k n a0 vs L a)(c' :He l k n a0 vs L b)(hvs:k<=vs.length)(hL:∀j,j < k->L j=true):a=b:=by
 have h:∀t,a.tmps.getD t undef=b.tmps.getD t undef:=λt=>c.same c' hvs λj hj _=>⟨hL j hj,hL j hj⟩
 have ht:a.tmps=b.tmps:=by
  apply Array.ext
  ·rw[c.size,c'.size]
  ·intro i h1 h2;have:=h i;simpa[Array.getD_eq_getD_getElem?,h1,h2] using this
 have hd:a.defers=b.defers:=by rw[c.defs,c'.defs]
 obtain⟨ta,da⟩:=a;obtain⟨tb,db⟩:=b;have ht:ta=tb:=ht;have hd:da=db:=hd;rw[ht,hd]
theorem Sx.of_same{ops:Array Oper}{w:World}{o:Oper}{v:Value}{a b:Act}(hs:zR o.op=true)(h:Sx P ops w o v a)(he:∀t∈o.looksAt ops,a.tmps.getD t undef=b.tmps.getD t undef):Sx P ops w o v b:=by
 have hx:execOp a.eval o=execOp b.eval o:=execOp_congr o (λcs bb e=>by rw[e] at hs;cases hs) λx hx=>by
  cases x with
  | tmp t=>exact he t (List.mem_append_left _ (List.mem_filterMap.2 ⟨.tmp t,by simpa using hx,rfl⟩))
  | const v=>rfl
  | global g=>rfl
  | func f=>rfl
 have hw:Region.wanted o (yielded ops a.tmps)=Region.wanted o (yielded ops b.tmps):=by
  unfold Region.wanted;cases hg:o.guard with
  | none=>rfl
  | some gw=>
   obtain⟨g,want⟩:=gw
   have:yielded ops a.tmps g=yielded ops b.tmps g:=by
    rw[SG,SG];cases ht:(ops[g]?).bind (·.dst) with
    | none=>rfl
    | some t=>
     simp only[];rw[he t (List.mem_append_right _ (by simp[hg,ht]))]
   simp only[this]
 unfold Sx at*
 rw[<-hx,<-hw];exact h
theorem Sk{k:Nat}{a0:Act}{vs:List Value}(hsz:a0.tmps.size=n)(hsl:Ft n (l.take k)=true)(hk:k<=l.length)(hvs:vs.length=k):∀i,i<=k->He l k n a0 vs (λj=>Nat.blt j i) (MC a0 ((l.take k).take i) (vs.take i))
 | 0,_=>by
  refine⟨hsz,rfl,λj v t _ hL=> ?_,λt _=>rfl⟩;have:Nat.blt j 0=true:=hL;have:=Nat.le_of_ble_eq_true this;omega
 | i+1,hi=>by
  have ho:l[i]? =some l[i]:=List.getElem?_eq_getElem (by omega);have hv:vs[i]? =some vs[i]:=List.getElem?_eq_getElem (by omega);have h:=(Sk hsz hsl hk hvs i (by omega)).put hsl (by omega) ho hv;rw[NK (l:=l.take k) (o:=l[i]) (v:=vs[i]) (by rw[List.getElem?_take,if_pos (by omega)];exact ho) hv]
  have e:(λj=>Nat.blt j (i+1))=Km (λj=>Nat.blt j i) i:=by
   funext j;simp only[Km];by_cases hj:j=i
   ·subst hj;rw[if_pos rfl];exact Nat.ble_eq_true_of_le (Nat.le_refl _)
   ·rw[if_neg hj];cases h1:Nat.blt j i with
    | true=>have:=Nat.le_of_ble_eq_true h1;exact Nat.ble_eq_true_of_le (show j+1<=i+1 by omega)
    | false=>
     cases h2:Nat.blt j (i+1) with
     | false=>rfl
     | true=>
      have:=Nat.le_of_ble_eq_true h2;have h3:Nat.blt j i=true:=Nat.ble_eq_true_of_le (show j+1<=i by omega);rw[h1] at h3;cases h3
  rw[e];exact h
theorem GC.uz{id:Nat}(k:Nat)(hm:P.follows .mixedOrders=true)(hB:j4 n l k=true)
  (walk:GS P l.toArray (l.take k) (Xd O P l.toArray (Z8 O P ks Q) (l.drop k)) (Hd n D S0 F hs) m r):GC O P (.region id l.toArray true) ks Q (Hd n D S0 F hs) m r:=by
 intro hmr a0 w ha;simp only[j4,Bool.and_eq_true,List.all_eq_true] at hB
 obtain⟨⟨⟨⟨hord,hdeep⟩,hlen⟩,hsl⟩,hall⟩:=hB;have htail:=Px hdeep;have hlen' :k<=l.length:=Nat.le_of_ble_eq_true hlen;have hw1:=walk hmr a0 {w with drawn:=w.drawn+1} ⟨ha.1,ha.2.drew _⟩;obtain⟨vs,hvl,hK,hstep⟩:=Nx hw1;have hvk:vs.length=k:=by rw[hvl];simp;omega
 have hseq:=Sk (a0:=a0) (vs:=vs) (l:=l) ha.1.1 hsl hlen' hvk
 let Free:(Nat->Bool)->Act->World->Prop:=λL a w' =>Down l L/\(∀i,k<=i->L i=false)/\w' ={w with drawn:=w.drawn+1}/\He l k n a0 vs L a
 let Inv:(Nat->Bool)->Act->World->Prop:=λL a w=>Free L a w∨∃i,k < i/\Down l L/\(∀j,L j=true↔j < i)/\Xd O P l.toArray (Z8 O P ks Q) (l.drop i) a w
 have hend0:∀L a w',(∀i,i < k->L i=true)->Free L a w'->Xd O P l.toArray (Z8 O P ks Q) (l.drop k) a w' :=by
  rintro L a w' hL ⟨_,hout,rfl,hc⟩
  have hLk:L=λj=>Nat.blt j k:=by
   funext j;rcases Nat.lt_or_ge j k with h | h
   ·rw[hL j h];exact(Nat.ble_eq_true_of_le h).symm
   ·rw[hout j h];cases hb:Nat.blt j k with
    | false=>rfl
    | true=>have:=Nat.le_of_ble_eq_true hb;omega
  have h2:=hseq k (Nat.le_refl _);rw[List.take_of_length_le (show(l.take k).length<=k by simp;omega),List.take_of_length_le (show vs.length<=k by omega)] at h2
  rw[hLk] at hc
  rw[hc.eq h2 (by omega) λj hj=>Nat.ble_eq_true_of_le hj];exact hK
 refine Wy hm Inv (λi o h e he hb=>by have:=XL hord i o (by simpa using h) e he hb;omega) ?_ ?_ ?_
 ·refine .inl ⟨λi o _ h=>(by cases h),λ_ _=>rfl,rfl,⟨ha.1.1,rfl,λj v t _ h=>(by cases h),λt _=>rfl⟩⟩
 ·intro L a w' i o ho hLi hdeps hI;have ho' :l[i]? =some o:=by simpa using ho
  have hil:i < l.length:=Zv ho';by_cases hi:i < k
  ·rcases hI with hF | ⟨k',hk,_,hL,_⟩
   case inr=>have:=(hL i).2 (by omega);rw[hLi] at this;cases this
   obtain⟨hdn,hout,rfl,hc⟩:=hF;have hot:(l.take k)[i]? =some o:=by rw[List.getElem?_take,if_pos hi];exact ho'
   have hmem:o∈l.take k:=List.mem_of_getElem? hot;have hoB:=hall o hmem;obtain⟨⟨hlk,hns⟩,hnd⟩:=hoB;have hv:vs[i]? =some vs[i]:=List.getElem?_eq_getElem (by omega);have hst:=hstep i o _ hot hv
   have hst' :Sx P l.toArray {w with drawn:=w.drawn+1} o vs[i] a:=hst.of_same hns λt ht=>by
    refine(hseq i (by omega)).same hc (by omega) λj hj e=> ?_;have h1:=List.all_eq_true.1 (List.all_eq_true.1 hlk t ht) j (List.mem_range.2 hj);rw[e] at h1
    simp only[Nat.beq_refl,Bool.not_true,Bool.false_or,List.any_eq_true,Bool.and_eq_true] at h1
    obtain⟨e',he',hb',hon⟩:=h1;have hon:e'.on=j:=Nat.eq_of_beq_eq_true hon;have hmem' :e'∈o.after:=by simpa using he'
    refine⟨?_,by rw[<-hon];exact hdeps e' hmem' hb'⟩;have:=XL hord i o ho' e' hmem' hb';exact Nat.ble_eq_true_of_le (show j+1<=i by omega)
   have hnext:Inv (Km L i) (a.put o.dst vs[i]) {w with drawn:=w.drawn+1}:=by
    refine .inl ⟨?_,?_,rfl,hc.put hsl hi ho' hv⟩
    ·intro j oj hoj hj e he hb
     have:L e.on=true:=by
      by_cases hji:j=i
      ·subst hji;rw[ho'] at hoj;cases hoj;exact hdeps e he hb
      ·exact hdn j oj hoj (by simpa[Km,hji] using hj) e he hb
     simp only[Km];split
     ·rfl
     ·exact this
    ·intro j hj;simp only[Km];rw[if_neg (by omega)];exact hout j hj
   rcases hst' with⟨h1,h2⟩ | ⟨h1,h2⟩
   ·rw[if_pos h1];refine⟨.inr hnd,?_⟩;rw[h2];exact hnext
   ·rw[if_neg (by simp[h1]),<-h2];exact hnext
  ·have hdnL:Down l L:=by
    rcases hI with hF | ⟨_,_,hd,_,_⟩
    ·exact hF.1
    ·exact hd
   have hallL:∀j,j < i->L j=true:=λj hj=>by
    obtain⟨s,hs⟩:=htail i o (by omega) ho' j hj;exact We hdnL hs λo' ho'' e he hb=>by rw[ho'] at ho'';cases ho'';exact hdeps e he hb
   have hdnU:Down l (Km L i):=λj oj hoj hj e he hb=>by
    have:L e.on=true:=by
     by_cases hji:j=i
     ·subst hji;rw[ho'] at hoj;cases hoj;exact hdeps e he hb
     ·exact hdnL j oj hoj (by simpa[Km,hji] using hj) e he hb
    simp only[Km];split
    ·rfl
    ·exact this
   have hw:Xd O P l.toArray (Z8 O P ks Q) (l.drop i) a w' :=by
    rcases hI with hF | ⟨k',hk,_,hL,hwp⟩
    ·have hiV:i=k:=by
      rcases Nat.lt_or_ge k i with h | h
      ·have:=hallL k h;rw[hF.2.1 _ (Nat.le_refl _)] at this;cases this
      ·omega
     subst hiV;exact hend0 L a w' hallL hF
    ·have:k' =i:=by
      have h1:¬i < k' :=λh=>by have:=(hL i).2 h;rw[hLi] at this;cases this
      have h2:¬k' < i:=λh=>by have:=(hL k').1 (hallL k' h);omega
      omega
     subst this;exact hwp
   have hdrop:l.drop i=o::l.drop (i+1):=by
    have hg:l[i]'hil=o:=by simpa[hil] using ho'
    rw[<-hg];exact List.drop_eq_getElem_cons hil
   rw[hdrop] at hw
   have hnext:∀a' w',Xd O P l.toArray (Z8 O P ks Q) (l.drop (i+1)) a' w'->Inv (Km L i) a' w' :=λa' w' h=>
    .inr ⟨i+1,by omega,hdnU,λj=>by
     simp only[Km];by_cases hj:j=i
     ·simp[hj]
     ·simp only[hj,if_false];constructor
      ·intro hLj
       have:j < i:=by
        rcases Nat.lt_or_ge j i with h | h
        ·exact h
        ·rcases hI with hF | ⟨k',hk,_,hL,_⟩
         ·rw[hF.2.1 j (by omega)] at hLj;cases hLj
         ·have h1:=(hL j).1 hLj;have:=(hL i).2 (by omega);rw[hLi] at this;cases this
       omega
      ·intro hj';exact hallL j (by omega),h⟩
   unfold Xd at hw
   split
   ·rename_i hwn;rw[if_pos hwn] at hw
    exact BC hnext hw
   ·rename_i hwn;rw[if_neg hwn] at hw
    exact hnext _ _ hw
 ·intro L a w' hallL hI
  have hw:Xd O P l.toArray (Z8 O P ks Q) (l.drop l.length) a w' :=by
   rcases hI with hF | ⟨k',hk,_,hL,hwp⟩
   ·have hVl:k=l.length:=by
     rcases Nat.lt_or_ge k l.length with h | h
     ·have:=hallL k (by simpa using h);rw[hF.2.1 _ (Nat.le_refl _)] at this;cases this
     ·omega
    have:=hend0 L a w' (λi hi=>hallL i (by simp;omega)) hF
    rwa[hVl] at this
   ·have:l.length<=k' :=by
     rcases Nat.lt_or_ge k' l.length with h | h
     ·have:=(hL k').1 (hallL k' (by simpa using h));omega
     ·exact h
    rw[List.drop_eq_nil_of_le this] at hwp
    rw[List.drop_eq_nil_of_le (Nat.le_refl _)];exact hwp
  rw[List.drop_eq_nil_of_le (Nat.le_refl _)] at hw
  exact hw
end
section
variable{β:Type}{P:Program}{ops:Array Oper}{rest l:List Oper}{E A A' :Act->World->Prop}{m:Option β}{r:β}
variable{n:Nat}{D:List Deferred}{S S' :List (Nat×Value)}{F F' :Fz}{hs hs' :List HP}
theorem GS.step{o:Oper}(hg:o.guard=none)(h:m=some r->∀a w,A a w->∃v,(execOp a.eval o).run P w= .ok (.value v) w/\wpS P ops w (λa' =>E a' w) rest (a.put o.dst v)):GS P ops (o::rest) E A m r:=by
 intro hm a w ha;obtain⟨v,h1,h2⟩:=h hm a w ha;unfold wpS;rw[if_pos (by simp[Region.wanted,hg])];exact⟨v,h1,h2⟩
def kR(n:Nat)(D:List Deferred)(d:Nat)(v:Value)(S:List (Nat×Value))(F:Fz)(hs:List HP):Act->World->Prop:=λa w=>∃F',F<=F'/\Hd n D ((d,v)::S) F' hs a w
theorem Ck{w:World}{K1 K2:Act->Prop}(l2:List Oper)(hq:∀a,K1 a->wpS P ops w K2 l2 a):∀(l1:List Oper) (a:Act),wpS P ops w K1 l1 a->wpS P ops w K2 (l1++l2) a
 | [],a,h=>hq a h
 | o::l1,a,h=>by
  simp only[List.cons_append];unfold wpS at h ⊢
  split
  ·rename_i hw;rw[if_pos hw] at h
   obtain⟨v,h1,h2⟩:=h;exact⟨v,h1,Ck l2 hq l1 _ h2⟩
  ·rename_i hw;rw[if_neg hw] at h
   exact Ck l2 hq l1 _ h
theorem GS.fin{S' :List (Nat×Value)}{d:Nat}{v:Value}{x:β}(j:Nat)(hv:Kw S' d=some v)(hd:S'.drop j=S)(hf:fresh S (S'.take j)=true)(le:F<=F'):GS P ops [] (kR n D d v S F hs) (Hd n D S' F' hs) (some x) x:=
 λ_ _ _ ha=>⟨F',le,ha.1.sub (Sub.cons hv (Gg j hd hf)),ha.2⟩
theorem GS.w5{S' :List (Nat×Value)}{d:Nat}{x z:Bool}(j:Nat)(hv:Kw S' d=some (.bool x))(hd:S'.drop j=S)(hf:fresh S (S'.take j)=true)(le:F<=F'):GS P ops [] (kR n D d (.bool z) S F hs) (Hd n D S' F' hs) (some x) z:=λe a w ha=>by
 simp only[Option.some.injEq] at e;subst e
 exact⟨F',le,ha.1.sub (Sub.cons hv (Gg j hd hf)),ha.2⟩
theorem GS.bh{α:Type}{m0:Option α}{f:α->Option β}(k d:Nat)(V:α->Value)(h:∀z,GS P ops (l.take k) (kR n D d (V z) S F hs) (Hd n D S F hs) m0 z)
  (next:∀z F',m0=some z->F<=F'->GS P ops (l.drop k) E (Hd n D ((d,V z)::S) F' hs) (f z) r):GS P ops l E (Hd n D S F hs) (m0.bind f) r:=by
 intro hm a w ha;cases hl:m0 with
 | none=>rw[hl] at hm;cases hm
 | some z=>
  rw[hl] at hm
  have h1:=h z hl a w ha
  have:=Ck (P:=P) (ops:=ops) (K2:=λa' =>E a' w) (l.drop k) (λa' hq=>by
   obtain⟨F',le,hq⟩:=hq;exact next z F' hl le hm a' w hq) (l.take k) a h1
  rwa[List.take_append_drop] at this
theorem GS.wC{O:Option Nat}{tl:List Oper}{ks:List Kt}{Q:Exit->Act->World->Prop}(h:GL O P ops tl ks Q A m r):GS P ops [] (Xd O P ops (Z8 O P ks Q) tl) A m r:=λhm a w ha=>h hm a w ha
end
section
section
variable{β:Type}{P:Program}{ops:Array Oper}{l rest:List Oper}{E:Act->World->Prop}{A A' :Act->World->Prop}{m:Option β}{r:β}
theorem GS.bind{α:Type}{e:Option α}{f:α->Option β}(h:∀y,e=some y->GS P ops l E A (f y) r):GS P ops l E A (e.bind f) r:=
 λhm=>by
  cases e with
  | none=>simp at hm
  | some y=>exact h y rfl hm
end
end
section
section
variable{β:Type}{P:Program}{ops:Array Oper}{rest:List Oper}{E:Act->World->Prop}{A:Act->World->Prop}{m:Option β}{r:β}
section
variable{n:Nat}{D:List Deferred}{S:List (Nat×Value)}{F:Fz}{hs:List HP}
theorem GS.on{dst:Option Tmp}{op:Op}{ty:TypeId}{pos:String}{after:Array Edge}{j t:Nat}{want:Bool}(hj:(ops[j]?).bind (·.dst)=some t)(hv:Kw S t=some (.bool want))
  (k:GS P ops (⟨dst,op,ty,pos,after,none⟩::rest) E (Hd n D S F hs) m r):GS P ops (⟨dst,op,ty,pos,after,some (j,want)⟩::rest) E (Hd n D S F hs) m r:=by
 intro hm a w ha;have h:=k hm a w ha;have hy:=SF (ops:=ops) hj ha.1 hv;unfold wpS at h ⊢
 rw[if_pos (by simp[Region.wanted])] at h
 rw[if_pos (by simp[Region.wanted,hy])];exact h
theorem GS.off{d:Nat}{op:Op}{ty:TypeId}{pos:String}{after:Array Edge}{j t:Nat}{want:Bool}{v:Value}(hd:Nat.blt d n=true)(hj:(ops[j]?).bind (·.dst)=some t)(hv:Kw S t=some v)(hx:Oi v want=true)
  (k:GS P ops rest E (Hd n D ((d,undef)::S) F hs) m r):GS P ops (⟨some d,op,ty,pos,after,some (j,want)⟩::rest) E (Hd n D S F hs) m r:=by
 intro hm a w ha
 have hy:yielded ops a.tmps j≠some want:=by
  have h:=ha.1.2.2 t _ hv;unfold yielded;rw[hj];simp only[Option.bind_some];simp only[Array.getD_eq_getD_getElem?] at h
  cases e:a.tmps[t]? with
  | none=>simp
  | some u=>
   rw[e] at h;simp at h;subst h
   cases u<;>simp[Oi] at hx ⊢
   exact hx
 unfold wpS;rw[if_neg (by simp[Region.wanted,hy])];exact k hm _ w ⟨ha.1.put hd _,ha.2⟩
theorem GS.val{d:Nat}{op:Op}{ty:TypeId}{pos:String}{after:Array Edge}{v:Value}(hd:Nat.blt d n=true)
  (hrun:∀a w,Hd n D S F hs a w->(execOp a.eval ⟨some d,op,ty,pos,after,none⟩).run P w= .ok (.value v) w)
  (k:GS P ops rest E (Hd n D ((d,v)::S) F hs) m r) (hnd:X0 op=true:=by rfl):GS P ops (⟨some d,op,ty,pos,after,none⟩::rest) E (Hd n D S F hs) m r:=
 have _:=hnd
 GS.step rfl λhm a w ha=>⟨v,hrun a w ha,k hm _ w ⟨ha.1.put hd v,ha.2⟩⟩
section
variable{d:Nat}{ty t t' :TypeId}{pos:String}{after:Array Edge}{ox oy oz:Operand}{v u:Value}{kd:IntKind}{x y:Int}
theorem GS.move(hd:Nat.blt d n=true)(hx:QK S ox=some v)(k:GS P ops rest E (Hd n D ((d,v)::S) F hs) m r):
  GS P ops (⟨some d,.move ox,ty,pos,after,none⟩::rest) E (Hd n D S F hs) m r:=
 GS.val hd (λa w ha=>by simp[execOp,ha.1.eval hx]) k
theorem GS.assign(hd:Nat.blt d n=true)(hx:QK S ox=some v)(k:GS P ops rest E (Hd n D ((d,v)::S) F hs) m r):
  GS P ops (⟨some d,.assign ox,ty,pos,after,none⟩::rest) E (Hd n D S F hs) m r:=
 GS.val hd (λa w ha=>by simp[execOp,ha.1.eval hx]) k
theorem GS.u9{f:Int->Option β}(hd:Nat.blt d n=true)(hx:QK S ox=some (.int kd x))(k:∀y,y=x->GS P ops rest E (Hd n D ((d,.int kd y)::S) F hs) (f y) r):
 GS P ops (⟨some d,.assign ox,ty,pos,after,none⟩::rest) E (Hd n D S F hs) (QV x f) r:=GS.assign hd hx (k x rfl)
theorem GS.xY(hd:Nat.blt d n=true)(hz:QK S oz=some (.bool true))(hx:QK S ox=some v)(k:GS P ops rest E (Hd n D ((d,v)::S) F hs) m r):
  GS P ops (⟨some d,.pick oz ox oy,ty,pos,after,none⟩::rest) E (Hd n D S F hs) m r:=
 GS.val hd (λa w ha=>by simp[execOp,ha.1.eval hx,ha.1.eval hz,asBool]) k
theorem GS.wi(hd:Nat.blt d n=true)(hz:QK S oz=some (.bool false))(hy:QK S oy=some v)(k:GS P ops rest E (Hd n D ((d,v)::S) F hs) m r):
  GS P ops (⟨some d,.pick oz ox oy,ty,pos,after,none⟩::rest) E (Hd n D S F hs) m r:=
 GS.val hd (λa w ha=>by simp[execOp,ha.1.eval hy,ha.1.eval hz,asBool]) k
theorem GS.add(hd:Nat.blt d n=true)(hx:QK S ox=some (.int kd x))(hy:QK S oy=some (.int kd y))(k:GS P ops rest E (Hd n D ((d,.int kd (kd.wrap (x+y)))::S) F hs) m r):
  GS P ops (⟨some d,.binOp .add t ox oy t',ty,pos,after,none⟩::rest) E (Hd n D S F hs) m r:=
 GS.val hd (λa w ha=>by simp[execOp,ha.1.eval hx,ha.1.eval hy,eqGuard,binOp,Op.intArith]) k
theorem GS.sub(hd:Nat.blt d n=true)(hx:QK S ox=some (.int kd x))(hy:QK S oy=some (.int kd y))(k:GS P ops rest E (Hd n D ((d,.int kd (kd.wrap (x - y)))::S) F hs) m r):
  GS P ops (⟨some d,.binOp .sub t ox oy t',ty,pos,after,none⟩::rest) E (Hd n D S F hs) m r:=
 GS.val hd (λa w ha=>by simp[execOp,ha.1.eval hx,ha.1.eval hy,eqGuard,binOp,Op.intArith]) k
theorem GS.mul(hd:Nat.blt d n=true)(hx:QK S ox=some (.int kd x))(hy:QK S oy=some (.int kd y))(k:GS P ops rest E (Hd n D ((d,.int kd (kd.wrap (x*y)))::S) F hs) m r):
  GS P ops (⟨some d,.binOp .mul t ox oy t',ty,pos,after,none⟩::rest) E (Hd n D S F hs) m r:=
 GS.val hd (λa w ha=>by simp[execOp,ha.1.eval hx,ha.1.eval hy,eqGuard,binOp,Op.intArith]) k
theorem GS.gI(hd:Nat.blt d n=true)(h0:y≠0)(hx:QK S ox=some (.int kd x))(hy:QK S oy=some (.int kd y))(k:GS P ops rest E (Hd n D ((d,.int kd (kd.wrap (x.tdiv y)))::S) F hs) m r):
  GS P ops (⟨some d,.binOp .quo t ox oy t',ty,pos,after,none⟩::rest) E (Hd n D S F hs) m r:=
 GS.val hd (λa w ha=>by simp[execOp,ha.1.eval hx,ha.1.eval hy,eqGuard,binOp,Op.intDiv,h0]) k
theorem GS.quo{f:Int->Option β}(hd:Nat.blt d n=true)(hx:QK S ox=some (.int kd x))(hy:QK S oy=some (.int kd y))(k:∀z,Gv kd x y=some z->GS P ops rest E (Hd n D ((d,.int kd z)::S) F hs) (f z) r):
  GS P ops (⟨some d,.binOp .quo t ox oy t',ty,pos,after,none⟩::rest) E (Hd n D S F hs) ((Gv kd x y).bind f) r:=
 GS.bind λz hz=>by
  have h0:y≠0:=λe=>by simp[Gv,e] at hz
  have:z=kd.wrap (x.tdiv y):=by simpa[Gv,h0] using hz.symm
  have hk:=k z hz;rw[this] at hk ⊢
  exact GS.gI hd h0 hx hy hk
theorem GS.lss(hd:Nat.blt d n=true)(hx:QK S ox=some (.int kd x))(hy:QK S oy=some (.int kd y))(k:GS P ops rest E (Hd n D ((d,.bool (decide (x < y)))::S) F hs) m r):
  GS P ops (⟨some d,.binOp .lss t ox oy t',ty,pos,after,none⟩::rest) E (Hd n D S F hs) m r:=
 GS.val hd (λa w ha=>by simp[execOp,ha.1.eval hx,ha.1.eval hy,eqGuard,binOp,Op.intCmp]) k
theorem GS.leq(hd:Nat.blt d n=true)(hx:QK S ox=some (.int kd x))(hy:QK S oy=some (.int kd y))(k:GS P ops rest E (Hd n D ((d,.bool (decide (x<=y)))::S) F hs) m r):
  GS P ops (⟨some d,.binOp .leq t ox oy t',ty,pos,after,none⟩::rest) E (Hd n D S F hs) m r:=
 GS.val hd (λa w ha=>by simp[execOp,ha.1.eval hx,ha.1.eval hy,eqGuard,binOp,Op.intCmp]) k
theorem GS.gtr(hd:Nat.blt d n=true)(hx:QK S ox=some (.int kd x))(hy:QK S oy=some (.int kd y))(k:GS P ops rest E (Hd n D ((d,.bool (decide (x > y)))::S) F hs) m r):
  GS P ops (⟨some d,.binOp .gtr t ox oy t',ty,pos,after,none⟩::rest) E (Hd n D S F hs) m r:=
 GS.val hd (λa w ha=>by simp[execOp,ha.1.eval hx,ha.1.eval hy,eqGuard,binOp,Op.intCmp]) k
theorem GS.geq(hd:Nat.blt d n=true)(hx:QK S ox=some (.int kd x))(hy:QK S oy=some (.int kd y))(k:GS P ops rest E (Hd n D ((d,.bool (decide (x≥y)))::S) F hs) m r):
  GS P ops (⟨some d,.binOp .geq t ox oy t',ty,pos,after,none⟩::rest) E (Hd n D S F hs) m r:=
 GS.val hd (λa w ha=>by simp[execOp,ha.1.eval hx,ha.1.eval hy,eqGuard,binOp,Op.intCmp]) k
theorem GS.not{b:Bool}(hd:Nat.blt d n=true)(hx:QK S ox=some (.bool b))(k:GS P ops rest E (Hd n D ((d,.bool (!b))::S) F hs) m r):
  GS P ops (⟨some d,.unOp .not t ox,ty,pos,after,none⟩::rest) E (Hd n D S F hs) m r:=
 GS.val hd (λa w ha=>by simp[execOp,ha.1.eval hx,Op.unary]) k
theorem GS.extract{i:Nat}{vs:Array Value}(hd:Nat.blt d n=true)(hx:QK S ox=some (.tuple vs))(hi:vs[i]? =some v)(k:GS P ops rest E (Hd n D ((d,v)::S) F hs) m r):
  GS P ops (⟨some d,.extract ox i,ty,pos,after,none⟩::rest) E (Hd n D S F hs) m r:=
 GS.val hd (λa w ha=>by simp[execOp,ha.1.eval hx,Instr.extract,hi]) k
theorem GS.build{fs:Array Field}{pl:Array (Nat×Nat)}{zc cs:Array Value}{z:Value}{parts:List (Nat×Operand)}{ps:List (Nat×Value)}(hd:Nat.blt d n=true)(ht:P.underlying t=some (.struct fs))(hz:∀w,(zeroValue t).run P w= .ok z w)(hpl:Places P fs pl)
  (hx:Sd S parts=some ps) (hc:z.cells=zc) (hi:Instr.fill (pl[·]?) zc ps=some cs) (k:GS P ops rest E (Hd n D ((d,.agg cs)::S) F hs) m r):
  GS P ops (⟨some d,.build t parts.toArray,ty,pos,after,none⟩::rest) E (Hd n D S F hs) m r:=
 GS.val hd (λa w ha=>by
  have hm:=FQ ha.1 hx;subst hc;simp only[execOp,Instr.build,Sem.run_bind,hz,Result.andThen,Je ht,hpl w];simp[hm,hi]) k
theorem GS.fieldAddr{i b o z:Nat}{fs:Array Field}{f:Field}(hd:Nat.blt d n=true)(ht:P.underlying t=some (.struct fs))(hf:fs[i]? =some f)(hz:∀w,(sizeOf f.type).run P w= .ok (z+1) w)
  (hx:QK S ox=some (.pointer (some ⟨b,o,none⟩))) (k:GS P ops rest E (Hd n D ((d,.pointer (some ⟨b,o+f.offset,none⟩))::S) F hs) m r):
  GS P ops (⟨some d,.fieldAddr t ox i,ty,pos,after,none⟩::rest) E (Hd n D S F hs) m r:=
 GS.val hd (λa w ha=>by simp[execOp,ha.1.eval hx,Instr.fieldAt,Je ht,hf,Instr.sureAddr,fieldPlace,hz,Uq]) k
theorem GS.uh{len e b o z j:Nat}(hd:Nat.blt d n=true)(ht:P.underlying t=some (.array len e))(hz:∀w,(sizeOf e).run P w= .ok z w)
  (hx:QK S ox=some (.pointer (some ⟨b,o,none⟩))) (hy:QK S oy=some (.int kd x)) (hj:YP len x=some j) (k:GS P ops rest E (Hd n D ((d,.pointer (some ⟨b,o+j*z,none⟩))::S) F hs) m r):
  GS P ops (⟨some d,.indexAddr t ox oy,ty,pos,after,none⟩::rest) E (Hd n D S F hs) m r:=
 GS.val hd (λa w ha=>by
  obtain⟨h0,h1,h2,_⟩:=Q4 hj;subst h2;simp[execOp,ha.1.eval hx,ha.1.eval hy,Instr.indexAt,asIntOf,Je ht,Instr.sureAddr,h0,h1,hz,Uq]) k
theorem GS.wz{len cap e b o z j:Nat}(hd:Nat.blt d n=true)(ht:P.underlying t=some (.slice e))(hz:∀w,(sizeOf e).run P w= .ok z w)
  (hx:QK S ox=some (.slice (some ⟨b,o,none⟩) len cap)) (hy:QK S oy=some (.int kd x)) (hj:YP len x=some j) (k:GS P ops rest E (Hd n D ((d,.pointer (some ⟨b,o+j*z,none⟩))::S) F hs) m r):
  GS P ops (⟨some d,.indexAddr t ox oy,ty,pos,after,none⟩::rest) E (Hd n D S F hs) m r:=
 GS.val hd (λa w ha=>by
  obtain⟨h0,h1,h2,_⟩:=Q4 hj;subst h2;simp[execOp,ha.1.eval hx,ha.1.eval hy,Instr.indexAt,asIntOf,Je ht,h0,h1,hz,Uq]) k
theorem GS.wI{e len cap:Nat}{p:Option Addr}{T:Array TypeId}(hd:Nat.blt d n=true)(hT:T[0]? =some t)(ht:P.underlying t=some (.slice e))(hx:QK S ox=some (.slice p len cap))(k:GS P ops rest E (Hd n D ((d,.int .i64 len)::S) F hs) m r):
  GS P ops (⟨some d,.call ⟨.builtin .len,#[ox],T⟩,ty,pos,after,none⟩::rest) E (Hd n D S F hs) m r:=
 GS.val hd (λa w ha=>by simp[execOp,resolve,invoke,builtin,Builtin.len_,ha.1.eval hx,hT,Je ht,goInt]) k
theorem GS.min2{T:Array TypeId}(hd:Nat.blt d n=true)(hx:QK S ox=some (.int kd x))(hy:QK S oy=some (.int kd y))(k:GS P ops rest E (Hd n D ((d,.int kd (if y < x then y else x))::S) F hs) m r):
  GS P ops (⟨some d,.call ⟨.builtin .min,#[ox,oy],T⟩,ty,pos,after,none⟩::rest) E (Hd n D S F hs) m r:=
 GS.val hd (λa w ha=>by simp[execOp,resolve,invoke,builtin,Builtin.min_,Builtin.min2,ha.1.eval hx,ha.1.eval hy]) k
theorem GS.max2{T:Array TypeId}(hd:Nat.blt d n=true)(hx:QK S ox=some (.int kd x))(hy:QK S oy=some (.int kd y))(k:GS P ops rest E (Hd n D ((d,.int kd (if x < y then y else x))::S) F hs) m r):
  GS P ops (⟨some d,.call ⟨.builtin .max,#[ox,oy],T⟩,ty,pos,after,none⟩::rest) E (Hd n D S F hs) m r:=
 GS.val hd (λa w ha=>by simp[execOp,resolve,invoke,builtin,Builtin.max_,Builtin.max2,ha.1.eval hx,ha.1.eval hy]) k
end
end
end
end
section
section
variable{β:Type}{P:Program}{ops:Array Oper}{rest:List Oper}{E:Act->World->Prop}{m:Option β}{r:β}
variable{n:Nat}{D:List Deferred}{S:List (Nat×Value)}{F:Fz}{hs:List HP}
variable{d:Nat}{ty t t' :TypeId}{pos:String}{after:Array Edge}{ox oy oz:Operand}{v u:Value}{kd:IntKind}{x y:Int}
theorem GS.R{b o T:Nat}{cs:List Value}{fr:Nat×Nat}(hd:Nat.blt d n=true)(hA:∀w,(isAgg t).run P w= .ok false w)(hx:QK S ox=some (.pointer (some ⟨b,o,none⟩)))(hb:F.mem b=some (.cells cs.toArray T fr))(hv:cs[o]? =some v)
  (k:GS P ops rest E (Hd n D ((d,v)::S) F hs) m r):GS P ops (⟨some d,.load t ox,ty,pos,after,none⟩::rest) E (Hd n D S F hs) m r:=
 GS.val hd (λa w ha=>by simp[execOp,ha.1.eval hx,Xo hA (by rw[cell_of_heap (ha.2.frozen hb)];exact hv)]) k
theorem GS.j{b o T i:Nat}{cs:List Value}{fr:Nat×Nat}(hd:Nat.blt d n=true)(hA:∀w,(isAgg t).run P w= .ok false w)(hx:QK S ox=some (.pointer (some ⟨b,o,none⟩)))(hb:hs[i]? =some (pt b (.cells cs.toArray T fr)))(hv:cs[o]? =some v)
  (k:GS P ops rest E (Hd n D ((d,v)::S) F hs) m r):GS P ops (⟨some d,.load t ox,ty,pos,after,none⟩::rest) E (Hd n D S F hs) m r:=
 GS.val hd (λa w ha=>by simp[execOp,ha.1.eval hx,Xo hA (by rw[cell_of_heap (SH.wD hb ha.2)];exact hv)]) k
theorem GS.ux{b o T z i:Nat}{cs vs:List Value}{fr:Nat×Nat}(hd:Nat.blt d n=true)(hA:∀w,(isAgg t).run P w= .ok true w)(hz:∀w,(sizeOf t).run P w= .ok z w)(hx:QK S ox=some (.pointer (some ⟨b,o,none⟩)))(hb:hs[i]? =some (pt b (.cells cs.toArray T fr)))(hv:(cs.drop o).take z=vs)(hl:vs.length=z)
  (k:GS P ops rest E (Hd n D ((d,.agg vs.toArray)::S) F hs) m r):GS P ops (⟨some d,.load t ox,ty,pos,after,none⟩::rest) E (Hd n D S F hs) m r:=
 GS.val hd (λa w ha=>by simp[execOp,ha.1.eval hx,FG hA hz (SH.wD hb ha.2) hv hl]) k
end
end
section
section
variable{β:Type}{P:Program}{ops:Array Oper}{rest l:List Oper}{E:Act->World->Prop}{A:Act->World->Prop}{m:Option β}{r:β}
variable{n:Nat}{D:List Deferred}{S S0:List (Nat×Value)}{F F' :Fz}{hs:List HP}
theorem GS.andM{b:Bool}{m1:Option Bool}{f:Bool->Option β}(k d:Nat)
  (h1:b=true->∀z,GS P ops (l.take k) (kR n D d (.bool z) S F hs) (Hd n D S F hs) m1 z)
  (h2:b=false->GS P ops (l.take k) (kR n D d (.bool false) S F hs) (Hd n D S F hs) (some ()) ())
  (next:∀z F',F<=F'->GS P ops (l.drop k) E (Hd n D ((d,.bool z)::S) F' hs) (f z) r):GS P ops l E (Hd n D S F hs) ((if b then m1 else some false).bind f) r:=
 GS.bh k d (λz=>.bool z) (by
  intro z;cases hb:b with
  | true=>rw[if_pos rfl];exact h1 hb z
  | false=>rw[if_neg (by simp)];intro e;simp only[Option.some.injEq] at e;subst e;exact h2 hb rfl) (λz F' _ le=>next z F' le)
theorem GS.uk{dst:Option Tmp}{op:Op}{ty:TypeId}{pos:String}{after:Array Edge}{j t:Nat}{b want:Bool}(hb:b=want)(hj:(ops[j]?).bind (·.dst)=some t)(hv:Kw S t=some (.bool b))
  (k:GS P ops (⟨dst,op,ty,pos,after,none⟩::rest) E (Hd n D S F hs) m r):GS P ops (⟨dst,op,ty,pos,after,some (j,want)⟩::rest) E (Hd n D S F hs) m r:=
 GS.on hj (hb▸hv) k
theorem GS.I{d:Nat}{op:Op}{ty:TypeId}{pos:String}{after:Array Edge}{j t:Nat}{b want:Bool}(hb:b= !want)(hd:Nat.blt d n=true)(hj:(ops[j]?).bind (·.dst)=some t)(hv:Kw S t=some (.bool b))
  (k:GS P ops rest E (Hd n D ((d,undef)::S) F hs) m r):GS P ops (⟨some d,op,ty,pos,after,some (j,want)⟩::rest) E (Hd n D S F hs) m r:=
 GS.off hd hj hv (by subst hb;cases want<;>rfl) k
theorem GS.ui{d:Nat}{ty:TypeId}{pos:String}{after:Array Edge}{ox oy oz:Operand}{v:Value}{b:Bool}(hb:b=true)(hd:Nat.blt d n=true)(hz:QK S oz=some (.bool b))(hx:QK S ox=some v)(k:GS P ops rest E (Hd n D ((d,v)::S) F hs) m r):
 GS P ops (⟨some d,.pick oz ox oy,ty,pos,after,none⟩::rest) E (Hd n D S F hs) m r:=GS.xY hd (hb▸hz) hx k
theorem GS.uo{d:Nat}{ty:TypeId}{pos:String}{after:Array Edge}{ox oy oz:Operand}{v:Value}{b:Bool}(hb:b=false)(hd:Nat.blt d n=true)(hz:QK S oz=some (.bool b))(hy:QK S oy=some v)(k:GS P ops rest E (Hd n D ((d,v)::S) F hs) m r):
 GS P ops (⟨some d,.pick oz ox oy,ty,pos,after,none⟩::rest) E (Hd n D S F hs) m r:=GS.wi hd (hb▸hz) hy k
end
end
section
section
variable{β:Type}{P:Program}{ops:Array Oper}{rest:List Oper}{E:Act->World->Prop}{m:Option β}{r:β}
variable{n:Nat}{D:List Deferred}{S:List (Nat×Value)}{F:Fz}{hs:List HP}
variable{d:Nat}{ty t t' :TypeId}{pos:String}{after:Array Edge}{ox oy oz:Operand}{v u:Value}{kd:IntKind}{x y:Int}
theorem GS.gj{α:Type}{sz:Nat}{c:Kb α}{p:Option Addr}{cap e:Nat}{l:List α}{z:α}(hd:Nat.blt d n=true)(ht:P.underlying t=some (.slice e))(hz:∀w,(sizeOf e).run P w= .ok sz w)
  (hr:QH sz c F p cap l) (hx:QK S ox=some (.slice p l.length cap)) (hy:QK S oy=some (.int kd x)) (hi:Zc l x=some z)
  (k:∀b o T fr cs,F.mem b=some (.cells (List.toArray cs) T fr)->c F z ((cs.drop o).take sz)->GS P ops rest E (Hd n D ((d,.pointer (some ⟨b,o,none⟩))::S) F hs) m r):
  GS P ops (⟨some d,.indexAddr t ox oy,ty,pos,after,none⟩::rest) E (Hd n D S F hs) m r:=by
 obtain⟨h0,h1,h2⟩:=B6 hi;obtain⟨b,o,T,fr,cs,rfl,h3,h4⟩:=hr.at_ h2;have hj:YP l.length x=some x.toNat:=by unfold YP;rw[if_pos (by omega)]
 exact GS.wz hd ht hz hx hy hj (k b _ T fr cs h3 h4)
theorem GS.idx{α:Type}{sz:Nat}{c:Kb α}{p:Option Addr}{cap e:Nat}{l:List α}{f:α->Option β}(hd:Nat.blt d n=true)(ht:P.underlying t=some (.slice e))(hz:∀w,(sizeOf e).run P w= .ok sz w)
  (hr:QH sz c F p cap l) (hx:QK S ox=some (.slice p l.length cap)) (hy:QK S oy=some (.int kd x))
  (k:∀z b o T fr cs,Zc l x=some z->F.mem b=some (.cells (List.toArray cs) T fr)->c F z ((cs.drop o).take sz)->GS P ops rest E (Hd n D ((d,.pointer (some ⟨b,o,none⟩))::S) F hs) (f z) r):
  GS P ops (⟨some d,.indexAddr t ox oy,ty,pos,after,none⟩::rest) E (Hd n D S F hs) ((Zc l x).bind f) r:=
 GS.bind λz hi=>GS.gj hd ht hz hr hx hy hi (λb o T fr cs h1 h2=>k z b o T fr cs hi h1 h2)
theorem GS.wu{α:Type}{sz:Nat}{c:Kb α}{p:Option Addr}{cap e:Nat}{l:List α}{f:List α->Option β}(hd:Nat.blt d n=true)(ht:P.underlying t=some (.slice e))(hz:∀w,(sizeOf e).run P w= .ok sz w)
  (hr:QH sz c F p cap l) (hx:QK S ox=some (.slice p l.length cap)) (hy:QK S oy=some (.int kd x))
  (k:∀l' p' c',ZW l x l.length=some l'->QH sz c F p' c' l'->GS P ops rest E (Hd n D ((d,.slice p' l'.length c')::S) F hs) (f l') r):
  GS P ops (⟨some d,.slice t ox (some oy) none none,ty,pos,after,none⟩::rest) E (Hd n D S F hs) ((ZW l x l.length).bind f) r:=
 GS.bind λl' hl=>by
  have hl' :=hl;unfold ZW at hl
  split at hl
  ·rename_i h;simp only[Option.some.injEq] at hl
   have hcut:QH sz c F (p.map (·.add (x.toNat*sz))) (cap - x.toNat) l' :=by
    have:=hr.cut (lo:=x.toNat) (hi:=l.length) (cap' :=cap - x.toNat) (by omega) (Nat.le_refl _) (by have:=hr.1;omega) (by omega);simp only[Int.toNat_natCast] at hl
    rw[<-hl];exact this
   have hlen:l'.length=l.length - x.toNat:=by rw[<-hl];simp
   have hrep:QH sz c F (if cap=x.toNat then p else p.map (·.add (x.toNat*sz))) (cap - x.toNat) l' :=N8 (λh=>by
    have:l' =[]:=by
     have:=hcut.1;rw[<-h] at this;simp at this;exact this
    subst this;exact hcut.dW) hcut
   have hk:=k l' _ _ hl' hrep;rw[hlen] at hk
   refine GS.val hd (λa w ha=> ?_) hk;simp only[execOp,ha.1.eval hx,ha.1.eval hy,Option.map_some,Option.map_none,Sem.run_bind];rw[SM ht hz (by omega)];rfl
  ·cases hl
end
end
section
section
variable{β:Type}{P:Program}{ops:Array Oper}{rest:List Oper}{E:Act->World->Prop}{A:Act->World->Prop}{m:Option β}{r:β}
variable{n:Nat}{D:List Deferred}{S S0:List (Nat×Value)}{F F' :Fz}{hs:List HP}
theorem GS.nilCheck{d:Nat}{ty:TypeId}{pos:String}{after:Array Edge}{ox:Operand}{p:Addr}(hd:Nat.blt d n=true)(hx:QK S ox=some (.pointer (some p)))(k:GS P ops rest E (Hd n D ((d,.pointer (some p))::S) F hs) m r):
  GS P ops (⟨some d,.nilCheck ox,ty,pos,after,none⟩::rest) E (Hd n D S F hs) m r:=
 GS.val hd (λa w ha=>by simp[execOp,ha.1.eval hx]) k
end
end
section
section
variable{β:Type}{P:Program}{ops:Array Oper}{rest:List Oper}{E:Act->World->Prop}{m:Option β}{r:β}
variable{n:Nat}{D:List Deferred}{S:List (Nat×Value)}{F F0:Fz}{hs:List HP}
variable{d:Nat}{d' :Option Nat}{ty t e:TypeId}{pos:String}{after:Array Edge}{ox oy oz:Operand}{v:Value}
theorem GS.J{a:Addr}{p:Option Addr}(hp:p=some a)(hd:Nat.blt d n=true)(hx:QK S ox=some (.pointer p))(k:GS P ops rest E (Hd n D ((d,.pointer (some a))::S) F hs) m r):
  GS P ops (⟨some d,.nilCheck ox,ty,pos,after,none⟩::rest) E (Hd n D S F hs) m r:=by
 subst hp;exact GS.nilCheck hd hx k
section
variable{α:Type}{γ T j b o:Nat}{c:Kb α}{xs:List α}{x:α}
theorem GS.um{Φ:Value->Prop}(i:Nat)(hi:hs[i]? =some (Qw γ (Ud T c) F0 xs))(le0:F0<=F)(hb:VE γ F j b)(hel:xs[j]? =some x)(hd:Nat.blt d n=true)(hA:∀w,(isAgg t).run P w= .ok false w)
  (hx:QK S ox=some (.pointer (some ⟨b,o,none⟩))) (hg:∀vs,c F x vs->∃v,vs[o]? =some v/\Φ v) (k:∀v,Φ v->GS P ops rest E (Hd n D ((d,v)::S) F hs) m r):
  GS P ops (⟨some d,.load t ox,ty,pos,after,none⟩::rest) E (Hd n D S F hs) m r:=by
 refine GS.step rfl λhm a w ha=> ?_;obtain⟨vs,h1,h2⟩:=(ha.2.pull hi).xU hb hel;obtain⟨v,hv,hΦ⟩:=hg _ (h1 F le0);refine⟨v,?_,k v hΦ hm _ _ ⟨ha.1.put hd _,ha.2⟩⟩;simp[execOp,ha.1.eval hx,Xo hA (by rw[cell_of_heap h2];exact hv)]
end
section
variable{K V:Type}{ck:K->Value}{rv:Fz->V->Value->Prop}{γ j b:Nat}{xs:List (List (K×V))}{l l' :List (K×V)}{key:K}{val z:V}{kt vt:TypeId}
variable[BEq K][LawfulBEq K]
theorem GS.wk{p:Option Nat}{zv:Value}(i:Nat)(hi:hs[i]? =some (Qw γ (QU ck rv) F0 xs))(le0:F0<=F)(hb:VE γ F j b)(hp:p=some b)(hel:xs[j]? =some l)(hd:Nat.blt d n=true)(ht:P.underlying t=some (.map kt vt))(ok:Wm P kt ck)(hzv:∀w,(zeroValue vt).run P w= .ok zv w)(hz:rv F z zv)(hx:QK S ox=some (.map p))(hy:QK S oy=some (ck key))
  (k:∀v,rv F ((Qc l key).getD z) v->GS P ops rest E (Hd n D ((d,v)::S) F hs) m r):GS P ops (⟨some d,.lookup t ox oy false,ty,pos,after,none⟩::rest) E (Hd n D S F hs) m r:=by
 subst hp;refine GS.step rfl λhm a w ha=> ?_;obtain⟨es,c,l',hpm,hn,hb',hr,_⟩:=(ha.2.pull hi).xa hb hel;obtain⟨v,hv,hrun⟩:=Xn (key:=key) hb' hr le0 ht ok hzv hz false;rw[Vn hpm hn] at hv
 refine⟨v,?_,k v hv hm _ _ ⟨ha.1.put hd _,ha.2⟩⟩;simp[execOp,ha.1.eval hx,ha.1.eval hy,hrun]
end
end
end
section
variable{O:Option Nat}{β:Type}{P:Program}{ops:Array Oper}{rest:List Oper}{ks:List Kt}{Q:Exit->Act->World->Prop}{m:Option β}{r:β}{n:Nat}{D:List Deferred}{S:List (Nat×Value)}{F:Fz}{hs:List HP}{d:Nat}{ty:TypeId}{pos:String}{after:Array Edge}
theorem GL.wT{fn:Fn}{first caps:List Operand}{us vs:List Value}(hd:Nat.blt d n=true)(hx0:UC S first=some us)(hx:UC S caps=some vs)(k:GL O P ops rest ks Q (Hd n D ((d,.func fn us.toArray vs.toArray)::S) F hs) m r):
  GL O P ops (⟨some d,.makeFunc fn first.toArray caps.toArray,ty,pos,after,none⟩::rest) ks Q (Hd n D S F hs) m r:=
 GL.val hd (λa w ha=>by simp[execOp,Instr.makeFunc,Xu ha.1 hx,Xu ha.1 hx0]) k
end
end
section
def EG{α ρ:Type}(P:Program)(F:Fz)(f:FuncId)(caps:List Value)(arg:α->Fz->List Value->Prop)(Hs:Fz->ρ->List HP)(r0:ρ)(q:ρ×List α):Prop:=
 (∀args w,(callFunc f args).run P w= .ok (.enter f args) w)/\
 ∀(σ:Type) (ly:Nat) (Y:σ->Fz->HP) (Z:HP) (upd:ρ->σ) (y:α->σ->Option (σ×Bool)) (F1:Fz),F<=F1->Vk P ly F1 arg Y y->(∀r F',F1<=F'->∀m,Qj (Hs F' r++[Z]) m->Y (upd r) F' m)->
  Xe P f (.func (.yield ly) #[] #[]::caps).toArray F1 (Hs F1 r0++[Z]) (V0 y q.2 (upd q.1)) (λ_ _ _=>True) (λs' F' =>[Y s' F'])
theorem EG.mk'{α ρ:Type}{P:Program}{F:Fz}{f:FuncId}{caps:List Value}{arg:α->Fz->List Value->Prop}{Hs:Fz->ρ->List HP}{r0:ρ}{q:ρ×List α}(h1:∀args w,(callFunc f args).run P w= .ok (.enter f args) w)
  (h2:∀(σ:Type) (ly:Nat) (Y:σ->Fz->HP) (Z:HP) (upd:ρ->σ) (y:α->σ->Option (σ×Bool)) (F1:Fz),F<=F1->Vk P ly F1 arg Y y->(∀r F',F1<=F'->∀m,Qj (Hs F' r++[Z]) m->Y (upd r) F' m)->
   ∃m,Xe P f (.func (.yield ly) #[] #[]::caps).toArray F1 (Hs F1 r0++[Z]) m (λ_ _ _=>True) (λs' F' =>[Y s' F'])/\∀r,V0 y q.2 (upd q.1)=some r->m=some r):EG P F f caps arg Hs r0 q:=
 ⟨h1,λσ ly Y Z upd y F1 le hy hp r hr=>let⟨_,h,k⟩:=h2 σ ly Y Z upd y F1 le hy hp;h r (k r hr)⟩
section
variable{O:Option Nat}{β:Type}{P:Program}{ks:List Kt}{Q:Exit->Act->World->Prop}{m:Option β}{r:β}{n:Nat}{D:List Deferred}{S:List (Nat×Value)}{F:Fz}{hs:List HP}
theorem GC.bU{c:Code}{Hs:List HP}{Y:HP}(is:List Nat)(hi:K9 is hs=Hs)(hp:∀m,Qj Hs m->Y m)(k:GC O P c ks Q (Hd n D S F (Y::JN is hs)) m r):GC O P c ks Q (Hd n D S F hs) m r:=
 GC.xb (λ_ _ h=>⟨h.1,h.2.mono λ_ hm=>QX (λm hm=>hp m (hi▸hm)) (VZ (ks:=is) hm)⟩) k
variable{α τ ρ:Type}{g:Operand}{ps:List Tmp}{assign body:Code}{f:FuncId}{caps:List Value}{arg:α->Fz->List Value->Prop}
theorem GC.fN{q:ρ×List α}{bm:α->τ->Option τ}{k:τ->Option β}(Hs:Fz->ρ->List HP)(r0:ρ)(s0:ρ->τ)(is:List Nat)(I:τ->Fz->List HP->Prop)(hg:QK S g=some (.func (.func f) #[] caps.toArray))(hit:EG P F f caps arg Hs r0 q)(hps:(ps.all λp=>Nat.blt p n)=true)(harg:∀x F' vs,arg x F' vs->vs.length=ps.length)
  (hi:K9 is hs=Hs F r0) (hI:∀r F',F<=F'->I (s0 r) F' (Hs F' r++JN is hs))
  (round:∀l L F0 F1 x vs s ctl R hs',F<=F0->F0<=F1->arg x F1 vs->I s F0 hs'->GC (some l) P assign [] (BP P l body (RP l L I (fun(_:Empty) _ _=>False) F1 R (.next ctl))) (Hd n [] ((ps.zip vs).reverse++S) F1 (pt l (Un L)::R::hs')) (bm x s) ctl)
  (next:∀q' F0 F' s hs',F<=F0->F0<=F'->YI bm q.2 (s0 q.1)=some s->I s F0 hs'->GE none P ks Q (Hd n (U7 q' ::D) S F' (pt q' (.deferred (some []))::hs')) (k s) r):
  GC none P (.rangeFunc g ps.toArray assign body) ks Q (Hd n D S F hs) ((YI bm q.2 (s0 q.1)).bind k) r:=by
 intro hm a w ha;cases hl:YI bm q.2 (s0 q.1) with
 | none=>rw[hl] at hm;cases hm
 | some sf=>
  rw[hl] at hm
  refine wpIn_rangeFunc λfn _=> ?_
  let L:Loop:={state:=.ready,pending:=none,fn,tmps:=a.tmps,params:=ps.toArray,assign,body,defers:=w.heap.size}
  let J:Empty->Fz->List HP->Prop:=λ_ _ _=>False
  let Z:HP:=star (pt (w.heap.size+1) (Un L)) (Qj (JN is hs))
  have hw1:SH ((w.alloc (.deferred (some []))).alloc (.loop L)) F (star (Qj (Hs F r0++[Z])) (Qj [pt w.heap.size (.deferred (some []))])):=by
   have h1:=(ha.2.alloc (.deferred (some []))).alloc (.loop L);rw[World.size_alloc] at h1
   refine h1.mono λm hm=> ?_
   have h2:star (pt (w.heap.size+1) (Un L)) (star (pt w.heap.size (.deferred (some []))) (star (Qj (Hs F r0)) (Qj (JN is hs)))) m:=
    QR (λm hm=>QR (λm hm=>by have:=VZ (ks:=is) hm;rw[hi] at this;exact this) hm) hm
   have h3:=S2 (QR (λm hm=>Zd hm) (Zd h2));refine QX (λm hm=> ?_) (QR (λm hm=>Y5 hm) h3);exact K4 (QR (λm hm=>Y5 (p:=Z) hm) hm)
  have hY:Vk P (w.heap.size+1) F arg (yS F (w.heap.size+1) L I J) (IB (λx s=>(bm x s).map Vb.next)):=by
   refine TS (S' :=λvs=>(ps.zip vs).reverse++S) (assign:=assign) (body:=body) (λx F' vs hx=>by rw[harg x F' vs hx];simp[L]) rfl rfl (λvs _=>Bu hps ⟨ha.1.1,rfl,ha.1.2.2⟩) ?_;intro F0 F1 x vs s ctl R hs' h0 h1 hx hI hmm;cases hb:bm x s with
   | none=>rw[hb] at hmm;cases hmm
   | some s' =>
    rw[hb] at hmm
    simp only[Option.map_some,Option.some.injEq] at hmm
    subst hmm;exact round _ L F0 F1 x vs s s' R hs' h0 h1 hx hI hb
  have hpk:∀r F',F<=F'->∀m,Qj (Hs F' r++[Z]) m->yS F (w.heap.size+1) L I J (.next (s0 r)) F' m:=λr F' le m hm=>by
   refine⟨F',Hs F' r++JN is hs,le,Fz.le_refl _,hI r F' le,?_⟩;have h1:=Y6 hm
   have h2:star (Qj (Hs F' r)) Z m:=QR (λm hm=>by
    obtain⟨m1,_,_,s1,_,hp,_⟩:=hm;obtain⟨a1,a2,d,t1,t2,g1,g2⟩:=hp;exact⟨a1,a2,d,t1.trans s1,t2.trans s1,g1,g2⟩) h1
   exact QR (λm hm=>K4 hm) (Zd h2)
  have hc:=hit.2 _ _ _ Z (λr=>.next (s0 r)) _ F (Fz.le_refl F) hY hpk (.next sf) (by rw[GI,FI,hl];rfl) _ _ hw1;refine⟨w.heap.size+1,[U7 w.heap.size],(w.alloc (.deferred (some []))).alloc (.loop L),⟨.fn (.func f) caps.toArray,#[.func (.yield (w.heap.size+1)) #[] #[]]⟩,(w.alloc (.deferred (some []))).alloc (.loop L),f,(.func (.yield (w.heap.size+1)) #[] #[]::caps).toArray,(w.alloc (.deferred (some []))).alloc (.loop L),run_enterLoop_outer fn a.tmps ps.toArray assign body,?_,λ_ _=>trivial,?_,λe=>(by cases e),?_⟩
  ·have hc0:a.eval (.const (.func (.yield (w.heap.size+1)) #[] #[]))= .func (.yield (w.heap.size+1)) #[] #[]:=rfl;simp[resolve,Deferred.ofValue,ha.1.eval hg,hc0]
  ·simp[invoke,hit.1]
  ·refine callsIn_wide.2 (hc.mono ?_);rintro _ w' ⟨F',v,le,rfl, -,hw'⟩;have hw2:SH w' F' (star (yS F (w.heap.size+1) L I J (.next sf) F') (Qj [pt w.heap.size (.deferred (some []))])):=hw'.mono λm hm=>Us hm;obtain⟨F0,hs',h0,h1,hI',h3⟩:=SH.w7 hw2;refine⟨none,_,Bv (SH.wD (k:=0) rfl h3),?_⟩;have h4:SH _ F' (Qj (pt w.heap.size (.deferred (some []))::hs')):=(SH.wW 0 (SH.putAt (k:=0) rfl h3 (Az L none))).mono λm hm=>Us hm;exact next w.heap.size F0 F' sf hs' h0 h1 hl hI' hm _ _ ⟨⟨ha.1.1,by simp[ha.1.2.1],ha.1.2.2⟩,h4⟩
end
end
section
variable{O:Option Nat}
section
variable{K V:Type}
def zP(ck:K->Value)(rv:Fz->V->Value->Prop)(F:Fz)(b it:Nat)(M todo:List (K×V))(cur:Option (K×V)):HP:=λm=>∃(es:Array MapEntry) (clock:Nat) (l' :List (K×V)) (seen:Array Nat) (last:Nat),
 star (pt b (.map es clock)) (pt it (.mapIter (some b) clock seen last)) m/\UB ck rv F es.toList l'/\J3 es.toList clock/\(seen.isEmpty=false->last=clock)/\
 todo.Perm (((es.toList.zip l').filter (λz=> !seen.contains z.1.born)).map Prod.snd)/\l'.Perm M/\(M.map Prod.fst).Nodup/\
 ∀x,cur=some x->∃z∈es.toList.zip l',z.2=x/\seen.back? =some z.1.born
def Yn(γ:Nat)(ck:K->Value)(rv:Fz->V->Value->Prop)(F:Fz)(j b it:Nat)(xs:List (List (K×V)))(todo:List (K×V))(cur:Option (K×V)):HP:=λm=>∃M,xs[j]? =some M/\star (zP ck rv F b it M todo cur) (hole γ (QU ck rv) F j b xs) m
variable{ck:K->Value}{rv:Fz->V->Value->Prop}{F F0:Fz}{w:World}{H:HP}{b it γ j:Nat}{M todo:List (K×V)}{cur:Option (K×V)}{xs:List (List (K×V))}
theorem Wc(h:SH w F (star (Yn γ ck rv F0 j b it xs todo cur) H)):∃(M:List (K×V)) (es:Array MapEntry) (clock:Nat) (l' :List (K×V)) (seen:Array Nat) (last:Nat),xs[j]? =some M/\
  w.heap[b]? =some (.map es clock)/\w.heap[it]? =some (.mapIter (some b) clock seen last)/\SH w F (star (pt it (.mapIter (some b) clock seen last)) (star (pt b (.map es clock)) (star (hole γ (QU ck rv) F0 j b xs) H)))/\UB ck rv F0 es.toList l'/\J3 es.toList clock/\(seen.isEmpty=false->last=clock)/\
  todo.Perm (((es.toList.zip l').filter (λz=> !seen.contains z.1.born)).map Prod.snd)/\l'.Perm M/\(M.map Prod.fst).Nodup/\∀x,cur=some x->∃z∈es.toList.zip l',z.2=x/\seen.back? =some z.1.born:=by
 obtain⟨m,⟨m1,m2,d,s1,s2,⟨M,hM,hA⟩,hq⟩,k⟩:=h;have h1:=WQ ⟨m1,m2,d,s1,s2,hA,hq⟩;obtain⟨m3,m4,d',t1,t2,⟨es,c,l',seen,last,h2,h3⟩,hq'⟩:=h1;have hs:SH w F (star (pt b (.map es c)) (star (pt it (.mapIter (some b) c seen last)) (star (hole γ (QU ck rv) F0 j b xs) H))):=⟨m,WQ ⟨m3,m4,d',t1,t2,h2,hq'⟩,k⟩;have hs' :SH w F (star (pt it (.mapIter (some b) c seen last)) (star (pt b (.map es c)) (star (hole γ (QU ck rv) F0 j b xs) H))):=hs.mono λm hm=>Zd hm;exact⟨M,es,c,l',seen,last,hM,hs.owned,hs'.owned,hs',h3⟩
theorem Xa{es:Array MapEntry}{clock:Nat}{l' :List (K×V)}{seen:Array Nat}{last:Nat}(hM:xs[j]? =some M)(h:SH w F (star (pt it (.mapIter (some b) clock seen last)) (star (pt b (.map es clock)) (star (hole γ (QU ck rv) F0 j b xs) H))))
  (h1:UB ck rv F0 es.toList l') (h2:J3 es.toList clock) (h3:seen.isEmpty=false->last=clock) (h4:todo.Perm (((es.toList.zip l').filter (λz=> !seen.contains z.1.born)).map Prod.snd)) (h5:l'.Perm M) (h6:(M.map Prod.fst).Nodup) (h7:∀x,cur=some x->∃z∈es.toList.zip l',z.2=x/\seen.back? =some z.1.born):
  SH w F (star (Yn γ ck rv F0 j b it xs todo cur) H):=h.mono λm hm=>by
 have hm1:=Vm (Zd hm);have hm2:=Vm hm1;exact QX (λm hm=>⟨M,hM,QX (λm hm=>⟨es,clock,l',seen,last,hm,h1,h2,h3,h4,h5,h6,h7⟩) hm⟩) hm2
theorem Iw{C:Fz->Nat->List (K×V)->HP}{y:List (K×V)}(h:SH w F (star (hole γ C F0 j b xs) H)):SH w F (star (hole γ C F0 j b (xs.set j y)) H):=
 h.mono λm hm=>QX (λm ⟨bs,h1,h2,h3⟩=>⟨bs,by simpa using h1,h2,by rw[<-TQ (f:=C F0) h2,List.eraseIdx_set_eq];exact h3⟩) hm
theorem Iv(le:F0<=F)(hb:VE γ F j b)(h:SH w F (star (Yn γ ck rv F0 j b it xs todo cur) H)):SH w F (star (Yn γ ck rv F j b it xs todo cur) H):=by
 obtain⟨M,es,c,l',seen,last,hM,_,_,hs,h1,h2,h3,h4,h5,h6,h7⟩:=Wc h;refine Xa hM ?_ (h1.up le) h2 h3 h4 h5 h6 h7;have hh:SH w F (star (hole γ (QU ck rv) F0 j b xs) (star (pt it (.mapIter (some b) c seen last)) (star (pt b (.map es c)) H))):=hs.mono λm hm=>Zd (QR (λm hm=>Zd hm) hm);exact(hh.dK XV le hb).mono λm hm=>QR (λm hm=>Zd hm) (Zd hm)
theorem Lf(h:SH w F (star (Yn γ ck rv F0 j b it xs [] cur) H)):SH w F (star (Qw γ (QU ck rv) F0 xs) H):=by
 obtain⟨M,es,c,l',seen,last,hM,_,_,hs,h1,h2,h3,h4,h5,h6,h7⟩:=Wc h;have hs1:SH w F (star (QU ck rv F0 b M) (star (hole γ (QU ck rv) F0 j b xs) H)):=hs.drop.mono λm hm=>QX (λm hm=>⟨l',h5,h6,es,c,hm,h1,h2⟩) hm;have:=SH.gQ XV (Fz.le_refl _) hs1 (List.getElem?_eq_some_iff.1 hM).1;rw[<-D5 hM] at this;exact this
variable[BEq K][LawfulBEq K]
omit [LawfulBEq K] in
theorem UB.be{kd:TypeDesc}{k:K}(hk:∀a b,Instr.sameNow kd (ck a) (ck b)=some (a==b)):
  ∀{es:List MapEntry} {l:List (K×V)} (i0:Nat),UB ck rv F es l->
   (Instr.findNow kd (ck k) es i0=some none/\Jj l k=l/\∀x∈l,(k==x.1)=false)∨
   (∃i e x,Instr.findNow kd (ck k) es i0=some (some (i0+i,e))/\i < es.length/\UB ck rv F (es.eraseIdx i) (Jj l k)/\Jj l k=l.eraseIdx i/\l[i]? =some x/\(k==x.1)=true)
 | [],[],_,_=>.inl ⟨rfl,rfl,λ_ h=>by cases h⟩
 | e::es,x::l,i0,⟨h1,h2,h3⟩=>by
  by_cases hb:(k==x.1)=true
  ·right;refine⟨0,e.val,x,by simp[Instr.findNow,h1,hk,hb],by simp,?_,by simp[Jj,hb],rfl,hb⟩;simp only[Jj,hb,if_true,List.eraseIdx_cons_zero];exact h3
  ·have hb' :(k==x.1)=false:=by simpa using hb
   rcases UB.be (k:=k) hk (i0+1) h3 with⟨g1,g2,g3⟩ | ⟨i,e1,y,g1,g2,g3,g4,g5,g6⟩
   ·left;refine⟨by simp[Instr.findNow,h1,hk,hb',g1],by simp[Jj,hb',g2],λz hz=> ?_⟩;rcases List.mem_cons.1 hz with rfl | hz
    ·exact hb'
    ·exact g3 z hz
   ·right;refine⟨i+1,e1,y,by simp[Instr.findNow,h1,hk,hb',g1];omega,by simpa using g2,?_,by simp[Jj,hb',g4],by simpa using g5,g6⟩;simp only[Jj,hb',Bool.false_eq_true,if_false,List.eraseIdx_cons_succ];exact⟨h1,h2,g3⟩
theorem Ry{α β:Type}:∀{es:List α} {l:List β} {i:Nat},(es.eraseIdx i).zip (l.eraseIdx i)=(es.zip l).eraseIdx i
 | [],_,_=>by simp
 | _::_,[],_=>by simp
 | _::_,_::_,0=>rfl
 | _::es,_::l,i+1=>by simp[Ry (es:=es) (l:=l)]
theorem Sb{α:Type}{p:α->Bool}:∀{l:List α} {i:Nat} {x:α},l[i]? =some x->p x=false->(l.eraseIdx i).filter p=l.filter p
 | [],_,_,h,_=>by simp at h
 | y::l,0,x,h,hp=>by simp at h;subst h;simp[hp]
 | y::l,i+1,x,h,hp=>by
  simp only[List.getElem?_cons_succ] at h
  simp only[List.eraseIdx_cons_succ,List.filter_cons,Sb h hp]
omit [BEq K] [LawfulBEq K] in
theorem Pl:∀{l:List (K×V)} {x y:K×V},(l.map Prod.fst).Nodup->x∈l->y∈l->x.1=y.1->x=y
 | [],_,_,_,h,_,_=>by cases h
 | z::l,x,y,hn,hx,hy,e=>by
  simp only[List.map_cons,List.nodup_cons] at hn
  rcases List.mem_cons.1 hx with rfl | hx1<;>rcases List.mem_cons.1 hy with rfl | hy1
  ·rfl
  ·exact absurd (List.mem_map_of_mem (f:=Prod.fst) hy1) (by rw[<-e];exact hn.1)
  ·exact absurd (List.mem_map_of_mem (f:=Prod.fst) hx1) (by rw[e];exact hn.1)
  ·exact Pl hn.2 hx1 hy1 e
end
section
variable{β:Type}{P:Program}{ops:Array Oper}{rest:List Oper}{ks:List Kt}{Q:Exit->Act->World->Prop}{m:Option β}{r:β}
variable{n:Nat}{D:List Deferred}{S:List (Nat×Value)}{F F0:Fz}{hs:List HP}{d:Nat}{d' :Option Nat}{ty t kt vt:TypeId}{pos:String}{after:Array Edge}{ox oy:Operand}{cd:Code}
variable{K V:Type}{ck:K->Value}{rv:Fz->V->Value->Prop}{b it γ j i' :Nat}{l todo:List (K×V)}{cur:Option (K×V)}{xs:List (List (K×V))}
theorem GL.dp{p:Option Nat}(i:Nat)(hi:hs[i]? =some (Qw γ (QU ck rv) F0 xs))(hb:VE γ F j b)(hp:p=some b)(hel:xs[j]? =some l)(hd:Nat.blt d n=true)(ht:P.underlying t=some (.map kt vt))(hx:QK S ox=some (.map p))
  (k:∀it,(l.map Prod.fst).Nodup->GL O P ops rest ks Q (Hd n D ((d,.pointer (some ⟨it,0,none⟩))::S) F (hs.set i (Yn γ ck rv F0 j b it xs l none))) m r):
  GL O P ops (⟨some d,.range t ox,ty,pos,after,none⟩::rest) ks Q (Hd n D S F hs) m r:=by
 subst hp;refine GL.step rfl (.inr rfl) λhm a w ha=> ?_;have h0:=(ha.2.pull hi).xe hb hel;obtain⟨es,c,l',hpm,hn,hh,hr,hsh,hbi⟩:=Ui h0;refine⟨.pointer (some ⟨w.heap.size,0,none⟩),w.alloc (.mapIter (some b) c #[] c),?_,k w.heap.size hn hm _ _ ⟨ha.1.put hd _,?_⟩⟩
 ·simp[execOp,Instr.range,ha.1.eval hx,Je ht,J4 hh]
 ·have h1:=hsh.alloc (.mapIter (some b) c #[] c);refine SH.push hi (Xa hel h1 hr hbi (λh=>by simp at h) ?_ hpm hn (λ_ h=>by cases h))
  have e:((es.toList.zip l').filter (λz=> !(#[]:Array Nat).contains z.1.born))=es.toList.zip l' :=by
   rw[List.filter_eq_self];intro z _;simp
  rw[e,hr.wV.1];exact hpm.symm
theorem GL.du{pt' :Option Addr}(i:Nat)(hi:hs[i]? =some (Yn γ ck rv F0 j b it xs [] cur))(hp:pt' =some ⟨it,0,none⟩)(hd:Nat.blt d n=true)(hx:QK S ox=some (.pointer pt'))
  (k:GL O P ops rest ks Q (Hd n D ((d,.tuple #[.bool false])::S) F hs) m r):
  GL O P ops (⟨some d,.next ox false,ty,pos,after,none⟩::rest) ks Q (Hd n D S F hs) m r:=by
 subst hp;refine GL.step rfl (.inr rfl) λhm a w ha=> ?_;obtain⟨M,es,c,l',seen,last,_,hb,hit,_,hr,hbi,hl,ht,_⟩:=Wc (ha.2.pull hi);obtain⟨k',hk'⟩:=(SO (P:=P) (ty:=ty) hb hit hr hbi hl ht).1 rfl;refine⟨_,{w with drawn:=k'},?_,k hm _ _ ⟨ha.1.put hd _,ha.2.drew _⟩⟩;simp[execOp,ha.1.eval hx,hk']
theorem GL.dt{pt' :Option Addr}(i:Nat)(hi:hs[i]? =some (Yn γ ck rv F0 j b it xs todo cur))(hne:todo≠[])(hp:pt' =some ⟨it,0,none⟩)(hd:Nat.blt d n=true)(hx:QK S ox=some (.pointer pt'))
  (k:∀x rest' v,(x::rest').Perm todo->(∀F',F0<=F'->rv F' x.2 v)->GL O P ops rest ks Q (Hd n D ((d,.tuple #[.bool true,ck x.1,v])::S) F (hs.set i (Yn γ ck rv F0 j b it xs rest' (some x)))) m r):
  GL O P ops (⟨some d,.next ox false,ty,pos,after,none⟩::rest) ks Q (Hd n D S F hs) m r:=by
 subst hp;refine GL.step rfl (.inr rfl) λhm a w ha=> ?_;obtain⟨M,es,c,l',seen,last,hM,hb,hit,hsh,hr,hbi,hl,ht,hpm,hnM,_⟩:=Wc (ha.2.pull hi);obtain⟨z,hz,hseen,k',hk'⟩:=(SO (P:=P) (ty:=ty) hb hit hr hbi hl ht).2 hne;obtain⟨hkey,hval⟩:=hr.xM hz;have hnd:=Sv hbi hr;have hsp:=Hk (p:=λy:MapEntry×(K×V)=> !seen.contains y.1.born) hnd hz (by simp only[hseen,Bool.not_false])
 have e1:∀y:MapEntry×(K×V),(!(seen.push z.1.born).contains y.1.born)=(!seen.contains y.1.born&& !(y.1.born==z.1.born)):=λy=>by
  rw[Array.contains_push,Bool.not_or]
 refine⟨_,put {w with drawn:=k'} it (.mapIter (some b) c (seen.push z.1.born) c),?_,k z.2 (((es.toList.zip l').filter (λy=> !(seen.push z.1.born).contains y.1.born)).map Prod.snd) z.1.val ?_ hval hm _ _ ⟨by rw[<-hkey];exact ha.1.put hd _,SH.push hi (Xa hM ((hsh.drew _).put (o' :=.mapIter (some b) c (seen.push z.1.born) c)) hr hbi (λ_=>rfl) (.refl _) hpm hnM (λx hx=> ?_))⟩⟩
 ·simp[execOp,ha.1.eval hx,hk']
 ·refine List.Perm.trans ?_ ht.symm;have:=(hsp.map Prod.snd).symm;simp only[List.map_cons] at this
  refine List.Perm.trans (.of_eq ?_) this;congr 2;exact List.filter_congr λy _=>e1 y
 ·simp only[Option.some.injEq] at hx
  exact⟨z,hz,hx,by simp⟩
theorem GL.bC{pt' :Option Addr}{x:K×V}(i:Nat)(hi:hs[i]? =some (Yn γ ck rv F0 j b it xs todo (some x)))(hp:pt' =some ⟨it,0,none⟩)(hd:Nat.blt d n=true)(hx:QK S ox=some (.pointer pt'))
  (k:∀v,(∀F',F0<=F'->rv F' x.2 v)->GL O P ops rest ks Q (Hd n D ((d,.tuple #[ck x.1,v])::S) F hs) m r):
  GL O P ops (⟨some d,.entry ox,ty,pos,after,none⟩::rest) ks Q (Hd n D S F hs) m r:=by
 subst hp;refine GL.step rfl (.inr rfl) λhm a w ha=> ?_;obtain⟨M,es,c,l',seen,last,hM,hb,hit,hsh,hr,hbi,hl,ht,hpm,hnM,hlast⟩:=Wc (ha.2.pull hi);obtain⟨z,hz,hzx,hback⟩:=hlast x rfl;obtain⟨hkey,hval⟩:=hr.xM hz;subst hzx
 have hne:seen.isEmpty=false:=by
  cases h:seen.isEmpty with
  | false=>rfl
  | true=>
   have:seen=#[]:=by simpa using h
   subst this;simp at hback
 have hlc:=hl hne;subst hlc
 have hfind:es.find? (λe=>e.born==z.1.born)=some z.1:=by
  have hmem:z.1∈es.toList:=by rw[<-hr.wV.2];exact List.mem_map_of_mem hz
  have hnd:(es.toList.map (·.born)).Nodup:=hbi.1.imp λh=>Nat.ne_of_lt h
  have:es.toList.find? (λe=>e.born==z.1.born)=some z.1:=by
   clear hb hit hr hbi ht hpm hlast hz hval hkey hsh hback hl
   generalize es.toList=L at hmem hnd
   induction L with
   | nil=>cases hmem
   | cons y L ih=>
    simp only[List.map_cons,List.nodup_cons] at hnd
    rcases List.mem_cons.1 hmem with e | e
    ·rw[List.find?_cons,<-e];simp
    ·have:(y.born==z.1.born)=false:=by
      cases hbb:y.born==z.1.born with
      | false=>rfl
      | true=>exact absurd (List.mem_map_of_mem (f:=(·.born)) e) (by rw[<-(beq_iff_eq.1 hbb:y.born=z.1.born)];exact hnd.1)
     rw[List.find?_cons,this];exact ih e hnd.2
  simpa using this
 refine⟨_,w,?_,k z.1.val hval hm _ _ ⟨by rw[<-hkey];exact ha.1.put hd _,ha.2⟩⟩;simp[execOp,Instr.entry,ha.1.eval hx,B8 hit,J4 hb,hback,hfind]
def vd(a b:Nat):Option Unit:=if a=b then some () else none
theorem zq{a b:Nat}{u:Unit}(h:vd a b=some u):a=b:=by
 unfold vd at h;split at h
 ·assumption
 ·cases h
theorem VE.one{c:Nat}(h:VE γ F j b)(h' :VE γ F i' c)(e:i' =j):c=b:=by
 subst e;have:=h.2.symm.trans h'.2;simp at this;exact this.symm
theorem GL.dP[BEq K][LawfulBEq K]{p:Option Nat}{c:Nat}{x:K×V}{xs' :List (List (K×V))}{T:Array TypeId}(i:Nat)(hi:hs[i]? =some (Yn γ ck rv F0 j b it xs todo (some x)))(hb:VE γ F j b)(hc:VE γ F i' c)(hij:i' =j)(hp:p=some c)(hel:xs[i']? =some l)(hd:∀e,d' =some e->Nat.blt e n=true)(hT:T[0]? =some t)(ht:P.underlying t=some (.map kt vt))(ok:Wm P kt ck)(hx:QK S ox=some (.map p))(hy:QK S oy=some (ck x.1))(he:xs' =xs.set i' (Jj l x.1))
  (k:GL O P ops rest ks Q (Hd n D (match d' with | some e=>(e,.tuple #[])::S | none=>S) F (hs.set i (Yn γ ck rv F0 j b it xs' todo none))) m r):GL O P ops (⟨d',.call ⟨.builtin .delete,#[ox,oy],T⟩,ty,pos,after,none⟩::rest) ks Q (Hd n D S F hs) m r:=by
 obtain rfl:=hb.one hc hij;subst hp;subst he;subst hij;refine GL.step rfl (.inr rfl) λhm a w ha=> ?_;obtain⟨M,es,clock,l',seen,last,hM,hbb,hit,hsh,hr,hbi,hl,htd,hpm,hnM,hlast⟩:=Wc (ha.2.pull hi);obtain rfl:M=l:=by rw[hM] at hel;simpa using hel
 obtain⟨z,hz,hzx,hback⟩:=hlast x rfl;obtain⟨kd,hu,hsame⟩:=ok.und;have hnl:(l'.map Prod.fst).Nodup:=(hpm.map _).nodup_iff.2 hnM;have hxl:x∈l' :=by rw[<-hr.wV.1,<-hzx];exact List.mem_map_of_mem hz
 rcases hr.be (k:=x.1) hsame 0 with⟨_,_,g3⟩ | ⟨q,e1,y,g1,g2,g3,g4,g5,g6⟩
 ·have:=g3 x hxl;simp at this
 ·have hj:q < es.size:=by simpa using g2
  have hf:=run_findKey (w:=w) hu g1;rw[Nat.zero_add] at hf
  have hyx:y=x:=Pl hnl (List.mem_of_getElem? g5) hxl (by simpa using(beq_iff_eq.1 g6).symm);subst hyx;have hes:(es.eraseIdxIfInBounds q).toList=es.toList.eraseIdx q:=by simp[Array.eraseIdxIfInBounds,hj]
  obtain⟨e2,he2⟩:∃e2,es.toList[q]? =some e2:=⟨_,List.getElem?_eq_getElem g2⟩;have hzq:(es.toList.zip l')[q]? =some (e2,y):=by rw[List.getElem?_zip_eq_some];exact⟨he2,g5⟩
  have hz2:z=(e2,y):=by
   obtain⟨q',hq',ez⟩:=List.getElem_of_mem hz;have hq2:(es.toList.zip l')[q']? =some z:=by rw[List.getElem?_eq_getElem hq',ez]
   have h1:=(List.getElem?_zip_eq_some.1 hq2).2;have hpw:=List.pairwise_iff_getElem.1 hnl;have hq1:q < l'.length:=(List.getElem?_eq_some_iff.1 g5).1;have hq1' :q' < l'.length:=(List.getElem?_eq_some_iff.1 h1).1;have a1:l'[q]=y:=(List.getElem?_eq_some_iff.1 g5).2;have a2:l'[q']=y:=by rw[(List.getElem?_eq_some_iff.1 h1).2,hzx]
   have:q' =q:=by
    rcases Nat.lt_trichotomy q' q with h | h | h
    ·exact absurd (by rw[List.getElem_map,List.getElem_map,a1,a2]) (hpw q' q (by simpa using hq1') (by simpa using hq1) h)
    ·exact h
    ·exact absurd (by rw[List.getElem_map,List.getElem_map,a1,a2]) (hpw q q' (by simpa using hq1) (by simpa using hq1') h)
   subst this;rw[hq2] at hzq;simpa using hzq
  have hseen:seen.contains e2.born=true:=by
   have:=hback;rw[hz2] at this
   simp only at this
   rw[Array.contains_iff_mem];exact Array.mem_of_back? this
  refine⟨.tuple #[],Dec.put w c (.map (es.eraseIdxIfInBounds q) clock),?_,k hm _ _ ⟨?_,SH.push hi ?_⟩⟩
  ·have:(Builtin.delete_ T ty #[.map (some c),ck y.1]).run P w= .ok (.tuple #[]) (Dec.put w c (.map (es.eraseIdxIfInBounds q) clock)):=by
    simp[Builtin.delete_,hT,Je ht,J4 hbb,ok.check,hf,H6 hbb]
   simp[execOp,resolve,invoke,builtin,ha.1.eval hx,ha.1.eval hy,this]
  ·cases d' with
   | none=>exact ha.1.wK _
   | some e=>exact ha.1.put (hd e rfl) _
  ·have h1:=(hsh.mono λm hm=>Zd hm).put (o' :=.map (es.eraseIdxIfInBounds q) clock);have hjl:i' < xs.length:=(List.getElem?_eq_some_iff.1 hM).1;refine Xa (M:=Jj M y.1) (by rw[List.getElem?_set];simp[hjl]) (w:=Dec.put w c (.map (es.eraseIdxIfInBounds q) clock)) ?_ (l' :=Jj l' y.1) (by rw[hes];exact g3) (by rw[hes];exact hbi.erase) hl ?_ (BG hpm hnM) (Fv hnM) (λ_ h=>by cases h)
   ·have h2:=h1.mono λm hm=>Zd hm;have h3:SH (Dec.put w c (.map (es.eraseIdxIfInBounds q) clock)) F (star (hole γ (QU ck rv) F0 i' c xs) _):=h2.mono λm hm=>Zd (QR (λm hm=>Zd hm) hm);exact(Iw (y:=Jj M y.1) h3).mono λm hm=>QR (λm hm=>Zd hm) (Zd hm)
   ·rw[hes,g4,Ry,Sb hzq (by simp only[hseen,Bool.not_true])];exact htd
theorem Hd.dn(i:Nat)(le:F0<=F)(hb:VE γ F j b)(hi:hs[i]? =some (Yn γ ck rv F0 j b it xs todo cur)){a:Act}{w:World}(ha:Hd n D S F hs a w):Hd n D S F (hs.set i (Yn γ ck rv F j b it xs todo cur)) a w:=
 ⟨ha.1,SH.push hi (Iv le hb (ha.2.pull hi))⟩
theorem GC.dn(i:Nat)(le:F0<=F)(hb:VE γ F j b)(hi:hs[i]? =some (Yn γ ck rv F0 j b it xs todo cur))(k:GC O P cd ks Q (Hd n D S F (hs.set i (Yn γ ck rv F j b it xs todo cur))) m r):GC O P cd ks Q (Hd n D S F hs) m r:=λhm a w ha=>k hm a w (Hd.dn i le hb hi ha)
theorem GE.dn(i:Nat)(le:F0<=F)(hb:VE γ F j b)(hi:hs[i]? =some (Yn γ ck rv F0 j b it xs todo cur))(k:GE O P ks Q (Hd n D S F (hs.set i (Yn γ ck rv F j b it xs todo cur))) m r):GE O P ks Q (Hd n D S F hs) m r:=λhm a w ha=>k hm a w (Hd.dn i le hb hi ha)
theorem GE.bg(i:Nat)(hi:hs[i]? =some (Yn γ ck rv F0 j b it xs [] cur))(k:GE O P ks Q (Hd n D S F (hs.set i (Qw γ (QU ck rv) F0 xs))) m r):GE O P ks Q (Hd n D S F hs) m r:=λhm a w ha=>k hm a w ⟨ha.1,SH.push hi (Lf (ha.2.pull hi))⟩
theorem Hd.bG{x:Option (K×V)}(i:Nat)(hi:hs[i]? =some (Yn γ ck rv F0 j b it xs todo x)){a:Act}{w:World}(ha:Hd n D S F hs a w):Hd n D S F (hs.set i (Yn γ ck rv F0 j b it xs todo none)) a w:=
 ⟨ha.1,SH.push hi (by
  obtain⟨M,es,c,l',seen,last,hM,_,_,hs,h1,h2,h3,h4,h5,h6,h7⟩:=Wc (ha.2.pull hi);exact Xa hM hs h1 h2 h3 h4 h5 h6 (λ_ h=>by cases h))⟩
theorem GE.bG{x:Option (K×V)}(i:Nat)(hi:hs[i]? =some (Yn γ ck rv F0 j b it xs todo x))(k:GE O P ks Q (Hd n D S F (hs.set i (Yn γ ck rv F0 j b it xs todo none))) m r):GE O P ks Q (Hd n D S F hs) m r:=λhm a w ha=>k hm a w (Hd.bG i hi ha)
end
def Pp{β:Type}(P:Program)(fn:Func)(F:Fz)(R:HP)(ρ:β->Fz->Value->Prop)(Hs' :β->Fz->List HP)(r:β):Exit->Act->World->Prop:=
 bodyPostM Fence.wide 0 P fn (λe w' =>∃F' v,F<=F'/\e= .returned v/\ρ r F' v/\SH w' F' (star (Qj (Hs' r F')) R))
theorem Xe.xC{β:Type}{P:Program}{f:FuncId}{fn:Func}{c:Code}{args:List Value}{F:Fz}{Hs:List HP}{m:Option β}{ρ:β->Fz->Value->Prop}{Hs' :β->Fz->List HP}{n:Nat}
  (hf:P.funcs[f]? =some fn) (hb:fn.body=some c) (hn:fn.ntmps=n) (ha:Nat.ble args.length n=true)
  (k:∀r R,GC none P c [] (Pp P fn F R ρ Hs' r) (Hd n [] (Dc 0 args) F (Hs++[R])) m r):Xe P f args.toArray F Hs m ρ Hs' :=by
 intro r hm w R hw;refine(callsIn_wide (n:=0)).1 (callsIn_of_wp_marks hf hb trivial (k r R hm _ w ⟨?_,hw.mono λm hm=>K4 (QR (λ_ h=>Y5 h) hm)⟩));rw[hn];exact U1 ha
section
variable{β:Type}{P:Program}{n:Nat}{S:List (Nat×Value)}{F F' :Fz}{hs:List HP}{ks:List Kt}{fn:Func}{R:HP}{ρ:β->Fz->Value->Prop}{Hs' :β->Fz->List HP}{x r:β}{rs:List ResultVar}{vs:List Value}{ms:List (Nat×Nat)}
theorem PA(is:List Nat)(hr:fn.results=rs.toArray)(ho:zQ hs ms)(h:CG P S F' (Xg hs ms) rs vs)(hi:K9 is (Xg hs ms)=Hs' x F' ++[R])(le:F<=F')(hρ:ρ x F' (CS vs)):
  some x=some r->∀a w,Hd n (ms.map λp=>U7 p.2) S F' hs a w->LeavesInM Fence.wide 0 P fn a.tmps (λe w' =>∃F' v,F<=F'/\e= .returned v/\ρ r F' v/\SH w' F' (star (Qj (Hs' r F')) R)) a.defers .returning w:=by
 intro e a w ha;simp only[Option.some.injEq] at e
 subst e;rw[ha.1.2.1];refine TY ha.2 ho λw' h' => ?_
 exact⟨_,Jo (n:=n) (a:=a) (D:=a.defers) hr ⟨⟨ha.1.1,rfl,ha.1.2.2⟩,h'⟩ h,F',_,le,rfl,hρ,h'.mono λm hm=>by
  have h1:=Y2 (ks:=is) hm;rw[hi] at h1
  exact W0 (Y6 h1)⟩
theorem GC.bR(is:List Nat)(ms:List (Nat×Nat))(hr:fn.results=rs.toArray)(ho:zQ hs ms)(h:CG P S F' (Xg hs ms) rs vs)(hi:K9 is (Xg hs ms)=Hs' x F' ++[R])(le:F<=F')(hρ:ρ x F' (CS vs)):
 GC O P .ret ks (Pp P fn F R ρ Hs' r) (Hd n (ms.map λp=>U7 p.2) S F' hs) (some x) r:=GC.wN (PA is hr ho h hi le hρ)
theorem GE.dh(is:List Nat)(ms:List (Nat×Nat))(hr:fn.results=rs.toArray)(ho:zQ hs ms)(h:CG P S F' (Xg hs ms) rs vs)(hi:K9 is (Xg hs ms)=Hs' x F' ++[R])(le:F<=F')(hρ:ρ x F' (CS vs)):
 GE O P [] (Pp P fn F R ρ Hs' r) (Hd n (ms.map λp=>U7 p.2) S F' hs) (some x) r:=GE.nil (PA is hr ho h hi le hρ)
end
def RI{α:Type}(sz:Nat)(c:Kb α)(F:Fz)(p:Option Addr)(cap:Nat)(l:List α):Prop:=QH sz c F p cap l/\(l=[]->p=none/\cap=0)
section
variable{α:Type}{sz:Nat}{c:Kb α}{F F' :Fz}{p:Option Addr}{cap:Nat}{l:List α}
theorem RI.nil(h:RI sz c F p cap l)(e:l=[]):p=none/\cap=0:=h.2 e
theorem RI.zero:RI sz c F none 0 ([]:List α):=⟨QH.nil,λ_=>⟨rfl,rfl⟩⟩
end
def yJ{α:Type}(l:List α):Option Unit:=match l with | []=>some () | _::_=>none
theorem NU{α:Type}{l:List α}{u:Unit}(h:yJ l=some u):l=[]:=by
 cases l with
 | nil=>rfl
 | cons x l=>cases h
section
variable{K V:Type}{ck:K->Value}{rv:Fz->V->Value->Prop}{γ:Nat}{xs ys:List (List (K×V))}{n:Nat}{D:List Deferred}{S:List (Nat×Value)}{F F0:Fz}{hs:List HP}{a:Act}{w:World}
theorem Hd.bu(i:Nat)(hi:hs[i]? =some (Qw γ (QU ck rv) F0 xs))(hp:Sz xs ys)(ha:Hd n D S F hs a w):Hd n D S F (hs.set i (Qw γ (QU ck rv) F0 ys)) a w:=by
 refine⟨ha.1,SH.push hi ?_⟩;refine(ha.2.pull hi).xq hp.1 λi' x y b' m hx hy hm=> ?_;obtain⟨l',h1,h2,h3⟩:=hm;have h4:=hp.2 i' x y hx hy;exact⟨l',h1.trans h4,(h4.map _).nodup_iff.1 h2,h3⟩
end
end
section
section
variable{β:Type}{O:Option Nat}{P:Program}{ks:List Kt}{Q:Exit->Act->World->Prop}{m:Option β}{r:β}{n:Nat}{D:List Deferred}{S0:List (Nat×Value)}{F:Fz}{hs:List HP}{l:List Oper}
theorem He.bQ{k:Nat}{a0 a b:Act}{vs:List Value}{L L' :Nat->Bool}(c:He l k n a0 vs L a)(c' :He l k n a0 vs L' b)(hvs:k<=vs.length){t:Nat}(ht:∀j,j < k->VR l j=some t->L j=L' j):a.tmps.getD t undef=b.tmps.getD t undef:=by
 by_cases h:∃j,j < k/\L j=true/\VR l j=some t
 ·obtain⟨j,hj,hL,e⟩:=h;have hv:vs[j]? =some vs[j]:=List.getElem?_eq_getElem (by omega);rw[c.got j _ t hj hL e hv,c'.got j _ t hj (by rw[<-ht j hj e];exact hL) e hv]
 ·rw[c.old t λj hj hL e=>h ⟨j,hj,hL,e⟩,c'.old t λj hj hL e=>h ⟨j,hj,by rw[ht j hj e];exact hL,e⟩]
end
end
section
theorem Fz.r{F:Fz}:F<=F:=Fz.le_refl F
theorem Fz.t{F G H:Fz}(h:F<=G)(k:G<=H):F<=H:=Fz.le_trans h k
section
variable{O:Option Nat}
def qW(O:Option Nat)(P:Program)(ops:Array Oper)(Q:Exit->Act->World->Prop):List Nat->List Oper->Act->World->Prop
 | [],l,a,w=>wpS P ops w (λa' =>Q .normal a' w) l a
 | p::st,l,a,w=>wpS P ops w (λa' =>Xd O P ops (Exit.then (qW O P ops Q st (l.drop (p+1))) Q) ((l.drop p).take 1) a' w) (l.take p) a
def zY(l:List Oper)(c p i:Nat)(o:Oper):Bool:=(o.looksAt l.toArray).all λt=>(List.range p).all λj=>match VR l (c+j) with
 | none=>true
 | some d=> !Nat.beq d t||((o.after.toList.any λe=>Region.binds .any e&&Nat.beq e.on (c+j))||(Nat.blt i j&&match l[c+j]? with
  | none=>false
  | some oj=>oj.after.toList.any λe=>Region.binds .any e&&Nat.beq e.on (c+i)))
def TX(l:List Oper)(c p:Nat):Nat->List Oper->Bool
 | _,[]=>true
 | i,o::os=>zY l c p i o&&TX l c p (i+1) os
theorem A0{l:List Oper}{c p:Nat}:∀{os:List Oper} {i0:Nat},TX l c p i0 os=true->∀(i:Nat) (o:Oper),os[i]? =some o->zY l c p (i0+i) o=true
 | [],_,_,i,o,h=>by simp at h
 | x::os,i0,hl,i,o,h=>by
  simp only[TX,Bool.and_eq_true] at hl
  cases i with
  | zero=>simp at h;subst h;exact hl.1
  | succ i=>
   have:=A0 hl.2 i o (by simpa using h);rw[show i0+1+i=i0+(i+1) by omega] at this
   exact this
def IP(n:Nat)(l:List Oper)(c p:Nat):Bool:=Ft n ((l.drop c).take p)&&TX l c p 0 ((l.drop c).take p)&&((l.drop c).take p).all λo=>X0 o.op&&zR o.op
def vC(msk:List (List Bool))(len d:Nat):Bool:=qH d (msk.getD d [])&&(List.range len).all λt=> !Nat.blt d t||(msk.getD t []).getD d false
def jt(n:Nat)(l:List Oper)(msk:List (List Bool)):List Nat->Nat->Bool
 | [],c=>IP n l c (l.length - c)
 | p::st,c=>Nat.blt (c+p) l.length&&IP n l c p&&vC msk l.length (c+p)&&jt n l msk st (c+p+1)
def E4(n:Nat)(l:List Oper)(st:List Nat):Bool:=Rb 0 l&&jt n l (U8 [] l) st 0
def Vi(l:List Oper):List Nat->Nat->Nat
 | [],c=>l.length - c
 | p::_,_=>p
def qe(O:Option Nat)(P:Program)(l:List Oper)(Q:Exit->Act->World->Prop):List Nat->Nat->Act->World->Prop
 | [],_,a,w=>Q .normal a w
 | p::st,c,a,w=>Xd O P l.toArray (Exit.then (qW O P l.toArray Q st (l.drop (c+p+1))) Q) ((l.drop (c+p)).take 1) a w
theorem N3{n:Nat}{l:List Oper}{msk:List (List Bool)}:∀{st:List Nat} {c:Nat},jt n l msk st c=true->c<=l.length->IP n l c (Vi l st c)=true/\c+Vi l st c<=l.length
 | [],c,h,hc=>⟨h,by show c+(l.length - c)<=l.length;omega⟩
 | p::st,c,h,_=>by
  simp only[jt,Bool.and_eq_true] at h
  exact⟨h.1.1.2,Nat.le_of_lt (Nat.le_of_ble_eq_true h.1.1.1)⟩
theorem qf{P:Program}{l:List Oper}{Q:Exit->Act->World->Prop}{w:World}:∀{st:List Nat} {c:Nat} {a:Act},c<=l.length->qW O P l.toArray Q st (l.drop c) a w->wpS P l.toArray w (λa' =>qe O P l Q st c a' w) ((l.drop c).take (Vi l st c)) a
 | [],c,a,hc,h=>by
  have e:(l.drop c).take (Vi l [] c)=l.drop c:=List.take_of_length_le (by show(l.drop c).length<=l.length - c;rw[List.length_drop];exact Nat.le_refl _);rw[e];exact h
 | p::st,c,a,hc,h=>by
  unfold qW at h
  rw[List.drop_drop,List.drop_drop] at h
  exact h
structure OP(O:Option Nat)(P:Program)(l:List Oper)(n:Nat)(Q:Exit->Act->World->Prop)(dfs:List Deferred)(st:List Nat)(c:Nat)(a0:Act)(vs:List Value)(L:Nat->Bool)(a:Act)(w:World):Prop where
 stg:jt n l (U8 [] l) st c=true
 cl:c<=l.length
 down:Down l L
 pre:∀j,j < c->L j=true
 out:∀j,c+Vi l st c<=j->L j=false
 size:a0.tmps.size=n
 len:vs.length=Vi l st c
 tail:qe O P l Q st c (MC a0 ((l.drop c).take (Vi l st c)) vs) w
 step:∀i o v,((l.drop c).take (Vi l st c))[i]? =some o->vs[i]? =some v->Sx P l.toArray w o v (MC a0 (((l.drop c).take (Vi l st c)).take i) (vs.take i))
 char:He (l.drop c) (Vi l st c) n a0 vs (λj=>L (c+j)) a
theorem OP.enter{P:Program}{l:List Oper}{n:Nat}{Q:Exit->Act->World->Prop}{st:List Nat}{c:Nat}{a:Act}{L:Nat->Bool}{w:World}(hs:jt n l (U8 [] l) st c=true)(hc:c<=l.length)(hd:Down l L)(hpre:∀j,j < c->L j=true)(hout:∀j,c<=j->L j=false)(hz:a.tmps.size=n)(hw:qW O P l.toArray Q st (l.drop c) a w):
  ∃vs,OP O P l n Q [] st c a vs L a w:=by
 obtain⟨vs,h1,h2,h3⟩:=Nx (qf hc hw);have hlen:=(N3 hs hc).2;refine⟨vs,hs,hc,hd,hpre,λj hj=>hout j (by omega),hz,?_,h2,h3,⟨hz,rfl,λj v t _ hL=> ?_,λt _=>rfl⟩⟩
 ·rw[h1,List.length_take,List.length_drop];omega
 ·have:L (c+j)=true:=hL;rw[hout (c+j) (by omega)] at this;cases this
section
variable{P:Program}{n:Nat}{D:List Deferred}{l:List Oper}
theorem PI{a:Act}{d:Option Tmp}{v:Value}:(a.put d v).tmps.size=a.tmps.size:=by
 cases d with
 | none=>rfl
 | some t=>show(a.tmps.setIfInBounds t v).size=_;simp
end
section
variable{β:Type}{P:Program}{ks:List Kt}{Q:Exit->Act->World->Prop}{m:Option β}{r:β}{n:Nat}{D:List Deferred}{S0:List (Nat×Value)}{F:Fz}{hs:List HP}{l:List Oper}
theorem zs{id:Nat}(hm:P.follows .mixedOrders=true)(st0:List Nat)(hB:E4 n l st0=true){a0:Act}{w0:World}(hz0:a0.tmps.size=n)(hw0:qW O P l.toArray Q st0 l a0 {w0 with drawn:=w0.drawn+1}):(Code.region id l.toArray true).wpIn (TI O) 0 P Q a0 w0:=by
 simp only[E4,Bool.and_eq_true] at hB
 obtain⟨hord,hst⟩:=hB;have hmask:Ai l (U8 [] l):=DH (pre:=[]) rfl rfl (λt m h=>by simp at h);refine Wy hm (λL a w=>∃st c a1 vs,OP O P l n Q [] st c a1 vs L a w) (λi o h e he hb=>by have:=XL hord i o (by simpa using h) e he hb;omega) ?_ ?_ ?_
 ·obtain⟨vs,hI⟩:=OP.enter (L:=λ_=>false) hst (Nat.zero_le _) (λi o _ h=>(by cases h)) (λj hj=>absurd hj (by omega)) (λ_ _=>rfl) hz0 hw0;exact⟨_,_,_,_,hI⟩
 ·rintro L a w i o ho hLi hdeps ⟨st,c,a1,vs,hI⟩;have ho' :l[i]? =some o:=by simpa using ho
  have hil:i < l.length:=Zv ho'
  have hci:c<=i:=by
    rcases Nat.lt_or_ge i c with h | h
    ·have:=hI.pre i h;rw[hLi] at this;cases this
    ·exact h
  obtain⟨hseg,hle⟩:=N3 hI.stg hI.cl;have hseq:=Sk (l:=l.drop c) (k:=Vi l st c) (a0:=a1) (vs:=vs) hI.size (by simp only[IP,Bool.and_eq_true] at hseg;exact hseg.1.1) (by rw[List.length_drop];omega) hI.len
  have hdnU:Down l (Km L i):=λj oj hoj hj e he hb=>by
    have:L e.on=true:=by
     by_cases hji:j=i
     ·subst hji;rw[ho'] at hoj;cases hoj;exact hdeps e he hb
     ·exact hI.down j oj hoj (by simpa[Km,hji] using hj) e he hb
    simp only[Km];split
    ·rfl
    ·exact this
  rcases Nat.lt_or_ge i (c+Vi l st c) with hi | hi
  ·
    obtain⟨q,rfl⟩:∃q,i=c+q:=⟨i - c,by omega⟩;have hq:q < Vi l st c:=by omega
    have hot:((l.drop c).take (Vi l st c))[q]? =some o:=by rw[List.getElem?_take,if_pos hq,List.getElem?_drop];exact ho'
    have hod:(l.drop c)[q]? =some o:=by rw[List.getElem?_drop];exact ho'
    simp only[IP,Bool.and_eq_true,List.all_eq_true] at hseg
    obtain⟨⟨hslots,hlooks⟩,hall⟩:=hseg;obtain⟨hnd,hns⟩:=hall o (List.mem_of_getElem? hot);have hlk:=A0 hlooks q o hot;rw[Nat.zero_add] at hlk
    obtain⟨v,hv⟩:∃v,vs[q]? =some v:=⟨vs[q]'(by rw[hI.len];exact hq),List.getElem?_eq_getElem _⟩
    have hst' :Sx P l.toArray w o v a:=(hI.step q o _ hot hv).of_same hns λt ht=>by
     refine(hseq q (by omega)).bQ hI.char (by rw[hI.len];exact Nat.le_refl _) λj hj e=> ?_
     have e' :VR l (c+j)=some t:=by
      unfold VR at e ⊢;rw[List.getElem?_drop] at e;exact e
     have h1:=List.all_eq_true.1 (List.all_eq_true.1 hlk t ht) j (List.mem_range.2 hj);rw[e'] at h1
     simp only[Nat.beq_refl,Bool.not_true,Bool.false_or,Bool.or_eq_true] at h1
     rcases h1 with h1 | h1
     ·simp only[List.any_eq_true,Bool.and_eq_true] at h1
      obtain⟨e1,he',hb',hon⟩:=h1;have hon:e1.on=c+j:=Nat.eq_of_beq_eq_true hon;have hmem' :e1∈o.after:=by simpa using he'
      have hL:=hdeps e1 hmem' hb';have:=XL hord (c+q) o ho' e1 hmem' hb';rw[hon] at hL
      show Nat.blt j q=L (c+j);rw[hL];exact Nat.ble_eq_true_of_le (show j+1<=q by omega)
     ·simp only[Bool.and_eq_true] at h1
      obtain⟨hij,h2⟩:=h1;have hij:q < j:=Nat.le_of_ble_eq_true hij
      have h3:Nat.blt j q=false:=by
       cases hb:Nat.blt j q with
       | false=>rfl
       | true=>have:=Nat.le_of_ble_eq_true hb;omega
      show Nat.blt j q=L (c+j);rw[h3];cases hLj:L (c+j) with
      | false=>rfl
      | true=>
       exfalso;cases hoj:l[c+j]? with
       | none=>rw[hoj] at h2;cases h2
       | some oj=>
        rw[hoj] at h2
        simp only[List.any_eq_true,Bool.and_eq_true] at h2
        obtain⟨e1,he',hb',hon⟩:=h2;have:=hI.down (c+j) oj hoj hLj e1 (by simpa using he') hb';rw[Nat.eq_of_beq_eq_true hon,hLi] at this
        cases this
    have hnext:∃st2 c2 a2 vs2,OP O P l n Q [] st2 c2 a2 vs2 (Km L (c+q)) (a.put o.dst v) w:=by
     refine⟨st,c,a1,vs,hI.stg,hI.cl,hdnU,λj hj=> ?_,λj hj=> ?_,hI.size,hI.len,hI.tail,hI.step,?_⟩
     ·simp only[Km];rw[if_neg (by omega)];exact hI.pre j hj
     ·simp only[Km];rw[if_neg (by omega)];exact hI.out j hj
     ·have:=hI.char.put hslots hq hod hv
      have e:(λj=>Km L (c+q) (c+j))=Km (λj=>L (c+j)) q:=by
       funext j;simp only[Km];by_cases hj:j=q
       ·subst hj;simp
       ·rw[if_neg hj,if_neg (by omega)]
      rw[e];exact this
    rcases hst' with⟨h1,h2⟩ | ⟨h1,h2⟩
    ·rw[if_pos h1];refine⟨.inr hnd,?_⟩;rw[h2];exact hnext
    ·rw[if_neg (by simp[h1]),<-h2];exact hnext
  ·
    cases st with
    | nil=>exact absurd hil (by have:Vi l [] c=l.length - c:=rfl;omega)
    | cons p st' =>
     have hsl:Vi l (p::st') c=p:=rfl;rw[hsl] at hi hseq hle
     have hstg:=hI.stg;simp only[jt,vC,Bool.and_eq_true,List.all_eq_true] at hstg
     obtain⟨⟨⟨hlt,_⟩,hbar1,hbar2⟩,hst'⟩:=hstg;have hlt:c+p < l.length:=Nat.le_of_ble_eq_true hlt;have hdep:∀(t j:Nat) (m:List Bool),(U8 [] l)[t]? =some m->m.getD j false=true->∃s,XA l s t j=true:=λt j m h1 h2=>hmask t m h1 j h2
     have hget:∀t,t < l.length->(U8 [] l)[t]? =some ((U8 [] l).getD t []):=λt ht=>by
      rw[List.getD_eq_getElem?_getD];cases h:(U8 [] l)[t]? with
      | some m=>rfl
      | none=>
       exfalso
       have:(U8 [] l).length=l.length:=by
        have gen:∀(os:List Oper) (d:List (List Bool)),(U8 d os).length=d.length+os.length:=by
         intro os
         induction os with
         | nil=>intro d;simp[U8]
         | cons o os ih=>intro d;rw[U8,ih];simp;omega
        simpa using gen l []
       rw[List.getElem?_eq_none_iff] at h
       omega
     have hip:i=c+p:=by
      rcases Nat.lt_or_ge (c+p) i with h | h
      ·exfalso;have h1:=hbar2 i (List.mem_range.2 hil);rw[show Nat.blt (c+p) i=true from Nat.ble_eq_true_of_le h] at h1
       simp only[Bool.not_true,Bool.false_or] at h1
       obtain⟨s,hs⟩:=hdep i (c+p) _ (hget i hil) h1;have:=We hI.down hs λo' ho'' e he hb=>by rw[ho'] at ho'';cases ho'';exact hdeps e he hb
       rw[hI.out (c+p) (by rw[hsl];exact Nat.le_refl _)] at this
       cases this
      ·omega
     subst hip
     have hallL:∀j,j < c+p->L j=true:=λj hj=>by
      obtain⟨s,hs⟩:=hdep (c+p) j _ (hget _ hil) (RF hbar1 hj);exact We hI.down hs λo' ho'' e he hb=>by rw[ho'] at ho'';cases ho'';exact hdeps e he hb
     have hch:=hI.char;rw[hsl] at hch
     have hLk:(λj=>L (c+j))=λj=>Nat.blt j p:=by
      funext j;rcases Nat.lt_or_ge j p with h | h
      ·rw[hallL (c+j) (by omega)];exact(Nat.ble_eq_true_of_le h).symm
      ·rw[hI.out (c+j) (by rw[hsl];omega)];cases hb:Nat.blt j p with
       | false=>rfl
       | true=>have:=Nat.le_of_ble_eq_true hb;omega
     have hlen:=hI.len;rw[hsl] at hlen
     have h2:=hseq p (Nat.le_refl _);rw[List.take_of_length_le (show((l.drop c).take p).length<=p by simp;omega),List.take_of_length_le (show vs.length<=p by omega)] at h2
     rw[hLk] at hch
     have hae:=hch.eq h2 (by omega) λj hj=>Nat.ble_eq_true_of_le hj;have htail:=hI.tail;rw[hsl,<-hae] at htail
     have hdrop:(l.drop (c+p)).take 1=[o]:=by
      have hg:l[c+p]'hil=o:=by simpa[hil] using ho'
      rw[<-hg,List.drop_eq_getElem_cons hil];rfl
     change Xd O P l.toArray (Exit.then (qW O P l.toArray Q st' (l.drop (c+p+1))) Q) ((l.drop (c+p)).take 1) a w at htail
     rw[hdrop] at htail
     have hnext:∀a' w',a'.tmps.size=n->qW O P l.toArray Q st' (l.drop (c+p+1)) a' w'->∃st2 c2 a2 vs2,OP O P l n Q [] st2 c2 a2 vs2 (Km L (c+p)) a' w' :=λa' w' hz h=>by
      obtain⟨vs',hI'⟩:=OP.enter (L:=Km L (c+p)) hst' (by omega) hdnU (λj hj=>by
       simp only[Km];by_cases hj' :j=c+p
       ·rw[if_pos hj']
       ·rw[if_neg hj'];exact hallL j (by omega)) (λj hj=>by
       simp only[Km];rw[if_neg (by omega)];exact hI.out j (by rw[hsl];omega)) hz h
      exact⟨_,_,_,_,hI'⟩
     unfold Xd at htail
     split
     ·rename_i hwn;rw[if_pos hwn] at htail
      refine ML (λu w' h=>hnext _ w' (by rw[PI,hch.size]) h) (λd w' h=>hnext _ w' ?_ h) (λe a w he hq=>by cases e<;>first | exact absurd rfl he | exact hq) htail;rw[PI];exact hch.size
     ·rename_i hwn;rw[if_neg hwn] at htail
      exact hnext _ _ (by rw[PI,hch.size]) htail
 ·rintro L a w hallL ⟨st,c,a1,vs,hI⟩;obtain⟨hseg,hle⟩:=N3 hI.stg hI.cl;cases st with
  | cons p st' =>
    exfalso;have hstg:=hI.stg;simp only[jt,Bool.and_eq_true] at hstg
    have hlt:c+p < l.length:=Nat.le_of_ble_eq_true hstg.1.1.1;have:=hallL (c+p) (by simpa using hlt);rw[hI.out (c+p) (Nat.le_refl _)] at this
    cases this
  | nil=>
    have hseq:=Sk (l:=l.drop c) (k:=Vi l [] c) (a0:=a1) (vs:=vs) hI.size (by simp only[IP,Bool.and_eq_true] at hseg;exact hseg.1.1) (by rw[List.length_drop];exact Nat.le_refl _) hI.len;have hsl:Vi l [] c=l.length - c:=rfl;have h2:=hseq (Vi l [] c) (Nat.le_refl _);rw[List.take_of_length_le (show((l.drop c).take (Vi l [] c)).length<=Vi l [] c by simp;omega),List.take_of_length_le (show vs.length<=Vi l [] c by rw[hI.len];exact Nat.le_refl _)] at h2
    have hLk:He (l.drop c) (Vi l [] c) n a1 vs (λj=>Nat.blt j (Vi l [] c)) a:=by
     refine⟨hI.char.size,hI.char.defs,λj v t hj _ hd hv=>hI.char.got j v t hj (hallL _ (by simp;omega)) hd hv,λt ht=>hI.char.old t λj hj _=>ht j hj (Nat.ble_eq_true_of_le hj)⟩
    have hae:=hLk.eq h2 (by rw[hI.len];exact Nat.le_refl _) λj hj=>Nat.ble_eq_true_of_le hj;have htail:=hI.tail;rw[<-hae] at htail
    exact htail
theorem GC.fF{id p:Nat}{st:List Nat}(hm:P.follows .mixedOrders=true)(hB:E4 n l (p::st)=true)
  (walk:GS P l.toArray (l.take p) (Xd O P l.toArray (Exit.then (qW O P l.toArray (Z8 O P ks Q) st (l.drop (p+1))) (Z8 O P ks Q)) ((l.drop p).take 1)) (Hd n D S0 F hs) m r):GC O P (.region id l.toArray true) ks Q (Hd n D S0 F hs) m r:=by
 intro hmr a0 w ha;exact zs hm (p::st) hB ha.1.1 (walk hmr a0 {w with drawn:=w.drawn+1} ⟨ha.1,ha.2.drew _⟩)
end
section
variable{β:Type}{P:Program}{ops:Array Oper}{l tl:List Oper}{ks:List Kt}{Q:Exit->Act->World->Prop}{A:Act->World->Prop}{K:Exit->Act->World->Prop}{m:Option β}{r:β}
theorem GS.gJ(h:GL O P ops tl [] K A m r):GS P ops [] (Xd O P ops K tl) A m r:=λhm a w ha=>h hm a w ha
theorem GS.dM(h:GE O P ks Q A m r):GS P ops [] (Z8 O P ks Q .normal) A m r:=λhm a w ha=>h hm a w ha
theorem GE.bN{p:Nat}{st:List Nat}(h:GS P ops (l.take p) (Xd O P ops (Exit.then (qW O P ops K st (l.drop (p+1))) K) ((l.drop p).take 1)) A m r):GE O P [] (Exit.then (qW O P ops K (p::st) l) K) A m r:=λhm a w ha=>h hm a w ha
theorem GE.xr(h:GS P ops l (K .normal) A m r):GE O P [] (Exit.then (qW O P ops K [] l) K) A m r:=λhm a w ha=>h hm a w ha
end
end
end
section
def bs(l:List UInt8):ByteArray:=⟨l.toArray⟩
theorem Su{l:List UInt8}:(bs l).size=l.length:=rfl
theorem Nt{l:List UInt8}:(bs l).toList=l:=ByteArray.toList_mk l
theorem ya{l:List UInt8}{i:Nat}:(bs l)[i]? =l[i]? :=by
 by_cases h:i < l.length
 ·have h' :i < (bs l).size:=h;rw[getElem?_pos (bs l) i h',getElem?_pos l i h];rfl
 ·have h' :¬i < (bs l).size:=h;rw[getElem?_neg (bs l) i h',getElem?_neg l i h]
theorem C7{l:List UInt8}{i j:Nat}:(bs l).extract i j=bs ((l.drop i).take (j - i)):=by
 apply ByteArray.ext;rw[ByteArray.data_extract];show(l.toArray).extract i j=_;simp[bs,List.extract_toArray,List.take_drop]
section
variable{O:Option Nat}
section
variable{P:Program}{a:Act}{S:List (Nat×Value)}{n:Nat}{D:List Deferred}{d:Nat}{ty t t' :TypeId}{pos:String}{after:Array Edge}{ox oy oz:Operand}{kd kd' :IntKind}{x y:Int}{s u:List UInt8}{w:World}
theorem kr(h:Sl n D S a)(ht:P.underlying t=some .string)(hx:QK S ox=some (.string (bs s)))(hy:QK S oy=some (.string (bs u))):
  (execOp a.eval ⟨some d,.binOp .eql t ox oy t',ty,pos,after,none⟩).run P w= .ok (.value (.bool (s==u))) w:=by
 simp[execOp,h.eval hx,h.eval hy,eqGuard,binOp,Op.stringOp,Nt]
theorem kq(h:Sl n D S a)(ht:P.underlying t=some .string)(hx:QK S ox=some (.string (bs s)))(hy:QK S oy=some (.string (bs u))):
  (execOp a.eval ⟨some d,.binOp .neq t ox oy t',ty,pos,after,none⟩).run P w= .ok (.value (.bool (!(s==u)))) w:=by
 simp[execOp,h.eval hx,h.eval hy,eqGuard,binOp,Op.stringOp,Nt]
theorem qx(h:Sl n D S a){T:Array TypeId}(hT:T[0]? =some t)(ht:P.underlying t=some .string)(hx:QK S ox=some (.string (bs s))):
  (execOp a.eval ⟨some d,.call ⟨.builtin .len,#[ox],T⟩,ty,pos,after,none⟩).run P w= .ok (.value (.int .i64 s.length)) w:=by
 simp[execOp,resolve,invoke,builtin,Builtin.len_,h.eval hx,hT,Je ht,goInt,Su]
theorem qy(h:Sl n D S a)(ht:P.underlying t=some .string)(hx:QK S ox=some (.string (bs s)))(hy:QK S oy=some (.int kd x)){c:UInt8}(hc:Zc s x=some c):
  (execOp a.eval ⟨some d,.index t ox oy,ty,pos,after,none⟩).run P w= .ok (.value (.int .u8 c.toNat)) w:=by
 obtain⟨h0,_,h2⟩:=B6 hc;simp[execOp,h.eval hx,h.eval hy,Instr.index,asIntOf,Je ht,h0,ya,h2]
theorem N7(ht:P.underlying t=some .string)(h:0<=y)(h' :y<=s.length):
  (Instr.sliceAt t (.string (bs s)) none (some (.int kd' y)) none).run P w= .ok (.string (bs (s.take y.toNat))) w:=by
 simp only[Instr.sliceAt,Sem.run_bind,Je ht,Result.andThen,Instr.slice,Instr.sliceBounds,Sem.run_pure,Option.isSome_none,Bool.false_eq_true,if_false,if_true,Su];rw[Wo (kd:=kd') (by omega)];simp[C7]
theorem NA(h:Sl n D S a)(ht:P.underlying t=some .string)(hx:QK S ox=some (.string (bs s)))(hz:QK S oz=some (.int kd' y)){l:List UInt8}(hl:ZW s 0 y=some l):
  (execOp a.eval ⟨some d,.slice t ox none (some oz) none,ty,pos,after,none⟩).run P w= .ok (.value (.string (bs l))) w:=by
 unfold ZW at hl
 split at hl
 ·rename_i hh;simp only[Option.some.injEq] at hl
  simp only[execOp,h.eval hx,h.eval hz,Option.map_some,Option.map_none,Sem.run_bind];rw[N7 ht (by omega) (by omega),<-hl];rfl
 ·cases hl
end
section
variable{β:Type}{P:Program}{ops:Array Oper}{rest:List Oper}{ks:List Kt}{Q:Exit->Act->World->Prop}{m:Option β}{r:β}
variable{n:Nat}{D:List Deferred}{S:List (Nat×Value)}{F:Fz}{hs:List HP}{d:Nat}{ty t t' :TypeId}{pos:String}{after:Array Edge}{ox oy oz:Operand}{kd kd' :IntKind}{x y:Int}{s u:List UInt8}
theorem GL.fj(hd:Nat.blt d n=true)(ht:P.underlying t=some .string)(hx:QK S ox=some (.string (bs s)))(hy:QK S oy=some (.string (bs u)))(k:GL O P ops rest ks Q (Hd n D ((d,.bool (s==u))::S) F hs) m r):
  GL O P ops (⟨some d,.binOp .eql t ox oy t',ty,pos,after,none⟩::rest) ks Q (Hd n D S F hs) m r:=
 GL.val hd (λa w ha=>kr ha.1 ht hx hy) k
theorem GL.dv(hd:Nat.blt d n=true)(ht:P.underlying t=some .string)(hx:QK S ox=some (.string (bs s)))(hy:QK S oy=some (.string (bs u)))(k:GL O P ops rest ks Q (Hd n D ((d,.bool (!(s==u)))::S) F hs) m r):
  GL O P ops (⟨some d,.binOp .neq t ox oy t',ty,pos,after,none⟩::rest) ks Q (Hd n D S F hs) m r:=
 GL.val hd (λa w ha=>kq ha.1 ht hx hy) k
theorem GL.wZ{T:Array TypeId}(hd:Nat.blt d n=true)(hT:T[0]? =some t)(ht:P.underlying t=some .string)(hx:QK S ox=some (.string (bs s)))(k:GL O P ops rest ks Q (Hd n D ((d,.int .i64 s.length)::S) F hs) m r):
  GL O P ops (⟨some d,.call ⟨.builtin .len,#[ox],T⟩,ty,pos,after,none⟩::rest) ks Q (Hd n D S F hs) m r:=
 GL.val hd (λa w ha=>qx ha.1 hT ht hx) k
theorem GL.dz{f:UInt8->Option β}(hd:Nat.blt d n=true)(ht:P.underlying t=some .string)(hx:QK S ox=some (.string (bs s)))(hy:QK S oy=some (.int kd x))(k:∀c,Zc s x=some c->GL O P ops rest ks Q (Hd n D ((d,.int .u8 (c.toNat:Int))::S) F hs) (f c) r):
  GL O P ops (⟨some d,.index t ox oy,ty,pos,after,none⟩::rest) ks Q (Hd n D S F hs) ((Zc s x).bind f) r:=
 GL.bind λc hc=>GL.val hd (λa w ha=>qy ha.1 ht hx hy hc) (k c hc)
theorem GL.dQ{f:List UInt8->Option β}(hd:Nat.blt d n=true)(ht:P.underlying t=some .string)(hx:QK S ox=some (.string (bs s)))(hz:QK S oz=some (.int kd' y))(k:∀z,ZW s 0 y=some z->GL O P ops rest ks Q (Hd n D ((d,.string (bs z))::S) F hs) (f z) r):
  GL O P ops (⟨some d,.slice t ox none (some oz) none,ty,pos,after,none⟩::rest) ks Q (Hd n D S F hs) ((ZW s 0 y).bind f) r:=
 GL.bind λz h=>GL.val hd (λa w ha=>NA ha.1 ht hx hz h) (k z h)
end
end
end
section
section
variable{O:Option Nat}
section
variable{β:Type}{P:Program}{ops:Array Oper}{rest:List Oper}{ks:List Kt}{Q:Exit->Act->World->Prop}{m:Option β}{r:β}
variable{n:Nat}{D:List Deferred}{S:List (Nat×Value)}{F F0:Fz}{hs:List HP}{d e cap T:Nat}{p:Option Addr}{l:List Int}{ty t t' :TypeId}{pos:String}{after:Array Edge}{ox oy oz:Operand}{kd kd' :IntKind}{x y:Int}{s u:List UInt8}
def Uz(s:List UInt8):List Int:=s.map λc=>(c.toNat:Int)
theorem GL.fU(hd:Nat.blt d n=true)(h1:P.underlying t=some .string)(h2:P.underlying t' =some (.slice e))(h3:P.underlying e=some (.int .u8))(hx:QK S ox=some (.string (bs s)))(hl:s.length<=4294967296)
  (k:∀F' p cap,F<=F'->QH 1 (Ex (KI .u8)) F' p cap (Uz s)->GL O P ops rest ks Q (Hd n D ((d,.slice p (Uz s).length cap)::S) F' hs) m r):
  GL O P ops (⟨some d,.convert t t' ox,ty,pos,after,none⟩::rest) ks Q (Hd n D S F hs) m r:=by
 refine GL.step rfl (.inr rfl) λhm a w ha=> ?_;have hrun:=run_bytes_of_string (P:=P) w t t' e (bs s) h1 h2 h3;have hcap:=grownCap_ge w (bs s).size 0 e;have hmax:=grownCap_le_maxLen w (bs s).size 0 e (by rw[Su];unfold maxLen;omega);generalize grownCap w (bs s).size 0 e=cap at hrun hcap hmax
 obtain⟨le,hsh⟩:=SH.gD (ha.2.drew (w.drawn+1)) (.cells (bytesRow (bs s) cap) e ((bytesRow (bs s) cap).size,(bytesRow (bs s) cap).size+1));have hlen:(Uz s).length=s.length:=by simp[Uz]
 have hr:QH 1 (Ex (KI .u8)) (F.add w.heap.size (.cells (bytesRow (bs s) cap) e ((bytesRow (bs s) cap).size,(bytesRow (bs s) cap).size+1))) (some ⟨w.heap.size,0,none⟩) cap (Uz s):=by
  refine⟨by rw[hlen];exact hcap,by unfold maxLen at hmax;omega,.inr ⟨_,_,_,_,_,rfl,Fz.wH _ _ _,λi x hx F' _=> ?_⟩⟩;have hi:i < s.length:=by rw[<-hlen];exact(List.getElem?_eq_some_iff.1 hx).1
  simp only[Uz,List.getElem?_map,List.getElem?_eq_getElem hi,Option.map_some,Option.some.injEq] at hx
  subst hx;show((bytesRow (bs s) cap).toList.drop (0+i*1)).take 1=[.int .u8 _]
  have e1:(bytesRow (bs s) cap).toList=s.map (λc=>Value.int .u8 c.toNat)++List.replicate (cap - (bs s).size) (.int .u8 0):=by
   simp[bytesRow,bs]
  rw[e1,Nat.zero_add,Nat.mul_one,List.drop_append_of_le_length (by simp;omega),List.drop_eq_getElem_cons (by simpa using hi)];simp
 refine⟨_,_,by simp only[execOp,ha.1.eval hx,Sem.run_bind,hrun];rfl,?_⟩;have hk:=k _ _ _ le hr hm;rw[hlen] at hk
 exact hk _ _ ⟨ha.1.put hd _,hsh⟩
theorem GL.fJ{f:List UInt8->Option β}(hd:Nat.blt d n=true)(h1:P.underlying t=some .string)(h2:P.underlying t' =some (.slice e))(h3:P.underlying e=some (.int .u8))(hx:QK S ox=some (.string (bs s)))
  (k:∀z F' p cap,VT [] s=some z->F<=F'->QH 1 (Ex (KI .u8)) F' p cap (Uz z)->GL O P ops rest ks Q (Hd n D ((d,.slice p (Uz z).length cap)::S) F' hs) (f z) r):
  GL O P ops (⟨some d,.convert t t' ox,ty,pos,after,none⟩::rest) ks Q (Hd n D S F hs) ((VT [] s).bind f) r:=
 GL.bind λz hz=>by
  have hz' :=hz;unfold VT at hz
  split at hz
  ·rename_i h;simp only[List.nil_append,Option.some.injEq] at hz
   subst hz;simp only[List.length_nil,Nat.zero_add] at h
   exact GL.fU hd h1 h2 h3 hx h λF' p cap le hr=>k _ F' p cap hz' le hr
  ·cases hz
end
section
variable{β:Type}{P:Program}{ops:Array Oper}{rest:List Oper}{E:Act->World->Prop}{m:Option β}{r:β}
variable{n:Nat}{D:List Deferred}{S:List (Nat×Value)}{F F0:Fz}{hs:List HP}{d e cap T:Nat}{p:Option Addr}{l:List Int}{ty t t' :TypeId}{pos:String}{after:Array Edge}{ox oy oz:Operand}{kd kd' :IntKind}{x y:Int}{s u:List UInt8}
theorem GS.fq{z:List UInt8}(h:ZW s 0 y=some z)(hd:Nat.blt d n=true)(ht:P.underlying t=some .string)(hx:QK S ox=some (.string (bs s)))(hz:QK S oz=some (.int kd' y))(k:GS P ops rest E (Hd n D ((d,.string (bs z))::S) F hs) m r):
  GS P ops (⟨some d,.slice t ox none (some oz) none,ty,pos,after,none⟩::rest) E (Hd n D S F hs) m r:=
 GS.val hd (λa w ha=>NA ha.1 ht hx hz h) k
end
end
end
section
open Go.RowKit
variable{O:Option Nat}
def PJ:Array Value:=(Go.Lib.pow10Tab.map λz=>Value.int .u64 z).toArray
def jo(P:Program)(F:Fz)(name:String)(cs:Array Value):Prop:=∃g T fr,P.globalNamed name=some g/\F.mem g=some (.cells cs T fr)
theorem jo.mono{P:Program}{F F' :Fz}{name:String}{cs:Array Value}(h:jo P F name cs)(le:F<=F'):jo P F' name cs:=
 let⟨g,T,fr,h1,h2⟩:=h;⟨g,T,fr,h1,le.mem _ _ h2⟩
section
variable{β:Type}{P:Program}{ops:Array Oper}{rest:List Oper}{ks:List Kt}{Q:Exit->Act->World->Prop}{m:Option β}{r:β}
variable{n:Nat}{D:List Deferred}{S:List (Nat×Value)}{F:Fz}{hs:List HP}
variable{d:Nat}{ty t t2 e:TypeId}{pos:String}{after:Array Edge}{ox oy oz:Operand}{v:Value}{kd:IntKind}{x:Int}
theorem M8{α:Type}:∀{l:List α} {i:Nat} {x:α},l[i]? =some x->l.set i x=l
 | [],_,_,h=>by simp at h
 | a::l,0,x,h=>by simp at h;subst h;rfl
 | a::l,i+1,x,h=>by simp at h ⊢;exact M8 h
end
end
section
def Fz.del(F:Fz)(b:Nat):Fz:={F with mem:=λk=>if k=b then none else F.mem k}
theorem SH.bK{w:World}{F:Fz}{b:Nat}{o:Obj}{H:HP}(h:SH w F H)(hb:F.mem b=some o):SH w (F.del b) (star (pt b o) H):=by
 obtain⟨m,hm,k⟩:=h
 have hmb:m (.blk b)=none:=by
  rcases k.dj b with h | h
  ·exact h
  ·rw[hb] at h;cases h
 refine⟨m.set (.blk b) (.obj o),D3 hmb hm,?_,?_,?_,?_,k.os,k.tape,k.out⟩
 ·intro x;by_cases e:x=b
  ·subst e;exact .inr (by simp[Fz.del])
  ·rcases k.dj x with h | h
   ·exact .inl (by simpa[Mem.set,e] using h)
   ·exact .inr (by simpa[Fz.del,e] using h)
 ·intro x c e;by_cases e' :x=b
  ·subst e';simp[Mem.set] at e;subst e;exact⟨o,rfl,k.frz _ _ hb⟩
  ·simp[Mem.set,e'] at e;exact k.own x c e
 ·intro γ c e;exact k.gst γ c (by simpa[Mem.set] using e)
 ·intro x c e;by_cases e' :x=b
  ·subst e';simp[Fz.del] at e
  ·exact k.frz x c (by simpa[Fz.del,e'] using e)
end
section
abbrev uW:=Nat->Int
end
section
section
variable{β:Type}{P:Program}{O:Option Nat}{ops:Array Oper}{rest:List Oper}{ks:List Kt}{Q:Exit->Act->World->Prop}{m:Option β}{r:β}
variable{n:Nat}{D:List Deferred}{S:List (Nat×Value)}{F:Fz}{hs:List HP}{d:Nat}{ty:TypeId}{pos:String}{after:Array Edge}{T:Array TypeId}
theorem QH.bX{α:Type}{sz cap e b:Nat}{c:Kb α}{F F0:Fz}{cs:List Value}{l l2:List α}(le:F0<=F)(le1:F<=F.add b (.cells cs.toArray e (0,0)))(h1:l.length<=cap)(h2:cap<=9223372036854775807)(hpp:JV sz c F0 l cs)(hl:∃k,l2=l.take k):QH sz c (F.add b (.cells cs.toArray e (0,0))) (some ⟨b,0,none⟩) cap l2:=by
 obtain⟨q,rfl⟩:=hl;refine⟨by rw[List.length_take];omega,h2,.inr ⟨b,0,cs.toArray,e,(0,0),rfl,Fz.wH _ _ _,λj x hx F' lf=> ?_⟩⟩;rw[List.getElem?_take] at hx
 split at hx
 ·simpa using hpp j x hx F' (Fz.t le (Fz.t le1 lf))
 ·cases hx
theorem GC.bZ{α:Type}{sz e cap:Nat}{c:Kb α}{F0:Fz}{p:Option Addr}{l:List α}{cd:Code}(i:Nat)(hi:hs[i]? =some (Qk sz c F0 e p cap l))(le0:F0<=F)
  (k:∀F1,F<=F1->QH sz c F1 p cap l->(∀F' w hs',F1<=F'->SH w F' (Qj hs')->∃F'',F<=F''/\SH w F'' (Qj (Qk sz c F0 e p cap l::hs')))->GC O P cd ks Q (Hd n D S F1 (hs.eraseIdx i)) m r):GC O P cd ks Q (Hd n D S F hs) m r:=
 λhm a w hA=>by
  have hp:=hA.2.pull hi;obtain⟨mm,⟨m1,m2,dd,s1,s2,⟨h1,h2,h3⟩,hq⟩,kk⟩:=hp;rcases h3 with⟨rfl,rfl⟩ | ⟨b,cs,rfl,hb,hl,hpp⟩
  ·have e1:l=[]:=List.eq_nil_of_length_eq_zero (by omega);subst e1;refine k F (Fz.le_refl _) ⟨by simp,by simp,.inl rfl⟩ (λF' w hs' le h=>⟨F',le,h.mono λm hm=> ?_⟩) hm a w ⟨hA.1,hA.2.wW i⟩;exact⟨λ_=>none,m,λ_=>.inl rfl,λ_ _ e=>by simp at e,Mem.sub.refl _,Bx,hm⟩
  ·have hh:SH w F (star (pt b (.cells cs.toArray e (0,0))) (Qj (hs.eraseIdx i))):=⟨mm,⟨m1,m2,dd,s1,s2,hb,hq⟩,kk⟩
   have hbn:F.mem b=none:=by
    rcases kk.dj b with h | h
    ·have:=s1 _ _ hb;rw[h] at this;cases this
    ·exact h
   obtain⟨le1,hw1⟩:=hh.freeze;refine k _ le1 (QH.bX le0 le1 h1 h2 hpp ⟨l.length,by simp⟩) (λF' w' hs' le hw=> ?_) hm a w ⟨hA.1,hw1⟩;have hb' :=le.mem _ _ (Fz.wH F b (.cells cs.toArray e (0,0)))
   have hle:F<=F'.del b:=⟨le.os,le.tape,le.out,λk x hx=>by
    have hk:k≠b:=λe=>by rw[e,hbn] at hx;cases hx
    simp only[Fz.del,hk,if_false];exact le.mem _ _ (le1.mem _ _ hx),le.gh,le.gn⟩
   exact⟨F'.del b,hle,(hw.bK hb').mono λ_ hm=>QX (λm' hm' =>⟨h1,h2,.inr ⟨b,cs,rfl,hm',hl,hpp⟩⟩) hm⟩
theorem GL.xI{α γ:Type}{sz e cap:Nat}{c:Kb α}{F0:Fz}{p:Option Addr}{l l2:List α}{f:FuncId}{caps ags vs:List Value}{of:Operand}{os:List Operand}{ee:Option γ}{ρ:γ->Fz->Value->Prop}{g:γ->Option β}(ρ' :γ->Value->Prop)(i:Nat)(hi:hs[i]? =some (Qk sz c F0 e p cap l))(le0:F0<=F)(hl2:∃k,l2=l.take k)(hd:Nat.blt d n=true)
  (hcall:∀args w,(callFunc f args).run P w= .ok (.enter f args) w) (hf:QK S of=some (.func (.func f) #[] caps.toArray)) (ha:UC S os=some vs) (has:vs++caps=ags)
  (hc:∀F1,F<=F1->QH sz c F1 p cap l2->KE P f ags.toArray F1 ee ρ) (hρ:∀x F' v,ρ x F' v->ρ' x v)
  (k:∀x F' v,ee=some x->F<=F'->ρ' x v->GL O P ops rest ks Q (Hd n D ((d,v)::S) F' hs) (g x) r):
  GL O P ops (⟨some d,.call ⟨.value of,os.toArray,T⟩,ty,pos,after,none⟩::rest) ks Q (Hd n D S F hs) (ee.bind g) r:=
 GL.xE rfl (.inr rfl) λhm a w hA=>by
  subst has;refine⟨U2 hA.1 hcall hf ha,?_⟩;cases he:ee with
  | none=>rw[he] at hm;cases hm
  | some y=>
   rw[he] at hm
   have hp:=hA.2.pull hi;obtain⟨mm,⟨m1,m2,dd,s1,s2,⟨h1,h2,h3⟩,hq⟩,kk⟩:=hp;rcases h3 with⟨rfl,rfl⟩ | ⟨b,cs,rfl,hb,hl,hpp⟩
   ·have e1:l2=[]:=by
     obtain⟨q,rfl⟩:=hl2;rw[List.eq_nil_of_length_eq_zero (l:=l) (by omega)];simp
    subst e1;refine((hc F (Fz.le_refl _) ⟨by simp,by simp,.inl rfl⟩) y he w _ hA.2).mono ?_;rintro _ w' ⟨F',v,le,rfl,hv,hw⟩;exact⟨_,rfl,k y F' v he le (hρ _ _ _ hv) hm _ _ ⟨hA.1.put hd _,hw⟩⟩
   ·have hh:SH w F (star (pt b (.cells cs.toArray e (0,0))) (Qj (hs.eraseIdx i))):=⟨mm,⟨m1,m2,dd,s1,s2,hb,hq⟩,kk⟩
    have hbn:F.mem b=none:=by
     rcases kk.dj b with h | h
     ·have:=s1 _ _ hb;rw[h] at this;cases this
     ·exact h
    obtain⟨le1,hw1⟩:=hh.freeze;refine(hc _ le1 (QH.bX le0 le1 h1 h2 hpp hl2) y he w _ hw1).mono ?_;rintro _ w' ⟨F',v,le,rfl,hv,hw⟩;have hb' :=le.mem _ _ (Fz.wH F b (.cells cs.toArray e (0,0)))
    have hle:F<=F'.del b:=⟨le.os,le.tape,le.out,λk x hx=>by
     have hk:k≠b:=λe=>by rw[e,hbn] at hx;cases hx
     simp only[Fz.del,hk,if_false];exact le.mem _ _ (le1.mem _ _ hx),le.gh,le.gn⟩
    refine⟨_,rfl,k y (F'.del b) v he hle (hρ _ _ _ hv) hm _ _ ⟨hA.1.put hd _,?_⟩⟩;have h5:=hw.bK hb';have h6:SH w' (F'.del b) (star (Qk sz c F0 e (some ⟨b,0,none⟩) cap l) (Qj (hs.eraseIdx i))):=h5.mono λ_ hm=>QX (λm' hm' =>⟨h1,h2,.inr ⟨b,cs,rfl,hm',hl,hpp⟩⟩) hm;have h7:=SH.push hi h6
    rwa[M8 hi] at h7
end
end
end Go.Dec
end
