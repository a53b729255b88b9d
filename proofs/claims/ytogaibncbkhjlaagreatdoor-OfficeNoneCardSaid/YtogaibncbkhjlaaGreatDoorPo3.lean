/- For OfficeNone. -/
import Derived.Test.YtogaibncbkhjlaaGreatDoorPo2
import Derived.Lib.LaidTab
import Derived.Shelf.Vars
import Derived.LaidMore
import Derived.Lay
import Derived.Handed
import Derived.SevenTiedAt
import Derived.Lib.UnsafeStr
import Derived.Lib.Builder
import Derived.Laws.Externs
noncomputable section
namespace Go.Dec
section
open Go.ChangeShapes Go.WideShapes Go.ChangeAt Go.RowKit
theorem Oh{P:Program}{w:World}{n:String}{d:DataW Unit}:∀{l:List (String×DataW Unit)} {ps:List MemPlace} (j:Nat),l[j]? =some (n,d)->DataW.LaidVars P w l ps->
  ∃g t cs fuel p T fr,P.globalNamed n=some g/\(P.globals[g]?).map (·.type)=some t/\w.heap[g]? =some (.cells cs T fr)/\DataW.trod (λ_=>()) P w 0 (λ_=>true) false fuel t cs.toList=some (d,p)
 | [],_,_,h,_=>by simp at h
 | x::l,ps,0,h,hl=>by
  simp at h;subst h
  obtain⟨g,t,cs,fuel,p,q,hg,ht,hv,hd,_,_⟩:=hl;unfold World.var? at hv
  rw[hg] at hv
  simp only[Option.bind_some] at hv
  split at hv
  ·rename_i cs' T fr hh;simp only[Option.some.injEq] at hv
   subst hv;exact⟨g,t,_,fuel,p,T,fr,hg,ht,hh,hd⟩
  ·cases hv
 | x::l,ps,j+1,h,hl=>by
  obtain⟨g,t,cs,fuel,p,q,hg,ht,hv,hd,hr,_⟩:=hl;exact Oh j (by simpa using h) hr
theorem Pm{w:World}{g:Nat}{m:Int}{k:IntKind}{P:Program}{t:TypeId}{zero:Array Value}(h:w.ShapedOpen P)(hg:g < P.globals.size)(h0:((begin P (λ_ _=>0) default).world.heap[g]?).bind Obj.row? =some (zero,t))(hz:zero.size=1)
  (hc:w.cell? ⟨g,0,none⟩=some (.int k m)):∃T fr,w.heap[g]? =some (.cells #[.int k m] T fr):=by
 obtain⟨cs,hh,hs,_⟩:=h.1 g zero t hg h0
 have h1:cs=#[.int k m]:=by
  rw[hz] at hs
  have h2:cs[0]? =some (.int k m):=by simpa[World.cell?,hh] using hc
  apply Array.ext
  ·rw[hs];rfl
  ·intro i h1 h3;have hi:i=0:=by simp at h3;exact h3
   subst hi;rw[Array.getElem?_eq_getElem h1] at h2
   simpa using h2
 exact⟨t,_,by rw[hh,h1]⟩
theorem Im{H:Type}{enc:TypeId×Value->H}{C:Checked}{os:Os}{f:FuncId}{fn:Func}{s:ChangeSpec}{conds:List PathCond}{apart fresh handsOn again:Bool}{X:World->Prop}
  (hX:∀(w w' :World),w.heap=w'.heap->X w->X w') (own:ownKnob C.prog.godebug=none) (started:os.Started) (noInit:C.prog.inits.idxOf? f=none) (hfn:C.prog.funcs[f]? =some fn)
  (witness:∃(w:World) (tape:Tape) (i:Input),w.os=os/\(w.forCall tape i).Shaped C.prog/\i.vars=[]/\Input.okWide C.prog (w.forCall tape i) .any w.heap.size f i/\
   ((s.pre enc C.prog fn conds apart (w.forCall tape i).memory i.args/\X (w.forCall tape i).memory)/\sizedMet enc C.prog fn (OpenSpec.ofChange s) apart (w.forCall tape i).memory i.args)/\({}:Assume).holds C.prog (lone (Frame.enter C.prog f i.args .normal) [] (w.forCall tape i)))
  (contract:∀(W:World) (base:Nat) (args:Array Value) (ds gs:List (DataW H)) (before:List MemPlace),(∀(j:Nat) t v,fn.params[j]? =some t->args[j]? =some v->Value.okWide C.prog W .any base t v)->
   DataW.Whole enc C.prog fn.params.toList s.vars apart W args.toList ds gs before->W.ShapedOpen C.prog->X W->
   Calls C.prog f args W λe W' =>∃v,e= .returned v/\s.post enc C.prog fn apart fresh handsOn again W args v W'):
  ReturnsInHanded {} C os f .any (λw args=>(s.pre enc C.prog fn conds apart w args/\X w)/\sizedMet enc C.prog fn (OpenSpec.ofChange s) apart w args) (s.post enc C.prog fn apart fresh handsOn again):=by
 refine returnsInHanded_of_calls own started noInit witness ?_;intro w tape i _ hsh _ hok hpre _;obtain⟨_,_,_,fn',hfn',_,_,_,_,hval⟩:=hok;have e:fn' =fn:=Option.some.inj (hfn'.symm.trans hfn);subst e;obtain⟨⟨⟨ds,gs,before,hw,hc⟩,hx⟩,hz⟩:=hpre;refine(contract (w.forCall tape i) w.heap.size i.args ds gs before hval (DataW.Whole.of_heap (w' :=w.forCall tape i) (by rfl) hw) hsh (hX _ _ (by rfl) hx)).mono λe W' ⟨v,he,hp⟩=> ?_;subst he;exact ChangeSpec.post_blind hp
theorem Rf{H:Type}{enc:TypeId×Value->H}{P:Program}{W:World}{f:FuncId}{fn:Func}{s:ChangeSpec}{tb:TypeId}{fresh:Bool}(hP:laidOutB P=true)(hread:(fn.params.toList.all λt=>P.readableRec t&&decide (t < P.types.size))=true)
  (hvars:s.vars=[]) (hrT:fn.resultTypes=#[tb]) (htb:P.underlying tb=some .bool)
  (hspec:∀ds:List (DataW H),ds.length=fn.params.toList.length->s.fn H ds={results:=[.lit (.bool true)],args:=ds})
  (hcall:∀(base:Nat) (args:Array Value) (ds:List (DataW H)) (ps:List MemPlace),(∀(j:Nat) t v,fn.params[j]? =some t->args[j]? =some v->Value.okWide P W .any base t v)->
   DataW.TrodAll enc P W 0 (λ_=>true) true fn.params.toList args.toList ds ps->KE P f args (FW W) (some true) (λr _ v=>v= .bool r))
  (base:Nat) (args:Array Value) (ds gs:List (DataW H)) (before:List MemPlace)
  (hval:∀(j:Nat) t v,fn.params[j]? =some t->args[j]? =some v->Value.okWide P W .any base t v)
  (hW:DataW.Whole enc P fn.params.toList s.vars false W args.toList ds gs before):
  Calls P f args W λe W' =>∃v,e= .returned v/\s.post enc P fn false fresh false false W args v W' :=by
 have hW' :=hW;obtain⟨p,q,hA,hV,rfl,hz,hn⟩:=hW;rw[hvars] at hV
 obtain⟨rfl,rfl⟩:=trodVars_none hV;refine(hcall base args ds p hval hA true rfl W CI (SH.start W)).mono λe W' ⟨F',v,le,he,hv,hs⟩=>⟨v,he,?_⟩;subst hv;have hb:=kE le hs;have hlt:∀x∈p,x.block < W.heap.size:=λx hx=>hW'.lt x (by simp[hx])
 have hsp:s.fn H (ds++[])={results:=[.lit (.bool true)],args:=ds}:=by
  rw[List.append_nil];exact hspec ds (An hA)
 refine⟨ds,[],p++[],[],p,[],hW',?_,?_,?_,hb.frame _,λh=>by cases h⟩
 ·rw[hsp,hrT];exact trodAll_mk1 (shut_bool htb true)
 ·rw[hsp];exact CU hP hb hread hA hlt
 ·rw[hsp,hvars];rfl
end
section
open Classical
def zZ(S:List (Nat×Value)):List (Nat×Value)->List (Option Value)
 | []=>[]
 | (k,_)::t=>Kw S k::zZ S t
def qm:List (Nat×Value)->List (Option Value)
 | []=>[]
 | (_,v)::t=>some v::qm t
theorem Sub.k{S:List (Nat×Value)}:∀{T:List (Nat×Value)},zZ S T=qm T->Sub T S
 | [],_=>Sub.nil S
 | (k,v)::t,h=>by
  simp only[zZ,qm,List.cons.injEq] at h
  exact Sub.cons h.1 (Sub.k h.2)
def jv(S:List (Nat×Value)):List Nat->List (Nat×Value)
 | []=>[]
 | k::t=>(k,(Kw S k).getD (.bool false))::jv S t
def yT(S:List (Nat×Value)):List Nat->List Bool
 | []=>[]
 | k::t=>(Kw S k).isSome::yT S t
theorem Sub.p{S:List (Nat×Value)}:∀(ks:List Nat),(yT S ks).all id=true->Sub (jv S ks) S
 | [],_=>Sub.nil S
 | k::t,h=>by
  simp only[yT,List.all_cons,id,Bool.and_eq_true] at h
  obtain⟨v,hv⟩:=Option.isSome_iff_exists.1 h.1;exact Sub.cons (by rw[hv];rfl) (Sub.p t h.2)
theorem y9{l:List Oper}{k:Nat}(h:Oy l k=true):∀t o,k<=t->l[t]? =some o->∀j,j < t->∃s,XA l s t j=true:=Px h
def BM(l:List Oper)(i:Nat)(S0:List (Nat×Value)):List Ur->Nat->List (Nat×Value)
 | [],_=>S0
 | q::qs,j=>match VR l j with
  | none=>BM l i S0 qs (j+1)
  | some d=>bif ((U8 [] l).getD i []).getD j false then(d,q.1)::BM l i S0 qs (j+1) else BM l i S0 qs (j+1)
theorem No{l:List Oper}{i:Nat}{S0 S:List (Nat×Value)}(h0:Sub S0 S){xs:List Ur}{L:Nat->Bool}(hdn:∀k j,XA l k i j=true->L j=true)
  (hV:∀(j d:Nat) (v:Value),L j=true->VR l j=some d->(xs[j]?).map Prod.fst=some v->Kw S d=some v):
  ∀(qs:List Ur) (j:Nat),xs.drop j=qs->Sub (BM l i S0 qs j) S
 | [],_,_=>h0
 | q::qs,j,e=>by
  have e1:xs[j]? =some q:=by rw[<-List.head?_drop,e];rfl
  have e2:xs.drop (j+1)=qs:=by rw[<-List.drop_drop,e];rfl
  have ih:=No h0 hdn hV qs (j+1) e2;unfold BM;cases hd:VR l j with
  | none=>exact ih
  | some d=>
   simp only;cases hb:((U8 [] l).getD i []).getD j false with
   | false=>exact ih
   | true=>
    have hM:Ai l (U8 [] l):=DH (pre:=[]) rfl rfl λt m hm=>by simp at hm
    obtain⟨s,hs⟩:∃s,XA l s i j=true:=by
     cases hm:(U8 [] l)[i]? with
     | none=>rw[List.getD_eq_getElem?_getD (l:=U8 [] l),hm] at hb;simp at hb
     | some m=>rw[List.getD_eq_getElem?_getD (l:=U8 [] l),hm] at hb;exact hM i m hm j hb
    exact Sub.cons (hV j d q.1 (hdn s j hs) hd (by rw[e1];rfl)) ih
section
variable{O:Option Nat}{β:Type}{P:Program}{n:Nat}{D:List Deferred}{S0:List (Nat×Value)}{F:Fz}
variable{ops:Array Oper}{l:List Oper}{X:Env->List Ur}{C:(Nat->Bool)->Env->List HP}{k:Nat}{o:Oper}{os:List Oper}
theorem jn.a(h:∀L env F',F<=F'->L k=false->(∀s j,XA l s k j=true->L j=true)->(∀s j,XA l s j k=true->L j=false)->(∀(j:Nat) (q:Ur),L j=true->(X env)[j]? =some q->∀G,F'<=G->q.2 G)->
  GL O P ops [o] [] (Gu n D l X C L env F' k o.dst (BM l k S0 (X env) 0)) (Hd n D (BM l k S0 (X env) 0) F' (C L env)) (some ()) ()):jn O P ops l n D S0 F X C k o:=
 λL env F' le hL hdn hup hphi=>⟨_,λ_ hS hV=>No hS hdn hV _ 0 rfl,h L env F' le hL hdn hup hphi⟩
theorem Br.a(h:∀L env F',F<=F'->L k=false->(∀s j,XA l s k j=true->L j=true)->(∀s j,XA l s j k=true->L j=false)->(∀(j:Nat) (q:Ur),L j=true->(X env)[j]? =some q->∀G,F'<=G->q.2 G)->
 GL O P ops [o] [] (Gu n D l X C L env F' k o.dst (BM l k S0 (X env) 0)) (Hd n D (BM l k S0 (X env) 0) F' (C L env)) (some ()) ()) (t:Br O P ops l n D S0 F X C (k+1) os):Br O P ops l n D S0 F X C k (o::os):=⟨jn.a h,t⟩
theorem Br.b(h:∀L env F',F<=F'->GL O P ops [o] [] (Gu n D l X C L env F' k o.dst (BM l k S0 (X env) 0)) (Hd n D (BM l k S0 (X env) 0) F' (C L env)) (some ()) ())(t:Br O P ops l n D S0 F X C (k+1) os):Br O P ops l n D S0 F X C k (o::os):=
 ⟨jn.a λL env F' le _ _ _ _=>h L env F' le,t⟩
end
abbrev vP(b o:Nat):Value:=.pointer (some ⟨b,o,none⟩)
abbrev vI(x:Int):Value:=.int .i64 x
abbrev vS{α:Type}(p:Option Addr)(l:List α)(k:Nat):Value:=.slice p l.length k
abbrev pc(b:Nat)(cs:List Value)(T:TypeId):HP:=pt b (.cells cs.toArray T)
theorem J{α:Sort _}{a:α}:a=a:=rfl
abbrev vT(v:Value):Ur:=(v,λ_=>True)
abbrev ON:=Option Nat
theorem JJ{n m:Nat}(h:Nat.ble n m=true):n<=m:=Nat.le_of_ble_eq_true h
def uQ(n k:Nat)(l:List Oper)(S0:List (Nat×Value)):Bool:=Rb 0 l&&Oy l k&&Nat.ble k l.length&&HQ n S0 (l.take k)
theorem GC.dG{O:Option Nat}{β:Type}{P:Program}{ks:List Kt}{Q:Exit->Act->World->Prop}{m:Option β}{r:β}{n:Nat}{D:List Deferred}{S0:List (Nat×Value)}{F:Fz}{hs:List HP}{id:Nat}{l:List Oper}(k g:Nat)(X:Env->List Ur)(C:(Nat->Bool)->Env->List HP)(hm:P.follows .mixedOrders=true)(hB:uQ n k l S0=true)
  (hX:∀env,(X env).length=k) (hC:∀env,C (λ_=>false) env=hs++List.replicate g CI)
  (hops:Br O P l.toArray l n D S0 F X C 0 (l.take k))
  (tail:∀env F',F<=F'->(∀(j:Nat) (q:Ur),(X env)[j]? =some q->q.2 F')->GL O P l.toArray (l.drop k) ks Q (Hd n D (MH (l.take k) (X env) S0) F' (C (λj=>Nat.blt j k) env)) m r):
  GC O P (.region id l.toArray true) ks Q (Hd n D S0 F hs) m r:=by
 simp only[uQ,Bool.and_eq_true] at hB
 exact GC.bF k g X C hm hB.1.1.1 (y9 hB.1.1.2) hB.1.2 hX hB.2 hC hops tail
abbrev CG.n:= @CG.nil
abbrev GL.m:= @GL.move
abbrev GL.s:= @GL.assign
abbrev GL.f:= @GL.fieldAddr
abbrev GL.x:= @GL.extract
abbrev GL.l:= @GL.alloc
abbrev GL.o:= @GL.norm
abbrev GL.n:= @GL.nil
abbrev GL.d:= @GL.bind
abbrev GS.m:= @GS.move
abbrev GS.s:= @GS.assign
abbrev GS.f:= @GS.fieldAddr
abbrev GS.x:= @GS.extract
abbrev GS.d:= @GS.bind
abbrev GC.g:= @GC.region
abbrev GC.q:= @GC.seq
abbrev GC.k:= @GC.block
abbrev GC.o:= @GC.norm
abbrev GC.i:= @GC.cond
abbrev GC.d:= @GC.bind
abbrev GE.c:= @GE.code
abbrev GE.k:= @GE.block
abbrev GE.o:= @GE.norm
abbrev GE.n:= @GE.nil
abbrev GE.d:= @GE.bind
theorem V1{α:Type}{j:Nat}(n:Nat)(f g:Nat->α)(h:(List.range n).map f=(List.range n).map g)(hj:j < n):f j=g j:=by
 have h1:=congrArg (λl=>l[j]?) h;simp only[List.getElem?_map,List.getElem?_range hj,Option.map_some,Option.some.injEq] at h1
 exact h1
end
section
variable{O:Option Nat}
def zk{ι:Type}(Φ:ι->Prop)(l:ι->List HP):HP:=λm=>∃q,Φ q/\Qj (l q) m
section
variable{β ι:Type}{X:Act->World->Prop}{m:Option β}{r:β}{n:Nat}{D:List Deferred}{S:List (Nat×Value)}{F F0:Fz}{hs:List HP}{Φ:ι->Prop}{l:ι->List HP}
theorem GG.xZ(i:Nat)(hi:hs[i]? =some (zk Φ l))(k:∀q,Φ q->GG X (Hd n D S F (l q++hs.eraseIdx i)) m r):GG X (Hd n D S F hs) m r:=λhm a w ha=>by
 obtain⟨m1,⟨m2,m3,d,s1,s2,⟨q,hq,hl⟩,hr⟩,hk⟩:=ha.2.pull hi;exact k q hq hm a w ⟨ha.1,m1,K4 ⟨m2,m3,d,s1,s2,hl,hr⟩,hk⟩
theorem GG.gq(is:List Nat)(q:ι)(hq:Φ q)(hp:K9 is hs=l q)(k:GG X (Hd n D S F (zk Φ l::JN is hs)) m r):GG X (Hd n D S F hs) m r:=λhm a w ha=>
 k hm a w ⟨ha.1,ha.2.mono λ_ hm=>QX (λ_ h=>⟨q,hq,hp▸h⟩) (VZ (ks:=is) hm)⟩
theorem Q5{p p' :HP}{l l' :List HP}(h1:∀m,p m->p' m)(h2:∀m,Qj l m->Qj l' m):∀m,Qj (p::l) m->Qj (p' ::l') m:=λ_ h=>QX h1 (QR h2 h)
theorem GG.w4{l0:List HP}(is:List Nat)(q:ι)(hq:Φ q)(hp:K9 is hs=l0)(hi:∀m,Qj l0 m->Qj (l q) m)(k:GG X (Hd n D S F (zk Φ l::JN is hs)) m r):GG X (Hd n D S F hs) m r:=λhm a w ha=>
 k hm a w ⟨ha.1,ha.2.mono λ_ hm=>QX (λ_ h=>⟨q,hq,hi _ (hp▸h)⟩) (VZ (ks:=is) hm)⟩
theorem GG.bI{p p' :HP}(i:Nat)(hp:∀m,p m->p' m)(hi:hs[i]? =some p)(k:GG X (Hd n D S F (hs.set i p')) m r):GG X (Hd n D S F hs) m r:=λhm a w ha=>
 k hm a w ⟨ha.1,SH.push hi ((ha.2.pull hi).mono λ_ h=>QX hp h)⟩
theorem GG.ins{p:HP}(hp:∀m,p m)(k:GG X (Hd n D S F (p::hs)) m r):GG X (Hd n D S F hs) m r:=λhm a w ha=>
 k hm a w ⟨ha.1,ha.2.mono λm h=>⟨λ_=>none,m,λ_=>.inl rfl,λ_ _ e=>by simp at e,Mem.sub.refl _,hp _,h⟩⟩
end
def ET{α:Type}(sz:Nat)(c:Kb α)(F:Fz)(T:TypeId)(p:Option Addr)(cap:Nat)(l:List α):HP:=λm=>Qk sz c F T p cap l m∨QH sz c F p cap l
section
variable{β α:Type}{X:Act->World->Prop}{m:Option β}{r:β}{n:Nat}{D:List Deferred}{S:List (Nat×Value)}{F F0 F' :Fz}{hs:List HP}{sz cap:Nat}{c:Kb α}{T:TypeId}{p:Option Addr}{l:List α}
theorem ES{m:Mem}(le:F<=F')(h:ET sz c F T p cap l m):ET sz c F' T p cap l m:=h.imp (Vd le) (λh=>h.mono le)
theorem GG.xQ(i:Nat)(hi:hs[i]? =some (ET sz c F0 T p cap l))(le0:F0<=F)(k:∀F',F<=F'->QH sz c F' p cap l->GG X (Hd n D S F' (hs.eraseIdx i)) m r):GG X (Hd n D S F hs) m r:=λhm a w ha=>by
 obtain⟨m1,⟨m2,m3,d,s1,s2,hq,hr⟩,hk⟩:=ha.2.pull hi;rcases hq with hq | hq
 ·obtain⟨F',le,h1,h2⟩:=SH.wB le0 (w:=w) (H:=Qj (hs.eraseIdx i)) ⟨m1,⟨m2,m3,d,s1,s2,hq,hr⟩,hk⟩;exact k F' le h2 hm a w ⟨ha.1,h1⟩
 ·exact k F (Fz.le_refl F) (hq.mono le0) hm a w ⟨ha.1,m3,hr,hk.sub s2⟩
end
def UD{α:Type}(T:TypeId)(c:Kb α)(F:Fz)(p:Option Addr):Option α->Prop
 | none=>p=none
 | some x=>∃b cs,p=some ⟨b,0,none⟩/\F.mem b=some (.cells (List.toArray cs) T)/\∀F',F<=F'->c F' x cs
section
variable{α:Type}{T:TypeId}{c:Kb α}{F F' :Fz}{p:Option Addr}{x:Option α}{a:α}
theorem UD.mono(h:UD T c F p x)(le:F<=F'):UD T c F' p x:=by
 cases x with
 | none=>exact h
 | some x=>obtain⟨b,cs,h1,h2,h3⟩:=h;exact⟨b,cs,h1,le.mem _ _ h2,λG l=>h3 G (Fz.le_trans le l)⟩
theorem UD.nil:UD T c F none none:=rfl
theorem UD.of{b:Nat}{cs:List Value}(h:F.mem b=some (.cells (List.toArray cs) T))(hc:∀F',F<=F'->c F' a cs):UD T c F (some ⟨b,0,none⟩) (some a):=⟨b,cs,rfl,h,hc⟩
theorem UD.at(h:UD T c F p x)(e:x=some a):∃b cs,F.mem b=some (.cells (List.toArray cs) T)/\p=some ⟨b,0,none⟩/\c F a cs:=by
 subst e;obtain⟨b,cs,h1,h2,h3⟩:=h;exact⟨b,cs,h2,h1,h3 F (Fz.le_refl F)⟩
theorem UD.isNone(h:UD T c F p x):p.isNone=x.isNone:=by
 cases x with
 | none=>have:p=none:=h;rw[this];rfl
 | some x=>obtain⟨b,cs,h1,_⟩:=h;rw[h1];rfl
end
section
variable{β:Type}{P:Program}{ops:Array Oper}{rest:List Oper}{ks:List Kt}{Q:Exit->Act->World->Prop}{m:Option β}{r:β}
variable{n:Nat}{D:List Deferred}{S:List (Nat×Value)}{F F0:Fz}{hs:List HP}
variable{d:Nat}{ty t:TypeId}{pos:String}{after:Array Edge}{ox oy oz:Operand}
theorem GL.fl{α:Type}{T:TypeId}{c:Kb α}{e t' :TypeId}{p:Option Addr}{x:Option α}(h:UD T c F p x)(hd:Nat.blt d n=true)(ht:P.underlying t=some (.pointer e))(hx:QK S ox=some (.pointer p))(hy:QK S oy=some (.pointer none))(k:GL O P ops rest ks Q (Hd n D ((d,.bool x.isNone)::S) F hs) m r):
  GL O P ops (⟨some d,.binOp .eql t ox oy t',ty,pos,after,none⟩::rest) ks Q (Hd n D S F hs) m r:=
 GL.val hd (λa w ha=>by
  have hq:(Op.equal t (.pointer p) (.pointer none)).run P w= .ok p.isNone w:=FU ht 9999;have hg:P.eqGuardType P.depth t=false∨P.eqGuardType P.depth t=true:=by cases P.eqGuardType P.depth t<;>simp
  simp[execOp,ha.1.eval hx,ha.1.eval hy,eqGuard,binOp,hq,h.isNone]) k
theorem GL.fe{α:Type}{T:TypeId}{c:Kb α}{e t' :TypeId}{p:Option Addr}{x:Option α}(h:UD T c F p x)(hd:Nat.blt d n=true)(ht:P.underlying t=some (.pointer e))(hx:QK S ox=some (.pointer p))(hy:QK S oy=some (.pointer none))(k:GL O P ops rest ks Q (Hd n D ((d,.bool (!x.isNone))::S) F hs) m r):
  GL O P ops (⟨some d,.binOp .neq t ox oy t',ty,pos,after,none⟩::rest) ks Q (Hd n D S F hs) m r:=
 GL.val hd (λa w ha=>by
  have hq:(Op.equal t (.pointer p) (.pointer none)).run P w= .ok p.isNone w:=FU ht 9999;have hg:P.eqGuardType P.depth t=false∨P.eqGuardType P.depth t=true:=by cases P.eqGuardType P.depth t<;>simp
  simp[execOp,ha.1.eval hx,ha.1.eval hy,eqGuard,binOp,hq,h.isNone]) k
section
variable{K V:Type}{ck:K->Value}{rv:Fz->V->Value->Prop}
def Uf(ck:K->Value)(rv:Fz->V->Value->Prop)(F:Fz)(p:Option Nat)(l:List (K×V)):Prop:=∃(b:Nat) (es:Array MapEntry) (clock:Nat) (l' :List (K×V)),p=some b/\l'.Perm l/\(l.map Prod.fst).Nodup/\F.mem b=some (.map es clock)/\UB ck rv F es.toList l'/\J3 es.toList clock
theorem Uf.mono{F F' :Fz}{p:Option Nat}{l:List (K×V)}(h:Uf ck rv F p l)(le:F<=F'):Uf ck rv F' p l:=let⟨b,es,c,l',e,h0,h00,h1,h2,h3⟩:=h;⟨b,es,c,l',e,h0,h00,le.mem _ _ h1,h2.up le,h3⟩
theorem GG.wU[BEq K]{X:Act->World->Prop}{b:Nat}{l:List (K×V)}(i:Nat)(hi:hs[i]? =some (QU ck rv F0 b l))(le:F0<=F)(k:∀F',F<=F'->Uf ck rv F' (some b) l->GG X (Hd n D S F' (hs.eraseIdx i)) m r):GG X (Hd n D S F hs) m r:=λhm a w ha=>by
 obtain⟨es,c,l',h0,h00,_,h2,h3,h5⟩:=Ui (ha.2.pull hi);obtain⟨l1,h4⟩:=h3.freeze;exact k _ l1 ⟨b,es,c,l',rfl,h0,h00,Fz.wH F b _,(h2.up le).up l1,h5⟩ hm a w ⟨ha.1,h4⟩
theorem GL.wU[BEq K]{b:Nat}{l:List (K×V)}(i:Nat)(hi:hs[i]? =some (QU ck rv F0 b l))(le:F0<=F)(k:∀F',F<=F'->Uf ck rv F' (some b) l->GL O P ops rest ks Q (Hd n D S F' (hs.eraseIdx i)) m r):GL O P ops rest ks Q (Hd n D S F hs) m r:=GG.wU i hi le k
variable{b:Nat}{l:List (K×V)}{key:K}{z:V}{kt vt:TypeId}{zv:Value}
variable[BEq K][LawfulBEq K]
theorem GL.wb(i:Nat)(hi:hs[i]? =some (QU ck rv F0 b l))(le0:F0<=F)(hd:Nat.blt d n=true)(ht:P.underlying t=some (.map kt vt))(ok:Wm P kt ck)(hzv:∀w,(zeroValue vt).run P w= .ok zv w)(hz:rv F z zv)(hx:QK S ox=some (.map (some b)))(hy:QK S oy=some (ck key))
  (k:∀v,rv F ((Qc l key).getD z) v->GL O P ops rest ks Q (Hd n D ((d,v)::S) F hs) m r):GL O P ops (⟨some d,.lookup t ox oy false,ty,pos,after,none⟩::rest) ks Q (Hd n D S F hs) m r:=by
 refine GL.step rfl (.inr rfl) λhm a w ha=> ?_;obtain⟨es,c,l',hpm,hn,hb',hr,_⟩:=Ui (ha.2.pull hi);obtain⟨v,hv,hrun⟩:=Xn (key:=key) hb' hr le0 ht ok hzv hz false;rw[Vn hpm hn] at hv
 refine⟨v,w,?_,k v hv hm _ _ ⟨ha.1.put hd _,ha.2⟩⟩;simp[execOp,ha.1.eval hx,ha.1.eval hy,hrun]
theorem GL.gN(i:Nat)(hi:hs[i]? =some (QU ck rv F0 b l))(le0:F0<=F)(hd:Nat.blt d n=true)(ht:P.underlying t=some (.map kt vt))(ok:Wm P kt ck)(hzv:∀w,(zeroValue vt).run P w= .ok zv w)(hz:rv F z zv)(hx:QK S ox=some (.map (some b)))(hy:QK S oy=some (ck key))
  (k:∀v,rv F ((Qc l key).getD z) v->GL O P ops rest ks Q (Hd n D ((d,.tuple #[v,.bool (Qc l key).isSome])::S) F hs) m r):GL O P ops (⟨some d,.lookup t ox oy true,ty,pos,after,none⟩::rest) ks Q (Hd n D S F hs) m r:=by
 refine GL.step rfl (.inr rfl) λhm a w ha=> ?_;obtain⟨es,c,l',hpm,hn,hb',hr,_⟩:=Ui (ha.2.pull hi);obtain⟨v,hv,hrun⟩:=Xn (key:=key) hb' hr le0 ht ok hzv hz true;rw[Vn hpm hn] at hv hrun
 refine⟨_,w,?_,k v hv hm _ _ ⟨ha.1.put hd _,ha.2⟩⟩;simp[execOp,ha.1.eval hx,ha.1.eval hy,hrun]
end
theorem GL.gO{K V:Type}{ck:K->Value}{rv:Fz->V->Value->Prop}{b:Nat}{l:List (K×V)}{key:K}{kt vt:TypeId}{zv:Value}[BEq K][LawfulBEq K](h:Hr ck rv F b l)(hd:Nat.blt d n=true)(ht:P.underlying t=some (.map kt vt))(ok:Wm P kt ck)(hzv:∀w,(zeroValue vt).run P w= .ok zv w)(hx:QK S ox=some (.map (some b)))(hy:QK S oy=some (ck key))
  (k1:Qc l key=none->GL O P ops rest ks Q (Hd n D ((d,.tuple #[zv,.bool false])::S) F hs) m r)
  (k2:∀x v,Qc l key=some x->rv F x v->GL O P ops rest ks Q (Hd n D ((d,.tuple #[v,.bool true])::S) F hs) m r):GL O P ops (⟨some d,.lookup t ox oy true,ty,pos,after,none⟩::rest) ks Q (Hd n D S F hs) m r:=by
 refine GL.step rfl (.inr rfl) λhm a w ha=> ?_;obtain⟨es,c,l',hpm,hn,hb,hr⟩:=h;obtain⟨kd,hu,hsame⟩:=ok.und;have hb' :=ha.2.frozen hb;have he:=Vn (k:=key) hpm hn;rcases hr.find (k:=key) hsame ok.eq 0 with⟨g1,g2,_⟩ | ⟨j,e1,x1,g1,g2,g3,g4,g5,_⟩
 ·have hf:=run_findKey (w:=w) hu g2;refine⟨.tuple #[zv,.bool false],w,?_,k1 (by rw[<-he];exact g1) hm _ _ ⟨ha.1.put hd _,ha.2⟩⟩;simp[execOp,Instr.lookup,ha.1.eval hx,ha.1.eval hy,Je ht,J4 hb',ok.check,hf,hzv]
 ·have hf:=run_findKey (w:=w) hu g4;refine⟨.tuple #[e1.val,.bool true],w,?_,k2 x1 e1.val (by rw[<-he];exact g3) (g5 F (Fz.le_refl F)) hm _ _ ⟨ha.1.put hd _,ha.2⟩⟩;simp[execOp,Instr.lookup,ha.1.eval hx,ha.1.eval hy,Je ht,J4 hb',ok.check,hf]
end
section
variable{β:Type}{P:Program}{ops:Array Oper}{rest:List Oper}{E:Act->World->Prop}{m:Option β}{r:β}
variable{n:Nat}{D:List Deferred}{S:List (Nat×Value)}{F F0:Fz}{hs:List HP}
variable{d:Nat}{ty t:TypeId}{pos:String}{after:Array Edge}{ox oy oz:Operand}
section
variable{K V:Type}{ck:K->Value}{rv:Fz->V->Value->Prop}{b:Nat}{l:List (K×V)}{key:K}{z:V}{kt vt:TypeId}{zv:Value}
variable[BEq K][LawfulBEq K]
theorem GS.wb(i:Nat)(hi:hs[i]? =some (QU ck rv F0 b l))(le0:F0<=F)(hd:Nat.blt d n=true)(ht:P.underlying t=some (.map kt vt))(ok:Wm P kt ck)(hzv:∀w,(zeroValue vt).run P w= .ok zv w)(hz:rv F z zv)(hx:QK S ox=some (.map (some b)))(hy:QK S oy=some (ck key))
  (k:∀v,rv F ((Qc l key).getD z) v->GS P ops rest E (Hd n D ((d,v)::S) F hs) m r):GS P ops (⟨some d,.lookup t ox oy false,ty,pos,after,none⟩::rest) E (Hd n D S F hs) m r:=by
 refine GS.step rfl λhm a w ha=> ?_;obtain⟨es,c,l',hpm,hn,hb',hr,_⟩:=Ui (ha.2.pull hi);obtain⟨v,hv,hrun⟩:=Xn (key:=key) hb' hr le0 ht ok hzv hz false;rw[Vn hpm hn] at hv
 refine⟨v,?_,k v hv hm _ _ ⟨ha.1.put hd _,ha.2⟩⟩;simp[execOp,ha.1.eval hx,ha.1.eval hy,hrun]
end
end
section
variable{P:Program}{w:World}{t e sz:Nat}{kd kd' kd'' :IntKind}{x y:Int}{p:Option Addr}{len cap:Nat}
theorem TD(ht:P.underlying t=some (.slice e))(hz:∀w,(sizeOf e).run P w= .ok sz w)(h:0<=x/\x<=y)(h' :y<=cap):
  (Instr.sliceAt t (.slice p len cap) (some (.int kd x)) (some (.int kd' y)) (some (.int kd'' y))).run P w= .ok (.slice (if y.toNat=x.toNat then p else p.map (·.add (x.toNat*sz))) (y.toNat - x.toNat) (y.toNat - x.toNat)) w:=by
 simp only[Instr.sliceAt,Sem.run_bind,Je ht,Result.andThen,Instr.slice,Instr.sliceBounds,Sem.run_pure,Option.isSome_some,if_true];rw[Wo (kd:=kd'') (by omega)];simp only[];rw[Wo (kd:=kd') (by omega)];simp only[];rw[Wo (by omega)];simp[hz]
end
section
variable{β:Type}{P:Program}{ops:Array Oper}{rest:List Oper}{ks:List Kt}{Q:Exit->Act->World->Prop}{m:Option β}{r:β}
variable{n:Nat}{D:List Deferred}{S:List (Nat×Value)}{F:Fz}{hs:List HP}{d:Nat}{ty t:TypeId}{pos:String}{after:Array Edge}{ox oy oz ou:Operand}{kd:IntKind}{x y:Int}
theorem GL.gX{α:Type}{sz:Nat}{c:Kb α}{p:Option Addr}{cap e:Nat}{l:List α}{kd' kd'' :IntKind}{f:List α->Option β}(hd:Nat.blt d n=true)(ht:P.underlying t=some (.slice e))(hz:∀w,(sizeOf e).run P w= .ok sz w)
  (hr:QH sz c F p cap l) (hx:QK S ox=some (.slice p l.length cap)) (hy:QK S oy=some (.int kd x)) (hm:QK S oz=some (.int kd' y)) (hu:QK S ou=some (.int kd'' y))
  (k:∀l' p' c',ZW l x y=some l'->QH sz c F p' c' l'->GL O P ops rest ks Q (Hd n D ((d,.slice p' l'.length c')::S) F hs) (f l') r):
  GL O P ops (⟨some d,.slice t ox (some oy) (some oz) (some ou),ty,pos,after,none⟩::rest) ks Q (Hd n D S F hs) ((ZW l x y).bind f) r:=
 GL.bind λl' hl=>by
  have hl' :=hl;unfold ZW at hl
  split at hl
  ·rename_i h;simp only[Option.some.injEq] at hl
   have hcut:QH sz c F (p.map (·.add (x.toNat*sz))) (y.toNat - x.toNat) l' :=by
    have:=hr.cut (lo:=x.toNat) (hi:=y.toNat) (cap' :=y.toNat - x.toNat) (by omega) (by omega) (by have:=hr.1;omega) (by have:=hr.1;omega);rw[<-hl];exact this
   have hlen:l'.length=y.toNat - x.toNat:=by rw[<-hl];simp;omega
   have hrep:QH sz c F (if y.toNat=x.toNat then p else p.map (·.add (x.toNat*sz))) (y.toNat - x.toNat) l' :=N8 (λh=>by
    have:l' =[]:=by have:=hcut.1;rw[<-h] at this;simp at this;exact this
    subst this;exact hcut.dW) hcut
   have hk:=k l' _ _ hl' hrep;rw[hlen] at hk
   refine GL.val hd (λa w ha=> ?_) hk;simp only[execOp,ha.1.eval hx,ha.1.eval hy,ha.1.eval hm,ha.1.eval hu,Option.map_some,Sem.run_bind];rw[TD ht hz (by omega) (by have:=hr.1;omega)];rfl
  ·cases hl
end
section
variable{P:Program}{w:World}{t:Nat}{kd:IntKind}{x:Int}{s:List UInt8}
theorem RV(ht:P.underlying t=some .string)(h:0<=x/\x<=s.length):
  (Instr.sliceAt t (.string (bs s)) (some (.int kd x)) none none).run P w= .ok (.string (bs (s.drop x.toNat))) w:=by
 simp only[Instr.sliceAt,Sem.run_bind,Je ht,Result.andThen,Instr.slice,Instr.sliceBounds,Sem.run_pure,Option.isSome_none,Bool.false_eq_true,if_false,Su];rw[Wo (by omega)];simp[C7];rw[List.take_of_length_le];simp
variable{n:Nat}{D:List Deferred}{S:List (Nat×Value)}{a:Act}{d:Nat}{ty:TypeId}{pos:String}{after:Array Edge}{ox oy:Operand}
theorem T8(h:Sl n D S a)(ht:P.underlying t=some .string)(hx:QK S ox=some (.string (bs s)))(hy:QK S oy=some (.int kd x)){l:List UInt8}(hl:ZW s x s.length=some l):
  (execOp a.eval ⟨some d,.slice t ox (some oy) none none,ty,pos,after,none⟩).run P w= .ok (.value (.string (bs l))) w:=by
 unfold ZW at hl
 split at hl
 ·rename_i hh;simp only[Option.some.injEq] at hl
  simp only[execOp,h.eval hx,h.eval hy,Option.map_some,Option.map_none,Sem.run_bind];rw[RV ht (by omega),<-hl,List.take_of_length_le (by simp)];rfl
 ·cases hl
end
section
variable{β:Type}{P:Program}{ops:Array Oper}{rest:List Oper}{ks:List Kt}{Q:Exit->Act->World->Prop}{E:Act->World->Prop}{m:Option β}{r:β}
variable{n:Nat}{D:List Deferred}{S:List (Nat×Value)}{F:Fz}{hs:List HP}{d:Nat}{ty t:TypeId}{pos:String}{after:Array Edge}{ox oy:Operand}{kd:IntKind}{x:Int}{s:List UInt8}
theorem GL.fp{f:List UInt8->Option β}(hd:Nat.blt d n=true)(ht:P.underlying t=some .string)(hx:QK S ox=some (.string (bs s)))(hy:QK S oy=some (.int kd x))(k:∀z,ZW s x s.length=some z->GL O P ops rest ks Q (Hd n D ((d,.string (bs z))::S) F hs) (f z) r):
  GL O P ops (⟨some d,.slice t ox (some oy) none none,ty,pos,after,none⟩::rest) ks Q (Hd n D S F hs) ((ZW s x s.length).bind f) r:=
 GL.bind λz h=>GL.val hd (λa w ha=>T8 ha.1 ht hx hy h) (k z h)
theorem GS.fR{z:List UInt8}(h:ZW s x s.length=some z)(hd:Nat.blt d n=true)(ht:P.underlying t=some .string)(hx:QK S ox=some (.string (bs s)))(hy:QK S oy=some (.int kd x))(k:GS P ops rest E (Hd n D ((d,.string (bs z))::S) F hs) m r):
  GS P ops (⟨some d,.slice t ox (some oy) none none,ty,pos,after,none⟩::rest) E (Hd n D S F hs) m r:=
 GS.val hd (λa w ha=>T8 ha.1 ht hx hy h) k
end
theorem kD{a b:List UInt8}:(bs a==bs b)=(a==b):=by
 show(bs a).beq (bs b)=_;unfold ByteArray.beq;simp[bs]
theorem Wm.str{P:Program}{t:TypeId}(h:P.underlying t=some .string):Wm P t (λx:List UInt8=>.string (bs x)) where
 und:=⟨_,h,λa b=>by simp only[Instr.sameNow];rw[kD]⟩
 check e k w:=by unfold Instr.checkKey;simp[Je h]
 same a:=by show(bs a==bs a)=true;rw[kD,beq_self_eq_true]
 eq a b e:=by simpa using e
section
variable{ε β:Type}{P:Program}{penc:ε->Value}{fn:Func}
def SY(P:Program)(penc:ε->Value)(fn:Func)(F:Fz)(R:HP)(ρ:β->Fz->Value->Prop)(Hs' :β->Fz->Value->List HP)(r:Out ε β):Exit->Act->World->Prop:=
 bodyPostM Fence.wide 0 P fn (λe w' =>∃F',F<=F'/\match r with
  | .ok x=>∃v,e= .returned v/\ρ x F' v/\SH w' F' (star (Qj (Hs' x F' v)) R)
  | .pan x=>e= .panicked [{v:=penc x,recovered:=false}]/\SH w' F' R)
theorem VJ.xC{f:FuncId}{c:Code}{args:List Value}{F:Fz}{Hs:List HP}{m:Option (Out ε β)}{ρ:β->Fz->Value->Prop}{Hs' :β->Fz->Value->List HP}{n:Nat}
  (hf:P.funcs[f]? =some fn) (hb:fn.body=some c) (hn:fn.ntmps=n) (ha:Nat.ble args.length n=true)
  (k:∀r R,GC none P c [] (SY P penc fn F R ρ Hs' r) (Hd n [] (Dc 0 args) F (Hs++[R])) m r):VJ P penc f args.toArray F Hs m ρ Hs' :=by
 intro r hm w R hw;refine(callsIn_wide (n:=0)).1 (callsIn_of_wp_marks hf hb trivial (k r R hm _ w ⟨?_,hw.mono λm hm=>K4 (QR (λ_ h=>Y5 h) hm)⟩));rw[hn];exact U1 ha
theorem Lb{tmps:Array Value}{R:Ending->World->Prop}{F:Fz}{chain:List PanicEntry}:∀{ms:List (Nat×Nat)} {hs:List HP} {w:World},SH w F (Qj hs)->zQ hs ms->
  (∀w',SH w' F (Qj (Xg hs ms))->R (.panicked chain) w')->LeavesInM Fence.wide 0 P fn tmps R (ms.map λp=>U7 p.2) (.panicking chain) w
 | [],hs,w,h,_,k=>k w h
 | (i,q)::ms,hs,w,h,ho,k=>by
  refine⟨by simp,.inl ⟨q,_,rfl,run_takeDeferred (SH.wD ho.1 h),?_⟩⟩;exact Lb (SH.putAt ho.1 h _) ho.2 k
variable{n:Nat}{S:List (Nat×Value)}{F F' :Fz}{hs:List HP}{ks:List Kt}{R:HP}{ρ:β->Fz->Value->Prop}{Hs' :β->Fz->Value->List HP}{x:β}{r:Out ε β}{rs:List ResultVar}{vs:List Value}{ms:List (Nat×Nat)}
theorem EY(is:List Nat)(ms:List (Nat×Nat))(hr:fn.results=rs.toArray)(ho:zQ hs ms)(h:CG P S F' (Xg hs ms) rs vs)(hi:K9 is (Xg hs ms)=Hs' x F' (CS vs)++[R])(le:F<=F')(hρ:ρ x F' (CS vs)):
  some (Out.ok x)=some r->∀a w,Hd n (ms.map λp=>U7 p.2) S F' hs a w->SY P penc fn F R ρ Hs' r .ret a w:=by
 intro e a w ha;simp only[Option.some.injEq] at e
 subst e;show LeavesInM Fence.wide 0 P fn a.tmps _ a.defers .returning w;rw[ha.1.2.1];refine TY ha.2 ho λw' h' => ?_
 exact⟨_,Jo (n:=n) (a:=a) (D:=a.defers) hr ⟨⟨ha.1.1,rfl,ha.1.2.2⟩,h'⟩ h,F',le,_,rfl,hρ,h'.mono λm hm=>by
  have h1:=Y2 (ks:=is) hm;rw[hi] at h1
  exact W0 (Y6 h1)⟩
theorem GC.dY(is:List Nat)(ms:List (Nat×Nat))(hr:fn.results=rs.toArray)(ho:zQ hs ms)(h:CG P S F' (Xg hs ms) rs vs)(hi:K9 is (Xg hs ms)=Hs' x F' (CS vs)++[R])(le:F<=F')(hρ:ρ x F' (CS vs)):
 GC O P .ret ks (SY P penc fn F R ρ Hs' r) (Hd n (ms.map λp=>U7 p.2) S F' hs) (some (.ok x)) r:=GC.wN (EY is ms hr ho h hi le hρ)
theorem Xr{q:ε}{i:Nat}(ms:List (Nat×Nat))(ho:zQ hs ms)(hi:(Xg hs ms)[i]? =some R)(le:F<=F'):
  some (Out.pan q)=some r->∀a w,Hd n (ms.map λp=>U7 p.2) S F' hs a w->SY P penc fn F R ρ Hs' r (.panic [{v:=penc q,recovered:=false}]) a w:=by
 intro e a w ha;simp only[Option.some.injEq] at e
 subst e;show LeavesInM Fence.wide 0 P fn a.tmps _ a.defers (.panicking _) w;rw[ha.1.2.1];exact Lb ha.2 ho λw' h' =>⟨F',le,rfl,h'.only hi⟩
end
section
variable{β:Type}{P:Program}{ops:Array Oper}{l0:List Oper}{cd:Code}{ks:List Kt}{Q:Exit->Act->World->Prop}{m:Option β}{r:β}
variable{n:Nat}{D:List Deferred}{S:List (Nat×Value)}{F F0:Fz}{hs:List HP}
theorem GL.wc{p p' :HP}(i:Nat)(hp:∀m,p m->p' m)(hi:hs[i]? =some p)(k:GL O P ops l0 ks Q (Hd n D S F (hs.set i p')) m r):GL O P ops l0 ks Q (Hd n D S F hs) m r:=GG.bI i hp hi k
theorem GC.wc{p p' :HP}(i:Nat)(hp:∀m,p m->p' m)(hi:hs[i]? =some p)(k:GC O P cd ks Q (Hd n D S F (hs.set i p')) m r):GC O P cd ks Q (Hd n D S F hs) m r:=GG.bI i hp hi k
theorem GE.wc{p p' :HP}(i:Nat)(hp:∀m,p m->p' m)(hi:hs[i]? =some p)(k:GE O P ks Q (Hd n D S F (hs.set i p')) m r):GE O P ks Q (Hd n D S F hs) m r:=GG.bI i hp hi k
section
variable{ι:Type}{Φ:ι->Prop}{l:ι->List HP}
theorem GL.xZ(i:Nat)(hi:hs[i]? =some (zk Φ l))(k:∀q,Φ q->GL O P ops l0 ks Q (Hd n D S F (l q++hs.eraseIdx i)) m r):GL O P ops l0 ks Q (Hd n D S F hs) m r:=GG.xZ i hi k
theorem GC.gq(is:List Nat)(q:ι)(hq:Φ q)(hp:K9 is hs=l q)(k:GC O P cd ks Q (Hd n D S F (zk Φ l::JN is hs)) m r):GC O P cd ks Q (Hd n D S F hs) m r:=GG.gq is q hq hp k
end
section
variable{α:Type}{sz cap:Nat}{c:Kb α}{T:TypeId}{p:Option Addr}{l:List α}
theorem GL.xQ(i:Nat)(hi:hs[i]? =some (ET sz c F0 T p cap l))(le0:F0<=F)(k:∀F',F<=F'->QH sz c F' p cap l->GL O P ops l0 ks Q (Hd n D S F' (hs.eraseIdx i)) m r):GL O P ops l0 ks Q (Hd n D S F hs) m r:=GG.xQ i hi le0 k
theorem GE.toQ(i:Nat)(le:F0<=F)(hi:hs[i]? =some (Qk sz c F0 T p cap l))(k:GE O P ks Q (Hd n D S F (hs.set i (ET sz c F T p cap l))) m r):GE O P ks Q (Hd n D S F hs) m r:=GG.bI i (λ_ h=>.inl (Vd le h)) hi k
theorem GE.ba{T:TypeId}(h:QH sz c F p cap l)(k:GE O P ks Q (Hd n D S F (ET sz c F T p cap l::hs)) m r):GE O P ks Q (Hd n D S F hs) m r:=GG.ins (λ_=>.inr h) k
end
end
end
section
variable{O:Option Nat}
theorem E0{a b:List UInt8}:Uz (a++b)=Uz a++Uz b:=by simp[Uz]
theorem B7{a:List UInt8}:(Uz a).length=a.length:=by simp[Uz]
theorem zM{F:Fz}(l:List UInt8):JV 1 (Ex (KI .u8)) F (Uz l) (l.map λb=>Value.int .u8 b.toNat):=λi x hx F' _=>by
 simp only[Uz,List.getElem?_map] at hx
 cases h:l[i]? with
 | none=>rw[h] at hx;cases hx
 | some b=>
  rw[h] at hx
  simp only[Option.map_some,Option.some.injEq] at hx
  subst hx;obtain⟨hi,he⟩:=List.getElem?_eq_some_iff.1 h;show((l.map _).drop (i*1)).take 1=KI .u8 _;rw[Nat.mul_one,List.drop_eq_getElem_cons (by simpa using hi)];simp[KI,he]
theorem LG{P:Program}{w:World}{F0 F:Fz}{H:HP}{e t t2:Nat}{p:Option Addr}{cap:Nat}{l:List Int}{s:List UInt8}{T:Array TypeId}{ty:TypeId}
  (E:Ub P e 1 (Ex (KI .u8))) (le0:F0<=F) (ht:P.underlying t=some (.slice e)) (ht2:P.underlying t2=some .string)
  (hT0:T[0]? =some t) (hT1:T[1]? =some t2) (h:SH w F (star (Qk 1 (Ex (KI .u8)) F0 e p cap l) H)) (hlen:l.length+s.length<=4294967296):
  ∃p' cap' w',(Builtin.append_ T ty #[.slice p l.length cap,.string (bs s)]).run P w= .ok (.slice p' (l++Uz s).length cap') w'/\SH w' F (star (Qk 1 (Ex (KI .u8)) F e p' cap' (l++Uz s)) H)/\(l++Uz s=[]->p' =p/\cap' =cap):=by
 obtain⟨ti,hti,hb0,hb1⟩:=E.info;obtain⟨z,hzero,hzl⟩:=E.zero;have hz:=E.size;have hfr:∀b o,F.mem b=some o->w.heap[b]? =some o:=λb o e=>h.frozen e;have hl2:(Uz s).length=s.length:=B7;generalize hus:(s.map λb=>Value.int .u8 (b.toNat:Int))=us2;have hus2:us2.length=(Uz s).length*1:=by rw[<-hus];simp[Uz]
 have hp2:JV 1 (Ex (KI .u8)) F (Uz s) us2:=hus▸zM s;have hall:us2.all Value.oneCell' =true:=by rw[<-hus];simp[Value.oneCell']
 have hsrc:∀w' :World,(Builtin.firstCells 1 (Uz s).length (.string (bs s))).run P w' = .ok us2.toArray w' :=λw' =>by
  have:(ByteArray.extract (bs s) 0 (Uz s).length)=bs s:=by rw[hl2,C7];simp
  simp only[Builtin.firstCells,this];rw[<-hus];simp[bs]
 have hlo:∀w' :World,(Builtin.lenOf (.string (bs s))).run P w' = .ok (Uz s).length w' :=λw' =>by simp[Builtin.lenOf,Su,hl2]
 obtain⟨m,⟨m1,m2,d,s1,s2,⟨h1,h2,h3⟩,hq⟩,k⟩:=h;by_cases hneed:l.length+(Uz s).length<=cap
 ·rcases h3 with⟨rfl,rfl⟩ | ⟨b,cs,rfl,hb,hl,hp⟩
  ·have e1:l=[]:=List.eq_nil_of_length_eq_zero (by omega);have e2:Uz s=[]:=List.eq_nil_of_length_eq_zero (by omega);subst e1;have e3:us2=[]:=List.eq_nil_of_length_eq_zero (by rw[hus2,e2];rfl);rw[e2] at hsrc hlo ⊢
   refine⟨none,0,w,?_,⟨m,⟨m1,m2,d,s1,s2,⟨by simp,by simp,.inl ⟨rfl,rfl⟩⟩,hq⟩,k⟩,λ_=>⟨rfl,rfl⟩⟩;simp only[Builtin.append_];simp only[List.length_nil] at hsrc hlo
   simp[hT0,hT1,Je ht,Je ht2,hz,hlo,hsrc,e3]
  ·have hh:SH w F (star (pt b (.cells cs.toArray e (0,0))) H):=⟨m,⟨m1,m2,d,s1,s2,hb,hq⟩,k⟩;have hbl:=hh.owned
   have hroom:l.length*1+us2.length<=cs.length:=by
    rw[hus2,hl,<-Nat.add_mul];exact Nat.mul_le_mul_right 1 hneed
   have hst:=WR (P:=P) (o:=l.length*1) (i:=0) hbl (by simpa using hroom) hall;simp only[Nat.add_zero] at hst
   refine⟨some ⟨b,0,none⟩,cap,put w b (.cells (Kn cs (l.length*1) us2).toArray e (0,0)),?_,?_,λ_=>⟨rfl,rfl⟩⟩
   ·simp only[Builtin.append_];simp only[Nat.mul_one] at hst
    simp[hT0,hT1,Je ht,Je ht2,hz,hlo,hsrc,hneed,Uq,hst]
   ·have hp' :=hh.put (o' :=.cells (Kn cs (l.length*1) us2).toArray e (0,0));refine hp'.mono λm hm=>QX (λm' hm' =>⟨by simp;omega,h2,.inr ⟨b,_,rfl,hm',by rw[XZ];exact hl,?_⟩⟩) hm;have:=Hf us2 cs (l.length*1) hroom;rw[hus2,<-Nat.add_mul] at this
    apply JV.fb;rw[List.length_append,this];exact(hp.mono le0).take.append hp2 (by simp;omega)
 ·have hn:X6 (l.length+(Uz s).length) cap ti.bytes:=BE (Nat.lt_of_not_le hneed) (by omega) hb1
  have hold:∃us:List Value,us.length=l.length*1/\JV 1 (Ex (KI .u8)) F l us/\∀w' :World,w'.heap=w.heap->(Builtin.firstCells 1 l.length (.slice p l.length cap)).run P w' = .ok us.toArray w' :=by
   rcases h3 with⟨rfl,rfl⟩ | ⟨b,cs,rfl,hb,hl,hp⟩
   ·have e1:l=[]:=List.eq_nil_of_length_eq_zero (by omega);subst e1;exact⟨[],by simp,JV.nil,λw' _=>by simp[Builtin.firstCells]⟩
   ·have hpl:=hp.len E.len;refine⟨cs.take (l.length*1),by simp;omega,(hp.mono le0).take,λw' hw' => ?_⟩;simp only[Builtin.firstCells];exact XU (cs:=cs) (T:=e) (fr:=(0,0)) (by rw[hw'];exact k.dC (s1 _ _ hb)) (by simp) (by simp;omega)
  obtain⟨us,hus',hp1,hold⟩:=hold;have hHq:SH w F H:=⟨m2,hq,k.sub s2⟩;generalize hq' :Question.appendCap (l.length+(Uz s).length) cap e=q
  have hcap:l.length+(Uz s).length<=q.cut (w.tape w.drawn q)/\q.cut (w.tape w.drawn q)<=9223372036854775807:=by
   rw[<-hq'];have:=Nat.mod_lt (w.tape w.drawn (Question.appendCap (l.length+(Uz s).length) cap e)) (show 0 < 2^63 - (l.length+(Uz s).length) by omega);simp only[Question.cut];omega
  have hforced:q.forced=false:=by rw[<-hq'];rfl
  generalize hC:q.cut (w.tape w.drawn q)=C at hcap
  have hdrew:SH {w with drawn:=w.drawn+1} F H:=hHq.drew _;have halloc:=hdrew.alloc (.cells ((us.toArray++us2.toArray++Builtin.zeroCells z.cells (C - (l.length+(Uz s).length)))) e);have e3:(Builtin.zeroCells z.cells (C - (l.length+(Uz s).length))).size=(C - (l.length+(Uz s).length))*1:=by simp[Builtin.zeroCells,hzl]
  have e4:(us.toArray++us2.toArray++Builtin.zeroCells z.cells (C - (l.length+(Uz s).length))).toList.length=C*1:=by
   simp only[Array.length_toList,Array.size_append,List.size_toArray,hus',hus2,e3];rw[<-Nat.add_mul,<-Nat.add_mul];congr 1;omega
  have e5:JV 1 (Ex (KI .u8)) F (l++Uz s) (us.toArray++us2.toArray++Builtin.zeroCells z.cells (C - (l.length+(Uz s).length))).toList:=by
   have:=(hp1.append hp2 hus').xb (us2:=(Builtin.zeroCells z.cells (C - (l.length+(Uz s).length))).toList) (by simp[hus',hus2]);simpa using this
  refine⟨some ⟨w.heap.size,0,none⟩,C,_,?_,halloc.mono λm hm=>QX (λm' hm' =>⟨by simp only[List.length_append];exact hcap.1,hcap.2,.inr ⟨w.heap.size,(us.toArray++us2.toArray++Builtin.zeroCells z.cells (C - (l.length+(Uz s).length))).toList,rfl,(by have hm2:pt w.heap.size _ m' :=hm';unfold pt at hm2 ⊢;rw[hm2]),e4,e5⟩⟩) hm,λhe=> ?_⟩
  ·simp only[Builtin.append_];have hnb:=hn;unfold X6 at hnb
   have hnot:¬(2:Nat)^48 < Builtin.nextslicecap (l.length+(Uz s).length) cap*ti.bytes:=by omega
   have g1:=hold w.drew rfl;have g2:=hsrc w.drew;simp[hT0,hT1,Je ht,Je ht2,hz,hlo,hneed,hti,hb0,hnot,hq',hforced,hC,g1,g2,hzero,newRow];simp only[<-List.append_toArray,Array.append_assoc]
  ·exfalso;have h5:=congrArg List.length he;simp only[List.length_append,List.length_nil] at h5;omega
def y4(e:TypeId)(p:Option Addr)(cap:Nat)(s:List UInt8):HP:=λm=>∃F,Qk 1 (Ex (KI .u8)) F e p cap (Uz s) m
theorem k9{e:TypeId}{p:Option Addr}{cap:Nat}{s:List UInt8}{m:Mem}(F' :Fz)(h:y4 e p cap s m):Qk 1 (Ex (KI .u8)) F' e p cap (Uz s) m:=by
 obtain⟨F,h1,h2,h3⟩:=h;rcases h3 with h3 | ⟨b,cs,e,hb,hl,hp⟩
 ·exact⟨h1,h2,.inl h3⟩
 ·exact⟨h1,h2,.inr ⟨b,cs,e,hb,hl,λi x hx G _=>hp i x hx F (Fz.le_refl _)⟩⟩
def Ga(T e:TypeId)(b:Nat)(s:List UInt8):HP:=zk (λq:Option Addr×Option Addr×Nat=>(q.1=none∨q.1=some ⟨b,0,none⟩)/\(s=[]->q.2.1=none∨q.2.2≠0)) (λq=>[pc b [.pointer q.1,.slice q.2.1 (Uz s).length q.2.2] T,y4 e q.2.1 q.2.2 s])
section
variable{β:Type}{X:Act->World->Prop}{m:Option β}{r:β}{n:Nat}{D:List Deferred}{S:List (Nat×Value)}{F F0:Fz}{hs:List HP}{T e b:TypeId}{s:List UInt8}
theorem GG.wm(i:Nat)(hi:hs[i]? =some (Ga T e b s))(k:∀p q cap,(p=none∨p=some ⟨b,0,none⟩)->(q=none∨cap≠0)->GG X (Hd n D S F (pc b [.pointer p,.slice q (Uz s).length cap] T::Qk 1 (Ex (KI .u8)) F e q cap (Uz s)::hs.eraseIdx i)) m r):GG X (Hd n D S F hs) m r:=
 GG.xZ i hi fun⟨p,q,cap⟩ ⟨h1,h2⟩=>GG.bI (p' :=Qk 1 (Ex (KI .u8)) F e q cap (Uz s)) 1 (λ_ h=>k9 F h) rfl (λhm a w ha=>by
  refine k p q cap h1 ?_ hm a w ha;by_cases hs0:s=[]
  ·exact h2 hs0
  ·right;obtain⟨_,⟨m1,_,_,_,_,⟨hl,_⟩,_⟩,_⟩:=ha.2.pull (k:=1) rfl;rw[B7] at hl
   intro e0;subst e0;exact hs0 (List.eq_nil_of_length_eq_zero (by omega)))
theorem GG.wq{p q:Option Addr}{cap:Nat}(is:List Nat)(hp:p=none∨p=some ⟨b,0,none⟩)(hq:s=[]->q=none∨cap≠0)(hi:K9 is hs=[pc b [.pointer p,.slice q (Uz s).length cap] T,Qk 1 (Ex (KI .u8)) F0 e q cap (Uz s)])(k:GG X (Hd n D S F (Ga T e b s::JN is hs)) m r):GG X (Hd n D S F hs) m r:=
 GG.w4 is (p,q,cap) ⟨hp,hq⟩ hi (Q5 (λ_ h=>h) (Q5 (λ_ h=>⟨F0,h⟩) (λ_ h=>h))) k
end
section
variable{β:Type}{P:Program}{ops:Array Oper}{rest:List Oper}{ks:List Kt}{Q:Exit->Act->World->Prop}{E:Act->World->Prop}{m:Option β}{r:β}
variable{n:Nat}{D:List Deferred}{S:List (Nat×Value)}{F F0:Fz}{hs:List HP}{d:Nat}{ty t t2 e T b:TypeId}{pos:String}{after:Array Edge}{ox oy:Operand}{p:Option Addr}{cap:Nat}{s:List UInt8}{c:Code}
theorem GL.wm(i:Nat)(hi:hs[i]? =some (Ga T e b s))(k:∀p q cap,(p=none∨p=some ⟨b,0,none⟩)->(q=none∨cap≠0)->GL O P ops rest ks Q (Hd n D S F (pc b [.pointer p,.slice q (Uz s).length cap] T::Qk 1 (Ex (KI .u8)) F e q cap (Uz s)::hs.eraseIdx i)) m r):GL O P ops rest ks Q (Hd n D S F hs) m r:=GG.wm i hi k
theorem GC.wm(i:Nat)(hi:hs[i]? =some (Ga T e b s))(k:∀p q cap,(p=none∨p=some ⟨b,0,none⟩)->(q=none∨cap≠0)->GC O P c ks Q (Hd n D S F (pc b [.pointer p,.slice q (Uz s).length cap] T::Qk 1 (Ex (KI .u8)) F e q cap (Uz s)::hs.eraseIdx i)) m r):GC O P c ks Q (Hd n D S F hs) m r:=GG.wm i hi k
theorem GL.wq{p q:Option Addr}(is:List Nat)(hp:p=none∨p=some ⟨b,0,none⟩)(hq:s=[]->q=none∨cap≠0)(hi:K9 is hs=[pc b [.pointer p,.slice q (Uz s).length cap] T,Qk 1 (Ex (KI .u8)) F0 e q cap (Uz s)])(k:GL O P ops rest ks Q (Hd n D S F (Ga T e b s::JN is hs)) m r):GL O P ops rest ks Q (Hd n D S F hs) m r:=GG.wq is hp hq hi k
theorem GC.dJ(k:GC O P c ks Q (Hd n D S F (CI::hs)) m r):GC O P c ks Q (Hd n D S F hs) m r:=GG.ins (λ_=>trivial) k
theorem GL.fx(i:Nat)(e:TypeId)(hi:hs[i]? =some (pc b [.pointer none,.slice none 0 0] T))(k:GL O P ops rest ks Q (Hd n D S F (hs.set i (Ga T e b []))) m r):GL O P ops rest ks Q (Hd n D S F hs) m r:=
 λhm a w ha=>k hm a w ⟨ha.1,SH.push hi ((ha.2.pull hi).mono λ_ hm=>QX (λm h=>⟨(none,none,0),⟨.inl rfl,λ_=>.inl rfl⟩,m,λ_=>none,λ_=>.inr rfl,Mem.sub.refl _,λ_ _ e=>by simp at e,h,λ_=>none,λ_=>none,λ_=>.inr rfl,λ_ _ e=>by simp at e,λ_ _ e=>by simp at e,⟨F,Bx⟩,trivial⟩) hm)⟩
theorem GL.dV{l:List Int}{f:List Int->Option β}{T:Array TypeId}(i:Nat)(E:Ub P e 1 (Ex (KI .u8)))(le0:F0<=F)(hd:Nat.blt d n=true)(ht:P.underlying t=some (.slice e))(ht2:P.underlying t2=some .string)(hT0:T[0]? =some t)(hT1:T[1]? =some t2)
  (hi:hs[i]? =some (Qk 1 (Ex (KI .u8)) F0 e p cap l)) (hx:QK S ox=some (.slice p l.length cap)) (hy:QK S oy=some (.string (bs s)))
  (k:∀l' p' cap',VT l (Uz s)=some l'->(l' =[]->p' =p/\cap' =cap)->GL O P ops rest ks Q (Hd n D ((d,.slice p' l'.length cap')::S) F (hs.set i (Qk 1 (Ex (KI .u8)) F e p' cap' l'))) (f l') r):
  GL O P ops (⟨some d,.call ⟨.builtin .append,#[ox,oy],T⟩,ty,pos,after,none⟩::rest) ks Q (Hd n D S F hs) ((VT l (Uz s)).bind f) r:=
 GL.bind λl' hl=>by
  have hl' :=hl;unfold VT at hl
  split at hl
  ·rename_i hlen;simp only[Option.some.injEq] at hl
   subst hl;refine GL.step rfl (.inr rfl) λhm a w ha=> ?_;obtain⟨p',cap',w',hrun,hS,hnil⟩:=LG (P:=P) (T:=T) (ty:=ty) (s:=s) E le0 ht ht2 hT0 hT1 (ha.2.pull hi) (by rw[B7] at hlen;exact hlen);refine⟨_,w',?_,k _ p' cap' hl' hnil hm _ _ ⟨ha.1.put hd _,SH.push hi hS⟩⟩;simp[execOp,resolve,invoke,builtin,ha.1.eval hx,ha.1.eval hy,hrun]
  ·cases hl
theorem GL.fz{l l' :List Int}{T:Array TypeId}(happ:VT l (Uz s)=some l')(i:Nat)(E:Ub P e 1 (Ex (KI .u8)))(le0:F0<=F)(hd:Nat.blt d n=true)(ht:P.underlying t=some (.slice e))(ht2:P.underlying t2=some .string)(hT0:T[0]? =some t)(hT1:T[1]? =some t2)
  (hi:hs[i]? =some (Qk 1 (Ex (KI .u8)) F0 e p cap l)) (hx:QK S ox=some (.slice p l.length cap)) (hy:QK S oy=some (.string (bs s)))
  (k:∀p' cap',(l' =[]->p' =p/\cap' =cap)->GL O P ops rest ks Q (Hd n D ((d,.slice p' l'.length cap')::S) F (hs.set i (Qk 1 (Ex (KI .u8)) F e p' cap' l'))) m r):
  GL O P ops (⟨some d,.call ⟨.builtin .append,#[ox,oy],T⟩,ty,pos,after,none⟩::rest) ks Q (Hd n D S F hs) m r:=by
 have h:=GL.dV (f:=λ_=>m) (pos:=pos) (after:=after) (ty:=ty) i E le0 hd ht ht2 hT0 hT1 hi hx hy (λl'' p' cap' hl'' hn=>by rw[happ] at hl'';cases hl'';exact k p' cap' hn);rw[happ] at h;exact h
theorem GL.gv{f:FuncId}{caps as1 vs:List Value}{of:Operand}{os:List Operand}{T:Array TypeId}{ρ:Unit->Fz->Value->Prop}{H:HP}{H' :Unit->Fz->Value->HP}{i:Nat}(hd:Nat.blt d n=true)
  (hcall:∀args w,(callFunc f args).run P w= .ok (.enter f args) w) (hf:QK S of=some (.func (.func f) #[] caps.toArray)) (ha:UC S os=some vs) (has:vs++caps=as1) (hi:hs[i]? =some H)
  (hc:CT P f as1.toArray F H (some ()) ρ H') (k:∀F' v,F<=F'->GL O P ops rest ks Q (Hd n D ((d,v)::S) F' (hs.set i (H' () F' v))) m r):
  GL O P ops (⟨some d,.call ⟨.value of,os.toArray,T⟩,ty,pos,after,none⟩::rest) ks Q (Hd n D S F hs) m r:=
 GL.xD (e:=some ()) (g:=λ_=>m) hd hcall hf ha has hi hc (λ_ F' v _ le _=>k F' v le)
theorem GL.gS{t' :TypeId}(hd:Nat.blt d n=true)(ht:P.underlying t=some (.pointer e))(hx:QK S ox=some (.pointer p))(hy:QK S oy=some (.pointer none))(k:GL O P ops rest ks Q (Hd n D ((d,.bool p.isNone)::S) F hs) m r):
  GL O P ops (⟨some d,.binOp .eql t ox oy t',ty,pos,after,none⟩::rest) ks Q (Hd n D S F hs) m r:=
 GL.val hd (λa w ha=>by
  have hq:(Op.equal t (.pointer p) (.pointer none)).run P w= .ok p.isNone w:=FU ht 9999;simp[execOp,ha.1.eval hx,ha.1.eval hy,eqGuard,binOp,hq]) k
theorem GL.bW{t' :TypeId}{a0:Addr}{ti:TypeInfo}(hd:Nat.blt d n=true)(ht:P.underlying t=some (.pointer e))(hti:P.info? e=some ti)(hx:QK S ox=some (.pointer (some a0)))(hy:QK S oy=some (.pointer (some a0)))(k:GL O P ops rest ks Q (Hd n D ((d,.bool false)::S) F hs) m r):
  GL O P ops (⟨some d,.binOp .neq t ox oy t',ty,pos,after,none⟩::rest) ks Q (Hd n D S F hs) m r:=
 GL.val hd (λa w ha=>by
  have hq:=Go.Lib.run_neq_ptr_same (P:=P) w a0 ht hti;simp[execOp,ha.1.eval hx,ha.1.eval hy,eqGuard,hq]) k
theorem GL.fS{b0 T0 i:Nat}{cs:List Value}{ti:TypeInfo}{src dst:TypeId}(hd:Nat.blt d n=true)(hs1:P.underlying src=some (.pointer e))(hs2:P.underlying dst=some .unsafePointer)(ht:P.info? e=some ti)(hj:ti.size≠0)(hb:hs[i]? =some (pc b0 cs T0))(h0:0 < cs.length)(hx:QK S ox=some (vP b0 0))
  (k:GL O P ops rest ks Q (Hd n D ((d,vP b0 0)::S) F hs) m r):GL O P ops (⟨some d,.convert src dst ox,ty,pos,after,none⟩::rest) ks Q (Hd n D S F hs) m r:=
 GL.val hd (λa w ha=>by
  have hsh:w.shape? b0=some (T0,cs.length):=by simp[World.shape?,SH.wD hb ha.2]
  have hq:=Go.Lib.run_to_unsafe (P:=P) w ⟨b0,0,none⟩ hs1 hs2 ht hj hsh h0;simp[execOp,ha.1.eval hx,hq]) k
theorem GL.gk{b0 T0 i:Nat}{cs:List Value}{ti:TypeInfo}{src dst:TypeId}(hd:Nat.blt d n=true)(hs1:P.underlying src=some .unsafePointer)(hs2:P.underlying dst=some (.pointer e))(ht:P.info? e=some ti)(hb:hs[i]? =some (pc b0 cs T0))(hl:liesAt P P.depth T0 (cs.length / P.cellsOf T0) 0 e 1=true)(hx:QK S ox=some (vP b0 0))
  (k:GL O P ops rest ks Q (Hd n D ((d,vP b0 0)::S) F hs) m r):GL O P ops (⟨some d,.convert src dst ox,ty,pos,after,none⟩::rest) ks Q (Hd n D S F hs) m r:=
 GL.val hd (λa w ha=>by
  have hsh:w.shape? b0=some (T0,cs.length):=by simp[World.shape?,SH.wD hb ha.2]
  have hq:=Go.Lib.run_from_unsafe (P:=P) w ⟨b0,0,none⟩ hs1 hs2 ht hsh hl;simp[execOp,ha.1.eval hx,hq]) k
theorem GL.dT{f:FuncId}{T:Array TypeId}{v:Value}(hd:Nat.blt d n=true)(hf:∀w,(callFunc f #[v]).run P w= .ok (.value v) w)(hx:QK S ox=some v)
  (k:GL O P ops rest ks Q (Hd n D ((d,v)::S) F hs) m r):GL O P ops (⟨some d,.call ⟨.value (.func f),#[ox],T⟩,ty,pos,after,none⟩::rest) ks Q (Hd n D S F hs) m r:=
 GL.val hd (λa w ha=>by
  have h0:a.eval (.func f)= .func (.func f) #[] #[]:=rfl;simp[execOp,resolve,Deferred.ofValue,h0,ha.1.eval hx,invoke,hf]) k
theorem GS.fL{k:Nat}{T:Array TypeId}(hp:p=none∨cap≠0)(hd:Nat.blt d n=true)(hx:QK S ox=some (.slice p k cap))(h:GS P ops rest E (Hd n D ((d,.pointer p)::S) F hs) m r):
  GS P ops (⟨some d,.call ⟨.builtin .unsafeSliceData,#[ox],T⟩,ty,pos,after,none⟩::rest) E (Hd n D S F hs) m r:=by
 refine GS.step rfl λhm a w ha=>⟨.pointer p,?_,h hm _ _ ⟨ha.1.put hd _,ha.2⟩⟩
 have:(Builtin.unsafeSliceData_ T ty #[.slice p k cap]).run P w= .ok (.pointer p) w:=by
  cases p with
  | none=>exact Go.Lib.run_unsafeSliceData_nil w T ty k cap
  | some a=>exact Go.Lib.run_unsafeSliceData_row w T ty a k cap (by rcases hp with h | h;cases h;exact h)
 simp[execOp,resolve,invoke,builtin,ha.1.eval hx,this]
theorem GL.fI{T:Array TypeId}{pt it:TypeId}(i:Nat)(hT:T=#[pt,it])(hpt:P.underlying pt=some (.pointer e))(hce:P.cellsOf e=1)(hi:hs[i]? =some (Qk 1 (Ex (KI .u8)) F0 e p cap (Uz s)))(hd:Nat.blt d n=true)(hx:QK S ox=some (.pointer p))(hy:QK S oy=some (.int .i64 (Uz s).length))
  (k:GL O P ops rest ks Q (Hd n D ((d,.string (bs s))::S) F (hs.eraseIdx i)) m r):
  GL O P ops (⟨some d,.call ⟨.builtin .unsafeString,#[ox,oy],T⟩,ty,pos,after,none⟩::rest) ks Q (Hd n D S F hs) m r:=by
 subst hT;refine GL.step rfl (.inr rfl) λhm a w ha=> ?_;have hS:=ha.2.pull hi;obtain⟨mm,⟨m1,m2,dd,s1,s2,⟨h1,h2,h3⟩,hq⟩,kk⟩:=hS;rw[B7] at hy h1
 by_cases h0:s=[]
 ·subst h0;refine⟨.string (bs []),w,?_,k hm _ _ ⟨ha.1.put hd _,⟨m2,hq,kk.sub s2⟩⟩⟩;have:=Go.Lib.run_unsafeString_none (P:=P) w pt it ty p;simp only[List.length_nil] at hy
  simp[execOp,resolve,invoke,builtin,ha.1.eval hx,ha.1.eval hy];have e:bs []=ByteArray.empty:=rfl;rw[e];simpa using congrArg (λr=>r) (show(Builtin.unsafeString_ #[pt,it] ty #[.pointer p,.int .i64 0]).run P w= .ok (.string .empty) w from this)▸rfl
 ·rcases h3 with⟨rfl,rfl⟩ | ⟨g,cs,rfl,hb,hl,hp⟩
  ·exfalso;exact h0 (List.eq_nil_of_length_eq_zero (by omega))
  ·have hh:SH w F (star (Dec.pt g (.cells cs.toArray e (0,0))) (Qj (hs.eraseIdx i))):=⟨mm,⟨m1,m2,dd,s1,s2,hb,hq⟩,kk⟩;have hg:=hh.owned
   have hcell:∀j x,s[j]? =some x->w.cell? ((⟨g,0,none⟩:Addr).add j)=some (.int .u8 x.toNat):=λj x hx=>by
    have hj:(Uz s)[j]? =some (x.toNat:Int):=by simp[Uz,hx]
    have:=hp j _ hj F0 (Fz.le_refl _);have h5:(cs.drop (j*1)).take 1=[Value.int .u8 x.toNat]:=this;rw[Nat.mul_one] at h5
    have h6:cs[j]? =some (.int .u8 x.toNat):=by
     have:=congrArg (λl:List Value=>l[0]?) h5;simpa[List.getElem?_take,List.getElem?_drop] using this
    rw[Uq];simp[World.cell?,hg,h6]
   have hrun:=Go.Lib.run_unsafeString_row (P:=P) w pt it ty e hpt hce g cs.length (by simp[World.shape?,hg]) s h0 (by omega) (by omega) hcell
   have hw:w.freeze ⟨g,0,none⟩ s.length=put w g (.cells cs.toArray e (0,0+s.length)):=by
    have hne:s.length≠0:=λe=>h0 (List.eq_nil_of_length_eq_zero e);unfold World.freeze put;rw[if_neg hne];congr 1;apply Array.ext_getElem?;intro j;rw[Array.getElem?_modify,Array.getElem?_setIfInBounds];split
    ·rename_i hj;subst hj;have:=lt_of_heap hg;rw[if_pos this,hg];rfl
    ·rfl
   rw[hw] at hrun
   have h7:=(hh.put (o' :=.cells cs.toArray e (0,0+s.length))).drop;refine⟨.string (bs s),_,?_,k hm _ _ ⟨ha.1.put hd _,h7⟩⟩;have e8:bs s=⟨s.toArray⟩:=rfl;simp[execOp,resolve,invoke,builtin,ha.1.eval hx,ha.1.eval hy,hrun,e8]
end
def yC{α:Type}(P:Program)(F:Fz)(f:FuncId)(caps:List Value)(arg:α->Fz->List Value->Prop)(Hs:List HP)(l:List α):Prop:=
 (∀args w,(callFunc f args).run P w= .ok (.enter f args) w)/\
 ∀(σ:Type) (ly:Nat) (Y:σ->Fz->HP) (y:α->σ->Option (σ×Bool)) (F1:Fz),F<=F1->Vk P ly F1 arg Y y->∀s,Xe P f (.func (.yield ly) #[] #[]::caps).toArray F1 (Hs++[Y s F1]) (V0 y l s) (λ_ _ _=>True) (λs' F' =>[Y s' F'])
section
variable{β:Type}{P:Program}{ks:List Kt}{Q:Exit->Act->World->Prop}{r:β}{n:Nat}{D:List Deferred}{S:List (Nat×Value)}{F:Fz}{hs:List HP}
variable{α τ γ:Type}{g:Operand}{ps:List Tmp}{assign body:Code}{f:FuncId}{caps:List Value}{arg:α->Fz->List Value->Prop}{bm:α->τ->Option (Vb τ γ)}{s0:τ}{k:Vb τ γ->Option β}
theorem GC.fM{l:List α}(Hs:List HP)(is:List Nat)(I:τ->Fz->List HP->Prop)(J:γ->Fz->List HP->Prop)(hg:QK S g=some (.func (.func f) #[] caps.toArray))(hit:yC P F f caps arg Hs l)(hps:(ps.all λp=>Nat.blt p n)=true)(harg:∀x F' vs,arg x F' vs->vs.length=ps.length)
  (hi:K9 is hs=Hs) (hI:I s0 F (JN is hs))
  (round:∀l L F0 F1 x vs s ctl R hs',F<=F0->F0<=F1->arg x F1 vs->I s F0 hs'->GC (some l) P assign [] (BP P l body (RP l L I J F1 R ctl)) (Hd n [] ((ps.zip vs).reverse++S) F1 (pt l (Un L)::R::hs')) (bm x s) ctl)
  (next:∀q F0 F' s hs',F<=F0->F0<=F'->Cm bm l s0=some (.next s)->I s F0 hs'->GE none P ks Q (Hd n (U7 q::D) S F' (pt q (.deferred (some []))::hs')) (k (.next s)) r)
  (done:∀q F0 F' b hs',F<=F0->F0<=F'->Cm bm l s0=some (.done b)->J b F0 hs'->GC none P .ret ks Q (Hd n (U7 q::D) S F' (pt q (.deferred (some []))::hs')) (k (.done b)) r):
  GC none P (.rangeFunc g ps.toArray assign body) ks Q (Hd n D S F hs) ((Cm bm l s0).bind k) r:=by
 intro hm a w ha;cases hl:Cm bm l s0 with
 | none=>rw[hl] at hm;cases hm
 | some c=>
  rw[hl] at hm
  refine wpIn_rangeFunc λfn _=> ?_
  let L:Loop:={state:=.ready,pending:=none,fn,tmps:=a.tmps,params:=ps.toArray,assign,body,defers:=w.heap.size}
  have hw1:SH ((w.alloc (.deferred (some []))).alloc (.loop L)) F (star (Qj (Hs++[yS F (w.heap.size+1) L I J (.next s0) F])) (Qj [pt w.heap.size (.deferred (some []))])):=by
   have h1:=(ha.2.alloc (.deferred (some []))).alloc (.loop L);rw[World.size_alloc] at h1
   refine h1.mono λm hm=> ?_
   have h2:star (pt (w.heap.size+1) (Un L)) (star (pt w.heap.size (.deferred (some []))) (star (Qj Hs) (Qj (JN is hs)))) m:=
    QR (λm hm=>QR (λm hm=>by have:=VZ (ks:=is) hm;rw[hi] at this;exact this) hm) hm
   have h3:=S2 (QR (λm hm=>Zd hm) (Zd h2));refine QX (λm hm=> ?_) (QR (λm hm=>Y5 hm) h3);refine K4 (QR (λm hm=>Y5 (p:=yS F (w.heap.size+1) L I J (.next s0) F) ⟨F,JN is hs,Fz.le_refl _,Fz.le_refl _,hI,hm⟩) hm)
  have hY:Vk P (w.heap.size+1) F arg (yS F (w.heap.size+1) L I J) (IB bm):=by
   refine TS (S' :=λvs=>(ps.zip vs).reverse++S) (assign:=assign) (body:=body) (λx F' vs hx=>by rw[harg x F' vs hx];simp[L]) rfl rfl (λvs _=>Bu hps ⟨ha.1.1,rfl,ha.1.2.2⟩) ?_;exact λF0 F1 x vs s ctl R hs' h0 h1 hx hI=>round _ L F0 F1 x vs s ctl R hs' h0 h1 hx hI
  have hc:=hit.2 _ _ _ _ F (Fz.le_refl F) hY (.next s0) c (by rw[GI];exact hl) _ _ hw1;refine⟨w.heap.size+1,[U7 w.heap.size],(w.alloc (.deferred (some []))).alloc (.loop L),⟨.fn (.func f) caps.toArray,#[.func (.yield (w.heap.size+1)) #[] #[]]⟩,(w.alloc (.deferred (some []))).alloc (.loop L),f,(.func (.yield (w.heap.size+1)) #[] #[]::caps).toArray,(w.alloc (.deferred (some []))).alloc (.loop L),run_enterLoop_outer fn a.tmps ps.toArray assign body,?_,λ_ _=>trivial,?_,λe=>(by cases e),?_⟩
  ·have hc0:a.eval (.const (.func (.yield (w.heap.size+1)) #[] #[]))= .func (.yield (w.heap.size+1)) #[] #[]:=rfl;simp[resolve,Deferred.ofValue,ha.1.eval hg,hc0]
  ·simp[invoke,hit.1]
  ·refine callsIn_wide.2 (hc.mono ?_);rintro _ w' ⟨F',v,le,rfl, -,hw'⟩;cases c with
   | next s=>
    have hw2:SH w' F' (star (yS F (w.heap.size+1) L I J (.next s) F') (Qj [pt w.heap.size (.deferred (some []))])):=hw'.mono λm hm=>Us hm;obtain⟨F0,hs',h0,h1,hI',h3⟩:=SH.w7 hw2;refine⟨none,_,Bv (SH.wD (k:=0) rfl h3),?_⟩;have h4:SH _ F' (Qj (pt w.heap.size (.deferred (some []))::hs')):=(SH.wW 0 (SH.putAt (k:=0) rfl h3 (Az L none))).mono λm hm=>Us hm;exact next w.heap.size F0 F' s hs' h0 h1 hl hI' hm _ _ ⟨⟨ha.1.1,by simp[ha.1.2.1],ha.1.2.2⟩,h4⟩
   | done b=>
    have hw2:SH w' F' (star (yS F (w.heap.size+1) L I J (.done b) F') (Qj [pt w.heap.size (.deferred (some []))])):=hw'.mono λm hm=>Us hm;obtain⟨F0,hs',h0,h1,hI',h3⟩:=SH.gK hw2;refine⟨some .ret,_,R9 (SH.wD (k:=0) rfl h3),?_⟩;have h4:SH _ F' (Qj (pt w.heap.size (.deferred (some []))::hs')):=(SH.wW 0 (SH.putAt (k:=0) rfl h3 (Az L (some .ret)))).mono λm hm=>Us hm;exact done w.heap.size F0 F' b hs' h0 h1 hl hI' hm _ _ ⟨⟨ha.1.1,by simp[ha.1.2.1],ha.1.2.2⟩,h4⟩
end
theorem zz{K V:Type}[BEq K]{ck:K->Value}{rv:Fz->V->Value->Prop}{P:Program}{f:FuncId}{F:Fz}{p:Option Nat}{l:List (K×V)}(h:Uf ck rv F p l)
  (hcl:∀b es clock w,w.heap[b]? =some (.map es clock)->Calls P f #[.map (some b)] w λe w' =>e= .returned (.map (some w.heap.size))/\w' =w.alloc (.map es clock)) (w:World) (R:HP) (hw:SH w F R):
  Calls P f #[.map p] w (λe w' =>∃b,e= .returned (.map (some b))/\SH w' F (star (QU ck rv F b l) R)):=by
 obtain⟨b,es,c,l',rfl,h0,h00,h1,h2,h3⟩:=h;refine(hcl b es c w (hw.frozen h1)).mono ?_;rintro e w' ⟨rfl,rfl⟩;exact⟨_,rfl,(hw.alloc (.map es c)).mono λm hm=>QX (λm hm=>⟨l',h0,h00,es,c,hm,h2,h3⟩) hm⟩
end
end Go.Dec
end
