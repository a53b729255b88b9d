/- For TopLedgers. -/
import Derived.Test.YtnniagcgccfobaaGreatDoorPz2
import Derived.Scope
import Derived.Lib.LaidTab
import Derived.Shelf.Vars
import Derived.LaidMore
import Derived.Lay
import Derived.Handed
import Derived.SevenTiedAt
noncomputable section
namespace Go.Dec
section
open Go.ChangeShapes Go.WideShapes Go.ChangeAt Go.RowKit
theorem NI{P:Program}{w:World}{n:String}{d:DataW Unit}:∀{l:List (String×DataW Unit)} {ps:List MemPlace} (j:Nat),l[j]? =some (n,d)->DataW.LaidVars P w l ps->
  ∃g t cs fuel p T fr,P.globalNamed n=some g/\(P.globals[g]?).map (·.type)=some t/\w.heap[g]? =some (.cells cs T fr)/\DataW.trod (λ_=>()) P w 0 (λ_=>true) false fuel t cs.toList=some (d,p)
 | [],_,_,h,_=>by simp at h
 | x::l,ps,0,h,hl=>by
  simp at h;subst h
  obtain⟨g,t,cs,fuel,p,q,hg,ht,hv,hd,_,_⟩:=hl;unfold World.var? at hv
  rw[hg] at hv
  simp only[Option.bind_some] at hv
  split at hv
  ·rename_i cs' T fr hh;simp only[Option.some.injEq] at hv
   subst hv;exact⟨g,t,_,fuel,p,T,fr,hg,ht,hh,hd⟩
  ·cases hv
 | x::l,ps,j+1,h,hl=>by
  obtain⟨g,t,cs,fuel,p,q,hg,ht,hv,hd,hr,_⟩:=hl;exact NI j (by simpa using h) hr
theorem Mg{P:Program}{w:World}{b:Nat}{sp:Nat->Bool}{fuel:Nat}{t:TypeId}{ms:Array (String×TypeId)}{cs:List Value}{nm:String}{d:DataW Unit}{p:List MemPlace}(ht:P.underlying t=some (.interface ms))
  (h:DataW.trod (λ_=>()) P w b sp false fuel t cs=some (.iface nm d,p)):∃u v,cs=[.iface u v]:=by
 cases fuel with
 | zero=>simp[DataW.trod] at h
 | succ fuel=>
  simp only[DataW.trod,ht] at h
  split at h<;>simp_all
theorem TP{w:World}{g:Nat}{m:Int}{k:IntKind}{P:Program}{t:TypeId}{zero:Array Value}(h:w.ShapedOpen P)(hg:g < P.globals.size)(h0:((begin P (λ_ _=>0) default).world.heap[g]?).bind Obj.row? =some (zero,t))(hz:zero.size=1)
  (hc:w.cell? ⟨g,0,none⟩=some (.int k m)):∃T fr,w.heap[g]? =some (.cells #[.int k m] T fr):=by
 obtain⟨cs,hh,hs,_⟩:=h.1 g zero t hg h0
 have h1:cs=#[.int k m]:=by
  rw[hz] at hs
  have h2:cs[0]? =some (.int k m):=by simpa[World.cell?,hh] using hc
  apply Array.ext
  ·rw[hs];rfl
  ·intro i h1 h3;have hi:i=0:=by simp at h3;exact h3
   subst hi;rw[Array.getElem?_eq_getElem h1] at h2
   simpa using h2
 exact⟨t,_,by rw[hh,h1]⟩
theorem O9{H:Type}{enc:TypeId×Value->H}{C:Checked}{os:Os}{f:FuncId}{fn:Func}{s:ChangeSpec}{conds:List PathCond}{apart fresh handsOn again:Bool}{X:World->Prop}
  (hX:∀(w w' :World),w.heap=w'.heap->X w->X w') (own:ownKnob C.prog.godebug=none) (started:os.Started) (noInit:C.prog.inits.idxOf? f=none) (hfn:C.prog.funcs[f]? =some fn)
  (witness:∃(w:World) (tape:Tape) (i:Input),w.os=os/\(w.forCall tape i).Shaped C.prog/\i.vars=[]/\Input.okWide C.prog (w.forCall tape i) .any w.heap.size f i/\
   ((s.pre enc C.prog fn conds apart (w.forCall tape i).memory i.args/\X (w.forCall tape i).memory)/\sizedMet enc C.prog fn (OpenSpec.ofChange s) apart (w.forCall tape i).memory i.args)/\({}:Assume).holds C.prog (lone (Frame.enter C.prog f i.args .normal) [] (w.forCall tape i)))
  (contract:∀(W:World) (base:Nat) (args:Array Value) (ds gs:List (DataW H)) (before:List MemPlace),(∀(j:Nat) t v,fn.params[j]? =some t->args[j]? =some v->Value.okWide C.prog W .any base t v)->
   DataW.Whole enc C.prog fn.params.toList s.vars apart W args.toList ds gs before->W.ShapedOpen C.prog->X W->
   Calls C.prog f args W λe W' =>∃v,e= .returned v/\s.post enc C.prog fn apart fresh handsOn again W args v W'):
  ReturnsInHanded {} C os f .any (λw args=>(s.pre enc C.prog fn conds apart w args/\X w)/\sizedMet enc C.prog fn (OpenSpec.ofChange s) apart w args) (s.post enc C.prog fn apart fresh handsOn again):=by
 refine returnsInHanded_of_calls own started noInit witness ?_;intro w tape i _ hsh _ hok hpre _;obtain⟨_,_,_,fn',hfn',_,_,_,_,hval⟩:=hok;have e:fn' =fn:=Option.some.inj (hfn'.symm.trans hfn);subst e;obtain⟨⟨⟨ds,gs,before,hw,hc⟩,hx⟩,hz⟩:=hpre;refine(contract (w.forCall tape i) w.heap.size i.args ds gs before hval (DataW.Whole.of_heap (w' :=w.forCall tape i) (by rfl) hw) hsh (hX _ _ (by rfl) hx)).mono λe W' ⟨v,he,hp⟩=> ?_;subst he;exact ChangeSpec.post_blind hp
theorem PQ{H:Type}{enc:TypeId×Value->H}{P:Program}{W:World}{f:FuncId}{fn:Func}{s:ChangeSpec}{tb:TypeId}{fresh:Bool}(hP:laidOutB P=true)(hread:(fn.params.toList.all λt=>P.readableRec t&&decide (t < P.types.size))=true)
  (hvars:s.vars=[]) (hrT:fn.resultTypes=#[tb]) (htb:P.underlying tb=some .bool)
  (hspec:∀ds:List (DataW H),ds.length=fn.params.toList.length->s.fn H ds={results:=[.lit (.bool true)],args:=ds})
  (hcall:∀(base:Nat) (args:Array Value) (ds:List (DataW H)) (ps:List MemPlace),(∀(j:Nat) t v,fn.params[j]? =some t->args[j]? =some v->Value.okWide P W .any base t v)->
   DataW.TrodAll enc P W 0 (λ_=>true) true fn.params.toList args.toList ds ps->KN P f args (FW W) (some true) (λr _ v=>v= .bool r))
  (base:Nat) (args:Array Value) (ds gs:List (DataW H)) (before:List MemPlace)
  (hval:∀(j:Nat) t v,fn.params[j]? =some t->args[j]? =some v->Value.okWide P W .any base t v)
  (hW:DataW.Whole enc P fn.params.toList s.vars false W args.toList ds gs before):
  Calls P f args W λe W' =>∃v,e= .returned v/\s.post enc P fn false fresh false false W args v W' :=by
 have hW' :=hW;obtain⟨p,q,hA,hV,rfl,hz,hn⟩:=hW;rw[hvars] at hV
 obtain⟨rfl,rfl⟩:=trodVars_none hV;refine(hcall base args ds p hval hA true rfl W Sz (SH.start W)).mono λe W' ⟨F',v,le,he,hv,hs⟩=>⟨v,he,?_⟩;subst hv;have hb:=zL le hs;have hlt:∀x∈p,x.block < W.heap.size:=λx hx=>hW'.lt x (by simp[hx])
 have hsp:s.fn H (ds++[])={results:=[.lit (.bool true)],args:=ds}:=by
  rw[List.append_nil];exact hspec ds (Sb hA)
 refine⟨ds,[],p++[],[],p,[],hW',?_,?_,?_,hb.frame _,λh=>by cases h⟩
 ·rw[hsp,hrT];exact trodAll_mk1 (shut_bool htb true)
 ·rw[hsp];exact BB hP hb hread hA hlt
 ·rw[hsp,hvars];rfl
end
section
open Classical
def qi(S:List (Nat×Value)):List (Nat×Value)->List (Option Value)
 | []=>[]
 | (k,_)::t=>KU S k::qi S t
def qB:List (Nat×Value)->List (Option Value)
 | []=>[]
 | (_,v)::t=>some v::qB t
theorem Sub.k{S:List (Nat×Value)}:∀{T:List (Nat×Value)},qi S T=qB T->Sub T S
 | [],_=>Sub.nil S
 | (k,v)::t,h=>by
  simp only[qi,qB,List.cons.injEq] at h
  exact Sub.cons h.1 (Sub.k h.2)
def Ve(S:List (Nat×Value)):List Nat->List (Nat×Value)
 | []=>[]
 | k::t=>(k,(KU S k).getD (.bool false))::Ve S t
def jT(S:List (Nat×Value)):List Nat->List Bool
 | []=>[]
 | k::t=>(KU S k).isSome::jT S t
theorem Sub.p{S:List (Nat×Value)}:∀(ks:List Nat),(jT S ks).all id=true->Sub (Ve S ks) S
 | [],_=>Sub.nil S
 | k::t,h=>by
  simp only[jT,List.all_cons,id,Bool.and_eq_true] at h
  obtain⟨v,hv⟩:=Option.isSome_iff_exists.1 h.1;exact Sub.cons (by rw[hv];rfl) (Sub.p t h.2)
theorem j9{l:List Oper}{k:Nat}(h:OK l k=true):∀t o,k<=t->l[t]? =some o->∀j,j < t->∃s,WA l s t j=true:=Ti h
def DJ(l:List Oper)(i:Nat)(S0:List (Nat×Value)):List VI->Nat->List (Nat×Value)
 | [],_=>S0
 | q::qs,j=>match Yp l j with
  | none=>DJ l i S0 qs (j+1)
  | some d=>bif ((GR [] l).getD i []).getD j false then(d,q.1)::DJ l i S0 qs (j+1) else DJ l i S0 qs (j+1)
theorem Re{l:List Oper}{i:Nat}{S0 S:List (Nat×Value)}(h0:Sub S0 S){xs:List VI}{L:Nat->Bool}(hdn:∀k j,WA l k i j=true->L j=true)
  (hV:∀(j d:Nat) (v:Value),L j=true->Yp l j=some d->(xs[j]?).map Prod.fst=some v->KU S d=some v):
  ∀(qs:List VI) (j:Nat),xs.drop j=qs->Sub (DJ l i S0 qs j) S
 | [],_,_=>h0
 | q::qs,j,e=>by
  have e1:xs[j]? =some q:=by rw[<-List.head?_drop,e];rfl
  have e2:xs.drop (j+1)=qs:=by rw[<-List.drop_drop,e];rfl
  have ih:=Re h0 hdn hV qs (j+1) e2;unfold DJ;cases hd:Yp l j with
  | none=>exact ih
  | some d=>
   simp only;cases hb:((GR [] l).getD i []).getD j false with
   | false=>exact ih
   | true=>
    have hM:PC l (GR [] l):=Bp (pre:=[]) rfl rfl λt m hm=>by simp at hm
    obtain⟨s,hs⟩:∃s,WA l s i j=true:=by
     cases hm:(GR [] l)[i]? with
     | none=>rw[List.getD_eq_getElem?_getD (l:=GR [] l),hm] at hb;simp at hb
     | some m=>rw[List.getD_eq_getElem?_getD (l:=GR [] l),hm] at hb;exact hM i m hm j hb
    exact Sub.cons (hV j d q.1 (hdn s j hs) hd (by rw[e1];rfl)) ih
section
variable{O:Option Nat}{β:Type}{P:Program}{n:Nat}{D:List Deferred}{S0:List (Nat×Value)}{F:Fz}
variable{ops:Array Oper}{l:List Oper}{X:Env->List VI}{C:(Nat->Bool)->Env->List HP}{k:Nat}{o:Oper}{os:List Oper}
theorem zk.a(h:∀L env F',F<=F'->L k=false->(∀s j,WA l s k j=true->L j=true)->(∀s j,WA l s j k=true->L j=false)->(∀(j:Nat) (q:VI),L j=true->(X env)[j]? =some q->∀G,F'<=G->q.2 G)->
  GL O P ops [o] [] (Hl n D l X C L env F' k o.dst (DJ l k S0 (X env) 0)) (Hd n D (DJ l k S0 (X env) 0) F' (C L env)) (some ()) ()):zk O P ops l n D S0 F X C k o:=
 λL env F' le hL hdn hup hphi=>⟨_,λ_ hS hV=>Re hS hdn hV _ 0 rfl,h L env F' le hL hdn hup hphi⟩
theorem Gh.a(h:∀L env F',F<=F'->L k=false->(∀s j,WA l s k j=true->L j=true)->(∀s j,WA l s j k=true->L j=false)->(∀(j:Nat) (q:VI),L j=true->(X env)[j]? =some q->∀G,F'<=G->q.2 G)->
 GL O P ops [o] [] (Hl n D l X C L env F' k o.dst (DJ l k S0 (X env) 0)) (Hd n D (DJ l k S0 (X env) 0) F' (C L env)) (some ()) ()) (t:Gh O P ops l n D S0 F X C (k+1) os):Gh O P ops l n D S0 F X C k (o::os):=⟨zk.a h,t⟩
theorem Gh.b(h:∀L env F',F<=F'->GL O P ops [o] [] (Hl n D l X C L env F' k o.dst (DJ l k S0 (X env) 0)) (Hd n D (DJ l k S0 (X env) 0) F' (C L env)) (some ()) ())(t:Gh O P ops l n D S0 F X C (k+1) os):Gh O P ops l n D S0 F X C k (o::os):=
 ⟨zk.a λL env F' le _ _ _ _=>h L env F' le,t⟩
end
abbrev vP(b o:Nat):Value:=.pointer (some ⟨b,o,none⟩)
abbrev vI(x:Int):Value:=.int .i64 x
abbrev vS{α:Type}(p:Option Addr)(l:List α)(k:Nat):Value:=.slice p l.length k
abbrev pc(b:Nat)(cs:List Value)(T:TypeId):HP:=pt b (.cells cs.toArray T)
theorem J{α:Sort _}{a:α}:a=a:=rfl
abbrev vT(v:Value):VI:=(v,λ_=>True)
abbrev ON:=Option Nat
theorem J6{n m:Nat}(h:Nat.ble n m=true):n<=m:=Nat.le_of_ble_eq_true h
def va(n k:Nat)(l:List Oper)(S0:List (Nat×Value)):Bool:=ND 0 l&&OK l k&&Nat.ble k l.length&&XN n S0 (l.take k)
theorem GC.dG{O:Option Nat}{β:Type}{P:Program}{ks:List Kt}{Q:Exit->Act->World->Prop}{m:Option β}{r:β}{n:Nat}{D:List Deferred}{S0:List (Nat×Value)}{F:Fz}{hs:List HP}{id:Nat}{l:List Oper}(k g:Nat)(X:Env->List VI)(C:(Nat->Bool)->Env->List HP)(hm:P.follows .mixedOrders=true)(hB:va n k l S0=true)
  (hX:∀env,(X env).length=k) (hC:∀env,C (λ_=>false) env=hs++List.replicate g Sz)
  (hops:Gh O P l.toArray l n D S0 F X C 0 (l.take k))
  (tail:∀env F',F<=F'->(∀(j:Nat) (q:VI),(X env)[j]? =some q->q.2 F')->GL O P l.toArray (l.drop k) ks Q (Hd n D (NB (l.take k) (X env) S0) F' (C (λj=>Nat.blt j k) env)) m r):
  GC O P (.region id l.toArray true) ks Q (Hd n D S0 F hs) m r:=by
 simp only[va,Bool.and_eq_true] at hB
 exact GC.fV k g X C hm hB.1.1.1 (j9 hB.1.1.2) hB.1.2 hX hB.2 hC hops tail
abbrev BA.n:= @BA.nil
abbrev GL.m:= @GL.move
abbrev GL.s:= @GL.assign
abbrev GL.f:= @GL.fieldAddr
abbrev GL.x:= @GL.extract
abbrev GL.l:= @GL.alloc
abbrev GL.o:= @GL.norm
abbrev GL.n:= @GL.nil
abbrev GL.d:= @GL.bind
abbrev GS.m:= @GS.move
abbrev GS.s:= @GS.assign
abbrev GS.f:= @GS.fieldAddr
abbrev GS.d:= @GS.bind
abbrev GC.g:= @GC.region
abbrev GC.q:= @GC.seq
abbrev GC.k:= @GC.block
abbrev GC.o:= @GC.norm
abbrev GC.i:= @GC.cond
abbrev GC.d:= @GC.bind
abbrev GE.c:= @GE.code
abbrev GE.k:= @GE.block
abbrev GE.o:= @GE.norm
abbrev GE.n:= @GE.nil
theorem Yi{α:Type}{j:Nat}(n:Nat)(f g:Nat->α)(h:(List.range n).map f=(List.range n).map g)(hj:j < n):f j=g j:=by
 have h1:=congrArg (λl=>l[j]?) h;simp only[List.getElem?_map,List.getElem?_range hj,Option.map_some,Option.some.injEq] at h1
 exact h1
end
end Go.Dec
end
