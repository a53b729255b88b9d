/- For OfficeRefused. -/
import Derived.Test.YtijhfeohbhedkaaGreatDoorPo2
import Derived.Lib.LaidTab
import Derived.Shelf.Vars
import Derived.LaidMore
import Derived.Lay
import Derived.Handed
import Derived.SevenTiedAt
import Derived.Lib.UnsafeStr
import Derived.Lib.Builder
import Derived.Laws.Externs
noncomputable section
namespace Go.Dec
abbrev rn:=@beq_self_eq_true
abbrev lU:=@List.head?_drop
end Go.Dec
namespace Go.Dec
section
open Go.ChangeShapes Go.WideShapes Go.ChangeAt Go.RowKit
theorem zK{P:RK}{w:AT}{n:String}{d:DataW Unit}:∀{l:UV (String×DataW Unit)} {ps:UV MemPlace} (j:Nat),l[j]? =some (n,d)->DataW.LaidVars P w l ps->
  ∃g t cs fuel p T fr,P.globalNamed n=some g/\(P.globals[g]?).map (·.type)=some t/\w.heap[g]? =some (.cells cs T fr)/\DataW.trod (λ_=>()) P w 0 (λ_=>true) false fuel t cs.toList=some (d,p)
 | [],_,_,h,_=>by simp at h
 | x::l,ps,0,h,hl=>by
  simp at h;subst h
  obtain⟨g,t,cs,fuel,p,q,hg,ht,hv,hd,_,_⟩:=hl;unfold World.var? at hv
  rw[hg] at hv
  simp only[DO] at hv
  split at hv
  ·rename_i cs' T fr hh;simp only[BY] at hv
   subst hv;exact⟨g,t,_,fuel,p,T,fr,hg,ht,hh,hd⟩
  ·cases hv
 | x::l,ps,j+1,h,hl=>by
  obtain⟨g,t,cs,fuel,p,q,hg,ht,hv,hd,hr,_⟩:=hl;exact zK j (by simpa using h) hr
theorem NI{w:AT}{g:Nat}{m:Int}{k:pk}{P:RK}{t:IN}{zero:Nm Do}(h:w.ShapedOpen P)(hg:g < P.globals.size)(h0:((begin P (λ_ _=>0) default).world.heap[g]?).bind Obj.row? =some (zero,t))(hz:zero.size=1)
  (hc:w.cell? ⟨g,0,none⟩=some (.int k m)):∃T fr,w.heap[g]? =some (.cells #[.int k m] T fr):=by
 obtain⟨cs,hh,hs,_⟩:=h.1 g zero t hg h0
 have h1:cs=#[.int k m]:=by
  rw[hz] at hs
  have h2:cs[0]? =some (.int k m):=by simpa[World.cell?,hh] using hc
  apply Array.ext
  ·rw[hs];rfl
  ·intro i h1 h3;have hi:i=0:=by simp at h3;exact h3
   subst hi;rw[Array.getElem?_eq_getElem h1] at h2
   simpa using h2
 exact⟨t,_,by rw[hh,h1]⟩
end
section
open Classical
variable{S0 S:UV (Nat×Do)}
def yP(S:UV (Nat×Do)):UV (Nat×Do)->UV (H1 Do)
 | []=>[]
 | (k,_)::t=>Ky S k::yP S t
def jm:UV (Nat×Do)->UV (H1 Do)
 | []=>[]
 | (_,v)::t=>some v::jm t
theorem Sub.k:∀{T:UV (Nat×Do)},yP S T=jm T->Sub T S
 | [],_=>Sub.nil S
 | (k,v)::t,h=>by
  simp only[yP,jm,nZ] at h
  exact Sub.cons h.1<|Sub.k h.2
def u3(S:UV (Nat×Do)):UV Nat->UV (Nat×Do)
 | []=>[]
 | k::t=>(k,(Ky S k).getD<|.bool false)::u3 S t
def wc(S:UV (Nat×Do)):UV Nat->UV Bool
 | []=>[]
 | k::t=>(Ky S k).isSome::wc S t
theorem Sub.p:∀(ks:UV Nat),(wc S ks).all id=true->Sub (u3 S ks) S
 | [],_=>Sub.nil S
 | k::t,h=>by
  simp only[wc,rK,id,TO] at h
  obtain⟨v,hv⟩:=Option.isSome_iff_exists.1 h.1;exact Sub.cons (by rw[hv];rfl)<|Sub.p t h.2
theorem xb{l:UV j9}{k:Nat}(h:zb l k=true):∀t o,k<=t->l[t]? =some o->∀j,j < t->∃s,Xk l s t j=true:=NT h
def FJ(l:UV j9)(i:Nat)(S0:UV (Nat×Do)):UV Wh->Nat->UV (Nat×Do)
 | [],_=>S0
 | q::qs,j=>match Vk l j with
  | none=>FJ l i S0 qs (j+1)
  | some d=>bif ((Wf [] l).getD i []).getD j false then(d,q.1)::FJ l i S0 qs (j+1) else FJ l i S0 qs (j+1)
theorem LZ{l:UV j9}{i:Nat}(h0:Sub S0 S){xs:UV Wh}{L:Nat->Bool}(hdn:∀k j,Xk l k i j=true->L j=true)
  (hV:∀(j d:Nat) (v:Do),L j=true->Vk l j=some d->(xs[j]?).map Prod.fst=some v->Ky S d=some v):∀(qs:UV Wh) (j:Nat),xs.drop j=qs->Sub (FJ l i S0 qs j) S
 | [],_,_=>h0
 | q::qs,j,e=>by
  have e1:xs[j]? =some q:=by rw[<-lU,e];rfl
  have e2:xs.drop (j+1)=qs:=by rw[<-nl,e];rfl
  have ih:=LZ h0 hdn hV qs (j+1) e2;unfold FJ;cases hd:Vk l j with
  | none=>exact ih
  | some d=>
   simp only;cases hb:((Wf [] l).getD i []).getD j false with
   | false=>exact ih
   | true=>
    have hM:PE l (Wf [] l):=BG (pre:=[]) rfl rfl λt m hm=>by simp at hm
    obtain⟨s,hs⟩:∃s,Xk l s i j=true:=by
     cases hm:(Wf [] l)[i]? with
     | none=>rw[pj (l:=Wf [] l),hm] at hb;simp at hb
     | some m=>rw[pj (l:=Wf [] l),hm] at hb;exact hM i m hm j hb
    exact Sub.cons (hV j d q.1 (hdn s j hs) hd (by rw[e1];rfl)) ih
section
variable{O:H1 Nat}{β:Type}{P:RK}{n:Nat}{D:UV IR}{S0:UV (Nat×Do)}{F:Fz}
variable{ops:Nm j9}{l:UV j9}{X:Env->UV Wh}{C:(Nat->Bool)->Env->UV HP}{k:Nat}{o:j9}{os:UV j9}
theorem ur.a(h:∀L env F',F<=F'->L k=false->(∀s j,Xk l s k j=true->L j=true)->(∀s j,Xk l s j k=true->L j=false)->(∀(j:Nat) (q:Wh),L j=true->(X env)[j]? =some q->∀G,F'<=G->q.2 G)->
  GL O P ops [o] [] (GZ n D l X C L env F' k o.dst<|FJ l k S0 (X env) 0) (Hd n D (FJ l k S0 (X env) 0) F'<|C L env) (some ()) ()):ur O P ops l n D S0 F X C k o:=
 λL env F' le hL hdn hup hphi=>⟨_,λ_ hS hV=>LZ hS hdn hV _ 0 rfl,h L env F' le hL hdn hup hphi⟩
theorem H9.a(h:∀L env F',F<=F'->L k=false->(∀s j,Xk l s k j=true->L j=true)->(∀s j,Xk l s j k=true->L j=false)->(∀(j:Nat) (q:Wh),L j=true->(X env)[j]? =some q->∀G,F'<=G->q.2 G)->
 GL O P ops [o] [] (GZ n D l X C L env F' k o.dst<|FJ l k S0 (X env) 0) (Hd n D (FJ l k S0 (X env) 0) F'<|C L env) (some ()) ()) (t:H9 O P ops l n D S0 F X C (k+1) os):H9 O P ops l n D S0 F X C k (o::os):=⟨ur.a h,t⟩
theorem H9.b(h:∀L env F',F<=F'->GL O P ops [o] [] (GZ n D l X C L env F' k o.dst<|FJ l k S0 (X env) 0) (Hd n D (FJ l k S0 (X env) 0) F'<|C L env) (some ()) ())(t:H9 O P ops l n D S0 F X C (k+1) os):H9 O P ops l n D S0 F X C k (o::os):=⟨ur.a λL env F' le _ _ _ _=>h L env F' le,t⟩
end
abbrev vP(b o:Nat):Do:=.pointer<|some ⟨b,o,none⟩
abbrev vI(x:Int):Do:=.int .i64 x
abbrev vS{α:Type}(p:H1 Of)(l:UV α)(k:Nat):Do:=.slice p l.length k
abbrev pc(b:Nat)(cs:UV Do)(T:IN):HP:=pt b<|.cells cs.toArray T
theorem J{α:Sort _}{a:α}:a=a:=rfl
abbrev vT(v:Do):Wh:=(v,λ_=>True)
abbrev ON:=H1 Nat
theorem Jc{n m:Nat}(h:Nat.ble n m=true):n<=m:=j3 h
def gr(n k:Nat)(l:UV j9)(S0:UV (Nat×Do)):Bool:=MC 0 l&&zb l k&&Nat.ble k l.length&&GH n S0 (l.take k)
theorem GC.dG{O:H1 Nat}{β:Type}{P:RK}{ks:UV Kt}{Q:pY->Act->AT->Prop}{m:H1 β}{r:β}{n:Nat}{D:UV IR}{F:Fz}{hs:UV HP}{id:Nat}{l:UV j9}(k g:Nat)(X:Env->UV Wh)(C:(Nat->Bool)->Env->UV HP)(hm:P.follows .mixedOrders=true)(hB:gr n k l S0=true)
  (hX:∀env,(X env).length=k) (hC:∀env,C (λ_=>false) env=hs++List.replicate g SP)
  (hops:H9 O P l.toArray l n D S0 F X C 0 (l.take k))
  (tail:∀env F',F<=F'->(∀(j:Nat) (q:Wh),(X env)[j]? =some q->q.2 F')->GL O P l.toArray (l.drop k) ks Q (Hd n D (EK (l.take k) (X env) S0) F'<|C (λj=>Nat.blt j k) env) m r):GC O P (.region id l.toArray true) ks Q (Hd n D S0 F hs) m r:=by
 simp only[gr,TO] at hB
 exact GC.tJ k g X C hm hB.1.1.1 (xb hB.1.1.2) hB.1.2 hX hB.2 hC hops tail
abbrev Cx.n:= @Cx.nil
abbrev GL.m:= @GL.move
abbrev GL.s:= @GL.assign
abbrev GL.f:= @GL.fieldAddr
abbrev GL.x:= @GL.extract
abbrev GL.l:= @GL.alloc
abbrev GL.o:= @GL.norm
abbrev GL.n:= @GL.nil
abbrev GL.d:= @GL.bind
abbrev GS.m:= @GS.move
abbrev GS.s:= @GS.assign
abbrev GS.f:= @GS.fieldAddr
abbrev GS.d:= @GS.bind
abbrev GC.g:= @GC.region
abbrev GC.q:= @GC.seq
abbrev GC.k:= @GC.block
abbrev GC.o:= @GC.norm
abbrev GC.i:= @GC.cond
abbrev GC.d:= @GC.bind
abbrev GE.c:= @GE.code
abbrev GE.k:= @GE.block
abbrev GE.o:= @GE.norm
abbrev GE.n:= @GE.nil
abbrev GE.d:= @GE.bind
theorem US{α:Type}{j:Nat}(n:Nat)(f g:Nat->α)(h:(List.range n).map f=(List.range n).map g)(hj:j < n):f j=g j:=by
 have h1:=congrArg (λl=>l[j]?) h;simp only[pg,List.getElem?_range hj,dO,BY] at h1
 exact h1
end
section
variable{S:UV (Nat×Do)}{D:UV IR}{Q:pY->Act->AT->Prop}{p:H1 Of}{P:RK}{K V β α ι:Type}{l:UV (K×V)}{hs:UV HP}{m:H1 β}{after:Nm nC}{F F0 F':Fz}{ops:Nm j9}{rv:Fz->V->Do->Prop}{n b d cap sz:Nat}{c:UU α}{X:Act->AT->Prop}{T ty t kt vt:IN}{rest:UV j9}{ks:UV Kt}{pos:String}{ox oy oz:x8}{r:β}{kd:pk}{ck:K->Do}{p':HP}{x:H1 α}{zv:Do}{w:AT}{key:K}
variable{O:H1 Nat}
def yi(Φ:ι->Prop)(l:ι->UV HP):HP:=λm=>∃q,Φ q/\Qh (l q) m
section
variable{β ι:Type}{X:Act->AT->Prop}{m:H1 β}{r:β}{n:Nat}{D:UV IR}{S:UV (Nat×Do)}{F F0:Fz}{hs:UV HP}{Φ:ι->Prop}{l:ι->UV HP}
theorem GG.be(i:Nat)(hi:hs[i]? =some (yi Φ l))(k:∀q,Φ q->GG X (Hd n D S F<|l q++hs.eraseIdx i) m r):GG X (Hd n D S F hs) m r:=λhm a w ha=>by
 obtain⟨m1,⟨m2,m3,d,s1,s2,⟨q,hq,hl⟩,hr⟩,hk⟩:=ha.2.pull hi;exact k q hq hm a w ⟨ha.1,m1,Kz ⟨m2,m3,d,s1,s2,hl,hr⟩,hk⟩
theorem GG.c9(is:UV Nat)(q:ι)(hq:Φ q)(hp:JH is hs=l q)(k:GG X (Hd n D S F<|yi Φ l::JW is hs) m r):GG X (Hd n D S F hs) m r:=λhm a w ha=>
 k hm a w ⟨ha.1,ha.2.mono λ_ hm=>QQ (λ_ h=>⟨q,hq,hp▸h⟩)<|Vv (ks:=is) hm⟩
theorem Q9{p:HP}{l l' :UV HP}(h1:∀m,p m->p' m)(h2:∀m,Qh l m->Qh l' m):∀m,Qh (p::l) m->Qh (p' ::l') m:=λ_ h=>QQ h1<|QS h2 h
theorem GG.dt{l0:UV HP}(is:UV Nat)(q:ι)(hq:Φ q)(hp:JH is hs=l0)(hi:∀m,Qh l0 m->Qh (l q) m)(k:GG X (Hd n D S F<|yi Φ l::JW is hs) m r):GG X (Hd n D S F hs) m r:=λhm a w ha=>
 k hm a w ⟨ha.1,ha.2.mono λ_ hm=>QQ (λ_ h=>⟨q,hq,hi _<|hp▸h⟩)<|Vv (ks:=is) hm⟩
theorem GG.tP{p:HP}(i:Nat)(hp:∀m,p m->p' m)(hi:hs[i]? =some p)(k:GG X (Hd n D S F<|hs.set i p') m r):GG X (Hd n D S F hs) m r:=λhm a w ha=>
 k hm a w ⟨ha.1,SH.push hi<|(ha.2.pull hi).mono λ_ h=>QQ hp h⟩
theorem GG.ins{p:HP}(hp:∀m,p m)(k:GG X (Hd n D S F<|p::hs) m r):GG X (Hd n D S F hs) m r:=λhm a w ha=>
 k hm a w ⟨ha.1,ha.2.mono λm h=>⟨λ_=>none,m,λ_=>.inl rfl,λ_ _ e=>by simp at e,Mem.sub.refl _,hp _,h⟩⟩
end
def Iu(sz:Nat)(c:UU α)(F:Fz)(T:IN)(p:H1 Of)(cap:Nat)(l:UV α):HP:=λm=>Ql sz c F T p cap l m∨QG sz c F p cap l
section
variable{β α:Type}{X:Act->AT->Prop}{m:H1 β}{r:β}{n:Nat}{D:UV IR}{S:UV (Nat×Do)}{F F0 F' :Fz}{hs:UV HP}{sz cap:Nat}{c:UU α}{T:IN}{p:H1 Of}{l:UV α}
theorem It{m:Mem}(le:F<=F')(h:Iu sz c F T p cap l m):Iu sz c F' T p cap l m:=h.imp (V0 le) λh=>h.mono le
theorem GG.bT(i:Nat)(hi:hs[i]? =some (Iu sz c F0 T p cap l))(le0:F0<=F)(k:∀F',F<=F'->QG sz c F' p cap l->GG X (Hd n D S F'<|hs.eraseIdx i) m r):GG X (Hd n D S F hs) m r:=λhm a w ha=>by
 obtain⟨m1,⟨m2,m3,d,s1,s2,hq,hr⟩,hk⟩:=ha.2.pull hi;rcases hq with hq | hq
 ·obtain⟨F',le,h1,h2⟩:=SH.fj le0 (w:=w) (H:=Qh<|hs.eraseIdx i) ⟨m1,⟨m2,m3,d,s1,s2,hq,hr⟩,hk⟩;exact k F' le h2 hm a w ⟨ha.1,h1⟩
 ·exact k F (Fz.le_refl F) (hq.mono le0) hm a w ⟨ha.1,m3,hr,hk.sub s2⟩
end
def Ue(T:IN)(c:UU α)(F:Fz)(p:H1 Of):H1 α->Prop
 | none=>p=none
 | some x=>∃b cs,p=some ⟨b,0,none⟩/\F.mem b=some (.cells (List.toArray cs) T)/\∀F',F<=F'->c F' x cs
section
variable{α:Type}{T:IN}{c:UU α}{F F' :Fz}{p:H1 Of}{x:H1 α}{a:α}
theorem Ue.mono(h:Ue T c F p x)(le:F<=F'):Ue T c F' p x:=by
 cases x with
 | none=>exact h
 | some x=>obtain⟨b,cs,h1,h2,h3⟩:=h;exact⟨b,cs,h1,le.mem _ _ h2,λG l=>h3 G<|Fz.le_trans le l⟩
theorem Ue.nil:Ue T c F none none:=rfl
theorem Ue.of{cs:UV Do}(h:F.mem b=some (.cells (List.toArray cs) T))(hc:∀F',F<=F'->c F' a cs):Ue T c F (some ⟨b,0,none⟩) (some a):=⟨b,cs,rfl,h,hc⟩
theorem Ue.at(h:Ue T c F p x)(e:x=some a):∃b cs,F.mem b=some (.cells (List.toArray cs) T)/\p=some ⟨b,0,none⟩/\c F a cs:=by
 subst e;obtain⟨b,cs,h1,h2,h3⟩:=h;exact⟨b,cs,h2,h1,h3 F<|Fz.le_refl F⟩
theorem Ue.isNone(h:Ue T c F p x):p.isNone=x.isNone:=by
 cases x with
 | none=>have:p=none:=h;rw[this];rfl
 | some x=>obtain⟨b,cs,h1,_⟩:=h;rw[h1];rfl
end
section
variable{β:Type}{P:RK}{ops:Nm j9}{rest:UV j9}{ks:UV Kt}{Q:pY->Act->AT->Prop}{m:H1 β}{r:β}
variable{n:Nat}{D:UV IR}{S:UV (Nat×Do)}{F F0:Fz}{hs:UV HP}
variable{d:Nat}{ty t:IN}{pos:String}{after:Nm nC}{ox oy oz:x8}
theorem GL.aB{e t' :IN}(h:Ue T c F p x)(hd:Nat.blt d n=true)(ht:P.underlying t=some (.pointer e))(hx:QK S ox=some (.pointer p))(hy:QK S oy=some (.pointer none))(k:GL O P ops rest ks Q (Hd n D ((d,.bool x.isNone)::S) F hs) m r):GL O P ops (⟨some d,.binOp .eql t ox oy t',ty,pos,after,none⟩::rest) ks Q (Hd n D S F hs) m r:=
 GL.val hd (λa w ha=>by
  have hq:(Op.equal t (.pointer p)<|.pointer none).run P w= .ok p.isNone w:=Df ht 9999;have hg:P.eqGuardType P.depth t=false∨P.eqGuardType P.depth t=true:=by cases P.eqGuardType P.depth t<;>simp
  simp[execOp,ha.1.eval hx,ha.1.eval hy,eqGuard,binOp,hq,h.isNone]) k
theorem GL.sv{e t' :IN}(h:Ue T c F p x)(hd:Nat.blt d n=true)(ht:P.underlying t=some (.pointer e))(hx:QK S ox=some (.pointer p))(hy:QK S oy=some (.pointer none))(k:GL O P ops rest ks Q (Hd n D ((d,.bool<|!x.isNone)::S) F hs) m r):GL O P ops (⟨some d,.binOp .neq t ox oy t',ty,pos,after,none⟩::rest) ks Q (Hd n D S F hs) m r:=
 GL.val hd (λa w ha=>by
  have hq:(Op.equal t (.pointer p)<|.pointer none).run P w= .ok p.isNone w:=Df ht 9999;have hg:P.eqGuardType P.depth t=false∨P.eqGuardType P.depth t=true:=by cases P.eqGuardType P.depth t<;>simp
  simp[execOp,ha.1.eval hx,ha.1.eval hy,eqGuard,binOp,hq,h.isNone]) k
section
variable{K V:Type}{ck:K->Do}{rv:Fz->V->Do->Prop}
def UB(ck:K->Do)(rv:Fz->V->Do->Prop)(F:Fz)(p:H1 Nat)(l:UV (K×V)):Prop:=∃(b:Nat) (es:Nm pd) (clock:Nat) (l' :UV (K×V)),p=some b/\l'.Perm l/\(l.map Prod.fst).Nodup/\F.mem b=some (.map es clock)/\Ud ck rv F es.toList l'/\YK es.toList clock
theorem UB.mono{p:H1 Nat}{l:UV (K×V)}(h:UB ck rv F p l)(le:F<=F'):UB ck rv F' p l:=let⟨b,es,c,l',e,h0,h00,h1,h2,h3⟩:=h;⟨b,es,c,l',e,h0,h00,le.mem _ _ h1,h2.up le,h3⟩
theorem GG.dL[BEq K]{l:UV (K×V)}(i:Nat)(hi:hs[i]? =some (QW ck rv F0 b l))(le:F0<=F)(k:∀F',F<=F'->UB ck rv F' (some b) l->GG X (Hd n D S F'<|hs.eraseIdx i) m r):GG X (Hd n D S F hs) m r:=λhm a w ha=>by
 obtain⟨es,c,l',h0,h00,_,h2,h3,h5⟩:=WH<|ha.2.pull hi;obtain⟨l1,h4⟩:=h3.freeze;exact k _ l1 ⟨b,es,c,l',rfl,h0,h00,Fz.fw F b _,(h2.up le).up l1,h5⟩ hm a w ⟨ha.1,h4⟩
theorem GL.dL[BEq K]{l:UV (K×V)}(i:Nat)(hi:hs[i]? =some (QW ck rv F0 b l))(le:F0<=F)(k:∀F',F<=F'->UB ck rv F' (some b) l->GL O P ops rest ks Q (Hd n D S F'<|hs.eraseIdx i) m r):GL O P ops rest ks Q (Hd n D S F hs) m r:=GG.dL i hi le k
variable{b:Nat}{l:UV (K×V)}{key:K}{z:V}{kt vt:IN}{zv:Do}
variable[BEq K][LawfulBEq K]
theorem GL.dR(i:Nat)(hi:hs[i]? =some (QW ck rv F0 b l))(le0:F0<=F)(hd:Nat.blt d n=true)(ht:P.underlying t=some (.map kt vt))(ok:Wj P kt ck)(hzv:∀w,(zeroValue vt).run P w= .ok zv w)(hz:rv F z zv)(hx:QK S ox=some (.map<|some b))(hy:QK S oy=some (ck key))
  (k:∀v,rv F ((Qa l key).getD z) v->GL O P ops rest ks Q (Hd n D ((d,v)::S) F hs) m r):GL O P ops (⟨some d,.lookup t ox oy false,ty,pos,after,none⟩::rest) ks Q (Hd n D S F hs) m r:=by
 refine GL.step rfl (.inr rfl) λhm a w ha=> ?_;obtain⟨es,c,l',hpm,hn,hb',hr,_⟩:=WH<|ha.2.pull hi;obtain⟨v,hv,hrun⟩:=Xs (key:=key) hb' hr le0 ht ok hzv hz false;rw[Vc hpm hn] at hv
 refine⟨v,w,?_,k v hv hm _ _ ⟨ha.1.put hd _,ha.2⟩⟩;simp[execOp,ha.1.eval hx,ha.1.eval hy,hrun]
theorem GL.cX(i:Nat)(hi:hs[i]? =some (QW ck rv F0 b l))(le0:F0<=F)(hd:Nat.blt d n=true)(ht:P.underlying t=some (.map kt vt))(ok:Wj P kt ck)(hzv:∀w,(zeroValue vt).run P w= .ok zv w)(hz:rv F z zv)(hx:QK S ox=some (.map<|some b))(hy:QK S oy=some (ck key))
  (k:∀v,rv F ((Qa l key).getD z) v->GL O P ops rest ks Q (Hd n D ((d,.tuple #[v,.bool (Qa l key).isSome])::S) F hs) m r):GL O P ops (⟨some d,.lookup t ox oy true,ty,pos,after,none⟩::rest) ks Q (Hd n D S F hs) m r:=by
 refine GL.step rfl (.inr rfl) λhm a w ha=> ?_;obtain⟨es,c,l',hpm,hn,hb',hr,_⟩:=WH<|ha.2.pull hi;obtain⟨v,hv,hrun⟩:=Xs (key:=key) hb' hr le0 ht ok hzv hz true;rw[Vc hpm hn] at hv hrun
 refine⟨_,w,?_,k v hv hm _ _ ⟨ha.1.put hd _,ha.2⟩⟩;simp[execOp,ha.1.eval hx,ha.1.eval hy,hrun]
theorem OT{H:HP}{p:H1 Nat}(h:UB ck rv F p l)(hs:SH w F H)(ht:P.underlying t=some (.map kt vt))(ok:Wj P kt ck)(hzv:∀w,(zeroValue vt).run P w= .ok zv w)(hz:rv F z zv)(c2:Bool):∃v,rv F ((Qa l key).getD z) v/\(Instr.lookup t (.map p) (ck key) c2).run P w= .ok (if c2 then .tuple #[v,.bool (Qa l key).isSome] else v) w:=by
 obtain⟨b,es,c,l',rfl,hpm,hn,hb,hr,_⟩:=h;obtain⟨v,hv,hrun⟩:=Xs (key:=key) (SH.frozen hs hb) hr (Fz.le_refl F) ht ok hzv hz c2;rw[Vc hpm hn] at hv hrun
 exact⟨v,hv,hrun⟩
theorem GL.sy{p:H1 Nat}(h:UB ck rv F p l)(hd:Nat.blt d n=true)(ht:P.underlying t=some (.map kt vt))(ok:Wj P kt ck)(hzv:∀w,(zeroValue vt).run P w= .ok zv w)(hz:rv F z zv)(hx:QK S ox=some (.map p))(hy:QK S oy=some (ck key))
  (k:∀v,rv F ((Qa l key).getD z) v->GL O P ops rest ks Q (Hd n D ((d,v)::S) F hs) m r):GL O P ops (⟨some d,.lookup t ox oy false,ty,pos,after,none⟩::rest) ks Q (Hd n D S F hs) m r:=by
 refine GL.step rfl (.inr rfl) λhm a w ha=> ?_;obtain⟨v,hv,hrun⟩:=OT (key:=key) h ha.2 ht ok hzv hz false;refine⟨v,w,?_,k v hv hm _ _ ⟨ha.1.put hd _,ha.2⟩⟩;simp[execOp,ha.1.eval hx,ha.1.eval hy,hrun]
end
theorem GL.cY[BEq K][LawfulBEq K](h:Gl ck rv F b l)(hd:Nat.blt d n=true)(ht:P.underlying t=some (.map kt vt))(ok:Wj P kt ck)(hzv:∀w,(zeroValue vt).run P w= .ok zv w)(hx:QK S ox=some (.map<|some b))(hy:QK S oy=some (ck key))
  (k1:Qa l key=none->GL O P ops rest ks Q (Hd n D ((d,.tuple #[zv,.bool false])::S) F hs) m r)
  (k2:∀x v,Qa l key=some x->rv F x v->GL O P ops rest ks Q (Hd n D ((d,.tuple #[v,.bool true])::S) F hs) m r):GL O P ops (⟨some d,.lookup t ox oy true,ty,pos,after,none⟩::rest) ks Q (Hd n D S F hs) m r:=by
 refine GL.step rfl (.inr rfl) λhm a w ha=> ?_;obtain⟨es,c,l',hpm,hn,hb,hr⟩:=h;obtain⟨kd,hu,hsame⟩:=ok.und;have hb' :=ha.2.frozen hb;have he:=Vc (k:=key) hpm hn;rcases hr.find (k:=key) hsame ok.eq 0 with⟨g1,g2,_⟩ | ⟨j,e1,x1,g1,g2,g3,g4,g5,_⟩
 ·have hf:=run_findKey (w:=w) hu g2;refine⟨.tuple #[zv,.bool false],w,?_,k1 (by rw[<-he];exact g1) hm _ _ ⟨ha.1.put hd _,ha.2⟩⟩;simp[execOp,Instr.lookup,ha.1.eval hx,ha.1.eval hy,Jk ht,YL hb',ok.check,hf,hzv]
 ·have hf:=run_findKey (w:=w) hu g4;refine⟨.tuple #[e1.val,.bool true],w,?_,k2 x1 e1.val (by rw[<-he];exact g3) (g5 F<|Fz.le_refl F) hm _ _ ⟨ha.1.put hd _,ha.2⟩⟩;simp[execOp,Instr.lookup,ha.1.eval hx,ha.1.eval hy,Jk ht,YL hb',ok.check,hf]
end
section
variable{β:Type}{P:RK}{ops:Nm j9}{rest:UV j9}{E:Act->AT->Prop}{m:H1 β}{r:β}
variable{n:Nat}{D:UV IR}{S:UV (Nat×Do)}{F F0:Fz}{hs:UV HP}
variable{d:Nat}{ty t:IN}{pos:String}{after:Nm nC}{ox oy oz:x8}
section
variable{K V:Type}{ck:K->Do}{rv:Fz->V->Do->Prop}{b:Nat}{l:UV (K×V)}{key:K}{z:V}{kt vt:IN}{zv:Do}
variable[BEq K][LawfulBEq K]
theorem GS.dR(i:Nat)(hi:hs[i]? =some (QW ck rv F0 b l))(le0:F0<=F)(hd:Nat.blt d n=true)(ht:P.underlying t=some (.map kt vt))(ok:Wj P kt ck)(hzv:∀w,(zeroValue vt).run P w= .ok zv w)(hz:rv F z zv)(hx:QK S ox=some (.map<|some b))(hy:QK S oy=some (ck key))
  (k:∀v,rv F ((Qa l key).getD z) v->GS P ops rest E (Hd n D ((d,v)::S) F hs) m r):GS P ops (⟨some d,.lookup t ox oy false,ty,pos,after,none⟩::rest) E (Hd n D S F hs) m r:=by
 refine GS.step rfl λhm a w ha=> ?_;obtain⟨es,c,l',hpm,hn,hb',hr,_⟩:=WH<|ha.2.pull hi;obtain⟨v,hv,hrun⟩:=Xs (key:=key) hb' hr le0 ht ok hzv hz false;rw[Vc hpm hn] at hv
 refine⟨v,?_,k v hv hm _ _ ⟨ha.1.put hd _,ha.2⟩⟩;simp[execOp,ha.1.eval hx,ha.1.eval hy,hrun]
end
end
section
variable{P:RK}{w:AT}{t e sz:Nat}{kd kd' kd'' :pk}{x y:Int}{p:H1 Of}{len cap:Nat}
theorem Pj(ht:P.underlying t=some (.slice e))(hz:∀w,(sizeOf e).run P w= .ok sz w)(h:0<=x/\x<=y)(h' :y<=cap):(Instr.sliceAt t (.slice p len cap) (some<|.int kd x) (some<|.int kd' y)<|some<|.int kd'' y).run P w= .ok (.slice (if y.toNat=x.toNat then p else p.map (·.add (x.toNat*sz))) (y.toNat - x.toNat)<|y.toNat - x.toNat) w:=by
 simp only[Instr.sliceAt,pK,Jk ht,Result.andThen,Instr.slice,Instr.sliceBounds,nA,nj,OF];rw[XQ (kd:=kd'')<|by omega];simp only[];rw[XQ (kd:=kd')<|by omega];simp only[];rw[XQ<|by omega];simp[hz]
end
section
variable{β:Type}{P:RK}{ops:Nm j9}{rest:UV j9}{ks:UV Kt}{Q:pY->Act->AT->Prop}{m:H1 β}{r:β}
variable{n:Nat}{D:UV IR}{S:UV (Nat×Do)}{F:Fz}{hs:UV HP}{d:Nat}{ty t:IN}{pos:String}{after:Nm nC}{ox oy oz ou:x8}{kd:pk}{x y:Int}
theorem GL.cp{e:Nat}{l:UV α}{kd' kd'' :pk}{f:UV α->H1 β}(hd:Nat.blt d n=true)(ht:P.underlying t=some (.slice e))(hz:∀w,(sizeOf e).run P w= .ok sz w)
  (hr:QG sz c F p cap l) (hx:QK S ox=some (.slice p l.length cap)) (hy:QK S oy=some (.int kd x)) (hm:QK S oz=some (.int kd' y)) (hu:QK S ou=some (.int kd'' y))
  (k:∀l' p' c',ZX l x y=some l'->QG sz c F p' c' l'->GL O P ops rest ks Q (Hd n D ((d,.slice p' l'.length c')::S) F hs) (f l') r):GL O P ops (⟨some d,.slice t ox (some oy) (some oz)<|some ou,ty,pos,after,none⟩::rest) ks Q (Hd n D S F hs) ((ZX l x y).bind f) r:=
 GL.bind λl' hl=>by
  have hl' :=hl;unfold ZX at hl
  split at hl
  ·rename_i h;simp only[BY] at hl
   have hcut:QG sz c F (p.map (·.add (x.toNat*sz))) (y.toNat - x.toNat) l' :=by
    have:=hr.cut (lo:=x.toNat) (hi:=y.toNat) (cap' :=y.toNat - x.toNat) (by omega) (by omega) (by have:=hr.1;omega) (by have:=hr.1;omega);rw[<-hl];exact this
   have hlen:l'.length=y.toNat - x.toNat:=by rw[<-hl];simp;omega
   have hrep:QG sz c F (if y.toNat=x.toNat then p else p.map (·.add (x.toNat*sz))) (y.toNat - x.toNat) l' :=L8 (λh=>by
    have:l' =[]:=by have:=hcut.1;rw[<-h] at this;simp at this;exact this
    subst this;exact hcut.ai) hcut
   have hk:=k l' _ _ hl' hrep;rw[hlen] at hk
   refine GL.val hd (λa w ha=> ?_) hk;simp only[execOp,ha.1.eval hx,ha.1.eval hy,ha.1.eval hm,ha.1.eval hu,dO,pK];rw[Pj ht hz (by omega) (by have:=hr.1;omega)];rfl
  ·cases hl
end
section
variable{P:RK}{w:AT}{t:Nat}{kd:pk}{x:Int}{s:UV AC}
theorem N7(ht:P.underlying t=some .string)(h:0<=x/\x<=s.length):(Instr.sliceAt t (.string<|bs s) (some<|.int kd x) none none).run P w= .ok (.string<|bs<|s.drop x.toNat) w:=by
 simp only[Instr.sliceAt,pK,Jk ht,Result.andThen,Instr.slice,Instr.sliceBounds,nA,nI,By,PP,TJ];rw[XQ<|by omega];simp[AR];rw[s4];simp
variable{n:Nat}{D:UV IR}{S:UV (Nat×Do)}{a:Act}{d:Nat}{ty:IN}{pos:String}{after:Nm nC}{ox oy:x8}
theorem Rf(h:Sl n D S a)(ht:P.underlying t=some .string)(hx:QK S ox=some (.string<|bs s))(hy:QK S oy=some (.int kd x)){l:UV AC}(hl:ZX s x s.length=some l):(execOp a.eval ⟨some d,.slice t ox (some oy) none none,ty,pos,after,none⟩).run P w= .ok (.value<|.string<|bs l) w:=by
 unfold ZX at hl
 split at hl
 ·rename_i hh;simp only[BY] at hl
  simp only[execOp,h.eval hx,h.eval hy,dO,nM,pK];rw[N7 ht (by omega),<-hl,s4<|by simp];rfl
 ·cases hl
end
section
variable{β:Type}{P:RK}{ops:Nm j9}{rest:UV j9}{ks:UV Kt}{Q:pY->Act->AT->Prop}{E:Act->AT->Prop}{m:H1 β}{r:β}
variable{n:Nat}{D:UV IR}{S:UV (Nat×Do)}{F:Fz}{hs:UV HP}{d:Nat}{ty t:IN}{pos:String}{after:Nm nC}{ox oy:x8}{kd:pk}{x:Int}{s:UV AC}
theorem GL.aD{f:UV AC->H1 β}(hd:Nat.blt d n=true)(ht:P.underlying t=some .string)(hx:QK S ox=some (.string<|bs s))(hy:QK S oy=some (.int kd x))(k:∀z,ZX s x s.length=some z->GL O P ops rest ks Q (Hd n D ((d,.string<|bs z)::S) F hs) (f z) r):GL O P ops (⟨some d,.slice t ox (some oy) none none,ty,pos,after,none⟩::rest) ks Q (Hd n D S F hs) ((ZX s x s.length).bind f) r:=GL.bind λz h=>GL.val hd (λa w ha=>Rf ha.1 ht hx hy h)<|k z h
theorem GS.sa{z:UV AC}(h:ZX s x s.length=some z)(hd:Nat.blt d n=true)(ht:P.underlying t=some .string)(hx:QK S ox=some (.string<|bs s))(hy:QK S oy=some (.int kd x))(k:GS P ops rest E (Hd n D ((d,.string<|bs z)::S) F hs) m r):GS P ops (⟨some d,.slice t ox (some oy) none none,ty,pos,after,none⟩::rest) E (Hd n D S F hs) m r:=GS.val hd (λa w ha=>Rf ha.1 ht hx hy h) k
end
theorem y6{a b:UV AC}:(bs a==bs b)=(a==b):=by
 show(bs a).beq (bs b)=_;unfold ByteArray.beq;simp[bs]
theorem Wj.str(h:P.underlying t=some .string):Wj P t (λx:UV AC=>.string<|bs x) where
 und:=⟨_,h,λa b=>by simp only[Instr.sameNow];rw[y6]⟩
 check e k w:=by unfold Instr.checkKey;simp[Jk h]
 same a:=by show(bs a==bs a)=true;rw[y6,rn]
 eq a b e:=by simpa using e
section
variable{ε β:Type}{P:RK}{penc:ε->Do}{fn:nK}
def CV(P:RK)(penc:ε->Do)(fn:nK)(F:Fz)(R:HP)(ρ:β->Fz->Do->Prop)(Hs' :β->Fz->Do->UV HP)(r:Out ε β):pY->Act->AT->Prop:=
 bodyPostM Fence.wide 0 P fn (λe w' =>∃F',F<=F'/\match r with
  | .ok x=>∃v,e= .returned v/\ρ x F' v/\SH w' F' (star (Qh<|Hs' x F' v) R)
  | .pan x=>e= .panicked [{v:=penc x,recovered:=false}]/\SH w' F' R)
theorem VZ.bN{f:x4}{c:rj}{args:UV Do}{F:Fz}{Hs:UV HP}{m:H1 (Out ε β)}{ρ:β->Fz->Do->Prop}{Hs' :β->Fz->Do->UV HP}{n:Nat}
  (hf:P.funcs[f]? =some fn) (hb:fn.body=some c) (hn:fn.ntmps=n) (ha:Nat.ble args.length n=true)
  (k:∀r R,GC none P c [] (CV P penc fn F R ρ Hs' r) (Hd n [] (DJ 0 args) F<|Hs++[R]) m r):VZ P penc f args.toArray F Hs m ρ Hs' :=by
 intro r hm w R hw;refine(pa (n:=0)).1<|mg hf hb trivial<|k r R hm _ w ⟨?_,hw.mono λm hm=>Kz<|QS (λ_ h=>J3 h) hm⟩;rw[hn];exact Uq ha
theorem Oy{tmps:Nm Do}{R:mr->AT->Prop}{chain:UV PanicEntry}:∀{ms:UV (Nat×Nat)} {hs:UV HP} {w:AT},SH w F (Qh hs)->yE hs ms->
  (∀w',SH w' F (Qh<|HM hs ms)->R (.panicked chain) w')->LeavesInM Fence.wide 0 P fn tmps R (ms.map λp=>WC p.2) (.panicking chain) w
 | [],hs,w,h,_,k=>k w h
 | (i,q)::ms,hs,w,h,ho,k=>by
  refine⟨by simp,.inl ⟨q,_,rfl,run_takeDeferred<|SH.fo ho.1 h,?_⟩⟩;exact Oy (SH.putAt ho.1 h _) ho.2 k
variable{n:Nat}{S:UV (Nat×Do)}{F F' :Fz}{hs:UV HP}{ks:UV Kt}{R:HP}{ρ:β->Fz->Do->Prop}{Hs' :β->Fz->Do->UV HP}{x:β}{r:Out ε β}{rs:UV ResultVar}{vs:UV Do}{ms:UV (Nat×Nat)}
theorem I0(is:UV Nat)(ms:UV (Nat×Nat))(hr:fn.results=rs.toArray)(ho:yE hs ms)(h:Cx P S F' (HM hs ms) rs vs)(hi:JH is (HM hs ms)=Hs' x F' (SZ vs)++[R])(le:F<=F')(hρ:ρ x F' (SZ vs)):some (Out.ok x)=some r->∀a w,Hd n (ms.map λp=>WC p.2) S F' hs a w->CV P penc fn F R ρ Hs' r .ret a w:=by
 intro e a w ha;simp only[BY] at e
 subst e;show LeavesInM Fence.wide 0 P fn a.tmps _ a.defers .returning w;rw[ha.1.2.1];refine P2 ha.2 ho λw' h' => ?_
 exact⟨_,JX (n:=n) (a:=a) (D:=a.defers) hr ⟨⟨ha.1.1,rfl,ha.1.2.2⟩,h'⟩ h,F',le,_,rfl,hρ,h'.mono λm hm=>by
  have h1:=VQ (ks:=is) hm;rw[hi] at h1
  exact Xe<|VR h1⟩
theorem GC.ak(is:UV Nat)(ms:UV (Nat×Nat))(hr:fn.results=rs.toArray)(ho:yE hs ms)(h:Cx P S F' (HM hs ms) rs vs)(hi:JH is (HM hs ms)=Hs' x F' (SZ vs)++[R])(le:F<=F')(hρ:ρ x F' (SZ vs)):GC O P .ret ks (CV P penc fn F R ρ Hs' r) (Hd n (ms.map λp=>WC p.2) S F' hs) (some<|.ok x) r:=GC.fy<|I0 is ms hr ho h hi le hρ
theorem Xt{q:ε}{i:Nat}(ms:UV (Nat×Nat))(ho:yE hs ms)(hi:(HM hs ms)[i]? =some R)(le:F<=F'):some (Out.pan q)=some r->∀a w,Hd n (ms.map λp=>WC p.2) S F' hs a w->CV P penc fn F R ρ Hs' r (.panic [{v:=penc q,recovered:=false}]) a w:=by
 intro e a w ha;simp only[BY] at e
 subst e;show LeavesInM Fence.wide 0 P fn a.tmps _ a.defers (.panicking _) w;rw[ha.1.2.1];exact Oy ha.2 ho λw' h' =>⟨F',le,rfl,h'.only hi⟩
end
section
variable{β:Type}{P:RK}{ops:Nm j9}{l0:UV j9}{cd:rj}{ks:UV Kt}{Q:pY->Act->AT->Prop}{m:H1 β}{r:β}
variable{n:Nat}{D:UV IR}{S:UV (Nat×Do)}{F F0:Fz}{hs:UV HP}
theorem GL.dU{p:HP}(i:Nat)(hp:∀m,p m->p' m)(hi:hs[i]? =some p)(k:GL O P ops l0 ks Q (Hd n D S F<|hs.set i p') m r):GL O P ops l0 ks Q (Hd n D S F hs) m r:=GG.tP i hp hi k
theorem GC.dU{p:HP}(i:Nat)(hp:∀m,p m->p' m)(hi:hs[i]? =some p)(k:GC O P cd ks Q (Hd n D S F<|hs.set i p') m r):GC O P cd ks Q (Hd n D S F hs) m r:=GG.tP i hp hi k
theorem GE.dU{p:HP}(i:Nat)(hp:∀m,p m->p' m)(hi:hs[i]? =some p)(k:GE O P ks Q (Hd n D S F<|hs.set i p') m r):GE O P ks Q (Hd n D S F hs) m r:=GG.tP i hp hi k
section
variable{ι:Type}{Φ:ι->Prop}{l:ι->UV HP}
theorem GL.be(i:Nat)(hi:hs[i]? =some (yi Φ l))(k:∀q,Φ q->GL O P ops l0 ks Q (Hd n D S F<|l q++hs.eraseIdx i) m r):GL O P ops l0 ks Q (Hd n D S F hs) m r:=GG.be i hi k
theorem GC.c9(is:UV Nat)(q:ι)(hq:Φ q)(hp:JH is hs=l q)(k:GC O P cd ks Q (Hd n D S F<|yi Φ l::JW is hs) m r):GC O P cd ks Q (Hd n D S F hs) m r:=GG.c9 is q hq hp k
end
section
variable{α:Type}{sz cap:Nat}{c:UU α}{T:IN}{p:H1 Of}{l:UV α}
theorem GL.bT(i:Nat)(hi:hs[i]? =some (Iu sz c F0 T p cap l))(le0:F0<=F)(k:∀F',F<=F'->QG sz c F' p cap l->GL O P ops l0 ks Q (Hd n D S F'<|hs.eraseIdx i) m r):GL O P ops l0 ks Q (Hd n D S F hs) m r:=GG.bT i hi le0 k
theorem GE.toQ(i:Nat)(le:F0<=F)(hi:hs[i]? =some (Ql sz c F0 T p cap l))(k:GE O P ks Q (Hd n D S F<|hs.set i<|Iu sz c F T p cap l) m r):GE O P ks Q (Hd n D S F hs) m r:=GG.tP i (λ_ h=>.inl<|V0 le h) hi k
theorem GE.tn(h:QG sz c F p cap l)(k:GE O P ks Q (Hd n D S F<|Iu sz c F T p cap l::hs) m r):GE O P ks Q (Hd n D S F hs) m r:=GG.ins (λ_=>.inr h) k
end
end
end
section
variable{T:Nm IN}{p:H1 Of}{S:UV (Nat×Do)}{s:UV AC}{D:UV IR}{P:RK}{F F0:Fz}{f:x4}{cap n i:Nat}{ti:TypeInfo}{l:UV Int}{hs:UV HP}{e:IN}{β:Type}
variable{O:H1 Nat}
theorem qP{a b:UV AC}:WZ (a++b)=WZ a++WZ b:=by simp[WZ]
theorem SE{a:UV AC}:(WZ a).length=a.length:=by simp[WZ]
theorem yC(l:UV AC):Ji 1 (Ex<|KK .u8) F (WZ l) (l.map λb=>Value.int .u8 b.toNat):=λi x hx F' _=>by
 simp only[WZ,pg] at hx
 cases h:l[i]? with
 | none=>rw[h] at hx;cases hx
 | some b=>
  rw[h] at hx
  simp only[dO,BY] at hx
  subst hx;obtain⟨hi,he⟩:=So.1 h;show((l.map _).drop<|i*1).take 1=KK .u8 _;rw[mL,pR<|by simpa using hi];simp[KK,he]
theorem OV{w:AT}{H:HP}{e t t2:Nat}{ty:IN}
  (E:U7 P e 1 (Ex<|KK .u8)) (le0:F0<=F) (ht:P.underlying t=some (.slice e)) (ht2:P.underlying t2=some .string)
  (hT0:T[0]? =some t) (hT1:T[1]? =some t2) (h:SH w F (star (Ql 1 (Ex<|KK .u8) F0 e p cap l) H)) (hlen:l.length+s.length<=4294967296):∃p' cap' w',(Builtin.append_ T ty #[.slice p l.length cap,.string<|bs s]).run P w= .ok (.slice p' (l++WZ s).length cap') w'/\SH w' F (star (Ql 1 (Ex<|KK .u8) F e p' cap'<|l++WZ s) H)/\(l++WZ s=[]->p' =p/\cap' =cap):=by
 obtain⟨ti,hti,hb0,hb1⟩:=E.info;obtain⟨z,hzero,hzl⟩:=E.zero;have hz:=E.size;have hfr:∀b o,F.mem b=some o->w.heap[b]? =some o:=λb o e=>h.frozen e;have hl2:(WZ s).length=s.length:=SE;generalize hus:(s.map λb=>Value.int .u8 (b.toNat:Int))=us2;have hus2:us2.length=(WZ s).length*1:=by rw[<-hus];simp[WZ]
 have hp2:Ji 1 (Ex<|KK .u8) F (WZ s) us2:=hus▸yC s;have hall:us2.all Value.oneCell' =true:=by rw[<-hus];simp[Value.oneCell']
 have hsrc:∀w' :AT,(Builtin.firstCells 1 (WZ s).length<|.string<|bs s).run P w' = .ok us2.toArray w' :=λw' =>by
  have:(ByteArray.extract (bs s) 0 (WZ s).length)=bs s:=by rw[hl2,AR];simp
  simp only[Builtin.firstCells,this];rw[<-hus];simp[bs]
 have hlo:∀w' :AT,(Builtin.lenOf<|.string<|bs s).run P w' = .ok (WZ s).length w' :=λw' =>by simp[Builtin.lenOf,TJ,hl2]
 obtain⟨m,⟨m1,m2,d,s1,s2,⟨h1,h2,h3⟩,hq⟩,k⟩:=h;by_cases hneed:l.length+(WZ s).length<=cap
 ·rcases h3 with⟨rfl,rfl⟩ | ⟨b,cs,rfl,hb,hl,hp⟩
  ·have e1:l=[]:=x6 (by omega);have e2:WZ s=[]:=x6 (by omega);subst e1;have e3:us2=[]:=x6 (by rw[hus2,e2];rfl);rw[e2] at hsrc hlo ⊢
   refine⟨none,0,w,?_,⟨m,⟨m1,m2,d,s1,s2,⟨by simp,by simp,.inl ⟨rfl,rfl⟩⟩,hq⟩,k⟩,λ_=>⟨rfl,rfl⟩⟩;simp only[Builtin.append_];simp only[pS] at hsrc hlo
   simp[hT0,hT1,Jk ht,Jk ht2,hz,hlo,hsrc,e3]
  ·have hh:SH w F (star (pt b<|.cells cs.toArray e (0,0)) H):=⟨m,⟨m1,m2,d,s1,s2,hb,hq⟩,k⟩;have hbl:=hh.owned
   have hroom:l.length*1+us2.length<=cs.length:=by
    rw[hus2,hl,<-rR];exact nB 1 hneed
   have hst:=Wy (P:=P) (o:=l.length*1) (i:=0) hbl (by simpa using hroom) hall;simp only[mz] at hst
   refine⟨some ⟨b,0,none⟩,cap,put w b<|.cells (Kq cs (l.length*1) us2).toArray e (0,0),?_,?_,λ_=>⟨rfl,rfl⟩⟩
   ·simp only[Builtin.append_];simp only[mL] at hst
    simp[hT0,hT1,Jk ht,Jk ht2,hz,hlo,hsrc,hneed,WO,hst]
   ·have hp' :=hh.put (o' :=.cells (Kq cs (l.length*1) us2).toArray e (0,0));refine hp'.mono λm hm=>QQ (λm' hm' =>⟨by simp;omega,h2,.inr ⟨b,_,rfl,hm',by rw[HF];exact hl,?_⟩⟩) hm;have:=Gb us2 cs (l.length*1) hroom;rw[hus2,<-rR] at this
    apply Ji.sq;rw[pV,this];exact(hp.mono le0).take.append hp2 (by simp;omega)
 ·have hn:Hm (l.length+(WZ s).length) cap ti.bytes:=CK (Nat.lt_of_not_le hneed) (by omega) hb1
  have hold:∃us:UV Do,us.length=l.length*1/\Ji 1 (Ex<|KK .u8) F l us/\∀w' :AT,w'.heap=w.heap->(Builtin.firstCells 1 l.length<|.slice p l.length cap).run P w' = .ok us.toArray w' :=by
   rcases h3 with⟨rfl,rfl⟩ | ⟨b,cs,rfl,hb,hl,hp⟩
   ·have e1:l=[]:=x6 (by omega);subst e1;exact⟨[],by simp,Ji.nil,λw' _=>by simp[Builtin.firstCells]⟩
   ·have hpl:=hp.len E.len;refine⟨cs.take<|l.length*1,by simp;omega,(hp.mono le0).take,λw' hw' => ?_⟩;simp only[Builtin.firstCells];exact X8 (cs:=cs) (T:=e) (fr:=(0,0)) (by rw[hw'];exact k.aP<|s1 _ _ hb) (by simp) (by simp;omega)
  obtain⟨us,hus',hp1,hold⟩:=hold;have hHq:SH w F H:=⟨m2,hq,k.sub s2⟩;generalize hq' :Question.appendCap (l.length+(WZ s).length) cap e=q
  have hcap:l.length+(WZ s).length<=q.cut (w.tape w.drawn q)/\q.cut (w.tape w.drawn q)<=9223372036854775807:=by
   rw[<-hq'];have:=mn (w.tape w.drawn<|Question.appendCap (l.length+(WZ s).length) cap e) (show 0 < 2^63 - (l.length+(WZ s).length) by omega);simp only[Question.cut];omega
  have hforced:q.forced=false:=by rw[<-hq'];rfl
  generalize hC:q.cut (w.tape w.drawn q)=C at hcap
  have hdrew:SH {w with drawn:=w.drawn+1} F H:=hHq.drew _;have halloc:=hdrew.alloc<|.cells ((us.toArray++us2.toArray++Builtin.zeroCells z.cells (C - (l.length+(WZ s).length)))) e;have e3:(Builtin.zeroCells z.cells<|C - (l.length+(WZ s).length)).size=(C - (l.length+(WZ s).length))*1:=by simp[Builtin.zeroCells,hzl]
  have e4:(us.toArray++us2.toArray++Builtin.zeroCells z.cells (C - (l.length+(WZ s).length))).toList.length=C*1:=by
   simp only[nY,lM,eT,hus',hus2,e3];rw[<-rR,<-rR];congr 1;omega
  have e5:Ji 1 (Ex<|KK .u8) F (l++WZ s) (us.toArray++us2.toArray++Builtin.zeroCells z.cells (C - (l.length+(WZ s).length))).toList:=by
   have:=(hp1.append hp2 hus').bg (us2:=(Builtin.zeroCells z.cells<|C - (l.length+(WZ s).length)).toList) (by simp[hus',hus2]);simpa using this
  refine⟨some ⟨w.heap.size,0,none⟩,C,_,?_,halloc.mono λm hm=>QQ (λm' hm' =>⟨by simp only[pV];exact hcap.1,hcap.2,.inr ⟨w.heap.size,(us.toArray++us2.toArray++Builtin.zeroCells z.cells (C - (l.length+(WZ s).length))).toList,rfl,(by have hm2:pt w.heap.size _ m' :=hm';unfold pt at hm2 ⊢;rw[hm2]),e4,e5⟩⟩) hm,λhe=> ?_⟩
  ·simp only[Builtin.append_];have hnb:=hn;unfold Hm at hnb
   have hnot:¬(2:Nat)^48 < Builtin.nextslicecap (l.length+(WZ s).length) cap*ti.bytes:=by omega
   have g1:=hold w.drew rfl;have g2:=hsrc w.drew;simp[hT0,hT1,Jk ht,Jk ht2,hz,hlo,hneed,hti,hb0,hnot,hq',hforced,hC,g1,g2,hzero,newRow];simp only[<-eK,eP]
  ·exfalso;have h5:=congrArg List.length he;simp only[pV,pS] at h5;omega
def xV(e:IN)(p:H1 Of)(cap:Nat)(s:UV AC):HP:=λm=>∃F,Ql 1 (Ex<|KK .u8) F e p cap (WZ s) m
theorem vy{m:Mem}(F' :Fz)(h:xV e p cap s m):Ql 1 (Ex<|KK .u8) F' e p cap (WZ s) m:=by
 obtain⟨F,h1,h2,h3⟩:=h;rcases h3 with h3 | ⟨b,cs,e,hb,hl,hp⟩
 ·exact⟨h1,h2,.inl h3⟩
 ·exact⟨h1,h2,.inr ⟨b,cs,e,hb,hl,λi x hx G _=>hp i x hx F<|Fz.le_refl _⟩⟩
def Fe(T e:IN)(b:Nat)(s:UV AC):HP:=yi (λq:H1 Of×H1 Of×Nat=>(q.1=none∨q.1=some ⟨b,0,none⟩)/\(s=[]->q.2.1=none∨q.2.2≠0)) λq=>[pc b [.pointer q.1,.slice q.2.1 (WZ s).length q.2.2] T,xV e q.2.1 q.2.2 s]
section
variable{β:Type}{X:Act->AT->Prop}{m:H1 β}{r:β}{n:Nat}{D:UV IR}{S:UV (Nat×Do)}{F F0:Fz}{hs:UV HP}{T e b:IN}{s:UV AC}
theorem GG.df(i:Nat)(hi:hs[i]? =some (Fe T e b s))(k:∀p q cap,(p=none∨p=some ⟨b,0,none⟩)->(q=none∨cap≠0)->GG X (Hd n D S F<|pc b [.pointer p,.slice q (WZ s).length cap] T::Ql 1 (Ex<|KK .u8) F e q cap (WZ s)::hs.eraseIdx i) m r):GG X (Hd n D S F hs) m r:=
 GG.be i hi fun⟨p,q,cap⟩ ⟨h1,h2⟩=>GG.tP (p' :=Ql 1 (Ex<|KK .u8) F e q cap<|WZ s) 1 (λ_ h=>vy F h) rfl λhm a w ha=>by
  refine k p q cap h1 ?_ hm a w ha;by_cases hs0:s=[]
  ·exact h2 hs0
  ·right;obtain⟨_,⟨m1,_,_,_,_,⟨hl,_⟩,_⟩,_⟩:=ha.2.pull (k:=1) rfl;rw[SE] at hl
   intro e0;subst e0;exact hs0<|x6<|by omega
theorem GG.dk{q:H1 Of}(is:UV Nat)(hp:p=none∨p=some ⟨b,0,none⟩)(hq:s=[]->q=none∨cap≠0)(hi:JH is hs=[pc b [.pointer p,.slice q (WZ s).length cap] T,Ql 1 (Ex<|KK .u8) F0 e q cap<|WZ s])(k:GG X (Hd n D S F<|Fe T e b s::JW is hs) m r):GG X (Hd n D S F hs) m r:=GG.dt is (p,q,cap) ⟨hp,hq⟩ hi (Q9 (λ_ h=>h)<|Q9 (λ_ h=>⟨F0,h⟩) λ_ h=>h) k
end
section
variable{β:Type}{P:RK}{ops:Nm j9}{rest:UV j9}{ks:UV Kt}{Q:pY->Act->AT->Prop}{E:Act->AT->Prop}{m:H1 β}{r:β}
variable{n:Nat}{D:UV IR}{S:UV (Nat×Do)}{F F0:Fz}{hs:UV HP}{d:Nat}{ty t t2 e T b:IN}{pos:String}{after:Nm nC}{ox oy:x8}{p:H1 Of}{cap:Nat}{s:UV AC}{c:rj}
theorem GL.df(i:Nat)(hi:hs[i]? =some (Fe T e b s))(k:∀p q cap,(p=none∨p=some ⟨b,0,none⟩)->(q=none∨cap≠0)->GL O P ops rest ks Q (Hd n D S F<|pc b [.pointer p,.slice q (WZ s).length cap] T::Ql 1 (Ex<|KK .u8) F e q cap (WZ s)::hs.eraseIdx i) m r):GL O P ops rest ks Q (Hd n D S F hs) m r:=GG.df i hi k
theorem GC.df(i:Nat)(hi:hs[i]? =some (Fe T e b s))(k:∀p q cap,(p=none∨p=some ⟨b,0,none⟩)->(q=none∨cap≠0)->GC O P c ks Q (Hd n D S F<|pc b [.pointer p,.slice q (WZ s).length cap] T::Ql 1 (Ex<|KK .u8) F e q cap (WZ s)::hs.eraseIdx i) m r):GC O P c ks Q (Hd n D S F hs) m r:=GG.df i hi k
theorem GL.dk{q:H1 Of}(is:UV Nat)(hp:p=none∨p=some ⟨b,0,none⟩)(hq:s=[]->q=none∨cap≠0)(hi:JH is hs=[pc b [.pointer p,.slice q (WZ s).length cap] T,Ql 1 (Ex<|KK .u8) F0 e q cap<|WZ s])(k:GL O P ops rest ks Q (Hd n D S F<|Fe T e b s::JW is hs) m r):GL O P ops rest ks Q (Hd n D S F hs) m r:=GG.dk is hp hq hi k
theorem GC.aV(k:GC O P c ks Q (Hd n D S F<|SP::hs) m r):GC O P c ks Q (Hd n D S F hs) m r:=GG.ins (λ_=>trivial) k
theorem GL.aJ(i:Nat)(e:IN)(hi:hs[i]? =some (pc b [.pointer none,.slice none 0 0] T))(k:GL O P ops rest ks Q (Hd n D S F<|hs.set i<|Fe T e b []) m r):GL O P ops rest ks Q (Hd n D S F hs) m r:=λhm a w ha=>k hm a w ⟨ha.1,SH.push hi<|(ha.2.pull hi).mono λ_ hm=>QQ (λm h=>⟨(none,none,0),⟨.inl rfl,λ_=>.inl rfl⟩,m,λ_=>none,λ_=>.inr rfl,Mem.sub.refl _,λ_ _ e=>by simp at e,h,λ_=>none,λ_=>none,λ_=>.inr rfl,λ_ _ e=>by simp at e,λ_ _ e=>by simp at e,⟨F,C7⟩,trivial⟩) hm⟩
theorem GL.ah{f:UV Int->H1 β}{T:Nm IN}(i:Nat)(E:U7 P e 1 (Ex<|KK .u8))(le0:F0<=F)(hd:Nat.blt d n=true)(ht:P.underlying t=some (.slice e))(ht2:P.underlying t2=some .string)(hT0:T[0]? =some t)(hT1:T[1]? =some t2)
  (hi:hs[i]? =some (Ql 1 (Ex<|KK .u8) F0 e p cap l)) (hx:QK S ox=some (.slice p l.length cap)) (hy:QK S oy=some (.string<|bs s))
  (k:∀l' p' cap',Vn l (WZ s)=some l'->(l' =[]->p' =p/\cap' =cap)->GL O P ops rest ks Q (Hd n D ((d,.slice p' l'.length cap')::S) F<|hs.set i<|Ql 1 (Ex<|KK .u8) F e p' cap' l') (f l') r):GL O P ops (⟨some d,.call ⟨.builtin .append,#[ox,oy],T⟩,ty,pos,after,none⟩::rest) ks Q (Hd n D S F hs) ((Vn l<|WZ s).bind f) r:=
 GL.bind λl' hl=>by
  have hl' :=hl;unfold Vn at hl
  split at hl
  ·rename_i hlen;simp only[BY] at hl
   subst hl;refine GL.step rfl (.inr rfl) λhm a w ha=> ?_;obtain⟨p',cap',w',hrun,hS,hnil⟩:=OV (P:=P) (T:=T) (ty:=ty) (s:=s) E le0 ht ht2 hT0 hT1 (ha.2.pull hi) (by rw[SE] at hlen;exact hlen);refine⟨_,w',?_,k _ p' cap' hl' hnil hm _ _ ⟨ha.1.put hd _,SH.push hi hS⟩⟩;simp[execOp,resolve,invoke,builtin,ha.1.eval hx,ha.1.eval hy,hrun]
  ·cases hl
theorem GL.aL{l':UV Int}{T:Nm IN}(happ:Vn l (WZ s)=some l')(i:Nat)(E:U7 P e 1 (Ex<|KK .u8))(le0:F0<=F)(hd:Nat.blt d n=true)(ht:P.underlying t=some (.slice e))(ht2:P.underlying t2=some .string)(hT0:T[0]? =some t)(hT1:T[1]? =some t2)
  (hi:hs[i]? =some (Ql 1 (Ex<|KK .u8) F0 e p cap l)) (hx:QK S ox=some (.slice p l.length cap)) (hy:QK S oy=some (.string<|bs s))
  (k:∀p' cap',(l' =[]->p' =p/\cap' =cap)->GL O P ops rest ks Q (Hd n D ((d,.slice p' l'.length cap')::S) F<|hs.set i<|Ql 1 (Ex<|KK .u8) F e p' cap' l') m r):GL O P ops (⟨some d,.call ⟨.builtin .append,#[ox,oy],T⟩,ty,pos,after,none⟩::rest) ks Q (Hd n D S F hs) m r:=by
 have h:=GL.ah (f:=λ_=>m) (pos:=pos) (after:=after) (ty:=ty) i E le0 hd ht ht2 hT0 hT1 hi hx hy (λl'' p' cap' hl'' hn=>by rw[happ] at hl'';cases hl'';exact k p' cap' hn);rw[happ] at h;exact h
theorem GL.sC{caps as1 vs:UV Do}{of:x8}{os:UV x8}{T:Nm IN}{ρ:Unit->Fz->Do->Prop}{H:HP}{H' :Unit->Fz->Do->HP}(hd:Nat.blt d n=true)
  (hcall:∀args w,(callFunc f args).run P w= .ok (.enter f args) w) (hf:QK S of=some (.func (.func f) #[] caps.toArray)) (ha:UR S os=some vs) (has:vs++caps=as1) (hi:hs[i]? =some H)
  (hc:CT P f as1.toArray F H (some ()) ρ H') (k:∀F' v,F<=F'->GL O P ops rest ks Q (Hd n D ((d,v)::S) F'<|hs.set i<|H' () F' v) m r):GL O P ops (⟨some d,.call ⟨.value of,os.toArray,T⟩,ty,pos,after,none⟩::rest) ks Q (Hd n D S F hs) m r:=
 GL.bE (e:=some ()) (g:=λ_=>m) hd hcall hf ha has hi hc (λ_ F' v _ le _=>k F' v le)
theorem GL.tr{t' :IN}(hd:Nat.blt d n=true)(ht:P.underlying t=some (.pointer e))(hx:QK S ox=some (.pointer p))(hy:QK S oy=some (.pointer none))(k:GL O P ops rest ks Q (Hd n D ((d,.bool p.isNone)::S) F hs) m r):GL O P ops (⟨some d,.binOp .eql t ox oy t',ty,pos,after,none⟩::rest) ks Q (Hd n D S F hs) m r:=
 GL.val hd (λa w ha=>by
  have hq:(Op.equal t (.pointer p)<|.pointer none).run P w= .ok p.isNone w:=Df ht 9999;simp[execOp,ha.1.eval hx,ha.1.eval hy,eqGuard,binOp,hq]) k
theorem GL.th{t' :IN}{a0:Of}(hd:Nat.blt d n=true)(ht:P.underlying t=some (.pointer e))(hti:P.info? e=some ti)(hx:QK S ox=some (.pointer<|some a0))(hy:QK S oy=some (.pointer<|some a0))(k:GL O P ops rest ks Q (Hd n D ((d,.bool false)::S) F hs) m r):GL O P ops (⟨some d,.binOp .neq t ox oy t',ty,pos,after,none⟩::rest) ks Q (Hd n D S F hs) m r:=
 GL.val hd (λa w ha=>by
  have hq:=Go.Lib.run_neq_ptr_same (P:=P) w a0 ht hti;simp[execOp,ha.1.eval hx,ha.1.eval hy,eqGuard,hq]) k
theorem GL.sc{b0 T0:Nat}{cs:UV Do}{src dst:IN}(hd:Nat.blt d n=true)(hs1:P.underlying src=some (.pointer e))(hs2:P.underlying dst=some .unsafePointer)(ht:P.info? e=some ti)(hj:ti.size≠0)(hb:hs[i]? =some (pc b0 cs T0))(h0:0 < cs.length)(hx:QK S ox=some (vP b0 0))
  (k:GL O P ops rest ks Q (Hd n D ((d,vP b0 0)::S) F hs) m r):GL O P ops (⟨some d,.convert src dst ox,ty,pos,after,none⟩::rest) ks Q (Hd n D S F hs) m r:=
 GL.val hd (λa w ha=>by
  have hsh:w.shape? b0=some (T0,cs.length):=by simp[World.shape?,SH.fo hb ha.2]
  have hq:=Go.Lib.run_to_unsafe (P:=P) w ⟨b0,0,none⟩ hs1 hs2 ht hj hsh h0;simp[execOp,ha.1.eval hx,hq]) k
theorem GL.cy{b0 T0:Nat}{cs:UV Do}{src dst:IN}(hd:Nat.blt d n=true)(hs1:P.underlying src=some .unsafePointer)(hs2:P.underlying dst=some (.pointer e))(ht:P.info? e=some ti)(hb:hs[i]? =some (pc b0 cs T0))(hl:liesAt P P.depth T0 (cs.length / P.cellsOf T0) 0 e 1=true)(hx:QK S ox=some (vP b0 0))
  (k:GL O P ops rest ks Q (Hd n D ((d,vP b0 0)::S) F hs) m r):GL O P ops (⟨some d,.convert src dst ox,ty,pos,after,none⟩::rest) ks Q (Hd n D S F hs) m r:=
 GL.val hd (λa w ha=>by
  have hsh:w.shape? b0=some (T0,cs.length):=by simp[World.shape?,SH.fo hb ha.2]
  have hq:=Go.Lib.run_from_unsafe (P:=P) w ⟨b0,0,none⟩ hs1 hs2 ht hsh hl;simp[execOp,ha.1.eval hx,hq]) k
theorem GL.af{T:Nm IN}{v:Do}(hd:Nat.blt d n=true)(hf:∀w,(callFunc f #[v]).run P w= .ok (.value v) w)(hx:QK S ox=some v)
  (k:GL O P ops rest ks Q (Hd n D ((d,v)::S) F hs) m r):GL O P ops (⟨some d,.call ⟨.value<|.func f,#[ox],T⟩,ty,pos,after,none⟩::rest) ks Q (Hd n D S F hs) m r:=
 GL.val hd (λa w ha=>by
  have h0:a.eval (.func f)= .func (.func f) #[] #[]:=rfl;simp[execOp,resolve,Deferred.ofValue,h0,ha.1.eval hx,invoke,hf]) k
theorem GS.sT{k:Nat}{T:Nm IN}(hp:p=none∨cap≠0)(hd:Nat.blt d n=true)(hx:QK S ox=some (.slice p k cap))(h:GS P ops rest E (Hd n D ((d,.pointer p)::S) F hs) m r):GS P ops (⟨some d,.call ⟨.builtin .unsafeSliceData,#[ox],T⟩,ty,pos,after,none⟩::rest) E (Hd n D S F hs) m r:=by
 refine GS.step rfl λhm a w ha=>⟨.pointer p,?_,h hm _ _ ⟨ha.1.put hd _,ha.2⟩⟩
 have:(Builtin.unsafeSliceData_ T ty #[.slice p k cap]).run P w= .ok (.pointer p) w:=by
  cases p with
  | none=>exact Go.Lib.run_unsafeSliceData_nil w T ty k cap
  | some a=>exact Go.Lib.run_unsafeSliceData_row w T ty a k cap (by rcases hp with h | h;cases h;exact h)
 simp[execOp,resolve,invoke,builtin,ha.1.eval hx,this]
theorem GL.sQ{T:Nm IN}{pt it:IN}(i:Nat)(hT:T=#[pt,it])(hpt:P.underlying pt=some (.pointer e))(hce:P.cellsOf e=1)(hi:hs[i]? =some (Ql 1 (Ex<|KK .u8) F0 e p cap<|WZ s))(hd:Nat.blt d n=true)(hx:QK S ox=some (.pointer p))(hy:QK S oy=some (.int .i64 (WZ s).length))
  (k:GL O P ops rest ks Q (Hd n D ((d,.string<|bs s)::S) F<|hs.eraseIdx i) m r):GL O P ops (⟨some d,.call ⟨.builtin .unsafeString,#[ox,oy],T⟩,ty,pos,after,none⟩::rest) ks Q (Hd n D S F hs) m r:=by
 subst hT;refine GL.step rfl (.inr rfl) λhm a w ha=> ?_;have hS:=ha.2.pull hi;obtain⟨mm,⟨m1,m2,dd,s1,s2,⟨h1,h2,h3⟩,hq⟩,kk⟩:=hS;rw[SE] at hy h1
 by_cases h0:s=[]
 ·subst h0;refine⟨.string<|bs [],w,?_,k hm _ _ ⟨ha.1.put hd _,⟨m2,hq,kk.sub s2⟩⟩⟩;have:=Go.Lib.run_unsafeString_none (P:=P) w pt it ty p;simp only[pS] at hy
  simp[execOp,resolve,invoke,builtin,ha.1.eval hx,ha.1.eval hy];have e:bs []=ByteArray.empty:=rfl;rw[e];simpa using congrArg (λr=>r) (show(Builtin.unsafeString_ #[pt,it] ty #[.pointer p,.int .i64 0]).run P w= .ok (.string .empty) w from this)▸rfl
 ·rcases h3 with⟨rfl,rfl⟩ | ⟨g,cs,rfl,hb,hl,hp⟩
  ·exfalso;exact h0<|x6<|by omega
  ·have hh:SH w F (star (Dec.pt g<|.cells cs.toArray e (0,0))<|Qh<|hs.eraseIdx i):=⟨mm,⟨m1,m2,dd,s1,s2,hb,hq⟩,kk⟩;have hg:=hh.owned
   have hcell:∀j x,s[j]? =some x->w.cell? ((⟨g,0,none⟩:Of).add j)=some (.int .u8 x.toNat):=λj x hx=>by
    have hj:(WZ s)[j]? =some (x.toNat:Int):=by simp[WZ,hx]
    have:=hp j _ hj F0<|Fz.le_refl _;have h5:(cs.drop<|j*1).take 1=[Value.int .u8 x.toNat]:=this;rw[mL] at h5
    have h6:cs[j]? =some (.int .u8 x.toNat):=by
     have:=congrArg (λl:UV Do=>l[0]?) h5;simpa[pL,rJ] using this
    rw[WO];simp[World.cell?,hg,h6]
   have hrun:=Go.Lib.run_unsafeString_row (P:=P) w pt it ty e hpt hce g cs.length (by simp[World.shape?,hg]) s h0 (by omega) (by omega) hcell
   have hw:w.freeze ⟨g,0,none⟩ s.length=put w g (.cells cs.toArray e (0,0+s.length)):=by
    have hne:s.length≠0:=λe=>h0<|x6 e;unfold World.freeze put;rw[RW hne];congr 1;apply mu;intro j;rw[eB,Array.getElem?_setIfInBounds];split
    ·rename_i hj;subst hj;have:=lt_of_heap hg;rw[T2 this,hg];rfl
    ·rfl
   rw[hw] at hrun
   have h7:=(hh.put (o' :=.cells cs.toArray e (0,0+s.length))).drop;refine⟨.string<|bs s,_,?_,k hm _ _ ⟨ha.1.put hd _,h7⟩⟩;have e8:bs s=⟨s.toArray⟩:=rfl;simp[execOp,resolve,invoke,builtin,ha.1.eval hx,ha.1.eval hy,hrun,e8]
end
def wH{α:Type}(P:RK)(F:Fz)(f:x4)(caps:UV Do)(arg:α->Fz->UV Do->Prop)(Hs:UV HP)(l:UV α):Prop:=
 (∀args w,(callFunc f args).run P w= .ok (.enter f args) w)/\
 ∀(σ:Type) (ly:Nat) (Y:σ->Fz->HP) (y:α->σ->H1 (σ×Bool)) (F1:Fz),F<=F1->Uc P ly F1 arg Y y->∀s,Xc P f (.func (.yield ly) #[] #[]::caps).toArray F1 (Hs++[Y s F1]) (Us y l s) (λ_ _ _=>True) λs' F' =>[Y s' F']
section
variable{β:Type}{P:RK}{ks:UV Kt}{Q:pY->Act->AT->Prop}{r:β}{n:Nat}{D:UV IR}{S:UV (Nat×Do)}{F:Fz}{hs:UV HP}
variable{α τ γ:Type}{g:x8}{ps:UV Tmp}{assign body:rj}{f:x4}{caps:UV Do}{arg:α->Fz->UV Do->Prop}{bm:α->τ->H1 (UI τ γ)}{s0:τ}{k:UI τ γ->H1 β}
theorem GC.sU{l:UV α}(Hs:UV HP)(is:UV Nat)(I:τ->Fz->UV HP->Prop)(J:γ->Fz->UV HP->Prop)(hg:QK S g=some (.func (.func f) #[] caps.toArray))(hit:wH P F f caps arg Hs l)(hps:(ps.all λp=>Nat.blt p n)=true)(harg:∀x F' vs,arg x F' vs->vs.length=ps.length)
  (hi:JH is hs=Hs) (hI:I s0 F (JW is hs))
  (round:∀l L F0 F1 x vs s ctl R hs',F<=F0->F0<=F1->arg x F1 vs->I s F0 hs'->GC (some l) P assign [] (BP P l body<|RP l L I J F1 R ctl) (Hd n [] ((ps.zip vs).reverse++S) F1<|pt l (Vx L)::R::hs') (bm x s) ctl)
  (next:∀q F0 F' s hs',F<=F0->F0<=F'->S4 bm l s0=some (.next s)->I s F0 hs'->GE none P ks Q (Hd n (WC q::D) S F'<|pt q (.deferred<|some [])::hs') (k<|.next s) r)
  (done:∀q F0 F' b hs',F<=F0->F0<=F'->S4 bm l s0=some (.done b)->J b F0 hs'->GC none P .ret ks Q (Hd n (WC q::D) S F'<|pt q (.deferred<|some [])::hs') (k<|.done b) r):GC none P (.rangeFunc g ps.toArray assign body) ks Q (Hd n D S F hs) ((S4 bm l s0).bind k) r:=by
 intro hm a w ha;cases hl:S4 bm l s0 with
 | none=>rw[hl] at hm;cases hm
 | some c=>
  rw[hl] at hm
  refine mY λfn _=> ?_
  let L:Loop:={state:=.ready,pending:=none,fn,tmps:=a.tmps,params:=ps.toArray,assign,body,defers:=w.heap.size}
  have hw1:SH ((w.alloc<|.deferred<|some []).alloc<|.loop L) F (star (Qh<|Hs++[yS F (w.heap.size+1) L I J (.next s0) F])<|Qh [pt w.heap.size<|.deferred<|some []]):=by
   have h1:=(ha.2.alloc<|.deferred<|some []).alloc<|.loop L;rw[np] at h1
   refine h1.mono λm hm=> ?_
   have h2:star (pt (w.heap.size+1)<|Vx L) (star (pt w.heap.size<|.deferred<|some [])<|star (Qh Hs)<|Qh<|JW is hs) m:=
    QS (λm hm=>QS (λm hm=>by have:=Vv (ks:=is) hm;rw[hi] at this;exact this) hm) hm
   have h3:=TT<|QS (λm hm=>Zd hm)<|Zd h2;refine QQ (λm hm=> ?_)<|QS (λm hm=>J3 hm) h3;refine Kz<|QS (λm hm=>J3 (p:=yS F (w.heap.size+1) L I J (.next s0) F) ⟨F,JW is hs,Fz.le_refl _,Fz.le_refl _,hI,hm⟩) hm
  have hY:Uc P (w.heap.size+1) F arg (yS F (w.heap.size+1) L I J) (zp bm):=by
   refine Py (S' :=λvs=>(ps.zip vs).reverse++S) (assign:=assign) (body:=body) (λx F' vs hx=>by rw[harg x F' vs hx];simp[L]) rfl rfl (λvs _=>DS hps ⟨ha.1.1,rfl,ha.1.2.2⟩) ?_;exact λF0 F1 x vs s ctl R hs' h0 h1 hx hI=>round _ L F0 F1 x vs s ctl R hs' h0 h1 hx hI
  have hc:=hit.2 _ _ _ _ F (Fz.le_refl F) hY (.next s0) c (by rw[FF];exact hl) _ _ hw1;refine⟨w.heap.size+1,[WC w.heap.size],(w.alloc<|.deferred<|some []).alloc<|.loop L,⟨.fn (.func f) caps.toArray,#[.func (.yield<|w.heap.size+1) #[] #[]]⟩,(w.alloc<|.deferred<|some []).alloc<|.loop L,f,(.func (.yield<|w.heap.size+1) #[] #[]::caps).toArray,(w.alloc<|.deferred<|some []).alloc<|.loop L,nV fn a.tmps ps.toArray assign body,?_,λ_ _=>trivial,?_,λe=>(by cases e),?_⟩
  ·have hc0:a.eval (.const<|.func (.yield<|w.heap.size+1) #[] #[])= .func (.yield<|w.heap.size+1) #[] #[]:=rfl;simp[resolve,Deferred.ofValue,ha.1.eval hg,hc0]
  ·simp[invoke,hit.1]
  ·refine pa.2<|hc.mono ?_;rintro _ w' ⟨F',v,le,rfl, -,hw'⟩;cases c with
   | next s=>
    have hw2:SH w' F' (star (yS F (w.heap.size+1) L I J (.next s) F')<|Qh [pt w.heap.size<|.deferred<|some []]):=hw'.mono λm hm=>WR hm;obtain⟨F0,hs',h0,h1,hI',h3⟩:=SH.dx hw2;refine⟨none,_,DT<|SH.fo (k:=0) rfl h3,?_⟩;have h4:SH _ F' (Qh<|pt w.heap.size (.deferred<|some [])::hs'):=(SH.dD 0<|SH.putAt (k:=0) rfl h3<|Au L none).mono λm hm=>WR hm;exact next w.heap.size F0 F' s hs' h0 h1 hl hI' hm _ _ ⟨⟨ha.1.1,by simp[ha.1.2.1],ha.1.2.2⟩,h4⟩
   | done b=>
    have hw2:SH w' F' (star (yS F (w.heap.size+1) L I J (.done b) F')<|Qh [pt w.heap.size<|.deferred<|some []]):=hw'.mono λm hm=>WR hm;obtain⟨F0,hs',h0,h1,hI',h3⟩:=SH.cU hw2;refine⟨some .ret,_,Mm<|SH.fo (k:=0) rfl h3,?_⟩;have h4:SH _ F' (Qh<|pt w.heap.size (.deferred<|some [])::hs'):=(SH.dD 0<|SH.putAt (k:=0) rfl h3<|Au L<|some .ret).mono λm hm=>WR hm;exact done w.heap.size F0 F' b hs' h0 h1 hl hI' hm _ _ ⟨⟨ha.1.1,by simp[ha.1.2.1],ha.1.2.2⟩,h4⟩
end
theorem yx{K V:Type}[BEq K]{ck:K->Do}{rv:Fz->V->Do->Prop}{p:H1 Nat}{l:UV (K×V)}(h:UB ck rv F p l)
  (hcl:∀b es clock w,w.heap[b]? =some (.map es clock)->Calls P f #[.map<|some b] w λe w' =>e= .returned (.map<|some w.heap.size)/\w' =w.alloc (.map es clock)) (w:AT) (R:HP) (hw:SH w F R):Calls P f #[.map p] w (λe w' =>∃b,e= .returned (.map<|some b)/\SH w' F (star (QW ck rv F b l) R)):=by
 obtain⟨b,es,c,l',rfl,h0,h00,h1,h2,h3⟩:=h;refine(hcl b es c w<|hw.frozen h1).mono ?_;rintro e w' ⟨rfl,rfl⟩;exact⟨_,rfl,(hw.alloc<|.map es c).mono λm hm=>QQ (λm hm=>⟨l',h0,h00,es,c,hm,h2,h3⟩) hm⟩
end
end Go.Dec
end
