/- For OfficeStamps. -/
import Derived.Test.YtepbamgmocpemaaGreatDoorPq2
import Derived.Lib.LaidTab
import Derived.Shelf.Vars
import Derived.LaidMore
import Derived.Lay
import Derived.Handed
import Derived.SevenTiedAt
import Derived.Lib.UnsafeStr
import Derived.Lib.Builder
import Derived.Laws.Externs
import Derived.RangeFuncLeaves
import Derived.SliceStrings
noncomputable section
namespace Go.Dec
abbrev mO:=@fenced_wide
abbrev mV:=@List.all_append
abbrev mf:=@beq_self_eq_true
abbrev lR:=@stepR_block
abbrev oF:=@stepR_seq
abbrev oY:=@ComesIn.of_steps
abbrev ob:=@leaves_stepsInM
abbrev oe:=@List.head?_drop
abbrev iQ:=@step_leave_panicked
abbrev ia:=@Value.slice.injEq
end Go.Dec
namespace Go.Dec
section
open Go.ChangeShapes Go.WideShapes Go.ChangeAt Go.RowKit
theorem kN{P:RK}{w:PP}{n:String}{d:DataW Unit}:∀{l:UV (String×DataW Unit)} {ps:UV MemPlace} (j:Nat),l[j]? =some (n,d)->DataW.LaidVars P w l ps->
  ∃g t cs fuel p T fr,P.globalNamed n=some g/\(P.globals[g]?).map (·.type)=some t/\w.heap[g]? =some (.cells cs T fr)/\DataW.trod (λ_=>()) P w 0 (λ_=>true) false fuel t cs.toList=some (d,p)
 | [],_,_,h,_=>by simp at h
 | x::l,ps,0,h,hl=>by
  simp at h;subst h
  obtain⟨g,t,cs,fuel,p,q,hg,ht,hv,hd,_,_⟩:=hl;unfold World.var? at hv
  rw[hg] at hv
  simp only[DO] at hv
  split at hv
  ·rename_i cs' T fr hh;simp only[BY] at hv
   subst hv;exact⟨g,t,_,fuel,p,T,fr,hg,ht,hh,hd⟩
  ·cases hv
 | x::l,ps,j+1,h,hl=>by
  obtain⟨g,t,cs,fuel,p,q,hg,ht,hv,hd,hr,_⟩:=hl;exact kN j (by simpa using h) hr
theorem N6{w:PP}{g:Nat}{m:Int}{k:nm}{P:RK}{t:If}{zero:Of Do}(h:w.ShapedOpen P)(hg:g < P.globals.size)(h0:((begin P (λ_ _=>0) default).world.heap[g]?).bind Obj.row? =some (zero,t))(hz:zero.size=1)
  (hc:w.cell? ⟨g,0,none⟩=some (.int k m)):∃T fr,w.heap[g]? =some (.cells #[.int k m] T fr):=by
 obtain⟨cs,hh,hs,_⟩:=h.1 g zero t hg h0
 have h1:cs=#[.int k m]:=by
  rw[hz] at hs
  have h2:cs[0]? =some (.int k m):=by simpa[World.cell?,hh] using hc
  apply Array.ext
  ·rw[hs];rfl
  ·intro i h1 h3;have hi:i=0:=by simp at h3;exact h3
   subst hi;rw[Array.getElem?_eq_getElem h1] at h2
   simpa using h2
 exact⟨t,_,by rw[hh,h1]⟩
end
section
open Classical
variable{S0 S:UV (Nat×Do)}
def vO(S:UV (Nat×Do)):UV (Nat×Do)->UV (H1 Do)
 | []=>[]
 | (k,_)::t=>K4 S k::vO S t
def yi:UV (Nat×Do)->UV (H1 Do)
 | []=>[]
 | (_,v)::t=>some v::yi t
theorem Sub.k:∀{T:UV (Nat×Do)},vO S T=yi T->Sub T S
 | [],_=>Sub.nil S
 | (k,v)::t,h=>by
  simp only[vO,yi,mv] at h
  exact Sub.cons h.1<|Sub.k h.2
def xC(S:UV (Nat×Do)):UV Nat->UV (Nat×Do)
 | []=>[]
 | k::t=>(k,(K4 S k).getD<|.bool false)::xC S t
def xp(S:UV (Nat×Do)):UV Nat->UV Bool
 | []=>[]
 | k::t=>(K4 S k).isSome::xp S t
theorem Sub.p:∀(ks:UV Nat),(xp S ks).all id=true->Sub (xC S ks) S
 | [],_=>Sub.nil S
 | k::t,h=>by
  simp only[xp,nZ,id,AT] at h
  obtain⟨v,hv⟩:=Option.isSome_iff_exists.1 h.1;exact Sub.cons (by rw[hv];rfl)<|Sub.p t h.2
theorem gu{l:UV x5}{k:Nat}(h:ka l k=true):∀t o,k<=t->l[t]? =some o->∀j,j < t->∃s,Xu l s t j=true:=MG h
def Fh(l:UV x5)(i:Nat)(S0:UV (Nat×Do)):UV Wv->Nat->UV (Nat×Do)
 | [],_=>S0
 | q::qs,j=>match Vv l j with
  | none=>Fh l i S0 qs (j+1)
  | some d=>bif ((Ws [] l).getD i []).getD j false then(d,q.1)::Fh l i S0 qs (j+1) else Fh l i S0 qs (j+1)
theorem EP{l:UV x5}{i:Nat}(h0:Sub S0 S){xs:UV Wv}{L:Nat->Bool}(hdn:∀k j,Xu l k i j=true->L j=true)
  (hV:∀(j d:Nat) (v:Do),L j=true->Vv l j=some d->(xs[j]?).map Prod.fst=some v->K4 S d=some v):∀(qs:UV Wv) (j:Nat),xs.drop j=qs->Sub (Fh l i S0 qs j) S
 | [],_,_=>h0
 | q::qs,j,e=>by
  have e1:xs[j]? =some q:=by rw[<-oe,e];rfl
  have e2:xs.drop (j+1)=qs:=by rw[<-lk,e];rfl
  have ih:=EP h0 hdn hV qs (j+1) e2;unfold Fh;cases hd:Vv l j with
  | none=>exact ih
  | some d=>
   simp only;cases hb:((Ws [] l).getD i []).getD j false with
   | false=>exact ih
   | true=>
    have hM:Pw l (Ws [] l):=Ba (pre:=[]) rfl rfl λt m hm=>by simp at hm
    obtain⟨s,hs⟩:∃s,Xu l s i j=true:=by
     cases hm:(Ws [] l)[i]? with
     | none=>rw[nY (l:=Ws [] l),hm] at hb;simp at hb
     | some m=>rw[nY (l:=Ws [] l),hm] at hb;exact hM i m hm j hb
    exact Sub.cons (hV j d q.1 (hdn s j hs) hd (by rw[e1];rfl)) ih
section
variable{O:H1 Nat}{μ:Md}{β:Type}{P:RK}{n:Nat}{D:UV q8}{S0:UV (Nat×Do)}{F:Fz}
variable{ops:Of x5}{l:UV x5}{X:Env->UV Wv}{C:(Nat->Bool)->Env->UV HP}{k:Nat}{o:x5}{os:UV x5}
theorem w5.a(h:∀L env F',F<=F'->L k=false->(∀s j,Xu l s k j=true->L j=true)->(∀s j,Xu l s j k=true->L j=false)->(∀(j:Nat) (q:Wv),L j=true->(X env)[j]? =some q->∀G,F'<=G->q.2 G)->
  GL O P ops [o] [] (Gu n D l X C L env F' k o.dst<|Fh l k S0 (X env) 0) (Hd n D (Fh l k S0 (X env) 0) F'<|C L env) (some ()) ()):w5 O P ops l n D S0 F X C k o:=
 λL env F' le hL hdn hup hphi=>⟨_,λ_ hS hV=>EP hS hdn hV _ 0 rfl,h L env F' le hL hdn hup hphi⟩
theorem GV.a(h:∀L env F',F<=F'->L k=false->(∀s j,Xu l s k j=true->L j=true)->(∀s j,Xu l s j k=true->L j=false)->(∀(j:Nat) (q:Wv),L j=true->(X env)[j]? =some q->∀G,F'<=G->q.2 G)->
 GL O P ops [o] [] (Gu n D l X C L env F' k o.dst<|Fh l k S0 (X env) 0) (Hd n D (Fh l k S0 (X env) 0) F'<|C L env) (some ()) ()) (t:GV O P ops l n D S0 F X C (k+1) os):GV O P ops l n D S0 F X C k (o::os):=⟨w5.a h,t⟩
theorem GV.b(h:∀L env F',F<=F'->GL O P ops [o] [] (Gu n D l X C L env F' k o.dst<|Fh l k S0 (X env) 0) (Hd n D (Fh l k S0 (X env) 0) F'<|C L env) (some ()) ())(t:GV O P ops l n D S0 F X C (k+1) os):GV O P ops l n D S0 F X C k (o::os):=⟨w5.a λL env F' le _ _ _ _=>h L env F' le,t⟩
end
abbrev vP(b o:Nat):Do:=.pointer<|some ⟨b,o,none⟩
abbrev vI(x:Int):Do:=.int .i64 x
abbrev vS{α:Type}(p:H1 OF)(l:UV α)(k:Nat):Do:=.slice p l.length k
abbrev pc(b:Nat)(cs:UV Do)(T:If):HP:=pt b<|.cells cs.toArray T
theorem J{α:Sort _}{a:α}:a=a:=rfl
abbrev vT(v:Do):Wv:=(v,λ_=>True)
abbrev ON:=H1 Nat
theorem JV{n m:Nat}(h:Nat.ble n m=true):n<=m:=j3 h
def dR(n k:Nat)(l:UV x5)(S0:UV (Nat×Do)):Bool:=Mz 0 l&&ka l k&&Nat.ble k l.length&&Ga n S0 (l.take k)
theorem GG.dG{O:H1 Nat}{β:Type}{P:RK}{ks:UV Kt}{Q:nN->Act->PP->Prop}{m:H1 β}{r:β}{n:Nat}{D:UV q8}{F:Fz}{hs:UV HP}{id:Nat}{l:UV x5}(k g:Nat)(X:Env->UV Wv)(C:(Nat->Bool)->Env->UV HP)(hm:P.follows .mixedOrders=true)(hB:dR n k l S0=true)
  (hX:∀env,(X env).length=k) (hC:∀env,C (λ_=>false) env=hs++List.replicate g AO)
  (hops:GV O P l.toArray l n D S0 F X C 0 (l.take k))
  (tail:∀env F',F<=F'->(∀(j:Nat) (q:Wv),(X env)[j]? =some q->q.2 F')->GL O P l.toArray (l.drop k) ks Q (Hd n D (E7 (l.take k) (X env) S0) F'<|C (λj=>Nat.blt j k) env) m r):GC O P (.region id l.toArray true) ks Q (Hd n D S0 F hs) m r:=by
 simp only[dR,AT] at hB
 exact GG.pw k g X C hm hB.1.1.1 (gu hB.1.1.2) hB.1.2 hX hB.2 hC hops tail
abbrev SP.n:= @SP.nil
abbrev GG.m:= @GG.move
abbrev GG.s:= @GG.assign
abbrev GG.f:= @GG.fieldAddr
abbrev GG.x:= @GG.extract
abbrev GG.l:= @GG.alloc
abbrev GG.o:= @GG.norm
abbrev GG.d:= @GG.bind
abbrev GG.i:= @GG.cond
theorem Uc{α:Type}{j:Nat}(n:Nat)(f g:Nat->α)(h:(List.range n).map f=(List.range n).map g)(hj:j < n):f j=g j:=by
 have h1:=congrArg (λl=>l[j]?) h;simp only[nV,List.getElem?_range hj,x7,BY] at h1
 exact h1
end
section
variable{S:UV (Nat×Do)}{Q:nN->Act->PP->Prop}{D:UV q8}{p:H1 OF}{P:RK}{hs:UV HP}{β α:Type}{m:H1 β}{F F0 F':Fz}{n cap sz b d:Nat}{c:Uk α}{after:Of lL}{T ty t:If}{g:Gp}{ops:Of x5}{ks:UV Kt}{pos:String}{ox oy:dO}{kd:nm}{rest:UV x5}{r:β}{x:H1 α}
variable{O:H1 Nat}{μ:Md}
def wR{ι:Type}(Φ:ι->Prop)(l:ι->UV HP):HP:=λm=>∃q,Φ q/\Qi (l q) m
section
variable{β ι:Type}{X:Act->PP->Prop}{m:H1 β}{r:β}{n:Nat}{D:UV q8}{S:UV (Nat×Do)}{F F0:Fz}{hs:UV HP}{Φ:ι->Prop}{l:ι->UV HP}
theorem GG.sZ(i:Nat)(hi:hs[i]? =some (wR Φ l))(k:∀q,Φ q->GG g (Hd n D S F<|l q++hs.eraseIdx i) m r):GG g (Hd n D S F hs) m r:=by
 exact λhm a w ha=>by
  obtain⟨m1,⟨m2,m3,d,s1,s2,⟨q,hq,hl⟩,hr⟩,hk⟩:=ha.2.pull hi;exact k q hq hm a w ⟨ha.1,m1,K5 ⟨m2,m3,d,s1,s2,hl,hr⟩,hk⟩
theorem GG.pz(is:UV Nat)(q:ι)(hq:Φ q)(hp:YD is hs=l q)(k:GG g (Hd n D S F<|wR Φ l::J4 is hs) m r):GG g (Hd n D S F hs) m r:=by
 exact λhm a w ha=>
  k hm a w ⟨ha.1,ha.2.mono λ_ hm=>QQ (λ_ h=>⟨q,hq,hp▸h⟩)<|UA (ks:=is) hm⟩
theorem ZT{p p' :HP}{l l' :UV HP}(h1:∀m,p m->p' m)(h2:∀m,Qi l m->Qi l' m):∀m,Qi (p::l) m->Qi (p' ::l') m:=λ_ h=>QQ h1<|QS h2 h
theorem GG.sA{l0:UV HP}(is:UV Nat)(q:ι)(hq:Φ q)(hp:YD is hs=l0)(hi:∀m,Qi l0 m->Qi (l q) m)(k:GG g (Hd n D S F<|wR Φ l::J4 is hs) m r):GG g (Hd n D S F hs) m r:=by
 exact λhm a w ha=>
  k hm a w ⟨ha.1,ha.2.mono λ_ hm=>QQ (λ_ h=>⟨q,hq,hi _<|hp▸h⟩)<|UA (ks:=is) hm⟩
theorem GG.cD{p p' :HP}(i:Nat)(hp:∀m,p m->p' m)(hi:hs[i]? =some p)(k:GG g (Hd n D S F<|hs.set i p') m r):GG g (Hd n D S F hs) m r:=by
 exact λhm a w ha=>
  k hm a w ⟨ha.1,SH.push hi<|(ha.2.pull hi).mono λ_ h=>QQ hp h⟩
theorem GG.ins{p:HP}(hp:∀m,p m)(k:GG g (Hd n D S F<|p::hs) m r):GG g (Hd n D S F hs) m r:=by
 exact λhm a w ha=>
  k hm a w ⟨ha.1,ha.2.mono λm h=>⟨λ_=>none,m,λ_=>.inl rfl,λ_ _ e=>by simp at e,Mem.sub.refl _,hp _,h⟩⟩
end
def kA(sz:Nat)(c:Uk α)(F:Fz)(T:If)(p:H1 OF)(cap:Nat)(l:UV α):HP:=λm=>Qj sz c F T p cap l m∨QI sz c F p cap l
section
variable{β α:Type}{X:Act->PP->Prop}{m:H1 β}{r:β}{n:Nat}{D:UV q8}{S:UV (Nat×Do)}{F F0 F' :Fz}{hs:UV HP}{sz cap:Nat}{c:Uk α}{T:If}{p:H1 OF}{l:UV α}
theorem qh{m:Mem}(le:F<=F')(h:kA sz c F T p cap l m):kA sz c F' T p cap l m:=h.imp (WQ le) λh=>h.mono le
theorem GG.su(i:Nat)(hi:hs[i]? =some (kA sz c F0 T p cap l))(le0:F0<=F)(k:∀F',F<=F'->QI sz c F' p cap l->GG g (Hd n D S F'<|hs.eraseIdx i) m r):GG g (Hd n D S F hs) m r:=by
 exact λhm a w ha=>by
  obtain⟨m1,⟨m2,m3,d,s1,s2,hq,hr⟩,hk⟩:=ha.2.pull hi;rcases hq with hq | hq
  ·obtain⟨F',le,h1,h2⟩:=SH.bU le0 (w:=w) (H:=Qi<|hs.eraseIdx i) ⟨m1,⟨m2,m3,d,s1,s2,hq,hr⟩,hk⟩;exact k F' le h2 hm a w ⟨ha.1,h1⟩
  ·exact k F (Fz.le_refl F) (hq.mono le0) hm a w ⟨ha.1,m3,hr,hk.sub s2⟩
end
def U2(T:If)(c:Uk α)(F:Fz)(p:H1 OF):H1 α->Prop
 | none=>p=none
 | some x=>∃b cs,p=some ⟨b,0,none⟩/\F.mem b=some (.cells (List.toArray cs) T)/\∀F',F<=F'->c F' x cs
section
variable{α:Type}{T:If}{c:Uk α}{F F' :Fz}{p:H1 OF}{x:H1 α}{a:α}
theorem U2.mono(h:U2 T c F p x)(le:F<=F'):U2 T c F' p x:=by
 cases x with
 | none=>exact h
 | some x=>obtain⟨b,cs,h1,h2,h3⟩:=h;exact⟨b,cs,h1,le.mem _ _ h2,λG l=>h3 G<|Fz.le_trans le l⟩
theorem U2.nil:U2 T c F none none:=rfl
theorem U2.of{cs:UV Do}(h:F.mem b=some (.cells (List.toArray cs) T))(hc:∀F',F<=F'->c F' a cs):U2 T c F (some ⟨b,0,none⟩) (some a):=⟨b,cs,rfl,h,hc⟩
theorem U2.at(h:U2 T c F p x)(e:x=some a):∃b cs,F.mem b=some (.cells (List.toArray cs) T)/\p=some ⟨b,0,none⟩/\c F a cs:=by
 subst e;obtain⟨b,cs,h1,h2,h3⟩:=h;exact⟨b,cs,h2,h1,h3 F<|Fz.le_refl F⟩
theorem U2.isNone(h:U2 T c F p x):p.isNone=x.isNone:=by
 cases x with
 | none=>have:p=none:=h;rw[this];rfl
 | some x=>obtain⟨b,cs,h1,_⟩:=h;rw[h1];rfl
end
section
variable{β:Type}{P:RK}{ops:Of x5}{rest:UV x5}{ks:UV Kt}{Q:nN->Act->PP->Prop}{m:H1 β}{r:β}
variable{n:Nat}{D:UV q8}{S:UV (Nat×Do)}{F F0:Fz}{hs:UV HP}
variable{d:Nat}{ty t:If}{pos:String}{after:Of lL}{ox oy oz:dO}
theorem GG.tY{e t' :If}(h:U2 T c F p x)(hd:Nat.blt d n=true)(ht:P.underlying t=some (.pointer e))(hx:QO S ox=some (.pointer p))(hy:QO S oy=some (.pointer none))(k:GL μ P ops rest ks Q (Hd n D ((d,.bool x.isNone)::S) F hs) m r):GL μ P ops (⟨some d,.binOp .eql t ox oy t',ty,pos,after,none⟩::rest) ks Q (Hd n D S F hs) m r:=
 GG.val hd (λa w ha=>by
  have hq:(Op.equal t (.pointer p)<|.pointer none).run P w= .ok p.isNone w:=Dy ht 9999;have hg:P.eqGuardType P.depth t=false∨P.eqGuardType P.depth t=true:=by cases P.eqGuardType P.depth t<;>simp
  simp[execOp,ha.1.eval hx,ha.1.eval hy,eqGuard,binOp,hq,h.isNone]) k
theorem GG.tS{e t' :If}(h:U2 T c F p x)(hd:Nat.blt d n=true)(ht:P.underlying t=some (.pointer e))(hx:QO S ox=some (.pointer p))(hy:QO S oy=some (.pointer none))(k:GL μ P ops rest ks Q (Hd n D ((d,.bool<|!x.isNone)::S) F hs) m r):GL μ P ops (⟨some d,.binOp .neq t ox oy t',ty,pos,after,none⟩::rest) ks Q (Hd n D S F hs) m r:=
 GG.val hd (λa w ha=>by
  have hq:(Op.equal t (.pointer p)<|.pointer none).run P w= .ok p.isNone w:=Dy ht 9999;have hg:P.eqGuardType P.depth t=false∨P.eqGuardType P.depth t=true:=by cases P.eqGuardType P.depth t<;>simp
  simp[execOp,ha.1.eval hx,ha.1.eval hy,eqGuard,binOp,hq,h.isNone]) k
section
variable{K V:Type}{ck:K->Do}{rv:Fz->V->Do->Prop}
def Wm(ck:K->Do)(rv:Fz->V->Do->Prop)(F:Fz)(p:H1 Nat)(l:UV (K×V)):Prop:=∃(b:Nat) (es:Of nS) (clock:Nat) (l' :UV (K×V)),p=some b/\l'.Perm l/\(l.map Prod.fst).Nodup/\F.mem b=some (.map es clock)/\Uj ck rv F es.toList l'/\YN es.toList clock
theorem Wm.mono{p:H1 Nat}{l:UV (K×V)}(h:Wm ck rv F p l)(le:F<=F'):Wm ck rv F' p l:=let⟨b,es,c,l',e,h0,h00,h1,h2,h3⟩:=h;⟨b,es,c,l',e,h0,h00,le.mem _ _ h1,h2.up le,h3⟩
theorem GG.cQ[BEq K]{l:UV (K×V)}(i:Nat)(hi:hs[i]? =some (QZ ck rv F0 b l))(le:F0<=F)(k:∀F',F<=F'->Wm ck rv F' (some b) l->GG g (Hd n D S F'<|hs.eraseIdx i) m r):GG g (Hd n D S F hs) m r:=by
 exact λhm a w ha=>by
  obtain⟨es,c,l',h0,h00,_,h2,h3,h5⟩:=Wp<|ha.2.pull hi;obtain⟨l1,h4⟩:=h3.freeze;exact k _ l1 ⟨b,es,c,l',rfl,h0,h00,Fz.ba F b _,(h2.up le).up l1,h5⟩ hm a w ⟨ha.1,h4⟩
variable{b:Nat}{l:UV (K×V)}{key:K}{z:V}{kt vt:If}{zv:Do}
variable[BEq K][LawfulBEq K]
theorem GG.cG(i:Nat)(hi:hs[i]? =some (QZ ck rv F0 b l))(le0:F0<=F)(hd:Nat.blt d n=true)(ht:P.underlying t=some (.map kt vt))(ok:X0 P kt ck)(hzv:∀w,(zeroValue vt).run P w= .ok zv w)(hz:rv F z zv)(hx:QO S ox=some (.map<|some b))(hy:QO S oy=some (ck key))
  (k:∀v,rv F ((Qc l key).getD z) v->GL μ P ops rest ks Q (Hd n D ((d,v)::S) F hs) m r):GL μ P ops (⟨some d,.lookup t ox oy false,ty,pos,after,none⟩::rest) ks Q (Hd n D S F hs) m r:=by
 refine GG.cr rfl rfl λhm a w ha=> ?_;obtain⟨es,c,l',hpm,hn,hb',hr,_⟩:=Wp<|ha.2.pull hi;obtain⟨v,hv,hrun⟩:=BJ (key:=key) hb' hr le0 ht ok hzv hz false;rw[WY hpm hn] at hv
 refine⟨v,?_,k v hv hm _ _ ⟨ha.1.put hd _,ha.2⟩⟩;simp[execOp,ha.1.eval hx,ha.1.eval hy,hrun]
theorem GG.aL(i:Nat)(hi:hs[i]? =some (QZ ck rv F0 b l))(le0:F0<=F)(hd:Nat.blt d n=true)(ht:P.underlying t=some (.map kt vt))(ok:X0 P kt ck)(hzv:∀w,(zeroValue vt).run P w= .ok zv w)(hz:rv F z zv)(hx:QO S ox=some (.map<|some b))(hy:QO S oy=some (ck key))
  (k:∀v,rv F ((Qc l key).getD z) v->GL μ P ops rest ks Q (Hd n D ((d,.tuple #[v,.bool (Qc l key).isSome])::S) F hs) m r):GL μ P ops (⟨some d,.lookup t ox oy true,ty,pos,after,none⟩::rest) ks Q (Hd n D S F hs) m r:=by
 refine GG.cr rfl rfl λhm a w ha=> ?_;obtain⟨es,c,l',hpm,hn,hb',hr,_⟩:=Wp<|ha.2.pull hi;obtain⟨v,hv,hrun⟩:=BJ (key:=key) hb' hr le0 ht ok hzv hz true;rw[WY hpm hn] at hv hrun
 refine⟨_,?_,k v hv hm _ _ ⟨ha.1.put hd _,ha.2⟩⟩;simp[execOp,ha.1.eval hx,ha.1.eval hy,hrun]
end
theorem GG.aM{K V:Type}{ck:K->Do}{rv:Fz->V->Do->Prop}{l:UV (K×V)}{key:K}{kt vt:If}{zv:Do}[BEq K][LawfulBEq K](h:DP ck rv F b l)(hd:Nat.blt d n=true)(ht:P.underlying t=some (.map kt vt))(ok:X0 P kt ck)(hzv:∀w,(zeroValue vt).run P w= .ok zv w)(hx:QO S ox=some (.map<|some b))(hy:QO S oy=some (ck key))
  (k1:Qc l key=none->GL O P ops rest ks Q (Hd n D ((d,.tuple #[zv,.bool false])::S) F hs) m r)
  (k2:∀x v,Qc l key=some x->rv F x v->GL O P ops rest ks Q (Hd n D ((d,.tuple #[v,.bool true])::S) F hs) m r):GL O P ops (⟨some d,.lookup t ox oy true,ty,pos,after,none⟩::rest) ks Q (Hd n D S F hs) m r:=by
 refine GG.step rfl (.inr rfl) λhm a w ha=> ?_;obtain⟨es,c,l',hpm,hn,hb,hr⟩:=h;obtain⟨kd,hu,hsame⟩:=ok.und;have hb' :=ha.2.frozen hb;have he:=WY (k:=key) hpm hn;rcases hr.find (k:=key) hsame ok.eq 0 with⟨g1,g2,_⟩ | ⟨j,e1,x1,g1,g2,g3,g4,g5,_⟩
 ·have hf:=run_findKey (w:=w) hu g2;refine⟨.tuple #[zv,.bool false],w,?_,k1 (by rw[<-he];exact g1) hm _ _ ⟨ha.1.put hd _,ha.2⟩⟩;simp[execOp,Instr.lookup,ha.1.eval hx,ha.1.eval hy,J5 ht,YO hb',ok.check,hf,hzv]
 ·have hf:=run_findKey (w:=w) hu g4;refine⟨.tuple #[e1.val,.bool true],w,?_,k2 x1 e1.val (by rw[<-he];exact g3) (g5 F<|Fz.le_refl F) hm _ _ ⟨ha.1.put hd _,ha.2⟩⟩;simp[execOp,Instr.lookup,ha.1.eval hx,ha.1.eval hy,J5 ht,YO hb',ok.check,hf]
end
section
variable{P:RK}{w:PP}{t e sz:Nat}{kd kd' kd'' :nm}{x y:Int}{p:H1 OF}{len cap:Nat}
theorem RU(ht:P.underlying t=some (.slice e))(hz:∀w,(sizeOf e).run P w= .ok sz w)(h:0<=x/\x<=y)(h' :y<=cap):(Instr.sliceAt t (.slice p len cap) (some<|.int kd x) (some<|.int kd' y)<|some<|.int kd'' y).run P w= .ok (.slice (if y.toNat=x.toNat then p else p.map (·.add (x.toNat*sz))) (y.toNat - x.toNat)<|y.toNat - x.toNat) w:=by
 simp only[Instr.sliceAt,r7,J5 ht,Result.andThen,Instr.slice,Instr.sliceBounds,mc,ld,Rw];rw[WM (kd:=kd'')<|by omega];simp only[];rw[WM (kd:=kd')<|by omega];simp only[];rw[WM<|by omega];simp[hz]
end
section
variable{β:Type}{P:RK}{ops:Of x5}{rest:UV x5}{ks:UV Kt}{Q:nN->Act->PP->Prop}{m:H1 β}{r:β}
variable{n:Nat}{D:UV q8}{S:UV (Nat×Do)}{F:Fz}{hs:UV HP}{d:Nat}{ty t:If}{pos:String}{after:Of lL}{ox oy oz ou:dO}{kd:nm}{x y:Int}
theorem GG.aU{e:Nat}{l:UV α}{kd' kd'' :nm}{f:UV α->H1 β}(hd:Nat.blt d n=true)(ht:P.underlying t=some (.slice e))(hz:∀w,(sizeOf e).run P w= .ok sz w)
  (hr:QI sz c F p cap l) (hx:QO S ox=some (.slice p l.length cap)) (hy:QO S oy=some (.int kd x)) (hm:QO S oz=some (.int kd' y)) (hu:QO S ou=some (.int kd'' y))
  (k:∀l' p' c',ZW l x y=some l'->QI sz c F p' c' l'->GL O P ops rest ks Q (Hd n D ((d,.slice p' l'.length c')::S) F hs) (f l') r):GL O P ops (⟨some d,.slice t ox (some oy) (some oz)<|some ou,ty,pos,after,none⟩::rest) ks Q (Hd n D S F hs) ((ZW l x y).bind f) r:=
 GG.bind λl' hl=>by
  have hl' :=hl;unfold ZW at hl
  split at hl
  ·rename_i h;simp only[BY] at hl
   have hcut:QI sz c F (p.map (·.add (x.toNat*sz))) (y.toNat - x.toNat) l' :=by
    have:=hr.cut (lo:=x.toNat) (hi:=y.toNat) (cap' :=y.toNat - x.toNat) (by omega) (by omega) (by have:=hr.1;omega) (by have:=hr.1;omega);rw[<-hl];exact this
   have hlen:l'.length=y.toNat - x.toNat:=by rw[<-hl];simp;omega
   have hrep:QI sz c F (if y.toNat=x.toNat then p else p.map (·.add (x.toNat*sz))) (y.toNat - x.toNat) l' :=qp (λh=>by
    have:l' =[]:=by have:=hcut.1;rw[<-h] at this;simp at this;exact this
    subst this;exact hcut.rB) hcut
   have hk:=k l' _ _ hl' hrep;rw[hlen] at hk
   refine GG.val hd (λa w ha=> ?_) hk;simp only[execOp,ha.1.eval hx,ha.1.eval hy,ha.1.eval hm,ha.1.eval hu,x7,r7];rw[RU ht hz (by omega) (by have:=hr.1;omega)];rfl
  ·cases hl
end
section
variable{P:RK}{w:PP}{t:Nat}{kd:nm}{x:Int}{s:UV So}
theorem Mu(ht:P.underlying t=some .string)(h:0<=x/\x<=s.length):(Instr.sliceAt t (.string<|bs s) (some<|.int kd x) none none).run P w= .ok (.string<|bs<|s.drop x.toNat) w:=by
 simp only[Instr.sliceAt,r7,J5 ht,Result.andThen,Instr.slice,Instr.sliceBounds,mc,ml,By,T2,DM];rw[WM<|by omega];simp[Bx];rw[s5];simp
variable{n:Nat}{D:UV q8}{S:UV (Nat×Do)}{a:Act}{d:Nat}{ty:If}{pos:String}{after:Of lL}{ox oy:dO}
theorem NT(h:Sl n D S a)(ht:P.underlying t=some .string)(hx:QO S ox=some (.string<|bs s))(hy:QO S oy=some (.int kd x)){l:UV So}(hl:ZW s x s.length=some l):(execOp a.eval ⟨some d,.slice t ox (some oy) none none,ty,pos,after,none⟩).run P w= .ok (.value<|.string<|bs l) w:=by
 unfold ZW at hl
 split at hl
 ·rename_i hh;simp only[BY] at hl
  simp only[execOp,h.eval hx,h.eval hy,x7,lM,r7];rw[Mu ht (by omega),<-hl,s5<|by simp];rfl
 ·cases hl
end
section
variable{β:Type}{P:RK}{ops:Of x5}{rest:UV x5}{ks:UV Kt}{Q:nN->Act->PP->Prop}{E:Act->PP->Prop}{m:H1 β}{r:β}
variable{n:Nat}{D:UV q8}{S:UV (Nat×Do)}{F:Fz}{hs:UV HP}{d:Nat}{ty t:If}{pos:String}{after:Of lL}{ox oy:dO}{kd:nm}{x:Int}{s:UV So}
theorem GG.tc{f:UV So->H1 β}(hd:Nat.blt d n=true)(ht:P.underlying t=some .string)(hx:QO S ox=some (.string<|bs s))(hy:QO S oy=some (.int kd x))(k:∀z,ZW s x s.length=some z->GL μ P ops rest ks Q (Hd n D ((d,.string<|bs z)::S) F hs) (f z) r):GL μ P ops (⟨some d,.slice t ox (some oy) none none,ty,pos,after,none⟩::rest) ks Q (Hd n D S F hs) ((ZW s x s.length).bind f) r:=GG.bind λz h=>GG.val hd (λa w ha=>NT ha.1 ht hx hy h)<|k z h
theorem GG.tF{z:UV So}(h:ZW s x s.length=some z)(hd:Nat.blt d n=true)(ht:P.underlying t=some .string)(hx:QO S ox=some (.string<|bs s))(hy:QO S oy=some (.int kd x))(k:GL μ P ops rest ks Q (Hd n D ((d,.string<|bs z)::S) F hs) m r):GL μ P ops (⟨some d,.slice t ox (some oy) none none,ty,pos,after,none⟩::rest) ks Q (Hd n D S F hs) m r:=GG.val hd (λa w ha=>NT ha.1 ht hx hy h) k
end
theorem uE{a b:UV So}:(bs a==bs b)=(a==b):=by
 show(bs a).beq (bs b)=_;unfold ByteArray.beq;simp[bs]
theorem X0.str(h:P.underlying t=some .string):X0 P t (λx:UV So=>.string<|bs x) where
 und:=⟨_,h,λa b=>by simp only[Instr.sameNow];rw[uE]⟩
 check e k w:=by unfold Instr.checkKey;simp[J5 h]
 same a:=by show(bs a==bs a)=true;rw[uE,mf]
 eq a b e:=by simpa using e
section
variable{ε β:Type}{P:RK}{penc:ε->Do}{fn:lK}
def Cr(P:RK)(penc:ε->Do)(fn:lK)(F:Fz)(R:HP)(ρ:β->Fz->Do->Prop)(Hs' :β->Fz->Do->UV HP)(r:Out ε β):nN->Act->PP->Prop:=
 bodyPostM Fence.wide 0 P fn (λe w' =>∃F',F<=F'/\match r with
  | .ok x=>∃v,e= .returned v/\ρ x F' v/\SH w' F' (star (Qi<|Hs' x F' v) R)
  | .pan x=>e= .panicked [{v:=penc x,recovered:=false}]/\SH w' F' R)
theorem Vg.cx{f:x4}{c:lN}{args:UV Do}{F:Fz}{Hs:UV HP}{m:H1 (Out ε β)}{ρ:β->Fz->Do->Prop}{Hs' :β->Fz->Do->UV HP}{n:Nat}
  (hf:P.funcs[f]? =some fn) (hb:fn.body=some c) (hn:fn.ntmps=n) (ha:Nat.ble args.length n=true)
  (k:∀r R,GC none P c [] (Cr P penc fn F R ρ Hs' r) (Hd n [] (Db 0 args) F<|Hs++[R]) m r):Vg P penc f args.toArray F Hs m ρ Hs' :=by
 intro r hm w R hw;refine(nP (n:=0)).1<|oG hf hb trivial<|k r R hm _ w ⟨?_,hw.mono λm hm=>K5<|QS (λ_ h=>J7 h) hm⟩;rw[hn];exact Uw ha
theorem Iu{tmps:Of Do}{R:oJ->PP->Prop}{chain:UV PanicEntry}:∀{ms:UV (Nat×Nat)} {hs:UV HP} {w:PP},SH w F (Qi hs)->vB hs ms->
  (∀w',SH w' F (Qi<|He hs ms)->R (.panicked chain) w')->LeavesInM Fence.wide 0 P fn tmps R (ms.map λp=>WI p.2) (.panicking chain) w
 | [],hs,w,h,_,k=>k w h
 | (i,q)::ms,hs,w,h,ho,k=>by
  refine⟨by simp,.inl ⟨q,_,rfl,run_takeDeferred<|SH.bT ho.1 h,?_⟩⟩;exact Iu (SH.putAt ho.1 h _) ho.2 k
variable{n:Nat}{S:UV (Nat×Do)}{F F' :Fz}{hs:UV HP}{ks:UV Kt}{R:HP}{ρ:β->Fz->Do->Prop}{Hs' :β->Fz->Do->UV HP}{x:β}{r:Out ε β}{rs:UV ResultVar}{vs:UV Do}{ms:UV (Nat×Nat)}
theorem qn(is:UV Nat)(ms:UV (Nat×Nat))(hr:fn.results=rs.toArray)(ho:vB hs ms)(h:SP P S F' (He hs ms) rs vs)(hi:YD is (He hs ms)=Hs' x F' (S8 vs)++[R])(le:F<=F')(hρ:ρ x F' (S8 vs)):some (Out.ok x)=some r->∀a w,Hd n (ms.map λp=>WI p.2) S F' hs a w->Cr P penc fn F R ρ Hs' r .ret a w:=by
 intro e a w ha;simp only[BY] at e
 subst e;show LeavesInM Fence.wide 0 P fn a.tmps _ a.defers .returning w;rw[ha.1.2.1];refine Rs ha.2 ho λw' h' => ?_
 exact⟨_,Jd (n:=n) (a:=a) (D:=a.defers) hr ⟨⟨ha.1.1,rfl,ha.1.2.2⟩,h'⟩ h,F',le,_,rfl,hρ,h'.mono λm hm=>by
  have h1:=VX (ks:=is) hm;rw[hi] at h1
  exact Xn<|VY h1⟩
theorem GG.pP(is:UV Nat)(ms:UV (Nat×Nat))(hr:fn.results=rs.toArray)(ho:vB hs ms)(h:SP P S F' (He hs ms) rs vs)(hi:YD is (He hs ms)=Hs' x F' (S8 vs)++[R])(le:F<=F')(hρ:ρ x F' (S8 vs)):GC O P .ret ks (Cr P penc fn F R ρ Hs' r) (Hd n (ms.map λp=>WI p.2) S F' hs) (some<|.ok x) r:=GG.bc<|qn is ms hr ho h hi le hρ
theorem X9{q:ε}{i:Nat}(ms:UV (Nat×Nat))(ho:vB hs ms)(hi:(He hs ms)[i]? =some R)(le:F<=F'):some (Out.pan q)=some r->∀a w,Hd n (ms.map λp=>WI p.2) S F' hs a w->Cr P penc fn F R ρ Hs' r (.panic [{v:=penc q,recovered:=false}]) a w:=by
 intro e a w ha;simp only[BY] at e
 subst e;show LeavesInM Fence.wide 0 P fn a.tmps _ a.defers (.panicking _) w;rw[ha.1.2.1];exact Iu ha.2 ho λw' h' =>⟨F',le,rfl,h'.only hi⟩
end
section
variable{β:Type}{P:RK}{ops:Of x5}{l0:UV x5}{cd:lN}{ks:UV Kt}{Q:nN->Act->PP->Prop}{m:H1 β}{r:β}
variable{n:Nat}{D:UV q8}{S:UV (Nat×Do)}{F F0:Fz}{hs:UV HP}
section
variable{α:Type}{sz cap:Nat}{c:Uk α}{T:If}{p:H1 OF}{l:UV α}
theorem GG.toQ(i:Nat)(le:F0<=F)(hi:hs[i]? =some (Qj sz c F0 T p cap l))(k:GG g (Hd n D S F<|hs.set i<|kA sz c F T p cap l) m r):GG g (Hd n D S F hs) m r:=by
 exact GG.cD i (λ_ h=>.inl<|WQ le h) hi k
theorem GG.rT(h:QI sz c F p cap l)(k:GG g (Hd n D S F<|kA sz c F T p cap l::hs) m r):GG g (Hd n D S F hs) m r:=by
 exact GG.ins (λ_=>.inr h) k
end
end
end
section
variable{T:Of If}{S:UV (Nat×Do)}{p:H1 OF}{s:UV So}{D:UV q8}{P:RK}{F F0:Fz}{f:x4}{cap n i:Nat}{ti:TypeInfo}{l:UV Int}{hs:UV HP}{e:If}{β:Type}
variable{O:H1 Nat}{μ:Md}
theorem zU{a b:UV So}:XC (a++b)=XC a++XC b:=by simp[XC]
theorem Sh{a:UV So}:(XC a).length=a.length:=by simp[XC]
theorem y7(l:UV So):Jb 1 (Ex<|Z6 .u8) F (XC l) (l.map λb=>Value.int .u8 b.toNat):=λi x hx F' _=>by
 simp only[XC,nV] at hx
 cases h:l[i]? with
 | none=>rw[h] at hx;cases hx
 | some b=>
  rw[h] at hx
  simp only[x7,BY] at hx
  subst hx;obtain⟨hi,he⟩:=AC.1 h;show((l.map _).drop<|i*1).take 1=Z6 .u8 _;rw[eR,nD<|by simpa using hi];simp[Z6,he]
theorem IQ{w:PP}{H:HP}{e t t2:Nat}{ty:If}
  (E:Ud P e 1 (Ex<|Z6 .u8)) (le0:F0<=F) (ht:P.underlying t=some (.slice e)) (ht2:P.underlying t2=some .string)
  (hT0:T[0]? =some t) (hT1:T[1]? =some t2) (h:SH w F (star (Qj 1 (Ex<|Z6 .u8) F0 e p cap l) H)) (hlen:l.length+s.length<=4294967296):∃p' cap' w',(Builtin.append_ T ty #[.slice p l.length cap,.string<|bs s]).run P w= .ok (.slice p' (l++XC s).length cap') w'/\SH w' F (star (Qj 1 (Ex<|Z6 .u8) F e p' cap'<|l++XC s) H)/\(l++XC s=[]->p' =p/\cap' =cap):=by
 obtain⟨ti,hti,hb0,hb1⟩:=E.info;obtain⟨z,hzero,hzl⟩:=E.zero;have hz:=E.size;have hfr:∀b o,F.mem b=some o->w.heap[b]? =some o:=λb o e=>h.frozen e;have hl2:(XC s).length=s.length:=Sh;generalize hus:(s.map λb=>Value.int .u8 (b.toNat:Int))=us2;have hus2:us2.length=(XC s).length*1:=by rw[<-hus];simp[XC]
 have hp2:Jb 1 (Ex<|Z6 .u8) F (XC s) us2:=hus▸y7 s;have hall:us2.all Value.oneCell' =true:=by rw[<-hus];simp[Value.oneCell']
 have hsrc:∀w' :PP,(Builtin.firstCells 1 (XC s).length<|.string<|bs s).run P w' = .ok us2.toArray w' :=λw' =>by
  have:(ByteArray.extract (bs s) 0 (XC s).length)=bs s:=by rw[hl2,Bx];simp
  simp only[Builtin.firstCells,this];rw[<-hus];simp[bs]
 have hlo:∀w' :PP,(Builtin.lenOf<|.string<|bs s).run P w' = .ok (XC s).length w' :=λw' =>by simp[Builtin.lenOf,DM,hl2]
 obtain⟨m,⟨m1,m2,d,s1,s2,⟨h1,h2,h3⟩,hq⟩,k⟩:=h;by_cases hneed:l.length+(XC s).length<=cap
 ·rcases h3 with⟨rfl,rfl⟩ | ⟨b,cs,rfl,hb,hl,hp⟩
  ·have e1:l=[]:=wt (by omega);have e2:XC s=[]:=wt (by omega);subst e1;have e3:us2=[]:=wt (by rw[hus2,e2];rfl);rw[e2] at hsrc hlo ⊢
   refine⟨none,0,w,?_,⟨m,⟨m1,m2,d,s1,s2,⟨by simp,by simp,.inl ⟨rfl,rfl⟩⟩,hq⟩,k⟩,λ_=>⟨rfl,rfl⟩⟩;simp only[Builtin.append_];simp only[nG] at hsrc hlo
   simp[hT0,hT1,J5 ht,J5 ht2,hz,hlo,hsrc,e3]
  ·have hh:SH w F (star (pt b<|.cells cs.toArray e (0,0)) H):=⟨m,⟨m1,m2,d,s1,s2,hb,hq⟩,k⟩;have hbl:=hh.owned
   have hroom:l.length*1+us2.length<=cs.length:=by
    rw[hus2,hl,<-mP];exact mw 1 hneed
   have hst:=XE (P:=P) (o:=l.length*1) (i:=0) hbl (by simpa using hroom) hall;simp only[oQ] at hst
   refine⟨some ⟨b,0,none⟩,cap,put w b<|.cells (Ku cs (l.length*1) us2).toArray e (0,0),?_,?_,λ_=>⟨rfl,rfl⟩⟩
   ·simp only[Builtin.append_];simp only[eR] at hst
    simp[hT0,hT1,J5 ht,J5 ht2,hz,hlo,hsrc,hneed,Xy,hst]
   ·have hp' :=hh.put (o' :=.cells (Ku cs (l.length*1) us2).toArray e (0,0));refine hp'.mono λm hm=>QQ (λm' hm' =>⟨by simp;omega,h2,.inr ⟨b,_,rfl,hm',by rw[HX];exact hl,?_⟩⟩) hm;have:=Gw us2 cs (l.length*1) hroom;rw[hus2,<-mP] at this
    apply Jb.tQ;rw[nH,this];exact(hp.mono le0).take.append hp2 (by simp;omega)
 ·have hn:H7 (l.length+(XC s).length) cap ti.bytes:=Cj (Nat.lt_of_not_le hneed) (by omega) hb1
  have hold:∃us:UV Do,us.length=l.length*1/\Jb 1 (Ex<|Z6 .u8) F l us/\∀w' :PP,w'.heap=w.heap->(Builtin.firstCells 1 l.length<|.slice p l.length cap).run P w' = .ok us.toArray w' :=by
   rcases h3 with⟨rfl,rfl⟩ | ⟨b,cs,rfl,hb,hl,hp⟩
   ·have e1:l=[]:=wt (by omega);subst e1;exact⟨[],by simp,Jb.nil,λw' _=>by simp[Builtin.firstCells]⟩
   ·have hpl:=hp.len E.len;refine⟨cs.take<|l.length*1,by simp;omega,(hp.mono le0).take,λw' hw' => ?_⟩;simp only[Builtin.firstCells];exact HO (cs:=cs) (T:=e) (fr:=(0,0)) (by rw[hw'];exact k.tu<|s1 _ _ hb) (by simp) (by simp;omega)
  obtain⟨us,hus',hp1,hold⟩:=hold;have hHq:SH w F H:=⟨m2,hq,k.sub s2⟩;generalize hq' :Question.appendCap (l.length+(XC s).length) cap e=q
  have hcap:l.length+(XC s).length<=q.cut (w.tape w.drawn q)/\q.cut (w.tape w.drawn q)<=9223372036854775807:=by
   rw[<-hq'];have:=oI (w.tape w.drawn<|Question.appendCap (l.length+(XC s).length) cap e) (show 0 < 2^63 - (l.length+(XC s).length) by omega);simp only[Question.cut];omega
  have hforced:q.forced=false:=by rw[<-hq'];rfl
  generalize hC:q.cut (w.tape w.drawn q)=C at hcap
  have hdrew:SH {w with drawn:=w.drawn+1} F H:=hHq.drew _;have halloc:=hdrew.alloc<|.cells ((us.toArray++us2.toArray++Builtin.zeroCells z.cells (C - (l.length+(XC s).length)))) e;have e3:(Builtin.zeroCells z.cells<|C - (l.length+(XC s).length)).size=(C - (l.length+(XC s).length))*1:=by simp[Builtin.zeroCells,hzl]
  have e4:(us.toArray++us2.toArray++Builtin.zeroCells z.cells (C - (l.length+(XC s).length))).toList.length=C*1:=by
   simp only[lZ,oU,ic,hus',hus2,e3];rw[<-mP,<-mP];congr 1;omega
  have e5:Jb 1 (Ex<|Z6 .u8) F (l++XC s) (us.toArray++us2.toArray++Builtin.zeroCells z.cells (C - (l.length+(XC s).length))).toList:=by
   have:=(hp1.append hp2 hus').aA (us2:=(Builtin.zeroCells z.cells<|C - (l.length+(XC s).length)).toList) (by simp[hus',hus2]);simpa using this
  refine⟨some ⟨w.heap.size,0,none⟩,C,_,?_,halloc.mono λm hm=>QQ (λm' hm' =>⟨by simp only[nH];exact hcap.1,hcap.2,.inr ⟨w.heap.size,(us.toArray++us2.toArray++Builtin.zeroCells z.cells (C - (l.length+(XC s).length))).toList,rfl,(by have hm2:pt w.heap.size _ m' :=hm';unfold pt at hm2 ⊢;rw[hm2]),e4,e5⟩⟩) hm,λhe=> ?_⟩
  ·simp only[Builtin.append_];have hnb:=hn;unfold H7 at hnb
   have hnot:¬(2:Nat)^48 < Builtin.nextslicecap (l.length+(XC s).length) cap*ti.bytes:=by omega
   have g1:=hold w.drew rfl;have g2:=hsrc w.drew;simp[hT0,hT1,J5 ht,J5 ht2,hz,hlo,hneed,hti,hb0,hnot,hq',hforced,hC,g1,g2,hzero,newRow];simp only[<-iS,iY]
  ·exfalso;have h5:=congrArg List.length he;simp only[nH,nG] at h5;omega
def gi(e:If)(p:H1 OF)(cap:Nat)(s:UV So):HP:=λm=>∃F,Qj 1 (Ex<|Z6 .u8) F e p cap (XC s) m
theorem u7{m:Mem}(F' :Fz)(h:gi e p cap s m):Qj 1 (Ex<|Z6 .u8) F' e p cap (XC s) m:=by
 obtain⟨F,h1,h2,h3⟩:=h;rcases h3 with h3 | ⟨b,cs,e,hb,hl,hp⟩
 ·exact⟨h1,h2,.inl h3⟩
 ·exact⟨h1,h2,.inr ⟨b,cs,e,hb,hl,λi x hx G _=>hp i x hx F<|Fz.le_refl _⟩⟩
def Bz(T e:If)(b:Nat)(s:UV So):HP:=wR (λq:H1 OF×H1 OF×Nat=>(q.1=none∨q.1=some ⟨b,0,none⟩)/\(s=[]->q.2.1=none∨q.2.2≠0)) λq=>[pc b [.pointer q.1,.slice q.2.1 (XC s).length q.2.2] T,gi e q.2.1 q.2.2 s]
section
variable{β:Type}{X:Act->PP->Prop}{m:H1 β}{r:β}{n:Nat}{D:UV q8}{S:UV (Nat×Do)}{F F0:Fz}{hs:UV HP}{T e b:If}{s:UV So}
theorem GG.sN{g:Gp}(i:Nat)(hi:hs[i]? =some (Bz T e b s))(k:∀p q cap,(p=none∨p=some ⟨b,0,none⟩)->(q=none∨cap≠0)->GG g (Hd n D S F<|pc b [.pointer p,.slice q (XC s).length cap] T::Qj 1 (Ex<|Z6 .u8) F e q cap (XC s)::hs.eraseIdx i) m r):GG g (Hd n D S F hs) m r:=by
 exact GG.sZ i hi fun⟨p,q,cap⟩ ⟨h1,h2⟩=>GG.cD (p' :=Qj 1 (Ex<|Z6 .u8) F e q cap<|XC s) 1 (λ_ h=>u7 F h) rfl λhm a w ha=>by
  refine k p q cap h1 ?_ hm a w ha;by_cases hs0:s=[]
  ·exact h2 hs0
  ·right;obtain⟨_,⟨m1,_,_,_,_,⟨hl,_⟩,_⟩,_⟩:=ha.2.pull (k:=1) rfl;rw[Sh] at hl
   intro e0;subst e0;exact hs0<|wt<|by omega
theorem GG.sB{g:Gp}{q:H1 OF}(is:UV Nat)(hp:p=none∨p=some ⟨b,0,none⟩)(hq:s=[]->q=none∨cap≠0)(hi:YD is hs=[pc b [.pointer p,.slice q (XC s).length cap] T,Qj 1 (Ex<|Z6 .u8) F0 e q cap<|XC s])(k:GG g (Hd n D S F<|Bz T e b s::J4 is hs) m r):GG g (Hd n D S F hs) m r:=by
 exact GG.sA is (p,q,cap) ⟨hp,hq⟩ hi (ZT (λ_ h=>h)<|ZT (λ_ h=>⟨F0,h⟩) λ_ h=>h) k
end
section
variable{β:Type}{P:RK}{ops:Of x5}{rest:UV x5}{ks:UV Kt}{Q:nN->Act->PP->Prop}{E:Act->PP->Prop}{m:H1 β}{r:β}
variable{n:Nat}{D:UV q8}{S:UV (Nat×Do)}{F F0:Fz}{hs:UV HP}{d:Nat}{ty t t2 e T b:If}{pos:String}{after:Of lL}{ox oy:dO}{p:H1 OF}{cap:Nat}{s:UV So}{c:lN}
theorem GG.pk{g:Gp}(k:GG g (Hd n D S F<|AO::hs) m r):GG g (Hd n D S F hs) m r:=GG.ins (λ_=>trivial) k
theorem GG.tk(i:Nat)(e:If)(hi:hs[i]? =some (pc b [.pointer none,.slice none 0 0] T))(k:GL O P ops rest ks Q (Hd n D S F<|hs.set i<|Bz T e b []) m r):GL O P ops rest ks Q (Hd n D S F hs) m r:=λhm a w ha=>k hm a w ⟨ha.1,SH.push hi<|(ha.2.pull hi).mono λ_ hm=>QQ (λm h=>⟨(none,none,0),⟨.inl rfl,λ_=>.inl rfl⟩,m,λ_=>none,λ_=>.inr rfl,Mem.sub.refl _,λ_ _ e=>by simp at e,h,λ_=>none,λ_=>none,λ_=>.inr rfl,λ_ _ e=>by simp at e,λ_ _ e=>by simp at e,⟨F,PF⟩,trivial⟩) hm⟩
theorem GG.pN{f:UV Int->H1 β}{T:Of If}(i:Nat)(E:Ud P e 1 (Ex<|Z6 .u8))(le0:F0<=F)(hd:Nat.blt d n=true)(ht:P.underlying t=some (.slice e))(ht2:P.underlying t2=some .string)(hT0:T[0]? =some t)(hT1:T[1]? =some t2)
  (hi:hs[i]? =some (Qj 1 (Ex<|Z6 .u8) F0 e p cap l)) (hx:QO S ox=some (.slice p l.length cap)) (hy:QO S oy=some (.string<|bs s))
  (k:∀l' p' cap',J3 l (XC s)=some l'->(l' =[]->p' =p/\cap' =cap)->GL O P ops rest ks Q (Hd n D ((d,.slice p' l'.length cap')::S) F<|hs.set i<|Qj 1 (Ex<|Z6 .u8) F e p' cap' l') (f l') r):GL O P ops (⟨some d,.call ⟨.builtin .append,#[ox,oy],T⟩,ty,pos,after,none⟩::rest) ks Q (Hd n D S F hs) ((J3 l<|XC s).bind f) r:=
 GG.bind λl' hl=>by
  have hl' :=hl;unfold J3 at hl
  split at hl
  ·rename_i hlen;simp only[BY] at hl
   subst hl;refine GG.step rfl (.inr rfl) λhm a w ha=> ?_;obtain⟨p',cap',w',hrun,hS,hnil⟩:=IQ (P:=P) (T:=T) (ty:=ty) (s:=s) E le0 ht ht2 hT0 hT1 (ha.2.pull hi) (by rw[Sh] at hlen;exact hlen);refine⟨_,w',?_,k _ p' cap' hl' hnil hm _ _ ⟨ha.1.put hd _,SH.push hi hS⟩⟩;simp[execOp,resolve,invoke,builtin,ha.1.eval hx,ha.1.eval hy,hrun]
  ·cases hl
theorem GG.tp{l':UV Int}{T:Of If}(happ:J3 l (XC s)=some l')(i:Nat)(E:Ud P e 1 (Ex<|Z6 .u8))(le0:F0<=F)(hd:Nat.blt d n=true)(ht:P.underlying t=some (.slice e))(ht2:P.underlying t2=some .string)(hT0:T[0]? =some t)(hT1:T[1]? =some t2)
  (hi:hs[i]? =some (Qj 1 (Ex<|Z6 .u8) F0 e p cap l)) (hx:QO S ox=some (.slice p l.length cap)) (hy:QO S oy=some (.string<|bs s))
  (k:∀p' cap',(l' =[]->p' =p/\cap' =cap)->GL O P ops rest ks Q (Hd n D ((d,.slice p' l'.length cap')::S) F<|hs.set i<|Qj 1 (Ex<|Z6 .u8) F e p' cap' l') m r):GL O P ops (⟨some d,.call ⟨.builtin .append,#[ox,oy],T⟩,ty,pos,after,none⟩::rest) ks Q (Hd n D S F hs) m r:=by
 have h:=GG.pN (f:=λ_=>m) (pos:=pos) (after:=after) (ty:=ty) i E le0 hd ht ht2 hT0 hT1 hi hx hy (λl'' p' cap' hl'' hn=>by rw[happ] at hl'';cases hl'';exact k p' cap' hn);rw[happ] at h;exact h
theorem GG.ah{caps as1 vs:UV Do}{of:dO}{os:UV dO}{T:Of If}{ρ:Unit->Fz->Do->Prop}{H:HP}{H' :Unit->Fz->Do->HP}(hd:Nat.blt d n=true)
  (hcall:∀args w,(callFunc f args).run P w= .ok (.enter f args) w) (hf:QO S of=some (.func (.func f) #[] caps.toArray)) (ha:Ub S os=some vs) (has:vs++caps=as1) (hi:hs[i]? =some H)
  (hc:CT P f as1.toArray F H (some ()) ρ H') (k:∀F' v,F<=F'->GL O P ops rest ks Q (Hd n D ((d,v)::S) F'<|hs.set i<|H' () F' v) m r):GL O P ops (⟨some d,.call ⟨.value of,os.toArray,T⟩,ty,pos,after,none⟩::rest) ks Q (Hd n D S F hs) m r:=
 GG.cc (e:=some ()) (g:=λ_=>m) hd hcall hf ha has hi hc (λ_ F' v _ le _=>k F' v le)
theorem GG.rX{t' :If}(hd:Nat.blt d n=true)(ht:P.underlying t=some (.pointer e))(hx:QO S ox=some (.pointer p))(hy:QO S oy=some (.pointer none))(k:GL O P ops rest ks Q (Hd n D ((d,.bool p.isNone)::S) F hs) m r):GL O P ops (⟨some d,.binOp .eql t ox oy t',ty,pos,after,none⟩::rest) ks Q (Hd n D S F hs) m r:=
 GG.val hd (λa w ha=>by
  have hq:(Op.equal t (.pointer p)<|.pointer none).run P w= .ok p.isNone w:=Dy ht 9999;simp[execOp,ha.1.eval hx,ha.1.eval hy,eqGuard,binOp,hq]) k
theorem GG.rQ{t' :If}{a0:OF}(hd:Nat.blt d n=true)(ht:P.underlying t=some (.pointer e))(hti:P.info? e=some ti)(hx:QO S ox=some (.pointer<|some a0))(hy:QO S oy=some (.pointer<|some a0))(k:GL O P ops rest ks Q (Hd n D ((d,.bool false)::S) F hs) m r):GL O P ops (⟨some d,.binOp .neq t ox oy t',ty,pos,after,none⟩::rest) ks Q (Hd n D S F hs) m r:=
 GG.val hd (λa w ha=>by
  have hq:=Go.Lib.run_neq_ptr_same (P:=P) w a0 ht hti;simp[execOp,ha.1.eval hx,ha.1.eval hy,eqGuard,hq]) k
theorem GG.tH{b0 T0:Nat}{cs:UV Do}{src dst:If}(hd:Nat.blt d n=true)(hs1:P.underlying src=some (.pointer e))(hs2:P.underlying dst=some .unsafePointer)(ht:P.info? e=some ti)(hj:ti.size≠0)(hb:hs[i]? =some (pc b0 cs T0))(h0:0 < cs.length)(hx:QO S ox=some (vP b0 0))
  (k:GL O P ops rest ks Q (Hd n D ((d,vP b0 0)::S) F hs) m r):GL O P ops (⟨some d,.convert src dst ox,ty,pos,after,none⟩::rest) ks Q (Hd n D S F hs) m r:=
 GG.val hd (λa w ha=>by
  have hsh:w.shape? b0=some (T0,cs.length):=by simp[World.shape?,SH.bT hb ha.2]
  have hq:=Go.Lib.run_to_unsafe (P:=P) w ⟨b0,0,none⟩ hs1 hs2 ht hj hsh h0;simp[execOp,ha.1.eval hx,hq]) k
theorem GG.ad{b0 T0:Nat}{cs:UV Do}{src dst:If}(hd:Nat.blt d n=true)(hs1:P.underlying src=some .unsafePointer)(hs2:P.underlying dst=some (.pointer e))(ht:P.info? e=some ti)(hb:hs[i]? =some (pc b0 cs T0))(hl:liesAt P P.depth T0 (cs.length / P.cellsOf T0) 0 e 1=true)(hx:QO S ox=some (vP b0 0))
  (k:GL O P ops rest ks Q (Hd n D ((d,vP b0 0)::S) F hs) m r):GL O P ops (⟨some d,.convert src dst ox,ty,pos,after,none⟩::rest) ks Q (Hd n D S F hs) m r:=
 GG.val hd (λa w ha=>by
  have hsh:w.shape? b0=some (T0,cs.length):=by simp[World.shape?,SH.bT hb ha.2]
  have hq:=Go.Lib.run_from_unsafe (P:=P) w ⟨b0,0,none⟩ hs1 hs2 ht hsh hl;simp[execOp,ha.1.eval hx,hq]) k
theorem GG.pL{T:Of If}{v:Do}(hd:Nat.blt d n=true)(hf:∀w,(callFunc f #[v]).run P w= .ok (.value v) w)(hx:QO S ox=some v)
  (k:GL O P ops rest ks Q (Hd n D ((d,v)::S) F hs) m r):GL O P ops (⟨some d,.call ⟨.value<|.func f,#[ox],T⟩,ty,pos,after,none⟩::rest) ks Q (Hd n D S F hs) m r:=
 GG.val hd (λa w ha=>by
  have h0:a.eval (.func f)= .func (.func f) #[] #[]:=rfl;simp[execOp,resolve,Deferred.ofValue,h0,ha.1.eval hx,invoke,hf]) k
theorem GG.a7{k:Nat}{T:Of If}(hp:p=none∨cap≠0)(hd:Nat.blt d n=true)(hx:QO S ox=some (.slice p k cap))(h:GL μ P ops rest ks Q (Hd n D ((d,.pointer p)::S) F hs) m r):GL μ P ops (⟨some d,.call ⟨.builtin .unsafeSliceData,#[ox],T⟩,ty,pos,after,none⟩::rest) ks Q (Hd n D S F hs) m r:=by
 refine GG.cr rfl rfl λhm a w ha=>⟨.pointer p,?_,h hm _ _ ⟨ha.1.put hd _,ha.2⟩⟩
 have:(Builtin.unsafeSliceData_ T ty #[.slice p k cap]).run P w= .ok (.pointer p) w:=by
  cases p with
  | none=>exact Go.Lib.run_unsafeSliceData_nil w T ty k cap
  | some a=>exact Go.Lib.run_unsafeSliceData_row w T ty a k cap (by rcases hp with h | h;cases h;exact h)
 simp[execOp,resolve,invoke,builtin,ha.1.eval hx,this]
theorem GG.ay{T:Of If}{pt it:If}(i:Nat)(hT:T=#[pt,it])(hpt:P.underlying pt=some (.pointer e))(hce:P.cellsOf e=1)(hi:hs[i]? =some (Qj 1 (Ex<|Z6 .u8) F0 e p cap<|XC s))(hd:Nat.blt d n=true)(hx:QO S ox=some (.pointer p))(hy:QO S oy=some (.int .i64 (XC s).length))
  (k:GL O P ops rest ks Q (Hd n D ((d,.string<|bs s)::S) F<|hs.eraseIdx i) m r):GL O P ops (⟨some d,.call ⟨.builtin .unsafeString,#[ox,oy],T⟩,ty,pos,after,none⟩::rest) ks Q (Hd n D S F hs) m r:=by
 subst hT;refine GG.step rfl (.inr rfl) λhm a w ha=> ?_;have hS:=ha.2.pull hi;obtain⟨mm,⟨m1,m2,dd,s1,s2,⟨h1,h2,h3⟩,hq⟩,kk⟩:=hS;rw[Sh] at hy h1
 by_cases h0:s=[]
 ·subst h0;refine⟨.string<|bs [],w,?_,k hm _ _ ⟨ha.1.put hd _,⟨m2,hq,kk.sub s2⟩⟩⟩;have:=Go.Lib.run_unsafeString_none (P:=P) w pt it ty p;simp only[nG] at hy
  simp[execOp,resolve,invoke,builtin,ha.1.eval hx,ha.1.eval hy];have e:bs []=ByteArray.empty:=rfl;rw[e];simpa using congrArg (λr=>r) (show(Builtin.unsafeString_ #[pt,it] ty #[.pointer p,.int .i64 0]).run P w= .ok (.string .empty) w from this)▸rfl
 ·rcases h3 with⟨rfl,rfl⟩ | ⟨g,cs,rfl,hb,hl,hp⟩
  ·exfalso;exact h0<|wt<|by omega
  ·have hh:SH w F (star (Dec.pt g<|.cells cs.toArray e (0,0))<|Qi<|hs.eraseIdx i):=⟨mm,⟨m1,m2,dd,s1,s2,hb,hq⟩,kk⟩;have hg:=hh.owned
   have hcell:∀j x,s[j]? =some x->w.cell? ((⟨g,0,none⟩:OF).add j)=some (.int .u8 x.toNat):=λj x hx=>by
    have hj:(XC s)[j]? =some (x.toNat:Int):=by simp[XC,hx]
    have:=hp j _ hj F0<|Fz.le_refl _;have h5:(cs.drop<|j*1).take 1=[Value.int .u8 x.toNat]:=this;rw[eR] at h5
    have h6:cs[j]? =some (.int .u8 x.toNat):=by
     have:=congrArg (λl:UV Do=>l[0]?) h5;simpa[rz,mF] using this
    rw[Xy];simp[World.cell?,hg,h6]
   have hrun:=Go.Lib.run_unsafeString_row (P:=P) w pt it ty e hpt hce g cs.length (by simp[World.shape?,hg]) s h0 (by omega) (by omega) hcell
   have hw:w.freeze ⟨g,0,none⟩ s.length=put w g (.cells cs.toArray e (0,0+s.length)):=by
    have hne:s.length≠0:=λe=>h0<|wt e;unfold World.freeze put;rw[RW hne];congr 1;apply oK;intro j;rw[iJ,Array.getElem?_setIfInBounds];split
    ·rename_i hj;subst hj;have:=lt_of_heap hg;rw[TO this,hg];rfl
    ·rfl
   rw[hw] at hrun
   have h7:=(hh.put (o' :=.cells cs.toArray e (0,0+s.length))).drop;refine⟨.string<|bs s,_,?_,k hm _ _ ⟨ha.1.put hd _,h7⟩⟩;have e8:bs s=⟨s.toArray⟩:=rfl;simp[execOp,resolve,invoke,builtin,ha.1.eval hx,ha.1.eval hy,hrun,e8]
end
def xT{α:Type}(P:RK)(F:Fz)(f:x4)(caps:UV Do)(arg:α->Fz->UV Do->Prop)(Hs:UV HP)(l:UV α):Prop:=
 (∀args w,(callFunc f args).run P w= .ok (.enter f args) w)/\
 ∀(σ:Type) (ly:Nat) (Y:σ->Fz->HP) (y:α->σ->H1 (σ×Bool)) (F1:Fz),F<=F1->U1 P ly F1 arg Y y->∀s,HN P f (.func (.yield ly) #[] #[]::caps).toArray F1 (Hs++[Y s F1]) (Uy y l s) (λ_ _ _=>True) λs' F' =>[Y s' F']
section
variable{β:Type}{P:RK}{ks:UV Kt}{Q:nN->Act->PP->Prop}{r:β}{n:Nat}{D:UV q8}{S:UV (Nat×Do)}{F:Fz}{hs:UV HP}
variable{α τ γ:Type}{g:dO}{ps:UV Tmp}{assign body:lN}{f:x4}{caps:UV Do}{arg:α->Fz->UV Do->Prop}{bm:α->τ->H1 (UK τ γ)}{s0:τ}{k:UK τ γ->H1 β}
theorem GG.tA{l:UV α}(Hs:UV HP)(is:UV Nat)(I:τ->Fz->UV HP->Prop)(J:γ->Fz->UV HP->Prop)(hg:QO S g=some (.func (.func f) #[] caps.toArray))(hit:xT P F f caps arg Hs l)(hps:(ps.all λp=>Nat.blt p n)=true)(harg:∀x F' vs,arg x F' vs->vs.length=ps.length)
  (hi:YD is hs=Hs) (hI:I s0 F (J4 is hs))
  (round:∀l L F0 F1 x vs s ctl R hs',F<=F0->F0<=F1->arg x F1 vs->I s F0 hs'->GC (some l) P assign [] (BP P l body<|RP l L I J F1 R ctl) (Hd n [] ((ps.zip vs).reverse++S) F1<|pt l (UC L)::R::hs') (bm x s) ctl)
  (next:∀q F0 F' s hs',F<=F0->F0<=F'->Ac bm l s0=some (.next s)->I s F0 hs'->GE none P ks Q (Hd n (WI q::D) S F'<|pt q (.deferred<|some [])::hs') (k<|.next s) r)
  (done:∀q F0 F' b hs',F<=F0->F0<=F'->Ac bm l s0=some (.done b)->J b F0 hs'->GC none P .ret ks Q (Hd n (WI q::D) S F'<|pt q (.deferred<|some [])::hs') (k<|.done b) r):GC none P (.rangeFunc g ps.toArray assign body) ks Q (Hd n D S F hs) ((Ac bm l s0).bind k) r:=by
 intro hm a w ha;cases hl:Ac bm l s0 with
 | none=>rw[hl] at hm;cases hm
 | some c=>
  rw[hl] at hm
  refine ey λfn _=> ?_
  let L:Loop:={state:=.ready,pending:=none,fn,tmps:=a.tmps,params:=ps.toArray,assign,body,defers:=w.heap.size}
  have hw1:SH ((w.alloc<|.deferred<|some []).alloc<|.loop L) F (star (Qi<|Hs++[yS F (w.heap.size+1) L I J (.next s0) F])<|Qi [pt w.heap.size<|.deferred<|some []]):=by
   have h1:=(ha.2.alloc<|.deferred<|some []).alloc<|.loop L;rw[lr] at h1
   refine h1.mono λm hm=> ?_
   have h2:star (pt (w.heap.size+1)<|UC L) (star (pt w.heap.size<|.deferred<|some [])<|star (Qi Hs)<|Qi<|J4 is hs) m:=
    QS (λm hm=>QS (λm hm=>by have:=UA (ks:=is) hm;rw[hi] at this;exact this) hm) hm
   have h3:=T5<|QS (λm hm=>Zh hm)<|Zh h2;refine QQ (λm hm=> ?_)<|QS (λm hm=>J7 hm) h3;refine K5<|QS (λm hm=>J7 (p:=yS F (w.heap.size+1) L I J (.next s0) F) ⟨F,J4 is hs,Fz.le_refl _,Fz.le_refl _,hI,hm⟩) hm
  have hY:U1 P (w.heap.size+1) F arg (yS F (w.heap.size+1) L I J) (ku bm):=by
   refine Rm (S' :=λvs=>(ps.zip vs).reverse++S) (assign:=assign) (body:=body) (λx F' vs hx=>by rw[harg x F' vs hx];simp[L]) rfl rfl (λvs _=>Di hps ⟨ha.1.1,rfl,ha.1.2.2⟩) ?_;exact λF0 F1 x vs s ctl R hs' h0 h1 hx hI=>round _ L F0 F1 x vs s ctl R hs' h0 h1 hx hI
  have hc:=hit.2 _ _ _ _ F (Fz.le_refl F) hY (.next s0) c (by rw[Fe];exact hl) _ _ hw1;refine⟨w.heap.size+1,[WI w.heap.size],(w.alloc<|.deferred<|some []).alloc<|.loop L,⟨.fn (.func f) caps.toArray,#[.func (.yield<|w.heap.size+1) #[] #[]]⟩,(w.alloc<|.deferred<|some []).alloc<|.loop L,f,(.func (.yield<|w.heap.size+1) #[] #[]::caps).toArray,(w.alloc<|.deferred<|some []).alloc<|.loop L,lW fn a.tmps ps.toArray assign body,?_,λ_ _=>trivial,?_,λe=>(by cases e),?_⟩
  ·have hc0:a.eval (.const<|.func (.yield<|w.heap.size+1) #[] #[])= .func (.yield<|w.heap.size+1) #[] #[]:=rfl;simp[resolve,Deferred.ofValue,ha.1.eval hg,hc0]
  ·simp[invoke,hit.1]
  ·refine nP.2<|hc.mono ?_;rintro _ w' ⟨F',v,le,rfl, -,hw'⟩;cases c with
   | next s=>
    have hw2:SH w' F' (star (yS F (w.heap.size+1) L I J (.next s) F')<|Qi [pt w.heap.size<|.deferred<|some []]):=hw'.mono λm hm=>Wb hm;obtain⟨F0,hs',h0,h1,hI',h3⟩:=SH.cU hw2;refine⟨none,_,Dj<|SH.bT (k:=0) rfl h3,?_⟩;have h4:SH _ F' (Qi<|pt w.heap.size (.deferred<|some [])::hs'):=(SH.bp 0<|SH.putAt (k:=0) rfl h3<|TU L none).mono λm hm=>Wb hm;exact next w.heap.size F0 F' s hs' h0 h1 hl hI' hm _ _ ⟨⟨ha.1.1,by simp[ha.1.2.1],ha.1.2.2⟩,h4⟩
   | done b=>
    have hw2:SH w' F' (star (yS F (w.heap.size+1) L I J (.done b) F')<|Qi [pt w.heap.size<|.deferred<|some []]):=hw'.mono λm hm=>Wb hm;obtain⟨F0,hs',h0,h1,hI',h3⟩:=SH.aH hw2;refine⟨some .ret,_,Lb<|SH.bT (k:=0) rfl h3,?_⟩;have h4:SH _ F' (Qi<|pt w.heap.size (.deferred<|some [])::hs'):=(SH.bp 0<|SH.putAt (k:=0) rfl h3<|TU L<|some .ret).mono λm hm=>Wb hm;exact done w.heap.size F0 F' b hs' h0 h1 hl hI' hm _ _ ⟨⟨ha.1.1,by simp[ha.1.2.1],ha.1.2.2⟩,h4⟩
end
theorem vz{K V:Type}[BEq K]{ck:K->Do}{rv:Fz->V->Do->Prop}{p:H1 Nat}{l:UV (K×V)}(h:Wm ck rv F p l)
  (hcl:∀b es clock w,w.heap[b]? =some (.map es clock)->Calls P f #[.map<|some b] w λe w' =>e= .returned (.map<|some w.heap.size)/\w' =w.alloc (.map es clock)) (w:PP) (R:HP) (hw:SH w F R):Calls P f #[.map p] w (λe w' =>∃b,e= .returned (.map<|some b)/\SH w' F (star (QZ ck rv F b l) R)):=by
 obtain⟨b,es,c,l',rfl,h0,h00,h1,h2,h3⟩:=h;refine(hcl b es c w<|hw.frozen h1).mono ?_;rintro e w' ⟨rfl,rfl⟩;exact⟨_,rfl,(hw.alloc<|.map es c).mono λm hm=>QQ (λm hm=>⟨l',h0,h00,es,c,hm,h2,h3⟩) hm⟩
end
section
variable{f:x4}{P:RK}{β:Type}{n:Nat}
variable{O:H1 Nat}{μ:Md}
section
variable{β:Type}{P:RK}{ops:Of x5}{rest:UV x5}{ks:UV Kt}{Q:nN->Act->PP->Prop}{m:H1 β}{r:β}
variable{n:Nat}{D:UV q8}{S:UV (Nat×Do)}{F:Fz}{hs:UV HP}{d:Nat}{ty:If}{pos:String}{after:Of lL}
theorem GG.ag{α:Type}{caps as1 vs:UV Do}{of:dO}{os:UV dO}{T:Of If}{em:H1 (UV α)}{x:UV α}{sz:Nat}{c:Uk α}{T' :If}(he:em=some x)(hd:Nat.blt d n=true)
  (hcall:∀args w,(callFunc f args).run P w= .ok (.enter f args) w) (hf:QO S of=some (.func (.func f) #[] caps.toArray)) (ha:Ub S os=some vs) (has:vs++caps=as1)
  (hc:CC P f as1.toArray F em sz c T') (k:∀F' p cap,F<=F'->GL O P ops rest ks Q (Hd n D ((d,.slice p x.length cap)::S) F'<|Qj sz c F' T' p cap x::hs) m r):GL O P ops (⟨some d,.call ⟨.value of,os.toArray,T⟩,ty,pos,after,none⟩::rest) ks Q (Hd n D S F hs) m r:=by
 have h:=GG.pX (O:=O) (P:=P) (ops:=ops) (rest:=rest) (ks:=ks) (Q:=Q) (r:=r) (n:=n) (D:=D) (S:=S) (F:=F) (hs:=hs) (d:=d) (ty:=ty) (pos:=pos) (after:=after) (T:=T) (g:=λ_=>m) hd hcall hf ha has hc (λx' F' p cap he' le=>by rw[he] at he';cases he';exact k F' p cap le);rw[he] at h
 exact h
theorem GG.th{K V:Type}{ck:K->Do}{rv:Fz->V->Do->Prop}{of:dO}{os:UV dO}{T:Of If}{p:H1 Nat}{l:UV (K×V)}(hd:Nat.blt d n=true)
  (hcall:∀args w,(callFunc f args).run P w= .ok (.enter f args) w) (hf:QO S of=some (.func (.func f) #[] #[])) (ha:Ub S os=some [.map p])
  (hc:∀w R,SH w F R->Calls P f #[.map p] w (λe w' =>∃b,e= .returned (.map<|some b)/\SH w' F (star (QZ ck rv F b l) R)))
  (k:∀b,GL O P ops rest ks Q (Hd n D ((d,.map<|some b)::S) F<|QZ ck rv F b l::hs) m r):GL O P ops (⟨some d,.call ⟨.value of,os.toArray,T⟩,ty,pos,after,none⟩::rest) ks Q (Hd n D S F hs) m r:=
 GG.cf rfl (.inr rfl) λhm a w hA=>by
  refine⟨Wo (caps:=[]) (vs:=[.map p]) hA.1 hcall hf ha,?_⟩;refine(hc w _ hA.2).mono ?_;rintro _ w' ⟨b,rfl,hw⟩;exact⟨_,rfl,k b hm _ _ ⟨hA.1.put hd _,hw⟩⟩
end
theorem HN.pq{fn:lK}{c:lN}{args:UV Do}{F:Fz}{Hs:UV HP}{m:H1 β}{ρ:β->Fz->Do->Prop}{Hs' :β->Fz->UV HP}
  (hf:P.funcs[f]? =some fn) (hb:fn.body=some c) (hn:fn.ntmps=n) (ha:Nat.ble args.length n=true)
  (k:∀r R,GC none P c [] (Sm (G:=Unit) P fn F R (λ_=>ρ) (λ_=>Hs') r) (Hd n [] (Db 0 args) F<|Hs++[R]) m r):HN P f args.toArray F Hs m ρ Hs' :=by
 intro r hm w R hw;refine((nP (n:=0)).1<|iK hf hb trivial<|k r R hm _ w ⟨?_,hw.mono λm hm=>K5<|QS (λ_ h=>J7 h) hm⟩).mono ?_
 ·rw[hn];exact Uw ha
 ·rintro e w' ⟨_,F',v,h⟩;exact⟨F',v,h⟩
section
variable{β:Type}{P:RK}{n:Nat}{S:UV (Nat×Do)}{F F' :Fz}{hs:UV HP}
variable{G ε:Type}{penc:ε->Do}{fn:lK}{R:HP}{ρ:G->β->Fz->Do->Prop}{Hs' :G->β->Fz->UV HP}{x r:β}{rs:UV ResultVar}{vs:UV Do}
theorem FT{caps:UV Do}{Hs:UV HP}{Hp:ε->Fz->UV HP}{q:ε}(U:G)(hcall:∀args w,(callFunc f args).run P w= .ok (.enter f args) w)(hc:uX P penc f caps.toArray F' Hs Hp)(is:UV Nat)(hi:YD is hs=Hs)(hr:fn.results=rs.toArray)(h:∀F'',F'<=F''->SP P S F'' (Hp q F'' ++J4 is hs) rs vs)(le:F<=F')
  (hout:∀F'' w,F'<=F''->SH w F'' (Qi<|Hp q F'' ++J4 is hs)->SH w F'' (star (Qi<|Hs' U x F'') R)) (hρ:∀F'',ρ U x F''<|S8 vs):some x=some r->∀a w,Hd n [Pd f caps] S F' hs a w->Sm P fn F R ρ Hs' r (.panic [{v:=penc q,recovered:=false}]) a w:=by
 intro e a w ha;simp only[BY] at e
 subst e;show LeavesIn Fence.wide 0 P fn a.tmps _ a.defers (.panicking _) w;rw[ha.1.2.1]
 have hsh:SH w F' (star (Qi Hs)<|Qi<|J4 is hs):=ha.2.mono λm hm=>by
  have:=UA (ks:=is) hm;rw[hi] at this;exact this
 refine o5 (by simp) (λe=>by cases e) (Ak hcall) PO<|(hc.2 q w _ hsh).mono ?_;rintro _ _ w' ⟨rfl,⟨v,rfl⟩,F2,le2,h2⟩;have h3:SH w' F2 (Qi<|Hp q F2++J4 is hs):=h2.mono λ_=>K5;exact⟨_,Jd (n:=n) (a:=a) (D:=a.defers) hr ⟨⟨ha.1.1,rfl,ha.1.2.2⟩,h3⟩<|h F2 le2,U,F2,_,Fz.le_trans le le2,rfl,hρ F2,hout F2 w' le2 h3⟩
end
end
section
variable{c:lN}
def kz(f:x4)(P:RK)(c:lN)(Q:nN->Act->PP->Prop)(a:Act)(w:PP):Prop:=∀(b:Frame) (k:UV Item) (cs:UV Frame),b.roundOf=none->b.fn=f->∃e a' w',Q e a' w'/\ArrivesIn (Machine.fenced P Fence.wide) P (lone (b.atR a<|.code c::k) cs w) b k cs e a' w'
section
variable{f:x4}{P:RK}{Q Q' :nN->Act->PP->Prop}{a:Act}{w:PP}
theorem yd(h:c.wpIn Fence.wide 0 P Q a w):kz f P c Q a w:=λb k cs hr _=>h b k cs hr trivial<|room_wide _
theorem ye(h:kz f P c Q a w)(hq:∀e a w,Q e a w->Q' e a w):kz f P c Q' a w:=λb k cs hr hb=>let⟨e,a',w',q,s⟩:=h b k cs hr hb;⟨e,a',w',hq _ _ _ q,s⟩
theorem ub{x y:lN}(h:kz f P x (Exit.then (kz f P y Q) Q) a w):kz f P (.seq x y) Q a w:=by
 intro b k cs hro hb;have h0:(lone (b.atR a<|.code (.seq x y)::k) cs w).fenced P Fence.wide:=mO _ _;obtain⟨e,a₁,w₁,hq,harr⟩:=h b (.code y::k) cs hro hb;cases e with
 | normal=>
  obtain⟨e₂,a₂,w₂,hq₂,harr₂⟩:=hq b k cs hro hb;exact⟨e₂,a₂,w₂,hq₂,.of_steps (.head h0 oF harr) harr₂⟩
 | exit id=>exact⟨_,a₁,w₁,hq,.of_steps (.one h0 oF)<|.pass (x:=.code y) rfl (λ_ _=>.inl<|by simp) harr⟩
 | goto l=>exact⟨_,a₁,w₁,hq,.of_steps (.one h0 oF)<|.pass (x:=.code y) rfl (λ_ _=>.inl<|by simp) harr⟩
 | ret=>exact⟨_,a₁,w₁,hq,.of_steps (.one h0 oF)<|.pass (x:=.code y) rfl (λ_ _=>.inl<|by simp) harr⟩
 | panic ch=>exact⟨_,a₁,w₁,hq,.of_steps (.one h0 oF)<|.pass (x:=.code y) rfl (λ_ _=>.inl<|by simp) harr⟩
 | outgrown=>exact⟨_,a₁,w₁,hq,.of_steps (.one h0 oF)<|.pass (x:=.code y) rfl (λ_ _=>.inl<|by simp) harr⟩
theorem ky{id:Nat}(h:kz f P c (Exit.inBlock id Q) a w):kz f P (.block id c) Q a w:=by
 intro b k cs hro hb;have h0:(lone (b.atR a<|.code (.block id c)::k) cs w).fenced P Fence.wide:=mO _ _;obtain⟨e,a₁,w₁,hq,harr⟩:=h b (.inBlock id::k) cs hro hb;cases e with
 | normal=>exact⟨.normal,a₁,w₁,hq,.head h0 lR<|nj harr<|.one (mO _ _) stepR_inBlock⟩
 | exit id' =>
  by_cases hid:id' =id
  ·simp only[Exit.inBlock,hid,Rw] at hq
   exact⟨.normal,a₁,w₁,hq,.head h0 lR<|harr.1 k<|by simp[exitTo,hid]⟩
  ·simp only[Exit.inBlock,hid,T2] at hq
   have this:(id==id')=false:=by simp;exact λh=>hid h.symm
   have hx:exitTo id' (.inBlock id::k)=exitTo id' k:=by simp[exitTo,this]
   exact⟨.exit id',a₁,w₁,hq,λk' hk=>.head h0 lR (harr.1 k' (by rw[hx];exact hk)),
    λhr' hk=>let⟨k₁,h1,h2⟩:=harr.2 hr' (by rw[hx];exact hk);⟨k₁,h1,.head h0 lR h2⟩⟩
 | goto l=>
  have hx:gotoIn l (.inBlock id::k)=gotoIn l k:=by simp[gotoIn]
  exact⟨_,a₁,w₁,hq,λk' hk=>.head h0 lR (harr.1 k' (by rw[hx];exact hk)),
   λhr' hk=>let⟨k₁,h1,h2⟩:=harr.2 hr' (by rw[hx];exact hk);⟨k₁,h1,.head h0 lR h2⟩⟩
 | ret=>exact⟨_,a₁,w₁,hq,.of_steps (.one h0 lR) harr⟩
 | panic ch=>exact⟨_,a₁,w₁,hq,.of_steps (.one h0 lR) harr⟩
 | outgrown=>exact⟨_,a₁,w₁,hq,.of_steps (.one h0 lR) harr⟩
theorem Oa{fn:lK}{args:Of Do}{R:oJ->PP->Prop}(hf:P.funcs[f]? =some fn)(hb:fn.body=some c)
  (h:kz f P c (bodyPostM Fence.wide 0 P fn R) {tmps:=args++Array.replicate (fn.ntmps - args.size) undef,defers:=[]} w):Calls P f args w R:=by
 refine(nP (n:=0)).1 ⟨trivial,λcs hr=> ?_⟩
 let b:Frame:={(default:Frame) with fn:=f,kind:=.normal,roundOf:=none}
 have henter:Frame.enter P f args .normal=b.atR {tmps:=args++Array.replicate (fn.ntmps - args.size) undef,defers:=[]} [.code c]:=by
  simp[Frame.enter,Frame.atR,hf,hb,b]
 obtain⟨e,a',w',hq,harr⟩:=h b [] cs rfl rfl;rw[<-henter] at harr
 cases e with
 | normal=>
  obtain⟨e',w'',fr',hR,hs,hfn,hl⟩:=ob a'.defers .returning w' {b.atR a' [] with mode:=.returning} cs rfl rfl rfl hf rfl trivial hr hq;exact⟨e',w'',fr',hR,oY (nj harr<|.one (mO _ _)<|stepR_end rfl) hs,hfn,hl⟩
 | ret=>
  obtain⟨todo,hs₀⟩:=harr.1 rfl;obtain⟨e',w'',fr',hR,hs,hfn,hl⟩:=ob a'.defers .returning w' {b.atR a' todo with mode:=.returning} cs rfl rfl rfl hf rfl trivial hr hq;exact⟨e',w'',fr',hR,oY hs₀ hs,hfn,hl⟩
 | panic chain=>
  obtain⟨todo,hs₀⟩:=harr;obtain⟨e',w'',fr',hR,hs,hfn,hl⟩:=ob a'.defers (.panicking chain) w' {b.atR a' todo with mode:=.panicking chain} cs rfl rfl rfl hf rfl trivial hr hq;exact⟨e',w'',fr',hR,oY hs₀ hs,hfn,hl⟩
 | exit id=>exact hq.elim
 | goto l=>exact hq.elim
 | outgrown=>exact⟨.outgrown,w',b,hq,harr.resolve_left (by simp[b]),rfl,trivial⟩
def qm(P:RK)(l:Nat)(R:oJ->PP->Prop):nN->Act->PP->Prop
 | .panic chain,a,w=>a.defers=[]/\R (.panicked chain) w
 | e,a,w=>roundPost P l R e a w
theorem jQ{l:Nat}{fn:lK}{tmps:Of Do}{assign body:lN}{R:oJ->PP->Prop}(hf:P.funcs[f]? =some fn)
  (h:assign.wpIn (Fence.wide.inRound l) 0 P (Exit.then (λa₁ w₁=>∃w₂,(Instr.beginRound l).run P w₁= .ok () w₂/\body.wpIn (Fence.wide.inRound l) 0 P (qm P l R) a₁ w₂) λ_ _ _=>False)
   {tmps:=tmps,defers:=[]} w):RoundIn Fence.wide 0 P l f tmps assign body w R:=by
 refine⟨trivial,λc cs hr=> ?_⟩
 let b:Frame:={(default:Frame) with fn:=f,kind:=.normal,roundOf:=some l}
 have hb0:Frame.round l f tmps assign body .normal=b.atR {tmps:=tmps,defers:=[]} [.code assign,.beginRound,.code body]:=by
  simp[Frame.round,Frame.atR,b]
 have hr' :(Fence.wide.inRound l).room ((c::cs).length+1+0):=hr;obtain⟨e,a₁,w₁,hq,harr⟩:=h b [.beginRound,.code body] (c::cs) rfl trivial hr';rw[<-hb0] at harr
 cases e with
 | normal=>
  obtain⟨w₂,hbr,hbody⟩:=hq
  have s1:StepsIn (Machine.fenced P<|Fence.wide.inRound l) P (lone (b.atR a₁ [.beginRound,.code body]) (c::cs) w₁) (lone (b.atR a₁ [.code body]) (c::cs) w₂):=
   .one (mO _ _) (stepR_beginRound rfl hbr)
  obtain⟨e₂,a₂,w₃,hq₂,harr₂⟩:=hbody b [] (c::cs) rfl trivial hr';cases e₂ with
  | normal=>
   obtain⟨v,w₄,hend,hR⟩:=hq₂;exact⟨.returned v,w₄,hR,(nj harr s1).trans<|nj harr₂<|.one (mO _ _)<|stepR_round_end rfl rfl hend⟩
  | ret=>
   obtain⟨v,w₄,hend,hR⟩:=hq₂;obtain⟨k₁,hs⟩:=harr₂.2 rfl;exact⟨.returned v,w₄,hR,(nj harr s1).trans<|nj hs<|.one (mO _ _)<|stepR_round_ret rfl rfl hend⟩
  | exit id=>
   obtain⟨v,w₄,hend,hR⟩:=hq₂;obtain⟨k₁,hk,hs⟩:=harr₂.2 rfl rfl;exact⟨.returned v,w₄,hR,(nj harr s1).trans<|nj hs<|.one (mO _ _)<|stepR_round_exit rfl rfl hk hend⟩
  | goto t=>
   obtain⟨v,w₄,hend,hR⟩:=hq₂;obtain⟨k₁,hk,hs⟩:=harr₂.2 rfl rfl;exact⟨.returned v,w₄,hR,(nj harr s1).trans<|nj hs<|.one (mO _ _)<|stepR_round_goto rfl rfl hk hend⟩
  | panic chain=>
   obtain⟨hd,hR⟩:=hq₂;obtain⟨todo,hs⟩:=harr₂;have hl:Frame.leaving P {b.atR a₂ todo with mode:=.panicking chain} w₃ (.panicked chain):=⟨rfl,hd,fn,hf⟩;exact⟨.panicked chain,w₃,hR,(nj harr s1).trans<|nj hs<|.one (mO _ _)<|iQ hl⟩
  | outgrown=>exact hq₂.elim
 | exit id=>exact hq.elim
 | goto t=>exact hq.elim
 | ret=>exact hq.elim
 | panic chain=>exact hq.elim
 | outgrown=>exact hq.elim
theorem Ml{g:dO}{ps:Of Tmp}{assign body:lN}
  (h:∃(l:Nat) (mark:UV q8) (w₁:PP) (d:q8) (w₁' :PP) (f' :x4) (args:Of Do) (w₂:PP),
   (Instr.enterLoop f a.tmps ps assign body none).run P w= .ok (l,mark) w₁/\(resolve a.eval (rangeCall g l) 0).run P w₁= .ok d w₁'/\(invoke d.target d.args).run P w₁' = .ok (.enter f' args) w₂/\
   Calls P f' args w₂ (λe w₃=>match e with
    | .returned _=>∃jump w₄,(Instr.endLoop l).run P w₃= .ok jump w₄/\(match jump with | none=>Q .normal {a with defers:=mark++a.defers} w₄ | some c=>kz f P c Q {a with defers:=mark++a.defers} w₄)
    | .panicked chain=>Q (.panic chain) {a with defers:=mark++a.defers} w₃
    | .outgrown=>False)):kz f P (.rangeFunc g ps assign body) Q a w:=by
 intro b k cs hro hb;obtain⟨l,mark,w₁,d,w₁',f',args,w₂,he,hres,hinv,hcall⟩:=h;rw[<-hb,<-hro] at he
 have henter:=stepR_rangeFunc (P:=P) (b:=b) (a:=a) (k:=k) (cs:=cs) (w:=w) he hres hinv;obtain⟨e,w₃,fr,hR,hsteps,hfn,hleave⟩:=(nP (n:=0)).2 hcall |>.2 (b.atR {a with defers:=mark++a.defers} (.inRangeFunc l::k)::cs) (room_wide _);cases e with
 | outgrown=>exact hR.elim
 | returned v=>
  obtain⟨jump,w₄,hend,hj⟩:=hR
  have sback:StepsIn (Machine.fenced P Fence.wide) P (lone (b.atR a<|.code (.rangeFunc g ps assign body)::k) cs w) (lone (b.atR {a with defers:=mark++a.defers}<|(jump.map Item.code).toList++k) cs w₄):=by
   refine .head (mO _ _) henter<|nj hsteps<|.head (mO _ _) ?_<|.one (mO _ _)<|stepR_endRangeFunc hend;rw[<-finish_atR_inRangeFunc l v];exact step_leave_returned hleave
  cases jump with
  | none=>exact⟨.normal,_,w₄,hj,sback⟩
  | some c=>
   obtain⟨e',a'',w₅,hq,harr⟩:=hj b k cs hro hb;exact⟨e',a'',w₅,hq,.of_steps sback harr⟩
 | panicked chain=>
  refine⟨.panic chain,_,w₃,hR,.inRangeFunc l::k,.head (mO _ _) henter<|nj hsteps<|.one (mO _ _) ?_⟩;rw[<-Frame.raise_atR];exact iQ hleave
end
end
section
variable{Q:nN->Act->PP->Prop}{ε α σ τ β:Type}{S:UV (Nat×Do)}{arg:α->Fz->UV Do->Prop}{penc:ε->Do}{P:RK}{A:Act->PP->Prop}{f:x4}{ks:UV Kt}{hs hs':UV HP}{c:lN}{F:Fz}{n:Nat}{D:UV q8}{m:H1 β}{r:β}
variable{O:H1 Nat}{μ:Md}
abbrev Ad(penc:ε->Do)(q:ε):UV PanicEntry:=[{v:=penc q,recovered:=false}]
def Xe(f:x4)(P:RK):UV Kt->(nN->Act->PP->Prop)->nN->Act->PP->Prop
 | [],Q=>Q
 | .code c::ks,Q=>Exit.then (kz f P c<|Xe f P ks Q) (Xe f P ks Q)
 | .block id::ks,Q=>Exit.inBlock id<|Xe f P ks Q
def GB(f:x4)(P:RK)(c:lN)(ks:UV Kt)(Q:nN->Act->PP->Prop)(A:Act->PP->Prop)(m:H1 β)(r:β):Prop:=m=some r->∀a w,A a w->kz f P c (Xe f P ks Q) a w
section
variable{β:Type}{f:x4}{P:RK}{ks:UV Kt}{Q:nN->Act->PP->Prop}{A:Act->PP->Prop}{m:H1 β}{r:β}
theorem GB.q{x y:lN}(h:GB f P x (.code y::ks) Q A m r):GB f P (.seq x y) ks Q A m r:=λhm a w ha=>ub<|h hm a w ha
theorem GB.k{id:Nat}(h:GB f P c (.block id::ks) Q A m r):GB f P (.block id c) ks Q A m r:=λhm a w ha=>ky<|h hm a w ha
theorem GB.g(h:GC none P c [] (Xe f P ks Q) A m r):GB f P c ks Q A m r:=λhm a w ha=>yd<|h hm a w ha
theorem GG.cb(h:GB f P c ks Q A m r):GE none P [] (Xe f P (.code c::ks) Q) A m r:=h
theorem Yw:∀(ks:UV Kt) {e:nN} {a:Act} {w:PP},Zu none P ks Q e a w->Xe f P ks Q e a w
 | [],_,_,_,h=>h
 | .code c::ks,.normal,a,w,h=>ye (yd<|show c.wpIn Fence.wide 0 P (Zu none P ks Q) a w from h) λ_ _ _=>Yw ks
 | .code c::ks,.exit id,a,w,h=>Yw (e:=.exit id) ks h
 | .code c::ks,.goto l,a,w,h=>Yw (e:=.goto l) ks h
 | .code c::ks,.ret,a,w,h=>Yw (e:=.ret) ks h
 | .code c::ks,.panic ch,a,w,h=>Yw (e:=.panic ch) ks h
 | .code c::ks,.outgrown,a,w,h=>Yw (e:=.outgrown) ks h
 | .block id::ks,.exit id',a,w,h=>by
  show(if id' =id then Xe f P ks Q .normal a w else Xe f P ks Q (.exit id') a w);have h' :(if id' =id then Zu none P ks Q .normal a w else Zu none P ks Q (.exit id') a w):=h;by_cases hi:id' =id
  ·rw[TO hi] at h' ⊢;exact Yw ks h'
  ·rw[RW hi] at h' ⊢;exact Yw ks h'
 | .block id::ks,.normal,a,w,h=>Yw (e:=.normal) ks h
 | .block id::ks,.goto l,a,w,h=>Yw (e:=.goto l) ks h
 | .block id::ks,.ret,a,w,h=>Yw (e:=.ret) ks h
 | .block id::ks,.panic ch,a,w,h=>Yw (e:=.panic ch) ks h
 | .block id::ks,.outgrown,a,w,h=>Yw (e:=.outgrown) ks h
theorem H2{c:UV PanicEntry}{a:Act}{w:PP}:∀{ks:UV Kt},Q (.panic c) a w->Xe f P ks Q (.panic c) a w
 | [],k=>k
 | .code c::ks,k=>by show Xe f P ks Q (.panic _) a w;exact H2 k
 | .block j::ks,k=>by show Xe f P ks Q (.panic _) a w;exact H2 k
theorem Vg.pv{fn:lK}{args:UV Do}{Hs:UV HP}{m:H1 (Out ε β)}{ρ:β->Fz->Do->Prop}{Hs' :β->Fz->Do->UV HP}
  (hf:P.funcs[f]? =some fn) (hb:fn.body=some c) (hn:fn.ntmps=n) (ha:Nat.ble args.length n=true)
  (k:∀r R,GB f P c [] (Cr P penc fn F R ρ Hs' r) (Hd n [] (Db 0 args) F<|Hs++[R]) m r):Vg P penc f args.toArray F Hs m ρ Hs' :=by
 intro r hm w R hw;refine Oa hf hb<|k r R hm _ w ⟨?_,hw.mono λm hm=>K5<|QS (λ_ h=>J7 h) hm⟩;rw[hn];exact Uw ha
end
section
variable{β:Type}{f:x4}{P:RK}{c:lN}{ks:UV Kt}{Q:nN->Act->PP->Prop}{m:H1 β}{r:β}{n:Nat}{D:UV q8}{S S' :UV (Nat×Do)}{F:Fz}{hs hs' :UV HP}
theorem GB.o(s:Sub S' S)(e:hs=hs')(k:GB f P c ks Q (Hd n D S' F hs') m r):GB f P c ks Q (Hd n D S F hs) m r:=λhm a w ha=>k hm a w ⟨ha.1.sub s,e▸ha.2⟩
end
theorem fj{c:UV PanicEntry}(h:m=some r->∀a w,A a w->Q (.panic c) a w):m=some r->∀a w,A a w->Xe f P ks Q (.panic c) a w:=λhm a w ha=>H2<|h hm a w ha
def YP(penc:ε->Do)(ret:σ->oJ->Prop)(Y:σ->Fz->HP)(Z:ε->Fz->HP)(F:Fz)(R:HP)(r:Out ε σ)(e:oJ)(w:PP):Prop:=
 ∃F2,F<=F2/\match r with
  | .ok p=>ret p e/\SH w F2 (star (Y p F2) R)
  | .pan q=>e= .panicked (Ad penc q)/\SH w F2 (star (Z q F2) R)
def Tv(P:RK)(penc:ε->Do)(l:Nat)(F:Fz)(arg:α->Fz->UV Do->Prop)(Y:σ->Fz->HP)(Z:ε->Fz->HP)(y:α->σ->H1 (Out ε<|σ×Bool)):Prop:=
 (∀s F0 F1 m,F<=F0->F0<=F1->Y s F0 m->Y s F1 m)/\
 ∀F1,F<=F1->∀x vs s r,arg x F1 vs->y x s=some r->∀w R,SH w F1 (star (Y s F1) R)->
  ∃f tmps assign body,(Instr.yield l vs.toArray).run P w= .ok (.round l f tmps assign body) w/\
   RoundIn Fence.wide 0 P l f tmps assign body w (YP penc (fun(p:σ×Bool) e=>e= .returned (.bool p.2)) (λp=>Y p.1) Z F1 R r)
def fQ(P:RK)(penc:ε->Do)(f:x4)(args:Of Do)(F:Fz)(H:HP)(m:H1 (Out ε σ))(Y:σ->Fz->HP)(Z:ε->Fz->HP):Prop:=∀r,m=some r->∀w R,SH w F (star H R)->Calls P f args w (YP penc (λ_ e=>∃v,e= .returned v) Y Z F R r)
def w6(P:RK)(F:Fz)(f:x4)(caps:UV Do)(arg:α->Fz->UV Do->Prop)(mk:∀ε σ:Type,(α->σ->H1 (Out ε<|σ×Bool))->σ->H1 (Out ε σ)):Prop:=
 (∀args w,(callFunc f args).run P w= .ok (.enter f args) w)/\
 ∀(ε σ:Type) (penc:ε->Do) (l:Nat) (Y:σ->Fz->HP) (Z:ε->Fz->HP) (y:α->σ->H1 (Out ε<|σ×Bool)) (F1:Fz),F<=F1->Tv P penc l F1 arg Y Z y->∀s,fQ P penc f (.func (.yield l) #[] #[]::caps).toArray F1 (Y s F1) (mk ε σ y s) Y Z
def Gb(y:α->σ->H1 (Out ε<|σ×Bool)):UV α->σ->H1 (Out ε σ)
 | [],s=>some (.ok s)
 | x::xs,s=>Qw (y x s) (λq=>some<|.pan q) λp=>if p.2 then Gb y xs p.1 else some (.ok p.1)
def SQ(P:RK)(F:Fz)(f:x4)(caps:UV Do)(arg:α->Fz->UV Do->Prop)(l:UV α):Prop:=w6 P F f caps arg λ_ _ y s=>Gb y l s
theorem EL{y:α->σ->H1 (σ×Bool)}:∀(l:UV α) (s:σ),Gb (ε:=Empty) (λx s=>(y x s).map .ok) l s=(Uy y l s).map .ok
 | [],s=>rfl
 | x::xs,s=>by
  simp only[Gb,Uy];cases y x s with
  | none=>rfl
  | some p=>
   simp only[x7,Qw,DO];split
   ·exact EL xs p.1
   ·rfl
theorem SQ.plain{caps:UV Do}{l:UV α}(h:SQ P F f caps arg l):R1 P F f caps arg l:=by
 refine⟨h.1,λσ ly Y y F1 le hy s r hm w R hw=> ?_⟩
 have hc:=h.2 Empty σ (λq=>q.elim) ly Y (λq=>q.elim) (λx s=>(y x s).map .ok) F1 le
  ⟨hy.1,λF2 h2 x vs s r hx hr w R hw=>by
   replace hr:(y x s).map Out.ok=some r:=hr
   cases hyx:y x s with
   | none=>rw[hyx] at hr;cases hr
   | some p=>
    rw[hyx] at hr
    simp only[x7,BY] at hr
    subst hr;obtain⟨g,tmps,assign,body,h3,h4⟩:=hy.2 F2 h2 x vs s p hx hyx w R hw;exact⟨g,tmps,assign,body,h3,h4.mono λe w' ⟨F3,le3,he,h5⟩=>⟨F3,le3,he,h5⟩⟩⟩ s (.ok r) ((EL l s).trans (by rw[show Uy y l s=some r from hm];rfl)) w R hw
 exact hc.mono λe w' ⟨F3,le3,⟨v,he⟩,h5⟩=>⟨F3,v,le3,he,trivial,h5⟩
section
variable{β ε α σ:Type}{P:RK}{ops:Of x5}{rest:UV x5}{ks:UV Kt}{Q:nN->Act->PP->Prop}{r:β}{n:Nat}{D:UV q8}{S:UV (Nat×Do)}{F:Fz}{hs:UV HP}
theorem GG.rA{penc:ε->Do}{l d i:Nat}{ty:If}{pos:String}{after:Of lL}{vs:UV Do}{of:dO}{os:UV dO}{T:Of If}{Fb F0:Fz}{arg:α->Fz->UV Do->Prop}{Y:σ->Fz->HP}{Z:ε->Fz->HP}{y:α->σ->H1 (Out ε<|σ×Bool)}{x:α}{s:σ}{gp:ε->H1 β}{g:σ×Bool->H1 β}
  (hd:Nat.blt d n=true) (hy:Tv P penc l Fb arg Y Z y) (hf:QO S of=some (.func (.yield l) #[] #[])) (ha:Ub S os=some vs) (hx:arg x F vs) (hi:hs[i]? =some (Y s F0)) (le0:Fb<=F0) (le:F0<=F)
  (k:∀p F',y x s=some (.ok p)->F<=F'->GL O P ops rest ks Q (Hd n D ((d,.bool p.2)::S) F'<|hs.set i<|Y p.1 F') (g p) r)
  (kp:∀q F',F<=F'->gp q=some r->∀a w,Hd n D S F' (hs.set i<|Z q F') a w->Q (.panic<|Ad penc q) a w):GL O P ops (⟨some d,.call ⟨.value of,os.toArray,T⟩,ty,pos,after,none⟩::rest) ks Q (Hd n D S F hs) (Qw (y x s) gp g) r:=by
 intro hm a w hA;cases he:y x s with
 | none=>rw[he] at hm;cases hm
 | some p=>
  rw[he] at hm
  obtain⟨f,tmps,assign,body,hr,hround⟩:=hy.2 F (Fz.le_trans le0 le) x vs s p hx he w _<|(hA.2.pull hi).mono λ_ hm=>QQ (λ_ hm=>hy.1 s F0 F _ le0 le hm) hm;refine ga ?_;unfold Xa;rw[TO<|by simp[Region.wanted]];refine⟨.inr rfl,?_⟩;have e:=HI hA.1 ha
  have hrun:(execOp a.eval ⟨some d,.call ⟨.value of,os.toArray,T⟩,ty,pos,after,none⟩).run P w= .ok (.round l f tmps assign body) w:=by
   simp[execOp,resolve,Deferred.ofValue,hA.1.eval hf,e,invoke,hr]
  rw[hrun];refine⟨λe=>(by rw[Dv] at e;cases e),Ld.2<|hround.mono ?_⟩;rintro e w' ⟨F2,le2,hq⟩;cases p with
  | ok p=>obtain⟨rfl,hw⟩:=hq;exact k p F2 he le2 hm _ _ ⟨hA.1.put hd _,SH.push hi hw⟩
  | pan q=>obtain⟨rfl,hw⟩:=hq;exact K8<|kp q F2 le2 hm _ _ ⟨hA.1,SH.push hi hw⟩
end
def M5(b:α->τ->H1 (Out ε τ)):UV α->τ->H1 (Out ε τ)
 | [],s=>some (.ok s)
 | x::xs,s=>Qw (b x s) (λq=>some<|.pan q)<|M5 b xs
def yX(b:α->τ->H1 (Out ε τ))(x:α)(s:τ):H1 (Out ε<|τ×Bool):=Qw (b x s) (λq=>some<|.pan q) λs' =>some<|.ok (s',true)
theorem RI(b:α->τ->H1 (Out ε τ)):∀(l:UV α) (s:τ),Gb (yX b) l s=M5 b l s
 | [],s=>rfl
 | x::xs,s=>by
  simp only[Gb,yX,M5];cases b x s with
  | none=>rfl
  | some c=>
   cases c with
   | ok s' =>simpa[Qw] using RI b xs s'
   | pan q=>rfl
def yN(Fb:Fz)(l:Nat)(L:Loop)(I:τ->Fz->UV HP->Prop)(s:τ)(F:Fz):HP:=λm=>∃F0 hs,Fb<=F0/\F0<=F/\I s F0 hs/\star (pt l<|UC L) (Qi hs) m
def yZ(Fb:Fz)(l:Nat)(L:Loop)(Jp:ε->Fz->UV HP->Prop)(q:ε)(F:Fz):HP:=λm=>∃F0 hs,Fb<=F0/\F0<=F/\Jp q F0 hs/\star (pt l<|V2 L) (Qi hs) m
def gR(penc:ε->Do)(l:Nat)(L:Loop)(I:τ->Fz->UV HP->Prop)(Jp:ε->Fz->UV HP->Prop)(F1:Fz)(R:HP)(r:Out ε τ):nN->Act->PP->Prop:=λe a w=>
 match r with
 | .ok s=>e= .normal/\∃F2 hs,F1<=F2/\I s F2 hs/\SH w F2 (Qi<|pt l (V2 L)::R::hs)
 | .pan q=>e= .panic (Ad penc q)/\a.defers=[]/\∃F2 hs,F1<=F2/\Jp q F2 hs/\SH w F2 (Qi<|pt l (V2 L)::R::hs)
section
variable{ε τ:Type}{penc:ε->Do}{l:Nat}{L:Loop}{I:τ->Fz->UV HP->Prop}{Jp:ε->Fz->UV HP->Prop}{n:Nat}{S:UV (Nat×Do)}{F F1:Fz}{hs:UV HP}{R:HP}
theorem gR.norm{s:τ}{r:Out ε τ}{hs' :UV HP}(le:F1<=F)(h:I s F hs')(e:hs=pt l (V2 L)::R::hs'):some (Out.ok s)=some r->∀a w,Hd n [] S F hs a w->gR penc l L I Jp F1 R r .normal a w:=λe' a w ha=>by
 simp only[BY] at e';subst e';subst e;exact⟨rfl,F,hs',le,h,ha.2⟩
theorem gR.pan{q:ε}{r:Out ε τ}(le:F1<=F)(h:Jp q F hs')(e:hs=pt l (V2 L)::R::hs'):some (Out.pan q)=some r->∀a w,Hd n [] S F hs a w->gR penc l L I Jp F1 R r (.panic<|Ad penc q) a w:=λe' a w ha=>by
 simp only[BY] at e';subst e';subst e;exact⟨rfl,ha.1.2.1,F,hs',le,h,ha.2⟩
end
section
variable{β:Type}{P:RK}{ks:UV Kt}{Q:nN->Act->PP->Prop}{r:β}{n:Nat}{D:UV q8}{S:UV (Nat×Do)}{F:Fz}{hs:UV HP}
variable{ε α τ:Type}{penc:ε->Do}{g:dO}{ps:UV Tmp}{assign body:lN}{f f0:x4}{fn0:lK}{caps:UV Do}{arg:α->Fz->UV Do->Prop}{bm:α->τ->H1 (Out ε τ)}{s0:τ}{l:UV α}{gp:ε->H1 β}{k:τ->H1 β}
theorem GB.cz(I:τ->Fz->UV HP->Prop)(Jp:ε->Fz->UV HP->Prop)(hf:P.funcs[f0]? =some fn0)(hg:QO S g=some (.func (.func f) #[] caps.toArray))(hit:SQ P F f caps arg l)(hps:(ps.all λp=>Nat.blt p n)=true)(harg:∀x F' vs,arg x F' vs->vs.length=ps.length)
  (hI:I s0 F hs)
  (round:∀l L F0 F1 x vs s ctl R hs',F<=F0->F0<=F1->arg x F1 vs->I s F0 hs'->GC (some l) P assign [] (BP P l body<|gR penc l L I Jp F1 R ctl) (Hd n [] ((ps.zip vs).reverse++S) F1<|pt l (UC L)::R::hs') (bm x s) ctl)
  (next:∀q F0 F' s hs',F<=F0->F0<=F'->M5 bm l s0=some (.ok s)->I s F0 hs'->GE none P ks Q (Hd n (WI q::D) S F'<|pt q (.deferred<|some [])::hs') (k s) r)
  (pan:∀q F0 F' e hs',F<=F0->F0<=F'->M5 bm l s0=some (.pan e)->Jp e F0 hs'->gp e=some r->∀a w,Hd n (WI q::D) S F' (pt q (.deferred<|some [])::hs') a w->Q (.panic<|Ad penc e) a w):GB f0 P (.rangeFunc g ps.toArray assign body) ks Q (Hd n D S F hs) (Qw (M5 bm l s0) gp k) r:=by
 intro hm a w ha;cases hl:M5 bm l s0 with
 | none=>rw[hl] at hm;cases hm
 | some c=>
  rw[hl] at hm
  let L:Loop:={state:=.ready,pending:=none,fn:=f0,tmps:=a.tmps,params:=ps.toArray,assign,body,defers:=w.heap.size}
  have hw1:SH ((w.alloc<|.deferred<|some []).alloc<|.loop L) F (star (yN F (w.heap.size+1) L I s0 F)<|Qi [pt w.heap.size<|.deferred<|some []]):=by
   have h1:=(ha.2.alloc<|.deferred<|some []).alloc<|.loop L;rw[lr] at h1
   have h2:SH ((w.alloc<|.deferred<|some []).alloc<|.loop L) F (Qi<|pt (w.heap.size+1) (UC L)::Qi [pt w.heap.size<|.deferred<|some []]::hs):=by
    refine h1.mono λm hm=>QS (λm hm=>QQ (λm hm=> ?_) hm) hm;exact⟨m,λ_=>none,λ_=>.inr rfl,Mem.sub.refl _,λ_ _ e=>by simp at e,hm,trivial⟩
   exact(SH.three h2).mono λm hm=>QQ (λm hm=>⟨F,hs,Fz.le_refl _,Fz.le_refl _,hI,hm⟩) hm
  have hY:Tv P penc (w.heap.size+1) F arg (yN F (w.heap.size+1) L I) (yZ F (w.heap.size+1) L Jp) (yX bm):=by
   refine⟨λs F0 F1 m _ h1 ⟨G,hs,g0,g1,k⟩=>⟨G,hs,g0,Fz.le_trans g1 h1,k⟩,λF1 h1 x vs s r hx hy w' R hw=> ?_⟩;obtain⟨m,⟨m1,m2,d,s1,s2,⟨F0,hs1,h0,h01,hI1,hp⟩,hq⟩,hk⟩:=hw;have hw3:=SH.sQ ⟨m,⟨m1,m2,d,s1,s2,hp,hq⟩,hk⟩;have hlb:w'.heap[w.heap.size+1]? =some (UC L):=SH.bT (k:=0) rfl hw3;have hn:=harg x F1 vs hx;refine⟨L.fn,_,L.assign,L.body,run_yield (r:={L with state:=.ready,pending:=none}) hlb (by simpa[L] using hn),?_⟩;refine jQ hf ?_;cases hc:bm x s with
   | none=>unfold yX at hy;rw[hc] at hy;cases hy
   | some ctl=>
    have hg1:=round (w.heap.size+1) L F0 F1 x vs s ctl R hs1 h0 h01 hx hI1 hc _ w' ⟨Di hps ⟨ha.1.1,rfl,ha.1.2.2⟩,hw3⟩;refine eC hg1 λe a1 w1 hq=> ?_;obtain⟨rfl,w2,hbr,hbody⟩:=hq;refine⟨w2,hbr,eC hbody λe a2 w3 hq=> ?_⟩;unfold yX at hy
    rw[hc] at hy
    cases ctl with
    | ok s' =>
     simp only[Qw,BY] at hy
     subst hy;obtain⟨rfl,F2,hs2,le,hI2,h⟩:=hq;refine⟨_,_,IM<|SH.bT (k:=0) rfl h,F2,le,rfl,(SH.three<|SH.putAt (k:=0) rfl h<|UC L).mono λm hm=>QQ (λm hm=> ?_) hm⟩;exact⟨F2,hs2,Fz.le_trans h1 le,Fz.le_refl _,hI2,hm⟩
    | pan q=>
     simp only[Qw,BY] at hy
     subst hy;obtain⟨rfl,hd,F2,hs2,le,hI2,h⟩:=hq;exact⟨hd,F2,le,rfl,(SH.three h).mono λm hm=>QQ (λm hm=>⟨F2,hs2,Fz.le_trans h1 le,Fz.le_refl _,hI2,hm⟩) hm⟩
  have hc:=hit.2 _ _ penc _ _ _ _ F (Fz.le_refl F) hY s0 c (by show Gb _ _ _=_;rw[RI,hl]) _ _ hw1;refine Ml ⟨w.heap.size+1,[WI w.heap.size],(w.alloc<|.deferred<|some []).alloc<|.loop L,⟨.fn (.func f) caps.toArray,#[.func (.yield<|w.heap.size+1) #[] #[]]⟩,(w.alloc<|.deferred<|some []).alloc<|.loop L,f,(.func (.yield<|w.heap.size+1) #[] #[]::caps).toArray,(w.alloc<|.deferred<|some []).alloc<|.loop L,lW f0 a.tmps ps.toArray assign body,?_,?_,?_⟩
  ·have hc0:a.eval (.const<|.func (.yield<|w.heap.size+1) #[] #[])= .func (.yield<|w.heap.size+1) #[] #[]:=rfl;simp[resolve,Deferred.ofValue,ha.1.eval hg,hc0]
  ·simp[invoke,hit.1]
  ·refine hc.mono ?_;rintro e w' ⟨F',le,hq⟩;cases c with
   | ok s=>
    obtain⟨⟨v,rfl⟩,m,⟨m1,m2,d,s1,s2,⟨F0,hs',h0,h1,hI',hp⟩,hq⟩,hk⟩:=hq;have h3:=SH.sQ ⟨m,⟨m1,m2,d,s1,s2,hp,hq⟩,hk⟩;refine⟨none,_,Dj<|SH.bT (k:=0) rfl h3,?_⟩;have h4:SH _ F' (Qi<|pt w.heap.size (.deferred<|some [])::hs'):=(SH.bp 0<|SH.putAt (k:=0) rfl h3<|TU L none).mono λm hm=>QQ (λm hm=>by obtain⟨m1,_,_,s1,_,hp,_⟩:=hm;exact s1 _ _ hp) hm;exact Yw ks (next w.heap.size F0 F' s hs' h0 h1 hl hI' hm _ _ ⟨⟨ha.1.1,by simp[ha.1.2.1],ha.1.2.2⟩,h4⟩)
   | pan q=>
    obtain⟨rfl,m,⟨m1,m2,d,s1,s2,⟨F0,hs',h0,h1,hI',hp⟩,hq⟩,hk⟩:=hq;have h3:=SH.sQ ⟨m,⟨m1,m2,d,s1,s2,hp,hq⟩,hk⟩;have h4:SH _ F' (Qi<|pt w.heap.size (.deferred<|some [])::hs'):=(SH.bp 0 h3).mono λm hm=>QQ (λm hm=>by obtain⟨m1,_,_,s1,_,hp,_⟩:=hm;exact s1 _ _ hp) hm;exact H2<|pan w.heap.size F0 F' q hs' h0 h1 hl hI' hm _ _ ⟨⟨ha.1.1,by simp[ha.1.2.1],ha.1.2.2⟩,h4⟩
end
def OO(P:RK)(penc:ε->Do)(fn:lK)(F:Fz)(R:HP)(Y:σ->Fz->HP)(Z:ε->Fz->HP)(r:Out ε σ):nN->Act->PP->Prop:=bodyPost P fn<|YP penc (λ_ e=>∃v,e= .returned v) Y Z F R r
section
variable{ε σ:Type}{P:RK}{penc:ε->Do}{fn:lK}{n:Nat}{S:UV (Nat×Do)}{F F' :Fz}{hs:UV HP}{R:HP}{Y:σ->Fz->HP}{Z:ε->Fz->HP}{x:σ}{r:Out ε σ}{rs:UV ResultVar}{vs:UV Do}
theorem fQ.enter{args:UV Do}{H:HP}{m:H1 (Out ε σ)}(hf:P.funcs[f]? =some fn)(hb:fn.body=some c)(hn:fn.ntmps=n)(ha:Nat.ble args.length n=true)
  (k:∀r R,GC none P c [] (OO P penc fn F R Y Z r) (Hd n [] (Db 0 args) F [H,R]) m r):fQ P penc f args.toArray F H m Y Z:=by
 intro r hm w R hw;refine eO hf hb<|oE.1<|k r R hm _ w ⟨?_,hw.mono λm hm=>QS (λ_ h=>J7 h) hm⟩;rw[hn];exact Uw ha
theorem Lg(hr:fn.results=rs.toArray)(h:SP P S F' [Y x F',R] rs vs)(le:F<=F'):some (Out.ok x)=some r->∀a w,Hd n [] S F' [Y x F',R] a w->OO P penc fn F R Y Z r .ret a w:=by
 intro e a w ha;simp only[BY] at e
 subst e;exact⟨ha.1.2.1,_,Jd hr ha h,F',le,⟨_,rfl⟩,ha.2.an (i:=0) (j:=0) rfl rfl⟩
theorem jW{q:ε}(le:F<=F'):some (Out.pan q)=some r->∀a w,Hd n [] S F' [Z q F',R] a w->OO P penc fn F R Y Z r (.panic<|Ad penc q) a w:=by
 intro e a w ha;simp only[BY] at e
 subst e;exact⟨ha.1.2.1,F',le,rfl,ha.2.an (i:=0) (j:=0) rfl rfl⟩
theorem Qz.pan{γ:Type}{I:σ->Act->PP->Prop}{Dn:γ->nN->Act->PP->Prop}{b:γ}{ctl:UK σ γ}{c:UV PanicEntry}(h:∀a w,A a w->Dn b (.panic c) a w):some (UK.done b)=some ctl->∀a w,A a w->Qz I Dn ctl (.panic c) a w:=λe a w ha=>by
 simp only[BY] at e;subst e;exact⟨by simp,h a w ha⟩
end
end
section
theorem KH.rP{α β β' :Type}{P:RK}{f:x4}{args:Of Do}{F0:Fz}{m:H1 β}{ρ:β'->Fz->Do->Prop}{C:Nat->Fz->Nat->α->HP}{Hs' :Nat->β->Fz->UV HP}{g:β->β'}
  (h:∀γ F,F0<=F->HN P f args F [ZB γ (C γ) F []] m (λr F v=>ρ (g r) F v) (Hs' γ)):KH P f args F0 (m.map g) ρ:=by
 intro r hm w R hw;obtain⟨x,hx,rfl⟩:=mI.1 hm;obtain⟨le,h1⟩:=hw.cS;have h2:SH w F0.tG (star (Qi [ZB F0.gn (C F0.gn) F0.tG []]) R):=h1.mono λm hm=>QQ (λm hm=>J7 ⟨[],rfl,m,λ_=>none,λ_=>.inr rfl,Mem.sub.refl _,λ_ _ e=>by simp at e,hm,trivial⟩) hm;exact(h _ _ le x hx w R h2).mono λe w' ⟨F',v,l,e,hρ,h3⟩=>⟨F',v,Fz.le_trans le l,e,hρ,h3.drop⟩
theorem SO.string{H:Type}{enc:If×Do->H}{P:RK}{W:PP}{t:If}(ht:P.underlying t=some .string):SO enc P W t (Ex S5) (λm=>m.length<=maxLen):=by
 intro sp held fuel cs x h;obtain⟨s,rfl,_,hs⟩:=DataW.trod_string ht h;refine⟨s.data.toList,(by show s.data.toList.length<=maxLen;rw[lZ];exact hs),λ_ _=> ?_⟩;show[Value.string s]=[.string ⟨s.data.toList.toArray⟩];rw[Array.toArray_toList]
end
section
open Go.ChangeShapes Go.WideShapes Go.ChangeAt Go.RowKit
variable{t:If}
section
variable{H:Type}{enc:If×Do->H}{P:RK}{W:PP}
theorem wc{b0:Nat}{e:If}{v:Do}{d:DataW H}{ps:UV MemPlace}(ht:P.underlying t=some (.slice e))(he:P.underlying e=some .string)(hc:P.cellsOf e=1)
  (hk:Value.okWide P W .any b0 t v) (hd:DataW.Trod enc P W 0 (λ_=>true) true t v d ps) (hw:(d.weights P t).all (·<=reachBytes)=true):∃m p k,(∀x∈m,x.length<=140737488351232)/\v= .slice p m.length k/\QI 1 (Ex S5) (FW W) p k m:=by
 obtain⟨m,p,k,_,hv,hr⟩:=uH ht (SO.slice ht hc (by decide)<|SO.string he) hk hd;refine⟨m,p,k,λx hx=> ?_,hv,hr⟩;obtain⟨fuel,hf⟩:=hd;obtain⟨i,hi,rfl⟩:=mT hx;have hcv:v.cells.toList=[v]:=by rw[hv];rfl
 rw[hcv] at hf
 rcases open_strings ht he hc hf with⟨hcs,_⟩ | ⟨a,len,cap,ss,hcs,_,hl,_,hz,hx',hcell,_⟩
 ·rw[hv] at hcs
  simp only[mv,ia,and_true] at hcs
  omega
 ·rw[hv] at hcs
  simp only[mv,ia,and_true] at hcs
  obtain⟨hp,hlen,_⟩:=hcs;have his:i < ss.length:=by split at hz<;>omega
  rcases hr.2.2 with h0 | ⟨b,o,cs,T,fr,hp',hmem,hel⟩
  ·rw[h0] at hi;simp at hi
  ·rw[hp] at hp'
   simp only[BY] at hp'
   subst hp';have h1:=hel i m[i] (Nm hi) _<|Fz.le_refl _;have h1:(cs.toList.drop<|o+i*1).take 1=[.string<|bs m[i]]:=h1;have h2:=hcell i his;rw[addr_add] at h2
   obtain⟨_,cs',T',fr',hb',hc'⟩:=kc h2;have hm' :W.heap[b]? =some (.cells cs T fr):=hmem;rw[hm'] at hb'
   simp only[BY,Obj.cells.injEq] at hb'
   obtain⟨rfl,_⟩:=hb'
   have h3:cs.toList[o+i]? =some (.string<|bs m[i]):=by
    have:=congrArg List.head? h1;rw[eR,List.head?_take] at this
    simpa[oe] using this
   rw[Array.getElem?_toList,hc'] at h3
   simp only[BY,Value.string.injEq] at h3
   have hlt:(ss.getD i ByteArray.empty)=ss[i]:=by simp[his]
   rw[hlt] at h3
   simp only[bY] at hx'
   rw[hx'.1] at hw
   simp only[DataW.weights,ht,nZ,mV,AT] at hw
   have hq:=hw.2.1
   have hall:∀(l:UV ByteArray),(DataW.weightsAll P e<|strs (H:=H) l).all (·<=reachBytes)=true->∀s∈l,s.data.toList.length<=reachBytes:=by
    intro l
    induction l with
    | nil=>intro _ s hs;cases hs
    | cons s l ih=>
     intro h q hq;simp only[strs,s4,DataW.weightsAll,DataW.weights,mQ,mN,nZ,AT,IR] at h
     rcases j9.1 hq with rfl | hq
     ·exact h.1
     ·exact ih h.2 q hq
   have h4:=hall _ hq ss[i] (by rw[List.mem_take_iff_getElem];exact⟨i,by omega,rfl⟩);rw[h3] at h4
   have h5:(bs m[i]).data.toList=m[i]:=rfl;rw[h5] at h4
   exact h4
theorem TC{ts:UV If}{d:DataW H}{ds:UV (DataW H)}{p:Nat->Bool}(h:(DataW.weightsEach P (t::ts)<|d::ds).all p=true):(d.weights P t).all p=true:=by
 rw[DataW.weightsEach,mV,AT] at h
 exact h.1
theorem TB{ts:UV If}{d:DataW H}{ds:UV (DataW H)}{p:Nat->Bool}(h:(DataW.weightsEach P (t::ts)<|d::ds).all p=true):(DataW.weightsEach P ts ds).all p=true:=by
 rw[DataW.weightsEach,mV,AT] at h
 exact h.2
theorem zP{C:Checked}{os:Os}{f:x4}{fn:lK}{s:ChangeSpec}{conds:UV PathCond}{apart fresh handsOn again:Bool}{X:PP->Prop}
  (hX:∀(w w' :PP),w.heap=w'.heap->X w->X w') (own:ownKnob C.prog.godebug=none) (started:os.Started) (noInit:C.prog.inits.idxOf? f=none) (hfn:C.prog.funcs[f]? =some fn)
  (witness:∃(w:PP) (tape:Tape) (i:Input),w.os=os/\(w.forCall tape i).Shaped C.prog/\i.vars=[]/\Input.okWide C.prog (w.forCall tape i) .any w.heap.size f i/\
   ((s.pre enc C.prog fn conds apart (w.forCall tape i).memory i.args/\X (w.forCall tape i).memory)/\sizedMet enc C.prog fn (OpenSpec.ofChange s) apart (w.forCall tape i).memory i.args)/\({}:Assume).holds C.prog (lone (Frame.enter C.prog f i.args .normal) []<|w.forCall tape i))
  (contract:∀(W:PP) (base:Nat) (args:Of Do) (ds gs:UV (DataW H)) (before:UV MemPlace),(∀(j:Nat) t v,fn.params[j]? =some t->args[j]? =some v->Value.okWide C.prog W .any base t v)->
   DataW.Whole enc C.prog fn.params.toList s.vars apart W args.toList ds gs before->W.ShapedOpen C.prog->X W->sizedMet enc C.prog fn (OpenSpec.ofChange s) apart W args->
   Calls C.prog f args W λe W' =>∃v,e= .returned v/\s.post enc C.prog fn apart fresh handsOn again W args v W'):ReturnsInHanded {} C os f .any (λw args=>(s.pre enc C.prog fn conds apart w args/\X w)/\sizedMet enc C.prog fn (OpenSpec.ofChange s) apart w args) (s.post enc C.prog fn apart fresh handsOn again):=by
 refine returnsInHanded_of_calls own started noInit witness ?_;intro w tape i _ hsh _ hok hpre _;obtain⟨_,_,_,fn',hfn',_,_,_,_,hval⟩:=hok;have e:fn' =fn:=y1<|hfn'.symm.trans hfn;subst e;obtain⟨⟨⟨ds,gs,before,hw,hc⟩,hx⟩,hz⟩:=hpre;refine(contract (w.forCall tape i) w.heap.size i.args ds gs before hval (DataW.Whole.of_heap (w' :=w.forCall tape i) (by rfl) hw) hsh (hX _ _ (by rfl) hx)<|hz.of_heap<|by rfl).mono λe W' ⟨v,he,hp⟩=> ?_;subst he;exact ChangeSpec.post_blind hp
theorem M2{f:x4}{fn:lK}{s:ChangeSpec}{tb:If}{fresh:Bool}(hP:laidOutB P=true)(hread:(fn.params.toList.all λt=>P.readableRec t&&decide (t < P.types.size))=true)
  (hvars:s.vars=[]) (hvt:(OpenSpec.ofChange s).bare.plain.varTypes P=[]) (hrT:fn.resultTypes=#[tb]) (htb:P.underlying tb=some .bool)
  (hspec:∀ds:UV (DataW H),ds.length=fn.params.toList.length->s.fn H ds={results:=[.lit<|.bool true],args:=ds})
  (base:Nat) (args:Of Do) (ds gs:UV (DataW H)) (before:UV MemPlace)
  (hcall:∀(ps:UV MemPlace),(∀(j:Nat) t v,fn.params[j]? =some t->args[j]? =some v->Value.okWide P W .any base t v)->
   DataW.TrodAll enc P W 0 (λ_=>true) true fn.params.toList args.toList ds ps->(DataW.weightsEach P fn.params.toList ds).all (·<=reachBytes)=true->KH P f args (FW W) (some true) (λr _ v=>v= .bool r))
  (hval:∀(j:Nat) t v,fn.params[j]? =some t->args[j]? =some v->Value.okWide P W .any base t v)
  (hW:DataW.Whole enc P fn.params.toList s.vars false W args.toList ds gs before) (hz:sizedMet enc P fn (OpenSpec.ofChange s) false W args):Calls P f args W λe W' =>∃v,e= .returned v/\s.post enc P fn false fresh false false W args v W' :=by
 have hs:=hz.weights hW;have hW' :=hW;obtain⟨p,q,hA,hV,rfl,hzz,hn⟩:=hW;rw[hvars] at hV
 obtain⟨rfl,rfl⟩:=trodVars_none hV;rw[hvt,np,np] at hs
 refine(hcall p hval hA hs true rfl W AO<|SH.start W).mono λe W' ⟨F',v,le,he,hv,hs⟩=>⟨v,he,?_⟩;subst hv;have hb:=uG le hs;have hlt:∀x∈p,x.block < W.heap.size:=λx hx=>hW'.lt x<|by simp[hx]
 have hsp:s.fn H (ds++[])={results:=[.lit<|.bool true],args:=ds}:=by
  rw[np];exact hspec ds<|P2 hA
 refine⟨ds,[],p++[],[],p,[],hW',?_,?_,?_,hb.frame _,λh=>by cases h⟩
 ·rw[hsp,hrT];exact trodAll_mk1<|shut_bool htb true
 ·rw[hsp];exact S9 hP hb hread hA hlt
 ·rw[hsp,hvars];rfl
end
end
section
abbrev xo:BinOp->nm->Int->Int->H1 Do
 | .add,k,a,b=>some (.int k<|k.wrap<|a+b)
 | .sub,k,a,b=>some (.int k<|k.wrap<|a - b)
 | .mul,k,a,b=>some (.int k<|k.wrap<|a*b)
 | .eql,_,a,b=>some (.bool<|a==b)
 | .neq,_,a,b=>some (.bool<|a != b)
 | .lss,_,a,b=>some (.bool<|decide<|a < b)
 | .leq,_,a,b=>some (.bool<|decide<|a<=b)
 | .gtr,_,a,b=>some (.bool<|decide<|a > b)
 | .geq,_,a,b=>some (.bool<|decide<|a≥b)
 | _,_,_,_=>none
abbrev yj(S:UV (Nat×Do)):Op->(Do->Prop)->Prop
 | .move x,K=>match QO S x with | some v=>K v | none=>False
 | .assign x,K=>match QO S x with | some v=>K v | none=>False
 | .extract x i,K=>match QO S x with
  | some (.tuple vs)=>match vs[i]? with | some v=>K v | none=>False
  | _=>False
 | .nilCheck x,K=>match QO S x with
  | some (.pointer<|some p)=>K (.pointer<|some p)
  | _=>False
 | .unOp .not _ x,K=>match QO S x with
  | some (.bool b)=>K (.bool<|!b)
  | _=>False
 | .binOp o _ x y _,K=>match QO S x,QO S y with
  | some (.int k a),some (.int k' b)=>match decEq k' k,xo o k a b with
   | .isTrue _,some v=>K v
   | _,_=>False
  | _,_=>False
 | _,_=>False
abbrev run(n:Nat):Nat->Pt->UV (Nat×Do)->(Pt->UV (Nat×Do)->Prop)->Prop
 | 0,p,S,K=>K p S
 | k+1,.L ops l ks,S,K=>match l with
  | []=>run n k (.E ks) S K
  | ⟨some d,op,_,_,_,none⟩::l=>match Nat.blt d n with
   | true=>yj S op λv=>run n k (.L ops l ks) ((d,v)::S) K
   | false=>False
  | _=>False
 | k+1,.C c ks,S,K=>match c with
  | .seq x y=>run n k (.C x<|.code y::ks) S K
  | .block id c=>run n k (.C c<|.block id::ks) S K
  | .region _ a false=>run n k (.L a a.toList ks) S K
  | .skip=>run n k (.E ks) S K
  | _=>False
 | k+1,.E ks,S,K=>match ks with
  | .code c::ks=>run n k (.C c ks) S K
  | .block _::ks=>run n k (.E ks) S K
  | []=>False
section
variable{O:H1 Nat}{μ:Md}{β:Type}{P:RK}{ops:Of x5}{l rest:UV x5}{ks:UV Kt}{Q:nN->Act->PP->Prop}{m:H1 β}{r:β}
variable{n:Nat}{D:UV q8}{S:UV (Nat×Do)}{F:Fz}{hs:UV HP}
theorem wI{d:Nat}{ty t t' :If}{pos:String}{after:Of lL}{o:BinOp}{x y:dO}{k:nm}{a b:Int}{v:Do}{A:Act}{w:PP}(ha:Sl n D S A)(hx:QO S x=some (.int k a))(hy:QO S y=some (.int k b))(hv:xo o k a b=some v):(execOp A.eval ⟨some d,.binOp o t x y t',ty,pos,after,none⟩).run P w= .ok (.value v) w:=by
 unfold xo at hv
 split at hv
 all_goals first | (cases hv;done) | (simp only[BY] at hv;subst hv;simp[execOp,ha.eval hx,ha.eval hy,eqGuard,binOp,Op.intArith,Op.intCmp])
theorem O0{op:Op}{K:Do->Prop}(h:yj S op K):∃v,K v/\HS op=true/\∀(d:Nat) (ty:If) (pos:String) (after:Of lL) (A:Act) (w:PP),Hd n D S F hs A w->(execOp A.eval ⟨some d,op,ty,pos,after,none⟩).run P w= .ok (.value v) w:=by
 unfold yj at h
 split at h
 ·split at h
  ·rename_i e;exact⟨_,h,rfl,λ_ _ _ _ A w ha=>by simp[execOp,ha.1.eval e]⟩
  ·exact h.elim
 ·split at h
  ·rename_i e;exact⟨_,h,rfl,λ_ _ _ _ A w ha=>by simp[execOp,ha.1.eval e]⟩
  ·exact h.elim
 ·split at h
  ·rename_i e;split at h
   ·rename_i e';exact⟨_,h,rfl,λ_ _ _ _ A w ha=>by simp[execOp,ha.1.eval e,Instr.extract,e']⟩
   ·exact h.elim
  ·exact h.elim
 ·split at h
  ·rename_i e;exact⟨_,h,rfl,λ_ _ _ _ A w ha=>by simp[execOp,ha.1.eval e]⟩
  ·exact h.elim
 ·split at h
  ·rename_i e;exact⟨_,h,rfl,λ_ _ _ _ A w ha=>by simp[execOp,ha.1.eval e,Op.unary]⟩
  ·exact h.elim
 ·split at h
  ·rename_i e e';split at h
   ·rename_i hk q _ ev;subst hk;exact⟨_,h,rfl,λ_ _ _ _ A w ha=>wI ha.1 e e' ev⟩
   ·exact h.elim
  ·exact h.elim
 ·exact h.elim
theorem yc:∀{l:UV x5} {a:Act} {w:PP},wpS P ops w (λa=>Q .normal a w) l a->Xa none P ops Q l a w
 | [],_,_,h=>h
 | o::l,a,w,h=>by
  unfold wpS at h
  unfold Xa;split
  ·rename_i hw;rw[TO hw] at h
   obtain⟨v,h1,h2⟩:=h;refine⟨.inl rfl,?_⟩;rw[h1];exact yc h2
  ·rename_i hw;rw[RW hw] at h
   exact yc h
theorem Xo:∀(k:Nat) (p:Pt) (S:UV (Nat×Do)),run n k p S (λp S=>GG ⟨μ,P,Q,p⟩ (Hd n D S F hs) m r)->GG ⟨μ,P,Q,p⟩ (Hd n D S F hs) m r
 | 0,_,_,h=>h
 | k+1,.L ops l ks,S,h=>by
  unfold run at h
  split at h
  ·have h:=Xo k (.E ks) S h;cases μ<;>exact h
  ·split at h
   ·rename_i hd;obtain⟨v,hv,hn,he⟩:=O0 h;exact GG.val hd (he _ _ _ _) (Xo k (.L ops _ ks) _ hv) hn
   ·exact h.elim
  ·exact h.elim
 | k+1,.C c ks,S,h=>by
  unfold run at h
  split at h
  ·exact λhm a w ha=>wpIn_seq<|Xo k (.C _ _) S h hm a w ha
  ·exact λhm a w ha=>wpIn_block<|Xo k (.C _ _) S h hm a w ha
  ·rename_i a;obtain⟨l⟩:=a;have h:=Xo k (.L _ _ ks) S h;cases μ with
   | s=>exact λhm a w ha=>wpIn_region_lit (yc<|h hm a w ha).wpIn
   | f=>exact GG.region h
  ·exact λhm a w ha=>wpIn_skip<|Xo k (.E ks) S h hm a w ha
  ·exact h.elim
 | k+1,.E ks,S,h=>by
  unfold run at h
  split at h
  ·exact Xo k (.C _ _) S h
  ·exact λhm a w ha=>Xo k (.E _) S h hm a w ha
  ·exact h.elim
theorem GG.w{p:Pt}(k:Nat)(h:run n k p S λp S=>GG ⟨μ,P,Q,p⟩ (Hd n D S F hs) m r):GG ⟨μ,P,Q,p⟩ (Hd n D S F hs) m r:=Xo k p S h
theorem GG.s1{p:Pt}(h:run n 1 p S λp S=>GG ⟨μ,P,Q,p⟩ (Hd n D S F hs) m r):GG ⟨μ,P,Q,p⟩ (Hd n D S F hs) m r:=Xo 1 p S h
end
abbrev GG.n:= @GG.s1
abbrev GG.c:= @GG.s1
abbrev GG.q:= @GG.s1
abbrev GG.g:= @GG.s1
abbrev GG.k:= @GG.s1
abbrev GG.block:= @GG.s1
abbrev GG.nil:= @GG.s1
end
section
variable{O:H1 Nat}{μ:Md}{β:Type}{P:RK}{n:Nat}{D:UV q8}{S0 Si:UV (Nat×Do)}{F:Fz}
variable{ops:Of x5}{l:UV x5}{X:Env->UV Wv}{C:(Nat->Bool)->Env->UV HP}{k:Nat}{o:x5}{os:UV x5}
theorem GV.B(h:∀{L:Nat->Bool} {env:Env} {F' :Fz} {_:F<=F'},GL O P ops [o] [] (Gu n D l X C L env F' k o.dst<|Fh l k S0 (X env) 0) (Hd n D (Fh l k S0 (X env) 0) F'<|C L env) (some ()) ())(t:GV O P ops l n D S0 F X C (k+1) os):GV O P ops l n D S0 F X C k (o::os):=GV.b (λL env F' le=> @h L env F' le) t
theorem GG.fv{d:Nat}{v:Do}{F' :Fz}{L:Nat->Bool}{env:Env}{i:Nat}{x:β}(h:((X env)[i]?,C (Kk L i) env)=(some (v,λ_=>True),C L env)):GL O P ops [] [] (Gu n D l X C L env F' i (some d) Si) (Hd n D ((d,v)::Si) F'<|C L env) (some x) x:=by
 simp only[bY] at h
 exact GG.cI h.1 h.2<|Fz.le_refl _
abbrev xB(n:Nat)(l:UV x5)(S0:UV (Nat×Do))(X:Env->UV Wv)(C:(Nat->Bool)->Env->UV HP)(L:Nat->Bool)(env:Env):Nat->UV x5->Nat->Prop
 | _,_,0=>(0:Nat)=0
 | k,os,c+1=>match os with
  | ⟨some d,op,_,_,_,none⟩::os=>match Nat.blt d n with
   | true=>yj (Fh l k S0 (X env) 0) op (λv=>((X env)[k]?,C (Kk L k) env)=(some (v,λ_=>True),C L env))/\xB n l S0 X C L env (k+1) os c
   | false=>False
  | _=>False
def wU:Env:=⟨λ_=>none,λ_=>0,λ_=>[],λ_=>{mem:=λ_=>none,os:=default,tape:=λ_ _=>0,out:=#[]},λ_=>none⟩
theorem GV.V:∀(c:Nat) {k:Nat} {os:UV x5},(∀L env,xB n l S0 X C L env k os c)->GV O P ops l n D S0 F X C (k+c) (os.drop c)->GV O P ops l n D S0 F X C k os
 | 0,_,_,_,t=>t
 | c+1,k,os,h,t=>by
  have h0:=h λ_=>false
  match os with
  | []=>exact absurd (h0 wU) (by unfold xB;exact id)
  | ⟨none,_,_,_,_,_⟩::os=>exact absurd (h0 wU) (by unfold xB;exact id)
  | ⟨some d,_,_,_,_,some _⟩::os=>exact absurd (h0 wU) (by unfold xB;exact id)
  | ⟨some d,op,ty,pos,after,none⟩::os=>
   have hd:Nat.blt d n=true:=by
    cases hd:Nat.blt d n with
    | true=>rfl
    | false=>have:=h0 wU;unfold xB at this;simp only[hd] at this
   have h' :∀L env,yj (Fh l k S0 (X env) 0) op (λv=>((X env)[k]?,C (Kk L k) env)=(some (v,λ_=>True),C L env))/\xB n l S0 X C L env (k+1) os c:=λL env=>by
    have:=h L env;unfold xB at this
    simpa only[hd] using this
   refine GV.b (λL env F' _=> ?_) (GV.V c (λL env=>(h' L env).2) (by rw[show k+1+c=k+(c+1) by omega];exact t));obtain⟨v,hv,hn,he⟩:=O0 (n:=n) (D:=D) (F:=F') (hs:=C L env) (P:=P) (h' L env).1;exact GG.val hd (he _ _ _ _) (GG.fv hv) hn
end
section
variable{b:Bool}
def zI(n:Nat)(ops:Of x5)(c:Bool)(S0:UV (Nat×Do)):UV x5->UV (Nat×Do)->H1 (UV Do×Nat×Do)
 | [],_=>none
 | ⟨some d,_,_,_,_,some (j,w)⟩::l,S=>match(ops[j]?).bind (·.dst) with
  | none=>none
  | some t=>match K4 S t,Nat.blt d n&&(w== !c)&&(K4 S0 d).isNone with
   | some g,true=>(zI n ops c S0 l<|(d,undef)::S).map λr=>(g::r.1,r.2)
   | _,_=>none
 | [⟨some d,.pick oz ox oy,_,_,_,none⟩],S=>match QO S oz,QO S<|if c then ox else oy,Nat.blt d n&&(K4 S0 d).isNone with
  | some z,some v,true=>some ([z],d,v)
  | _,_,_=>none
 | _,_=>none
section
variable{μ:Md}{β:Type}{P:RK}{ops:Of x5}{l:UV x5}{ks:UV Kt}{Q:nN->Act->PP->Prop}{m:H1 β}{r:β}
variable{n:Nat}{D:UV q8}{S S0:UV (Nat×Do)}{F F' :Fz}{hs:UV HP}
theorem z7{d:Nat}{v:Do}(h:Sub S0 S)(hd:(K4 S0 d).isNone=true):Sub S0 ((d,v)::S):=λi u e=>by
 have hi:i≠d:=by rintro rfl;rw[e] at hd;cases hd
 have:=h i u e;have hb:Nat.beq d i=false:=Bool.eq_false_iff.2 λe=>hi (rW e).symm;simp only[K4,hb];exact this
theorem Rq{c:Bool}:∀(l:UV x5) (S:UV (Nat×Do)) {gs:UV Do} {d:Nat} {v:Do},Sub S0 S->zI n ops c S0 l S=some (gs,d,v)->(∀g∈gs,g= .bool c)->GL μ P ops l [] (Vl n D d v S0 F hs) (Hd n D S F hs) (some ()) ():=by
 intro l
 induction l with
 | nil=>intro S gs d v _ h;cases h
 | cons o l ih=>
  intro S gs d v hS h hg;unfold zI at h
  split at h
  ·cases h
  ·rename_i d1 op ty pos after j w l1 S1 e;simp only[mv] at e
   obtain⟨rfl,rfl⟩:=e;split at h
   ·cases h
   ·rename_i t ht;split at h
    ·rename_i g hl hb;simp only[AT,mB] at hb
     obtain⟨⟨h1,h2⟩,h3⟩:=hb;obtain⟨q,hq,he⟩:=mI.1 h;obtain⟨q1,q2,q3⟩:=q;simp only[bY] at he
     obtain⟨rfl,rfl,rfl⟩:=he;have hgc:g= .bool c:=hg g (by simp);subst hgc;refine GG.bJ (b:=c) (by rw[h2];cases c<;>rfl) h1 ht hl<|ih _ (z7 hS h3) hq λx hx=>hg x<|by simp[hx]
    ·cases h
  ·rename_i S1 l1 S2 d1 oz ox oy ty pos after e;simp only[mv] at e
   obtain⟨rfl,rfl⟩:=e;split at h
   ·rename_i z u hz hx hb;simp only[AT] at hb
    simp only[BY,bY] at h
    obtain⟨rfl,rfl,rfl⟩:=h;have hgc:z= .bool c:=hg z (by simp);subst hgc;have fin:GL μ P ops [] [] (Vl n D d1 u S0 F hs) (Hd n D ((d1,u)::S1) F hs) (some ()) ():=λ_ _ _ ha=>Ef ⟨rfl,F,Fz.le_refl _,ha.1.sub (Sub.cons (by simp[K4])<|z7 hS hb.2),ha.2⟩;cases c with
    | true=>exact GG.dv rfl hb.1 hz hx fin
    | false=>exact GG.bQ rfl hb.1 hz hx fin
   ·cases h
  ·cases h
theorem Rz{k:Nat}{c:Bool}(hb:b=c):∀g∈List.replicate k (Value.bool b),g= .bool c:=λg hg=>by rw[List.eq_of_mem_replicate hg,hb]
theorem GG.bd{b':Bool}(k d:Nat)(h2:zI n ops false S (l.take k) S=some (List.replicate k<|.bool b,d,.bool false))
  (h1:b=true->GL μ P ops (l.take k) [] (Vl n D d (.bool b') S F hs) (Hd n D S F hs) (some ()) ())
  (next:∀F',F<=F'->GL μ P ops (l.drop k) ks Q (Hd n D ((d,.bool<|b&&b')::S) F' hs) m r):GL μ P ops l ks Q (Hd n D S F hs) m r:=
 GG.pO k d h1 (λhb=>Rq _ _ (Sub.refl S) h2<|Rz hb) next
theorem GG.pa{b':Bool}(k d:Nat)(h2:zI n ops true S (l.take k) S=some (List.replicate k<|.bool b,d,.bool true))
  (h1:b=false->GL μ P ops (l.take k) [] (Vl n D d (.bool b') S F hs) (Hd n D S F hs) (some ()) ())
  (next:∀F',F<=F'->GL μ P ops (l.drop k) ks Q (Hd n D ((d,.bool<|b||b')::S) F' hs) m r):GL μ P ops l ks Q (Hd n D S F hs) m r:=
 GG.rO k d h1 (λhb=>Rq _ _ (Sub.refl S) h2<|Rz hb) next
theorem GG.sL{m1:H1 Bool}{f:Bool->H1 β}(k d:Nat)(h2:zI n ops false S (l.take k) S=some (List.replicate k<|.bool b,d,.bool false))
  (h1:b=true->∀z,GL μ P ops (l.take k) [] (Vl n D d (.bool z) S F hs) (Hd n D S F hs) m1 z)
  (next:∀z F',F<=F'->GL μ P ops (l.drop k) ks Q (Hd n D ((d,.bool z)::S) F' hs) (f z) r):GL μ P ops l ks Q (Hd n D S F hs) ((if b then m1 else some false).bind f) r:=
 GG.andM k d h1 (λhb=>Rq _ _ (Sub.refl S) h2<|Rz hb) next
theorem GG.pR{m1:H1 Bool}{f:Bool->H1 β}(k d:Nat)(h2:zI n ops true S (l.take k) S=some (List.replicate k<|.bool b,d,.bool true))
  (h1:b=false->∀z,GL μ P ops (l.take k) [] (Vl n D d (.bool z) S F hs) (Hd n D S F hs) m1 z)
  (next:∀z F',F<=F'->GL μ P ops (l.drop k) ks Q (Hd n D ((d,.bool z)::S) F' hs) (f z) r):GL μ P ops l ks Q (Hd n D S F hs) ((if b then some true else m1).bind f) r:=
 GG.orM k d h1 (λhb=>Rq _ _ (Sub.refl S) h2<|Rz hb) next
theorem GG.fi{S' :UV (Nat×Do)}{d:Nat}{v:Do}{x:β}(le:F<=F')(h:(K4 S' d,S'.drop<|S'.length - S.length,fresh S<|S'.take<|S'.length - S.length)=(some v,S,true):=by kernel_rfl):GL μ P ops [] [] (Vl n D d v S F hs) (Hd n D S' F' hs) (some x) x:=by
 simp only[bY] at h
 exact GG.fin _ h.1 h.2.1 h.2.2 le
end
theorem WJ{F0:Fz}{g:Do}{G:Fz->Do->Prop}(h:∀F,F0<=F->G F g):∀F v,F0<=F->v=g->G F v:=λF _ l e=>e▸h F l
theorem K0{α:Type}{F0:Fz}{E:α->Prop}{g:α->Do}{G:α->Fz->Do->Prop}(h:∀x F,E x->F0<=F->G x F (g x)):∀x F v,E x->F0<=F->v=g x->G x F v:=λx F _ e l q=>q▸h x F e l
end
end Go.Dec
end
