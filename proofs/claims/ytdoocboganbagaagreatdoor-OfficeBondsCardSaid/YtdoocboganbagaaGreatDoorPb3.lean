/- For OfficeBonds. -/
import Derived.Test.YtdoocboganbagaaGreatDoorPb2
import Derived.Lib.LaidTab
import Derived.Shelf.Vars
import Derived.LaidMore
import Derived.Lay
import Derived.Handed
import Derived.SevenTiedAt
import Derived.Lib.UnsafeStr
import Derived.Lib.Builder
import Derived.Laws.Externs
import Derived.RangeFuncLeaves
import Derived.SliceStrings
noncomputable section
namespace Go.Dec
abbrev hF:=@beq_self_eq_true
abbrev mo:=@fenced_wide
abbrev lH:=@List.all_append
abbrev ln:=@stepR_block
abbrev oq:=@stepR_seq
abbrev iP:=@ComesIn.of_steps
abbrev iS:=@leaves_stepsInM
abbrev iU:=@List.head?_drop
abbrev qAF:=@step_leave_panicked
end Go.Dec
namespace Go.Dec
section
open Go.ChangeShapes Go.WideShapes Go.ChangeAt Go.RowKit
theorem jH{P:B3}{w:By}{n:String}{d:DataW Unit}:∀{l:Q0 (String×DataW Unit)} {ps:Q0 MemPlace} (j:Nat),l[j]? =some (n,d)->DataW.LaidVars P w l ps->
  ∃g t cs a p T fr,P.globalNamed n=some g/\(P.globals[g]?).map (·.type)=some t/\w.heap[g]? =some (.cells cs T fr)/\DataW.trod (λ_=>()) P w 0 (λ_=>true) false a t cs.toList=some (d,p)
 | [],_,_,h,_=>by simp at h
 | x::l,ps,0,h,c=>by
  simp at h;subst h
  obtain⟨g,t,cs,a,p,q,e,f,b,i,_,_⟩:=c;unfold World.var? at b
  rw[e] at b
  simp only[K2] at b
  split at b
  ·rename_i cs' T fr k;simp only[W1] at b
   subst b;exact⟨g,t,_,a,p,T,fr,e,f,k,i⟩
  ·cases b
 | x::l,ps,j+1,h,c=>by
  obtain⟨g,t,cs,a,p,q,e,f,b,i,m,_⟩:=c;exact jH j (by simpa using h) m
theorem MS{w:By}{g:Nat}{m:Int}{k:r6}{P:B3}{t:S1}{zero:So UV}(h:w.ShapedOpen P)(e:g < P.globals.size)(f:((begin P (λ_ _=>0) default).world.heap[g]?).bind Obj.row? =some (zero,t))(j:zero.size=1)
  (l:w.cell? ⟨g,0,none⟩=some (.int k m)):∃T fr,w.heap[g]? =some (.cells #[.int k m] T fr):=by
 obtain⟨cs,b,hs,_⟩:=h.1 g zero t e f
 have a:cs=#[.int k m]:=by
  rw[j] at hs
  have c:cs[0]? =some (.int k m):=by simpa[World.cell?,b] using l
  apply Array.ext
  ·rw[hs];rfl
  ·intro i a d;have hi:i=0:=by simp at d;exact d
   subst hi;rw[Array.getElem?_eq_getElem a] at c
   simpa using c
 exact⟨t,_,by rw[b,a]⟩
end
section
open Classical
variable{S0 S:Q0 (Nat×UV)}
def uK(S:Q0 (Nat×UV)):Q0 (Nat×UV)->Q0 (K1 UV)
 | []=>[]
 | (k,_)::t=>K4 S k::uK S t
def vV:Q0 (Nat×UV)->Q0 (K1 UV)
 | []=>[]
 | (_,v)::t=>some v::vV t
theorem Sub.k:∀{T:Q0 (Nat×UV)},uK S T=vV T->Sub T S
 | [],_=>Sub.nil S
 | (k,v)::t,h=>by
  simp only[uK,vV,lR] at h
  exact Sub.cons h.1<|Sub.k h.2
def xx(S:Q0 (Nat×UV)):Q0 Nat->Q0 (Nat×UV)
 | []=>[]
 | k::t=>(k,(K4 S k).getD<|.bool false)::xx S t
def gv(S:Q0 (Nat×UV)):Q0 Nat->Q0 Bool
 | []=>[]
 | k::t=>(K4 S k).isSome::gv S t
theorem Sub.p:∀(ks:Q0 Nat),(gv S ks).all id=true->Sub (xx S ks) S
 | [],_=>Sub.nil S
 | k::t,h=>by
  simp only[gv,mj,id,Do] at h
  obtain⟨v,a⟩:=Option.isSome_iff_exists.1 h.1;exact Sub.cons (by rw[a];rfl)<|Sub.p t h.2
theorem fz{l:Q0 Nm}{k:Nat}(h:jR l k=true):∀t o,k<=t->l[t]? =some o->∀j,j < t->∃s,X6 l s t j=true:=Ma h
def Fx(l:Q0 Nm)(i:Nat)(S0:Q0 (Nat×UV)):Q0 XA->Nat->Q0 (Nat×UV)
 | [],_=>S0
 | q::a,j=>match V6 l j with
  | none=>Fx l i S0 a (j+1)
  | some d=>bif ((W7 [] l).getD i []).getD j false then(d,q.1)::Fx l i S0 a (j+1) else Fx l i S0 a (j+1)
theorem Em{l:Q0 Nm}{i:Nat}(h:Sub S0 S){xs:Q0 XA}{L:Nat->Bool}(a:∀k j,X6 l k i j=true->L j=true)
  (n:∀(j d:Nat) (v:UV),L j=true->V6 l j=some d->(xs[j]?).map Prod.fst=some v->K4 S d=some v):∀(b:Q0 XA) (j:Nat),xs.drop j=b->Sub (Fx l i S0 b j) S
 | [],_,_=>h
 | q::b,j,e=>by
  have o:xs[j]? =some q:=by rw[<-iU,e];rfl
  have p:xs.drop (j+1)=b:=by rw[<-en,e];rfl
  have g:=Em h a n b (j+1) p;unfold Fx;cases r:V6 l j with
  | none=>exact g
  | some d=>
   simp only;cases f:((W7 [] l).getD i []).getD j false with
   | false=>exact g
   | true=>
    have u:RE l (W7 [] l):=CA (pre:=[]) rfl rfl λt m c=>by simp at c
    obtain⟨s,hs⟩:∃s,X6 l s i j=true:=by
     cases c:(W7 [] l)[i]? with
     | none=>rw[s6 (l:=W7 [] l),c] at f;simp at f
     | some m=>rw[s6 (l:=W7 [] l),c] at f;exact u i m c j f
    exact Sub.cons (n j d q.1 (a s j hs) r (by rw[o];rfl)) g
section
variable{O:K1 Nat}{μ:Md}{β:Type}{P:B3}{n:Nat}{D:Q0 AC}{S0:Q0 (Nat×UV)}{F:Fz}
variable{eG:So Nm}{l:Q0 Nm}{X:Env->Q0 XA}{C:(Nat->Bool)->Env->Q0 HP}{k:Nat}{o:Nm}{os:Q0 Nm}
theorem xp.a(h:∀L env b,F<=b->L k=false->(∀s j,X6 l s k j=true->L j=true)->(∀s j,X6 l s j k=true->L j=false)->(∀(j:Nat) (q:XA),L j=true->(X env)[j]? =some q->∀G,b<=G->q.2 G)->
  GL O P eG [o] [] (FA n D l X C L env b k o.dst<|Fx l k S0 (X env) 0) (Hd n D (Fx l k S0 (X env) 0) b<|C L env) (some ()) ()):xp O P eG l n D S0 F X C k o:=
 λL env b le f c e d=>⟨_,λ_ g i=>Em g c i _ 0 rfl,h L env b le f c e d⟩
theorem Gk.a(h:∀L env b,F<=b->L k=false->(∀s j,X6 l s k j=true->L j=true)->(∀s j,X6 l s j k=true->L j=false)->(∀(j:Nat) (q:XA),L j=true->(X env)[j]? =some q->∀G,b<=G->q.2 G)->
 GL O P eG [o] [] (FA n D l X C L env b k o.dst<|Fx l k S0 (X env) 0) (Hd n D (Fx l k S0 (X env) 0) b<|C L env) (some ()) ()) (t:Gk O P eG l n D S0 F X C (k+1) os):Gk O P eG l n D S0 F X C k (o::os):=⟨xp.a h,t⟩
theorem Gk.b(h:∀L env c,F<=c->GL O P eG [o] [] (FA n D l X C L env c k o.dst<|Fx l k S0 (X env) 0) (Hd n D (Fx l k S0 (X env) 0) c<|C L env) (some ()) ())(t:Gk O P eG l n D S0 F X C (k+1) os):Gk O P eG l n D S0 F X C k (o::os):=⟨xp.a λL env c le _ _ _ _=>h L env c le,t⟩
end
abbrev vP(b o:Nat):UV:=.pointer<|some ⟨b,o,none⟩
abbrev vI(x:Int):UV:=.int .i64 x
abbrev vS{α:Type}(p:K1 C3)(l:Q0 α)(k:Nat):UV:=.slice p l.length k
abbrev pc(b:Nat)(cs:Q0 UV)(T:S1):HP:=pt b<|.cells cs.toArray T
theorem J{α:Sort _}{a:α}:a=a:=rfl
abbrev vT(v:UV):XA:=(v,λ_=>True)
abbrev ON:=K1 Nat
theorem JK{n m:Nat}(h:Nat.ble n m=true):n<=m:=A4 h
def bZ(n k:Nat)(l:Q0 Nm)(S0:Q0 (Nat×UV)):Bool:=LK 0 l&&jR l k&&Nat.ble k l.length&&Gq n S0 (l.take k)
theorem GG.dG{O:K1 Nat}{β:Type}{P:B3}{ks:Q0 Kt}{Q:hP->Act->By->Prop}{m:K1 β}{r:β}{n:Nat}{D:Q0 AC}{F:Fz}{hs:Q0 HP}{id:Nat}{l:Q0 Nm}(k g:Nat)(X:Env->Q0 XA)(C:(Nat->Bool)->Env->Q0 HP)(d:P.follows .mixedOrders=true)(a:bZ n k l S0=true)
  (e:∀env,(X env).length=k) (f:∀env,C (λ_=>false) env=hs++List.replicate g SO)
  (b:Gk O P l.toArray l n D S0 F X C 0 (l.take k))
  (tail:∀env c,F<=c->(∀(j:Nat) (q:XA),(X env)[j]? =some q->q.2 c)->GL O P l.toArray (l.drop k) ks Q (Hd n D (Og (l.take k) (X env) S0) c<|C (λj=>Nat.blt j k) env) m r):GC O P (.region id l.toArray true) ks Q (Hd n D S0 F hs) m r:=by
 simp only[bZ,Do] at a
 exact GG.nP k g X C d a.1.1.1 (fz a.1.1.2) a.1.2 e a.2 f b tail
abbrev Ss.n:= @Ss.nil
abbrev GG.m:= @GG.move
abbrev GG.s:= @GG.assign
abbrev GG.f:= @GG.fieldAddr
abbrev GG.x:= @GG.extract
abbrev GG.l:= @GG.alloc
abbrev GG.o:= @GG.norm
abbrev GG.d:= @GG.bind
abbrev GG.i:= @GG.cond
theorem UU{α:Type}{j:Nat}(n:Nat)(f g:Nat->α)(h:(List.range n).map f=(List.range n).map g)(b:j < n):f j=g j:=by
 have a:=congrArg (λl=>l[j]?) h;simp only[x8,List.getElem?_range b,L4,W1] at a
 exact a
end
section
variable{S:Q0 (Nat×UV)}{Q:hP->Act->By->Prop}{D:Q0 AC}{p:K1 C3}{P:B3}{hs:Q0 HP}{β α:Type}{m:K1 β}{F F0 F':Fz}{n cap sz b d:Nat}{c:Uo α}{after:So lY}{T ty t:S1}{g:Gp}{eG:So Nm}{ks:Q0 Kt}{pos:String}{ox oy:L5}{kd:r6}{rest:Q0 Nm}{r:β}{x:K1 α}{w:By}
variable{O:K1 Nat}{μ:Md}
def wO{ι:Type}(Φ:ι->Prop)(l:ι->Q0 HP):HP:=λm=>∃q,Φ q/\Qh (l q) m
section
variable{β ι:Type}{X:Act->By->Prop}{m:K1 β}{r:β}{n:Nat}{D:Q0 AC}{S:Q0 (Nat×UV)}{F F0:Fz}{hs:Q0 HP}{Φ:ι->Prop}{l:ι->Q0 HP}
theorem GG.ad(i:Nat)(hi:hs[i]? =some (wO Φ l))(k:∀q,Φ q->GG g (Hd n D S F<|l q++hs.eraseIdx i) m r):GG g (Hd n D S F hs) m r:=by
 exact λf a w e=>by
  obtain⟨h,⟨j,o,d,s,u,⟨q,v,y⟩,z⟩,A⟩:=e.2.pull hi;exact k q v f a w ⟨e.1,h,K7 ⟨j,o,d,s,u,y,z⟩,A⟩
theorem GG.nT(is:Q0 Nat)(q:ι)(i:Φ q)(j:YN is hs=l q)(k:GG g (Hd n D S F<|wO Φ l::YF is hs) m r):GG g (Hd n D S F hs) m r:=by
 exact λe a w f=>
  k e a w ⟨f.1,f.2.mono λ_ e=>QP (λ_ h=>⟨q,i,j▸h⟩)<|UJ (ks:=is) e⟩
theorem ZW{p p' :HP}{l l' :Q0 HP}(a:∀m,p m->p' m)(e:∀m,Qh l m->Qh l' m):∀m,Qh (p::l) m->Qh (p' ::l') m:=λ_ h=>QP a<|QR e h
theorem GG.aI{f:Q0 HP}(is:Q0 Nat)(q:ι)(j:Φ q)(o:YN is hs=f)(hi:∀m,Qh f m->Qh (l q) m)(k:GG g (Hd n D S F<|wO Φ l::YF is hs) m r):GG g (Hd n D S F hs) m r:=by
 exact λe a w i=>
  k e a w ⟨i.1,i.2.mono λ_ e=>QP (λ_ h=>⟨q,j,hi _<|o▸h⟩)<|UJ (ks:=is) e⟩
theorem GG.sM{p p' :HP}(i:Nat)(f:∀m,p m->p' m)(hi:hs[i]? =some p)(k:GG g (Hd n D S F<|hs.set i p') m r):GG g (Hd n D S F hs) m r:=by
 exact λj a w e=>
  k j a w ⟨e.1,SH.push hi<|(e.2.pull hi).mono λ_ h=>QP f h⟩
theorem GG.ins{p:HP}(i:∀m,p m)(k:GG g (Hd n D S F<|p::hs) m r):GG g (Hd n D S F hs) m r:=by
 exact λj a w f=>
  k j a w ⟨f.1,f.2.mono λm h=>⟨λ_=>none,m,λ_=>.inl rfl,λ_ _ e=>by simp at e,Mem.sub.refl _,i _,h⟩⟩
end
def ku(sz:Nat)(c:Uo α)(F:Fz)(T:S1)(p:K1 C3)(cap:Nat)(l:Q0 α):HP:=λm=>Ql sz c F T p cap l m∨QG sz c F p cap l
section
variable{β α:Type}{X:Act->By->Prop}{m:K1 β}{r:β}{n:Nat}{D:Q0 AC}{S:Q0 (Nat×UV)}{F F0 F' :Fz}{hs:Q0 HP}{sz cap:Nat}{c:Uo α}{T:S1}{p:K1 C3}{l:Q0 α}
theorem zY{m:Mem}(le:F<=F')(h:ku sz c F T p cap l m):ku sz c F' T p cap l m:=h.imp (WB le) λh=>h.mono le
theorem GG.ax(i:Nat)(hi:hs[i]? =some (ku sz c F0 T p cap l))(e:F0<=F)(k:∀F',F<=F'->QG sz c F' p cap l->GG g (Hd n D S F'<|hs.eraseIdx i) m r):GG g (Hd n D S F hs) m r:=by
 exact λj a w h=>by
  obtain⟨v,⟨y,o,d,z,q,f,s⟩,u⟩:=h.2.pull hi;rcases f with f | f
  ·obtain⟨F',le,A,B⟩:=SH.cZ e (w:=w) (H:=Qh<|hs.eraseIdx i) ⟨v,⟨y,o,d,z,q,f,s⟩,u⟩;exact k F' le B j a w ⟨h.1,A⟩
  ·exact k F (Fz.le_refl F) (f.mono e) j a w ⟨h.1,o,s,u.sub q⟩
end
def WK(T:S1)(c:Uo α)(F:Fz)(p:K1 C3):K1 α->Prop
 | none=>p=none
 | some x=>∃b cs,p=some ⟨b,0,none⟩/\F.mem b=some (.cells (List.toArray cs) T)/\∀F',F<=F'->c F' x cs
section
variable{α:Type}{T:S1}{c:Uo α}{F F' :Fz}{p:K1 C3}{x:K1 α}{a:α}
theorem WK.mono(h:WK T c F p x)(le:F<=F'):WK T c F' p x:=by
 cases x with
 | none=>exact h
 | some x=>obtain⟨b,cs,e,f,i⟩:=h;exact⟨b,cs,e,le.mem _ _ f,λG l=>i G<|Fz.le_trans le l⟩
theorem WK.nil:WK T c F none none:=rfl
theorem WK.of{cs:Q0 UV}(h:F.mem b=some (.cells (List.toArray cs) T))(e:∀F',F<=F'->c F' a cs):WK T c F (some ⟨b,0,none⟩) (some a):=⟨b,cs,rfl,h,e⟩
theorem WK.at(h:WK T c F p x)(e:x=some a):∃b cs,F.mem b=some (.cells (List.toArray cs) T)/\p=some ⟨b,0,none⟩/\c F a cs:=by
 subst e;obtain⟨b,cs,f,i,j⟩:=h;exact⟨b,cs,i,f,j F<|Fz.le_refl F⟩
theorem WK.isNone(h:WK T c F p x):p.isNone=x.isNone:=by
 cases x with
 | none=>have:p=none:=h;rw[this];rfl
 | some x=>obtain⟨b,cs,e,_⟩:=h;rw[e];rfl
end
section
variable{β:Type}{P:B3}{eG:So Nm}{rest:Q0 Nm}{ks:Q0 Kt}{Q:hP->Act->By->Prop}{m:K1 β}{r:β}
variable{n:Nat}{D:Q0 AC}{S:Q0 (Nat×UV)}{F F0:Fz}{hs:Q0 HP}
variable{d:Nat}{ty t:S1}{pos:String}{after:So lY}{ox oy oz:L5}
theorem GG.pn{e t' :S1}(h:WK T c F p x)(i:Nat.blt d n=true)(j:P.underlying t=some (.pointer e))(l:QQ S ox=some (.pointer p))(o:QQ S oy=some (.pointer none))(k:GL μ P eG rest ks Q (Hd n D ((d,.bool x.isNone)::S) F hs) m r):GL μ P eG (⟨some d,.binOp .eql t ox oy t',ty,pos,after,none⟩::rest) ks Q (Hd n D S F hs) m r:=
 GG.val i (λa w f=>by
  have q:(Op.equal t (.pointer p)<|.pointer none).run P w= .ok p.isNone w:=BT j 9999;have s:P.eqGuardType P.depth t=false∨P.eqGuardType P.depth t=true:=by cases P.eqGuardType P.depth t<;>simp
  simp[execOp,f.1.eval l,f.1.eval o,eqGuard,binOp,q,h.isNone]) k
theorem GG.pb{e t' :S1}(h:WK T c F p x)(i:Nat.blt d n=true)(j:P.underlying t=some (.pointer e))(l:QQ S ox=some (.pointer p))(o:QQ S oy=some (.pointer none))(k:GL μ P eG rest ks Q (Hd n D ((d,.bool<|!x.isNone)::S) F hs) m r):GL μ P eG (⟨some d,.binOp .neq t ox oy t',ty,pos,after,none⟩::rest) ks Q (Hd n D S F hs) m r:=
 GG.val i (λa w f=>by
  have q:(Op.equal t (.pointer p)<|.pointer none).run P w= .ok p.isNone w:=BT j 9999;have s:P.eqGuardType P.depth t=false∨P.eqGuardType P.depth t=true:=by cases P.eqGuardType P.depth t<;>simp
  simp[execOp,f.1.eval l,f.1.eval o,eqGuard,binOp,q,h.isNone]) k
section
variable{K V:Type}{ck:K->UV}{rv:Fz->V->UV->Prop}
def Uu(ck:K->UV)(rv:Fz->V->UV->Prop)(F:Fz)(p:K1 Nat)(l:Q0 (K×V)):Prop:=∃(b:Nat) (es:So gw) (clock:Nat) (l' :Q0 (K×V)),p=some b/\l'.Perm l/\(l.map Prod.fst).Nodup/\F.mem b=some (.map es clock)/\Uv ck rv F es.toList l'/\Ya es.toList clock
theorem Uu.mono{p:K1 Nat}{l:Q0 (K×V)}(h:Uu ck rv F p l)(le:F<=F'):Uu ck rv F' p l:=let⟨b,es,c,l',e,f,a,i,j,k⟩:=h;⟨b,es,c,l',e,f,a,le.mem _ _ i,j.up le,k⟩
theorem GG.sd[BEq K]{l:Q0 (K×V)}(i:Nat)(hi:hs[i]? =some (QZ ck rv F0 b l))(le:F0<=F)(k:∀F',F<=F'->Uu ck rv F' (some b) l->GG g (Hd n D S F'<|hs.eraseIdx i) m r):GG g (Hd n D S F hs) m r:=by
 exact λj a w f=>by
  obtain⟨es,c,l',o,e,_,q,s,u⟩:=Wz<|f.2.pull hi;obtain⟨h,v⟩:=s.freeze;exact k _ h ⟨b,es,c,l',rfl,o,e,Fz.cv F b _,(q.up le).up h,u⟩ j a w ⟨f.1,v⟩
variable{b:Nat}{l:Q0 (K×V)}{key:K}{z:V}{kt vt:S1}{zv:UV}
variable[BEq K][LawfulBEq K]
theorem GG.sQ(i:Nat)(hi:hs[i]? =some (QZ ck rv F0 b l))(h:F0<=F)(u:Nat.blt d n=true)(y:P.underlying t=some (.map kt vt))(ok:Xj P kt ck)(j:∀w,(zeroValue vt).run P w= .ok zv w)(A:rv F z zv)(B:QQ S ox=some (.map<|some b))(C:QQ S oy=some (ck key))
  (k:∀v,rv F ((Qc l key).getD z) v->GL μ P eG rest ks Q (Hd n D ((d,v)::S) F hs) m r):GL μ P eG (⟨some d,.lookup t ox oy false,ty,pos,after,none⟩::rest) ks Q (Hd n D S F hs) m r:=by
 refine GG.sg rfl rfl λE a w e=> ?_;obtain⟨es,c,l',o,G,q,H,_⟩:=Wz<|e.2.pull hi;obtain⟨v,s,f⟩:=Fh (key:=key) q H h y ok j A false;rw[WC o G] at s
 refine⟨v,?_,k v s E _ _ ⟨e.1.put u _,e.2⟩⟩;simp[execOp,e.1.eval B,e.1.eval C,f]
theorem GG.tH(i:Nat)(hi:hs[i]? =some (QZ ck rv F0 b l))(h:F0<=F)(u:Nat.blt d n=true)(y:P.underlying t=some (.map kt vt))(ok:Xj P kt ck)(j:∀w,(zeroValue vt).run P w= .ok zv w)(A:rv F z zv)(B:QQ S ox=some (.map<|some b))(C:QQ S oy=some (ck key))
  (k:∀v,rv F ((Qc l key).getD z) v->GL μ P eG rest ks Q (Hd n D ((d,.tuple #[v,.bool (Qc l key).isSome])::S) F hs) m r):GL μ P eG (⟨some d,.lookup t ox oy true,ty,pos,after,none⟩::rest) ks Q (Hd n D S F hs) m r:=by
 refine GG.sg rfl rfl λE a w f=> ?_;obtain⟨es,c,l',o,G,q,H,_⟩:=Wz<|f.2.pull hi;obtain⟨v,s,e⟩:=Fh (key:=key) q H h y ok j A true;rw[WC o G] at s e
 refine⟨_,?_,k v s E _ _ ⟨f.1.put u _,f.2⟩⟩;simp[execOp,f.1.eval B,f.1.eval C,e]
theorem I4{H:HP}{p:K1 Nat}(h:Uu ck rv F p l)(hs:SH w F H)(k:P.underlying t=some (.map kt vt))(ok:Xj P kt ck)(e:∀w,(zeroValue vt).run P w= .ok zv w)(o:rv F z zv)(f:Bool):∃v,rv F ((Qc l key).getD z) v/\(Instr.lookup t (.map p) (ck key) f).run P w= .ok (if f then .tuple #[v,.bool (Qc l key).isSome] else v) w:=by
 obtain⟨b,es,c,l',rfl,i,q,s,u,_⟩:=h;obtain⟨v,j,a⟩:=Fh (key:=key) (SH.frozen hs s) u (Fz.le_refl F) k ok e o f;rw[WC i q] at j a
 exact⟨v,j,a⟩
theorem GG.pf{p:K1 Nat}(h:Uu ck rv F p l)(j:Nat.blt d n=true)(o:P.underlying t=some (.map kt vt))(ok:Xj P kt ck)(i:∀w,(zeroValue vt).run P w= .ok zv w)(q:rv F z zv)(s:QQ S ox=some (.map p))(u:QQ S oy=some (ck key))
  (k:∀v,rv F ((Qc l key).getD z) v->GL μ P eG rest ks Q (Hd n D ((d,v)::S) F hs) m r):GL μ P eG (⟨some d,.lookup t ox oy false,ty,pos,after,none⟩::rest) ks Q (Hd n D S F hs) m r:=by
 refine GG.sg rfl rfl λy a w e=> ?_;obtain⟨v,A,f⟩:=I4 (key:=key) h e.2 o ok i q false;refine⟨v,?_,k v A y _ _ ⟨e.1.put j _,e.2⟩⟩;simp[execOp,e.1.eval s,e.1.eval u,f]
end
theorem GG.tI{K V:Type}{ck:K->UV}{rv:Fz->V->UV->Prop}{l:Q0 (K×V)}{key:K}{y z:S1}{o:UV}[BEq K][LawfulBEq K](h:Dk ck rv F b l)(A:Nat.blt d n=true)(B:P.underlying t=some (.map y z))(ok:Xj P y ck)(q:∀w,(zeroValue z).run P w= .ok o w)(C:QQ S ox=some (.map<|some b))(E:QQ S oy=some (ck key))
  (N:Qc l key=none->GL O P eG rest ks Q (Hd n D ((d,.tuple #[o,.bool false])::S) F hs) m r)
  (R:∀x v,Qc l key=some x->rv F x v->GL O P eG rest ks Q (Hd n D ((d,.tuple #[v,.bool true])::S) F hs) m r):GL O P eG (⟨some d,.lookup t ox oy true,ty,pos,after,none⟩::rest) ks Q (Hd n D S F hs) m r:=by
 refine GG.step rfl (.inr rfl) λG a w e=> ?_;obtain⟨es,c,l',s,W,X,Y⟩:=h;obtain⟨kd,H,f⟩:=ok.und;have i:=e.2.frozen X;have he:=WC (k:=key) s W;rcases Y.find (k:=key) f ok.eq 0 with⟨I,L,_⟩ | ⟨j,M,Z,I,L,g3,g4,g5,_⟩
 ·have u:=run_findKey (w:=w) H L;refine⟨.tuple #[o,.bool false],w,?_,N (by rw[<-he];exact I) G _ _ ⟨e.1.put A _,e.2⟩⟩;simp[execOp,Instr.lookup,e.1.eval C,e.1.eval E,YG B,Yb i,ok.check,u,q]
 ·have u:=run_findKey (w:=w) H g4;refine⟨.tuple #[M.val,.bool true],w,?_,R Z M.val (by rw[<-he];exact g3) (g5 F<|Fz.le_refl F) G _ _ ⟨e.1.put A _,e.2⟩⟩;simp[execOp,Instr.lookup,e.1.eval C,e.1.eval E,YG B,Yb i,ok.check,u]
end
section
variable{P:B3}{w:By}{t e sz:Nat}{kd kd' kd'' :r6}{x y:Int}{p:K1 C3}{len cap:Nat}
theorem Rq(a:P.underlying t=some (.slice e))(f:∀w,(sizeOf e).run P w= .ok sz w)(h:0<=x/\x<=y)(h' :y<=cap):(Instr.sliceAt t (.slice p len cap) (some<|.int kd x) (some<|.int kd' y)<|some<|.int kd'' y).run P w= .ok (.slice (if y.toNat=x.toNat then p else p.map (·.add (x.toNat*sz))) (y.toNat - x.toNat)<|y.toNat - x.toNat) w:=by
 simp only[Instr.sliceAt,j3,YG a,Result.andThen,Instr.slice,Instr.sliceBounds,lI,ek,B2];rw[Wc (kd:=kd'') eB];simp only[];rw[Wc (kd:=kd') eB];simp only[];rw[Wc eB];simp[f]
end
section
variable{β:Type}{P:B3}{eG:So Nm}{rest:Q0 Nm}{ks:Q0 Kt}{Q:hP->Act->By->Prop}{m:K1 β}{r:β}
variable{n:Nat}{D:Q0 AC}{S:Q0 (Nat×UV)}{F:Fz}{hs:Q0 HP}{d:Nat}{ty t:S1}{pos:String}{after:So lY}{ox oy oz ou:L5}{kd:r6}{x y:Int}
theorem GG.tQ{e:Nat}{l:Q0 α}{z o:r6}{f:Q0 α->K1 β}(C:Nat.blt d n=true)(E:P.underlying t=some (.slice e))(G:∀w,(sizeOf e).run P w= .ok sz w)
  (u:QG sz c F p cap l) (H:QQ S ox=some (.slice p l.length cap)) (I:QQ S oy=some (.int kd x)) (K:QQ S oz=some (.int z y)) (L:QQ S ou=some (.int o y))
  (k:∀l' p' c',ZZ l x y=some l'->QG sz c F p' c' l'->GL O P eG rest ks Q (Hd n D ((d,.slice p' l'.length c')::S) F hs) (f l') r):GL O P eG (⟨some d,.slice t ox (some oy) (some oz)<|some ou,ty,pos,after,none⟩::rest) ks Q (Hd n D S F hs) ((ZZ l x y).bind f) r:=
 GG.bind λl' j=>by
  have A:=j;unfold ZZ at j
  split at j
  ·rename_i h;simp only[W1] at j
   have i:QG sz c F (p.map (·.add (x.toNat*sz))) (y.toNat - x.toNat) l' :=by
    have:=u.cut (lo:=x.toNat) (hi:=y.toNat) (cap' :=y.toNat - x.toNat) eB eB (by have:=u.1;omega) (by have:=u.1;omega);rw[<-j];exact this
   have q:l'.length=y.toNat - x.toNat:=by rw[<-j];simp;omega
   have s:QG sz c F (if y.toNat=x.toNat then p else p.map (·.add (x.toNat*sz))) (y.toNat - x.toNat) l' :=zh (λh=>by
    have:l' =[]:=by have:=i.1;rw[<-h] at this;simp at this;exact this
    subst this;exact i.nV) i
   have B:=k l' _ _ A s;rw[q] at B
   refine GG.val C (λa w v=> ?_) B;simp only[execOp,v.1.eval H,v.1.eval I,v.1.eval K,v.1.eval L,L4,j3];rw[Rq E G eB (by have:=u.1;omega)];rfl
  ·cases j
end
section
variable{P:B3}{w:By}{t:Nat}{kd:r6}{x:Int}{s:Q0 H1}
theorem LG(a:P.underlying t=some .string)(h:0<=x/\x<=s.length):(Instr.sliceAt t (.string<|bs s) (some<|.int kd x) none none).run P w= .ok (.string<|bs<|s.drop x.toNat) w:=by
 simp only[Instr.sliceAt,j3,YG a,Result.andThen,Instr.slice,Instr.sliceBounds,lI,lM,W2,Bm,AI];rw[Wc eB];simp[CW];rw[IF];simp
variable{n:Nat}{D:Q0 AC}{S:Q0 (Nat×UV)}{a:Act}{d:Nat}{ty:S1}{pos:String}{after:So lY}{ox oy:L5}
theorem Np(h:Sl n D S a)(f:P.underlying t=some .string)(i:QQ S ox=some (.string<|bs s))(j:QQ S oy=some (.int kd x)){l:Q0 H1}(e:ZZ s x s.length=some l):(execOp a.eval ⟨some d,.slice t ox (some oy) none none,ty,pos,after,none⟩).run P w= .ok (.value<|.string<|bs l) w:=by
 unfold ZZ at e
 split at e
 ·rename_i k;simp only[W1] at e
  simp only[execOp,h.eval i,h.eval j,L4,lZ,j3];rw[LG f eB,<-e,IF eF];rfl
 ·cases e
end
section
variable{β:Type}{P:B3}{eG:So Nm}{rest:Q0 Nm}{ks:Q0 Kt}{Q:hP->Act->By->Prop}{E:Act->By->Prop}{m:K1 β}{r:β}
variable{n:Nat}{D:Q0 AC}{S:Q0 (Nat×UV)}{F:Fz}{hs:Q0 HP}{d:Nat}{ty t:S1}{pos:String}{after:So lY}{ox oy:L5}{kd:r6}{x:Int}{s:Q0 H1}
theorem GG.pq{f:Q0 H1->K1 β}(e:Nat.blt d n=true)(i:P.underlying t=some .string)(j:QQ S ox=some (.string<|bs s))(l:QQ S oy=some (.int kd x))(k:∀z,ZZ s x s.length=some z->GL μ P eG rest ks Q (Hd n D ((d,.string<|bs z)::S) F hs) (f z) r):GL μ P eG (⟨some d,.slice t ox (some oy) none none,ty,pos,after,none⟩::rest) ks Q (Hd n D S F hs) ((ZZ s x s.length).bind f) r:=GG.bind λz h=>GG.val e (λa w o=>Np o.1 i j l h)<|k z h
theorem GG.pP{z:Q0 H1}(h:ZZ s x s.length=some z)(e:Nat.blt d n=true)(f:P.underlying t=some .string)(i:QQ S ox=some (.string<|bs s))(j:QQ S oy=some (.int kd x))(k:GL μ P eG rest ks Q (Hd n D ((d,.string<|bs z)::S) F hs) m r):GL μ P eG (⟨some d,.slice t ox (some oy) none none,ty,pos,after,none⟩::rest) ks Q (Hd n D S F hs) m r:=GG.val e (λa w l=>Np l.1 f i j h) k
end
theorem u4{a b:Q0 H1}:(bs a==bs b)=(a==b):=by
 show(bs a).beq (bs b)=_;unfold ByteArray.beq;simp[bs]
theorem Xj.str(h:P.underlying t=some .string):Xj P t (λx:Q0 H1=>.string<|bs x) where
 und:=⟨_,h,λa b=>by simp only[Instr.sameNow];rw[u4]⟩
 check e k w:=by unfold Instr.checkKey;simp[YG h]
 same a:=by show(bs a==bs a)=true;rw[u4,hF]
 eq a b e:=by simpa using e
section
variable{ε β:Type}{P:B3}{ec:ε->UV}{fn:lX}
def SN(P:B3)(ec:ε->UV)(fn:lX)(F:Fz)(R:HP)(ρ:β->Fz->UV->Prop)(a:β->Fz->UV->Q0 HP)(r:Out ε β):hP->Act->By->Prop:=
 bodyPostM Fence.wide 0 P fn (λe w' =>∃F',F<=F'/\match r with
  | .ok x=>∃v,e= .returned v/\ρ x F' v/\SH w' F' (star (Qh<|a x F' v) R)
  | .pan x=>e= .panicked [{v:=ec x,recovered:=false}]/\SH w' F' R)
theorem Vq.aE{f:Rw}{c:la}{args:Q0 UV}{F:Fz}{Hs:Q0 HP}{m:K1 (Out ε β)}{ρ:β->Fz->UV->Prop}{a:β->Fz->UV->Q0 HP}{n:Nat}
  (i:P.funcs[f]? =some fn) (j:fn.body=some c) (l:fn.ntmps=n) (o:Nat.ble args.length n=true)
  (k:∀r R,GC none P c [] (SN P ec fn F R ρ a r) (Hd n [] (D2 0 args) F<|Hs++[R]) m r):Vq P ec f args.toArray F Hs m ρ a:=by
 intro r e w R q;refine(hQ (n:=0)).1<|ot i j trivial<|k r R e _ w ⟨?_,q.mono λm e=>K7<|QR (λ_ h=>Jy h) e⟩;rw[l];exact WA o
theorem qW{a:So UV}{R:o5->By->Prop}{chain:Q0 PanicEntry}:∀{e:Q0 (Nat×Nat)} {hs:Q0 HP} {w:By},SH w F (Qh hs)->v7 hs e->
  (∀w',SH w' F (Qh<|Hv hs e)->R (.panicked chain) w')->LeavesInM Fence.wide 0 P fn a R (e.map λp=>WZ p.2) (.panicking chain) w
 | [],hs,w,h,_,k=>k w h
 | (i,q)::e,hs,w,h,f,k=>by
  refine⟨by simp,.inl ⟨q,_,rfl,run_takeDeferred<|SH.cf f.1 h,?_⟩⟩;exact qW (SH.putAt f.1 h _) f.2 k
variable{n:Nat}{S:Q0 (Nat×UV)}{F F' :Fz}{hs:Q0 HP}{ks:Q0 Kt}{R:HP}{ρ:β->Fz->UV->Prop}{Hs' :β->Fz->UV->Q0 HP}{x:β}{r:Out ε β}{rs:Q0 ResultVar}{vs:Q0 UV}{ms:Q0 (Nat×Nat)}
theorem zf(is:Q0 Nat)(ms:Q0 (Nat×Nat))(j:fn.results=rs.toArray)(k:v7 hs ms)(h:Ss P S F' (Hv hs ms) rs vs)(hi:YN is (Hv hs ms)=Hs' x F' (AU vs)++[R])(le:F<=F')(hρ:ρ x F' (AU vs)):some (Out.ok x)=some r->∀a w,Hd n (ms.map λp=>WZ p.2) S F' hs a w->SN P ec fn F R ρ Hs' r .ret a w:=by
 intro e a w f;simp only[W1] at e
 subst e;show LeavesInM Fence.wide 0 P fn a.tmps _ a.defers .returning w;rw[f.1.2.1];refine NC f.2 k λw' h' => ?_
 exact⟨_,Jm (n:=n) (a:=a) (D:=a.defers) j ⟨⟨f.1.1,rfl,f.1.2.2⟩,h'⟩ h,F',le,_,rfl,hρ,h'.mono λm l=>by
  have i:=Yw (ks:=is) l;rw[hi] at i
  exact XM<|Yx i⟩
theorem GG.rh(is:Q0 Nat)(ms:Q0 (Nat×Nat))(a:fn.results=rs.toArray)(e:v7 hs ms)(h:Ss P S F' (Hv hs ms) rs vs)(hi:YN is (Hv hs ms)=Hs' x F' (AU vs)++[R])(le:F<=F')(hρ:ρ x F' (AU vs)):GC O P .ret ks (SN P ec fn F R ρ Hs' r) (Hd n (ms.map λp=>WZ p.2) S F' hs) (some<|.ok x) r:=GG.cw<|zf is ms a e h hi le hρ
theorem HI{q:ε}{i:Nat}(ms:Q0 (Nat×Nat))(h:v7 hs ms)(hi:(Hv hs ms)[i]? =some R)(le:F<=F'):some (Out.pan q)=some r->∀a w,Hd n (ms.map λp=>WZ p.2) S F' hs a w->SN P ec fn F R ρ Hs' r (.panic [{v:=ec q,recovered:=false}]) a w:=by
 intro e a w f;simp only[W1] at e
 subst e;show LeavesInM Fence.wide 0 P fn a.tmps _ a.defers (.panicking _) w;rw[f.1.2.1];exact qW f.2 h λw' h' =>⟨F',le,rfl,h'.only hi⟩
end
section
variable{β:Type}{P:B3}{eG:So Nm}{l0:Q0 Nm}{cd:la}{ks:Q0 Kt}{Q:hP->Act->By->Prop}{m:K1 β}{r:β}
variable{n:Nat}{D:Q0 AC}{S:Q0 (Nat×UV)}{F F0:Fz}{hs:Q0 HP}
section
variable{α:Type}{sz cap:Nat}{c:Uo α}{T:S1}{p:K1 C3}{l:Q0 α}
theorem GG.toQ(i:Nat)(le:F0<=F)(hi:hs[i]? =some (Ql sz c F0 T p cap l))(k:GG g (Hd n D S F<|hs.set i<|ku sz c F T p cap l) m r):GG g (Hd n D S F hs) m r:=by
 exact GG.sM i (λ_ h=>.inl<|WB le h) hi k
theorem GG.ny(h:QG sz c F p cap l)(k:GG g (Hd n D S F<|ku sz c F T p cap l::hs) m r):GG g (Hd n D S F hs) m r:=by
 exact GG.ins (λ_=>.inr h) k
end
end
end
section
variable{T:So S1}{S:Q0 (Nat×UV)}{p:K1 C3}{s:Q0 H1}{D:Q0 AC}{P:B3}{F F0:Fz}{f:Rw}{cap n i:Nat}{ti:TypeInfo}{l:Q0 Int}{hs:Q0 HP}{e:S1}{β:Type}
variable{O:K1 Nat}{μ:Md}
theorem kG{a b:Q0 H1}:XL (a++b)=XL a++XL b:=by simp[XL]
theorem S9{a:Q0 H1}:(XL a).length=a.length:=by simp[XL]
theorem vu(l:Q0 H1):Jj 1 (Ex<|Zy .u8) F (XL l) (l.map λb=>Value.int .u8 b.toNat):=λi x a c _=>by
 simp only[XL,x8] at a
 cases h:l[i]? with
 | none=>rw[h] at a;cases a
 | some b=>
  rw[h] at a
  simp only[L4,W1] at a
  subst a;obtain⟨hi,he⟩:=DO.1 h;show((l.map _).drop<|i*1).take 1=Zy .u8 _;rw[oP,u2<|by simpa using hi];simp[Zy,he]
theorem I6{w:By}{H:HP}{e t t2:Nat}{ty:S1}
  (E:U2 P e 1 (Ex<|Zy .u8)) (R:F0<=F) (ht:P.underlying t=some (.slice e)) (G:P.underlying t2=some .string)
  (I:T[0]? =some t) (K:T[1]? =some t2) (h:SH w F (star (Ql 1 (Ex<|Zy .u8) F0 e p cap l) H)) (aY:l.length+s.length<=4294967296):∃p' cap' w',(Builtin.append_ T ty #[.slice p l.length cap,.string<|bs s]).run P w= .ok (.slice p' (l++XL s).length cap') w'/\SH w' F (star (Ql 1 (Ex<|Zy .u8) F e p' cap'<|l++XL s) H)/\(l++XL s=[]->p' =p/\cap' =cap):=by
 obtain⟨ti,aC,aD,aE⟩:=E.info;obtain⟨z,hzero,aF⟩:=E.zero;have hz:=E.size;have af:∀b o,F.mem b=some o->w.heap[b]? =some o:=λb o e=>h.frozen e;have V:(XL s).length=s.length:=S9;generalize A:(s.map λb=>Value.int .u8 (b.toNat:Int))=us2;have c:us2.length=(XL s).length*1:=by rw[<-A];simp[XL]
 have W:Jj 1 (Ex<|Zy .u8) F (XL s) us2:=A▸vu s;have X:us2.all Value.oneCell' =true:=by rw[<-A];simp[Value.oneCell']
 have g:∀w' :By,(Builtin.firstCells 1 (XL s).length<|.string<|bs s).run P w' = .ok us2.toArray w' :=λw' =>by
  have:(ByteArray.extract (bs s) 0 (XL s).length)=bs s:=by rw[V,CW];simp
  simp only[Builtin.firstCells,this];rw[<-A];simp[bs]
 have j:∀w' :By,(Builtin.lenOf<|.string<|bs s).run P w' = .ok (XL s).length w' :=λw' =>by simp[Builtin.lenOf,AI,V]
 obtain⟨m,⟨m1,m2,d,s1,s2,⟨h1,h2,h3⟩,hq⟩,k⟩:=h;by_cases a:l.length+(XL s).length<=cap
 ·rcases h3 with⟨rfl,rfl⟩ | ⟨b,cs,rfl,hb,hl,hp⟩
  ·have e1:l=[]:=RW eB;have e2:XL s=[]:=RW eB;subst e1;have e3:us2=[]:=RW (by rw[c,e2];rfl);rw[e2] at g j ⊢
   refine⟨none,0,w,?_,⟨m,⟨m1,m2,d,s1,s2,⟨by simp,by simp,.inl ⟨rfl,rfl⟩⟩,hq⟩,k⟩,λ_=>⟨rfl,rfl⟩⟩;simp only[Builtin.append_];simp only[kp] at g j
   simp[I,K,YG ht,YG G,hz,j,g,e3]
  ·have hh:SH w F (star (pt b<|.cells cs.toArray e (0,0)) H):=⟨m,⟨m1,m2,d,s1,s2,hb,hq⟩,k⟩;have aP:=hh.owned
   have r:l.length*1+us2.length<=cs.length:=by
    rw[c,hl,<-mq];exact lS 1 a
   have L:=XO (P:=P) (o:=l.length*1) (i:=0) aP (by simpa using r) X;simp only[iD] at L
   refine⟨some ⟨b,0,none⟩,cap,put w b<|.cells (Kp cs (l.length*1) us2).toArray e (0,0),?_,?_,λ_=>⟨rfl,rfl⟩⟩
   ·simp only[Builtin.append_];simp only[oP] at L
    simp[I,K,YG ht,YG G,hz,j,g,a,HA,L]
   ·have aQ:=hh.put (o' :=.cells (Kp cs (l.length*1) us2).toArray e (0,0));refine aQ.mono λm hm=>QP (λm' M=>⟨by simp;omega,h2,.inr ⟨b,_,rfl,M,by rw[Hk];exact hl,?_⟩⟩) hm;have:=FC us2 cs (l.length*1) r;rw[c,<-mq] at this
    apply Jj.pZ;rw[x4,this];exact(hp.mono R).take.append W eE
 ·have hn:GU (l.length+(XL s).length) cap ti.bytes:=SD (Nat.lt_of_not_le a) eB aE
  have u:∃us:Q0 UV,us.length=l.length*1/\Jj 1 (Ex<|Zy .u8) F l us/\∀w' :By,w'.heap=w.heap->(Builtin.firstCells 1 l.length<|.slice p l.length cap).run P w' = .ok us.toArray w' :=by
   rcases h3 with⟨rfl,rfl⟩ | ⟨b,cs,rfl,hb,hl,hp⟩
   ·have e1:l=[]:=RW eB;subst e1;exact⟨[],by simp,Jj.nil,λw' _=>by simp[Builtin.firstCells]⟩
   ·have ai:=hp.len E.len;refine⟨cs.take<|l.length*1,by simp;omega,(hp.mono R).take,λw' aS=> ?_⟩;simp only[Builtin.firstCells];exact Hb (cs:=cs) (T:=e) (fr:=(0,0)) (by rw[aS];exact k.rJ<|s1 _ _ hb) eF eE
  obtain⟨us,v,aU,u⟩:=u;have aV:SH w F H:=⟨m2,hq,k.sub s2⟩;generalize N:Question.appendCap (l.length+(XL s).length) cap e=q
  have x:l.length+(XL s).length<=q.cut (w.tape w.drawn q)/\q.cut (w.tape w.drawn q)<=9223372036854775807:=by
   rw[<-N];have:=o1 (w.tape w.drawn<|Question.appendCap (l.length+(XL s).length) cap e) (show 0 < 2^63 - (l.length+(XL s).length) by omega);simp only[Question.cut];omega
  have y:q.forced=false:=by rw[<-N];rfl
  generalize hC:q.cut (w.tape w.drawn q)=C at x
  have Q:SH {w with drawn:=w.drawn+1} F H:=aV.drew _;have B:=Q.alloc<|.cells ((us.toArray++us2.toArray++Builtin.zeroCells z.cells (C - (l.length+(XL s).length)))) e;have e3:(Builtin.zeroCells z.cells<|C - (l.length+(XL s).length)).size=(C - (l.length+(XL s).length))*1:=by simp[Builtin.zeroCells,aF]
  have e4:(us.toArray++us2.toArray++Builtin.zeroCells z.cells (C - (l.length+(XL s).length))).toList.length=C*1:=by
   simp only[eh,iK,List.size_toArray,v,c,e3];rw[<-mq,<-mq];congr 1;omega
  have e5:Jj 1 (Ex<|Zy .u8) F (l++XL s) (us.toArray++us2.toArray++Builtin.zeroCells z.cells (C - (l.length+(XL s).length))).toList:=by
   have:=(aU.append W v).a7 (us2:=(Builtin.zeroCells z.cells<|C - (l.length+(XL s).length)).toList) (by simp[v,c]);simpa using this
  refine⟨some ⟨w.heap.size,0,none⟩,C,_,?_,B.mono λm hm=>QP (λm' M=>⟨by simp only[x4];exact x.1,x.2,.inr ⟨w.heap.size,(us.toArray++us2.toArray++Builtin.zeroCells z.cells (C - (l.length+(XL s).length))).toList,rfl,(by have Y:pt w.heap.size _ m' :=M;unfold pt at Y ⊢;rw[Y]),e4,e5⟩⟩) hm,λhe=> ?_⟩
  ·simp only[Builtin.append_];have aW:=hn;unfold GU at aW
   have Z:¬(2:Nat)^48 < Builtin.nextslicecap (l.length+(XL s).length) cap*ti.bytes:=by omega
   have g1:=u w.drew rfl;have g2:=g w.drew;simp[I,K,YG ht,YG G,hz,j,a,aC,aD,Z,N,y,hC,g1,g2,hzero,newRow];simp only[<-qAI,Array.append_assoc]
  ·exfalso;have h5:=congrArg List.length he;simp only[x4,kp] at h5;omega
def fo(e:S1)(p:K1 C3)(cap:Nat)(s:Q0 H1):HP:=λm=>∃F,Ql 1 (Ex<|Zy .u8) F e p cap (XL s) m
theorem w8{m:Mem}(g:Fz)(h:fo e p cap s m):Ql 1 (Ex<|Zy .u8) g e p cap (XL s) m:=by
 obtain⟨F,c,d,a⟩:=h;rcases a with a | ⟨b,cs,e,j,k,o⟩
 ·exact⟨c,d,.inl a⟩
 ·exact⟨c,d,.inr ⟨b,cs,e,j,k,λi x q G _=>o i x q F<|Fz.le_refl _⟩⟩
def CX(T e:S1)(b:Nat)(s:Q0 H1):HP:=wO (λq:K1 C3×K1 C3×Nat=>(q.1=none∨q.1=some ⟨b,0,none⟩)/\(s=[]->q.2.1=none∨q.2.2≠0)) λq=>[pc b [.pointer q.1,.slice q.2.1 (XL s).length q.2.2] T,fo e q.2.1 q.2.2 s]
section
variable{β:Type}{X:Act->By->Prop}{m:K1 β}{r:β}{n:Nat}{D:Q0 AC}{S:Q0 (Nat×UV)}{F F0:Fz}{hs:Q0 HP}{T e b:S1}{s:Q0 H1}
theorem GG.aY{g:Gp}(i:Nat)(hi:hs[i]? =some (CX T e b s))(k:∀p q cap,(p=none∨p=some ⟨b,0,none⟩)->(q=none∨cap≠0)->GG g (Hd n D S F<|pc b [.pointer p,.slice q (XL s).length cap] T::Ql 1 (Ex<|Zy .u8) F e q cap (XL s)::hs.eraseIdx i) m r):GG g (Hd n D S F hs) m r:=by
 exact GG.ad i hi fun⟨p,q,cap⟩ ⟨j,o⟩=>GG.sM (p' :=Ql 1 (Ex<|Zy .u8) F e q cap<|XL s) 1 (λ_ h=>w8 F h) rfl λt a w d=>by
  refine k p q cap j ?_ t a w d;by_cases c:s=[]
  ·exact o c
  ·right;obtain⟨_,⟨x,_,_,_,_,⟨u,_⟩,_⟩,_⟩:=d.2.pull (k:=1) rfl;rw[S9] at u
   intro v;subst v;exact c<|RW eB
theorem GG.aJ{g:Gp}{q:K1 C3}(is:Q0 Nat)(a:p=none∨p=some ⟨b,0,none⟩)(c:s=[]->q=none∨cap≠0)(hi:YN is hs=[pc b [.pointer p,.slice q (XL s).length cap] T,Ql 1 (Ex<|Zy .u8) F0 e q cap<|XL s])(k:GG g (Hd n D S F<|CX T e b s::YF is hs) m r):GG g (Hd n D S F hs) m r:=by
 exact GG.aI is (p,q,cap) ⟨a,c⟩ hi (ZW (λ_ h=>h)<|ZW (λ_ h=>⟨F0,h⟩) λ_ h=>h) k
end
section
variable{β:Type}{P:B3}{eG:So Nm}{rest:Q0 Nm}{ks:Q0 Kt}{Q:hP->Act->By->Prop}{E:Act->By->Prop}{m:K1 β}{r:β}
variable{n:Nat}{D:Q0 AC}{S:Q0 (Nat×UV)}{F F0:Fz}{hs:Q0 HP}{d:Nat}{ty t t2 e T b:S1}{pos:String}{after:So lY}{ox oy:L5}{p:K1 C3}{cap:Nat}{s:Q0 H1}{c:la}
theorem GG.nK{g:Gp}(k:GG g (Hd n D S F<|SO::hs) m r):GG g (Hd n D S F hs) m r:=GG.ins (λ_=>trivial) k
theorem GG.rA(i:Nat)(e:S1)(hi:hs[i]? =some (pc b [.pointer none,.slice none 0 0] T))(k:GL O P eG rest ks Q (Hd n D S F<|hs.set i<|CX T e b []) m r):GL O P eG rest ks Q (Hd n D S F hs) m r:=λg a w j=>k g a w ⟨j.1,SH.push hi<|(j.2.pull hi).mono λ_ g=>QP (λm h=>⟨(none,none,0),⟨.inl rfl,λ_=>.inl rfl⟩,m,λ_=>none,λ_=>.inr rfl,Mem.sub.refl _,λ_ _ e=>by simp at e,h,λ_=>none,λ_=>none,λ_=>.inr rfl,λ_ _ e=>by simp at e,λ_ _ e=>by simp at e,⟨F,Pb⟩,trivial⟩) g⟩
theorem GG.rb{f:Q0 Int->K1 β}{T:So S1}(i:Nat)(E:U2 P e 1 (Ex<|Zy .u8))(u:F0<=F)(A:Nat.blt d n=true)(B:P.underlying t=some (.slice e))(v:P.underlying t2=some .string)(x:T[0]? =some t)(y:T[1]? =some t2)
  (hi:hs[i]? =some (Ql 1 (Ex<|Zy .u8) F0 e p cap l)) (C:QQ S ox=some (.slice p l.length cap)) (G:QQ S oy=some (.string<|bs s))
  (k:∀l' p' cap',VU l (XL s)=some l'->(l' =[]->p' =p/\cap' =cap)->GL O P eG rest ks Q (Hd n D ((d,.slice p' l'.length cap')::S) F<|hs.set i<|Ql 1 (Ex<|Zy .u8) F e p' cap' l') (f l') r):GL O P eG (⟨some d,.call ⟨.builtin .append,#[ox,oy],T⟩,ty,pos,after,none⟩::rest) ks Q (Hd n D S F hs) ((VU l<|XL s).bind f) r:=
 GG.bind λl' h=>by
  have z:=h;unfold VU at h
  split at h
  ·rename_i g;simp only[W1] at h
   subst h;refine GG.step rfl (.inr rfl) λH a w q=> ?_;obtain⟨p',cap',w',j,I,o⟩:=I6 (P:=P) (T:=T) (ty:=ty) (s:=s) E u B v x y (q.2.pull hi) (by rw[S9] at g;exact g);refine⟨_,w',?_,k _ p' cap' z o H _ _ ⟨q.1.put A _,SH.push hi I⟩⟩;simp[execOp,resolve,invoke,builtin,q.1.eval C,q.1.eval G,j]
  ·cases h
theorem GG.rC{l':Q0 Int}{T:So S1}(a:VU l (XL s)=some l')(i:Nat)(E:U2 P e 1 (Ex<|Zy .u8))(j:F0<=F)(v:Nat.blt d n=true)(w:P.underlying t=some (.slice e))(o:P.underlying t2=some .string)(q:T[0]? =some t)(u:T[1]? =some t2)
  (hi:hs[i]? =some (Ql 1 (Ex<|Zy .u8) F0 e p cap l)) (x:QQ S ox=some (.slice p l.length cap)) (y:QQ S oy=some (.string<|bs s))
  (k:∀p' cap',(l' =[]->p' =p/\cap' =cap)->GL O P eG rest ks Q (Hd n D ((d,.slice p' l'.length cap')::S) F<|hs.set i<|Ql 1 (Ex<|Zy .u8) F e p' cap' l') m r):GL O P eG (⟨some d,.call ⟨.builtin .append,#[ox,oy],T⟩,ty,pos,after,none⟩::rest) ks Q (Hd n D S F hs) m r:=by
 have h:=GG.rb (f:=λ_=>m) (pos:=pos) (after:=after) (ty:=ty) i E j v w o q u hi x y (λz p' cap' g A=>by rw[a] at g;cases g;exact k p' cap' A);rw[a] at h;exact h
theorem GG.tj{eb h vs:Q0 UV}{of:L5}{os:Q0 L5}{T:So S1}{ρ:Unit->Fz->UV->Prop}{H:HP}{H' :Unit->Fz->UV->HP}(o:Nat.blt d n=true)
  (a:∀args w,(callFunc f args).run P w= .ok (.enter f args) w) (q:QQ S of=some (.func (.func f) #[] eb.toArray)) (u:Un S os=some vs) (has:vs++eb=h) (hi:hs[i]? =some H)
  (x:CT P f h.toArray F H (some ()) ρ H') (k:∀j v,F<=j->GL O P eG rest ks Q (Hd n D ((d,v)::S) j<|hs.set i<|H' () j v) m r):GL O P eG (⟨some d,.call ⟨.value of,os.toArray,T⟩,ty,pos,after,none⟩::rest) ks Q (Hd n D S F hs) m r:=
 GG.sn (e:=some ()) (g:=λ_=>m) o a q u has hi x (λ_ j v _ le _=>k j v le)
theorem GG.mC{t' :S1}(h:Nat.blt d n=true)(j:P.underlying t=some (.pointer e))(o:QQ S ox=some (.pointer p))(q:QQ S oy=some (.pointer none))(k:GL O P eG rest ks Q (Hd n D ((d,.bool p.isNone)::S) F hs) m r):GL O P eG (⟨some d,.binOp .eql t ox oy t',ty,pos,after,none⟩::rest) ks Q (Hd n D S F hs) m r:=
 GG.val h (λa w g=>by
  have u:(Op.equal t (.pointer p)<|.pointer none).run P w= .ok p.isNone w:=BT j 9999;simp[execOp,g.1.eval o,g.1.eval q,eqGuard,binOp,u]) k
theorem GG.nv{t' :S1}{a0:C3}(j:Nat.blt d n=true)(o:P.underlying t=some (.pointer e))(g:P.info? e=some ti)(q:QQ S ox=some (.pointer<|some a0))(u:QQ S oy=some (.pointer<|some a0))(k:GL O P eG rest ks Q (Hd n D ((d,.bool false)::S) F hs) m r):GL O P eG (⟨some d,.binOp .neq t ox oy t',ty,pos,after,none⟩::rest) ks Q (Hd n D S F hs) m r:=
 GG.val j (λa w h=>by
  have v:=Go.Lib.run_neq_ptr_same (P:=P) w a0 o g;simp[execOp,h.1.eval q,h.1.eval u,eqGuard,v]) k
theorem GG.pQ{g v:Nat}{cs:Q0 UV}{h j:S1}(y:Nat.blt d n=true)(o:P.underlying h=some (.pointer e))(q:P.underlying j=some .unsafePointer)(z:P.info? e=some ti)(A:ti.size≠0)(B:hs[i]? =some (pc g cs v))(C:0 < cs.length)(G:QQ S ox=some (vP g 0))
  (k:GL O P eG rest ks Q (Hd n D ((d,vP g 0)::S) F hs) m r):GL O P eG (⟨some d,.convert h j ox,ty,pos,after,none⟩::rest) ks Q (Hd n D S F hs) m r:=
 GG.val y (λa w x=>by
  have u:w.shape? g=some (v,cs.length):=by simp[World.shape?,SH.cf B x.2]
  have H:=Go.Lib.run_to_unsafe (P:=P) w ⟨g,0,none⟩ o q z A u C;simp[execOp,x.1.eval G,H]) k
theorem GG.te{g o:Nat}{cs:Q0 UV}{h j:S1}(y:Nat.blt d n=true)(q:P.underlying h=some .unsafePointer)(u:P.underlying j=some (.pointer e))(z:P.info? e=some ti)(A:hs[i]? =some (pc g cs o))(B:liesAt P P.depth o (cs.length / P.cellsOf o) 0 e 1=true)(C:QQ S ox=some (vP g 0))
  (k:GL O P eG rest ks Q (Hd n D ((d,vP g 0)::S) F hs) m r):GL O P eG (⟨some d,.convert h j ox,ty,pos,after,none⟩::rest) ks Q (Hd n D S F hs) m r:=
 GG.val y (λa w x=>by
  have v:w.shape? g=some (o,cs.length):=by simp[World.shape?,SH.cf A x.2]
  have G:=Go.Lib.run_from_unsafe (P:=P) w ⟨g,0,none⟩ q u z v B;simp[execOp,x.1.eval C,G]) k
theorem GG.rZ{T:So S1}{v:UV}(g:Nat.blt d n=true)(h:∀w,(callFunc f #[v]).run P w= .ok (.value v) w)(j:QQ S ox=some v)
  (k:GL O P eG rest ks Q (Hd n D ((d,v)::S) F hs) m r):GL O P eG (⟨some d,.call ⟨.value<|.func f,#[ox],T⟩,ty,pos,after,none⟩::rest) ks Q (Hd n D S F hs) m r:=
 GG.val g (λa w o=>by
  have q:a.eval (.func f)= .func (.func f) #[] #[]:=rfl;simp[execOp,resolve,Deferred.ofValue,q,o.1.eval j,invoke,h]) k
theorem GG.pI{k:Nat}{T:So S1}(j:p=none∨cap≠0)(o:Nat.blt d n=true)(q:QQ S ox=some (.slice p k cap))(h:GL μ P eG rest ks Q (Hd n D ((d,.pointer p)::S) F hs) m r):GL μ P eG (⟨some d,.call ⟨.builtin .unsafeSliceData,#[ox],T⟩,ty,pos,after,none⟩::rest) ks Q (Hd n D S F hs) m r:=by
 refine GG.sg rfl rfl λu a w g=>⟨.pointer p,?_,h u _ _ ⟨g.1.put o _,g.2⟩⟩
 have:(Builtin.unsafeSliceData_ T ty #[.slice p k cap]).run P w= .ok (.pointer p) w:=by
  cases p with
  | none=>exact Go.Lib.run_unsafeSliceData_nil w T ty k cap
  | some a=>exact Go.Lib.run_unsafeSliceData_row w T ty a k cap (by rcases j with h | h;cases h;exact h)
 simp[execOp,resolve,invoke,builtin,g.1.eval q,this]
theorem GG.pF{T:So S1}{pt u:S1}(i:Nat)(X:T=#[pt,u])(B:P.underlying pt=some (.pointer e))(C:P.cellsOf e=1)(hi:hs[i]? =some (Ql 1 (Ex<|Zy .u8) F0 e p cap<|XL s))(I:Nat.blt d n=true)(v:QQ S ox=some (.pointer p))(y:QQ S oy=some (.int .i64 (XL s).length))
  (k:GL O P eG rest ks Q (Hd n D ((d,.string<|bs s)::S) F<|hs.eraseIdx i) m r):GL O P eG (⟨some d,.call ⟨.builtin .unsafeString,#[ox,oy],T⟩,ty,pos,after,none⟩::rest) ks Q (Hd n D S F hs) m r:=by
 subst X;refine GG.step rfl (.inr rfl) λK a w o=> ?_;have Y:=o.2.pull hi;obtain⟨Z,⟨m1,L,dd,s1,M,⟨h1,h2,h3⟩,N⟩,R⟩:=Y;rw[S9] at y h1
 by_cases z:s=[]
 ·subst z;refine⟨.string<|bs [],w,?_,k K _ _ ⟨o.1.put I _,⟨L,N,R.sub M⟩⟩⟩;have:=Go.Lib.run_unsafeString_none (P:=P) w pt u ty p;simp only[kp] at y
  simp[execOp,resolve,invoke,builtin,o.1.eval v,o.1.eval y];have e:bs []=ByteArray.empty:=rfl;rw[e];simpa using congrArg (λr=>r) (show(Builtin.unsafeString_ #[pt,u] ty #[.pointer p,.int .i64 0]).run P w= .ok (.string .empty) w from this)▸rfl
 ·rcases h3 with⟨rfl,rfl⟩ | ⟨g,cs,rfl,hb,hl,hp⟩
  ·exfalso;exact z<|RW eB
  ·have V:SH w F (star (Dec.pt g<|.cells cs.toArray e (0,0))<|Qh<|hs.eraseIdx i):=⟨Z,⟨m1,L,dd,s1,M,hb,N⟩,R⟩;have A:=V.owned
   have q:∀j x,s[j]? =some x->w.cell? ((⟨g,0,none⟩:C3).add j)=some (.int .u8 x.toNat):=λj x v=>by
    have G:(XL s)[j]? =some (x.toNat:Int):=by simp[XL,v]
    have:=hp j _ G F0<|Fz.le_refl _;have W:(cs.drop<|j*1).take 1=[Value.int .u8 x.toNat]:=this;rw[oP] at W
    have h6:cs[j]? =some (.int .u8 x.toNat):=by
     have:=congrArg (λl:Q0 UV=>l[0]?) W;simpa[yb,me] using this
    rw[HA];simp[World.cell?,A,h6]
   have h:=Go.Lib.run_unsafeString_row (P:=P) w pt u ty e B C g cs.length (by simp[World.shape?,A]) s z eB eB q
   have hw:w.freeze ⟨g,0,none⟩ s.length=put w g (.cells cs.toArray e (0,0+s.length)):=by
    have H:s.length≠0:=λe=>z<|RW e;unfold World.freeze put;rw[B1 H];congr 1;apply o6;intro j;rw[iz,Array.getElem?_setIfInBounds];split
    ·rename_i G;subst G;have:=lt_of_heap A;rw[BY this,A];rfl
    ·rfl
   rw[hw] at h
   have h7:=(V.put (o' :=.cells cs.toArray e (0,0+s.length))).drop;refine⟨.string<|bs s,_,?_,k K _ _ ⟨o.1.put I _,h7⟩⟩;have e8:bs s=⟨s.toArray⟩:=rfl;simp[execOp,resolve,invoke,builtin,o.1.eval v,o.1.eval y,h,e8]
end
def gP{α:Type}(P:B3)(F:Fz)(f:Rw)(eb:Q0 UV)(arg:α->Fz->Q0 UV->Prop)(Hs:Q0 HP)(l:Q0 α):Prop:=
 (∀args w,(callFunc f args).run P w= .ok (.enter f args) w)/\
 ∀(σ:Type) (b:Nat) (Y:σ->Fz->HP) (y:α->σ->K1 (σ×Bool)) (a:Fz),F<=a->WJ P b a arg Y y->∀s,Xs P f (.func (.yield b) #[] #[]::eb).toArray a (Hs++[Y s a]) (WG y l s) (λ_ _ _=>True) λc d=>[Y c d]
section
variable{β:Type}{P:B3}{ks:Q0 Kt}{Q:hP->Act->By->Prop}{r:β}{n:Nat}{D:Q0 AC}{S:Q0 (Nat×UV)}{F:Fz}{hs:Q0 HP}
variable{α τ γ:Type}{g:L5}{ps:Q0 Tmp}{assign body:la}{f:Rw}{eb:Q0 UV}{arg:α->Fz->Q0 UV->Prop}{bm:α->τ->K1 (UQ τ γ)}{s0:τ}{k:UQ τ γ->K1 β}
theorem GG.pJ{l:Q0 α}(Hs:Q0 HP)(is:Q0 Nat)(I:τ->Fz->Q0 HP->Prop)(J:γ->Fz->Q0 HP->Prop)(Z:QQ S g=some (.func (.func f) #[] eb.toArray))(C:gP P F f eb arg Hs l)(M:(ps.all λp=>Nat.blt p n)=true)(E:∀x j vs,arg x j vs->vs.length=ps.length)
  (hi:YN is hs=Hs) (N:I s0 F (YF is hs))
  (round:∀l L F0 B x vs s t R d,F<=F0->F0<=B->arg x B vs->I s F0 d->GC (some l) P assign [] (BP P l body<|RP l L I J B R t) (Hd n [] ((ps.zip vs).reverse++S) B<|pt l (UK L)::R::d) (bm x s) t)
  (next:∀q F0 j s d,F<=F0->F0<=j->Ay bm l s0=some (.next s)->I s F0 d->GE none P ks Q (Hd n (WZ q::D) S j<|pt q (.deferred<|some [])::d) (k<|.next s) r)
  (done:∀q F0 j b d,F<=F0->F0<=j->Ay bm l s0=some (.done b)->J b F0 d->GC none P .ret ks Q (Hd n (WZ q::D) S j<|pt q (.deferred<|some [])::d) (k<|.done b) r):GC none P (.rangeFunc g ps.toArray assign body) ks Q (Hd n D S F hs) ((Ay bm l s0).bind k) r:=by
 intro h a w o;cases G:Ay bm l s0 with
 | none=>rw[G] at h;cases h
 | some c=>
  rw[G] at h
  refine og λfn _=> ?_
  let L:Loop:={state:=.ready,pending:=none,fn,tmps:=a.tmps,params:=ps.toArray,assign,body,defers:=w.heap.size}
  have V:SH ((w.alloc<|.deferred<|some []).alloc<|.loop L) F (star (Qh<|Hs++[yS F (w.heap.size+1) L I J (.next s0) F])<|Qh [pt w.heap.size<|.deferred<|some []]):=by
   have u:=(o.2.alloc<|.deferred<|some []).alloc<|.loop L;rw[et] at u
   refine u.mono λm h=> ?_
   have h2:star (pt (w.heap.size+1)<|UK L) (star (pt w.heap.size<|.deferred<|some [])<|star (Qh Hs)<|Qh<|YF is hs) m:=
    QR (λm h=>QR (λm h=>by have:=UJ (ks:=is) h;rw[hi] at this;exact this) h) h
   have y:=PO<|QR (λm h=>Zj h)<|Zj h2;refine QP (λm h=> ?_)<|QR (λm h=>Jy h) y;refine K7<|QR (λm h=>Jy (p:=yS F (w.heap.size+1) L I J (.next s0) F) ⟨F,YF is hs,Fz.le_refl _,Fz.le_refl _,N,h⟩) h
  have hY:WJ P (w.heap.size+1) F arg (yS F (w.heap.size+1) L I J) (jc bm):=by
   refine R7 (S' :=λvs=>(ps.zip vs).reverse++S) (assign:=assign) (body:=body) (λx j vs W=>by rw[E x j vs W];simp[L]) rfl rfl (λvs _=>BA M ⟨o.1.1,rfl,o.1.2.2⟩) ?_;exact λF0 B x vs s t R d H u W N=>round _ L F0 B x vs s t R d H u W N
  have hc:=C.2 _ _ _ _ F (Fz.le_refl F) hY (.next s0) c (by rw[Fu];exact G) _ _ V;refine⟨w.heap.size+1,[WZ w.heap.size],(w.alloc<|.deferred<|some []).alloc<|.loop L,⟨.fn (.func f) eb.toArray,#[.func (.yield<|w.heap.size+1) #[] #[]]⟩,(w.alloc<|.deferred<|some []).alloc<|.loop L,f,(.func (.yield<|w.heap.size+1) #[] #[]::eb).toArray,(w.alloc<|.deferred<|some []).alloc<|.loop L,lx fn a.tmps ps.toArray assign body,?_,λ_ _=>trivial,?_,λe=>(by cases e),?_⟩
  ·have X:a.eval (.const<|.func (.yield<|w.heap.size+1) #[] #[])= .func (.yield<|w.heap.size+1) #[] #[]:=rfl;simp[resolve,Deferred.ofValue,o.1.eval Z,X]
  ·simp[invoke,C.1]
  ·refine hQ.2<|hc.mono ?_;rintro _ w' ⟨j,v,le,rfl, -,K⟩;cases c with
   | next s=>
    have z:SH w' j (star (yS F (w.heap.size+1) L I J (.next s) j)<|Qh [pt w.heap.size<|.deferred<|some []]):=K.mono λm h=>Wq h;obtain⟨F0,d,H,u,A,y⟩:=SH.sh z;refine⟨none,_,BB<|SH.cf (k:=0) rfl y,?_⟩;have Y:SH _ j (Qh<|pt w.heap.size (.deferred<|some [])::d):=(SH.sD 0<|SH.putAt (k:=0) rfl y<|Tq L none).mono λm h=>Wq h;exact next w.heap.size F0 j s d H u G A h _ _ ⟨⟨o.1.1,by simp[o.1.2.1],o.1.2.2⟩,Y⟩
   | done b=>
    have z:SH w' j (star (yS F (w.heap.size+1) L I J (.done b) j)<|Qh [pt w.heap.size<|.deferred<|some []]):=K.mono λm h=>Wq h;obtain⟨F0,d,H,u,A,y⟩:=SH.tD z;refine⟨some .ret,_,Lw<|SH.cf (k:=0) rfl y,?_⟩;have Y:SH _ j (Qh<|pt w.heap.size (.deferred<|some [])::d):=(SH.sD 0<|SH.putAt (k:=0) rfl y<|Tq L<|some .ret).mono λm h=>Wq h;exact done w.heap.size F0 j b d H u G A h _ _ ⟨⟨o.1.1,by simp[o.1.2.1],o.1.2.2⟩,Y⟩
end
theorem uv{K V:Type}[BEq K]{ck:K->UV}{rv:Fz->V->UV->Prop}{p:K1 Nat}{l:Q0 (K×V)}(h:Uu ck rv F p l)
  (a:∀b es clock w,w.heap[b]? =some (.map es clock)->Calls P f #[.map<|some b] w λe w' =>e= .returned (.map<|some w.heap.size)/\w' =w.alloc (.map es clock)) (w:By) (R:HP) (j:SH w F R):Calls P f #[.map p] w (λe w' =>∃b,e= .returned (.map<|some b)/\SH w' F (star (QZ ck rv F b l) R)):=by
 obtain⟨b,es,c,l',rfl,k,d,o,q,r⟩:=h;refine(a b es c w<|j.frozen o).mono ?_;rintro e w' ⟨rfl,rfl⟩;exact⟨_,rfl,(j.alloc<|.map es c).mono λm g=>QP (λm g=>⟨l',k,d,es,c,g,q,r⟩) g⟩
end
section
variable{f:Rw}{P:B3}{β:Type}{n:Nat}
variable{O:K1 Nat}{μ:Md}
section
variable{β:Type}{P:B3}{eG:So Nm}{rest:Q0 Nm}{ks:Q0 Kt}{Q:hP->Act->By->Prop}{m:K1 β}{r:β}
variable{n:Nat}{D:Q0 AC}{S:Q0 (Nat×UV)}{F:Fz}{hs:Q0 HP}{d:Nat}{ty:S1}{pos:String}{after:So lY}
theorem GG.th{α:Type}{eb b vs:Q0 UV}{of:L5}{os:Q0 L5}{T:So S1}{j:K1 (Q0 α)}{x:Q0 α}{l:Nat}{c:Uo α}{o:S1}(he:j=some x)(q:Nat.blt d n=true)
  (a:∀args w,(callFunc f args).run P w= .ok (.enter f args) w) (s:QQ S of=some (.func (.func f) #[] eb.toArray)) (t:Un S os=some vs) (has:vs++eb=b)
  (u:Ci P f b.toArray F j l c o) (k:∀e p cap,F<=e->GL O P eG rest ks Q (Hd n D ((d,.slice p x.length cap)::S) e<|Ql l c e o p cap x::hs) m r):GL O P eG (⟨some d,.call ⟨.value of,os.toArray,T⟩,ty,pos,after,none⟩::rest) ks Q (Hd n D S F hs) m r:=by
 have h:=GG.ru (O:=O) (P:=P) (eG:=eG) (rest:=rest) (ks:=ks) (Q:=Q) (r:=r) (n:=n) (D:=D) (S:=S) (F:=F) (hs:=hs) (d:=d) (ty:=ty) (pos:=pos) (after:=after) (T:=T) (g:=λ_=>m) q a s t has u (λx' e p cap i le=>by rw[he] at i;cases i;exact k e p cap le);rw[he] at h
 exact h
theorem GG.py{K V:Type}{ck:K->UV}{rv:Fz->V->UV->Prop}{of:L5}{os:Q0 L5}{T:So S1}{p:K1 Nat}{l:Q0 (K×V)}(h:Nat.blt d n=true)
  (c:∀args w,(callFunc f args).run P w= .ok (.enter f args) w) (i:QQ S of=some (.func (.func f) #[] #[])) (j:Un S os=some [.map p])
  (o:∀w R,SH w F R->Calls P f #[.map p] w (λe w' =>∃b,e= .returned (.map<|some b)/\SH w' F (star (QZ ck rv F b l) R)))
  (k:∀b,GL O P eG rest ks Q (Hd n D ((d,.map<|some b)::S) F<|QZ ck rv F b l::hs) m r):GL O P eG (⟨some d,.call ⟨.value of,os.toArray,T⟩,ty,pos,after,none⟩::rest) ks Q (Hd n D S F hs) m r:=
 GG.sq rfl (.inr rfl) λq a w g=>by
  refine⟨Wy (eb:=[]) (vs:=[.map p]) g.1 c i j,?_⟩;refine(o w _ g.2).mono ?_;rintro _ w' ⟨b,rfl,s⟩;exact⟨_,rfl,k b q _ _ ⟨g.1.put h _,s⟩⟩
end
theorem Xs.nN{fn:lX}{c:la}{args:Q0 UV}{F:Fz}{Hs:Q0 HP}{m:K1 β}{ρ:β->Fz->UV->Prop}{a:β->Fz->Q0 HP}
  (d:P.funcs[f]? =some fn) (g:fn.body=some c) (i:fn.ntmps=n) (j:Nat.ble args.length n=true)
  (k:∀r R,GC none P c [] (AE (G:=Unit) P fn F R (λ_=>ρ) (λ_=>a) r) (Hd n [] (D2 0 args) F<|Hs++[R]) m r):Xs P f args.toArray F Hs m ρ a:=by
 intro r b w R l;refine((hQ (n:=0)).1<|qAA d g trivial<|k r R b _ w ⟨?_,l.mono λm b=>K7<|QR (λ_ h=>Jy h) b⟩).mono ?_
 ·rw[i];exact WA j
 ·rintro e w' ⟨_,o,v,h⟩;exact⟨o,v,h⟩
section
variable{β:Type}{P:B3}{n:Nat}{S:Q0 (Nat×UV)}{F F' :Fz}{hs:Q0 HP}
variable{G ε:Type}{ec:ε->UV}{fn:lX}{R:HP}{ρ:G->β->Fz->UV->Prop}{Hs' :G->β->Fz->Q0 HP}{x r:β}{rs:Q0 ResultVar}{vs:Q0 UV}
theorem Fk{eb:Q0 UV}{Hs:Q0 HP}{j:ε->Fz->Q0 HP}{q:ε}(U:G)(c:∀args w,(callFunc f args).run P w= .ok (.enter f args) w)(p:wN P ec f eb.toArray F' Hs j)(is:Q0 Nat)(hi:YN is hs=Hs)(s:fn.results=rs.toArray)(h:∀b,F'<=b->Ss P S b (j q b++YF is hs) rs vs)(le:F<=F')
  (i:∀b w,F'<=b->SH w b (Qh<|j q b++YF is hs)->SH w b (star (Qh<|Hs' U x b) R)) (hρ:∀b,ρ U x b<|AU vs):some x=some r->∀a w,Hd n [Px f eb] S F' hs a w->AE P fn F R ρ Hs' r (.panic [{v:=ec q,recovered:=false}]) a w:=by
 intro e a w k;simp only[W1] at e
 subst e;show LeavesIn Fence.wide 0 P fn a.tmps _ a.defers (.panicking _) w;rw[k.1.2.1]
 have l:SH w F' (star (Qh Hs)<|Qh<|YF is hs):=k.2.mono λm t=>by
  have:=UJ (ks:=is) t;rw[hi] at this;exact this
 refine ie eF (λe=>by cases e) (TD c) Pk<|(p.2 q w _ l).mono ?_;rintro _ _ w' ⟨rfl,⟨v,rfl⟩,g,d,u⟩;have o:SH w' g (Qh<|j q g++YF is hs):=u.mono λ_=>K7;exact⟨_,Jm (n:=n) (a:=a) (D:=a.defers) s ⟨⟨k.1.1,rfl,k.1.2.2⟩,o⟩<|h g d,U,g,_,Fz.le_trans le d,rfl,hρ g,i g w' d o⟩
end
end
section
variable{c:la}
def jf(f:Rw)(P:B3)(c:la)(Q:hP->Act->By->Prop)(a:Act)(w:By):Prop:=∀(b:Frame) (k:Q0 Item) (cs:Q0 Frame),b.roundOf=none->b.fn=f->∃e d w',Q e d w'/\ArrivesIn (Machine.fenced P Fence.wide) P (lone (b.atR a<|.code c::k) cs w) b k cs e d w'
section
variable{f:Rw}{P:B3}{Q Q' :hP->Act->By->Prop}{a:Act}{w:By}
theorem vN(h:c.wpIn Fence.wide 0 P Q a w):jf f P c Q a w:=λb k cs d _=>h b k cs d trivial<|room_wide _
theorem vO(h:jf f P c Q a w)(d:∀e a w,Q e a w->Q' e a w):jf f P c Q' a w:=λb k cs g i=>let⟨e,j,w',q,s⟩:=h b k cs g i;⟨e,j,w',d _ _ _ q,s⟩
theorem wV{x y:la}(h:jf f P x (Exit.then (jf f P y Q) Q) a w):jf f P (.seq x y) Q a w:=by
 intro b k cs j m;have g:(lone (b.atR a<|.code (.seq x y)::k) cs w).fenced P Fence.wide:=mo _ _;obtain⟨e,a₁,w₁,i,d⟩:=h b (.code y::k) cs j m;cases e with
 | normal=>
  obtain⟨e₂,a₂,w₂,hq₂,harr₂⟩:=i b k cs j m;exact⟨e₂,a₂,w₂,hq₂,.of_steps (.head g oq d) harr₂⟩
 | exit id=>exact⟨_,a₁,w₁,i,.of_steps (.one g oq)<|.pass (x:=.code y) rfl (λ_ _=>.inl eF) d⟩
 | goto l=>exact⟨_,a₁,w₁,i,.of_steps (.one g oq)<|.pass (x:=.code y) rfl (λ_ _=>.inl eF) d⟩
 | ret=>exact⟨_,a₁,w₁,i,.of_steps (.one g oq)<|.pass (x:=.code y) rfl (λ_ _=>.inl eF) d⟩
 | panic n=>exact⟨_,a₁,w₁,i,.of_steps (.one g oq)<|.pass (x:=.code y) rfl (λ_ _=>.inl eF) d⟩
 | outgrown=>exact⟨_,a₁,w₁,i,.of_steps (.one g oq)<|.pass (x:=.code y) rfl (λ_ _=>.inl eF) d⟩
theorem je{id:Nat}(h:jf f P c (Exit.inBlock id Q) a w):jf f P (.block id c) Q a w:=by
 intro b k cs q u;have i:(lone (b.atR a<|.code (.block id c)::k) cs w).fenced P Fence.wide:=mo _ _;obtain⟨e,a₁,w₁,j,d⟩:=h b (.inBlock id::k) cs q u;cases e with
 | normal=>exact⟨.normal,a₁,w₁,j,.head i ln<|td d<|.one (mo _ _) stepR_inBlock⟩
 | exit g=>
  by_cases m:g=id
  ·simp only[Exit.inBlock,m,B2] at j
   exact⟨.normal,a₁,w₁,j,.head i ln<|d.1 k<|by simp[exitTo,m]⟩
  ·simp only[Exit.inBlock,m,Bm] at j
   have this:(id==g)=false:=by simp;exact λh=>m h.symm
   have p:exitTo g (.inBlock id::k)=exitTo g k:=by simp[exitTo,this]
   exact⟨.exit g,a₁,w₁,j,λr n=>.head i ln (d.1 r (by rw[p];exact n)),
    λo n=>let⟨k₁,s,t⟩:=d.2 o (by rw[p];exact n);⟨k₁,s,.head i ln t⟩⟩
 | goto l=>
  have p:gotoIn l (.inBlock id::k)=gotoIn l k:=by simp[gotoIn]
  exact⟨_,a₁,w₁,j,λr n=>.head i ln (d.1 r (by rw[p];exact n)),
   λo n=>let⟨k₁,s,t⟩:=d.2 o (by rw[p];exact n);⟨k₁,s,.head i ln t⟩⟩
 | ret=>exact⟨_,a₁,w₁,j,.of_steps (.one i ln) d⟩
 | panic v=>exact⟨_,a₁,w₁,j,.of_steps (.one i ln) d⟩
 | outgrown=>exact⟨_,a₁,w₁,j,.of_steps (.one i ln) d⟩
theorem IJ{fn:lX}{args:So UV}{R:o5->By->Prop}(t:P.funcs[f]? =some fn)(v:fn.body=some c)
  (h:jf f P c (bodyPostM Fence.wide 0 P fn R) {tmps:=args++Array.replicate (fn.ntmps - args.size) undef,defers:=[]} w):Calls P f args w R:=by
 refine(hQ (n:=0)).1 ⟨trivial,λcs u=> ?_⟩
 let b:Frame:={(default:Frame) with fn:=f,kind:=.normal,roundOf:=none}
 have m:Frame.enter P f args .normal=b.atR {tmps:=args++Array.replicate (fn.ntmps - args.size) undef,defers:=[]} [.code c]:=by
  simp[Frame.enter,Frame.atR,t,v,b]
 obtain⟨e,o,w',p,d⟩:=h b [] cs rfl rfl;rw[<-m] at d
 cases e with
 | normal=>
  obtain⟨q,g,i,r,hs,j,s⟩:=iS o.defers .returning w' {b.atR o [] with mode:=.returning} cs rfl rfl rfl t rfl trivial u p;exact⟨q,g,i,r,iP (td d<|.one (mo _ _)<|stepR_end rfl) hs,j,s⟩
 | ret=>
  obtain⟨k,hs₀⟩:=d.1 rfl;obtain⟨q,g,i,r,hs,j,s⟩:=iS o.defers .returning w' {b.atR o k with mode:=.returning} cs rfl rfl rfl t rfl trivial u p;exact⟨q,g,i,r,iP hs₀ hs,j,s⟩
 | panic chain=>
  obtain⟨k,hs₀⟩:=d;obtain⟨q,g,i,r,hs,j,s⟩:=iS o.defers (.panicking chain) w' {b.atR o k with mode:=.panicking chain} cs rfl rfl rfl t rfl trivial u p;exact⟨q,g,i,r,iP hs₀ hs,j,s⟩
 | exit id=>exact p.elim
 | goto l=>exact p.elim
 | outgrown=>exact⟨.outgrown,w',b,p,d.resolve_left (by simp[b]),rfl,trivial⟩
def ze(P:B3)(l:Nat)(R:o5->By->Prop):hP->Act->By->Prop
 | .panic chain,a,w=>a.defers=[]/\R (.panicked chain) w
 | e,a,w=>roundPost P l R e a w
theorem jz{l:Nat}{fn:lX}{tmps:So UV}{assign body:la}{R:o5->By->Prop}(s:P.funcs[f]? =some fn)
  (h:assign.wpIn (Fence.wide.inRound l) 0 P (Exit.then (λa₁ w₁=>∃w₂,(Instr.beginRound l).run P w₁= .ok () w₂/\body.wpIn (Fence.wide.inRound l) 0 P (ze P l R) a₁ w₂) λ_ _ _=>False)
   {tmps:=tmps,defers:=[]} w):RoundIn Fence.wide 0 P l f tmps assign body w R:=by
 refine⟨trivial,λc cs u=> ?_⟩
 let b:Frame:={(default:Frame) with fn:=f,kind:=.normal,roundOf:=some l}
 have p:Frame.round l f tmps assign body .normal=b.atR {tmps:=tmps,defers:=[]} [.code assign,.beginRound,.code body]:=by
  simp[Frame.round,Frame.atR,b]
 have m:(Fence.wide.inRound l).room ((c::cs).length+1+0):=u;obtain⟨e,a₁,w₁,k,g⟩:=h b [.beginRound,.code body] (c::cs) rfl trivial m;rw[<-p] at g
 cases e with
 | normal=>
  obtain⟨w₂,q,j⟩:=k
  have n:StepsIn (Machine.fenced P<|Fence.wide.inRound l) P (lone (b.atR a₁ [.beginRound,.code body]) (c::cs) w₁) (lone (b.atR a₁ [.code body]) (c::cs) w₂):=
   .one (mo _ _) (stepR_beginRound rfl q)
  obtain⟨e₂,a₂,w₃,hq₂,harr₂⟩:=j b [] (c::cs) rfl trivial m;cases e₂ with
  | normal=>
   obtain⟨v,w₄,d,i⟩:=hq₂;exact⟨.returned v,w₄,i,(td g n).trans<|td harr₂<|.one (mo _ _)<|stepR_round_end rfl rfl d⟩
  | ret=>
   obtain⟨v,w₄,d,i⟩:=hq₂;obtain⟨k₁,hs⟩:=harr₂.2 rfl;exact⟨.returned v,w₄,i,(td g n).trans<|td hs<|.one (mo _ _)<|stepR_round_ret rfl rfl d⟩
  | exit id=>
   obtain⟨v,w₄,d,i⟩:=hq₂;obtain⟨k₁,r,hs⟩:=harr₂.2 rfl rfl;exact⟨.returned v,w₄,i,(td g n).trans<|td hs<|.one (mo _ _)<|stepR_round_exit rfl rfl r d⟩
  | goto t=>
   obtain⟨v,w₄,d,i⟩:=hq₂;obtain⟨k₁,r,hs⟩:=harr₂.2 rfl rfl;exact⟨.returned v,w₄,i,(td g n).trans<|td hs<|.one (mo _ _)<|stepR_round_goto rfl rfl r d⟩
  | panic chain=>
   obtain⟨x,i⟩:=hq₂;obtain⟨o,hs⟩:=harr₂;have y:Frame.leaving P {b.atR a₂ o with mode:=.panicking chain} w₃ (.panicked chain):=⟨rfl,x,fn,s⟩;exact⟨.panicked chain,w₃,i,(td g n).trans<|td hs<|.one (mo _ _)<|qAF y⟩
  | outgrown=>exact hq₂.elim
 | exit id=>exact k.elim
 | goto t=>exact k.elim
 | ret=>exact k.elim
 | panic chain=>exact k.elim
 | outgrown=>exact k.elim
theorem M6{g:L5}{ps:So Tmp}{assign body:la}
  (h:∃(l:Nat) (mark:Q0 AC) (w₁:By) (d:AC) (w₁' :By) (y:Rw) (args:So UV) (w₂:By),
   (Instr.enterLoop f a.tmps ps assign body none).run P w= .ok (l,mark) w₁/\(resolve a.eval (rangeCall g l) 0).run P w₁= .ok d w₁'/\(invoke d.target d.args).run P w₁' = .ok (.enter y args) w₂/\
   Calls P y args w₂ (λe w₃=>match e with
    | .returned _=>∃i w₄,(Instr.endLoop l).run P w₃= .ok i w₄/\(match i with | none=>Q .normal {a with defers:=mark++a.defers} w₄ | some c=>jf f P c Q {a with defers:=mark++a.defers} w₄)
    | .panicked chain=>Q (.panic chain) {a with defers:=mark++a.defers} w₃
    | .outgrown=>False)):jf f P (.rangeFunc g ps assign body) Q a w:=by
 intro b k cs r B;obtain⟨l,mark,w₁,d,w₁',y,args,w₂,he,s,t,q⟩:=h;rw[<-B,<-r] at he
 have j:=stepR_rangeFunc (P:=P) (b:=b) (a:=a) (k:=k) (cs:=cs) (w:=w) he s t;obtain⟨e,w₃,fr,z,m,D,o⟩:=(hQ (n:=0)).2 q |>.2 (b.atR {a with defers:=mark++a.defers} (.inRangeFunc l::k)::cs) (room_wide _);cases e with
 | outgrown=>exact z.elim
 | returned v=>
  obtain⟨i,w₄,u,C⟩:=z
  have p:StepsIn (Machine.fenced P Fence.wide) P (lone (b.atR a<|.code (.rangeFunc g ps assign body)::k) cs w) (lone (b.atR {a with defers:=mark++a.defers}<|(i.map Item.code).toList++k) cs w₄):=by
   refine .head (mo _ _) j<|td m<|.head (mo _ _) ?_<|.one (mo _ _)<|stepR_endRangeFunc u;rw[<-finish_atR_inRangeFunc l v];exact step_leave_returned o
  cases i with
  | none=>exact⟨.normal,_,w₄,C,p⟩
  | some c=>
   obtain⟨E,A,w₅,F,x⟩:=C b k cs r B;exact⟨E,A,w₅,F,.of_steps p x⟩
 | panicked chain=>
  refine⟨.panic chain,_,w₃,z,.inRangeFunc l::k,.head (mo _ _) j<|td m<|.one (mo _ _) ?_⟩;rw[<-Frame.raise_atR];exact qAF o
end
end
section
variable{Q:hP->Act->By->Prop}{ε α σ τ β:Type}{S:Q0 (Nat×UV)}{arg:α->Fz->Q0 UV->Prop}{ec:ε->UV}{P:B3}{A:Act->By->Prop}{f:Rw}{ks:Q0 Kt}{hs hs':Q0 HP}{c:la}{F:Fz}{n:Nat}{D:Q0 AC}{m:K1 β}{r:β}
variable{O:K1 Nat}{μ:Md}
abbrev A0(ec:ε->UV)(q:ε):Q0 PanicEntry:=[{v:=ec q,recovered:=false}]
def Xq(f:Rw)(P:B3):Q0 Kt->(hP->Act->By->Prop)->hP->Act->By->Prop
 | [],Q=>Q
 | .code c::ks,Q=>Exit.then (jf f P c<|Xq f P ks Q) (Xq f P ks Q)
 | .block id::ks,Q=>Exit.inBlock id<|Xq f P ks Q
def GB(f:Rw)(P:B3)(c:la)(ks:Q0 Kt)(Q:hP->Act->By->Prop)(A:Act->By->Prop)(m:K1 β)(r:β):Prop:=m=some r->∀a w,A a w->jf f P c (Xq f P ks Q) a w
section
variable{β:Type}{f:Rw}{P:B3}{ks:Q0 Kt}{Q:hP->Act->By->Prop}{A:Act->By->Prop}{m:K1 β}{r:β}
theorem GB.q{x y:la}(h:GB f P x (.code y::ks) Q A m r):GB f P (.seq x y) ks Q A m r:=λb a w d=>wV<|h b a w d
theorem GB.k{id:Nat}(h:GB f P c (.block id::ks) Q A m r):GB f P (.block id c) ks Q A m r:=λb a w d=>je<|h b a w d
theorem GB.g(h:GC none P c [] (Xq f P ks Q) A m r):GB f P c ks Q A m r:=λb a w d=>vN<|h b a w d
theorem GG.cb(h:GB f P c ks Q A m r):GE none P [] (Xq f P (.code c::ks) Q) A m r:=h
theorem VA:∀(ks:Q0 Kt) {e:hP} {a:Act} {w:By},Zw none P ks Q e a w->Xq f P ks Q e a w
 | [],_,_,_,h=>h
 | .code c::ks,.normal,a,w,h=>vO (vN<|show c.wpIn Fence.wide 0 P (Zw none P ks Q) a w from h) λ_ _ _=>VA ks
 | .code c::ks,.exit id,a,w,h=>VA (e:=.exit id) ks h
 | .code c::ks,.goto l,a,w,h=>VA (e:=.goto l) ks h
 | .code c::ks,.ret,a,w,h=>VA (e:=.ret) ks h
 | .code c::ks,.panic d,a,w,h=>VA (e:=.panic d) ks h
 | .code c::ks,.outgrown,a,w,h=>VA (e:=.outgrown) ks h
 | .block id::ks,.exit b,a,w,h=>by
  show(if b=id then Xq f P ks Q .normal a w else Xq f P ks Q (.exit b) a w);have h' :(if b=id then Zw none P ks Q .normal a w else Zw none P ks Q (.exit b) a w):=h;by_cases hi:b=id
  ·rw[BY hi] at h' ⊢;exact VA ks h'
  ·rw[B1 hi] at h' ⊢;exact VA ks h'
 | .block id::ks,.normal,a,w,h=>VA (e:=.normal) ks h
 | .block id::ks,.goto l,a,w,h=>VA (e:=.goto l) ks h
 | .block id::ks,.ret,a,w,h=>VA (e:=.ret) ks h
 | .block id::ks,.panic d,a,w,h=>VA (e:=.panic d) ks h
 | .block id::ks,.outgrown,a,w,h=>VA (e:=.outgrown) ks h
theorem GN{c:Q0 PanicEntry}{a:Act}{w:By}:∀{ks:Q0 Kt},Q (.panic c) a w->Xq f P ks Q (.panic c) a w
 | [],k=>k
 | .code c::ks,k=>by show Xq f P ks Q (.panic _) a w;exact GN k
 | .block j::ks,k=>by show Xq f P ks Q (.panic _) a w;exact GN k
theorem Vq.nO{fn:lX}{args:Q0 UV}{Hs:Q0 HP}{m:K1 (Out ε β)}{ρ:β->Fz->UV->Prop}{a:β->Fz->UV->Q0 HP}
  (d:P.funcs[f]? =some fn) (e:fn.body=some c) (g:fn.ntmps=n) (i:Nat.ble args.length n=true)
  (k:∀r R,GB f P c [] (SN P ec fn F R ρ a r) (Hd n [] (D2 0 args) F<|Hs++[R]) m r):Vq P ec f args.toArray F Hs m ρ a:=by
 intro r b w R j;refine IJ d e<|k r R b _ w ⟨?_,j.mono λm b=>K7<|QR (λ_ h=>Jy h) b⟩;rw[g];exact WA i
end
section
variable{β:Type}{f:Rw}{P:B3}{c:la}{ks:Q0 Kt}{Q:hP->Act->By->Prop}{m:K1 β}{r:β}{n:Nat}{D:Q0 AC}{S S' :Q0 (Nat×UV)}{F:Fz}{hs hs' :Q0 HP}
theorem GB.o(s:Sub S' S)(e:hs=hs')(k:GB f P c ks Q (Hd n D S' F hs') m r):GB f P c ks Q (Hd n D S F hs) m r:=λd a w b=>k d a w ⟨b.1.sub s,e▸b.2⟩
end
theorem dy{c:Q0 PanicEntry}(h:m=some r->∀a w,A a w->Q (.panic c) a w):m=some r->∀a w,A a w->Xq f P ks Q (.panic c) a w:=λb a w d=>GN<|h b a w d
def YP(ec:ε->UV)(ret:σ->o5->Prop)(Y:σ->Fz->HP)(Z:ε->Fz->HP)(F:Fz)(R:HP)(r:Out ε σ)(e:o5)(w:By):Prop:=
 ∃a,F<=a/\match r with
  | .ok p=>ret p e/\SH w a (star (Y p a) R)
  | .pan q=>e= .panicked (A0 ec q)/\SH w a (star (Z q a) R)
def PF(P:B3)(ec:ε->UV)(l:Nat)(F:Fz)(arg:α->Fz->Q0 UV->Prop)(Y:σ->Fz->HP)(Z:ε->Fz->HP)(y:α->σ->K1 (Out ε<|σ×Bool)):Prop:=
 (∀s F0 a m,F<=F0->F0<=a->Y s F0 m->Y s a m)/\
 ∀a,F<=a->∀x vs s r,arg x a vs->y x s=some r->∀w R,SH w a (star (Y s a) R)->
  ∃f b assign body,(Instr.yield l vs.toArray).run P w= .ok (.round l f b assign body) w/\
   RoundIn Fence.wide 0 P l f b assign body w (YP ec (fun(p:σ×Bool) e=>e= .returned (.bool p.2)) (λp=>Y p.1) Z a R r)
def dY(P:B3)(ec:ε->UV)(f:Rw)(args:So UV)(F:Fz)(H:HP)(m:K1 (Out ε σ))(Y:σ->Fz->HP)(Z:ε->Fz->HP):Prop:=∀r,m=some r->∀w R,SH w F (star H R)->Calls P f args w (YP ec (λ_ e=>∃v,e= .returned v) Y Z F R r)
def xq(P:B3)(F:Fz)(f:Rw)(eb:Q0 UV)(arg:α->Fz->Q0 UV->Prop)(mk:∀ε σ:Type,(α->σ->K1 (Out ε<|σ×Bool))->σ->K1 (Out ε σ)):Prop:=
 (∀args w,(callFunc f args).run P w= .ok (.enter f args) w)/\
 ∀(ε σ:Type) (ec:ε->UV) (l:Nat) (Y:σ->Fz->HP) (Z:ε->Fz->HP) (y:α->σ->K1 (Out ε<|σ×Bool)) (a:Fz),F<=a->PF P ec l a arg Y Z y->∀s,dY P ec f (.func (.yield l) #[] #[]::eb).toArray a (Y s a) (mk ε σ y s) Y Z
def Gr(y:α->σ->K1 (Out ε<|σ×Bool)):Q0 α->σ->K1 (Out ε σ)
 | [],s=>some (.ok s)
 | x::xs,s=>Q4 (y x s) (λq=>some<|.pan q) λp=>if p.2 then Gr y xs p.1 else some (.ok p.1)
def St(P:B3)(F:Fz)(f:Rw)(eb:Q0 UV)(arg:α->Fz->Q0 UV->Prop)(l:Q0 α):Prop:=xq P F f eb arg λ_ _ y s=>Gr y l s
theorem Eh{y:α->σ->K1 (σ×Bool)}:∀(l:Q0 α) (s:σ),Gr (ε:=Empty) (λx s=>(y x s).map .ok) l s=(WG y l s).map .ok
 | [],s=>rfl
 | x::xs,s=>by
  simp only[Gr,WG];cases y x s with
  | none=>rfl
  | some p=>
   simp only[L4,Q4,K2];split
   ·exact Eh xs p.1
   ·rfl
theorem St.plain{eb:Q0 UV}{l:Q0 α}(h:St P F f eb arg l):NL P F f eb arg l:=by
 refine⟨h.1,λσ u Y y z le t s r B w R j=> ?_⟩
 have C:=h.2 Empty σ (λq=>q.elim) u Y (λq=>q.elim) (λx s=>(y x s).map .ok) z le
  ⟨t.1,λE G x vs s r H a w R j=>by
   replace a:(y x s).map Out.ok=some r:=a
   cases b:y x s with
   | none=>rw[b] at a;cases a
   | some p=>
    rw[b] at a
    simp only[L4,W1] at a
    subst a;obtain⟨g,i,assign,body,I,K⟩:=t.2 E G x vs s p H b w R j;exact⟨g,i,assign,body,I,K.mono λe w' ⟨k,d,he,o⟩=>⟨k,d,he,o⟩⟩⟩ s (.ok r) ((Eh l s).trans (by rw[show WG y l s=some r from B];rfl)) w R j
 exact C.mono λe w' ⟨k,d,⟨v,he⟩,o⟩=>⟨k,v,d,he,trivial,o⟩
section
variable{β ε α σ:Type}{P:B3}{eG:So Nm}{rest:Q0 Nm}{ks:Q0 Kt}{Q:hP->Act->By->Prop}{r:β}{n:Nat}{D:Q0 AC}{S:Q0 (Nat×UV)}{F:Fz}{hs:Q0 HP}
theorem GG.nU{ec:ε->UV}{l d i:Nat}{ty:S1}{pos:String}{after:So lY}{vs:Q0 UV}{of:L5}{os:Q0 L5}{T:So S1}{C F0:Fz}{arg:α->Fz->Q0 UV->Prop}{Y:σ->Fz->HP}{Z:ε->Fz->HP}{y:α->σ->K1 (Out ε<|σ×Bool)}{x:α}{s:σ}{gp:ε->K1 β}{g:σ×Bool->K1 β}
  (I:Nat.blt d n=true) (E:PF P ec l C arg Y Z y) (K:QQ S of=some (.func (.yield l) #[] #[])) (L:Un S os=some vs) (M:arg x F vs) (hi:hs[i]? =some (Y s F0)) (o:C<=F0) (le:F0<=F)
  (k:∀p j,y x s=some (.ok p)->F<=j->GL O P eG rest ks Q (Hd n D ((d,.bool p.2)::S) j<|hs.set i<|Y p.1 j) (g p) r)
  (N:∀q j,F<=j->gp q=some r->∀a w,Hd n D S j (hs.set i<|Z q j) a w->Q (.panic<|A0 ec q) a w):GL O P eG (⟨some d,.call ⟨.value of,os.toArray,T⟩,ty,pos,after,none⟩::rest) ks Q (Hd n D S F hs) (Q4 (y x s) gp g) r:=by
 intro b a w t;cases he:y x s with
 | none=>rw[he] at b;cases b
 | some p=>
  rw[he] at b
  obtain⟨f,u,assign,body,R,h⟩:=E.2 F (Fz.le_trans o le) x vs s p M he w _<|(t.2.pull hi).mono λ_ b=>QP (λ_ b=>E.1 s F0 F _ o le b) b;refine fg ?_;unfold Xl;rw[BY<|by simp[Region.wanted]];refine⟨.inr rfl,?_⟩;have e:=HT t.1 L
  have v:(execOp a.eval ⟨some d,.call ⟨.value of,os.toArray,T⟩,ty,pos,after,none⟩).run P w= .ok (.round l f u assign body) w:=by
   simp[execOp,resolve,Deferred.ofValue,t.1.eval K,e,invoke,R]
  rw[v];refine⟨λe=>(by rw[BS] at e;cases e),Ly.2<|h.mono ?_⟩;rintro e w' ⟨G,z,H⟩;cases p with
  | ok p=>obtain⟨rfl,B⟩:=H;exact k p G he z b _ _ ⟨t.1.put I _,SH.push hi B⟩
  | pan q=>obtain⟨rfl,B⟩:=H;exact JB<|N q G z b _ _ ⟨t.1,SH.push hi B⟩
end
def LQ(b:α->τ->K1 (Out ε τ)):Q0 α->τ->K1 (Out ε τ)
 | [],s=>some (.ok s)
 | x::xs,s=>Q4 (b x s) (λq=>some<|.pan q)<|LQ b xs
def vJ(b:α->τ->K1 (Out ε τ))(x:α)(s:τ):K1 (Out ε<|τ×Bool):=Q4 (b x s) (λq=>some<|.pan q) λa=>some<|.ok (a,true)
theorem Rg(b:α->τ->K1 (Out ε τ)):∀(l:Q0 α) (s:τ),Gr (vJ b) l s=LQ b l s
 | [],s=>rfl
 | x::xs,s=>by
  simp only[Gr,vJ,LQ];cases b x s with
  | none=>rfl
  | some c=>
   cases c with
   | ok a=>simpa[Q4] using Rg b xs a
   | pan q=>rfl
def yN(a:Fz)(l:Nat)(L:Loop)(I:τ->Fz->Q0 HP->Prop)(s:τ)(F:Fz):HP:=λm=>∃F0 hs,a<=F0/\F0<=F/\I s F0 hs/\star (pt l<|UK L) (Qh hs) m
def yZ(a:Fz)(l:Nat)(L:Loop)(b:ε->Fz->Q0 HP->Prop)(q:ε)(F:Fz):HP:=λm=>∃F0 hs,a<=F0/\F0<=F/\b q F0 hs/\star (pt l<|UF L) (Qh hs) m
def fV(ec:ε->UV)(l:Nat)(L:Loop)(I:τ->Fz->Q0 HP->Prop)(g:ε->Fz->Q0 HP->Prop)(d:Fz)(R:HP)(r:Out ε τ):hP->Act->By->Prop:=λe a w=>
 match r with
 | .ok s=>e= .normal/\∃b hs,d<=b/\I s b hs/\SH w b (Qh<|pt l (UF L)::R::hs)
 | .pan q=>e= .panic (A0 ec q)/\a.defers=[]/\∃b hs,d<=b/\g q b hs/\SH w b (Qh<|pt l (UF L)::R::hs)
section
variable{ε τ:Type}{ec:ε->UV}{l:Nat}{L:Loop}{I:τ->Fz->Q0 HP->Prop}{Jp:ε->Fz->Q0 HP->Prop}{n:Nat}{S:Q0 (Nat×UV)}{F F1:Fz}{hs:Q0 HP}{R:HP}
theorem fV.norm{s:τ}{r:Out ε τ}{hs' :Q0 HP}(le:F1<=F)(h:I s F hs')(e:hs=pt l (UF L)::R::hs'):some (Out.ok s)=some r->∀a w,Hd n [] S F hs a w->fV ec l L I Jp F1 R r .normal a w:=λb a w d=>by
 simp only[W1] at b;subst b;subst e;exact⟨rfl,F,hs',le,h,d.2⟩
theorem fV.pan{q:ε}{r:Out ε τ}(le:F1<=F)(h:Jp q F hs')(e:hs=pt l (UF L)::R::hs'):some (Out.pan q)=some r->∀a w,Hd n [] S F hs a w->fV ec l L I Jp F1 R r (.panic<|A0 ec q) a w:=λb a w d=>by
 simp only[W1] at b;subst b;subst e;exact⟨rfl,d.1.2.1,F,hs',le,h,d.2⟩
end
section
variable{β:Type}{P:B3}{ks:Q0 Kt}{Q:hP->Act->By->Prop}{r:β}{n:Nat}{D:Q0 AC}{S:Q0 (Nat×UV)}{F:Fz}{hs:Q0 HP}
variable{ε α τ:Type}{ec:ε->UV}{g:L5}{ps:Q0 Tmp}{assign body:la}{f f0:Rw}{fn0:lX}{eb:Q0 UV}{arg:α->Fz->Q0 UV->Prop}{bm:α->τ->K1 (Out ε τ)}{s0:τ}{l:Q0 α}{gp:ε->K1 β}{k:τ->K1 β}
theorem GB.aH(I:τ->Fz->Q0 HP->Prop)(Jp:ε->Fz->Q0 HP->Prop)(hf:P.funcs[f0]? =some fn0)(hg:QQ S g=some (.func (.func f) #[] eb.toArray))(T:St P F f eb arg l)(aG:(ps.all λp=>Nat.blt p n)=true)(V:∀x j vs,arg x j vs->vs.length=ps.length)
  (hI:I s0 F hs)
  (round:∀l L F0 C x vs s o R hs',F<=F0->F0<=C->arg x C vs->I s F0 hs'->GC (some l) P assign [] (BP P l body<|fV ec l L I Jp C R o) (Hd n [] ((ps.zip vs).reverse++S) C<|pt l (UK L)::R::hs') (bm x s) o)
  (next:∀q F0 j s hs',F<=F0->F0<=j->LQ bm l s0=some (.ok s)->I s F0 hs'->GE none P ks Q (Hd n (WZ q::D) S j<|pt q (.deferred<|some [])::hs') (k s) r)
  (pan:∀q F0 j e hs',F<=F0->F0<=j->LQ bm l s0=some (.pan e)->Jp e F0 hs'->gp e=some r->∀a w,Hd n (WZ q::D) S j (pt q (.deferred<|some [])::hs') a w->Q (.panic<|A0 ec e) a w):GB f0 P (.rangeFunc g ps.toArray assign body) ks Q (Hd n D S F hs) (Q4 (LQ bm l s0) gp k) r:=by
 intro b a w u;cases W:LQ bm l s0 with
 | none=>rw[W] at b;cases b
 | some c=>
  rw[W] at b
  let L:Loop:={state:=.ready,pending:=none,fn:=f0,tmps:=a.tmps,params:=ps.toArray,assign,body,defers:=w.heap.size}
  have aH:SH ((w.alloc<|.deferred<|some []).alloc<|.loop L) F (star (yN F (w.heap.size+1) L I s0 F)<|Qh [pt w.heap.size<|.deferred<|some []]):=by
   have t:=(u.2.alloc<|.deferred<|some []).alloc<|.loop L;rw[et] at t
   have h2:SH ((w.alloc<|.deferred<|some []).alloc<|.loop L) F (Qh<|pt (w.heap.size+1) (UK L)::Qh [pt w.heap.size<|.deferred<|some []]::hs):=by
    refine t.mono λm b=>QR (λm b=>QP (λm b=> ?_) b) b;exact⟨m,λ_=>none,λ_=>.inr rfl,Mem.sub.refl _,λ_ _ e=>by simp at e,b,trivial⟩
   exact(SH.three h2).mono λm b=>QP (λm b=>⟨F,hs,Fz.le_refl _,Fz.le_refl _,hI,b⟩) b
  have hY:PF P ec (w.heap.size+1) F arg (yN F (w.heap.size+1) L I) (yZ F (w.heap.size+1) L Jp) (vJ bm):=by
   refine⟨λs F0 C m _ t ⟨G,hs,g0,g1,k⟩=>⟨G,hs,g0,Fz.le_trans g1 t,k⟩,λC t x vs s r hx y w' R hw=> ?_⟩;obtain⟨m,⟨E,X,d,z,Y,⟨F0,aI,Z,aJ,aK,B⟩,i⟩,hk⟩:=hw;have aB:=SH.aa ⟨m,⟨E,X,d,z,Y,B,i⟩,hk⟩;have aL:w'.heap[w.heap.size+1]? =some (UK L):=SH.cf (k:=0) rfl aB;have hn:=V x C vs hx;refine⟨L.fn,_,L.assign,L.body,run_yield (r:={L with state:=.ready,pending:=none}) aL (by simpa[L] using hn),?_⟩;refine jz hf ?_;cases hc:bm x s with
   | none=>unfold vJ at y;rw[hc] at y;cases y
   | some o=>
    have aM:=round (w.heap.size+1) L F0 C x vs s o R aI Z aJ hx aK hc _ w' ⟨BA aG ⟨u.1.1,rfl,u.1.2.2⟩,aB⟩;refine oD aM λe a1 w1 i=> ?_;obtain⟨rfl,w2,aN,H⟩:=i;refine⟨w2,aN,oD H λe a2 w3 i=> ?_⟩;unfold vJ at y
    rw[hc] at y
    cases o with
    | ok s' =>
     simp only[Q4,W1] at y
     subst y;obtain⟨rfl,F2,K,le,M,h⟩:=i;refine⟨_,_,I5<|SH.cf (k:=0) rfl h,F2,le,rfl,(SH.three<|SH.putAt (k:=0) rfl h<|UK L).mono λm b=>QP (λm b=> ?_) b⟩;exact⟨F2,K,Fz.le_trans t le,Fz.le_refl _,M,b⟩
    | pan q=>
     simp only[Q4,W1] at y
     subst y;obtain⟨rfl,hd,F2,K,le,M,h⟩:=i;exact⟨hd,F2,le,rfl,(SH.three h).mono λm b=>QP (λm b=>⟨F2,K,Fz.le_trans t le,Fz.le_refl _,M,b⟩) b⟩
  have hc:=T.2 _ _ ec _ _ _ _ F (Fz.le_refl F) hY s0 c (by show Gr _ _ _=_;rw[Rg,W]) _ _ aH;refine M6 ⟨w.heap.size+1,[WZ w.heap.size],(w.alloc<|.deferred<|some []).alloc<|.loop L,⟨.fn (.func f) eb.toArray,#[.func (.yield<|w.heap.size+1) #[] #[]]⟩,(w.alloc<|.deferred<|some []).alloc<|.loop L,f,(.func (.yield<|w.heap.size+1) #[] #[]::eb).toArray,(w.alloc<|.deferred<|some []).alloc<|.loop L,lx f0 a.tmps ps.toArray assign body,?_,?_,?_⟩
  ·have aO:a.eval (.const<|.func (.yield<|w.heap.size+1) #[] #[])= .func (.yield<|w.heap.size+1) #[] #[]:=rfl;simp[resolve,Deferred.ofValue,u.1.eval hg,aO]
  ·simp[invoke,T.1]
  ·refine hc.mono ?_;rintro e w' ⟨j,le,i⟩;cases c with
   | ok s=>
    obtain⟨⟨v,rfl⟩,m,⟨E,X,d,z,Y,⟨F0,hs',Z,t,N,B⟩,i⟩,hk⟩:=i;have h3:=SH.aa ⟨m,⟨E,X,d,z,Y,B,i⟩,hk⟩;refine⟨none,_,BB<|SH.cf (k:=0) rfl h3,?_⟩;have h4:SH _ j (Qh<|pt w.heap.size (.deferred<|some [])::hs'):=(SH.sD 0<|SH.putAt (k:=0) rfl h3<|Tq L none).mono λm b=>QP (λm b=>by obtain⟨E,_,_,z,_,B,_⟩:=b;exact z _ _ B) b;exact VA ks (next w.heap.size F0 j s hs' Z t W N b _ _ ⟨⟨u.1.1,by simp[u.1.2.1],u.1.2.2⟩,h4⟩)
   | pan q=>
    obtain⟨rfl,m,⟨E,X,d,z,Y,⟨F0,hs',Z,t,N,B⟩,i⟩,hk⟩:=i;have h3:=SH.aa ⟨m,⟨E,X,d,z,Y,B,i⟩,hk⟩;have h4:SH _ j (Qh<|pt w.heap.size (.deferred<|some [])::hs'):=(SH.sD 0 h3).mono λm b=>QP (λm b=>by obtain⟨E,_,_,z,_,B,_⟩:=b;exact z _ _ B) b;exact GN<|pan w.heap.size F0 j q hs' Z t W N b _ _ ⟨⟨u.1.1,by simp[u.1.2.1],u.1.2.2⟩,h4⟩
end
def O5(P:B3)(ec:ε->UV)(fn:lX)(F:Fz)(R:HP)(Y:σ->Fz->HP)(Z:ε->Fz->HP)(r:Out ε σ):hP->Act->By->Prop:=bodyPost P fn<|YP ec (λ_ e=>∃v,e= .returned v) Y Z F R r
section
variable{ε σ:Type}{P:B3}{ec:ε->UV}{fn:lX}{n:Nat}{S:Q0 (Nat×UV)}{F F' :Fz}{hs:Q0 HP}{R:HP}{Y:σ->Fz->HP}{Z:ε->Fz->HP}{x:σ}{r:Out ε σ}{rs:Q0 ResultVar}{vs:Q0 UV}
theorem dY.enter{args:Q0 UV}{H:HP}{m:K1 (Out ε σ)}(b:P.funcs[f]? =some fn)(d:fn.body=some c)(e:fn.ntmps=n)(g:Nat.ble args.length n=true)
  (k:∀r R,GC none P c [] (O5 P ec fn F R Y Z r) (Hd n [] (D2 0 args) F [H,R]) m r):dY P ec f args.toArray F H m Y Z:=by
 intro r a w R i;refine oN b d<|oo.1<|k r R a _ w ⟨?_,i.mono λm a=>QR (λ_ h=>Jy h) a⟩;rw[e];exact WA g
theorem L6(d:fn.results=rs.toArray)(h:Ss P S F' [Y x F',R] rs vs)(le:F<=F'):some (Out.ok x)=some r->∀a w,Hd n [] S F' [Y x F',R] a w->O5 P ec fn F R Y Z r .ret a w:=by
 intro e a w b;simp only[W1] at e
 subst e;exact⟨b.1.2.1,_,Jm d b h,F',le,⟨_,rfl⟩,b.2.tq (i:=0) (j:=0) rfl rfl⟩
theorem j8{q:ε}(le:F<=F'):some (Out.pan q)=some r->∀a w,Hd n [] S F' [Z q F',R] a w->O5 P ec fn F R Y Z r (.panic<|A0 ec q) a w:=by
 intro e a w b;simp only[W1] at e
 subst e;exact⟨b.1.2.1,F',le,rfl,b.2.tq (i:=0) (j:=0) rfl rfl⟩
theorem Q7.pan{γ:Type}{I:σ->Act->By->Prop}{Dn:γ->hP->Act->By->Prop}{b:γ}{d:UQ σ γ}{c:Q0 PanicEntry}(h:∀a w,A a w->Dn b (.panic c) a w):some (UQ.done b)=some d->∀a w,A a w->Q7 I Dn d (.panic c) a w:=λe a w g=>by
 simp only[W1] at e;subst e;exact⟨by simp,h a w g⟩
end
end
section
theorem Sq.string{H:Type}{enc:S1×UV->H}{P:B3}{W:By}{t:S1}(b:P.underlying t=some .string):Sq enc P W t (Ex AR) (λm=>m.length<=maxLen):=by
 intro c held a cs x h;obtain⟨s,rfl,_,hs⟩:=DataW.trod_string b h;refine⟨s.data.toList,(by show s.data.toList.length<=maxLen;rw[eh];exact hs),λ_ _=> ?_⟩;show[Value.string s]=[.string ⟨s.data.toList.toArray⟩];rw[Array.toArray_toList]
section
variable{O:K1 Nat}{μ:Md}{β:Type}{P:B3}{eG:So Nm}{l:Q0 Nm}{ks:Q0 Kt}{Q:hP->Act->By->Prop}{r:β}
variable{n:Nat}{D:Q0 AC}{S:Q0 (Nat×UV)}{F F' :Fz}{hs:Q0 HP}
def Sr(n:Nat)(D:Q0 AC)(d:Nat)(v:UV)(S:Q0 (Nat×UV))(F:Fz)(H:Fz->Q0 HP):hP->Act->By->Prop:=λe a w=>e= .normal/\∃F',F<=F'/\Hd n D ((d,v)::S) F' (H F') a w
theorem GG.mK{α:Type}{g:K1 α}{f:α->K1 β}(k d:Nat)(V:α->UV)(H:Fz->Q0 HP)(h:∀z,GL O P eG (l.take k) [] (Sr n D d (V z) S F H) (Hd n D S F hs) g z)
  (next:∀z F',F<=F'->GL O P eG (l.drop k) ks Q (Hd n D ((d,V z)::S) F'<|H F') (f z) r):GL O P eG l ks Q (Hd n D S F hs) (g.bind f) r:=by
 intro c a w o;cases i:g with
 | none=>rw[i] at c;cases c
 | some z=>
  rw[i] at c
  have:=Bq (P:=P) (eG:=eG) (Q2:=Zw O P ks Q) (l.drop k) (Q1:=Sr n D d (V z) S F H) (λm w' b=>by
   obtain⟨_,F',le,b⟩:=b;exact next z F' le c m w' b) (λe m w' j b=>absurd b.1 j) (l.take k) a w<|h z i a w o
  rwa[lf] at this
theorem GG.mR{b:Bool}{a:K1 Bool}{f:Bool->K1 β}(k d:Nat)(H:Fz->Q0 HP)(g:b=true->∀z,GL O P eG (l.take k) [] (Sr n D d (.bool z) S F H) (Hd n D S F hs) a z)
  (h:b=false->GL O P eG (l.take k) [] (Sr n D d (.bool false) S F H) (Hd n D S F hs) (some false) false)
  (next:∀z F',F<=F'->GL O P eG (l.drop k) ks Q (Hd n D ((d,.bool z)::S) F'<|H F') (f z) r):GL O P eG l ks Q (Hd n D S F hs) ((if b then a else some false).bind f) r:=
 GG.mK k d (λz=>.bool z) H (by
  intro z;cases c:b with
  | true=>rw[BY rfl];exact g c z
  | false=>rw[B1 eF];intro e;simp only[W1] at e;subst e;exact h c rfl) next
theorem GG.mB{S' :Q0 (Nat×UV)}{d:Nat}{x z:Bool}{H:Fz->Q0 HP}(j:Nat)(c:K4 S' d=some (.bool x))(f:S'.drop j=S)(g:fresh S (S'.take j)=true)(le:F<=F')(h:hs=H F'):GL O P eG [] [] (Sr n D d (.bool z) S F H) (Hd n D S' F' hs) (some x) z:=λe a w b=>by
 simp only[W1] at e;subst e;subst h
 exact⟨rfl,F',le,b.1.sub<|Sub.cons c<|Cz j f g,b.2⟩
end
end
section
open Go.ChangeShapes Go.WideShapes Go.ChangeAt Go.RowKit
variable{t:S1}
section
variable{H:Type}{enc:S1×UV->H}{P:B3}{W:By}
theorem xb{Z:Nat}{e:S1}{v:UV}{d:DataW H}{ps:Q0 MemPlace}(z:P.underlying t=some (.slice e))(he:P.underlying e=some .string)(N:P.cellsOf e=1)
  (hk:Value.okWide P W .any Z t v) (Q:DataW.Trod enc P W 0 (λ_=>true) true t v d ps) (D:(d.weights P t).all (·<=reachBytes)=true):∃m p k,(∀x∈m,x.length<=140737488351232)/\v= .slice p m.length k/\QG 1 (Ex AR) (FW W) p k m:=by
 obtain⟨m,p,k,_,A,R⟩:=u7 z (Sq.slice z N eT<|Sq.string he) hk Q;refine⟨m,p,k,λx hx=> ?_,A,R⟩;obtain⟨S,V⟩:=Q;obtain⟨i,hi,rfl⟩:=mv hx;have E:v.cells.toList=[v]:=by rw[A];rfl
 rw[E] at V
 rcases open_strings z he N V with⟨c,_⟩ | ⟨a,len,cap,B,c,_,hl,_,hz,n,f,_⟩
 ·rw[A] at c
  simp only[lR,Value.slice.injEq,iX] at c
  omega
 ·rw[A] at c
  simp only[lR,Value.slice.injEq,iX] at c
  obtain⟨hp,X,_⟩:=c;have r:i < B.length:=by split at hz<;>omega
  rcases R.2.2 with h0 | ⟨b,o,cs,T,fr,g,u,F⟩
  ·rw[h0] at hi;simp at hi
  ·rw[hp] at g
   simp only[W1] at g
   subst g;have G:=F i m[i] (C1 hi) _<|Fz.le_refl _;have G:(cs.toList.drop<|o+i*1).take 1=[.string<|bs m[i]]:=G;have Y:=f i r;rw[addr_add] at Y
   obtain⟨_,cs',T',aF,j,I⟩:=jT Y;have K:W.heap[b]? =some (.cells cs T fr):=u;rw[K] at j
   simp only[W1,Obj.cells.injEq] at j
   obtain⟨rfl,_⟩:=j
   have C:cs.toList[o+i]? =some (.string<|bs m[i]):=by
    have:=congrArg List.head? G;rw[oP,List.head?_take] at this
    simpa[iU] using this
   rw[Array.getElem?_toList,I] at C
   simp only[W1,Value.string.injEq] at C
   have L:(B.getD i ByteArray.empty)=B[i]:=by simp[r]
   rw[L] at C
   simp only[L0] at n
   rw[n.1] at D
   simp only[DataW.weights,z,mj,lH,Do] at D
   have w:=D.2.1
   have y:∀(l:Q0 ByteArray),(DataW.weightsAll P e<|strs (H:=H) l).all (·<=reachBytes)=true->∀s∈l,s.data.toList.length<=reachBytes:=by
    intro l
    induction l with
    | nil=>intro _ s hs;cases hs
    | cons s l ih=>
     intro h q w;simp only[strs,E4,DataW.weightsAll,DataW.weights,tO,r7,mj,Do,AT] at h
     rcases TO.1 w with rfl | w
     ·exact h.1
     ·exact ih h.2 q w
   have M:=y _ w B[i] (by rw[List.mem_take_iff_getElem];exact⟨i,by omega,rfl⟩);rw[C] at M
   have h5:(bs m[i]).data.toList=m[i]:=rfl;rw[h5] at M
   exact M
theorem OG{a:Q0 S1}{d:DataW H}{ds:Q0 (DataW H)}{p:Nat->Bool}(h:(DataW.weightsEach P (t::a)<|d::ds).all p=true):(d.weights P t).all p=true:=by
 rw[DataW.weightsEach,lH,Do] at h
 exact h.1
theorem OE{a:Q0 S1}{d:DataW H}{ds:Q0 (DataW H)}{p:Nat->Bool}(h:(DataW.weightsEach P (t::a)<|d::ds).all p=true):(DataW.weightsEach P a ds).all p=true:=by
 rw[DataW.weightsEach,lH,Do] at h
 exact h.2
theorem kB{C:Checked}{os:Os}{f:Rw}{fn:lX}{s:ChangeSpec}{conds:Q0 PathCond}{apart fresh handsOn again:Bool}{X:By->Prop}
  (p:∀(w w' :By),w.heap=w'.heap->X w->X w') (own:ownKnob C.prog.godebug=none) (started:os.Started) (b:C.prog.inits.idxOf? f=none) (h:C.prog.funcs[f]? =some fn)
  (witness:∃(w:By) (tape:Tape) (i:Input),w.os=os/\(w.forCall tape i).Shaped C.prog/\i.vars=[]/\Input.okWide C.prog (w.forCall tape i) .any w.heap.size f i/\
   ((s.pre enc C.prog fn conds apart (w.forCall tape i).memory i.args/\X (w.forCall tape i).memory)/\sizedMet enc C.prog fn (OpenSpec.ofChange s) apart (w.forCall tape i).memory i.args)/\({}:Assume).holds C.prog (lone (Frame.enter C.prog f i.args .normal) []<|w.forCall tape i))
  (a:∀(W:By) (base:Nat) (args:So UV) (ds k:Q0 (DataW H)) (before:Q0 MemPlace),(∀(j:Nat) t v,fn.params[j]? =some t->args[j]? =some v->Value.okWide C.prog W .any base t v)->
   DataW.Whole enc C.prog fn.params.toList s.vars apart W args.toList ds k before->W.ShapedOpen C.prog->X W->sizedMet enc C.prog fn (OpenSpec.ofChange s) apart W args->
   Calls C.prog f args W λe o=>∃v,e= .returned v/\s.post enc C.prog fn apart fresh handsOn again W args v o):ReturnsInHanded {} C os f .any (λw args=>(s.pre enc C.prog fn conds apart w args/\X w)/\sizedMet enc C.prog fn (OpenSpec.ofChange s) apart w args) (s.post enc C.prog fn apart fresh handsOn again):=by
 refine returnsInHanded_of_calls own started b witness ?_;intro w tape i _ l _ m c _;obtain⟨_,_,_,n,d,_,_,_,_,g⟩:=m;have e:n=fn:=Tc<|d.symm.trans h;subst e;obtain⟨⟨⟨ds,k,before,q,y⟩,r⟩,u⟩:=c;refine(a (w.forCall tape i) w.heap.size i.args ds k before g (DataW.Whole.of_heap (w' :=w.forCall tape i) iO q) l (p _ _ iO r)<|u.of_heap iO).mono λe o ⟨v,he,x⟩=> ?_;subst he;exact ChangeSpec.post_blind x
theorem LN{f:Rw}{fn:lX}{s:ChangeSpec}{y:S1}{fresh:Bool}(C:laidOutB P=true)(b:(fn.params.toList.all λt=>P.readableRec t&&decide (t < P.types.size))=true)
  (a:s.vars=[]) (l:(OpenSpec.ofChange s).bare.plain.varTypes P=[]) (m:fn.resultTypes=#[y]) (n:P.underlying y=some .bool)
  (c:∀ds:Q0 (DataW H),ds.length=fn.params.toList.length->s.fn H ds={results:=[.lit<|.bool true],args:=ds})
  (base:Nat) (args:So UV) (ds D:Q0 (DataW H)) (before:Q0 MemPlace)
  (d:∀(ps:Q0 MemPlace),(∀(j:Nat) t v,fn.params[j]? =some t->args[j]? =some v->Value.okWide P W .any base t v)->
   DataW.TrodAll enc P W 0 (λ_=>true) true fn.params.toList args.toList ds ps->(DataW.weightsEach P fn.params.toList ds).all (·<=reachBytes)=true->KJ P f args (FW W) (some true) (λr _ v=>v= .bool r))
  (i:∀(j:Nat) t v,fn.params[j]? =some t->args[j]? =some v->Value.okWide P W .any base t v)
  (o:DataW.Whole enc P fn.params.toList s.vars false W args.toList ds D before) (E:sizedMet enc P fn (OpenSpec.ofChange s) false W args):Calls P f args W λe z=>∃v,e= .returned v/\s.post enc P fn false fresh false false W args v z:=by
 have hs:=E.weights o;have k:=o;obtain⟨p,q,u,A,rfl,F,K⟩:=o;rw[a] at A
 obtain⟨rfl,rfl⟩:=trodVars_none A;rw[l,r8,r8] at hs
 refine(d p i u hs true rfl W SO<|SH.start W).mono λe z ⟨L,v,le,he,G,hs⟩=>⟨v,he,?_⟩;subst G;have B:=u6 le hs;have w:∀x∈p,x.block < W.heap.size:=λx I=>k.lt x<|by simp[I]
 have g:s.fn H (ds++[])={results:=[.lit<|.bool true],args:=ds}:=by
  rw[r8];exact c ds<|RJ u
 refine⟨ds,[],p++[],[],p,[],k,?_,?_,?_,B.frame _,λh=>by cases h⟩
 ·rw[g,m];exact trodAll_mk1<|shut_bool n true
 ·rw[g];exact AV C B b u w
 ·rw[g,a];rfl
end
end
section
abbrev gu:BinOp->r6->Int->Int->K1 UV
 | .add,k,a,b=>some (.int k<|k.wrap<|a+b)
 | .sub,k,a,b=>some (.int k<|k.wrap<|a - b)
 | .mul,k,a,b=>some (.int k<|k.wrap<|a*b)
 | .eql,_,a,b=>some (.bool<|a==b)
 | .neq,_,a,b=>some (.bool<|a != b)
 | .lss,_,a,b=>some (.bool<|decide<|a < b)
 | .leq,_,a,b=>some (.bool<|decide<|a<=b)
 | .gtr,_,a,b=>some (.bool<|decide<|a > b)
 | .geq,_,a,b=>some (.bool<|decide<|a≥b)
 | _,_,_,_=>none
abbrev vW(S:Q0 (Nat×UV)):Op->(UV->Prop)->Prop
 | .move x,K=>match QQ S x with | some v=>K v | none=>False
 | .assign x,K=>match QQ S x with | some v=>K v | none=>False
 | .extract x i,K=>match QQ S x with
  | some (.tuple vs)=>match vs[i]? with | some v=>K v | none=>False
  | _=>False
 | .nilCheck x,K=>match QQ S x with
  | some (.pointer<|some p)=>K (.pointer<|some p)
  | _=>False
 | .unOp .not _ x,K=>match QQ S x with
  | some (.bool b)=>K (.bool<|!b)
  | _=>False
 | .binOp o _ x y _,K=>match QQ S x,QQ S y with
  | some (.int k a),some (.int c b)=>match decEq c k,gu o k a b with
   | .isTrue _,some v=>K v
   | _,_=>False
  | _,_=>False
 | _,_=>False
abbrev run(n:Nat):Nat->Pt->Q0 (Nat×UV)->(Pt->Q0 (Nat×UV)->Prop)->Prop
 | 0,p,S,K=>K p S
 | k+1,.L eG l ks,S,K=>match l with
  | []=>run n k (.E ks) S K
  | ⟨some d,op,_,_,_,none⟩::l=>match Nat.blt d n with
   | true=>vW S op λv=>run n k (.L eG l ks) ((d,v)::S) K
   | false=>False
  | _=>False
 | k+1,.C c ks,S,K=>match c with
  | .seq x y=>run n k (.C x<|.code y::ks) S K
  | .block id c=>run n k (.C c<|.block id::ks) S K
  | .region _ a false=>run n k (.L a a.toList ks) S K
  | .skip=>run n k (.E ks) S K
  | _=>False
 | k+1,.E ks,S,K=>match ks with
  | .code c::ks=>run n k (.C c ks) S K
  | .block _::ks=>run n k (.E ks) S K
  | []=>False
section
variable{O:K1 Nat}{μ:Md}{β:Type}{P:B3}{eG:So Nm}{l rest:Q0 Nm}{ks:Q0 Kt}{Q:hP->Act->By->Prop}{m:K1 β}{r:β}
variable{n:Nat}{D:Q0 AC}{S:Q0 (Nat×UV)}{F:Fz}{hs:Q0 HP}
theorem xJ{d:Nat}{ty t t' :S1}{pos:String}{after:So lY}{o:BinOp}{x y:L5}{k:r6}{a b:Int}{v:UV}{A:Act}{w:By}(e:Sl n D S A)(f:QQ S x=some (.int k a))(g:QQ S y=some (.int k b))(c:gu o k a b=some v):(execOp A.eval ⟨some d,.binOp o t x y t',ty,pos,after,none⟩).run P w= .ok (.value v) w:=by
 unfold gu at c
 split at c
 all_goals first | (cases c;done) | (simp only[W1] at c;subst c;simp[execOp,e.eval f,e.eval g,eqGuard,binOp,Op.intArith,Op.intCmp])
theorem Ih{op:Op}{K:UV->Prop}(h:vW S op K):∃v,K v/\He op=true/\∀(d:Nat) (ty:S1) (pos:String) (after:So lY) (A:Act) (w:By),Hd n D S F hs A w->(execOp A.eval ⟨some d,op,ty,pos,after,none⟩).run P w= .ok (.value v) w:=by
 unfold vW at h
 split at h
 ·split at h
  ·rename_i e;exact⟨_,h,rfl,λ_ _ _ _ A w a=>by simp[execOp,a.1.eval e]⟩
  ·exact h.elim
 ·split at h
  ·rename_i e;exact⟨_,h,rfl,λ_ _ _ _ A w a=>by simp[execOp,a.1.eval e]⟩
  ·exact h.elim
 ·split at h
  ·rename_i e;split at h
   ·rename_i b;exact⟨_,h,rfl,λ_ _ _ _ A w a=>by simp[execOp,a.1.eval e,Instr.extract,b]⟩
   ·exact h.elim
  ·exact h.elim
 ·split at h
  ·rename_i e;exact⟨_,h,rfl,λ_ _ _ _ A w a=>by simp[execOp,a.1.eval e]⟩
  ·exact h.elim
 ·split at h
  ·rename_i e;exact⟨_,h,rfl,λ_ _ _ _ A w a=>by simp[execOp,a.1.eval e,Op.unary]⟩
  ·exact h.elim
 ·split at h
  ·rename_i e b;split at h
   ·rename_i c q _ ev;subst c;exact⟨_,h,rfl,λ_ _ _ _ A w a=>xJ a.1 e b ev⟩
   ·exact h.elim
  ·exact h.elim
 ·exact h.elim
theorem vM:∀{l:Q0 Nm} {a:Act} {w:By},wpS P eG w (λa=>Q .normal a w) l a->Xl none P eG Q l a w
 | [],_,_,h=>h
 | o::l,a,w,h=>by
  unfold wpS at h
  unfold Xl;split
  ·rename_i b;rw[BY b] at h
   obtain⟨v,c,d⟩:=h;refine⟨.inl rfl,?_⟩;rw[c];exact vM d
  ·rename_i b;rw[B1 b] at h
   exact vM h
theorem X1:∀(k:Nat) (p:Pt) (S:Q0 (Nat×UV)),run n k p S (λp S=>GG ⟨μ,P,Q,p⟩ (Hd n D S F hs) m r)->GG ⟨μ,P,Q,p⟩ (Hd n D S F hs) m r
 | 0,_,_,h=>h
 | k+1,.L eG l ks,S,h=>by
  unfold run at h
  split at h
  ·have h:=X1 k (.E ks) S h;cases μ<;>exact h
  ·split at h
   ·rename_i e;obtain⟨v,g,i,he⟩:=Ih h;exact GG.val e (he _ _ _ _) (X1 k (.L eG _ ks) _ g) i
   ·exact h.elim
  ·exact h.elim
 | k+1,.C c ks,S,h=>by
  unfold run at h
  split at h
  ·exact λb a w d=>wpIn_seq<|X1 k (.C _ _) S h b a w d
  ·exact λb a w d=>wpIn_block<|X1 k (.C _ _) S h b a w d
  ·rename_i a;obtain⟨l⟩:=a;have h:=X1 k (.L _ _ ks) S h;cases μ with
   | s=>exact λb a w d=>wpIn_region_lit (vM<|h b a w d).wpIn
   | f=>exact GG.region h
  ·exact λb a w d=>wpIn_skip<|X1 k (.E ks) S h b a w d
  ·exact h.elim
 | k+1,.E ks,S,h=>by
  unfold run at h
  split at h
  ·exact X1 k (.C _ _) S h
  ·exact λb a w d=>X1 k (.E _) S h b a w d
  ·exact h.elim
theorem GG.w{p:Pt}(k:Nat)(h:run n k p S λp S=>GG ⟨μ,P,Q,p⟩ (Hd n D S F hs) m r):GG ⟨μ,P,Q,p⟩ (Hd n D S F hs) m r:=X1 k p S h
theorem GG.s1{p:Pt}(h:run n 1 p S λp S=>GG ⟨μ,P,Q,p⟩ (Hd n D S F hs) m r):GG ⟨μ,P,Q,p⟩ (Hd n D S F hs) m r:=X1 1 p S h
end
abbrev GG.n:= @GG.s1
abbrev GG.c:= @GG.s1
abbrev GG.q:= @GG.s1
abbrev GG.g:= @GG.s1
abbrev GG.k:= @GG.s1
abbrev GG.block:= @GG.s1
abbrev GG.nil:= @GG.s1
end
section
variable{O:K1 Nat}{μ:Md}{β:Type}{P:B3}{n:Nat}{D:Q0 AC}{S0 Si:Q0 (Nat×UV)}{F:Fz}
variable{eG:So Nm}{l:Q0 Nm}{X:Env->Q0 XA}{C:(Nat->Bool)->Env->Q0 HP}{k:Nat}{o:Nm}{os:Q0 Nm}
theorem Gk.B(h:∀{L:Nat->Bool} {env:Env} {a:Fz} {_:F<=a},GL O P eG [o] [] (FA n D l X C L env a k o.dst<|Fx l k S0 (X env) 0) (Hd n D (Fx l k S0 (X env) 0) a<|C L env) (some ()) ())(t:Gk O P eG l n D S0 F X C (k+1) os):Gk O P eG l n D S0 F X C k (o::os):=Gk.b (λL env a le=> @h L env a le) t
theorem GG.fv{d:Nat}{v:UV}{a:Fz}{L:Nat->Bool}{env:Env}{i:Nat}{x:β}(h:((X env)[i]?,C (Kb L i) env)=(some (v,λ_=>True),C L env)):GL O P eG [] [] (FA n D l X C L env a i (some d) Si) (Hd n D ((d,v)::Si) a<|C L env) (some x) x:=by
 simp only[L0] at h
 exact GG.cy h.1 h.2<|Fz.le_refl _
abbrev xw(n:Nat)(l:Q0 Nm)(S0:Q0 (Nat×UV))(X:Env->Q0 XA)(C:(Nat->Bool)->Env->Q0 HP)(L:Nat->Bool)(env:Env):Nat->Q0 Nm->Nat->Prop
 | _,_,0=>(0:Nat)=0
 | k,os,c+1=>match os with
  | ⟨some d,op,_,_,_,none⟩::os=>match Nat.blt d n with
   | true=>vW (Fx l k S0 (X env) 0) op (λv=>((X env)[k]?,C (Kb L k) env)=(some (v,λ_=>True),C L env))/\xw n l S0 X C L env (k+1) os c
   | false=>False
  | _=>False
def xU:Env:=⟨λ_=>none,λ_=>0,λ_=>[],λ_=>{mem:=λ_=>none,os:=default,tape:=λ_ _=>0,out:=#[]},λ_=>none⟩
theorem Gk.V:∀(c:Nat) {k:Nat} {os:Q0 Nm},(∀L env,xw n l S0 X C L env k os c)->Gk O P eG l n D S0 F X C (k+c) (os.drop c)->Gk O P eG l n D S0 F X C k os
 | 0,_,_,_,t=>t
 | c+1,k,os,h,t=>by
  have a:=h λ_=>false
  match os with
  | []=>exact absurd (a xU) (by unfold xw;exact id)
  | ⟨none,_,_,_,_,_⟩::os=>exact absurd (a xU) (by unfold xw;exact id)
  | ⟨some d,_,_,_,_,some _⟩::os=>exact absurd (a xU) (by unfold xw;exact id)
  | ⟨some d,op,ty,pos,after,none⟩::os=>
   have e:Nat.blt d n=true:=by
    cases e:Nat.blt d n with
    | true=>rfl
    | false=>have:=a xU;unfold xw at this;simp only[e] at this
   have h' :∀L env,vW (Fx l k S0 (X env) 0) op (λv=>((X env)[k]?,C (Kb L k) env)=(some (v,λ_=>True),C L env))/\xw n l S0 X C L env (k+1) os c:=λL env=>by
    have:=h L env;unfold xw at this
    simpa only[e] using this
   refine Gk.b (λL env f _=> ?_) (Gk.V c (λL env=>(h' L env).2) (by rw[show k+1+c=k+(c+1) by omega];exact t));obtain⟨v,g,i,he⟩:=Ih (n:=n) (D:=D) (F:=f) (hs:=C L env) (P:=P) (h' L env).1;exact GG.val e (he _ _ _ _) (GG.fv g) i
end
section
variable{b:Bool}
def zx(n:Nat)(eG:So Nm)(c:Bool)(a:Q0 (Nat×UV)):Q0 Nm->Q0 (Nat×UV)->K1 (Q0 UV×Nat×UV)
 | [],_=>none
 | ⟨some d,_,_,_,_,some (j,w)⟩::l,S=>match(eG[j]?).bind (·.dst) with
  | none=>none
  | some t=>match K4 S t,Nat.blt d n&&(w== !c)&&(K4 a d).isNone with
   | some g,true=>(zx n eG c a l<|(d,undef)::S).map λr=>(g::r.1,r.2)
   | _,_=>none
 | [⟨some d,.pick e f h,_,_,_,none⟩],S=>match QQ S e,QQ S<|if c then f else h,Nat.blt d n&&(K4 a d).isNone with
  | some z,some v,true=>some ([z],d,v)
  | _,_,_=>none
 | _,_=>none
section
variable{μ:Md}{β:Type}{P:B3}{eG:So Nm}{l:Q0 Nm}{ks:Q0 Kt}{Q:hP->Act->By->Prop}{m:K1 β}{r:β}
variable{n:Nat}{D:Q0 AC}{S S0:Q0 (Nat×UV)}{F F' :Fz}{hs:Q0 HP}
theorem kq{d:Nat}{v:UV}(h:Sub S0 S)(a:(K4 S0 d).isNone=true):Sub S0 ((d,v)::S):=λi u e=>by
 have hi:i≠d:=by rintro rfl;rw[e] at a;cases a
 have:=h i u e;have c:Nat.beq d i=false:=Bool.eq_false_iff.2 λe=>hi (j0 e).symm;simp only[K4,c];exact this
theorem NA{c:Bool}:∀(l:Q0 Nm) (S:Q0 (Nat×UV)) {k:Q0 UV} {d:Nat} {v:UV},Sub S0 S->zx n eG c S0 l S=some (k,d,v)->(∀g∈k,g= .bool c)->GL μ P eG l [] (Vt n D d v S0 F hs) (Hd n D S F hs) (some ()) ():=by
 intro l
 induction l with
 | nil=>intro S k d v _ h;cases h
 | cons o l G=>
  intro S k d v A h s;unfold zx at h
  split at h
  ·cases h
  ·rename_i y op ty pos after j w H B e;simp only[lR] at e
   obtain⟨rfl,rfl⟩:=e;split at h
   ·cases h
   ·rename_i t I;split at h
    ·rename_i g K a;simp only[Do,mX] at a
     obtain⟨⟨L,M⟩,N⟩:=a;obtain⟨q,R,he⟩:=mY.1 h;obtain⟨T,V,W⟩:=q;simp only[L0] at he
     obtain⟨rfl,rfl,rfl⟩:=he;have f:g= .bool c:=s g eF;subst f;refine GG.ca (b:=c) (by rw[M];cases c<;>rfl) L I K<|G _ (kq A N) R λx p=>s x<|by simp[p]
    ·cases h
  ·rename_i B H X y Y Z oy ty pos after e;simp only[lR] at e
   obtain⟨rfl,rfl⟩:=e;split at h
   ·rename_i z u C p a;simp only[Do] at a
    simp only[W1,L0] at h
    obtain⟨rfl,rfl,rfl⟩:=h;have f:z= .bool c:=s z eF;subst f;have i:GL μ P eG [] [] (Vt n D y u S0 F hs) (Hd n D ((y,u)::B) F hs) (some ()) ():=λ_ _ _ E=>OB ⟨rfl,F,Fz.le_refl _,E.1.sub (Sub.cons (by simp[K4])<|kq A a.2),E.2⟩;cases c with
    | true=>exact GG.cE rfl a.1 C p i
    | false=>exact GG.cW rfl a.1 C p i
   ·cases h
  ·cases h
theorem NJ{k:Nat}{c:Bool}(a:b=c):∀g∈List.replicate k (Value.bool b),g= .bool c:=λg d=>by rw[List.eq_of_mem_replicate d,a]
theorem GG.cn{b':Bool}(k d:Nat)(a:zx n eG false S (l.take k) S=some (List.replicate k<|.bool b,d,.bool false))
  (c:b=true->GL μ P eG (l.take k) [] (Vt n D d (.bool b') S F hs) (Hd n D S F hs) (some ()) ())
  (next:∀F',F<=F'->GL μ P eG (l.drop k) ks Q (Hd n D ((d,.bool<|b&&b')::S) F' hs) m r):GL μ P eG l ks Q (Hd n D S F hs) m r:=
 GG.re k d c (λe=>NA _ _ (Sub.refl S) a<|NJ e) next
theorem GG.rE{b':Bool}(k d:Nat)(a:zx n eG true S (l.take k) S=some (List.replicate k<|.bool b,d,.bool true))
  (c:b=false->GL μ P eG (l.take k) [] (Vt n D d (.bool b') S F hs) (Hd n D S F hs) (some ()) ())
  (next:∀F',F<=F'->GL μ P eG (l.drop k) ks Q (Hd n D ((d,.bool<|b||b')::S) F' hs) m r):GL μ P eG l ks Q (Hd n D S F hs) m r:=
 GG.nr k d c (λe=>NA _ _ (Sub.refl S) a<|NJ e) next
theorem GG.aN{a:K1 Bool}{f:Bool->K1 β}(k d:Nat)(c:zx n eG false S (l.take k) S=some (List.replicate k<|.bool b,d,.bool false))
  (e:b=true->∀z,GL μ P eG (l.take k) [] (Vt n D d (.bool z) S F hs) (Hd n D S F hs) a z)
  (next:∀z F',F<=F'->GL μ P eG (l.drop k) ks Q (Hd n D ((d,.bool z)::S) F' hs) (f z) r):GL μ P eG l ks Q (Hd n D S F hs) ((if b then a else some false).bind f) r:=
 GG.andM k d e (λg=>NA _ _ (Sub.refl S) c<|NJ g) next
theorem GG.rK{a:K1 Bool}{f:Bool->K1 β}(k d:Nat)(c:zx n eG true S (l.take k) S=some (List.replicate k<|.bool b,d,.bool true))
  (e:b=false->∀z,GL μ P eG (l.take k) [] (Vt n D d (.bool z) S F hs) (Hd n D S F hs) a z)
  (next:∀z F',F<=F'->GL μ P eG (l.drop k) ks Q (Hd n D ((d,.bool z)::S) F' hs) (f z) r):GL μ P eG l ks Q (Hd n D S F hs) ((if b then some true else a).bind f) r:=
 GG.orM k d e (λg=>NA _ _ (Sub.refl S) c<|NJ g) next
theorem GG.fi{S' :Q0 (Nat×UV)}{d:Nat}{v:UV}{x:β}(le:F<=F')(h:(K4 S' d,S'.drop<|S'.length - S.length,fresh S<|S'.take<|S'.length - S.length)=(some v,S,true):=by kernel_rfl):GL μ P eG [] [] (Vt n D d v S F hs) (Hd n D S' F' hs) (some x) x:=by
 simp only[L0] at h
 exact GG.fin _ h.1 h.2.1 h.2.2 le
end
theorem Wm{F0:Fz}{g:UV}{G:Fz->UV->Prop}(h:∀F,F0<=F->G F g):∀F v,F0<=F->v=g->G F v:=λF _ l e=>e▸h F l
theorem K8{α:Type}{F0:Fz}{E:α->Prop}{g:α->UV}{G:α->Fz->UV->Prop}(h:∀x F,E x->F0<=F->G x F (g x)):∀x F v,E x->F0<=F->v=g x->G x F v:=λx F _ e l q=>q▸h x F e l
end
end Go.Dec
end
