/- For OfficeDue. -/
import Derived.Test.YtbjgigfhnlnbfaaGreatDoorPd2
import Derived.Lib.LaidTab
import Derived.Shelf.Vars
import Derived.LaidMore
import Derived.Lay
import Derived.Handed
import Derived.SevenTiedAt
import Derived.Lib.UnsafeStr
import Derived.Lib.Builder
import Derived.Laws.Externs
import Derived.RangeFuncLeaves
import Derived.SliceStrings
noncomputable section
namespace Go.Dec
abbrev hW:=@beq_self_eq_true
abbrev mr:=@fenced_wide
abbrev lJ:=@List.all_append
abbrev lx:=@stepR_block
abbrev oJ:=@stepR_seq
abbrev oq:=@ComesIn.of_steps
abbrev o0:=@leaves_stepsInM
abbrev o3:=@List.head?_drop
abbrev ib:=@step_leave_panicked
abbrev iv:=@Value.slice.injEq
end Go.Dec
namespace Go.Dec
section
open Go.ChangeShapes Go.WideShapes Go.ChangeAt Go.RowKit
theorem jK{P:C1}{w:B1}{n:String}{d:DataW Unit}:∀{l:Q0 (String×DataW Unit)} {ps:Q0 MemPlace} (j:Nat),l[j]? =some (n,d)->DataW.LaidVars P w l ps->
  ∃g t cs a p T fr,P.globalNamed n=some g/\(P.globals[g]?).map (·.type)=some t/\w.heap[g]? =some (.cells cs T fr)/\DataW.trod (λ_=>()) P w 0 (λ_=>true) false a t cs.toList=some (d,p)
 | [],_,_,h,_=>by simp at h
 | x::l,ps,0,h,c=>by
  simp at h;subst h
  obtain⟨g,t,cs,a,p,q,e,f,b,i,_,_⟩:=c;unfold World.var? at b
  rw[e] at b
  simp only[K1] at b
  split at b
  ·rename_i cs' T fr k;simp only[UV] at b
   subst b;exact⟨g,t,_,a,p,T,fr,e,f,k,i⟩
  ·cases b
 | x::l,ps,j+1,h,c=>by
  obtain⟨g,t,cs,a,p,q,e,f,b,i,m,_⟩:=c;exact jK j (by simpa using h) m
theorem MQ{w:B1}{g:Nat}{m:Int}{k:mX}{P:C1}{t:A4}{zero:S1 K2}(h:w.ShapedOpen P)(e:g < P.globals.size)(f:((begin P (λ_ _=>0) default).world.heap[g]?).bind Obj.row? =some (zero,t))(j:zero.size=1)
  (l:w.cell? ⟨g,0,none⟩=some (.int k m)):∃T fr,w.heap[g]? =some (.cells #[.int k m] T fr):=by
 obtain⟨cs,b,hs,_⟩:=h.1 g zero t e f
 have a:cs=#[.int k m]:=by
  rw[j] at hs
  have c:cs[0]? =some (.int k m):=by simpa[World.cell?,b] using l
  apply Array.ext
  ·rw[hs];rfl
  ·intro i a d;have hi:i=0:=by simp at d;exact d
   subst hi;rw[Array.getElem?_eq_getElem a] at c
   simpa using c
 exact⟨t,_,by rw[b,a]⟩
end
section
open Classical
variable{S0 S:Q0 (Nat×K2)}
def uJ(S:Q0 (Nat×K2)):Q0 (Nat×K2)->Q0 (Q2 K2)
 | []=>[]
 | (k,_)::t=>K6 S k::uJ S t
def vV:Q0 (Nat×K2)->Q0 (Q2 K2)
 | []=>[]
 | (_,v)::t=>some v::vV t
theorem Sub.k:∀{T:Q0 (Nat×K2)},uJ S T=vV T->Sub T S
 | [],_=>Sub.nil S
 | (k,v)::t,h=>by
  simp only[uJ,vV,lW] at h
  exact Sub.cons h.1<|Sub.k h.2
def xy(S:Q0 (Nat×K2)):Q0 Nat->Q0 (Nat×K2)
 | []=>[]
 | k::t=>(k,(K6 S k).getD<|.bool false)::xy S t
def gq(S:Q0 (Nat×K2)):Q0 Nat->Q0 Bool
 | []=>[]
 | k::t=>(K6 S k).isSome::gq S t
theorem Sub.p:∀(ks:Q0 Nat),(gq S ks).all id=true->Sub (xy S ks) S
 | [],_=>Sub.nil S
 | k::t,h=>by
  simp only[gq,s8,id,BY] at h
  obtain⟨v,a⟩:=Option.isSome_iff_exists.1 h.1;exact Sub.cons (by rw[a];rfl)<|Sub.p t h.2
theorem dC{l:Q0 Rw}{k:Nat}(h:qp l k=true):∀t o,k<=t->l[t]? =some o->∀j,j < t->∃s,X2 l s t j=true:=A6 h
def Fq(l:Q0 Rw)(i:Nat)(S0:Q0 (Nat×K2)):Q0 W6->Nat->Q0 (Nat×K2)
 | [],_=>S0
 | q::a,j=>match Vo l j with
  | none=>Fq l i S0 a (j+1)
  | some d=>bif ((W1 [] l).getD i []).getD j false then(d,q.1)::Fq l i S0 a (j+1) else Fq l i S0 a (j+1)
theorem El{l:Q0 Rw}{i:Nat}(h:Sub S0 S){xs:Q0 W6}{L:Nat->Bool}(a:∀k j,X2 l k i j=true->L j=true)
  (n:∀(j d:Nat) (v:K2),L j=true->Vo l j=some d->(xs[j]?).map Prod.fst=some v->K6 S d=some v):∀(b:Q0 W6) (j:Nat),xs.drop j=b->Sub (Fq l i S0 b j) S
 | [],_,_=>h
 | q::b,j,e=>by
  have o:xs[j]? =some q:=by rw[<-o3,e];rfl
  have p:xs.drop (j+1)=b:=by rw[<-eL,e];rfl
  have g:=El h a n b (j+1) p;unfold Fq;cases r:Vo l j with
  | none=>exact g
  | some d=>
   simp only;cases f:((W1 [] l).getD i []).getD j false with
   | false=>exact g
   | true=>
    have u:P4 l (W1 [] l):=B0 (pre:=[]) rfl rfl λt m c=>by simp at c
    obtain⟨s,hs⟩:∃s,X2 l s i j=true:=by
     cases c:(W1 [] l)[i]? with
     | none=>rw[tb (l:=W1 [] l),c] at f;simp at f
     | some m=>rw[tb (l:=W1 [] l),c] at f;exact u i m c j f
    exact Sub.cons (n j d q.1 (a s j hs) r (by rw[o];rfl)) g
section
variable{O:Q2 Nat}{μ:Md}{β:Type}{P:C1}{n:Nat}{D:Q0 TO}{S0:Q0 (Nat×K2)}{F:Fz}
variable{ops:S1 Rw}{l:Q0 Rw}{X:Env->Q0 W6}{C:(Nat->Bool)->Env->Q0 HP}{k:Nat}{o:Rw}{os:Q0 Rw}
theorem xr.a(h:∀L env b,F<=b->L k=false->(∀s j,X2 l s k j=true->L j=true)->(∀s j,X2 l s j k=true->L j=false)->(∀(j:Nat) (q:W6),L j=true->(X env)[j]? =some q->∀G,b<=G->q.2 G)->
  GL O P ops [o] [] (G0 n D l X C L env b k o.dst<|Fq l k S0 (X env) 0) (Hd n D (Fq l k S0 (X env) 0) b<|C L env) (some ()) ()):xr O P ops l n D S0 F X C k o:=
 λL env b le f c e d=>⟨_,λ_ g i=>El g c i _ 0 rfl,h L env b le f c e d⟩
theorem Gd.a(h:∀L env b,F<=b->L k=false->(∀s j,X2 l s k j=true->L j=true)->(∀s j,X2 l s j k=true->L j=false)->(∀(j:Nat) (q:W6),L j=true->(X env)[j]? =some q->∀G,b<=G->q.2 G)->
 GL O P ops [o] [] (G0 n D l X C L env b k o.dst<|Fq l k S0 (X env) 0) (Hd n D (Fq l k S0 (X env) 0) b<|C L env) (some ()) ()) (t:Gd O P ops l n D S0 F X C (k+1) os):Gd O P ops l n D S0 F X C k (o::os):=⟨xr.a h,t⟩
theorem Gd.b(h:∀L env c,F<=c->GL O P ops [o] [] (G0 n D l X C L env c k o.dst<|Fq l k S0 (X env) 0) (Hd n D (Fq l k S0 (X env) 0) c<|C L env) (some ()) ())(t:Gd O P ops l n D S0 F X C (k+1) os):Gd O P ops l n D S0 F X C k (o::os):=⟨xr.a λL env c le _ _ _ _=>h L env c le,t⟩
end
abbrev vP(b o:Nat):K2:=.pointer<|some ⟨b,o,none⟩
abbrev vI(x:Int):K2:=.int .i64 x
abbrev vS{α:Type}(p:Q2 C3)(l:Q0 α)(k:Nat):K2:=.slice p l.length k
abbrev pc(b:Nat)(cs:Q0 K2)(T:A4):HP:=pt b<|.cells cs.toArray T
theorem J{α:Sort _}{a:α}:a=a:=rfl
abbrev vT(v:K2):W6:=(v,λ_=>True)
abbrev ON:=Q2 Nat
theorem JV{n m:Nat}(h:Nat.ble n m=true):n<=m:=AC h
def bf(n k:Nat)(l:Q0 Rw)(S0:Q0 (Nat×K2)):Bool:=N4 0 l&&qp l k&&Nat.ble k l.length&&Gi n S0 (l.take k)
theorem GG.dG{O:Q2 Nat}{β:Type}{P:C1}{ks:Q0 Kt}{Q:gw->Act->B1->Prop}{m:Q2 β}{r:β}{n:Nat}{D:Q0 TO}{F:Fz}{hs:Q0 HP}{id:Nat}{l:Q0 Rw}(k g:Nat)(X:Env->Q0 W6)(C:(Nat->Bool)->Env->Q0 HP)(d:P.follows .mixedOrders=true)(a:bf n k l S0=true)
  (e:∀env,(X env).length=k) (f:∀env,C (λ_=>false) env=hs++List.replicate g Aa)
  (b:Gd O P l.toArray l n D S0 F X C 0 (l.take k))
  (tail:∀env c,F<=c->(∀(j:Nat) (q:W6),(X env)[j]? =some q->q.2 c)->GL O P l.toArray (l.drop k) ks Q (Hd n D (OY (l.take k) (X env) S0) c<|C (λj=>Nat.blt j k) env) m r):GC O P (.region id l.toArray true) ks Q (Hd n D S0 F hs) m r:=by
 simp only[bf,BY] at a
 exact GG.nS k g X C d a.1.1.1 (dC a.1.1.2) a.1.2 e a.2 f b tail
abbrev Sm.n:= @Sm.nil
abbrev GG.m:= @GG.move
abbrev GG.s:= @GG.assign
abbrev GG.f:= @GG.fieldAddr
abbrev GG.x:= @GG.extract
abbrev GG.l:= @GG.alloc
abbrev GG.o:= @GG.norm
abbrev GG.d:= @GG.bind
abbrev GG.i:= @GG.cond
theorem Um{α:Type}{j:Nat}(n:Nat)(f g:Nat->α)(h:(List.range n).map f=(List.range n).map g)(b:j < n):f j=g j:=by
 have a:=congrArg (λl=>l[j]?) h;simp only[hP,List.getElem?_range b,E4,UV] at a
 exact a
end
section
variable{S:Q0 (Nat×K2)}{Q:gw->Act->B1->Prop}{D:Q0 TO}{p:Q2 C3}{P:C1}{hs:Q0 HP}{β α:Type}{m:Q2 β}{F F0 F':Fz}{n cap sz b d:Nat}{c:U2 α}{after:S1 ll}{T ty t:A4}{g:Gp}{ops:S1 Rw}{ks:Q0 Kt}{pos:String}{ox oy:IR}{kd:mX}{rest:Q0 Rw}{r:β}{x:Q2 α}{w:B1}
variable{O:Q2 Nat}{μ:Md}
def xU{ι:Type}(Φ:ι->Prop)(l:ι->Q0 HP):HP:=λm=>∃q,Φ q/\Qg (l q) m
section
variable{β ι:Type}{X:Act->B1->Prop}{m:Q2 β}{r:β}{n:Nat}{D:Q0 TO}{S:Q0 (Nat×K2)}{F F0:Fz}{hs:Q0 HP}{Φ:ι->Prop}{l:ι->Q0 HP}
theorem GG.ak(i:Nat)(hi:hs[i]? =some (xU Φ l))(k:∀q,Φ q->GG g (Hd n D S F<|l q++hs.eraseIdx i) m r):GG g (Hd n D S F hs) m r:=by
 exact λf a w e=>by
  obtain⟨h,⟨j,o,d,s,u,⟨q,v,y⟩,z⟩,A⟩:=e.2.pull hi;exact k q v f a w ⟨e.1,h,K7 ⟨j,o,d,s,u,y,z⟩,A⟩
theorem GG.nV(is:Q0 Nat)(q:ι)(i:Φ q)(j:YJ is hs=l q)(k:GG g (Hd n D S F<|xU Φ l::J9 is hs) m r):GG g (Hd n D S F hs) m r:=by
 exact λe a w f=>
  k e a w ⟨f.1,f.2.mono λ_ e=>QR (λ_ h=>⟨q,i,j▸h⟩)<|UG (ks:=is) e⟩
theorem ZS{p p' :HP}{l l' :Q0 HP}(a:∀m,p m->p' m)(e:∀m,Qg l m->Qg l' m):∀m,Qg (p::l) m->Qg (p' ::l') m:=λ_ h=>QR a<|QS e h
theorem GG.aK{f:Q0 HP}(is:Q0 Nat)(q:ι)(j:Φ q)(o:YJ is hs=f)(hi:∀m,Qg f m->Qg (l q) m)(k:GG g (Hd n D S F<|xU Φ l::J9 is hs) m r):GG g (Hd n D S F hs) m r:=by
 exact λe a w i=>
  k e a w ⟨i.1,i.2.mono λ_ e=>QR (λ_ h=>⟨q,j,hi _<|o▸h⟩)<|UG (ks:=is) e⟩
theorem GG.sP{p p' :HP}(i:Nat)(f:∀m,p m->p' m)(hi:hs[i]? =some p)(k:GG g (Hd n D S F<|hs.set i p') m r):GG g (Hd n D S F hs) m r:=by
 exact λj a w e=>
  k j a w ⟨e.1,SH.push hi<|(e.2.pull hi).mono λ_ h=>QR f h⟩
theorem GG.ins{p:HP}(i:∀m,p m)(k:GG g (Hd n D S F<|p::hs) m r):GG g (Hd n D S F hs) m r:=by
 exact λj a w f=>
  k j a w ⟨f.1,f.2.mono λm h=>⟨λ_=>none,m,λ_=>.inl rfl,λ_ _ e=>by simp at e,Mem.sub.refl _,i _,h⟩⟩
end
def kv(sz:Nat)(c:U2 α)(F:Fz)(T:A4)(p:Q2 C3)(cap:Nat)(l:Q0 α):HP:=λm=>Qm sz c F T p cap l m∨QG sz c F p cap l
section
variable{β α:Type}{X:Act->B1->Prop}{m:Q2 β}{r:β}{n:Nat}{D:Q0 TO}{S:Q0 (Nat×K2)}{F F0 F' :Fz}{hs:Q0 HP}{sz cap:Nat}{c:U2 α}{T:A4}{p:Q2 C3}{l:Q0 α}
theorem zb{m:Mem}(le:F<=F')(h:kv sz c F T p cap l m):kv sz c F' T p cap l m:=h.imp (We le) λh=>h.mono le
theorem GG.a6(i:Nat)(hi:hs[i]? =some (kv sz c F0 T p cap l))(e:F0<=F)(k:∀F',F<=F'->QG sz c F' p cap l->GG g (Hd n D S F'<|hs.eraseIdx i) m r):GG g (Hd n D S F hs) m r:=by
 exact λj a w h=>by
  obtain⟨v,⟨y,o,d,z,q,f,s⟩,u⟩:=h.2.pull hi;rcases f with f | f
  ·obtain⟨F',le,A,B⟩:=SH.cg e (w:=w) (H:=Qg<|hs.eraseIdx i) ⟨v,⟨y,o,d,z,q,f,s⟩,u⟩;exact k F' le B j a w ⟨h.1,A⟩
  ·exact k F (Fz.le_refl F) (f.mono e) j a w ⟨h.1,o,s,u.sub q⟩
end
def WL(T:A4)(c:U2 α)(F:Fz)(p:Q2 C3):Q2 α->Prop
 | none=>p=none
 | some x=>∃b cs,p=some ⟨b,0,none⟩/\F.mem b=some (.cells (List.toArray cs) T)/\∀F',F<=F'->c F' x cs
section
variable{α:Type}{T:A4}{c:U2 α}{F F' :Fz}{p:Q2 C3}{x:Q2 α}{a:α}
theorem WL.mono(h:WL T c F p x)(le:F<=F'):WL T c F' p x:=by
 cases x with
 | none=>exact h
 | some x=>obtain⟨b,cs,e,f,i⟩:=h;exact⟨b,cs,e,le.mem _ _ f,λG l=>i G<|Fz.le_trans le l⟩
theorem WL.nil:WL T c F none none:=rfl
theorem WL.of{cs:Q0 K2}(h:F.mem b=some (.cells (List.toArray cs) T))(e:∀F',F<=F'->c F' a cs):WL T c F (some ⟨b,0,none⟩) (some a):=⟨b,cs,rfl,h,e⟩
theorem WL.at(h:WL T c F p x)(e:x=some a):∃b cs,F.mem b=some (.cells (List.toArray cs) T)/\p=some ⟨b,0,none⟩/\c F a cs:=by
 subst e;obtain⟨b,cs,f,i,j⟩:=h;exact⟨b,cs,i,f,j F<|Fz.le_refl F⟩
theorem WL.isNone(h:WL T c F p x):p.isNone=x.isNone:=by
 cases x with
 | none=>have:p=none:=h;rw[this];rfl
 | some x=>obtain⟨b,cs,e,_⟩:=h;rw[e];rfl
end
section
variable{β:Type}{P:C1}{ops:S1 Rw}{rest:Q0 Rw}{ks:Q0 Kt}{Q:gw->Act->B1->Prop}{m:Q2 β}{r:β}
variable{n:Nat}{D:Q0 TO}{S:Q0 (Nat×K2)}{F F0:Fz}{hs:Q0 HP}
variable{d:Nat}{ty t:A4}{pos:String}{after:S1 ll}{ox oy oz:IR}
theorem GG.py{e t' :A4}(h:WL T c F p x)(i:Nat.blt d n=true)(j:P.underlying t=some (.pointer e))(l:QP S ox=some (.pointer p))(o:QP S oy=some (.pointer none))(k:GL μ P ops rest ks Q (Hd n D ((d,.bool x.isNone)::S) F hs) m r):GL μ P ops (⟨some d,.binOp .eql t ox oy t',ty,pos,after,none⟩::rest) ks Q (Hd n D S F hs) m r:=
 GG.val i (λa w f=>by
  have q:(Op.equal t (.pointer p)<|.pointer none).run P w= .ok p.isNone w:=BO j 9999;have s:P.eqGuardType P.depth t=false∨P.eqGuardType P.depth t=true:=by cases P.eqGuardType P.depth t<;>simp
  simp[execOp,f.1.eval l,f.1.eval o,eqGuard,binOp,q,h.isNone]) k
theorem GG.pj{e t' :A4}(h:WL T c F p x)(i:Nat.blt d n=true)(j:P.underlying t=some (.pointer e))(l:QP S ox=some (.pointer p))(o:QP S oy=some (.pointer none))(k:GL μ P ops rest ks Q (Hd n D ((d,.bool<|!x.isNone)::S) F hs) m r):GL μ P ops (⟨some d,.binOp .neq t ox oy t',ty,pos,after,none⟩::rest) ks Q (Hd n D S F hs) m r:=
 GG.val i (λa w f=>by
  have q:(Op.equal t (.pointer p)<|.pointer none).run P w= .ok p.isNone w:=BO j 9999;have s:P.eqGuardType P.depth t=false∨P.eqGuardType P.depth t=true:=by cases P.eqGuardType P.depth t<;>simp
  simp[execOp,f.1.eval l,f.1.eval o,eqGuard,binOp,q,h.isNone]) k
section
variable{K V:Type}{ck:K->K2}{rv:Fz->V->K2->Prop}
def Uu(ck:K->K2)(rv:Fz->V->K2->Prop)(F:Fz)(p:Q2 Nat)(l:Q0 (K×V)):Prop:=∃(b:Nat) (es:S1 dO) (clock:Nat) (l' :Q0 (K×V)),p=some b/\l'.Perm l/\(l.map Prod.fst).Nodup/\F.mem b=some (.map es clock)/\Uv ck rv F es.toList l'/\YV es.toList clock
theorem Uu.mono{p:Q2 Nat}{l:Q0 (K×V)}(h:Uu ck rv F p l)(le:F<=F'):Uu ck rv F' p l:=let⟨b,es,c,l',e,f,a,i,j,k⟩:=h;⟨b,es,c,l',e,f,a,le.mem _ _ i,j.up le,k⟩
theorem GG.sd[BEq K]{l:Q0 (K×V)}(i:Nat)(hi:hs[i]? =some (QY ck rv F0 b l))(le:F0<=F)(k:∀F',F<=F'->Uu ck rv F' (some b) l->GG g (Hd n D S F'<|hs.eraseIdx i) m r):GG g (Hd n D S F hs) m r:=by
 exact λj a w f=>by
  obtain⟨es,c,l',o,e,_,q,s,u⟩:=Wy<|f.2.pull hi;obtain⟨h,v⟩:=s.freeze;exact k _ h ⟨b,es,c,l',rfl,o,e,Fz.cx F b _,(q.up le).up h,u⟩ j a w ⟨f.1,v⟩
variable{b:Nat}{l:Q0 (K×V)}{key:K}{z:V}{kt vt:A4}{zv:K2}
variable[BEq K][LawfulBEq K]
theorem GG.sS(i:Nat)(hi:hs[i]? =some (QY ck rv F0 b l))(h:F0<=F)(u:Nat.blt d n=true)(y:P.underlying t=some (.map kt vt))(ok:Xi P kt ck)(j:∀w,(zeroValue vt).run P w= .ok zv w)(A:rv F z zv)(B:QP S ox=some (.map<|some b))(C:QP S oy=some (ck key))
  (k:∀v,rv F ((Qb l key).getD z) v->GL μ P ops rest ks Q (Hd n D ((d,v)::S) F hs) m r):GL μ P ops (⟨some d,.lookup t ox oy false,ty,pos,after,none⟩::rest) ks Q (Hd n D S F hs) m r:=by
 refine GG.sh rfl rfl λE a w e=> ?_;obtain⟨es,c,l',o,G,q,H,_⟩:=Wy<|e.2.pull hi;obtain⟨v,s,f⟩:=FY (key:=key) q H h y ok j A false;rw[WC o G] at s
 refine⟨v,?_,k v s E _ _ ⟨e.1.put u _,e.2⟩⟩;simp[execOp,e.1.eval B,e.1.eval C,f]
theorem GG.tK(i:Nat)(hi:hs[i]? =some (QY ck rv F0 b l))(h:F0<=F)(u:Nat.blt d n=true)(y:P.underlying t=some (.map kt vt))(ok:Xi P kt ck)(j:∀w,(zeroValue vt).run P w= .ok zv w)(A:rv F z zv)(B:QP S ox=some (.map<|some b))(C:QP S oy=some (ck key))
  (k:∀v,rv F ((Qb l key).getD z) v->GL μ P ops rest ks Q (Hd n D ((d,.tuple #[v,.bool (Qb l key).isSome])::S) F hs) m r):GL μ P ops (⟨some d,.lookup t ox oy true,ty,pos,after,none⟩::rest) ks Q (Hd n D S F hs) m r:=by
 refine GG.sh rfl rfl λE a w f=> ?_;obtain⟨es,c,l',o,G,q,H,_⟩:=Wy<|f.2.pull hi;obtain⟨v,s,e⟩:=FY (key:=key) q H h y ok j A true;rw[WC o G] at s e
 refine⟨_,?_,k v s E _ _ ⟨f.1.put u _,f.2⟩⟩;simp[execOp,f.1.eval B,f.1.eval C,e]
theorem Iz{H:HP}{p:Q2 Nat}(h:Uu ck rv F p l)(hs:SH w F H)(k:P.underlying t=some (.map kt vt))(ok:Xi P kt ck)(e:∀w,(zeroValue vt).run P w= .ok zv w)(o:rv F z zv)(f:Bool):∃v,rv F ((Qb l key).getD z) v/\(Instr.lookup t (.map p) (ck key) f).run P w= .ok (if f then .tuple #[v,.bool (Qb l key).isSome] else v) w:=by
 obtain⟨b,es,c,l',rfl,i,q,s,u,_⟩:=h;obtain⟨v,j,a⟩:=FY (key:=key) (SH.frozen hs s) u (Fz.le_refl F) k ok e o f;rw[WC i q] at j a
 exact⟨v,j,a⟩
theorem GG.po{p:Q2 Nat}(h:Uu ck rv F p l)(j:Nat.blt d n=true)(o:P.underlying t=some (.map kt vt))(ok:Xi P kt ck)(i:∀w,(zeroValue vt).run P w= .ok zv w)(q:rv F z zv)(s:QP S ox=some (.map p))(u:QP S oy=some (ck key))
  (k:∀v,rv F ((Qb l key).getD z) v->GL μ P ops rest ks Q (Hd n D ((d,v)::S) F hs) m r):GL μ P ops (⟨some d,.lookup t ox oy false,ty,pos,after,none⟩::rest) ks Q (Hd n D S F hs) m r:=by
 refine GG.sh rfl rfl λy a w e=> ?_;obtain⟨v,A,f⟩:=Iz (key:=key) h e.2 o ok i q false;refine⟨v,?_,k v A y _ _ ⟨e.1.put j _,e.2⟩⟩;simp[execOp,e.1.eval s,e.1.eval u,f]
end
theorem GG.tL{K V:Type}{ck:K->K2}{rv:Fz->V->K2->Prop}{l:Q0 (K×V)}{key:K}{y z:A4}{o:K2}[BEq K][LawfulBEq K](h:De ck rv F b l)(A:Nat.blt d n=true)(B:P.underlying t=some (.map y z))(ok:Xi P y ck)(q:∀w,(zeroValue z).run P w= .ok o w)(C:QP S ox=some (.map<|some b))(E:QP S oy=some (ck key))
  (N:Qb l key=none->GL O P ops rest ks Q (Hd n D ((d,.tuple #[o,.bool false])::S) F hs) m r)
  (R:∀x v,Qb l key=some x->rv F x v->GL O P ops rest ks Q (Hd n D ((d,.tuple #[v,.bool true])::S) F hs) m r):GL O P ops (⟨some d,.lookup t ox oy true,ty,pos,after,none⟩::rest) ks Q (Hd n D S F hs) m r:=by
 refine GG.step rfl (.inr rfl) λG a w e=> ?_;obtain⟨es,c,l',s,W,X,Y⟩:=h;obtain⟨kd,H,f⟩:=ok.und;have i:=e.2.frozen X;have he:=WC (k:=key) s W;rcases Y.find (k:=key) f ok.eq 0 with⟨I,L,_⟩ | ⟨j,M,Z,I,L,g3,g4,g5,_⟩
 ·have u:=run_findKey (w:=w) H L;refine⟨.tuple #[o,.bool false],w,?_,N (by rw[<-he];exact I) G _ _ ⟨e.1.put A _,e.2⟩⟩;simp[execOp,Instr.lookup,e.1.eval C,e.1.eval E,YA B,YW i,ok.check,u,q]
 ·have u:=run_findKey (w:=w) H g4;refine⟨.tuple #[M.val,.bool true],w,?_,R Z M.val (by rw[<-he];exact g3) (g5 F<|Fz.le_refl F) G _ _ ⟨e.1.put A _,e.2⟩⟩;simp[execOp,Instr.lookup,e.1.eval C,e.1.eval E,YA B,YW i,ok.check,u]
end
section
variable{P:C1}{w:B1}{t e sz:Nat}{kd kd' kd'' :mX}{x y:Int}{p:Q2 C3}{len cap:Nat}
theorem Rg(a:P.underlying t=some (.slice e))(f:∀w,(sizeOf e).run P w= .ok sz w)(h:0<=x/\x<=y)(h' :y<=cap):(Instr.sliceAt t (.slice p len cap) (some<|.int kd x) (some<|.int kd' y)<|some<|.int kd'' y).run P w= .ok (.slice (if y.toNat=x.toNat then p else p.map (·.add (x.toNat*sz))) (y.toNat - x.toNat)<|y.toNat - x.toNat) w:=by
 simp only[Instr.sliceAt,wt,YA a,Result.andThen,Instr.slice,Instr.sliceBounds,lM,eJ,B3];rw[Wb (kd:=kd'') qz];simp only[];rw[Wb (kd:=kd') qz];simp only[];rw[Wb qz];simp[f]
end
section
variable{β:Type}{P:C1}{ops:S1 Rw}{rest:Q0 Rw}{ks:Q0 Kt}{Q:gw->Act->B1->Prop}{m:Q2 β}{r:β}
variable{n:Nat}{D:Q0 TO}{S:Q0 (Nat×K2)}{F:Fz}{hs:Q0 HP}{d:Nat}{ty t:A4}{pos:String}{after:S1 ll}{ox oy oz ou:IR}{kd:mX}{x y:Int}
theorem GG.tU{e:Nat}{l:Q0 α}{z o:mX}{f:Q0 α->Q2 β}(C:Nat.blt d n=true)(E:P.underlying t=some (.slice e))(G:∀w,(sizeOf e).run P w= .ok sz w)
  (u:QG sz c F p cap l) (H:QP S ox=some (.slice p l.length cap)) (I:QP S oy=some (.int kd x)) (K:QP S oz=some (.int z y)) (L:QP S ou=some (.int o y))
  (k:∀l' p' c',ZV l x y=some l'->QG sz c F p' c' l'->GL O P ops rest ks Q (Hd n D ((d,.slice p' l'.length c')::S) F hs) (f l') r):GL O P ops (⟨some d,.slice t ox (some oy) (some oz)<|some ou,ty,pos,after,none⟩::rest) ks Q (Hd n D S F hs) ((ZV l x y).bind f) r:=
 GG.bind λl' j=>by
  have A:=j;unfold ZV at j
  split at j
  ·rename_i h;simp only[UV] at j
   have i:QG sz c F (p.map (·.add (x.toNat*sz))) (y.toNat - x.toNat) l' :=by
    have:=u.cut (lo:=x.toNat) (hi:=y.toNat) (cap' :=y.toNat - x.toNat) qz qz (by have:=u.1;omega) (by have:=u.1;omega);rw[<-j];exact this
   have q:l'.length=y.toNat - x.toNat:=by rw[<-j];simp;omega
   have s:QG sz c F (if y.toNat=x.toNat then p else p.map (·.add (x.toNat*sz))) (y.toNat - x.toNat) l' :=zl (λh=>by
    have:l' =[]:=by have:=i.1;rw[<-h] at this;simp at this;exact this
    subst this;exact i.nX) i
   have B:=k l' _ _ A s;rw[q] at B
   refine GG.val C (λa w v=> ?_) B;simp only[execOp,v.1.eval H,v.1.eval I,v.1.eval K,v.1.eval L,E4,wt];rw[Rg E G qz (by have:=u.1;omega)];rfl
  ·cases j
end
section
variable{P:C1}{w:B1}{t:Nat}{kd:mX}{x:Int}{s:Q0 DO}
theorem LF(a:P.underlying t=some .string)(h:0<=x/\x<=s.length):(Instr.sliceAt t (.string<|bs s) (some<|.int kd x) none none).run P w= .ok (.string<|bs<|s.drop x.toNat) w:=by
 simp only[Instr.sliceAt,wt,YA a,Result.andThen,Instr.slice,Instr.sliceBounds,lM,lQ,H1,By,Dc];rw[Wb qz];simp[CO];rw[OF];simp
variable{n:Nat}{D:Q0 TO}{S:Q0 (Nat×K2)}{a:Act}{d:Nat}{ty:A4}{pos:String}{after:S1 ll}{ox oy:IR}
theorem Ni(h:Sl n D S a)(f:P.underlying t=some .string)(i:QP S ox=some (.string<|bs s))(j:QP S oy=some (.int kd x)){l:Q0 DO}(e:ZV s x s.length=some l):(execOp a.eval ⟨some d,.slice t ox (some oy) none none,ty,pos,after,none⟩).run P w= .ok (.value<|.string<|bs l) w:=by
 unfold ZV at e
 split at e
 ·rename_i k;simp only[UV] at e
  simp only[execOp,h.eval i,h.eval j,E4,lk,wt];rw[LF f qz,<-e,OF zh];rfl
 ·cases e
end
section
variable{β:Type}{P:C1}{ops:S1 Rw}{rest:Q0 Rw}{ks:Q0 Kt}{Q:gw->Act->B1->Prop}{E:Act->B1->Prop}{m:Q2 β}{r:β}
variable{n:Nat}{D:Q0 TO}{S:Q0 (Nat×K2)}{F:Fz}{hs:Q0 HP}{d:Nat}{ty t:A4}{pos:String}{after:S1 ll}{ox oy:IR}{kd:mX}{x:Int}{s:Q0 DO}
theorem GG.rA{f:Q0 DO->Q2 β}(e:Nat.blt d n=true)(i:P.underlying t=some .string)(j:QP S ox=some (.string<|bs s))(l:QP S oy=some (.int kd x))(k:∀z,ZV s x s.length=some z->GL μ P ops rest ks Q (Hd n D ((d,.string<|bs z)::S) F hs) (f z) r):GL μ P ops (⟨some d,.slice t ox (some oy) none none,ty,pos,after,none⟩::rest) ks Q (Hd n D S F hs) ((ZV s x s.length).bind f) r:=GG.bind λz h=>GG.val e (λa w o=>Ni o.1 i j l h)<|k z h
theorem GG.pT{z:Q0 DO}(h:ZV s x s.length=some z)(e:Nat.blt d n=true)(f:P.underlying t=some .string)(i:QP S ox=some (.string<|bs s))(j:QP S oy=some (.int kd x))(k:GL μ P ops rest ks Q (Hd n D ((d,.string<|bs z)::S) F hs) m r):GL μ P ops (⟨some d,.slice t ox (some oy) none none,ty,pos,after,none⟩::rest) ks Q (Hd n D S F hs) m r:=GG.val e (λa w l=>Ni l.1 f i j h) k
end
theorem wA{a b:Q0 DO}:(bs a==bs b)=(a==b):=by
 show(bs a).beq (bs b)=_;unfold ByteArray.beq;simp[bs]
theorem Xi.str(h:P.underlying t=some .string):Xi P t (λx:Q0 DO=>.string<|bs x) where
 und:=⟨_,h,λa b=>by simp only[Instr.sameNow];rw[wA]⟩
 check e k w:=by unfold Instr.checkKey;simp[YA h]
 same a:=by show(bs a==bs a)=true;rw[wA,hW]
 eq a b e:=by simpa using e
section
variable{ε β:Type}{P:C1}{penc:ε->K2}{fn:lg}
def SG(P:C1)(penc:ε->K2)(fn:lg)(F:Fz)(R:HP)(ρ:β->Fz->K2->Prop)(a:β->Fz->K2->Q0 HP)(r:Out ε β):gw->Act->B1->Prop:=
 bodyPostM Fence.wide 0 P fn (λe w' =>∃F',F<=F'/\match r with
  | .ok x=>∃v,e= .returned v/\ρ x F' v/\SH w' F' (star (Qg<|a x F' v) R)
  | .pan x=>e= .panicked [{v:=penc x,recovered:=false}]/\SH w' F' R)
theorem Vn.aE{f:L3}{c:ln}{args:Q0 K2}{F:Fz}{Hs:Q0 HP}{m:Q2 (Out ε β)}{ρ:β->Fz->K2->Prop}{a:β->Fz->K2->Q0 HP}{n:Nat}
  (i:P.funcs[f]? =some fn) (j:fn.body=some c) (l:fn.ntmps=n) (o:Nat.ble args.length n=true)
  (k:∀r R,GC none P c [] (SG P penc fn F R ρ a r) (Hd n [] (Dw 0 args) F<|Hs++[R]) m r):Vn P penc f args.toArray F Hs m ρ a:=by
 intro r e w R q;refine(fl (n:=0)).1<|oK i j trivial<|k r R e _ w ⟨?_,q.mono λm e=>K7<|QS (λ_ h=>YD h) e⟩;rw[l];exact WB o
theorem qU{a:S1 K2}{R:oO->B1->Prop}{chain:Q0 PanicEntry}:∀{e:Q0 (Nat×Nat)} {hs:Q0 HP} {w:B1},SH w F (Qg hs)->v8 hs e->
  (∀w',SH w' F (Qg<|Ho hs e)->R (.panicked chain) w')->LeavesInM Fence.wide 0 P fn a R (e.map λp=>WX p.2) (.panicking chain) w
 | [],hs,w,h,_,k=>k w h
 | (i,q)::e,hs,w,h,f,k=>by
  refine⟨by simp,.inl ⟨q,_,rfl,run_takeDeferred<|SH.cp f.1 h,?_⟩⟩;exact qU (SH.putAt f.1 h _) f.2 k
variable{n:Nat}{S:Q0 (Nat×K2)}{F F' :Fz}{hs:Q0 HP}{ks:Q0 Kt}{R:HP}{ρ:β->Fz->K2->Prop}{Hs' :β->Fz->K2->Q0 HP}{x:β}{r:Out ε β}{rs:Q0 ResultVar}{vs:Q0 K2}{ms:Q0 (Nat×Nat)}
theorem zj(is:Q0 Nat)(ms:Q0 (Nat×Nat))(j:fn.results=rs.toArray)(k:v8 hs ms)(h:Sm P S F' (Ho hs ms) rs vs)(hi:YJ is (Ho hs ms)=Hs' x F' (AL vs)++[R])(le:F<=F')(hρ:ρ x F' (AL vs)):some (Out.ok x)=some r->∀a w,Hd n (ms.map λp=>WX p.2) S F' hs a w->SG P penc fn F R ρ Hs' r .ret a w:=by
 intro e a w f;simp only[UV] at e
 subst e;show LeavesInM Fence.wide 0 P fn a.tmps _ a.defers .returning w;rw[f.1.2.1];refine R3 f.2 k λw' h' => ?_
 exact⟨_,Jh (n:=n) (a:=a) (D:=a.defers) j ⟨⟨f.1.1,rfl,f.1.2.2⟩,h'⟩ h,F',le,_,rfl,hρ,h'.mono λm l=>by
  have i:=Vd (ks:=is) l;rw[hi] at i
  exact Xw<|Ve i⟩
theorem GG.rn(is:Q0 Nat)(ms:Q0 (Nat×Nat))(a:fn.results=rs.toArray)(e:v8 hs ms)(h:Sm P S F' (Ho hs ms) rs vs)(hi:YJ is (Ho hs ms)=Hs' x F' (AL vs)++[R])(le:F<=F')(hρ:ρ x F' (AL vs)):GC O P .ret ks (SG P penc fn F R ρ Hs' r) (Hd n (ms.map λp=>WX p.2) S F' hs) (some<|.ok x) r:=GG.cz<|zj is ms a e h hi le hρ
theorem HG{q:ε}{i:Nat}(ms:Q0 (Nat×Nat))(h:v8 hs ms)(hi:(Ho hs ms)[i]? =some R)(le:F<=F'):some (Out.pan q)=some r->∀a w,Hd n (ms.map λp=>WX p.2) S F' hs a w->SG P penc fn F R ρ Hs' r (.panic [{v:=penc q,recovered:=false}]) a w:=by
 intro e a w f;simp only[UV] at e
 subst e;show LeavesInM Fence.wide 0 P fn a.tmps _ a.defers (.panicking _) w;rw[f.1.2.1];exact qU f.2 h λw' h' =>⟨F',le,rfl,h'.only hi⟩
end
section
variable{β:Type}{P:C1}{ops:S1 Rw}{l0:Q0 Rw}{cd:ln}{ks:Q0 Kt}{Q:gw->Act->B1->Prop}{m:Q2 β}{r:β}
variable{n:Nat}{D:Q0 TO}{S:Q0 (Nat×K2)}{F F0:Fz}{hs:Q0 HP}
section
variable{α:Type}{sz cap:Nat}{c:U2 α}{T:A4}{p:Q2 C3}{l:Q0 α}
theorem GG.toQ(i:Nat)(le:F0<=F)(hi:hs[i]? =some (Qm sz c F0 T p cap l))(k:GG g (Hd n D S F<|hs.set i<|kv sz c F T p cap l) m r):GG g (Hd n D S F hs) m r:=by
 exact GG.sP i (λ_ h=>.inl<|We le h) hi k
theorem GG.mC(h:QG sz c F p cap l)(k:GG g (Hd n D S F<|kv sz c F T p cap l::hs) m r):GG g (Hd n D S F hs) m r:=by
 exact GG.ins (λ_=>.inr h) k
end
end
end
section
variable{T:S1 A4}{S:Q0 (Nat×K2)}{p:Q2 C3}{s:Q0 DO}{D:Q0 TO}{P:C1}{F F0:Fz}{f:L3}{cap n i:Nat}{ti:TypeInfo}{l:Q0 Int}{hs:Q0 HP}{e:A4}{β:Type}
variable{O:Q2 Nat}{μ:Md}
theorem kJ{a b:Q0 DO}:XN (a++b)=XN a++XN b:=by simp[XN]
theorem S4{a:Q0 DO}:(XN a).length=a.length:=by simp[XN]
theorem vx(l:Q0 DO):Je 1 (Ex<|KG .u8) F (XN l) (l.map λb=>Value.int .u8 b.toNat):=λi x a c _=>by
 simp only[XN,hP] at a
 cases h:l[i]? with
 | none=>rw[h] at a;cases a
 | some b=>
  rw[h] at a
  simp only[E4,UV] at a
  subst a;obtain⟨hi,he⟩:=Do.1 h;show((l.map _).drop<|i*1).take 1=KG .u8 _;rw[ej,x2<|by simpa using hi];simp[KG,he]
theorem I1{w:B1}{H:HP}{e t t2:Nat}{ty:A4}
  (E:U1 P e 1 (Ex<|KG .u8)) (R:F0<=F) (ht:P.underlying t=some (.slice e)) (G:P.underlying t2=some .string)
  (I:T[0]? =some t) (K:T[1]? =some t2) (h:SH w F (star (Qm 1 (Ex<|KG .u8) F0 e p cap l) H)) (aY:l.length+s.length<=4294967296):∃p' cap' w',(Builtin.append_ T ty #[.slice p l.length cap,.string<|bs s]).run P w= .ok (.slice p' (l++XN s).length cap') w'/\SH w' F (star (Qm 1 (Ex<|KG .u8) F e p' cap'<|l++XN s) H)/\(l++XN s=[]->p' =p/\cap' =cap):=by
 obtain⟨ti,aC,aD,aE⟩:=E.info;obtain⟨z,hzero,aF⟩:=E.zero;have hz:=E.size;have af:∀b o,F.mem b=some o->w.heap[b]? =some o:=λb o e=>h.frozen e;have V:(XN s).length=s.length:=S4;generalize A:(s.map λb=>Value.int .u8 (b.toNat:Int))=us2;have c:us2.length=(XN s).length*1:=by rw[<-A];simp[XN]
 have W:Je 1 (Ex<|KG .u8) F (XN s) us2:=A▸vx s;have X:us2.all Value.oneCell' =true:=by rw[<-A];simp[Value.oneCell']
 have g:∀w' :B1,(Builtin.firstCells 1 (XN s).length<|.string<|bs s).run P w' = .ok us2.toArray w' :=λw' =>by
  have:(ByteArray.extract (bs s) 0 (XN s).length)=bs s:=by rw[V,CO];simp
  simp only[Builtin.firstCells,this];rw[<-A];simp[bs]
 have j:∀w' :B1,(Builtin.lenOf<|.string<|bs s).run P w' = .ok (XN s).length w' :=λw' =>by simp[Builtin.lenOf,Dc,V]
 obtain⟨m,⟨m1,m2,d,s1,s2,⟨h1,h2,h3⟩,hq⟩,k⟩:=h;by_cases a:l.length+(XN s).length<=cap
 ·rcases h3 with⟨rfl,rfl⟩ | ⟨b,cs,rfl,hb,hl,hp⟩
  ·have e1:l=[]:=Nm qz;have e2:XN s=[]:=Nm qz;subst e1;have e3:us2=[]:=Nm (by rw[c,e2];rfl);rw[e2] at g j ⊢
   refine⟨none,0,w,?_,⟨m,⟨m1,m2,d,s1,s2,⟨by simp,by simp,.inl ⟨rfl,rfl⟩⟩,hq⟩,k⟩,λ_=>⟨rfl,rfl⟩⟩;simp only[Builtin.append_];simp only[hF] at g j
   simp[I,K,YA ht,YA G,hz,j,g,e3]
  ·have hh:SH w F (star (pt b<|.cells cs.toArray e (0,0)) H):=⟨m,⟨m1,m2,d,s1,s2,hb,hq⟩,k⟩;have aP:=hh.owned
   have r:l.length*1+us2.length<=cs.length:=by
    rw[c,hl,<-mu];exact lX 1 a
   have L:=XP (P:=P) (o:=l.length*1) (i:=0) aP (by simpa using r) X;simp only[oW] at L
   refine⟨some ⟨b,0,none⟩,cap,put w b<|.cells (Ku cs (l.length*1) us2).toArray e (0,0),?_,?_,λ_=>⟨rfl,rfl⟩⟩
   ·simp only[Builtin.append_];simp only[ej] at L
    simp[I,K,YA ht,YA G,hz,j,g,a,X6,L]
   ·have aQ:=hh.put (o' :=.cells (Ku cs (l.length*1) us2).toArray e (0,0));refine aQ.mono λm hm=>QR (λm' M=>⟨by simp;omega,h2,.inr ⟨b,_,rfl,M,by rw[Hj];exact hl,?_⟩⟩) hm;have:=G4 us2 cs (l.length*1) r;rw[c,<-mu] at this
    apply Je.pg;rw[hN,this];exact(hp.mono R).take.append W zg
 ·have hn:GJ (l.length+(XN s).length) cap ti.bytes:=C7 (Nat.lt_of_not_le a) qz aE
  have u:∃us:Q0 K2,us.length=l.length*1/\Je 1 (Ex<|KG .u8) F l us/\∀w' :B1,w'.heap=w.heap->(Builtin.firstCells 1 l.length<|.slice p l.length cap).run P w' = .ok us.toArray w' :=by
   rcases h3 with⟨rfl,rfl⟩ | ⟨b,cs,rfl,hb,hl,hp⟩
   ·have e1:l=[]:=Nm qz;subst e1;exact⟨[],by simp,Je.nil,λw' _=>by simp[Builtin.firstCells]⟩
   ·have ai:=hp.len E.len;refine⟨cs.take<|l.length*1,by simp;omega,(hp.mono R).take,λw' aS=> ?_⟩;simp only[Builtin.firstCells];exact Ha (cs:=cs) (T:=e) (fr:=(0,0)) (by rw[aS];exact k.rO<|s1 _ _ hb) zh zg
  obtain⟨us,v,aU,u⟩:=u;have aV:SH w F H:=⟨m2,hq,k.sub s2⟩;generalize N:Question.appendCap (l.length+(XN s).length) cap e=q
  have x:l.length+(XN s).length<=q.cut (w.tape w.drawn q)/\q.cut (w.tape w.drawn q)<=9223372036854775807:=by
   rw[<-N];have:=oN (w.tape w.drawn<|Question.appendCap (l.length+(XN s).length) cap e) (show 0 < 2^63 - (l.length+(XN s).length) by omega);simp only[Question.cut];omega
  have y:q.forced=false:=by rw[<-N];rfl
  generalize hC:q.cut (w.tape w.drawn q)=C at x
  have Q:SH {w with drawn:=w.drawn+1} F H:=aV.drew _;have B:=Q.alloc<|.cells ((us.toArray++us2.toArray++Builtin.zeroCells z.cells (C - (l.length+(XN s).length)))) e;have e3:(Builtin.zeroCells z.cells<|C - (l.length+(XN s).length)).size=(C - (l.length+(XN s).length))*1:=by simp[Builtin.zeroCells,aF]
  have e4:(us.toArray++us2.toArray++Builtin.zeroCells z.cells (C - (l.length+(XN s).length))).toList.length=C*1:=by
   simp only[eG,oh,iw,v,c,e3];rw[<-mu,<-mu];congr 1;omega
  have e5:Je 1 (Ex<|KG .u8) F (l++XN s) (us.toArray++us2.toArray++Builtin.zeroCells z.cells (C - (l.length+(XN s).length))).toList:=by
   have:=(aU.append W v).tB (us2:=(Builtin.zeroCells z.cells<|C - (l.length+(XN s).length)).toList) (by simp[v,c]);simpa using this
  refine⟨some ⟨w.heap.size,0,none⟩,C,_,?_,B.mono λm hm=>QR (λm' M=>⟨by simp only[hN];exact x.1,x.2,.inr ⟨w.heap.size,(us.toArray++us2.toArray++Builtin.zeroCells z.cells (C - (l.length+(XN s).length))).toList,rfl,(by have Y:pt w.heap.size _ m' :=M;unfold pt at Y ⊢;rw[Y]),e4,e5⟩⟩) hm,λhe=> ?_⟩
  ·simp only[Builtin.append_];have aW:=hn;unfold GJ at aW
   have Z:¬(2:Nat)^48 < Builtin.nextslicecap (l.length+(XN s).length) cap*ti.bytes:=by omega
   have g1:=u w.drew rfl;have g2:=g w.drew;simp[I,K,YA ht,YA G,hz,j,a,aC,aD,Z,N,y,hC,g1,g2,hzero,newRow];simp only[<-ie,ir]
  ·exfalso;have h5:=congrArg List.length he;simp only[hN,hF] at h5;omega
def fu(e:A4)(p:Q2 C3)(cap:Nat)(s:Q0 DO):HP:=λm=>∃F,Qm 1 (Ex<|KG .u8) F e p cap (XN s) m
theorem w9{m:Mem}(g:Fz)(h:fu e p cap s m):Qm 1 (Ex<|KG .u8) g e p cap (XN s) m:=by
 obtain⟨F,c,d,a⟩:=h;rcases a with a | ⟨b,cs,e,j,k,o⟩
 ·exact⟨c,d,.inl a⟩
 ·exact⟨c,d,.inr ⟨b,cs,e,j,k,λi x q G _=>o i x q F<|Fz.le_refl _⟩⟩
def CP(T e:A4)(b:Nat)(s:Q0 DO):HP:=xU (λq:Q2 C3×Q2 C3×Nat=>(q.1=none∨q.1=some ⟨b,0,none⟩)/\(s=[]->q.2.1=none∨q.2.2≠0)) λq=>[pc b [.pointer q.1,.slice q.2.1 (XN s).length q.2.2] T,fu e q.2.1 q.2.2 s]
section
variable{β:Type}{X:Act->B1->Prop}{m:Q2 β}{r:β}{n:Nat}{D:Q0 TO}{S:Q0 (Nat×K2)}{F F0:Fz}{hs:Q0 HP}{T e b:A4}{s:Q0 DO}
theorem GG.aX{g:Gp}(i:Nat)(hi:hs[i]? =some (CP T e b s))(k:∀p q cap,(p=none∨p=some ⟨b,0,none⟩)->(q=none∨cap≠0)->GG g (Hd n D S F<|pc b [.pointer p,.slice q (XN s).length cap] T::Qm 1 (Ex<|KG .u8) F e q cap (XN s)::hs.eraseIdx i) m r):GG g (Hd n D S F hs) m r:=by
 exact GG.ak i hi fun⟨p,q,cap⟩ ⟨j,o⟩=>GG.sP (p' :=Qm 1 (Ex<|KG .u8) F e q cap<|XN s) 1 (λ_ h=>w9 F h) rfl λt a w d=>by
  refine k p q cap j ?_ t a w d;by_cases c:s=[]
  ·exact o c
  ·right;obtain⟨_,⟨x,_,_,_,_,⟨u,_⟩,_⟩,_⟩:=d.2.pull (k:=1) rfl;rw[S4] at u
   intro v;subst v;exact c<|Nm qz
theorem GG.aL{g:Gp}{q:Q2 C3}(is:Q0 Nat)(a:p=none∨p=some ⟨b,0,none⟩)(c:s=[]->q=none∨cap≠0)(hi:YJ is hs=[pc b [.pointer p,.slice q (XN s).length cap] T,Qm 1 (Ex<|KG .u8) F0 e q cap<|XN s])(k:GG g (Hd n D S F<|CP T e b s::J9 is hs) m r):GG g (Hd n D S F hs) m r:=by
 exact GG.aK is (p,q,cap) ⟨a,c⟩ hi (ZS (λ_ h=>h)<|ZS (λ_ h=>⟨F0,h⟩) λ_ h=>h) k
end
section
variable{β:Type}{P:C1}{ops:S1 Rw}{rest:Q0 Rw}{ks:Q0 Kt}{Q:gw->Act->B1->Prop}{E:Act->B1->Prop}{m:Q2 β}{r:β}
variable{n:Nat}{D:Q0 TO}{S:Q0 (Nat×K2)}{F F0:Fz}{hs:Q0 HP}{d:Nat}{ty t t2 e T b:A4}{pos:String}{after:S1 ll}{ox oy:IR}{p:Q2 C3}{cap:Nat}{s:Q0 DO}{c:ln}
theorem GG.nN{g:Gp}(k:GG g (Hd n D S F<|Aa::hs) m r):GG g (Hd n D S F hs) m r:=GG.ins (λ_=>trivial) k
theorem GG.rG(i:Nat)(e:A4)(hi:hs[i]? =some (pc b [.pointer none,.slice none 0 0] T))(k:GL O P ops rest ks Q (Hd n D S F<|hs.set i<|CP T e b []) m r):GL O P ops rest ks Q (Hd n D S F hs) m r:=λg a w j=>k g a w ⟨j.1,SH.push hi<|(j.2.pull hi).mono λ_ g=>QR (λm h=>⟨(none,none,0),⟨.inl rfl,λ_=>.inl rfl⟩,m,λ_=>none,λ_=>.inr rfl,Mem.sub.refl _,λ_ _ e=>by simp at e,h,λ_=>none,λ_=>none,λ_=>.inr rfl,λ_ _ e=>by simp at e,λ_ _ e=>by simp at e,⟨F,PQ⟩,trivial⟩) g⟩
theorem GG.rj{f:Q0 Int->Q2 β}{T:S1 A4}(i:Nat)(E:U1 P e 1 (Ex<|KG .u8))(u:F0<=F)(A:Nat.blt d n=true)(B:P.underlying t=some (.slice e))(v:P.underlying t2=some .string)(x:T[0]? =some t)(y:T[1]? =some t2)
  (hi:hs[i]? =some (Qm 1 (Ex<|KG .u8) F0 e p cap l)) (C:QP S ox=some (.slice p l.length cap)) (G:QP S oy=some (.string<|bs s))
  (k:∀l' p' cap',YB l (XN s)=some l'->(l' =[]->p' =p/\cap' =cap)->GL O P ops rest ks Q (Hd n D ((d,.slice p' l'.length cap')::S) F<|hs.set i<|Qm 1 (Ex<|KG .u8) F e p' cap' l') (f l') r):GL O P ops (⟨some d,.call ⟨.builtin .append,#[ox,oy],T⟩,ty,pos,after,none⟩::rest) ks Q (Hd n D S F hs) ((YB l<|XN s).bind f) r:=
 GG.bind λl' h=>by
  have z:=h;unfold YB at h
  split at h
  ·rename_i g;simp only[UV] at h
   subst h;refine GG.step rfl (.inr rfl) λH a w q=> ?_;obtain⟨p',cap',w',j,I,o⟩:=I1 (P:=P) (T:=T) (ty:=ty) (s:=s) E u B v x y (q.2.pull hi) (by rw[S4] at g;exact g);refine⟨_,w',?_,k _ p' cap' z o H _ _ ⟨q.1.put A _,SH.push hi I⟩⟩;simp[execOp,resolve,invoke,builtin,q.1.eval C,q.1.eval G,j]
  ·cases h
theorem GG.rI{l':Q0 Int}{T:S1 A4}(a:YB l (XN s)=some l')(i:Nat)(E:U1 P e 1 (Ex<|KG .u8))(j:F0<=F)(v:Nat.blt d n=true)(w:P.underlying t=some (.slice e))(o:P.underlying t2=some .string)(q:T[0]? =some t)(u:T[1]? =some t2)
  (hi:hs[i]? =some (Qm 1 (Ex<|KG .u8) F0 e p cap l)) (x:QP S ox=some (.slice p l.length cap)) (y:QP S oy=some (.string<|bs s))
  (k:∀p' cap',(l' =[]->p' =p/\cap' =cap)->GL O P ops rest ks Q (Hd n D ((d,.slice p' l'.length cap')::S) F<|hs.set i<|Qm 1 (Ex<|KG .u8) F e p' cap' l') m r):GL O P ops (⟨some d,.call ⟨.builtin .append,#[ox,oy],T⟩,ty,pos,after,none⟩::rest) ks Q (Hd n D S F hs) m r:=by
 have h:=GG.rj (f:=λ_=>m) (pos:=pos) (after:=after) (ty:=ty) i E j v w o q u hi x y (λz p' cap' g A=>by rw[a] at g;cases g;exact k p' cap' A);rw[a] at h;exact h
theorem GG.tr{caps h vs:Q0 K2}{of:IR}{os:Q0 IR}{T:S1 A4}{ρ:Unit->Fz->K2->Prop}{H:HP}{H' :Unit->Fz->K2->HP}(o:Nat.blt d n=true)
  (a:∀args w,(callFunc f args).run P w= .ok (.enter f args) w) (q:QP S of=some (.func (.func f) #[] caps.toArray)) (u:Uk S os=some vs) (has:vs++caps=h) (hi:hs[i]? =some H)
  (x:CT P f h.toArray F H (some ()) ρ H') (k:∀j v,F<=j->GL O P ops rest ks Q (Hd n D ((d,v)::S) j<|hs.set i<|H' () j v) m r):GL O P ops (⟨some d,.call ⟨.value of,os.toArray,T⟩,ty,pos,after,none⟩::rest) ks Q (Hd n D S F hs) m r:=
 GG.sr (e:=some ()) (g:=λ_=>m) o a q u has hi x (λ_ j v _ le _=>k j v le)
theorem GG.mF{t' :A4}(h:Nat.blt d n=true)(j:P.underlying t=some (.pointer e))(o:QP S ox=some (.pointer p))(q:QP S oy=some (.pointer none))(k:GL O P ops rest ks Q (Hd n D ((d,.bool p.isNone)::S) F hs) m r):GL O P ops (⟨some d,.binOp .eql t ox oy t',ty,pos,after,none⟩::rest) ks Q (Hd n D S F hs) m r:=
 GG.val h (λa w g=>by
  have u:(Op.equal t (.pointer p)<|.pointer none).run P w= .ok p.isNone w:=BO j 9999;simp[execOp,g.1.eval o,g.1.eval q,eqGuard,binOp,u]) k
theorem GG.nz{t' :A4}{a0:C3}(j:Nat.blt d n=true)(o:P.underlying t=some (.pointer e))(g:P.info? e=some ti)(q:QP S ox=some (.pointer<|some a0))(u:QP S oy=some (.pointer<|some a0))(k:GL O P ops rest ks Q (Hd n D ((d,.bool false)::S) F hs) m r):GL O P ops (⟨some d,.binOp .neq t ox oy t',ty,pos,after,none⟩::rest) ks Q (Hd n D S F hs) m r:=
 GG.val j (λa w h=>by
  have v:=Go.Lib.run_neq_ptr_same (P:=P) w a0 o g;simp[execOp,h.1.eval q,h.1.eval u,eqGuard,v]) k
theorem GG.pV{g v:Nat}{cs:Q0 K2}{h j:A4}(y:Nat.blt d n=true)(o:P.underlying h=some (.pointer e))(q:P.underlying j=some .unsafePointer)(z:P.info? e=some ti)(A:ti.size≠0)(B:hs[i]? =some (pc g cs v))(C:0 < cs.length)(G:QP S ox=some (vP g 0))
  (k:GL O P ops rest ks Q (Hd n D ((d,vP g 0)::S) F hs) m r):GL O P ops (⟨some d,.convert h j ox,ty,pos,after,none⟩::rest) ks Q (Hd n D S F hs) m r:=
 GG.val y (λa w x=>by
  have u:w.shape? g=some (v,cs.length):=by simp[World.shape?,SH.cp B x.2]
  have H:=Go.Lib.run_to_unsafe (P:=P) w ⟨g,0,none⟩ o q z A u C;simp[execOp,x.1.eval G,H]) k
theorem GG.th{g o:Nat}{cs:Q0 K2}{h j:A4}(y:Nat.blt d n=true)(q:P.underlying h=some .unsafePointer)(u:P.underlying j=some (.pointer e))(z:P.info? e=some ti)(A:hs[i]? =some (pc g cs o))(B:liesAt P P.depth o (cs.length / P.cellsOf o) 0 e 1=true)(C:QP S ox=some (vP g 0))
  (k:GL O P ops rest ks Q (Hd n D ((d,vP g 0)::S) F hs) m r):GL O P ops (⟨some d,.convert h j ox,ty,pos,after,none⟩::rest) ks Q (Hd n D S F hs) m r:=
 GG.val y (λa w x=>by
  have v:w.shape? g=some (o,cs.length):=by simp[World.shape?,SH.cp A x.2]
  have G:=Go.Lib.run_from_unsafe (P:=P) w ⟨g,0,none⟩ q u z v B;simp[execOp,x.1.eval C,G]) k
theorem GG.rh{T:S1 A4}{v:K2}(g:Nat.blt d n=true)(h:∀w,(callFunc f #[v]).run P w= .ok (.value v) w)(j:QP S ox=some v)
  (k:GL O P ops rest ks Q (Hd n D ((d,v)::S) F hs) m r):GL O P ops (⟨some d,.call ⟨.value<|.func f,#[ox],T⟩,ty,pos,after,none⟩::rest) ks Q (Hd n D S F hs) m r:=
 GG.val g (λa w o=>by
  have q:a.eval (.func f)= .func (.func f) #[] #[]:=rfl;simp[execOp,resolve,Deferred.ofValue,q,o.1.eval j,invoke,h]) k
theorem GG.pM{k:Nat}{T:S1 A4}(j:p=none∨cap≠0)(o:Nat.blt d n=true)(q:QP S ox=some (.slice p k cap))(h:GL μ P ops rest ks Q (Hd n D ((d,.pointer p)::S) F hs) m r):GL μ P ops (⟨some d,.call ⟨.builtin .unsafeSliceData,#[ox],T⟩,ty,pos,after,none⟩::rest) ks Q (Hd n D S F hs) m r:=by
 refine GG.sh rfl rfl λu a w g=>⟨.pointer p,?_,h u _ _ ⟨g.1.put o _,g.2⟩⟩
 have:(Builtin.unsafeSliceData_ T ty #[.slice p k cap]).run P w= .ok (.pointer p) w:=by
  cases p with
  | none=>exact Go.Lib.run_unsafeSliceData_nil w T ty k cap
  | some a=>exact Go.Lib.run_unsafeSliceData_row w T ty a k cap (by rcases j with h | h;cases h;exact h)
 simp[execOp,resolve,invoke,builtin,g.1.eval q,this]
theorem GG.pJ{T:S1 A4}{pt u:A4}(i:Nat)(X:T=#[pt,u])(B:P.underlying pt=some (.pointer e))(C:P.cellsOf e=1)(hi:hs[i]? =some (Qm 1 (Ex<|KG .u8) F0 e p cap<|XN s))(I:Nat.blt d n=true)(v:QP S ox=some (.pointer p))(y:QP S oy=some (.int .i64 (XN s).length))
  (k:GL O P ops rest ks Q (Hd n D ((d,.string<|bs s)::S) F<|hs.eraseIdx i) m r):GL O P ops (⟨some d,.call ⟨.builtin .unsafeString,#[ox,oy],T⟩,ty,pos,after,none⟩::rest) ks Q (Hd n D S F hs) m r:=by
 subst X;refine GG.step rfl (.inr rfl) λK a w o=> ?_;have Y:=o.2.pull hi;obtain⟨Z,⟨m1,L,dd,s1,M,⟨h1,h2,h3⟩,N⟩,R⟩:=Y;rw[S4] at y h1
 by_cases z:s=[]
 ·subst z;refine⟨.string<|bs [],w,?_,k K _ _ ⟨o.1.put I _,⟨L,N,R.sub M⟩⟩⟩;have:=Go.Lib.run_unsafeString_none (P:=P) w pt u ty p;simp only[hF] at y
  simp[execOp,resolve,invoke,builtin,o.1.eval v,o.1.eval y];have e:bs []=ByteArray.empty:=rfl;rw[e];simpa using congrArg (λr=>r) (show(Builtin.unsafeString_ #[pt,u] ty #[.pointer p,.int .i64 0]).run P w= .ok (.string .empty) w from this)▸rfl
 ·rcases h3 with⟨rfl,rfl⟩ | ⟨g,cs,rfl,hb,hl,hp⟩
  ·exfalso;exact z<|Nm qz
  ·have V:SH w F (star (Dec.pt g<|.cells cs.toArray e (0,0))<|Qg<|hs.eraseIdx i):=⟨Z,⟨m1,L,dd,s1,M,hb,N⟩,R⟩;have A:=V.owned
   have q:∀j x,s[j]? =some x->w.cell? ((⟨g,0,none⟩:C3).add j)=some (.int .u8 x.toNat):=λj x v=>by
    have G:(XN s)[j]? =some (x.toNat:Int):=by simp[XN,v]
    have:=hp j _ G F0<|Fz.le_refl _;have W:(cs.drop<|j*1).take 1=[Value.int .u8 x.toNat]:=this;rw[ej] at W
    have h6:cs[j]? =some (.int .u8 x.toNat):=by
     have:=congrArg (λl:Q0 K2=>l[0]?) W;simpa[yb,ml] using this
    rw[X6];simp[World.cell?,A,h6]
   have h:=Go.Lib.run_unsafeString_row (P:=P) w pt u ty e B C g cs.length (by simp[World.shape?,A]) s z qz qz q
   have hw:w.freeze ⟨g,0,none⟩ s.length=put w g (.cells cs.toArray e (0,0+s.length)):=by
    have H:s.length≠0:=λe=>z<|Nm e;unfold World.freeze put;rw[B2 H];congr 1;apply oP;intro j;rw[iV,Array.getElem?_setIfInBounds];split
    ·rename_i G;subst G;have:=lt_of_heap A;rw[Bm this,A];rfl
    ·rfl
   rw[hw] at h
   have h7:=(V.put (o' :=.cells cs.toArray e (0,0+s.length))).drop;refine⟨.string<|bs s,_,?_,k K _ _ ⟨o.1.put I _,h7⟩⟩;have e8:bs s=⟨s.toArray⟩:=rfl;simp[execOp,resolve,invoke,builtin,o.1.eval v,o.1.eval y,h,e8]
end
def gN{α:Type}(P:C1)(F:Fz)(f:L3)(caps:Q0 K2)(arg:α->Fz->Q0 K2->Prop)(Hs:Q0 HP)(l:Q0 α):Prop:=
 (∀args w,(callFunc f args).run P w= .ok (.enter f args) w)/\
 ∀(σ:Type) (b:Nat) (Y:σ->Fz->HP) (y:α->σ->Q2 (σ×Bool)) (a:Fz),F<=a->WK P b a arg Y y->∀s,Xv P f (.func (.yield b) #[] #[]::caps).toArray a (Hs++[Y s a]) (WH y l s) (λ_ _ _=>True) λc d=>[Y c d]
section
variable{β:Type}{P:C1}{ks:Q0 Kt}{Q:gw->Act->B1->Prop}{r:β}{n:Nat}{D:Q0 TO}{S:Q0 (Nat×K2)}{F:Fz}{hs:Q0 HP}
variable{α τ γ:Type}{g:IR}{ps:Q0 Tmp}{assign body:ln}{f:L3}{caps:Q0 K2}{arg:α->Fz->Q0 K2->Prop}{bm:α->τ->Q2 (UP τ γ)}{s0:τ}{k:UP τ γ->Q2 β}
theorem GG.pO{l:Q0 α}(Hs:Q0 HP)(is:Q0 Nat)(I:τ->Fz->Q0 HP->Prop)(J:γ->Fz->Q0 HP->Prop)(Z:QP S g=some (.func (.func f) #[] caps.toArray))(C:gN P F f caps arg Hs l)(M:(ps.all λp=>Nat.blt p n)=true)(E:∀x j vs,arg x j vs->vs.length=ps.length)
  (hi:YJ is hs=Hs) (N:I s0 F (J9 is hs))
  (round:∀l L F0 B x vs s t R d,F<=F0->F0<=B->arg x B vs->I s F0 d->GC (some l) P assign [] (BP P l body<|RP l L I J B R t) (Hd n [] ((ps.zip vs).reverse++S) B<|pt l (UH L)::R::d) (bm x s) t)
  (next:∀q F0 j s d,F<=F0->F0<=j->Ap bm l s0=some (.next s)->I s F0 d->GE none P ks Q (Hd n (WX q::D) S j<|pt q (.deferred<|some [])::d) (k<|.next s) r)
  (done:∀q F0 j b d,F<=F0->F0<=j->Ap bm l s0=some (.done b)->J b F0 d->GC none P .ret ks Q (Hd n (WX q::D) S j<|pt q (.deferred<|some [])::d) (k<|.done b) r):GC none P (.rangeFunc g ps.toArray assign body) ks Q (Hd n D S F hs) ((Ap bm l s0).bind k) r:=by
 intro h a w o;cases G:Ap bm l s0 with
 | none=>rw[G] at h;cases h
 | some c=>
  rw[G] at h
  refine oD λfn _=> ?_
  let L:Loop:={state:=.ready,pending:=none,fn,tmps:=a.tmps,params:=ps.toArray,assign,body,defers:=w.heap.size}
  have V:SH ((w.alloc<|.deferred<|some []).alloc<|.loop L) F (star (Qg<|Hs++[yS F (w.heap.size+1) L I J (.next s0) F])<|Qg [pt w.heap.size<|.deferred<|some []]):=by
   have u:=(o.2.alloc<|.deferred<|some []).alloc<|.loop L;rw[eO] at u
   refine u.mono λm h=> ?_
   have h2:star (pt (w.heap.size+1)<|UH L) (star (pt w.heap.size<|.deferred<|some [])<|star (Qg Hs)<|Qg<|J9 is hs) m:=
    QS (λm h=>QS (λm h=>by have:=UG (ks:=is) h;rw[hi] at this;exact this) h) h
   have y:=PE<|QS (λm h=>Zi h)<|Zi h2;refine QR (λm h=> ?_)<|QS (λm h=>YD h) y;refine K7<|QS (λm h=>YD (p:=yS F (w.heap.size+1) L I J (.next s0) F) ⟨F,J9 is hs,Fz.le_refl _,Fz.le_refl _,N,h⟩) h
  have hY:WK P (w.heap.size+1) F arg (yS F (w.heap.size+1) L I J) (je bm):=by
   refine Rx (S' :=λvs=>(ps.zip vs).reverse++S) (assign:=assign) (body:=body) (λx j vs W=>by rw[E x j vs W];simp[L]) rfl rfl (λvs _=>D4 M ⟨o.1.1,rfl,o.1.2.2⟩) ?_;exact λF0 B x vs s t R d H u W N=>round _ L F0 B x vs s t R d H u W N
  have hc:=C.2 _ _ _ _ F (Fz.le_refl F) hY (.next s0) c (by rw[Fo];exact G) _ _ V;refine⟨w.heap.size+1,[WX w.heap.size],(w.alloc<|.deferred<|some []).alloc<|.loop L,⟨.fn (.func f) caps.toArray,#[.func (.yield<|w.heap.size+1) #[] #[]]⟩,(w.alloc<|.deferred<|some []).alloc<|.loop L,f,(.func (.yield<|w.heap.size+1) #[] #[]::caps).toArray,(w.alloc<|.deferred<|some []).alloc<|.loop L,eD fn a.tmps ps.toArray assign body,?_,λ_ _=>trivial,?_,λe=>(by cases e),?_⟩
  ·have X:a.eval (.const<|.func (.yield<|w.heap.size+1) #[] #[])= .func (.yield<|w.heap.size+1) #[] #[]:=rfl;simp[resolve,Deferred.ofValue,o.1.eval Z,X]
  ·simp[invoke,C.1]
  ·refine fl.2<|hc.mono ?_;rintro _ w' ⟨j,v,le,rfl, -,K⟩;cases c with
   | next s=>
    have z:SH w' j (star (yS F (w.heap.size+1) L I J (.next s) j)<|Qg [pt w.heap.size<|.deferred<|some []]):=K.mono λm h=>Wo h;obtain⟨F0,d,H,u,A,y⟩:=SH.sk z;refine⟨none,_,D5<|SH.cp (k:=0) rfl y,?_⟩;have Y:SH _ j (Qg<|pt w.heap.size (.deferred<|some [])::d):=(SH.sF 0<|SH.putAt (k:=0) rfl y<|Ti L none).mono λm h=>Wo h;exact next w.heap.size F0 j s d H u G A h _ _ ⟨⟨o.1.1,by simp[o.1.2.1],o.1.2.2⟩,Y⟩
   | done b=>
    have z:SH w' j (star (yS F (w.heap.size+1) L I J (.done b) j)<|Qg [pt w.heap.size<|.deferred<|some []]):=K.mono λm h=>Wo h;obtain⟨F0,d,H,u,A,y⟩:=SH.tG z;refine⟨some .ret,_,Lz<|SH.cp (k:=0) rfl y,?_⟩;have Y:SH _ j (Qg<|pt w.heap.size (.deferred<|some [])::d):=(SH.sF 0<|SH.putAt (k:=0) rfl y<|Ti L<|some .ret).mono λm h=>Wo h;exact done w.heap.size F0 j b d H u G A h _ _ ⟨⟨o.1.1,by simp[o.1.2.1],o.1.2.2⟩,Y⟩
end
theorem u3{K V:Type}[BEq K]{ck:K->K2}{rv:Fz->V->K2->Prop}{p:Q2 Nat}{l:Q0 (K×V)}(h:Uu ck rv F p l)
  (a:∀b es clock w,w.heap[b]? =some (.map es clock)->Calls P f #[.map<|some b] w λe w' =>e= .returned (.map<|some w.heap.size)/\w' =w.alloc (.map es clock)) (w:B1) (R:HP) (j:SH w F R):Calls P f #[.map p] w (λe w' =>∃b,e= .returned (.map<|some b)/\SH w' F (star (QY ck rv F b l) R)):=by
 obtain⟨b,es,c,l',rfl,k,d,o,q,r⟩:=h;refine(a b es c w<|j.frozen o).mono ?_;rintro e w' ⟨rfl,rfl⟩;exact⟨_,rfl,(j.alloc<|.map es c).mono λm g=>QR (λm g=>⟨l',k,d,es,c,g,q,r⟩) g⟩
end
section
variable{f:L3}{P:C1}{β:Type}{n:Nat}
variable{O:Q2 Nat}{μ:Md}
section
variable{β:Type}{P:C1}{ops:S1 Rw}{rest:Q0 Rw}{ks:Q0 Kt}{Q:gw->Act->B1->Prop}{m:Q2 β}{r:β}
variable{n:Nat}{D:Q0 TO}{S:Q0 (Nat×K2)}{F:Fz}{hs:Q0 HP}{d:Nat}{ty:A4}{pos:String}{after:S1 ll}
theorem GG.tp{α:Type}{caps b vs:Q0 K2}{of:IR}{os:Q0 IR}{T:S1 A4}{j:Q2 (Q0 α)}{x:Q0 α}{l:Nat}{c:U2 α}{o:A4}(he:j=some x)(q:Nat.blt d n=true)
  (a:∀args w,(callFunc f args).run P w= .ok (.enter f args) w) (s:QP S of=some (.func (.func f) #[] caps.toArray)) (t:Uk S os=some vs) (has:vs++caps=b)
  (u:Ce P f b.toArray F j l c o) (k:∀e p cap,F<=e->GL O P ops rest ks Q (Hd n D ((d,.slice p x.length cap)::S) e<|Qm l c e o p cap x::hs) m r):GL O P ops (⟨some d,.call ⟨.value of,os.toArray,T⟩,ty,pos,after,none⟩::rest) ks Q (Hd n D S F hs) m r:=by
 have h:=GG.nC (O:=O) (P:=P) (ops:=ops) (rest:=rest) (ks:=ks) (Q:=Q) (r:=r) (n:=n) (D:=D) (S:=S) (F:=F) (hs:=hs) (d:=d) (ty:=ty) (pos:=pos) (after:=after) (T:=T) (g:=λ_=>m) q a s t has u (λx' e p cap i le=>by rw[he] at i;cases i;exact k e p cap le);rw[he] at h
 exact h
theorem GG.rE{K V:Type}{ck:K->K2}{rv:Fz->V->K2->Prop}{of:IR}{os:Q0 IR}{T:S1 A4}{p:Q2 Nat}{l:Q0 (K×V)}(h:Nat.blt d n=true)
  (c:∀args w,(callFunc f args).run P w= .ok (.enter f args) w) (i:QP S of=some (.func (.func f) #[] #[])) (j:Uk S os=some [.map p])
  (o:∀w R,SH w F R->Calls P f #[.map p] w (λe w' =>∃b,e= .returned (.map<|some b)/\SH w' F (star (QY ck rv F b l) R)))
  (k:∀b,GL O P ops rest ks Q (Hd n D ((d,.map<|some b)::S) F<|QY ck rv F b l::hs) m r):GL O P ops (⟨some d,.call ⟨.value of,os.toArray,T⟩,ty,pos,after,none⟩::rest) ks Q (Hd n D S F hs) m r:=
 GG.su rfl (.inr rfl) λq a w g=>by
  refine⟨Wx (caps:=[]) (vs:=[.map p]) g.1 c i j,?_⟩;refine(o w _ g.2).mono ?_;rintro _ w' ⟨b,rfl,s⟩;exact⟨_,rfl,k b q _ _ ⟨g.1.put h _,s⟩⟩
end
theorem Xv.nQ{fn:lg}{c:ln}{args:Q0 K2}{F:Fz}{Hs:Q0 HP}{m:Q2 β}{ρ:β->Fz->K2->Prop}{a:β->Fz->Q0 HP}
  (d:P.funcs[f]? =some fn) (g:fn.body=some c) (i:fn.ntmps=n) (j:Nat.ble args.length n=true)
  (k:∀r R,GC none P c [] (S8 (G:=Unit) P fn F R (λ_=>ρ) (λ_=>a) r) (Hd n [] (Dw 0 args) F<|Hs++[R]) m r):Xv P f args.toArray F Hs m ρ a:=by
 intro r b w R l;refine((fl (n:=0)).1<|iW d g trivial<|k r R b _ w ⟨?_,l.mono λm b=>K7<|QS (λ_ h=>YD h) b⟩).mono ?_
 ·rw[i];exact WB j
 ·rintro e w' ⟨_,o,v,h⟩;exact⟨o,v,h⟩
section
variable{β:Type}{P:C1}{n:Nat}{S:Q0 (Nat×K2)}{F F' :Fz}{hs:Q0 HP}
variable{G ε:Type}{penc:ε->K2}{fn:lg}{R:HP}{ρ:G->β->Fz->K2->Prop}{Hs' :G->β->Fz->Q0 HP}{x r:β}{rs:Q0 ResultVar}{vs:Q0 K2}
theorem Ff{caps:Q0 K2}{Hs:Q0 HP}{j:ε->Fz->Q0 HP}{q:ε}(U:G)(c:∀args w,(callFunc f args).run P w= .ok (.enter f args) w)(p:wR P penc f caps.toArray F' Hs j)(is:Q0 Nat)(hi:YJ is hs=Hs)(s:fn.results=rs.toArray)(h:∀b,F'<=b->Sm P S b (j q b++J9 is hs) rs vs)(le:F<=F')
  (i:∀b w,F'<=b->SH w b (Qg<|j q b++J9 is hs)->SH w b (star (Qg<|Hs' U x b) R)) (hρ:∀b,ρ U x b<|AL vs):some x=some r->∀a w,Hd n [Pn f caps] S F' hs a w->S8 P fn F R ρ Hs' r (.panic [{v:=penc q,recovered:=false}]) a w:=by
 intro e a w k;simp only[UV] at e
 subst e;show LeavesIn Fence.wide 0 P fn a.tmps _ a.defers (.panicking _) w;rw[k.1.2.1]
 have l:SH w F' (star (Qg Hs)<|Qg<|J9 is hs):=k.2.mono λm t=>by
  have:=UG (ks:=is) t;rw[hi] at this;exact this
 refine iF zh (λe=>by cases e) (Az c) Pa<|(p.2 q w _ l).mono ?_;rintro _ _ w' ⟨rfl,⟨v,rfl⟩,g,d,u⟩;have o:SH w' g (Qg<|j q g++J9 is hs):=u.mono λ_=>K7;exact⟨_,Jh (n:=n) (a:=a) (D:=a.defers) s ⟨⟨k.1.1,rfl,k.1.2.2⟩,o⟩<|h g d,U,g,_,Fz.le_trans le d,rfl,hρ g,i g w' d o⟩
end
end
section
variable{c:ln}
def jh(f:L3)(P:C1)(c:ln)(Q:gw->Act->B1->Prop)(a:Act)(w:B1):Prop:=∀(b:Frame) (k:Q0 Item) (cs:Q0 Frame),b.roundOf=none->b.fn=f->∃e d w',Q e d w'/\ArrivesIn (Machine.fenced P Fence.wide) P (lone (b.atR a<|.code c::k) cs w) b k cs e d w'
section
variable{f:L3}{P:C1}{Q Q' :gw->Act->B1->Prop}{a:Act}{w:B1}
theorem vN(h:c.wpIn Fence.wide 0 P Q a w):jh f P c Q a w:=λb k cs d _=>h b k cs d trivial<|room_wide _
theorem vO(h:jh f P c Q a w)(d:∀e a w,Q e a w->Q' e a w):jh f P c Q' a w:=λb k cs g i=>let⟨e,j,w',q,s⟩:=h b k cs g i;⟨e,j,w',d _ _ _ q,s⟩
theorem wY{x y:ln}(h:jh f P x (Exit.then (jh f P y Q) Q) a w):jh f P (.seq x y) Q a w:=by
 intro b k cs j m;have g:(lone (b.atR a<|.code (.seq x y)::k) cs w).fenced P Fence.wide:=mr _ _;obtain⟨e,a₁,w₁,i,d⟩:=h b (.code y::k) cs j m;cases e with
 | normal=>
  obtain⟨e₂,a₂,w₂,hq₂,harr₂⟩:=i b k cs j m;exact⟨e₂,a₂,w₂,hq₂,.of_steps (.head g oJ d) harr₂⟩
 | exit id=>exact⟨_,a₁,w₁,i,.of_steps (.one g oJ)<|.pass (x:=.code y) rfl (λ_ _=>.inl zh) d⟩
 | goto l=>exact⟨_,a₁,w₁,i,.of_steps (.one g oJ)<|.pass (x:=.code y) rfl (λ_ _=>.inl zh) d⟩
 | ret=>exact⟨_,a₁,w₁,i,.of_steps (.one g oJ)<|.pass (x:=.code y) rfl (λ_ _=>.inl zh) d⟩
 | panic n=>exact⟨_,a₁,w₁,i,.of_steps (.one g oJ)<|.pass (x:=.code y) rfl (λ_ _=>.inl zh) d⟩
 | outgrown=>exact⟨_,a₁,w₁,i,.of_steps (.one g oJ)<|.pass (x:=.code y) rfl (λ_ _=>.inl zh) d⟩
theorem jg{id:Nat}(h:jh f P c (Exit.inBlock id Q) a w):jh f P (.block id c) Q a w:=by
 intro b k cs q u;have i:(lone (b.atR a<|.code (.block id c)::k) cs w).fenced P Fence.wide:=mr _ _;obtain⟨e,a₁,w₁,j,d⟩:=h b (.inBlock id::k) cs q u;cases e with
 | normal=>exact⟨.normal,a₁,w₁,j,.head i lx<|nn d<|.one (mr _ _) stepR_inBlock⟩
 | exit g=>
  by_cases m:g=id
  ·simp only[Exit.inBlock,m,B3] at j
   exact⟨.normal,a₁,w₁,j,.head i lx<|d.1 k<|by simp[exitTo,m]⟩
  ·simp only[Exit.inBlock,m,By] at j
   have this:(id==g)=false:=by simp;exact λh=>m h.symm
   have p:exitTo g (.inBlock id::k)=exitTo g k:=by simp[exitTo,this]
   exact⟨.exit g,a₁,w₁,j,λr n=>.head i lx (d.1 r (by rw[p];exact n)),
    λo n=>let⟨k₁,s,t⟩:=d.2 o (by rw[p];exact n);⟨k₁,s,.head i lx t⟩⟩
 | goto l=>
  have p:gotoIn l (.inBlock id::k)=gotoIn l k:=by simp[gotoIn]
  exact⟨_,a₁,w₁,j,λr n=>.head i lx (d.1 r (by rw[p];exact n)),
   λo n=>let⟨k₁,s,t⟩:=d.2 o (by rw[p];exact n);⟨k₁,s,.head i lx t⟩⟩
 | ret=>exact⟨_,a₁,w₁,j,.of_steps (.one i lx) d⟩
 | panic v=>exact⟨_,a₁,w₁,j,.of_steps (.one i lx) d⟩
 | outgrown=>exact⟨_,a₁,w₁,j,.of_steps (.one i lx) d⟩
theorem O9{fn:lg}{args:S1 K2}{R:oO->B1->Prop}(t:P.funcs[f]? =some fn)(v:fn.body=some c)
  (h:jh f P c (bodyPostM Fence.wide 0 P fn R) {tmps:=args++Array.replicate (fn.ntmps - args.size) undef,defers:=[]} w):Calls P f args w R:=by
 refine(fl (n:=0)).1 ⟨trivial,λcs u=> ?_⟩
 let b:Frame:={(default:Frame) with fn:=f,kind:=.normal,roundOf:=none}
 have m:Frame.enter P f args .normal=b.atR {tmps:=args++Array.replicate (fn.ntmps - args.size) undef,defers:=[]} [.code c]:=by
  simp[Frame.enter,Frame.atR,t,v,b]
 obtain⟨e,o,w',p,d⟩:=h b [] cs rfl rfl;rw[<-m] at d
 cases e with
 | normal=>
  obtain⟨q,g,i,r,hs,j,s⟩:=o0 o.defers .returning w' {b.atR o [] with mode:=.returning} cs rfl rfl rfl t rfl trivial u p;exact⟨q,g,i,r,oq (nn d<|.one (mr _ _)<|stepR_end rfl) hs,j,s⟩
 | ret=>
  obtain⟨k,hs₀⟩:=d.1 rfl;obtain⟨q,g,i,r,hs,j,s⟩:=o0 o.defers .returning w' {b.atR o k with mode:=.returning} cs rfl rfl rfl t rfl trivial u p;exact⟨q,g,i,r,oq hs₀ hs,j,s⟩
 | panic chain=>
  obtain⟨k,hs₀⟩:=d;obtain⟨q,g,i,r,hs,j,s⟩:=o0 o.defers (.panicking chain) w' {b.atR o k with mode:=.panicking chain} cs rfl rfl rfl t rfl trivial u p;exact⟨q,g,i,r,oq hs₀ hs,j,s⟩
 | exit id=>exact p.elim
 | goto l=>exact p.elim
 | outgrown=>exact⟨.outgrown,w',b,p,d.resolve_left (by simp[b]),rfl,trivial⟩
def zi(P:C1)(l:Nat)(R:oO->B1->Prop):gw->Act->B1->Prop
 | .panic chain,a,w=>a.defers=[]/\R (.panicked chain) w
 | e,a,w=>roundPost P l R e a w
theorem jy{l:Nat}{fn:lg}{tmps:S1 K2}{assign body:ln}{R:oO->B1->Prop}(s:P.funcs[f]? =some fn)
  (h:assign.wpIn (Fence.wide.inRound l) 0 P (Exit.then (λa₁ w₁=>∃w₂,(Instr.beginRound l).run P w₁= .ok () w₂/\body.wpIn (Fence.wide.inRound l) 0 P (zi P l R) a₁ w₂) λ_ _ _=>False)
   {tmps:=tmps,defers:=[]} w):RoundIn Fence.wide 0 P l f tmps assign body w R:=by
 refine⟨trivial,λc cs u=> ?_⟩
 let b:Frame:={(default:Frame) with fn:=f,kind:=.normal,roundOf:=some l}
 have p:Frame.round l f tmps assign body .normal=b.atR {tmps:=tmps,defers:=[]} [.code assign,.beginRound,.code body]:=by
  simp[Frame.round,Frame.atR,b]
 have m:(Fence.wide.inRound l).room ((c::cs).length+1+0):=u;obtain⟨e,a₁,w₁,k,g⟩:=h b [.beginRound,.code body] (c::cs) rfl trivial m;rw[<-p] at g
 cases e with
 | normal=>
  obtain⟨w₂,q,j⟩:=k
  have n:StepsIn (Machine.fenced P<|Fence.wide.inRound l) P (lone (b.atR a₁ [.beginRound,.code body]) (c::cs) w₁) (lone (b.atR a₁ [.code body]) (c::cs) w₂):=
   .one (mr _ _) (stepR_beginRound rfl q)
  obtain⟨e₂,a₂,w₃,hq₂,harr₂⟩:=j b [] (c::cs) rfl trivial m;cases e₂ with
  | normal=>
   obtain⟨v,w₄,d,i⟩:=hq₂;exact⟨.returned v,w₄,i,(nn g n).trans<|nn harr₂<|.one (mr _ _)<|stepR_round_end rfl rfl d⟩
  | ret=>
   obtain⟨v,w₄,d,i⟩:=hq₂;obtain⟨k₁,hs⟩:=harr₂.2 rfl;exact⟨.returned v,w₄,i,(nn g n).trans<|nn hs<|.one (mr _ _)<|stepR_round_ret rfl rfl d⟩
  | exit id=>
   obtain⟨v,w₄,d,i⟩:=hq₂;obtain⟨k₁,r,hs⟩:=harr₂.2 rfl rfl;exact⟨.returned v,w₄,i,(nn g n).trans<|nn hs<|.one (mr _ _)<|stepR_round_exit rfl rfl r d⟩
  | goto t=>
   obtain⟨v,w₄,d,i⟩:=hq₂;obtain⟨k₁,r,hs⟩:=harr₂.2 rfl rfl;exact⟨.returned v,w₄,i,(nn g n).trans<|nn hs<|.one (mr _ _)<|stepR_round_goto rfl rfl r d⟩
  | panic chain=>
   obtain⟨x,i⟩:=hq₂;obtain⟨o,hs⟩:=harr₂;have y:Frame.leaving P {b.atR a₂ o with mode:=.panicking chain} w₃ (.panicked chain):=⟨rfl,x,fn,s⟩;exact⟨.panicked chain,w₃,i,(nn g n).trans<|nn hs<|.one (mr _ _)<|ib y⟩
  | outgrown=>exact hq₂.elim
 | exit id=>exact k.elim
 | goto t=>exact k.elim
 | ret=>exact k.elim
 | panic chain=>exact k.elim
 | outgrown=>exact k.elim
theorem M4{g:IR}{ps:S1 Tmp}{assign body:ln}
  (h:∃(l:Nat) (mark:Q0 TO) (w₁:B1) (d:TO) (w₁' :B1) (y:L3) (args:S1 K2) (w₂:B1),
   (Instr.enterLoop f a.tmps ps assign body none).run P w= .ok (l,mark) w₁/\(resolve a.eval (rangeCall g l) 0).run P w₁= .ok d w₁'/\(invoke d.target d.args).run P w₁' = .ok (.enter y args) w₂/\
   Calls P y args w₂ (λe w₃=>match e with
    | .returned _=>∃i w₄,(Instr.endLoop l).run P w₃= .ok i w₄/\(match i with | none=>Q .normal {a with defers:=mark++a.defers} w₄ | some c=>jh f P c Q {a with defers:=mark++a.defers} w₄)
    | .panicked chain=>Q (.panic chain) {a with defers:=mark++a.defers} w₃
    | .outgrown=>False)):jh f P (.rangeFunc g ps assign body) Q a w:=by
 intro b k cs r B;obtain⟨l,mark,w₁,d,w₁',y,args,w₂,he,s,t,q⟩:=h;rw[<-B,<-r] at he
 have j:=stepR_rangeFunc (P:=P) (b:=b) (a:=a) (k:=k) (cs:=cs) (w:=w) he s t;obtain⟨e,w₃,fr,z,m,D,o⟩:=(fl (n:=0)).2 q |>.2 (b.atR {a with defers:=mark++a.defers} (.inRangeFunc l::k)::cs) (room_wide _);cases e with
 | outgrown=>exact z.elim
 | returned v=>
  obtain⟨i,w₄,u,C⟩:=z
  have p:StepsIn (Machine.fenced P Fence.wide) P (lone (b.atR a<|.code (.rangeFunc g ps assign body)::k) cs w) (lone (b.atR {a with defers:=mark++a.defers}<|(i.map Item.code).toList++k) cs w₄):=by
   refine .head (mr _ _) j<|nn m<|.head (mr _ _) ?_<|.one (mr _ _)<|stepR_endRangeFunc u;rw[<-finish_atR_inRangeFunc l v];exact step_leave_returned o
  cases i with
  | none=>exact⟨.normal,_,w₄,C,p⟩
  | some c=>
   obtain⟨E,A,w₅,F,x⟩:=C b k cs r B;exact⟨E,A,w₅,F,.of_steps p x⟩
 | panicked chain=>
  refine⟨.panic chain,_,w₃,z,.inRangeFunc l::k,.head (mr _ _) j<|nn m<|.one (mr _ _) ?_⟩;rw[<-Frame.raise_atR];exact ib o
end
end
section
variable{Q:gw->Act->B1->Prop}{ε α σ τ β:Type}{S:Q0 (Nat×K2)}{arg:α->Fz->Q0 K2->Prop}{penc:ε->K2}{P:C1}{A:Act->B1->Prop}{f:L3}{ks:Q0 Kt}{hs hs':Q0 HP}{c:ln}{F:Fz}{n:Nat}{D:Q0 TO}{m:Q2 β}{r:β}
variable{O:Q2 Nat}{μ:Md}
abbrev Aq(penc:ε->K2)(q:ε):Q0 PanicEntry:=[{v:=penc q,recovered:=false}]
def Xm(f:L3)(P:C1):Q0 Kt->(gw->Act->B1->Prop)->gw->Act->B1->Prop
 | [],Q=>Q
 | .code c::ks,Q=>Exit.then (jh f P c<|Xm f P ks Q) (Xm f P ks Q)
 | .block id::ks,Q=>Exit.inBlock id<|Xm f P ks Q
def GB(f:L3)(P:C1)(c:ln)(ks:Q0 Kt)(Q:gw->Act->B1->Prop)(A:Act->B1->Prop)(m:Q2 β)(r:β):Prop:=m=some r->∀a w,A a w->jh f P c (Xm f P ks Q) a w
section
variable{β:Type}{f:L3}{P:C1}{ks:Q0 Kt}{Q:gw->Act->B1->Prop}{A:Act->B1->Prop}{m:Q2 β}{r:β}
theorem GB.q{x y:ln}(h:GB f P x (.code y::ks) Q A m r):GB f P (.seq x y) ks Q A m r:=λb a w d=>wY<|h b a w d
theorem GB.k{id:Nat}(h:GB f P c (.block id::ks) Q A m r):GB f P (.block id c) ks Q A m r:=λb a w d=>jg<|h b a w d
theorem GB.g(h:GC none P c [] (Xm f P ks Q) A m r):GB f P c ks Q A m r:=λb a w d=>vN<|h b a w d
theorem GG.cb(h:GB f P c ks Q A m r):GE none P [] (Xm f P (.code c::ks) Q) A m r:=h
theorem Y0:∀(ks:Q0 Kt) {e:gw} {a:Act} {w:B1},Zh none P ks Q e a w->Xm f P ks Q e a w
 | [],_,_,_,h=>h
 | .code c::ks,.normal,a,w,h=>vO (vN<|show c.wpIn Fence.wide 0 P (Zh none P ks Q) a w from h) λ_ _ _=>Y0 ks
 | .code c::ks,.exit id,a,w,h=>Y0 (e:=.exit id) ks h
 | .code c::ks,.goto l,a,w,h=>Y0 (e:=.goto l) ks h
 | .code c::ks,.ret,a,w,h=>Y0 (e:=.ret) ks h
 | .code c::ks,.panic d,a,w,h=>Y0 (e:=.panic d) ks h
 | .code c::ks,.outgrown,a,w,h=>Y0 (e:=.outgrown) ks h
 | .block id::ks,.exit b,a,w,h=>by
  show(if b=id then Xm f P ks Q .normal a w else Xm f P ks Q (.exit b) a w);have h' :(if b=id then Zh none P ks Q .normal a w else Zh none P ks Q (.exit b) a w):=h;by_cases hi:b=id
  ·rw[Bm hi] at h' ⊢;exact Y0 ks h'
  ·rw[B2 hi] at h' ⊢;exact Y0 ks h'
 | .block id::ks,.normal,a,w,h=>Y0 (e:=.normal) ks h
 | .block id::ks,.goto l,a,w,h=>Y0 (e:=.goto l) ks h
 | .block id::ks,.ret,a,w,h=>Y0 (e:=.ret) ks h
 | .block id::ks,.panic d,a,w,h=>Y0 (e:=.panic d) ks h
 | .block id::ks,.outgrown,a,w,h=>Y0 (e:=.outgrown) ks h
theorem GA{c:Q0 PanicEntry}{a:Act}{w:B1}:∀{ks:Q0 Kt},Q (.panic c) a w->Xm f P ks Q (.panic c) a w
 | [],k=>k
 | .code c::ks,k=>by show Xm f P ks Q (.panic _) a w;exact GA k
 | .block j::ks,k=>by show Xm f P ks Q (.panic _) a w;exact GA k
theorem Vn.nR{fn:lg}{args:Q0 K2}{Hs:Q0 HP}{m:Q2 (Out ε β)}{ρ:β->Fz->K2->Prop}{a:β->Fz->K2->Q0 HP}
  (d:P.funcs[f]? =some fn) (e:fn.body=some c) (g:fn.ntmps=n) (i:Nat.ble args.length n=true)
  (k:∀r R,GB f P c [] (SG P penc fn F R ρ a r) (Hd n [] (Dw 0 args) F<|Hs++[R]) m r):Vn P penc f args.toArray F Hs m ρ a:=by
 intro r b w R j;refine O9 d e<|k r R b _ w ⟨?_,j.mono λm b=>K7<|QS (λ_ h=>YD h) b⟩;rw[g];exact WB i
end
section
variable{β:Type}{f:L3}{P:C1}{c:ln}{ks:Q0 Kt}{Q:gw->Act->B1->Prop}{m:Q2 β}{r:β}{n:Nat}{D:Q0 TO}{S S' :Q0 (Nat×K2)}{F:Fz}{hs hs' :Q0 HP}
theorem GB.o(s:Sub S' S)(e:hs=hs')(k:GB f P c ks Q (Hd n D S' F hs') m r):GB f P c ks Q (Hd n D S F hs) m r:=λd a w b=>k d a w ⟨b.1.sub s,e▸b.2⟩
end
theorem dw{c:Q0 PanicEntry}(h:m=some r->∀a w,A a w->Q (.panic c) a w):m=some r->∀a w,A a w->Xm f P ks Q (.panic c) a w:=λb a w d=>GA<|h b a w d
def YP(penc:ε->K2)(ret:σ->oO->Prop)(Y:σ->Fz->HP)(Z:ε->Fz->HP)(F:Fz)(R:HP)(r:Out ε σ)(e:oO)(w:B1):Prop:=
 ∃a,F<=a/\match r with
  | .ok p=>ret p e/\SH w a (star (Y p a) R)
  | .pan q=>e= .panicked (Aq penc q)/\SH w a (star (Z q a) R)
def T8(P:C1)(penc:ε->K2)(l:Nat)(F:Fz)(arg:α->Fz->Q0 K2->Prop)(Y:σ->Fz->HP)(Z:ε->Fz->HP)(y:α->σ->Q2 (Out ε<|σ×Bool)):Prop:=
 (∀s F0 a m,F<=F0->F0<=a->Y s F0 m->Y s a m)/\
 ∀a,F<=a->∀x vs s r,arg x a vs->y x s=some r->∀w R,SH w a (star (Y s a) R)->
  ∃f b assign body,(Instr.yield l vs.toArray).run P w= .ok (.round l f b assign body) w/\
   RoundIn Fence.wide 0 P l f b assign body w (YP penc (fun(p:σ×Bool) e=>e= .returned (.bool p.2)) (λp=>Y p.1) Z a R r)
def dZ(P:C1)(penc:ε->K2)(f:L3)(args:S1 K2)(F:Fz)(H:HP)(m:Q2 (Out ε σ))(Y:σ->Fz->HP)(Z:ε->Fz->HP):Prop:=∀r,m=some r->∀w R,SH w F (star H R)->Calls P f args w (YP penc (λ_ e=>∃v,e= .returned v) Y Z F R r)
def xt(P:C1)(F:Fz)(f:L3)(caps:Q0 K2)(arg:α->Fz->Q0 K2->Prop)(mk:∀ε σ:Type,(α->σ->Q2 (Out ε<|σ×Bool))->σ->Q2 (Out ε σ)):Prop:=
 (∀args w,(callFunc f args).run P w= .ok (.enter f args) w)/\
 ∀(ε σ:Type) (penc:ε->K2) (l:Nat) (Y:σ->Fz->HP) (Z:ε->Fz->HP) (y:α->σ->Q2 (Out ε<|σ×Bool)) (a:Fz),F<=a->T8 P penc l a arg Y Z y->∀s,dZ P penc f (.func (.yield l) #[] #[]::caps).toArray a (Y s a) (mk ε σ y s) Y Z
def Gj(y:α->σ->Q2 (Out ε<|σ×Bool)):Q0 α->σ->Q2 (Out ε σ)
 | [],s=>some (.ok s)
 | x::xs,s=>Qw (y x s) (λq=>some<|.pan q) λp=>if p.2 then Gj y xs p.1 else some (.ok p.1)
def Sn(P:C1)(F:Fz)(f:L3)(caps:Q0 K2)(arg:α->Fz->Q0 K2->Prop)(l:Q0 α):Prop:=xt P F f caps arg λ_ _ y s=>Gj y l s
theorem Ei{y:α->σ->Q2 (σ×Bool)}:∀(l:Q0 α) (s:σ),Gj (ε:=Empty) (λx s=>(y x s).map .ok) l s=(WH y l s).map .ok
 | [],s=>rfl
 | x::xs,s=>by
  simp only[Gj,WH];cases y x s with
  | none=>rfl
  | some p=>
   simp only[E4,Qw,K1];split
   ·exact Ei xs p.1
   ·rfl
theorem Sn.plain{caps:Q0 K2}{l:Q0 α}(h:Sn P F f caps arg l):NC P F f caps arg l:=by
 refine⟨h.1,λσ u Y y z le t s r B w R j=> ?_⟩
 have C:=h.2 Empty σ (λq=>q.elim) u Y (λq=>q.elim) (λx s=>(y x s).map .ok) z le
  ⟨t.1,λE G x vs s r H a w R j=>by
   replace a:(y x s).map Out.ok=some r:=a
   cases b:y x s with
   | none=>rw[b] at a;cases a
   | some p=>
    rw[b] at a
    simp only[E4,UV] at a
    subst a;obtain⟨g,i,assign,body,I,K⟩:=t.2 E G x vs s p H b w R j;exact⟨g,i,assign,body,I,K.mono λe w' ⟨k,d,he,o⟩=>⟨k,d,he,o⟩⟩⟩ s (.ok r) ((Ei l s).trans (by rw[show WH y l s=some r from B];rfl)) w R j
 exact C.mono λe w' ⟨k,d,⟨v,he⟩,o⟩=>⟨k,v,d,he,trivial,o⟩
section
variable{β ε α σ:Type}{P:C1}{ops:S1 Rw}{rest:Q0 Rw}{ks:Q0 Kt}{Q:gw->Act->B1->Prop}{r:β}{n:Nat}{D:Q0 TO}{S:Q0 (Nat×K2)}{F:Fz}{hs:Q0 HP}
theorem GG.nW{penc:ε->K2}{l d i:Nat}{ty:A4}{pos:String}{after:S1 ll}{vs:Q0 K2}{of:IR}{os:Q0 IR}{T:S1 A4}{C F0:Fz}{arg:α->Fz->Q0 K2->Prop}{Y:σ->Fz->HP}{Z:ε->Fz->HP}{y:α->σ->Q2 (Out ε<|σ×Bool)}{x:α}{s:σ}{gp:ε->Q2 β}{g:σ×Bool->Q2 β}
  (I:Nat.blt d n=true) (E:T8 P penc l C arg Y Z y) (K:QP S of=some (.func (.yield l) #[] #[])) (L:Uk S os=some vs) (M:arg x F vs) (hi:hs[i]? =some (Y s F0)) (o:C<=F0) (le:F0<=F)
  (k:∀p j,y x s=some (.ok p)->F<=j->GL O P ops rest ks Q (Hd n D ((d,.bool p.2)::S) j<|hs.set i<|Y p.1 j) (g p) r)
  (N:∀q j,F<=j->gp q=some r->∀a w,Hd n D S j (hs.set i<|Z q j) a w->Q (.panic<|Aq penc q) a w):GL O P ops (⟨some d,.call ⟨.value of,os.toArray,T⟩,ty,pos,after,none⟩::rest) ks Q (Hd n D S F hs) (Qw (y x s) gp g) r:=by
 intro b a w t;cases he:y x s with
 | none=>rw[he] at b;cases b
 | some p=>
  rw[he] at b
  obtain⟨f,u,assign,body,R,h⟩:=E.2 F (Fz.le_trans o le) x vs s p M he w _<|(t.2.pull hi).mono λ_ b=>QR (λ_ b=>E.1 s F0 F _ o le b) b;refine fo ?_;unfold W8;rw[Bm<|by simp[Region.wanted]];refine⟨.inr rfl,?_⟩;have e:=HO t.1 L
  have v:(execOp a.eval ⟨some d,.call ⟨.value of,os.toArray,T⟩,ty,pos,after,none⟩).run P w= .ok (.round l f u assign body) w:=by
   simp[execOp,resolve,Deferred.ofValue,t.1.eval K,e,invoke,R]
  rw[v];refine⟨λe=>(by rw[BN] at e;cases e),L6.2<|h.mono ?_⟩;rintro e w' ⟨G,z,H⟩;cases p with
  | ok p=>obtain⟨rfl,B⟩:=H;exact k p G he z b _ _ ⟨t.1.put I _,SH.push hi B⟩
  | pan q=>obtain⟨rfl,B⟩:=H;exact K9<|N q G z b _ _ ⟨t.1,SH.push hi B⟩
end
def LQ(b:α->τ->Q2 (Out ε τ)):Q0 α->τ->Q2 (Out ε τ)
 | [],s=>some (.ok s)
 | x::xs,s=>Qw (b x s) (λq=>some<|.pan q)<|LQ b xs
def vJ(b:α->τ->Q2 (Out ε τ))(x:α)(s:τ):Q2 (Out ε<|τ×Bool):=Qw (b x s) (λq=>some<|.pan q) λa=>some<|.ok (a,true)
theorem RV(b:α->τ->Q2 (Out ε τ)):∀(l:Q0 α) (s:τ),Gj (vJ b) l s=LQ b l s
 | [],s=>rfl
 | x::xs,s=>by
  simp only[Gj,vJ,LQ];cases b x s with
  | none=>rfl
  | some c=>
   cases c with
   | ok a=>simpa[Qw] using RV b xs a
   | pan q=>rfl
def yN(a:Fz)(l:Nat)(L:Loop)(I:τ->Fz->Q0 HP->Prop)(s:τ)(F:Fz):HP:=λm=>∃F0 hs,a<=F0/\F0<=F/\I s F0 hs/\star (pt l<|UH L) (Qg hs) m
def yZ(a:Fz)(l:Nat)(L:Loop)(b:ε->Fz->Q0 HP->Prop)(q:ε)(F:Fz):HP:=λm=>∃F0 hs,a<=F0/\F0<=F/\b q F0 hs/\star (pt l<|UC L) (Qg hs) m
def fV(penc:ε->K2)(l:Nat)(L:Loop)(I:τ->Fz->Q0 HP->Prop)(g:ε->Fz->Q0 HP->Prop)(d:Fz)(R:HP)(r:Out ε τ):gw->Act->B1->Prop:=λe a w=>
 match r with
 | .ok s=>e= .normal/\∃b hs,d<=b/\I s b hs/\SH w b (Qg<|pt l (UC L)::R::hs)
 | .pan q=>e= .panic (Aq penc q)/\a.defers=[]/\∃b hs,d<=b/\g q b hs/\SH w b (Qg<|pt l (UC L)::R::hs)
section
variable{ε τ:Type}{penc:ε->K2}{l:Nat}{L:Loop}{I:τ->Fz->Q0 HP->Prop}{Jp:ε->Fz->Q0 HP->Prop}{n:Nat}{S:Q0 (Nat×K2)}{F F1:Fz}{hs:Q0 HP}{R:HP}
theorem fV.norm{s:τ}{r:Out ε τ}{hs' :Q0 HP}(le:F1<=F)(h:I s F hs')(e:hs=pt l (UC L)::R::hs'):some (Out.ok s)=some r->∀a w,Hd n [] S F hs a w->fV penc l L I Jp F1 R r .normal a w:=λb a w d=>by
 simp only[UV] at b;subst b;subst e;exact⟨rfl,F,hs',le,h,d.2⟩
theorem fV.pan{q:ε}{r:Out ε τ}(le:F1<=F)(h:Jp q F hs')(e:hs=pt l (UC L)::R::hs'):some (Out.pan q)=some r->∀a w,Hd n [] S F hs a w->fV penc l L I Jp F1 R r (.panic<|Aq penc q) a w:=λb a w d=>by
 simp only[UV] at b;subst b;subst e;exact⟨rfl,d.1.2.1,F,hs',le,h,d.2⟩
end
section
variable{β:Type}{P:C1}{ks:Q0 Kt}{Q:gw->Act->B1->Prop}{r:β}{n:Nat}{D:Q0 TO}{S:Q0 (Nat×K2)}{F:Fz}{hs:Q0 HP}
variable{ε α τ:Type}{penc:ε->K2}{g:IR}{ps:Q0 Tmp}{assign body:ln}{f f0:L3}{fn0:lg}{caps:Q0 K2}{arg:α->Fz->Q0 K2->Prop}{bm:α->τ->Q2 (Out ε τ)}{s0:τ}{l:Q0 α}{gp:ε->Q2 β}{k:τ->Q2 β}
theorem GB.aH(I:τ->Fz->Q0 HP->Prop)(Jp:ε->Fz->Q0 HP->Prop)(hf:P.funcs[f0]? =some fn0)(hg:QP S g=some (.func (.func f) #[] caps.toArray))(T:Sn P F f caps arg l)(aG:(ps.all λp=>Nat.blt p n)=true)(V:∀x j vs,arg x j vs->vs.length=ps.length)
  (hI:I s0 F hs)
  (round:∀l L F0 C x vs s o R hs',F<=F0->F0<=C->arg x C vs->I s F0 hs'->GC (some l) P assign [] (BP P l body<|fV penc l L I Jp C R o) (Hd n [] ((ps.zip vs).reverse++S) C<|pt l (UH L)::R::hs') (bm x s) o)
  (next:∀q F0 j s hs',F<=F0->F0<=j->LQ bm l s0=some (.ok s)->I s F0 hs'->GE none P ks Q (Hd n (WX q::D) S j<|pt q (.deferred<|some [])::hs') (k s) r)
  (pan:∀q F0 j e hs',F<=F0->F0<=j->LQ bm l s0=some (.pan e)->Jp e F0 hs'->gp e=some r->∀a w,Hd n (WX q::D) S j (pt q (.deferred<|some [])::hs') a w->Q (.panic<|Aq penc e) a w):GB f0 P (.rangeFunc g ps.toArray assign body) ks Q (Hd n D S F hs) (Qw (LQ bm l s0) gp k) r:=by
 intro b a w u;cases W:LQ bm l s0 with
 | none=>rw[W] at b;cases b
 | some c=>
  rw[W] at b
  let L:Loop:={state:=.ready,pending:=none,fn:=f0,tmps:=a.tmps,params:=ps.toArray,assign,body,defers:=w.heap.size}
  have aH:SH ((w.alloc<|.deferred<|some []).alloc<|.loop L) F (star (yN F (w.heap.size+1) L I s0 F)<|Qg [pt w.heap.size<|.deferred<|some []]):=by
   have t:=(u.2.alloc<|.deferred<|some []).alloc<|.loop L;rw[eO] at t
   have h2:SH ((w.alloc<|.deferred<|some []).alloc<|.loop L) F (Qg<|pt (w.heap.size+1) (UH L)::Qg [pt w.heap.size<|.deferred<|some []]::hs):=by
    refine t.mono λm b=>QS (λm b=>QR (λm b=> ?_) b) b;exact⟨m,λ_=>none,λ_=>.inr rfl,Mem.sub.refl _,λ_ _ e=>by simp at e,b,trivial⟩
   exact(SH.three h2).mono λm b=>QR (λm b=>⟨F,hs,Fz.le_refl _,Fz.le_refl _,hI,b⟩) b
  have hY:T8 P penc (w.heap.size+1) F arg (yN F (w.heap.size+1) L I) (yZ F (w.heap.size+1) L Jp) (vJ bm):=by
   refine⟨λs F0 C m _ t ⟨G,hs,g0,g1,k⟩=>⟨G,hs,g0,Fz.le_trans g1 t,k⟩,λC t x vs s r hx y w' R hw=> ?_⟩;obtain⟨m,⟨E,X,d,z,Y,⟨F0,aI,Z,aJ,aK,B⟩,i⟩,hk⟩:=hw;have aB:=SH.aa ⟨m,⟨E,X,d,z,Y,B,i⟩,hk⟩;have aL:w'.heap[w.heap.size+1]? =some (UH L):=SH.cp (k:=0) rfl aB;have hn:=V x C vs hx;refine⟨L.fn,_,L.assign,L.body,run_yield (r:={L with state:=.ready,pending:=none}) aL (by simpa[L] using hn),?_⟩;refine jy hf ?_;cases hc:bm x s with
   | none=>unfold vJ at y;rw[hc] at y;cases y
   | some o=>
    have aM:=round (w.heap.size+1) L F0 C x vs s o R aI Z aJ hx aK hc _ w' ⟨D4 aG ⟨u.1.1,rfl,u.1.2.2⟩,aB⟩;refine eX aM λe a1 w1 i=> ?_;obtain⟨rfl,w2,aN,H⟩:=i;refine⟨w2,aN,eX H λe a2 w3 i=> ?_⟩;unfold vJ at y
    rw[hc] at y
    cases o with
    | ok s' =>
     simp only[Qw,UV] at y
     subst y;obtain⟨rfl,F2,K,le,M,h⟩:=i;refine⟨_,_,I0<|SH.cp (k:=0) rfl h,F2,le,rfl,(SH.three<|SH.putAt (k:=0) rfl h<|UH L).mono λm b=>QR (λm b=> ?_) b⟩;exact⟨F2,K,Fz.le_trans t le,Fz.le_refl _,M,b⟩
    | pan q=>
     simp only[Qw,UV] at y
     subst y;obtain⟨rfl,hd,F2,K,le,M,h⟩:=i;exact⟨hd,F2,le,rfl,(SH.three h).mono λm b=>QR (λm b=>⟨F2,K,Fz.le_trans t le,Fz.le_refl _,M,b⟩) b⟩
  have hc:=T.2 _ _ penc _ _ _ _ F (Fz.le_refl F) hY s0 c (by show Gj _ _ _=_;rw[RV,W]) _ _ aH;refine M4 ⟨w.heap.size+1,[WX w.heap.size],(w.alloc<|.deferred<|some []).alloc<|.loop L,⟨.fn (.func f) caps.toArray,#[.func (.yield<|w.heap.size+1) #[] #[]]⟩,(w.alloc<|.deferred<|some []).alloc<|.loop L,f,(.func (.yield<|w.heap.size+1) #[] #[]::caps).toArray,(w.alloc<|.deferred<|some []).alloc<|.loop L,eD f0 a.tmps ps.toArray assign body,?_,?_,?_⟩
  ·have aO:a.eval (.const<|.func (.yield<|w.heap.size+1) #[] #[])= .func (.yield<|w.heap.size+1) #[] #[]:=rfl;simp[resolve,Deferred.ofValue,u.1.eval hg,aO]
  ·simp[invoke,T.1]
  ·refine hc.mono ?_;rintro e w' ⟨j,le,i⟩;cases c with
   | ok s=>
    obtain⟨⟨v,rfl⟩,m,⟨E,X,d,z,Y,⟨F0,hs',Z,t,N,B⟩,i⟩,hk⟩:=i;have h3:=SH.aa ⟨m,⟨E,X,d,z,Y,B,i⟩,hk⟩;refine⟨none,_,D5<|SH.cp (k:=0) rfl h3,?_⟩;have h4:SH _ j (Qg<|pt w.heap.size (.deferred<|some [])::hs'):=(SH.sF 0<|SH.putAt (k:=0) rfl h3<|Ti L none).mono λm b=>QR (λm b=>by obtain⟨E,_,_,z,_,B,_⟩:=b;exact z _ _ B) b;exact Y0 ks (next w.heap.size F0 j s hs' Z t W N b _ _ ⟨⟨u.1.1,by simp[u.1.2.1],u.1.2.2⟩,h4⟩)
   | pan q=>
    obtain⟨rfl,m,⟨E,X,d,z,Y,⟨F0,hs',Z,t,N,B⟩,i⟩,hk⟩:=i;have h3:=SH.aa ⟨m,⟨E,X,d,z,Y,B,i⟩,hk⟩;have h4:SH _ j (Qg<|pt w.heap.size (.deferred<|some [])::hs'):=(SH.sF 0 h3).mono λm b=>QR (λm b=>by obtain⟨E,_,_,z,_,B,_⟩:=b;exact z _ _ B) b;exact GA<|pan w.heap.size F0 j q hs' Z t W N b _ _ ⟨⟨u.1.1,by simp[u.1.2.1],u.1.2.2⟩,h4⟩
end
def Ox(P:C1)(penc:ε->K2)(fn:lg)(F:Fz)(R:HP)(Y:σ->Fz->HP)(Z:ε->Fz->HP)(r:Out ε σ):gw->Act->B1->Prop:=bodyPost P fn<|YP penc (λ_ e=>∃v,e= .returned v) Y Z F R r
section
variable{ε σ:Type}{P:C1}{penc:ε->K2}{fn:lg}{n:Nat}{S:Q0 (Nat×K2)}{F F' :Fz}{hs:Q0 HP}{R:HP}{Y:σ->Fz->HP}{Z:ε->Fz->HP}{x:σ}{r:Out ε σ}{rs:Q0 ResultVar}{vs:Q0 K2}
theorem dZ.enter{args:Q0 K2}{H:HP}{m:Q2 (Out ε σ)}(b:P.funcs[f]? =some fn)(d:fn.body=some c)(e:fn.ntmps=n)(g:Nat.ble args.length n=true)
  (k:∀r R,GC none P c [] (Ox P penc fn F R Y Z r) (Hd n [] (Dw 0 args) F [H,R]) m r):dZ P penc f args.toArray F H m Y Z:=by
 intro r a w R i;refine eh b d<|oI.1<|k r R a _ w ⟨?_,i.mono λm a=>QS (λ_ h=>YD h) a⟩;rw[e];exact WB g
theorem L8(d:fn.results=rs.toArray)(h:Sm P S F' [Y x F',R] rs vs)(le:F<=F'):some (Out.ok x)=some r->∀a w,Hd n [] S F' [Y x F',R] a w->Ox P penc fn F R Y Z r .ret a w:=by
 intro e a w b;simp only[UV] at e
 subst e;exact⟨b.1.2.1,_,Jh d b h,F',le,⟨_,rfl⟩,b.2.tw (i:=0) (j:=0) rfl rfl⟩
theorem j7{q:ε}(le:F<=F'):some (Out.pan q)=some r->∀a w,Hd n [] S F' [Z q F',R] a w->Ox P penc fn F R Y Z r (.panic<|Aq penc q) a w:=by
 intro e a w b;simp only[UV] at e
 subst e;exact⟨b.1.2.1,F',le,rfl,b.2.tw (i:=0) (j:=0) rfl rfl⟩
theorem Q5.pan{γ:Type}{I:σ->Act->B1->Prop}{Dn:γ->gw->Act->B1->Prop}{b:γ}{d:UP σ γ}{c:Q0 PanicEntry}(h:∀a w,A a w->Dn b (.panic c) a w):some (UP.done b)=some d->∀a w,A a w->Q5 I Dn d (.panic c) a w:=λe a w g=>by
 simp only[UV] at e;subst e;exact⟨by simp,h a w g⟩
end
end
section
theorem Z9.nw{α β β' :Type}{P:C1}{f:L3}{args:S1 K2}{F0:Fz}{m:Q2 β}{ρ:β'->Fz->K2->Prop}{C:Nat->Fz->Nat->α->HP}{b:Nat->β->Fz->Q0 HP}{g:β->β'}
  (h:∀γ F,F0<=F->Xv P f args F [ZC γ (C γ) F []] m (λr F v=>ρ (g r) F v) (b γ)):Z9 P f args F0 (m.map g) ρ:=by
 intro r a w R c;obtain⟨x,d,rfl⟩:=mo.1 a;obtain⟨le,i⟩:=c.sg;have j:SH w F0.pU (star (Qg [ZC F0.gn (C F0.gn) F0.pU []]) R):=i.mono λm a=>QR (λm a=>YD ⟨[],rfl,m,λ_=>none,λ_=>.inr rfl,Mem.sub.refl _,λ_ _ e=>by simp at e,a,trivial⟩) a;exact(h _ _ le x d w R j).mono λe w' ⟨k,v,l,e,hρ,n⟩=>⟨k,v,Fz.le_trans le l,e,hρ,n.drop⟩
theorem Sk.string{H:Type}{enc:A4×K2->H}{P:C1}{W:B1}{t:A4}(b:P.underlying t=some .string):Sk enc P W t (Ex AK) (λm=>m.length<=maxLen):=by
 intro c held a cs x h;obtain⟨s,rfl,_,hs⟩:=DataW.trod_string b h;refine⟨s.data.toList,(by show s.data.toList.length<=maxLen;rw[eG];exact hs),λ_ _=> ?_⟩;show[Value.string s]=[.string ⟨s.data.toList.toArray⟩];rw[Array.toArray_toList]
end
section
open Go.ChangeShapes Go.WideShapes Go.ChangeAt Go.RowKit
variable{t:A4}
section
variable{H:Type}{enc:A4×K2->H}{P:C1}{W:B1}
theorem xe{Z:Nat}{e:A4}{v:K2}{d:DataW H}{ps:Q0 MemPlace}(z:P.underlying t=some (.slice e))(he:P.underlying e=some .string)(N:P.cellsOf e=1)
  (hk:Value.okWide P W .any Z t v) (Q:DataW.Trod enc P W 0 (λ_=>true) true t v d ps) (D:(d.weights P t).all (·<=reachBytes)=true):∃m p k,(∀x∈m,x.length<=140737488351232)/\v= .slice p m.length k/\QG 1 (Ex AK) (FW W) p k m:=by
 obtain⟨m,p,k,_,A,R⟩:=wD z (Sk.slice z N j2<|Sk.string he) hk Q;refine⟨m,p,k,λx hx=> ?_,A,R⟩;obtain⟨S,V⟩:=Q;obtain⟨i,hi,rfl⟩:=mz hx;have E:v.cells.toList=[v]:=by rw[A];rfl
 rw[E] at V
 rcases open_strings z he N V with⟨c,_⟩ | ⟨a,len,cap,B,c,_,hl,_,hz,n,f,_⟩
 ·rw[A] at c
  simp only[lW,iv,o8] at c
  omega
 ·rw[A] at c
  simp only[lW,iv,o8] at c
  obtain⟨hp,X,_⟩:=c;have r:i < B.length:=by split at hz<;>omega
  rcases R.2.2 with h0 | ⟨b,o,cs,T,fr,g,u,F⟩
  ·rw[h0] at hi;simp at hi
  ·rw[hp] at g
   simp only[UV] at g
   subst g;have G:=F i m[i] (C2 hi) _<|Fz.le_refl _;have G:(cs.toList.drop<|o+i*1).take 1=[.string<|bs m[i]]:=G;have Y:=f i r;rw[addr_add] at Y
   obtain⟨_,cs',T',aF,j,I⟩:=jW Y;have K:W.heap[b]? =some (.cells cs T fr):=u;rw[K] at j
   simp only[UV,Obj.cells.injEq] at j
   obtain⟨rfl,_⟩:=j
   have C:cs.toList[o+i]? =some (.string<|bs m[i]):=by
    have:=congrArg List.head? G;rw[ej,List.head?_take] at this
    simpa[o3] using this
   rw[Array.getElem?_toList,I] at C
   simp only[UV,Value.string.injEq] at C
   have L:(B.getD i ByteArray.empty)=B[i]:=by simp[r]
   rw[L] at C
   simp only[L4] at n
   rw[n.1] at D
   simp only[DataW.weights,z,s8,lJ,BY] at D
   have w:=D.2.1
   have y:∀(l:Q0 ByteArray),(DataW.weightsAll P e<|strs (H:=H) l).all (·<=reachBytes)=true->∀s∈l,s.data.toList.length<=reachBytes:=by
    intro l
    induction l with
    | nil=>intro _ s hs;cases hs
    | cons s l ih=>
     intro h q w;simp only[strs,Of,DataW.weightsAll,DataW.weights,s9,me,s8,BY,AT] at h
     rcases Tc.1 w with rfl | w
     ·exact h.1
     ·exact ih h.2 q w
   have M:=y _ w B[i] (by rw[List.mem_take_iff_getElem];exact⟨i,by omega,rfl⟩);rw[C] at M
   have h5:(bs m[i]).data.toList=m[i]:=rfl;rw[h5] at M
   exact M
theorem TS{a:Q0 A4}{d:DataW H}{ds:Q0 (DataW H)}{p:Nat->Bool}(h:(DataW.weightsEach P (t::a)<|d::ds).all p=true):(d.weights P t).all p=true:=by
 rw[DataW.weightsEach,lJ,BY] at h
 exact h.1
theorem TR{a:Q0 A4}{d:DataW H}{ds:Q0 (DataW H)}{p:Nat->Bool}(h:(DataW.weightsEach P (t::a)<|d::ds).all p=true):(DataW.weightsEach P a ds).all p=true:=by
 rw[DataW.weightsEach,lJ,BY] at h
 exact h.2
theorem kE{C:Checked}{os:Os}{f:L3}{fn:lg}{s:ChangeSpec}{conds:Q0 PathCond}{apart fresh handsOn again:Bool}{X:B1->Prop}
  (p:∀(w w' :B1),w.heap=w'.heap->X w->X w') (own:ownKnob C.prog.godebug=none) (started:os.Started) (b:C.prog.inits.idxOf? f=none) (h:C.prog.funcs[f]? =some fn)
  (witness:∃(w:B1) (tape:Tape) (i:Input),w.os=os/\(w.forCall tape i).Shaped C.prog/\i.vars=[]/\Input.okWide C.prog (w.forCall tape i) .any w.heap.size f i/\
   ((s.pre enc C.prog fn conds apart (w.forCall tape i).memory i.args/\X (w.forCall tape i).memory)/\sizedMet enc C.prog fn (OpenSpec.ofChange s) apart (w.forCall tape i).memory i.args)/\({}:Assume).holds C.prog (lone (Frame.enter C.prog f i.args .normal) []<|w.forCall tape i))
  (a:∀(W:B1) (base:Nat) (args:S1 K2) (ds k:Q0 (DataW H)) (before:Q0 MemPlace),(∀(j:Nat) t v,fn.params[j]? =some t->args[j]? =some v->Value.okWide C.prog W .any base t v)->
   DataW.Whole enc C.prog fn.params.toList s.vars apart W args.toList ds k before->W.ShapedOpen C.prog->X W->sizedMet enc C.prog fn (OpenSpec.ofChange s) apart W args->
   Calls C.prog f args W λe o=>∃v,e= .returned v/\s.post enc C.prog fn apart fresh handsOn again W args v o):ReturnsInHanded {} C os f .any (λw args=>(s.pre enc C.prog fn conds apart w args/\X w)/\sizedMet enc C.prog fn (OpenSpec.ofChange s) apart w args) (s.post enc C.prog fn apart fresh handsOn again):=by
 refine returnsInHanded_of_calls own started b witness ?_;intro w tape i _ l _ m c _;obtain⟨_,_,_,n,d,_,_,_,_,g⟩:=m;have e:n=fn:=PP<|d.symm.trans h;subst e;obtain⟨⟨⟨ds,k,before,q,y⟩,r⟩,u⟩:=c;refine(a (w.forCall tape i) w.heap.size i.args ds k before g (DataW.Whole.of_heap (w' :=w.forCall tape i) j8 q) l (p _ _ j8 r)<|u.of_heap j8).mono λe o ⟨v,he,x⟩=> ?_;subst he;exact ChangeSpec.post_blind x
theorem LM{f:L3}{fn:lg}{s:ChangeSpec}{y:A4}{fresh:Bool}(C:laidOutB P=true)(b:(fn.params.toList.all λt=>P.readableRec t&&decide (t < P.types.size))=true)
  (a:s.vars=[]) (l:(OpenSpec.ofChange s).bare.plain.varTypes P=[]) (m:fn.resultTypes=#[y]) (n:P.underlying y=some .bool)
  (c:∀ds:Q0 (DataW H),ds.length=fn.params.toList.length->s.fn H ds={results:=[.lit<|.bool true],args:=ds})
  (base:Nat) (args:S1 K2) (ds D:Q0 (DataW H)) (before:Q0 MemPlace)
  (d:∀(ps:Q0 MemPlace),(∀(j:Nat) t v,fn.params[j]? =some t->args[j]? =some v->Value.okWide P W .any base t v)->
   DataW.TrodAll enc P W 0 (λ_=>true) true fn.params.toList args.toList ds ps->(DataW.weightsEach P fn.params.toList ds).all (·<=reachBytes)=true->Z9 P f args (FW W) (some true) (λr _ v=>v= .bool r))
  (i:∀(j:Nat) t v,fn.params[j]? =some t->args[j]? =some v->Value.okWide P W .any base t v)
  (o:DataW.Whole enc P fn.params.toList s.vars false W args.toList ds D before) (E:sizedMet enc P fn (OpenSpec.ofChange s) false W args):Calls P f args W λe z=>∃v,e= .returned v/\s.post enc P fn false fresh false false W args v z:=by
 have hs:=E.weights o;have k:=o;obtain⟨p,q,u,A,rfl,F,K⟩:=o;rw[a] at A
 obtain⟨rfl,rfl⟩:=trodVars_none A;rw[l,mf,mf] at hs
 refine(d p i u hs true rfl W Aa<|SH.start W).mono λe z ⟨L,v,le,he,G,hs⟩=>⟨v,he,?_⟩;subst G;have B:=wC le hs;have w:∀x∈p,x.block < W.heap.size:=λx I=>k.lt x<|by simp[I]
 have g:s.fn H (ds++[])={results:=[.lit<|.bool true],args:=ds}:=by
  rw[mf];exact c ds<|RA u
 refine⟨ds,[],p++[],[],p,[],k,?_,?_,?_,B.frame _,λh=>by cases h⟩
 ·rw[g,m];exact trodAll_mk1<|shut_bool n true
 ·rw[g];exact AM C B b u w
 ·rw[g,a];rfl
end
end
section
abbrev gm:BinOp->mX->Int->Int->Q2 K2
 | .add,k,a,b=>some (.int k<|k.wrap<|a+b)
 | .sub,k,a,b=>some (.int k<|k.wrap<|a - b)
 | .mul,k,a,b=>some (.int k<|k.wrap<|a*b)
 | .eql,_,a,b=>some (.bool<|a==b)
 | .neq,_,a,b=>some (.bool<|a != b)
 | .lss,_,a,b=>some (.bool<|decide<|a < b)
 | .leq,_,a,b=>some (.bool<|decide<|a<=b)
 | .gtr,_,a,b=>some (.bool<|decide<|a > b)
 | .geq,_,a,b=>some (.bool<|decide<|a≥b)
 | _,_,_,_=>none
abbrev vW(S:Q0 (Nat×K2)):Op->(K2->Prop)->Prop
 | .move x,K=>match QP S x with | some v=>K v | none=>False
 | .assign x,K=>match QP S x with | some v=>K v | none=>False
 | .extract x i,K=>match QP S x with
  | some (.tuple vs)=>match vs[i]? with | some v=>K v | none=>False
  | _=>False
 | .nilCheck x,K=>match QP S x with
  | some (.pointer<|some p)=>K (.pointer<|some p)
  | _=>False
 | .unOp .not _ x,K=>match QP S x with
  | some (.bool b)=>K (.bool<|!b)
  | _=>False
 | .binOp o _ x y _,K=>match QP S x,QP S y with
  | some (.int k a),some (.int c b)=>match decEq c k,gm o k a b with
   | .isTrue _,some v=>K v
   | _,_=>False
  | _,_=>False
 | _,_=>False
abbrev run(n:Nat):Nat->Pt->Q0 (Nat×K2)->(Pt->Q0 (Nat×K2)->Prop)->Prop
 | 0,p,S,K=>K p S
 | k+1,.L ops l ks,S,K=>match l with
  | []=>run n k (.E ks) S K
  | ⟨some d,op,_,_,_,none⟩::l=>match Nat.blt d n with
   | true=>vW S op λv=>run n k (.L ops l ks) ((d,v)::S) K
   | false=>False
  | _=>False
 | k+1,.C c ks,S,K=>match c with
  | .seq x y=>run n k (.C x<|.code y::ks) S K
  | .block id c=>run n k (.C c<|.block id::ks) S K
  | .region _ a false=>run n k (.L a a.toList ks) S K
  | .skip=>run n k (.E ks) S K
  | _=>False
 | k+1,.E ks,S,K=>match ks with
  | .code c::ks=>run n k (.C c ks) S K
  | .block _::ks=>run n k (.E ks) S K
  | []=>False
section
variable{O:Q2 Nat}{μ:Md}{β:Type}{P:C1}{ops:S1 Rw}{l rest:Q0 Rw}{ks:Q0 Kt}{Q:gw->Act->B1->Prop}{m:Q2 β}{r:β}
variable{n:Nat}{D:Q0 TO}{S:Q0 (Nat×K2)}{F:Fz}{hs:Q0 HP}
theorem xL{d:Nat}{ty t t' :A4}{pos:String}{after:S1 ll}{o:BinOp}{x y:IR}{k:mX}{a b:Int}{v:K2}{A:Act}{w:B1}(e:Sl n D S A)(f:QP S x=some (.int k a))(g:QP S y=some (.int k b))(c:gm o k a b=some v):(execOp A.eval ⟨some d,.binOp o t x y t',ty,pos,after,none⟩).run P w= .ok (.value v) w:=by
 unfold gm at c
 split at c
 all_goals first | (cases c;done) | (simp only[UV] at c;subst c;simp[execOp,e.eval f,e.eval g,eqGuard,binOp,Op.intArith,Op.intCmp])
theorem Ia{op:Op}{K:K2->Prop}(h:vW S op K):∃v,K v/\HB op=true/\∀(d:Nat) (ty:A4) (pos:String) (after:S1 ll) (A:Act) (w:B1),Hd n D S F hs A w->(execOp A.eval ⟨some d,op,ty,pos,after,none⟩).run P w= .ok (.value v) w:=by
 unfold vW at h
 split at h
 ·split at h
  ·rename_i e;exact⟨_,h,rfl,λ_ _ _ _ A w a=>by simp[execOp,a.1.eval e]⟩
  ·exact h.elim
 ·split at h
  ·rename_i e;exact⟨_,h,rfl,λ_ _ _ _ A w a=>by simp[execOp,a.1.eval e]⟩
  ·exact h.elim
 ·split at h
  ·rename_i e;split at h
   ·rename_i b;exact⟨_,h,rfl,λ_ _ _ _ A w a=>by simp[execOp,a.1.eval e,Instr.extract,b]⟩
   ·exact h.elim
  ·exact h.elim
 ·split at h
  ·rename_i e;exact⟨_,h,rfl,λ_ _ _ _ A w a=>by simp[execOp,a.1.eval e]⟩
  ·exact h.elim
 ·split at h
  ·rename_i e;exact⟨_,h,rfl,λ_ _ _ _ A w a=>by simp[execOp,a.1.eval e,Op.unary]⟩
  ·exact h.elim
 ·split at h
  ·rename_i e b;split at h
   ·rename_i c q _ ev;subst c;exact⟨_,h,rfl,λ_ _ _ _ A w a=>xL a.1 e b ev⟩
   ·exact h.elim
  ·exact h.elim
 ·exact h.elim
theorem vM:∀{l:Q0 Rw} {a:Act} {w:B1},wpS P ops w (λa=>Q .normal a w) l a->W8 none P ops Q l a w
 | [],_,_,h=>h
 | o::l,a,w,h=>by
  unfold wpS at h
  unfold W8;split
  ·rename_i b;rw[Bm b] at h
   obtain⟨v,c,d⟩:=h;refine⟨.inl rfl,?_⟩;rw[c];exact vM d
  ·rename_i b;rw[B2 b] at h
   exact vM h
theorem Xx:∀(k:Nat) (p:Pt) (S:Q0 (Nat×K2)),run n k p S (λp S=>GG ⟨μ,P,Q,p⟩ (Hd n D S F hs) m r)->GG ⟨μ,P,Q,p⟩ (Hd n D S F hs) m r
 | 0,_,_,h=>h
 | k+1,.L ops l ks,S,h=>by
  unfold run at h
  split at h
  ·have h:=Xx k (.E ks) S h;cases μ<;>exact h
  ·split at h
   ·rename_i e;obtain⟨v,g,i,he⟩:=Ia h;exact GG.val e (he _ _ _ _) (Xx k (.L ops _ ks) _ g) i
   ·exact h.elim
  ·exact h.elim
 | k+1,.C c ks,S,h=>by
  unfold run at h
  split at h
  ·exact λb a w d=>wpIn_seq<|Xx k (.C _ _) S h b a w d
  ·exact λb a w d=>wpIn_block<|Xx k (.C _ _) S h b a w d
  ·rename_i a;obtain⟨l⟩:=a;have h:=Xx k (.L _ _ ks) S h;cases μ with
   | s=>exact λb a w d=>wpIn_region_lit (vM<|h b a w d).wpIn
   | f=>exact GG.region h
  ·exact λb a w d=>wpIn_skip<|Xx k (.E ks) S h b a w d
  ·exact h.elim
 | k+1,.E ks,S,h=>by
  unfold run at h
  split at h
  ·exact Xx k (.C _ _) S h
  ·exact λb a w d=>Xx k (.E _) S h b a w d
  ·exact h.elim
theorem GG.w{p:Pt}(k:Nat)(h:run n k p S λp S=>GG ⟨μ,P,Q,p⟩ (Hd n D S F hs) m r):GG ⟨μ,P,Q,p⟩ (Hd n D S F hs) m r:=Xx k p S h
theorem GG.s1{p:Pt}(h:run n 1 p S λp S=>GG ⟨μ,P,Q,p⟩ (Hd n D S F hs) m r):GG ⟨μ,P,Q,p⟩ (Hd n D S F hs) m r:=Xx 1 p S h
end
abbrev GG.n:= @GG.s1
abbrev GG.c:= @GG.s1
abbrev GG.q:= @GG.s1
abbrev GG.g:= @GG.s1
abbrev GG.k:= @GG.s1
abbrev GG.block:= @GG.s1
abbrev GG.nil:= @GG.s1
end
section
variable{O:Q2 Nat}{μ:Md}{β:Type}{P:C1}{n:Nat}{D:Q0 TO}{S0 Si:Q0 (Nat×K2)}{F:Fz}
variable{ops:S1 Rw}{l:Q0 Rw}{X:Env->Q0 W6}{C:(Nat->Bool)->Env->Q0 HP}{k:Nat}{o:Rw}{os:Q0 Rw}
theorem Gd.B(h:∀{L:Nat->Bool} {env:Env} {a:Fz} {_:F<=a},GL O P ops [o] [] (G0 n D l X C L env a k o.dst<|Fq l k S0 (X env) 0) (Hd n D (Fq l k S0 (X env) 0) a<|C L env) (some ()) ())(t:Gd O P ops l n D S0 F X C (k+1) os):Gd O P ops l n D S0 F X C k (o::os):=Gd.b (λL env a le=> @h L env a le) t
theorem GG.fv{d:Nat}{v:K2}{a:Fz}{L:Nat->Bool}{env:Env}{i:Nat}{x:β}(h:((X env)[i]?,C (KS L i) env)=(some (v,λ_=>True),C L env)):GL O P ops [] [] (G0 n D l X C L env a i (some d) Si) (Hd n D ((d,v)::Si) a<|C L env) (some x) x:=by
 simp only[L4] at h
 exact GG.se h.1 h.2<|Fz.le_refl _
abbrev xx(n:Nat)(l:Q0 Rw)(S0:Q0 (Nat×K2))(X:Env->Q0 W6)(C:(Nat->Bool)->Env->Q0 HP)(L:Nat->Bool)(env:Env):Nat->Q0 Rw->Nat->Prop
 | _,_,0=>(0:Nat)=0
 | k,os,c+1=>match os with
  | ⟨some d,op,_,_,_,none⟩::os=>match Nat.blt d n with
   | true=>vW (Fq l k S0 (X env) 0) op (λv=>((X env)[k]?,C (KS L k) env)=(some (v,λ_=>True),C L env))/\xx n l S0 X C L env (k+1) os c
   | false=>False
  | _=>False
def xX:Env:=⟨λ_=>none,λ_=>0,λ_=>[],λ_=>{mem:=λ_=>none,os:=default,tape:=λ_ _=>0,out:=#[]},λ_=>none⟩
theorem Gd.V:∀(c:Nat) {k:Nat} {os:Q0 Rw},(∀L env,xx n l S0 X C L env k os c)->Gd O P ops l n D S0 F X C (k+c) (os.drop c)->Gd O P ops l n D S0 F X C k os
 | 0,_,_,_,t=>t
 | c+1,k,os,h,t=>by
  have a:=h λ_=>false
  match os with
  | []=>exact absurd (a xX) (by unfold xx;exact id)
  | ⟨none,_,_,_,_,_⟩::os=>exact absurd (a xX) (by unfold xx;exact id)
  | ⟨some d,_,_,_,_,some _⟩::os=>exact absurd (a xX) (by unfold xx;exact id)
  | ⟨some d,op,ty,pos,after,none⟩::os=>
   have e:Nat.blt d n=true:=by
    cases e:Nat.blt d n with
    | true=>rfl
    | false=>have:=a xX;unfold xx at this;simp only[e] at this
   have h' :∀L env,vW (Fq l k S0 (X env) 0) op (λv=>((X env)[k]?,C (KS L k) env)=(some (v,λ_=>True),C L env))/\xx n l S0 X C L env (k+1) os c:=λL env=>by
    have:=h L env;unfold xx at this
    simpa only[e] using this
   refine Gd.b (λL env f _=> ?_) (Gd.V c (λL env=>(h' L env).2) (by rw[show k+1+c=k+(c+1) by omega];exact t));obtain⟨v,g,i,he⟩:=Ia (n:=n) (D:=D) (F:=f) (hs:=C L env) (P:=P) (h' L env).1;exact GG.val e (he _ _ _ _) (GG.fv g) i
end
section
variable{b:Bool}
def z6(n:Nat)(ops:S1 Rw)(c:Bool)(a:Q0 (Nat×K2)):Q0 Rw->Q0 (Nat×K2)->Q2 (Q0 K2×Nat×K2)
 | [],_=>none
 | ⟨some d,_,_,_,_,some (j,w)⟩::l,S=>match(ops[j]?).bind (·.dst) with
  | none=>none
  | some t=>match K6 S t,Nat.blt d n&&(w== !c)&&(K6 a d).isNone with
   | some g,true=>(z6 n ops c a l<|(d,undef)::S).map λr=>(g::r.1,r.2)
   | _,_=>none
 | [⟨some d,.pick e f h,_,_,_,none⟩],S=>match QP S e,QP S<|if c then f else h,Nat.blt d n&&(K6 a d).isNone with
  | some z,some v,true=>some ([z],d,v)
  | _,_,_=>none
 | _,_=>none
section
variable{μ:Md}{β:Type}{P:C1}{ops:S1 Rw}{l:Q0 Rw}{ks:Q0 Kt}{Q:gw->Act->B1->Prop}{m:Q2 β}{r:β}
variable{n:Nat}{D:Q0 TO}{S S0:Q0 (Nat×K2)}{F F' :Fz}{hs:Q0 HP}
theorem kr{d:Nat}{v:K2}(h:Sub S0 S)(a:(K6 S0 d).isNone=true):Sub S0 ((d,v)::S):=λi u e=>by
 have hi:i≠d:=by rintro rfl;rw[e] at a;cases a
 have:=h i u e;have c:Nat.beq d i=false:=Bool.eq_false_iff.2 λe=>hi (kp e).symm;simp only[K6,c];exact this
theorem R1{c:Bool}:∀(l:Q0 Rw) (S:Q0 (Nat×K2)) {k:Q0 K2} {d:Nat} {v:K2},Sub S0 S->z6 n ops c S0 l S=some (k,d,v)->(∀g∈k,g= .bool c)->GL μ P ops l [] (Vs n D d v S0 F hs) (Hd n D S F hs) (some ()) ():=by
 intro l
 induction l with
 | nil=>intro S k d v _ h;cases h
 | cons o l G=>
  intro S k d v A h s;unfold z6 at h
  split at h
  ·cases h
  ·rename_i y op ty pos after j w H B e;simp only[lW] at e
   obtain⟨rfl,rfl⟩:=e;split at h
   ·cases h
   ·rename_i t I;split at h
    ·rename_i g K a;simp only[BY,mb] at a
     obtain⟨⟨L,M⟩,N⟩:=a;obtain⟨q,R,he⟩:=mo.1 h;obtain⟨T,V,W⟩:=q;simp only[L4] at he
     obtain⟨rfl,rfl,rfl⟩:=he;have f:g= .bool c:=s g zh;subst f;refine GG.cf (b:=c) (by rw[M];cases c<;>rfl) L I K<|G _ (kr A N) R λx p=>s x<|by simp[p]
    ·cases h
  ·rename_i B H X y Y Z oy ty pos after e;simp only[lW] at e
   obtain⟨rfl,rfl⟩:=e;split at h
   ·rename_i z u C p a;simp only[BY] at a
    simp only[UV,L4] at h
    obtain⟨rfl,rfl,rfl⟩:=h;have f:z= .bool c:=s z zh;subst f;have i:GL μ P ops [] [] (Vs n D y u S0 F hs) (Hd n D ((y,u)::B) F hs) (some ()) ():=λ_ _ _ E=>E6 ⟨rfl,F,Fz.le_refl _,E.1.sub (Sub.cons (by simp[K6])<|kr A a.2),E.2⟩;cases c with
    | true=>exact GG.cH rfl a.1 C p i
    | false=>exact GG.cc rfl a.1 C p i
   ·cases h
  ·cases h
theorem NA{k:Nat}{c:Bool}(a:b=c):∀g∈List.replicate k (Value.bool b),g= .bool c:=λg d=>by rw[List.eq_of_mem_replicate d,a]
theorem GG.cw{b':Bool}(k d:Nat)(a:z6 n ops false S (l.take k) S=some (List.replicate k<|.bool b,d,.bool false))
  (c:b=true->GL μ P ops (l.take k) [] (Vs n D d (.bool b') S F hs) (Hd n D S F hs) (some ()) ())
  (next:∀F',F<=F'->GL μ P ops (l.drop k) ks Q (Hd n D ((d,.bool<|b&&b')::S) F' hs) m r):GL μ P ops l ks Q (Hd n D S F hs) m r:=
 GG.rJ k d c (λe=>R1 _ _ (Sub.refl S) a<|NA e) next
theorem GG.nY{b':Bool}(k d:Nat)(a:z6 n ops true S (l.take k) S=some (List.replicate k<|.bool b,d,.bool true))
  (c:b=false->GL μ P ops (l.take k) [] (Vs n D d (.bool b') S F hs) (Hd n D S F hs) (some ()) ())
  (next:∀F',F<=F'->GL μ P ops (l.drop k) ks Q (Hd n D ((d,.bool<|b||b')::S) F' hs) m r):GL μ P ops l ks Q (Hd n D S F hs) m r:=
 GG.nZ k d c (λe=>R1 _ _ (Sub.refl S) a<|NA e) next
theorem GG.aO{a:Q2 Bool}{f:Bool->Q2 β}(k d:Nat)(c:z6 n ops false S (l.take k) S=some (List.replicate k<|.bool b,d,.bool false))
  (e:b=true->∀z,GL μ P ops (l.take k) [] (Vs n D d (.bool z) S F hs) (Hd n D S F hs) a z)
  (next:∀z F',F<=F'->GL μ P ops (l.drop k) ks Q (Hd n D ((d,.bool z)::S) F' hs) (f z) r):GL μ P ops l ks Q (Hd n D S F hs) ((if b then a else some false).bind f) r:=
 GG.andM k d e (λg=>R1 _ _ (Sub.refl S) c<|NA g) next
theorem GG.rP{a:Q2 Bool}{f:Bool->Q2 β}(k d:Nat)(c:z6 n ops true S (l.take k) S=some (List.replicate k<|.bool b,d,.bool true))
  (e:b=false->∀z,GL μ P ops (l.take k) [] (Vs n D d (.bool z) S F hs) (Hd n D S F hs) a z)
  (next:∀z F',F<=F'->GL μ P ops (l.drop k) ks Q (Hd n D ((d,.bool z)::S) F' hs) (f z) r):GL μ P ops l ks Q (Hd n D S F hs) ((if b then some true else a).bind f) r:=
 GG.orM k d e (λg=>R1 _ _ (Sub.refl S) c<|NA g) next
theorem GG.fi{S' :Q0 (Nat×K2)}{d:Nat}{v:K2}{x:β}(le:F<=F')(h:(K6 S' d,S'.drop<|S'.length - S.length,fresh S<|S'.take<|S'.length - S.length)=(some v,S,true):=by kernel_rfl):GL μ P ops [] [] (Vs n D d v S F hs) (Hd n D S' F' hs) (some x) x:=by
 simp only[L4] at h
 exact GG.fin _ h.1 h.2.1 h.2.2 le
end
theorem Wm{F0:Fz}{g:K2}{G:Fz->K2->Prop}(h:∀F,F0<=F->G F g):∀F v,F0<=F->v=g->G F v:=λF _ l e=>e▸h F l
theorem Kv{α:Type}{F0:Fz}{E:α->Prop}{g:α->K2}{G:α->Fz->K2->Prop}(h:∀x F,E x->F0<=F->G x F (g x)):∀x F v,E x->F0<=F->v=g x->G x F v:=λx F _ e l q=>q▸h x F e l
end
end Go.Dec
end
