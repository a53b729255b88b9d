/- For OfficeClaims. -/
import Derived.Test.YthfjpbooaofjcaaGreatDoorPc2
import Derived.Lib.LaidTab
import Derived.Shelf.Vars
import Derived.LaidMore
import Derived.Lay
import Derived.Handed
import Derived.SevenTiedAt
import Derived.Lib.UnsafeStr
import Derived.Lib.Builder
import Derived.Laws.Externs
import Derived.RangeFuncLeaves
import Derived.SliceStrings
noncomputable section
namespace Go.Dec
abbrev ls:=@fenced_wide
abbrev oG:=@List.all_append
abbrev oT:=@beq_self_eq_true
abbrev og:=@stepR_block
abbrev qAk:=@stepR_seq
abbrev qA5:=@ComesIn.of_steps
abbrev qA7:=@leaves_stepsInM
abbrev qA9:=@List.head?_drop
abbrev qBe:=@step_leave_panicked
end Go.Dec
namespace Go.Dec
variable{ε β α ι K τ γ σ:Type}{P:B2}{t ty e t' h j:S2}{S0 S S' :Q0 (Nat×K2)}{L:Nat->Bool}{O:Q2 Nat}{μ:Md}{D:Q0 AT}{F F0 F' :Fz}{eX:C3 L0}{X E A:Act->By->Prop}{C:(Nat->Bool)->Env->Q0 HP}{os:Q0 OF}{ks:Q0 Kt}{Q:s6->Act->By->Prop}{hs Hs hs' :Q0 HP}{cap sz:Nat}{after:C3 oX}{T:C3 S2}{pos:String}{ox oy oz:OF}{kd:lO}{rest:Q0 L0}{p' H:HP}{cs args vs eY:Q0 K2}{y:Int}{fn:oW}{R:qAq->By->Prop}{rs:Q0 ResultVar}{v:K2}{ps:Q0 Tmp}{assign body:oZ}{W:By}{b' :Bool}{r:β}{ck:K->K2}{key:K}{en:ε->K2}{ρ:β->Fz->K2->Prop}{arg:α->Fz->Q0 K2->Prop}{s0:τ}{Y:σ->Fz->HP}{Z:ε->Fz->HP}{gp:ε->Q2 β}
section
open Go.ChangeShapes Go.WideShapes Go.ChangeAt Go.RowKit
theorem ja{P:B2}{w:By}{n:String}{d:DataW Unit}:∀{l:Q0 (String×DataW Unit)} {ps:Q0 MemPlace} (j:Nat),l[j]? =some (n,d)->DataW.LaidVars P w l ps->
  ∃g t cs a p T fr,P.globalNamed n=some g/\(P.globals[g]?).map (·.type)=some t/\w.heap[g]? =some (.cells cs T fr)/\DataW.trod (λ_=>()) P w 0 (λ_=>true) false a t cs.toList=some (d,p)
 | [],_,_,h,_=>by simp at h
 | x::l,ps,0,h,c=>by
  simp at h;subst h
  obtain⟨g,t,cs,a,p,q,e,f,b,i,_,_⟩:=c;unfold World.var? at b
  rw[e] at b
  simp only[K1] at b
  split at b
  .rename_i cs' T fr k;simp only[UV] at b
   subst b;exact⟨g,t,_,a,p,T,fr,e,f,k,i⟩
  .cases b
 | x::l,ps,j+1,h,c=>by
  obtain⟨g,t,cs,a,p,q,e,f,b,i,m,_⟩:=c;exact ja j (by simpa using h) m
theorem Mc{w:By}{g:Nat}{m:Int}{k:lO}{zero:C3 K2}(h:w.ShapedOpen P)(e:g < P.globals.size)(f:((begin P (λ_ _=>0) default).world.heap[g]?).bind Obj.row? =some (zero,t))(j:zero.size=1)
  (l:w.cell? ⟨g,0,none⟩=some (.int k m)):∃T fr,w.heap[g]? =some (.cells #[.int k m] T fr):=by
 obtain⟨cs,b,hs,_⟩:=h.1 g zero t e f
 have a:cs=#[.int k m]:=by
  rw[j] at hs
  have c:cs[0]? =some (.int k m):=by simpa[World.cell?,b] using l
  apply Array.ext
  .rw[hs];rfl
  .intro i a d;have hi:i=0:=by simp at d;exact d
   subst hi;rw[Array.getElem?_eq_getElem a] at c
   simpa using c
 exact⟨t,_,by rw[b,a]⟩
end
section
open Classical
def uc(S:Q0 (Nat×K2)):Q0 (Nat×K2)->Q0 (Q2 K2)
 | []=>[]
 | (k,_)::t=>JC S k::uc S t
def vq:Q0 (Nat×K2)->Q0 (Q2 K2)
 | []=>[]
 | (_,v)::t=>some v::vq t
theorem Sub.k:∀{T:Q0 (Nat×K2)},uc S T=vq T->Sub T S
 | [],_=>Sub.nil S
 | (k,v)::t,h=>by
  simp only[uc,vq,oA] at h
  exact Sub.cons h.1<|Sub.k h.2
def gK(S:Q0 (Nat×K2)):Q0 Nat->Q0 (Nat×K2)
 | []=>[]
 | k::t=>(k,(JC S k).getD<|.bool false)::gK S t
def fN(S:Q0 (Nat×K2)):Q0 Nat->Q0 Bool
 | []=>[]
 | k::t=>(JC S k).isSome::fN S t
theorem Sub.p:∀(ks:Q0 Nat),(fN S ks).all id=true->Sub (gK S ks) S
 | [],_=>Sub.nil S
 | k::t,h=>by
  simp only[fN,ld,id,BY] at h
  obtain⟨v,a⟩:=Option.isSome_iff_exists.1 h.1;exact Sub.cons (by rw[a];rfl)<|Sub.p t h.2
theorem dZ{l:Q0 L0}{k:Nat}(h:jm l k=true):∀t o,k<=t->l[t]? =some o->∀j,j < t->∃s,HE l s t j=true:=Mk h
def DI(l:Q0 L0)(i:Nat)(S0:Q0 (Nat×K2)):Q0 XE->Nat->Q0 (Nat×K2)
 | [],_=>S0
 | q::a,j=>match UC l j with
  | none=>DI l i S0 a (j+1)
  | some d=>bif ((XC [] l).getD i []).getD j false then(d,q.1)::DI l i S0 a (j+1) else DI l i S0 a (j+1)
theorem E4{l:Q0 L0}{i:Nat}(h:Sub S0 S){xs:Q0 XE}{L:Nat->Bool}(a:∀k j,HE l k i j=true->L j=true)
  (n:∀(j d:Nat) (v:K2),L j=true->UC l j=some d->(xs[j]?).map Prod.fst=some v->JC S d=some v):∀(b:Q0 XE) (j:Nat),xs.drop j=b->Sub (DI l i S0 b j) S
 | [],_,_=>h
 | q::b,j,e=>by
  have o:xs[j]? =some q:=by rw[<-qA9,e];rfl
  have p:xs.drop (j+1)=b:=by rw[<-o8,e];rfl
  have g:=E4 h a n b (j+1) p;unfold DI;cases r:UC l j with
  | none=>exact g
  | some d=>
   simp only;cases f:((XC [] l).getD i []).getD j false with
   | false=>exact g
   | true=>
    have u:RY l (XC [] l):=CJ (pre:=[]) rfl rfl λt m c=>by simp at c
    obtain⟨s,hs⟩:∃s,HE l s i j=true:=by
     cases c:(XC [] l)[i]? with
     | none=>rw[nn (l:=XC [] l),c] at f;simp at f
     | some m=>rw[nn (l:=XC [] l),c] at f;exact u i m c j f
    exact Sub.cons (n j d q.1 (a s j hs) r (by rw[o];rfl)) g
section
variable{n:Nat}
variable{l:Q0 L0}{X:Env->Q0 XE}{k:Nat}{o:L0}{os:Q0 L0}
theorem hZ.a(h:∀L env b,F<=b->L k=false->(∀s j,HE l s k j=true->L j=true)->(∀s j,HE l s j k=true->L j=false)->(∀(j:Nat) (q:XE),L j=true->(X env)[j]? =some q->∀G,b<=G->q.2 G)->
  GL O P eX [o] [] (FK n D l X C L env b k o.dst<|DI l k S0 (X env) 0) (Hd n D (DI l k S0 (X env) 0) b<|C L env) (some ()) ()):hZ O P eX l n D S0 F X C k o:=
 λL env b le f c e d=>⟨_,λ_ g i=>E4 g c i _ 0 rfl,h L env b le f c e d⟩
theorem Gu.a(h:∀L env b,F<=b->L k=false->(∀s j,HE l s k j=true->L j=true)->(∀s j,HE l s j k=true->L j=false)->(∀(j:Nat) (q:XE),L j=true->(X env)[j]? =some q->∀G,b<=G->q.2 G)->
 GL O P eX [o] [] (FK n D l X C L env b k o.dst<|DI l k S0 (X env) 0) (Hd n D (DI l k S0 (X env) 0) b<|C L env) (some ()) ()) (t:Gu O P eX l n D S0 F X C (k+1) os):Gu O P eX l n D S0 F X C k (o::os):=⟨hZ.a h,t⟩
theorem Gu.b(h:∀L env c,F<=c->GL O P eX [o] [] (FK n D l X C L env c k o.dst<|DI l k S0 (X env) 0) (Hd n D (DI l k S0 (X env) 0) c<|C L env) (some ()) ())(t:Gu O P eX l n D S0 F X C (k+1) os):Gu O P eX l n D S0 F X C k (o::os):=⟨hZ.a λL env c le _ _ _ _=>h L env c le,t⟩
end
abbrev vP(b o:Nat):K2:=.pointer<|some ⟨b,o,none⟩
abbrev vI(x:Int):K2:=.int .i64 x
abbrev vS(p:Q2 C1)(l:Q0 α)(k:Nat):K2:=.slice p l.length k
abbrev pc(b:Nat)(cs:Q0 K2)(T:S2):HP:=pt b<|.cells cs.toArray T
theorem J{α:Sort _}{a:α}:a=a:=rfl
abbrev vT(v:K2):XE:=(v,λ_=>True)
abbrev ON:=Q2 Nat
theorem K4{n m:Nat}(h:Nat.ble n m=true):n<=m:=AC h
def cH(n k:Nat)(l:Q0 L0)(S0:Q0 (Nat×K2)):Bool:=LU 0 l&&jm l k&&Nat.ble k l.length&&G0 n S0 (l.take k)
theorem GG.dG{m:Q2 β}{n:Nat}{id:Nat}{l:Q0 L0}(k g:Nat)(X:Env->Q0 XE)(C:(Nat->Bool)->Env->Q0 HP)(d:P.follows .mixedOrders=true)(a:cH n k l S0=true)
  (e:∀env,(X env).length=k) (f:∀env,C (λ_=>false) env=hs++List.replicate g AX)
  (b:Gu O P l.toArray l n D S0 F X C 0 (l.take k))
  (tail:∀env c,F<=c->(∀(j:Nat) (q:XE),(X env)[j]? =some q->q.2 c)->GL O P l.toArray (l.drop k) ks Q (Hd n D (Ot (l.take k) (X env) S0) c<|C (λj=>Nat.blt j k) env) m r):GC O P (.region id l.toArray true) ks Q (Hd n D S0 F hs) m r:=by
 simp only[cH,BY] at a
 exact GG.mB k g X C d a.1.1.1 (dZ a.1.1.2) a.1.2 e a.2 f b tail
abbrev S5.n:= @S5.nil
abbrev GG.m:= @GG.move
abbrev GG.s:= @GG.assign
abbrev GG.f:= @GG.fieldAddr
abbrev GG.x:= @GG.extract
abbrev GG.l:= @GG.alloc
abbrev GG.o:= @GG.norm
abbrev GG.d:= @GG.bind
abbrev GG.i:= @GG.cond
theorem UW{j:Nat}(n:Nat)(f g:Nat->α)(h:(List.range n).map f=(List.range n).map g)(b:j < n):f j=g j:=by
 have a:=congrArg (λl=>l[j]?) h;simp only[tb,List.getElem?_range b,RK,UV] at a
 exact a
end
section
variable{p:Q2 C1}{m:Q2 β}{n b d:Nat}{c:Up α}{T:S2}{g:Gp}{x:Q2 α}
def wc(Φ:ι->Prop)(l:ι->Q0 HP):HP:=λm=>∃q,Φ q/\Qk (l q) m
section
variable{m:Q2 β}{n:Nat}{Φ:ι->Prop}{l:ι->Q0 HP}
theorem GG.tG(i:Nat)(hi:hs[i]? =some (wc Φ l))(k:∀q,Φ q->GG g (Hd n D S F<|l q++hs.eraseIdx i) m r):GG g (Hd n D S F hs) m r:=by
 exact λf a w e=>by
  obtain⟨h,⟨j,o,d,s,u,⟨q,v,y⟩,z⟩,A⟩:=e.2.pull hi;exact k q v f a w ⟨e.1,h,JD ⟨j,o,d,s,u,y,z⟩,A⟩
theorem GG.mE(is:Q0 Nat)(q:ι)(i:Φ q)(j:YN is hs=l q)(k:GG g (Hd n D S F<|wc Φ l::YC is hs) m r):GG g (Hd n D S F hs) m r:=by
 exact λe a w f=>
  k e a w ⟨f.1,f.2.mono λ_ e=>QR (λ_ h=>⟨q,i,j▸h⟩)<|UO (ks:=is) e⟩
theorem ZJ{p:HP}{l l' :Q0 HP}(a:∀m,p m->p' m)(e:∀m,Qk l m->Qk l' m):∀m,Qk (p::l) m->Qk (p' ::l') m:=λ_ h=>QR a<|QT e h
theorem GG.an{f:Q0 HP}(is:Q0 Nat)(q:ι)(j:Φ q)(o:YN is hs=f)(hi:∀m,Qk f m->Qk (l q) m)(k:GG g (Hd n D S F<|wc Φ l::YC is hs) m r):GG g (Hd n D S F hs) m r:=by
 exact λe a w i=>
  k e a w ⟨i.1,i.2.mono λ_ e=>QR (λ_ h=>⟨q,j,hi _<|o▸h⟩)<|UO (ks:=is) e⟩
theorem GG.sg{p:HP}(i:Nat)(f:∀m,p m->p' m)(hi:hs[i]? =some p)(k:GG g (Hd n D S F<|hs.set i p') m r):GG g (Hd n D S F hs) m r:=by
 exact λj a w e=>
  k j a w ⟨e.1,SH.push hi<|(e.2.pull hi).mono λ_ h=>QR f h⟩
theorem GG.ins{p:HP}(i:∀m,p m)(k:GG g (Hd n D S F<|p::hs) m r):GG g (Hd n D S F hs) m r:=by
 exact λj a w f=>
  k j a w ⟨f.1,f.2.mono λm h=>⟨λ_=>none,m,λ_=>.inl rfl,λ_ _ e=>by simp at e,Mem.sub.refl _,i _,h⟩⟩
end
def jN(sz:Nat)(c:Up α)(F:Fz)(T:S2)(p:Q2 C1)(cap:Nat)(l:Q0 α):HP:=λm=>Qg sz c F T p cap l m∨QI sz c F p cap l
section
variable{m:Q2 β}{n:Nat}{c:Up α}{T:S2}{p:Q2 C1}{l:Q0 α}
theorem zn{m:Mem}(le:F<=F')(h:jN sz c F T p cap l m):jN sz c F' T p cap l m:=h.imp (WD le) λh=>h.mono le
theorem GG.tc(i:Nat)(hi:hs[i]? =some (jN sz c F0 T p cap l))(e:F0<=F)(k:∀F',F<=F'->QI sz c F' p cap l->GG g (Hd n D S F'<|hs.eraseIdx i) m r):GG g (Hd n D S F hs) m r:=by
 exact λj a w h=>by
  obtain⟨v,⟨y,o,d,z,q,f,s⟩,u⟩:=h.2.pull hi;rcases f with f | f
  .obtain⟨F',le,A,B⟩:=SH.sJ e (w:=w) (H:=Qk<|hs.eraseIdx i) ⟨v,⟨y,o,d,z,q,f,s⟩,u⟩;exact k F' le B j a w ⟨h.1,A⟩
  .exact k F (Fz.le_refl F) (f.mono e) j a w ⟨h.1,o,s,u.sub q⟩
end
def WL(T:S2)(c:Up α)(F:Fz)(p:Q2 C1):Q2 α->Prop
 | none=>p=none
 | some x=>∃b cs,p=some ⟨b,0,none⟩/\F.mem b=some (.cells (List.toArray cs) T)/\∀F',F<=F'->c F' x cs
section
variable{T:S2}{c:Up α}{p:Q2 C1}{x:Q2 α}{a:α}
theorem WL.mono(h:WL T c F p x)(le:F<=F'):WL T c F' p x:=by
 cases x with
 | none=>exact h
 | some x=>obtain⟨b,cs,e,f,i⟩:=h;exact⟨b,cs,e,le.mem _ _ f,λG l=>i G<|Fz.le_trans le l⟩
theorem WL.nil:WL T c F none none:=rfl
theorem WL.of(h:F.mem b=some (.cells (List.toArray cs) T))(e:∀F',F<=F'->c F' a cs):WL T c F (some ⟨b,0,none⟩) (some a):=⟨b,cs,rfl,h,e⟩
theorem WL.at(h:WL T c F p x)(e:x=some a):∃b cs,F.mem b=some (.cells (List.toArray cs) T)/\p=some ⟨b,0,none⟩/\c F a cs:=by
 subst e;obtain⟨b,cs,f,i,j⟩:=h;exact⟨b,cs,i,f,j F<|Fz.le_refl F⟩
theorem WL.isNone(h:WL T c F p x):p.isNone=x.isNone:=by
 cases x with
 | none=>have:p=none:=h;rw[this];rfl
 | some x=>obtain⟨b,cs,e,_⟩:=h;rw[e];rfl
end
section
variable{m:Q2 β}
variable{n:Nat}
variable{d:Nat}
theorem GG.ra(h:WL T c F p x)(i:Nat.blt d n=true)(j:P.underlying t=some (.pointer e))(l:QS S ox=some (.pointer p))(o:QS S oy=some (.pointer none))(k:GL μ P eX rest ks Q (Hd n D ((d,.bool x.isNone)::S) F hs) m r):GL μ P eX (⟨some d,.binOp .eql t ox oy t',ty,pos,after,none⟩::rest) ks Q (Hd n D S F hs) m r:=
 GG.val i (λa w f=>by
  have q:(Op.equal t (.pointer p)<|.pointer none).run P w= .ok p.isNone w:=BZ j 9999;have s:P.eqGuardType P.depth t=false∨P.eqGuardType P.depth t=true:=by cases P.eqGuardType P.depth t<;>simp
  simp[execOp,f.1.eval l,f.1.eval o,eqGuard,binOp,q,h.isNone]) k
theorem GG.rT(h:WL T c F p x)(i:Nat.blt d n=true)(j:P.underlying t=some (.pointer e))(l:QS S ox=some (.pointer p))(o:QS S oy=some (.pointer none))(k:GL μ P eX rest ks Q (Hd n D ((d,.bool<|!x.isNone)::S) F hs) m r):GL μ P eX (⟨some d,.binOp .neq t ox oy t',ty,pos,after,none⟩::rest) ks Q (Hd n D S F hs) m r:=
 GG.val i (λa w f=>by
  have q:(Op.equal t (.pointer p)<|.pointer none).run P w= .ok p.isNone w:=BZ j 9999;have s:P.eqGuardType P.depth t=false∨P.eqGuardType P.depth t=true:=by cases P.eqGuardType P.depth t<;>simp
  simp[execOp,f.1.eval l,f.1.eval o,eqGuard,binOp,q,h.isNone]) k
section
variable{V:Type}{rv:Fz->V->K2->Prop}
def W6(ck:K->K2)(rv:Fz->V->K2->Prop)(F:Fz)(p:Q2 Nat)(l:Q0 (K×V)):Prop:=∃(b:Nat) (es:C3 ta) (clock:Nat) (l' :Q0 (K×V)),p=some b/\l'.Perm l/\(l.map Prod.fst).Nodup/\F.mem b=some (.map es clock)/\Uw ck rv F es.toList l'/\Ye es.toList clock
theorem W6.mono{p:Q2 Nat}{l:Q0 (K×V)}(h:W6 ck rv F p l)(le:F<=F'):W6 ck rv F' p l:=let⟨b,es,c,l',e,f,a,i,j,k⟩:=h;⟨b,es,c,l',e,f,a,le.mem _ _ i,j.up le,k⟩
theorem GG.aK[BEq K]{l:Q0 (K×V)}(i:Nat)(hi:hs[i]? =some (Qc ck rv F0 b l))(le:F0<=F)(k:∀F',F<=F'->W6 ck rv F' (some b) l->GG g (Hd n D S F'<|hs.eraseIdx i) m r):GG g (Hd n D S F hs) m r:=by
 exact λj a w f=>by
  obtain⟨es,c,l',o,e,_,q,s,u⟩:=W8<|f.2.pull hi;obtain⟨h,v⟩:=s.freeze;exact k _ h ⟨b,es,c,l',rfl,o,e,Fz.sV F b _,(q.up le).up h,u⟩ j a w ⟨f.1,v⟩
variable{b:Nat}{l:Q0 (K×V)}{z:V}{kt vt:S2}{zv:K2}
variable[BEq K][LawfulBEq K]
theorem GG.sS(i:Nat)(hi:hs[i]? =some (Qc ck rv F0 b l))(h:F0<=F)(u:Nat.blt d n=true)(y:P.underlying t=some (.map kt vt))(ok:HL P kt ck)(j:∀w,(zeroValue vt).run P w= .ok zv w)(A:rv F z zv)(B:QS S ox=some (.map<|some b))(C:QS S oy=some (ck key))
  (k:∀v,rv F ((QZ l key).getD z) v->GL μ P eX rest ks Q (Hd n D ((d,v)::S) F hs) m r):GL μ P eX (⟨some d,.lookup t ox oy false,ty,pos,after,none⟩::rest) ks Q (Hd n D S F hs) m r:=by
 refine GG.aL rfl rfl λE a w e=> ?_;obtain⟨es,c,l',o,G,q,H,_⟩:=W8<|e.2.pull hi;obtain⟨v,s,f⟩:=B4 (key:=key) q H h y ok j A false;rw[Wo o G] at s
 refine⟨v,?_,k v s E _ _ ⟨e.1.put u _,e.2⟩⟩;simp[execOp,e.1.eval B,e.1.eval C,f]
theorem GG.tz(i:Nat)(hi:hs[i]? =some (Qc ck rv F0 b l))(h:F0<=F)(u:Nat.blt d n=true)(y:P.underlying t=some (.map kt vt))(ok:HL P kt ck)(j:∀w,(zeroValue vt).run P w= .ok zv w)(A:rv F z zv)(B:QS S ox=some (.map<|some b))(C:QS S oy=some (ck key))
  (k:∀v,rv F ((QZ l key).getD z) v->GL μ P eX rest ks Q (Hd n D ((d,.tuple #[v,.bool (QZ l key).isSome])::S) F hs) m r):GL μ P eX (⟨some d,.lookup t ox oy true,ty,pos,after,none⟩::rest) ks Q (Hd n D S F hs) m r:=by
 refine GG.aL rfl rfl λE a w f=> ?_;obtain⟨es,c,l',o,G,q,H,_⟩:=W8<|f.2.pull hi;obtain⟨v,s,e⟩:=B4 (key:=key) q H h y ok j A true;rw[Wo o G] at s e
 refine⟨_,?_,k v s E _ _ ⟨f.1.put u _,f.2⟩⟩;simp[execOp,f.1.eval B,f.1.eval C,e]
end
theorem GG.pA{V:Type}{rv:Fz->V->K2->Prop}{l:Q0 (K×V)}{y z:S2}{o:K2}[BEq K][LawfulBEq K](h:Dp ck rv F b l)(A:Nat.blt d n=true)(B:P.underlying t=some (.map y z))(ok:HL P y ck)(q:∀w,(zeroValue z).run P w= .ok o w)(C:QS S ox=some (.map<|some b))(E:QS S oy=some (ck key))
  (N:QZ l key=none->GL O P eX rest ks Q (Hd n D ((d,.tuple #[o,.bool false])::S) F hs) m r)
  (R:∀x v,QZ l key=some x->rv F x v->GL O P eX rest ks Q (Hd n D ((d,.tuple #[v,.bool true])::S) F hs) m r):GL O P eX (⟨some d,.lookup t ox oy true,ty,pos,after,none⟩::rest) ks Q (Hd n D S F hs) m r:=by
 refine GG.step rfl (.inr rfl) λG a w e=> ?_;obtain⟨es,c,l',s,W,X,Y⟩:=h;obtain⟨kd,H,f⟩:=ok.und;have i:=e.2.frozen X;have he:=Wo (k:=key) s W;rcases Y.find (k:=key) f ok.eq 0 with⟨I,L,_⟩ | ⟨j,M,Z,I,L,g3,g4,g5,_⟩
 .have u:=run_findKey (w:=w) H L;refine⟨.tuple #[o,.bool false],w,?_,N (by rw[<-he];exact I) G _ _ ⟨e.1.put A _,e.2⟩⟩;simp[execOp,Instr.lookup,e.1.eval C,e.1.eval E,YU B,Yf i,ok.check,u,q]
 .have u:=run_findKey (w:=w) H g4;refine⟨.tuple #[M.val,.bool true],w,?_,R Z M.val (by rw[<-he];exact g3) (g5 F<|Fz.le_refl F) G _ _ ⟨e.1.put A _,e.2⟩⟩;simp[execOp,Instr.lookup,e.1.eval C,e.1.eval E,YU B,Yf i,ok.check,u]
end
section
variable{w:By}{t e:Nat}{kd' kd'' :lO}{x:Int}{p:Q2 C1}{len:Nat}
theorem NA(a:P.underlying t=some (.slice e))(f:∀w,(sizeOf e).run P w= .ok sz w)(h:0<=x/\x<=y)(h' :y<=cap):(Instr.sliceAt t (.slice p len cap) (some<|.int kd x) (some<|.int kd' y)<|some<|.int kd'' y).run P w= .ok (.slice (if y.toNat=x.toNat then p else p.map (·.add (x.toNat*sz))) (y.toNat - x.toNat)<|y.toNat - x.toNat) w:=by
 simp only[Instr.sliceAt,y1,YU a,Result.andThen,Instr.slice,Instr.sliceBounds,oI,o5,B1];rw[Wc (kd:=kd'') hQ];simp only[];rw[Wc (kd:=kd') hQ];simp only[];rw[Wc hQ];simp[f]
end
section
variable{m:Q2 β}
variable{n:Nat}{d:Nat}{ou:OF}{x:Int}
theorem GG.pJ{e:Nat}{l:Q0 α}{z o:lO}{f:Q0 α->Q2 β}(C:Nat.blt d n=true)(E:P.underlying t=some (.slice e))(G:∀w,(sizeOf e).run P w= .ok sz w)
  (u:QI sz c F p cap l) (H:QS S ox=some (.slice p l.length cap)) (I:QS S oy=some (.int kd x)) (K:QS S oz=some (.int z y)) (L:QS S ou=some (.int o y))
  (k:∀l' p' c',Zc l x y=some l'->QI sz c F p' c' l'->GL O P eX rest ks Q (Hd n D ((d,.slice p' l'.length c')::S) F hs) (f l') r):GL O P eX (⟨some d,.slice t ox (some oy) (some oz)<|some ou,ty,pos,after,none⟩::rest) ks Q (Hd n D S F hs) ((Zc l x y).bind f) r:=
 GG.bind λl' j=>by
  have A:=j;unfold Zc at j
  split at j
  .rename_i h;simp only[UV] at j
   have i:QI sz c F (p.map (·.add (x.toNat*sz))) (y.toNat - x.toNat) l' :=by
    have:=u.cut (lo:=x.toNat) (hi:=y.toNat) (cap' :=y.toNat - x.toNat) hQ hQ (by have:=u.1;omega) (by have:=u.1;omega);rw[<-j];exact this
   have q:l'.length=y.toNat - x.toNat:=by rw[<-j];simp;omega
   have s:QI sz c F (if y.toNat=x.toNat then p else p.map (·.add (x.toNat*sz))) (y.toNat - x.toNat) l' :=zw (λh=>by
    have:l' =[]:=by have:=i.1;rw[<-h] at this;simp at this;exact this
    subst this;exact i.mG) i
   have B:=k l' _ _ A s;rw[q] at B
   refine GG.val C (λa w v=> ?_) B;simp only[execOp,v.1.eval H,v.1.eval I,v.1.eval K,v.1.eval L,RK,y1];rw[NA E G hQ (by have:=u.1;omega)];rfl
  .cases j
end
section
variable{w:By}{t:Nat}{x:Int}{s:Q0 H1}
theorem LP(a:P.underlying t=some .string)(h:0<=x/\x<=s.length):(Instr.sliceAt t (.string<|bs s) (some<|.int kd x) none none).run P w= .ok (.string<|bs<|s.drop x.toNat) w:=by
 simp only[Instr.sliceAt,y1,YU a,Result.andThen,Instr.slice,Instr.sliceBounds,oI,oL,W1,Bm,AS];rw[Wc hQ];simp[Cg];rw[IF];simp
variable{n:Nat}{a:Act}{d:Nat}
theorem N2(h:Sl n D S a)(f:P.underlying t=some .string)(i:QS S ox=some (.string<|bs s))(j:QS S oy=some (.int kd x)){l:Q0 H1}(e:Zc s x s.length=some l):(execOp a.eval ⟨some d,.slice t ox (some oy) none none,ty,pos,after,none⟩).run P w= .ok (.value<|.string<|bs l) w:=by
 unfold Zc at e
 split at e
 .rename_i k;simp only[UV] at e
  simp only[execOp,h.eval i,h.eval j,RK,oY,y1];rw[LP f hQ,<-e,IF ic];rfl
 .cases e
end
section
variable{m:Q2 β}
variable{n:Nat}{d:Nat}{x:Int}{s:Q0 H1}
theorem GG.re{f:Q0 H1->Q2 β}(e:Nat.blt d n=true)(i:P.underlying t=some .string)(j:QS S ox=some (.string<|bs s))(l:QS S oy=some (.int kd x))(k:∀z,Zc s x s.length=some z->GL μ P eX rest ks Q (Hd n D ((d,.string<|bs z)::S) F hs) (f z) r):GL μ P eX (⟨some d,.slice t ox (some oy) none none,ty,pos,after,none⟩::rest) ks Q (Hd n D S F hs) ((Zc s x s.length).bind f) r:=GG.bind λz h=>GG.val e (λa w o=>N2 o.1 i j l h)<|k z h
theorem GG.rF{z:Q0 H1}(h:Zc s x s.length=some z)(e:Nat.blt d n=true)(f:P.underlying t=some .string)(i:QS S ox=some (.string<|bs s))(j:QS S oy=some (.int kd x))(k:GL μ P eX rest ks Q (Hd n D ((d,.string<|bs z)::S) F hs) m r):GL μ P eX (⟨some d,.slice t ox (some oy) none none,ty,pos,after,none⟩::rest) ks Q (Hd n D S F hs) m r:=GG.val e (λa w l=>N2 l.1 f i j h) k
end
theorem wJ{a b:Q0 H1}:(bs a==bs b)=(a==b):=by
 show(bs a).beq (bs b)=_;unfold ByteArray.beq;simp[bs]
theorem HL.str(h:P.underlying t=some .string):HL P t (λx:Q0 H1=>.string<|bs x) where
 und:=⟨_,h,λa b=>by simp only[Instr.sameNow];rw[wJ]⟩
 check e k w:=by unfold Instr.checkKey;simp[YU h]
 same a:=by show(bs a==bs a)=true;rw[wJ,oT]
 eq a b e:=by simpa using e
section
def SZ(P:B2)(en:ε->K2)(fn:oW)(F:Fz)(R:HP)(ρ:β->Fz->K2->Prop)(a:β->Fz->K2->Q0 HP)(r:Out ε β):s6->Act->By->Prop:=
 bodyPostM Fence.wide 0 P fn (λe w' =>∃F',F<=F'/\match r with
  | .ok x=>∃v,e= .returned v/\ρ x F' v/\SH w' F' (star (Qk<|a x F' v) R)
  | .pan x=>e= .panicked [{v:=en x,recovered:=false}]/\SH w' F' R)
theorem Vu.af{f:Nm}{c:oZ}{m:Q2 (Out ε β)}{a:β->Fz->K2->Q0 HP}{n:Nat}
  (i:P.funcs[f]? =some fn) (j:fn.body=some c) (l:fn.ntmps=n) (o:Nat.ble args.length n=true)
  (k:∀r R,GC none P c [] (SZ P en fn F R ρ a r) (Hd n [] (D4 0 args) F<|Hs++[R]) m r):Vu P en f args.toArray F Hs m ρ a:=by
 intro r e w R q;refine(s9 (n:=0)).1<|qAl i j trivial<|k r R e _ w ⟨?_,q.mono λm e=>JD<|QT (λ_ h=>Jx h) e⟩;rw[l];exact WC o
theorem qd{a:C3 K2}{R:qAq->By->Prop}{chain:Q0 PanicEntry}:∀{e:Q0 (Nat×Nat)} {hs:Q0 HP} {w:By},SH w F (Qk hs)->uR hs e->
  (∀w',SH w' F (Qk<|H6 hs e)->R (.panicked chain) w')->LeavesInM Fence.wide 0 P fn a R (e.map λp=>WZ p.2) (.panicking chain) w
 | [],hs,w,h,_,k=>k w h
 | (i,q)::e,hs,w,h,f,k=>by
  refine⟨by simp,.inl ⟨q,_,rfl,run_takeDeferred<|SH.sK f.1 h,?_⟩⟩;exact qd (SH.putAt f.1 h _) f.2 k
variable{n:Nat}{R:HP}{Hs' :β->Fz->K2->Q0 HP}{x:β}{r:Out ε β}{ms:Q0 (Nat×Nat)}
theorem zt(is:Q0 Nat)(ms:Q0 (Nat×Nat))(j:fn.results=rs.toArray)(k:uR hs ms)(h:S5 P S F' (H6 hs ms) rs vs)(hi:YN is (H6 hs ms)=Hs' x F' (Ai vs)++[R])(le:F<=F')(hρ:ρ x F' (Ai vs)):some (Out.ok x)=some r->∀a w,Hd n (ms.map λp=>WZ p.2) S F' hs a w->SZ P en fn F R ρ Hs' r .ret a w:=by
 intro e a w f;simp only[UV] at e
 subst e;show LeavesInM Fence.wide 0 P fn a.tmps _ a.defers .returning w;rw[f.1.2.1];refine NU f.2 k λw' h' => ?_
 exact⟨_,Jn (n:=n) (a:=a) (D:=a.defers) j ⟨⟨f.1.1,rfl,f.1.2.2⟩,h'⟩ h,F',le,_,rfl,hρ,h'.mono λm l=>by
  have i:=YZ (ks:=is) l;rw[hi] at i
  exact XR<|Y5 i⟩
theorem GG.nS(is:Q0 Nat)(ms:Q0 (Nat×Nat))(a:fn.results=rs.toArray)(e:uR hs ms)(h:S5 P S F' (H6 hs ms) rs vs)(hi:YN is (H6 hs ms)=Hs' x F' (Ai vs)++[R])(le:F<=F')(hρ:ρ x F' (Ai vs)):GC O P .ret ks (SZ P en fn F R ρ Hs' r) (Hd n (ms.map λp=>WZ p.2) S F' hs) (some<|.ok x) r:=GG.sR<|zt is ms a e h hi le hρ
theorem HT{q:ε}{i:Nat}(ms:Q0 (Nat×Nat))(h:uR hs ms)(hi:(H6 hs ms)[i]? =some R)(le:F<=F'):some (Out.pan q)=some r->∀a w,Hd n (ms.map λp=>WZ p.2) S F' hs a w->SZ P en fn F R ρ Hs' r (.panic [{v:=en q,recovered:=false}]) a w:=by
 intro e a w f;simp only[UV] at e
 subst e;show LeavesInM Fence.wide 0 P fn a.tmps _ a.defers (.panicking _) w;rw[f.1.2.1];exact qd f.2 h λw' h' =>⟨F',le,rfl,h'.only hi⟩
end
section
variable{l0:Q0 L0}{cd:oZ}{m:Q2 β}
variable{n:Nat}
section
variable{c:Up α}{T:S2}{p:Q2 C1}{l:Q0 α}
theorem GG.toQ(i:Nat)(le:F0<=F)(hi:hs[i]? =some (Qg sz c F0 T p cap l))(k:GG g (Hd n D S F<|hs.set i<|jN sz c F T p cap l) m r):GG g (Hd n D S F hs) m r:=by
 exact GG.sg i (λ_ h=>.inl<|WD le h) hi k
theorem GG.mY(h:QI sz c F p cap l)(k:GG g (Hd n D S F<|jN sz c F T p cap l::hs) m r):GG g (Hd n D S F hs) m r:=by
 exact GG.ins (λ_=>.inr h) k
end
end
end
section
variable{p:Q2 C1}{s:Q0 H1}{f:Nm}{n i:Nat}{ti:TypeInfo}{l:Q0 Int}
theorem kV{a b:Q0 H1}:XQ (a++b)=XQ a++XQ b:=by simp[XQ]
theorem AL{a:Q0 H1}:(XQ a).length=a.length:=by simp[XQ]
theorem uO(l:Q0 H1):Jm 1 (Ex<|Zy .u8) F (XQ l) (l.map λb=>Value.int .u8 b.toNat):=λi x a c _=>by
 simp only[XQ,tb] at a
 cases h:l[i]? with
 | none=>rw[h] at a;cases a
 | some b=>
  rw[h] at a
  simp only[RK,UV] at a
  subst a;obtain⟨hi,he⟩:=Fm.1 h;show((l.map _).drop<|i*1).take 1=Zy .u8 _;rw[qAS,dO<|by simpa using hi];simp[Zy,he]
theorem qF{w:By}{e t t2:Nat}
  (E:Uo P e 1 (Ex<|Zy .u8)) (R:F0<=F) (ht:P.underlying t=some (.slice e)) (G:P.underlying t2=some .string)
  (I:T[0]? =some t) (K:T[1]? =some t2) (h:SH w F (star (Qg 1 (Ex<|Zy .u8) F0 e p cap l) H)) (aY:l.length+s.length<=4294967296):∃p' cap' w',(Builtin.append_ T ty #[.slice p l.length cap,.string<|bs s]).run P w= .ok (.slice p' (l++XQ s).length cap') w'/\SH w' F (star (Qg 1 (Ex<|Zy .u8) F e p' cap'<|l++XQ s) H)/\(l++XQ s=[]->p' =p/\cap' =cap):=by
 obtain⟨ti,aC,aD,aE⟩:=E.info;obtain⟨z,hzero,aF⟩:=E.zero;have hz:=E.size;have af:∀b o,F.mem b=some o->w.heap[b]? =some o:=λb o e=>h.frozen e;have V:(XQ s).length=s.length:=AL;generalize A:(s.map λb=>Value.int .u8 (b.toNat:Int))=us2;have c:us2.length=(XQ s).length*1:=by rw[<-A];simp[XQ]
 have W:Jm 1 (Ex<|Zy .u8) F (XQ s) us2:=A▸uO s;have X:us2.all Value.oneCell' =true:=by rw[<-A];simp[Value.oneCell']
 have g:∀w' :By,(Builtin.firstCells 1 (XQ s).length<|.string<|bs s).run P w' = .ok us2.toArray w' :=λw' =>by
  have:(ByteArray.extract (bs s) 0 (XQ s).length)=bs s:=by rw[V,Cg];simp
  simp only[Builtin.firstCells,this];rw[<-A];simp[bs]
 have j:∀w' :By,(Builtin.lenOf<|.string<|bs s).run P w' = .ok (XQ s).length w' :=λw' =>by simp[Builtin.lenOf,AS,V]
 obtain⟨m,⟨m1,m2,d,s1,s2,⟨h1,h2,h3⟩,hq⟩,k⟩:=h;by_cases a:l.length+(XQ s).length<=cap
 .rcases h3 with⟨rfl,rfl⟩ | ⟨b,cs,rfl,hb,hl,hp⟩
  .have e1:l=[]:=Rw hQ;have e2:XQ s=[]:=Rw hQ;subst e1;have e3:us2=[]:=Rw (by rw[c,e2];rfl);rw[e2] at g j ⊢
   refine⟨none,0,w,?_,⟨m,⟨m1,m2,d,s1,s2,⟨by simp,by simp,.inl ⟨rfl,rfl⟩⟩,hq⟩,k⟩,λ_=>⟨rfl,rfl⟩⟩;simp only[Builtin.append_];simp only[qs] at g j
   simp[I,K,YU ht,YU G,hz,j,g,e3]
  .have hh:SH w F (star (pt b<|.cells cs.toArray e (0,0)) H):=⟨m,⟨m1,m2,d,s1,s2,hb,hq⟩,k⟩;have aP:=hh.owned
   have r:l.length*1+us2.length<=cs.length:=by
    rw[c,hl,<-lu];exact oQ 1 a
   have L:=XT (P:=P) (o:=l.length*1) (i:=0) aP (by simpa using r) X;simp only[qAv] at L
   refine⟨some ⟨b,0,none⟩,cap,put w b<|.cells (Ki cs (l.length*1) us2).toArray e (0,0),?_,?_,λ_=>⟨rfl,rfl⟩⟩
   .simp only[Builtin.append_];simp only[qAS] at L
    simp[I,K,YU ht,YU G,hz,j,g,a,HI,L]
   .have aQ:=hh.put (o' :=.cells (Ki cs (l.length*1) us2).toArray e (0,0));refine aQ.mono λm hm=>QR (λm' M=>⟨by simp;omega,h2,.inr ⟨b,_,rfl,M,by rw[Hy];exact hl,?_⟩⟩) hm;have:=FO us2 cs (l.length*1) r;rw[c,<-lu] at this
    apply Jm.rR;rw[bY,this];exact(hp.mono R).take.append W ia
 .have hn:GZ (l.length+(XQ s).length) cap ti.bytes:=SQ (Nat.lt_of_not_le a) hQ aE
  have u:∃us:Q0 K2,us.length=l.length*1/\Jm 1 (Ex<|Zy .u8) F l us/\∀w' :By,w'.heap=w.heap->(Builtin.firstCells 1 l.length<|.slice p l.length cap).run P w' = .ok us.toArray w' :=by
   rcases h3 with⟨rfl,rfl⟩ | ⟨b,cs,rfl,hb,hl,hp⟩
   .have e1:l=[]:=Rw hQ;subst e1;exact⟨[],by simp,Jm.nil,λw' _=>by simp[Builtin.firstCells]⟩
   .have ai:=hp.len E.len;refine⟨cs.take<|l.length*1,by simp;omega,(hp.mono R).take,λw' aS=> ?_⟩;simp only[Builtin.firstCells];exact Hq (cs:=cs) (T:=e) (fr:=(0,0)) (by rw[aS];exact k.ry<|s1 _ _ hb) ic ia
  obtain⟨us,v,aU,u⟩:=u;have aV:SH w F H:=⟨m2,hq,k.sub s2⟩;generalize N:Question.appendCap (l.length+(XQ s).length) cap e=q
  have x:l.length+(XQ s).length<=q.cut (w.tape w.drawn q)/\q.cut (w.tape w.drawn q)<=9223372036854775807:=by
   rw[<-N];have:=qAo (w.tape w.drawn<|Question.appendCap (l.length+(XQ s).length) cap e) (show 0 < 2^63 - (l.length+(XQ s).length) by omega);simp only[Question.cut];omega
  have y:q.forced=false:=by rw[<-N];rfl
  generalize hC:q.cut (w.tape w.drawn q)=C at x
  have Q:SH {w with drawn:=w.drawn+1} F H:=aV.drew _;have B:=Q.alloc<|.cells ((us.toArray++us2.toArray++Builtin.zeroCells z.cells (C - (l.length+(XQ s).length)))) e;have e3:(Builtin.zeroCells z.cells<|C - (l.length+(XQ s).length)).size=(C - (l.length+(XQ s).length))*1:=by simp[Builtin.zeroCells,aF]
  have e4:(us.toArray++us2.toArray++Builtin.zeroCells z.cells (C - (l.length+(XQ s).length))).toList.length=C*1:=by
   simp only[o0,qA1,List.size_toArray,v,c,e3];rw[<-lu,<-lu];congr 1;omega
  have e5:Jm 1 (Ex<|Zy .u8) F (l++XQ s) (us.toArray++us2.toArray++Builtin.zeroCells z.cells (C - (l.length+(XQ s).length))).toList:=by
   have:=(aU.append W v).th (us2:=(Builtin.zeroCells z.cells<|C - (l.length+(XQ s).length)).toList) (by simp[v,c]);simpa using this
  refine⟨some ⟨w.heap.size,0,none⟩,C,_,?_,B.mono λm hm=>QR (λm' M=>⟨by simp only[bY];exact x.1,x.2,.inr ⟨w.heap.size,(us.toArray++us2.toArray++Builtin.zeroCells z.cells (C - (l.length+(XQ s).length))).toList,rfl,(by have Y:pt w.heap.size _ m' :=M;unfold pt at Y ⊢;rw[Y]),e4,e5⟩⟩) hm,λhe=> ?_⟩
  .simp only[Builtin.append_];have aW:=hn;unfold GZ at aW
   have Z:¬(2:Nat)^48 < Builtin.nextslicecap (l.length+(XQ s).length) cap*ti.bytes:=by omega
   have g1:=u w.drew rfl;have g2:=g w.drew;simp[I,K,YU ht,YU G,hz,j,a,aC,aD,Z,N,y,hC,g1,g2,hzero,newRow];simp only[<-qBg,Array.append_assoc]
  .exfalso;have h5:=congrArg List.length he;simp only[bY,qs] at h5;omega
def dR(e:S2)(p:Q2 C1)(cap:Nat)(s:Q0 H1):HP:=λm=>∃F,Qg 1 (Ex<|Zy .u8) F e p cap (XQ s) m
theorem xJ{m:Mem}(g:Fz)(h:dR e p cap s m):Qg 1 (Ex<|Zy .u8) g e p cap (XQ s) m:=by
 obtain⟨F,c,d,a⟩:=h;rcases a with a | ⟨b,cs,e,j,k,o⟩
 .exact⟨c,d,.inl a⟩
 .exact⟨c,d,.inr ⟨b,cs,e,j,k,λi x q G _=>o i x q F<|Fz.le_refl _⟩⟩
def Ch(T e:S2)(b:Nat)(s:Q0 H1):HP:=wc (λq:Q2 C1×Q2 C1×Nat=>(q.1=none∨q.1=some ⟨b,0,none⟩)/\(s=[]->q.2.1=none∨q.2.2≠0)) λq=>[pc b [.pointer q.1,.slice q.2.1 (XQ s).length q.2.2] T,dR e q.2.1 q.2.2 s]
section
variable{m:Q2 β}{n:Nat}{T b:S2}{s:Q0 H1}
theorem GG.tC{g:Gp}(i:Nat)(hi:hs[i]? =some (Ch T e b s))(k:∀p q cap,(p=none∨p=some ⟨b,0,none⟩)->(q=none∨cap≠0)->GG g (Hd n D S F<|pc b [.pointer p,.slice q (XQ s).length cap] T::Qg 1 (Ex<|Zy .u8) F e q cap (XQ s)::hs.eraseIdx i) m r):GG g (Hd n D S F hs) m r:=by
 exact GG.tG i hi fun⟨p,q,cap⟩ ⟨j,o⟩=>GG.sg (p' :=Qg 1 (Ex<|Zy .u8) F e q cap<|XQ s) 1 (λ_ h=>xJ F h) rfl λt a w d=>by
  refine k p q cap j ?_ t a w d;by_cases c:s=[]
  .exact o c
  .right;obtain⟨_,⟨x,_,_,_,_,⟨u,_⟩,_⟩,_⟩:=d.2.pull (k:=1) rfl;rw[AL] at u
   intro v;subst v;exact c<|Rw hQ
theorem GG.ao{g:Gp}{q:Q2 C1}(is:Q0 Nat)(a:p=none∨p=some ⟨b,0,none⟩)(c:s=[]->q=none∨cap≠0)(hi:YN is hs=[pc b [.pointer p,.slice q (XQ s).length cap] T,Qg 1 (Ex<|Zy .u8) F0 e q cap<|XQ s])(k:GG g (Hd n D S F<|Ch T e b s::YC is hs) m r):GG g (Hd n D S F hs) m r:=by
 exact GG.an is (p,q,cap) ⟨a,c⟩ hi (ZJ (λ_ h=>h)<|ZJ (λ_ h=>⟨F0,h⟩) λ_ h=>h) k
end
section
variable{m:Q2 β}
variable{n:Nat}{d:Nat}{t2 T b:S2}{p:Q2 C1}{s:Q0 H1}{c:oZ}
theorem GG.nw{g:Gp}(k:GG g (Hd n D S F<|AX::hs) m r):GG g (Hd n D S F hs) m r:=GG.ins (λ_=>trivial) k
theorem GG.rl(i:Nat)(e:S2)(hi:hs[i]? =some (pc b [.pointer none,.slice none 0 0] T))(k:GL O P eX rest ks Q (Hd n D S F<|hs.set i<|Ch T e b []) m r):GL O P eX rest ks Q (Hd n D S F hs) m r:=λg a w j=>k g a w ⟨j.1,SH.push hi<|(j.2.pull hi).mono λ_ g=>QR (λm h=>⟨(none,none,0),⟨.inl rfl,λ_=>.inl rfl⟩,m,λ_=>none,λ_=>.inr rfl,Mem.sub.refl _,λ_ _ e=>by simp at e,h,λ_=>none,λ_=>none,λ_=>.inr rfl,λ_ _ e=>by simp at e,λ_ _ e=>by simp at e,⟨F,Pp⟩,trivial⟩) g⟩
theorem GG.nP{f:Q0 Int->Q2 β}{T:C3 S2}(i:Nat)(E:Uo P e 1 (Ex<|Zy .u8))(u:F0<=F)(A:Nat.blt d n=true)(B:P.underlying t=some (.slice e))(v:P.underlying t2=some .string)(x:T[0]? =some t)(y:T[1]? =some t2)
  (hi:hs[i]? =some (Qg 1 (Ex<|Zy .u8) F0 e p cap l)) (C:QS S ox=some (.slice p l.length cap)) (G:QS S oy=some (.string<|bs s))
  (k:∀l' p' cap',Y1 l (XQ s)=some l'->(l' =[]->p' =p/\cap' =cap)->GL O P eX rest ks Q (Hd n D ((d,.slice p' l'.length cap')::S) F<|hs.set i<|Qg 1 (Ex<|Zy .u8) F e p' cap' l') (f l') r):GL O P eX (⟨some d,.call ⟨.builtin .append,#[ox,oy],T⟩,ty,pos,after,none⟩::rest) ks Q (Hd n D S F hs) ((Y1 l<|XQ s).bind f) r:=
 GG.bind λl' h=>by
  have z:=h;unfold Y1 at h
  split at h
  .rename_i g;simp only[UV] at h
   subst h;refine GG.step rfl (.inr rfl) λH a w q=> ?_;obtain⟨p',cap',w',j,I,o⟩:=qF (P:=P) (T:=T) (ty:=ty) (s:=s) E u B v x y (q.2.pull hi) (by rw[AL] at g;exact g);refine⟨_,w',?_,k _ p' cap' z o H _ _ ⟨q.1.put A _,SH.push hi I⟩⟩;simp[execOp,resolve,invoke,builtin,q.1.eval C,q.1.eval G,j]
  .cases h
theorem GG.rn{l':Q0 Int}{T:C3 S2}(a:Y1 l (XQ s)=some l')(i:Nat)(E:Uo P e 1 (Ex<|Zy .u8))(j:F0<=F)(v:Nat.blt d n=true)(w:P.underlying t=some (.slice e))(o:P.underlying t2=some .string)(q:T[0]? =some t)(u:T[1]? =some t2)
  (hi:hs[i]? =some (Qg 1 (Ex<|Zy .u8) F0 e p cap l)) (x:QS S ox=some (.slice p l.length cap)) (y:QS S oy=some (.string<|bs s))
  (k:∀p' cap',(l' =[]->p' =p/\cap' =cap)->GL O P eX rest ks Q (Hd n D ((d,.slice p' l'.length cap')::S) F<|hs.set i<|Qg 1 (Ex<|Zy .u8) F e p' cap' l') m r):GL O P eX (⟨some d,.call ⟨.builtin .append,#[ox,oy],T⟩,ty,pos,after,none⟩::rest) ks Q (Hd n D S F hs) m r:=by
 have h:=GG.nP (f:=λ_=>m) (pos:=pos) (after:=after) (ty:=ty) i E j v w o q u hi x y (λz p' cap' g A=>by rw[a] at g;cases g;exact k p' cap' A);rw[a] at h;exact h
theorem GG.pW{h:Q0 K2}{of:OF}{T:C3 S2}{ρ:Unit->Fz->K2->Prop}{H' :Unit->Fz->K2->HP}(o:Nat.blt d n=true)
  (a:∀args w,(callFunc f args).run P w= .ok (.enter f args) w) (q:QS S of=some (.func (.func f) #[] eY.toArray)) (u:Un S os=some vs) (has:vs++eY=h) (hi:hs[i]? =some H)
  (x:CT P f h.toArray F H (some ()) ρ H') (k:∀j v,F<=j->GL O P eX rest ks Q (Hd n D ((d,v)::S) j<|hs.set i<|H' () j v) m r):GL O P eX (⟨some d,.call ⟨.value of,os.toArray,T⟩,ty,pos,after,none⟩::rest) ks Q (Hd n D S F hs) m r:=
 GG.aU (e:=some ()) (g:=λ_=>m) o a q u has hi x (λ_ j v _ le _=>k j v le)
theorem GG.mc(h:Nat.blt d n=true)(j:P.underlying t=some (.pointer e))(o:QS S ox=some (.pointer p))(q:QS S oy=some (.pointer none))(k:GL O P eX rest ks Q (Hd n D ((d,.bool p.isNone)::S) F hs) m r):GL O P eX (⟨some d,.binOp .eql t ox oy t',ty,pos,after,none⟩::rest) ks Q (Hd n D S F hs) m r:=
 GG.val h (λa w g=>by
  have u:(Op.equal t (.pointer p)<|.pointer none).run P w= .ok p.isNone w:=BZ j 9999;simp[execOp,g.1.eval o,g.1.eval q,eqGuard,binOp,u]) k
theorem GG.mV{a0:C1}(j:Nat.blt d n=true)(o:P.underlying t=some (.pointer e))(g:P.info? e=some ti)(q:QS S ox=some (.pointer<|some a0))(u:QS S oy=some (.pointer<|some a0))(k:GL O P eX rest ks Q (Hd n D ((d,.bool false)::S) F hs) m r):GL O P eX (⟨some d,.binOp .neq t ox oy t',ty,pos,after,none⟩::rest) ks Q (Hd n D S F hs) m r:=
 GG.val j (λa w h=>by
  have v:=Go.Lib.run_neq_ptr_same (P:=P) w a0 o g;simp[execOp,h.1.eval q,h.1.eval u,eqGuard,v]) k
theorem GG.rG{g v:Nat}(y:Nat.blt d n=true)(o:P.underlying h=some (.pointer e))(q:P.underlying j=some .unsafePointer)(z:P.info? e=some ti)(A:ti.size≠0)(B:hs[i]? =some (pc g cs v))(C:0 < cs.length)(G:QS S ox=some (vP g 0))
  (k:GL O P eX rest ks Q (Hd n D ((d,vP g 0)::S) F hs) m r):GL O P eX (⟨some d,.convert h j ox,ty,pos,after,none⟩::rest) ks Q (Hd n D S F hs) m r:=
 GG.val y (λa w x=>by
  have u:w.shape? g=some (v,cs.length):=by simp[World.shape?,SH.sK B x.2]
  have H:=Go.Lib.run_to_unsafe (P:=P) w ⟨g,0,none⟩ o q z A u C;simp[execOp,x.1.eval G,H]) k
theorem GG.pR{g o:Nat}(y:Nat.blt d n=true)(q:P.underlying h=some .unsafePointer)(u:P.underlying j=some (.pointer e))(z:P.info? e=some ti)(A:hs[i]? =some (pc g cs o))(B:liesAt P P.depth o (cs.length / P.cellsOf o) 0 e 1=true)(C:QS S ox=some (vP g 0))
  (k:GL O P eX rest ks Q (Hd n D ((d,vP g 0)::S) F hs) m r):GL O P eX (⟨some d,.convert h j ox,ty,pos,after,none⟩::rest) ks Q (Hd n D S F hs) m r:=
 GG.val y (λa w x=>by
  have v:w.shape? g=some (o,cs.length):=by simp[World.shape?,SH.sK A x.2]
  have G:=Go.Lib.run_from_unsafe (P:=P) w ⟨g,0,none⟩ q u z v B;simp[execOp,x.1.eval C,G]) k
theorem GG.nN{T:C3 S2}(g:Nat.blt d n=true)(h:∀w,(callFunc f #[v]).run P w= .ok (.value v) w)(j:QS S ox=some v)
  (k:GL O P eX rest ks Q (Hd n D ((d,v)::S) F hs) m r):GL O P eX (⟨some d,.call ⟨.value<|.func f,#[ox],T⟩,ty,pos,after,none⟩::rest) ks Q (Hd n D S F hs) m r:=
 GG.val g (λa w o=>by
  have q:a.eval (.func f)= .func (.func f) #[] #[]:=rfl;simp[execOp,resolve,Deferred.ofValue,q,o.1.eval j,invoke,h]) k
theorem GG.px{k:Nat}{T:C3 S2}(j:p=none∨cap≠0)(o:Nat.blt d n=true)(q:QS S ox=some (.slice p k cap))(h:GL μ P eX rest ks Q (Hd n D ((d,.pointer p)::S) F hs) m r):GL μ P eX (⟨some d,.call ⟨.builtin .unsafeSliceData,#[ox],T⟩,ty,pos,after,none⟩::rest) ks Q (Hd n D S F hs) m r:=by
 refine GG.aL rfl rfl λu a w g=>⟨.pointer p,?_,h u _ _ ⟨g.1.put o _,g.2⟩⟩
 have:(Builtin.unsafeSliceData_ T ty #[.slice p k cap]).run P w= .ok (.pointer p) w:=by
  cases p with
  | none=>exact Go.Lib.run_unsafeSliceData_nil w T ty k cap
  | some a=>exact Go.Lib.run_unsafeSliceData_row w T ty a k cap (by rcases j with h | h;cases h;exact h)
 simp[execOp,resolve,invoke,builtin,g.1.eval q,this]
theorem GG.pq{T:C3 S2}{pt u:S2}(i:Nat)(X:T=#[pt,u])(B:P.underlying pt=some (.pointer e))(C:P.cellsOf e=1)(hi:hs[i]? =some (Qg 1 (Ex<|Zy .u8) F0 e p cap<|XQ s))(I:Nat.blt d n=true)(v:QS S ox=some (.pointer p))(y:QS S oy=some (.int .i64 (XQ s).length))
  (k:GL O P eX rest ks Q (Hd n D ((d,.string<|bs s)::S) F<|hs.eraseIdx i) m r):GL O P eX (⟨some d,.call ⟨.builtin .unsafeString,#[ox,oy],T⟩,ty,pos,after,none⟩::rest) ks Q (Hd n D S F hs) m r:=by
 subst X;refine GG.step rfl (.inr rfl) λK a w o=> ?_;have Y:=o.2.pull hi;obtain⟨Z,⟨m1,L,dd,s1,M,⟨h1,h2,h3⟩,N⟩,R⟩:=Y;rw[AL] at y h1
 by_cases z:s=[]
 .subst z;refine⟨.string<|bs [],w,?_,k K _ _ ⟨o.1.put I _,⟨L,N,R.sub M⟩⟩⟩;have:=Go.Lib.run_unsafeString_none (P:=P) w pt u ty p;simp only[qs] at y
  simp[execOp,resolve,invoke,builtin,o.1.eval v,o.1.eval y];have e:bs []=ByteArray.empty:=rfl;rw[e];simpa using congrArg (λr=>r) (show(Builtin.unsafeString_ #[pt,u] ty #[.pointer p,.int .i64 0]).run P w= .ok (.string .empty) w from this)▸rfl
 .rcases h3 with⟨rfl,rfl⟩ | ⟨g,cs,rfl,hb,hl,hp⟩
  .exfalso;exact z<|Rw hQ
  .have V:SH w F (star (Dec.pt g<|.cells cs.toArray e (0,0))<|Qk<|hs.eraseIdx i):=⟨Z,⟨m1,L,dd,s1,M,hb,N⟩,R⟩;have A:=V.owned
   have q:∀j x,s[j]? =some x->w.cell? ((⟨g,0,none⟩:C1).add j)=some (.int .u8 x.toNat):=λj x v=>by
    have G:(XQ s)[j]? =some (x.toNat:Int):=by simp[XQ,v]
    have:=hp j _ G F0<|Fz.le_refl _;have W:(cs.drop<|j*1).take 1=[Value.int .u8 x.toNat]:=this;rw[qAS] at W
    have h6:cs[j]? =some (.int .u8 x.toNat):=by
     have:=congrArg (λl:Q0 K2=>l[0]?) W;simpa[If,lY] using this
    rw[HI];simp[World.cell?,A,h6]
   have h:=Go.Lib.run_unsafeString_row (P:=P) w pt u ty e B C g cs.length (by simp[World.shape?,A]) s z hQ hQ q
   have hw:w.freeze ⟨g,0,none⟩ s.length=put w g (.cells cs.toArray e (0,0+s.length)):=by
    have H:s.length≠0:=λe=>z<|Rw e;unfold World.freeze put;rw[Do H];congr 1;apply qAr;intro j;rw[qBW,Array.getElem?_setIfInBounds];split
    .rename_i G;subst G;have:=lt_of_heap A;rw[DO this,A];rfl
    .rfl
   rw[hw] at h
   have h7:=(V.put (o' :=.cells cs.toArray e (0,0+s.length))).drop;refine⟨.string<|bs s,_,?_,k K _ _ ⟨o.1.put I _,h7⟩⟩;have e8:bs s=⟨s.toArray⟩:=rfl;simp[execOp,resolve,invoke,builtin,o.1.eval v,o.1.eval y,h,e8]
end
def gl(P:B2)(F:Fz)(f:Nm)(eY:Q0 K2)(arg:α->Fz->Q0 K2->Prop)(Hs:Q0 HP)(l:Q0 α):Prop:=
 (∀args w,(callFunc f args).run P w= .ok (.enter f args) w)/\
 ∀(σ:Type) (b:Nat) (Y:σ->Fz->HP) (y:α->σ->Q2 (σ×Bool)) (a:Fz),F<=a->WK P b a arg Y y->∀s,X6 P f (.func (.yield b) #[] #[]::eY).toArray a (Hs++[Y s a]) (WG y l s) (λ_ _ _=>True) λc d=>[Y c d]
section
variable{n:Nat}
variable{g:OF}{f:Nm}{bm:α->τ->Q2 (UN τ γ)}{k:UN τ γ->Q2 β}
theorem GG.py{l:Q0 α}(Hs:Q0 HP)(is:Q0 Nat)(I:τ->Fz->Q0 HP->Prop)(J:γ->Fz->Q0 HP->Prop)(Z:QS S g=some (.func (.func f) #[] eY.toArray))(C:gl P F f eY arg Hs l)(M:(ps.all λp=>Nat.blt p n)=true)(E:∀x j vs,arg x j vs->vs.length=ps.length)
  (hi:YN is hs=Hs) (N:I s0 F (YC is hs))
  (round:∀l L F0 B x vs s t R d,F<=F0->F0<=B->arg x B vs->I s F0 d->GC (some l) P assign [] (BP P l body<|RP l L I J B R t) (Hd n [] ((ps.zip vs).reverse++S) B<|pt l (UP L)::R::d) (bm x s) t)
  (next:∀q F0 j s d,F<=F0->F0<=j->TF bm l s0=some (.next s)->I s F0 d->GE none P ks Q (Hd n (WZ q::D) S j<|pt q (.deferred<|some [])::d) (k<|.next s) r)
  (done:∀q F0 j b d,F<=F0->F0<=j->TF bm l s0=some (.done b)->J b F0 d->GC none P .ret ks Q (Hd n (WZ q::D) S j<|pt q (.deferred<|some [])::d) (k<|.done b) r):GC none P (.rangeFunc g ps.toArray assign body) ks Q (Hd n D S F hs) ((TF bm l s0).bind k) r:=by
 intro h a w o;cases G:TF bm l s0 with
 | none=>rw[G] at h;cases h
 | some c=>
  rw[G] at h
  refine qAe λfn _=> ?_
  let L:Loop:={state:=.ready,pending:=none,fn,tmps:=a.tmps,params:=ps.toArray,assign,body,defers:=w.heap.size}
  have V:SH ((w.alloc<|.deferred<|some []).alloc<|.loop L) F (star (Qk<|Hs++[yS F (w.heap.size+1) L I J (.next s0) F])<|Qk [pt w.heap.size<|.deferred<|some []]):=by
   have u:=(o.2.alloc<|.deferred<|some []).alloc<|.loop L;rw[qAA] at u
   refine u.mono λm h=> ?_
   have h2:star (pt (w.heap.size+1)<|UP L) (star (pt w.heap.size<|.deferred<|some [])<|star (Qk Hs)<|Qk<|YC is hs) m:=
    QT (λm h=>QT (λm h=>by have:=UO (ks:=is) h;rw[hi] at this;exact this) h) h
   have y:=Pf<|QT (λm h=>Zm h)<|Zm h2;refine QR (λm h=> ?_)<|QT (λm h=>Jx h) y;refine JD<|QT (λm h=>Jx (p:=yS F (w.heap.size+1) L I J (.next s0) F) ⟨F,YC is hs,Fz.le_refl _,Fz.le_refl _,N,h⟩) h
  have hY:WK P (w.heap.size+1) F arg (yS F (w.heap.size+1) L I J) (jz bm):=by
   refine NQ (S' :=λvs=>(ps.zip vs).reverse++S) (assign:=assign) (body:=body) (λx j vs W=>by rw[E x j vs W];simp[L]) rfl rfl (λvs _=>BE M ⟨o.1.1,rfl,o.1.2.2⟩) ?_;exact λF0 B x vs s t R d H u W N=>round _ L F0 B x vs s t R d H u W N
  have hc:=C.2 _ _ _ _ F (Fz.le_refl F) hY (.next s0) c (by rw[DD];exact G) _ _ V;refine⟨w.heap.size+1,[WZ w.heap.size],(w.alloc<|.deferred<|some []).alloc<|.loop L,⟨.fn (.func f) eY.toArray,#[.func (.yield<|w.heap.size+1) #[] #[]]⟩,(w.alloc<|.deferred<|some []).alloc<|.loop L,f,(.func (.yield<|w.heap.size+1) #[] #[]::eY).toArray,(w.alloc<|.deferred<|some []).alloc<|.loop L,oq fn a.tmps ps.toArray assign body,?_,λ_ _=>trivial,?_,λe=>(by cases e),?_⟩
  .have X:a.eval (.const<|.func (.yield<|w.heap.size+1) #[] #[])= .func (.yield<|w.heap.size+1) #[] #[]:=rfl;simp[resolve,Deferred.ofValue,o.1.eval Z,X]
  .simp[invoke,C.1]
  .refine s9.2<|hc.mono ?_;rintro _ w' ⟨j,v,le,rfl, -,K⟩;cases c with
   | next s=>
    have z:SH w' j (star (yS F (w.heap.size+1) L I J (.next s) j)<|Qk [pt w.heap.size<|.deferred<|some []]):=K.mono λm h=>Wt h;obtain⟨F0,d,H,u,A,y⟩:=SH.aM z;refine⟨none,_,BF<|SH.sK (k:=0) rfl y,?_⟩;have Y:SH _ j (Qk<|pt w.heap.size (.deferred<|some [])::d):=(SH.se 0<|SH.putAt (k:=0) rfl y<|T4 L none).mono λm h=>Wt h;exact next w.heap.size F0 j s d H u G A h _ _ ⟨⟨o.1.1,by simp[o.1.2.1],o.1.2.2⟩,Y⟩
   | done b=>
    have z:SH w' j (star (yS F (w.heap.size+1) L I J (.done b) j)<|Qk [pt w.heap.size<|.deferred<|some []]):=K.mono λm h=>Wt h;obtain⟨F0,d,H,u,A,y⟩:=SH.tt z;refine⟨some .ret,_,EG<|SH.sK (k:=0) rfl y,?_⟩;have Y:SH _ j (Qk<|pt w.heap.size (.deferred<|some [])::d):=(SH.se 0<|SH.putAt (k:=0) rfl y<|T4 L<|some .ret).mono λm h=>Wt h;exact done w.heap.size F0 j b d H u G A h _ _ ⟨⟨o.1.1,by simp[o.1.2.1],o.1.2.2⟩,Y⟩
end
theorem wD{V:Type}[BEq K]{rv:Fz->V->K2->Prop}{p:Q2 Nat}{l:Q0 (K×V)}(h:W6 ck rv F p l)
  (a:∀b es clock w,w.heap[b]? =some (.map es clock)->Calls P f #[.map<|some b] w λe w' =>e= .returned (.map<|some w.heap.size)/\w' =w.alloc (.map es clock)) (w:By) (R:HP) (j:SH w F R):Calls P f #[.map p] w (λe w' =>∃b,e= .returned (.map<|some b)/\SH w' F (star (Qc ck rv F b l) R)):=by
 obtain⟨b,es,c,l',rfl,k,d,o,q,r⟩:=h;refine(a b es c w<|j.frozen o).mono ?_;rintro e w' ⟨rfl,rfl⟩;exact⟨_,rfl,(j.alloc<|.map es c).mono λm g=>QR (λm g=>⟨l',k,d,es,c,g,q,r⟩) g⟩
end
section
variable{f:Nm}{n:Nat}
section
variable{m:Q2 β}
variable{n:Nat}{d:Nat}
theorem GG.pU{b:Q0 K2}{of:OF}{j:Q2 (Q0 α)}{x:Q0 α}{c:Up α}{l:S2}(he:j=some x)(o:Nat.blt d n=true)
  (a:∀args w,(callFunc f args).run P w= .ok (.enter f args) w) (q:QS S of=some (.func (.func f) #[] eY.toArray)) (s:Un S os=some vs) (has:vs++eY=b)
  (t:Cs P f b.toArray F j sz c l) (k:∀e p cap,F<=e->GL O P eX rest ks Q (Hd n D ((d,.slice p x.length cap)::S) e<|Qg sz c e l p cap x::hs) m r):GL O P eX (⟨some d,.call ⟨.value of,os.toArray,T⟩,ty,pos,after,none⟩::rest) ks Q (Hd n D S F hs) m r:=by
 have h:=GG.nZ (O:=O) (P:=P) (eX:=eX) (rest:=rest) (ks:=ks) (Q:=Q) (r:=r) (n:=n) (D:=D) (S:=S) (F:=F) (hs:=hs) (d:=d) (ty:=ty) (pos:=pos) (after:=after) (T:=T) (g:=λ_=>m) o a q s has t (λx' e p cap i le=>by rw[he] at i;cases i;exact k e p cap le);rw[he] at h
 exact h
theorem GG.rj{V:Type}{rv:Fz->V->K2->Prop}{of:OF}{p:Q2 Nat}{l:Q0 (K×V)}(h:Nat.blt d n=true)
  (c:∀args w,(callFunc f args).run P w= .ok (.enter f args) w) (i:QS S of=some (.func (.func f) #[] #[])) (j:Un S os=some [.map p])
  (o:∀w R,SH w F R->Calls P f #[.map p] w (λe w' =>∃b,e= .returned (.map<|some b)/\SH w' F (star (Qc ck rv F b l) R)))
  (k:∀b,GL O P eX rest ks Q (Hd n D ((d,.map<|some b)::S) F<|Qc ck rv F b l::hs) m r):GL O P eX (⟨some d,.call ⟨.value of,os.toArray,T⟩,ty,pos,after,none⟩::rest) ks Q (Hd n D S F hs) m r:=
 GG.aV rfl (.inr rfl) λq a w g=>by
  refine⟨W7 (eY:=[]) (vs:=[.map p]) g.1 c i j,?_⟩;refine(o w _ g.2).mono ?_;rintro _ w' ⟨b,rfl,s⟩;exact⟨_,rfl,k b q _ _ ⟨g.1.put h _,s⟩⟩
end
theorem X6.nz{c:oZ}{m:Q2 β}{a:β->Fz->Q0 HP}
  (d:P.funcs[f]? =some fn) (g:fn.body=some c) (i:fn.ntmps=n) (j:Nat.ble args.length n=true)
  (k:∀r R,GC none P c [] (AO (G:=Unit) P fn F R (λ_=>ρ) (λ_=>a) r) (Hd n [] (D4 0 args) F<|Hs++[R]) m r):X6 P f args.toArray F Hs m ρ a:=by
 intro r b w R l;refine((s9 (n:=0)).1<|qBX d g trivial<|k r R b _ w ⟨?_,l.mono λm b=>JD<|QT (λ_ h=>Jx h) b⟩).mono ?_
 .rw[i];exact WC j
 .rintro e w' ⟨_,o,v,h⟩;exact⟨o,v,h⟩
section
variable{n:Nat}
variable{G:Type}{R:HP}{ρ:G->β->Fz->K2->Prop}{Hs' :G->β->Fz->Q0 HP}{x:β}
theorem Fv{j:ε->Fz->Q0 HP}{q:ε}(U:G)(c:∀args w,(callFunc f args).run P w= .ok (.enter f args) w)(p:wb P en f eY.toArray F' Hs j)(is:Q0 Nat)(hi:YN is hs=Hs)(s:fn.results=rs.toArray)(h:∀b,F'<=b->S5 P S b (j q b++YC is hs) rs vs)(le:F<=F')
  (i:∀b w,F'<=b->SH w b (Qk<|j q b++YC is hs)->SH w b (star (Qk<|Hs' U x b) R)) (hρ:∀b,ρ U x b<|Ai vs):some x=some r->∀a w,Hd n [RB f eY] S F' hs a w->AO P fn F R ρ Hs' r (.panic [{v:=en q,recovered:=false}]) a w:=by
 intro e a w k;simp only[UV] at e
 subst e;show LeavesIn Fence.wide 0 P fn a.tmps _ a.defers (.panicking _) w;rw[k.1.2.1]
 have l:SH w F' (star (Qk Hs)<|Qk<|YC is hs):=k.2.mono λm t=>by
  have:=UO (ks:=is) t;rw[hi] at this;exact this
 refine qBI ic (λe=>by cases e) (TP c) Px<|(p.2 q w _ l).mono ?_;rintro _ _ w' ⟨rfl,⟨v,rfl⟩,g,d,u⟩;have o:SH w' g (Qk<|j q g++YC is hs):=u.mono λ_=>JD;exact⟨_,Jn (n:=n) (a:=a) (D:=a.defers) s ⟨⟨k.1.1,rfl,k.1.2.2⟩,o⟩<|h g d,U,g,_,Fz.le_trans le d,rfl,hρ g,i g w' d o⟩
end
end
section
variable{c:oZ}
def j4(f:Nm)(P:B2)(c:oZ)(Q:s6->Act->By->Prop)(a:Act)(w:By):Prop:=∀(b:Frame) (k:Q0 Item) (cs:Q0 Frame),b.roundOf=none->b.fn=f->∃e d w',Q e d w'/\ArrivesIn (Machine.fenced P Fence.wide) P (lone (b.atR a<|.code c::k) cs w) b k cs e d w'
section
variable{f:Nm}{Q' :s6->Act->By->Prop}{a:Act}{w:By}
theorem vm(h:c.wpIn Fence.wide 0 P Q a w):j4 f P c Q a w:=λb k cs d _=>h b k cs d trivial<|room_wide _
theorem vn(h:j4 f P c Q a w)(d:∀e a w,Q e a w->Q' e a w):j4 f P c Q' a w:=λb k cs g i=>let⟨e,j,w',q,s⟩:=h b k cs g i;⟨e,j,w',d _ _ _ q,s⟩
theorem wj{x y:oZ}(h:j4 f P x (Exit.then (j4 f P y Q) Q) a w):j4 f P (.seq x y) Q a w:=by
 intro b k cs j m;have g:(lone (b.atR a<|.code (.seq x y)::k) cs w).fenced P Fence.wide:=ls _ _;obtain⟨e,a₁,w₁,i,d⟩:=h b (.code y::k) cs j m;cases e with
 | normal=>
  obtain⟨e₂,a₂,w₂,hq₂,harr₂⟩:=i b k cs j m;exact⟨e₂,a₂,w₂,hq₂,.of_steps (.head g qAk d) harr₂⟩
 | exit id=>exact⟨_,a₁,w₁,i,.of_steps (.one g qAk)<|.pass (x:=.code y) rfl (λ_ _=>.inl ic) d⟩
 | goto l=>exact⟨_,a₁,w₁,i,.of_steps (.one g qAk)<|.pass (x:=.code y) rfl (λ_ _=>.inl ic) d⟩
 | ret=>exact⟨_,a₁,w₁,i,.of_steps (.one g qAk)<|.pass (x:=.code y) rfl (λ_ _=>.inl ic) d⟩
 | panic n=>exact⟨_,a₁,w₁,i,.of_steps (.one g qAk)<|.pass (x:=.code y) rfl (λ_ _=>.inl ic) d⟩
 | outgrown=>exact⟨_,a₁,w₁,i,.of_steps (.one g qAk)<|.pass (x:=.code y) rfl (λ_ _=>.inl ic) d⟩
theorem j2{id:Nat}(h:j4 f P c (Exit.inBlock id Q) a w):j4 f P (.block id c) Q a w:=by
 intro b k cs q u;have i:(lone (b.atR a<|.code (.block id c)::k) cs w).fenced P Fence.wide:=ls _ _;obtain⟨e,a₁,w₁,j,d⟩:=h b (.inBlock id::k) cs q u;cases e with
 | normal=>exact⟨.normal,a₁,w₁,j,.head i og<|lN d<|.one (ls _ _) stepR_inBlock⟩
 | exit g=>
  by_cases m:g=id
  .simp only[Exit.inBlock,m,B1] at j
   exact⟨.normal,a₁,w₁,j,.head i og<|d.1 k<|by simp[exitTo,m]⟩
  .simp only[Exit.inBlock,m,Bm] at j
   have this:(id==g)=false:=by simp;exact λh=>m h.symm
   have p:exitTo g (.inBlock id::k)=exitTo g k:=by simp[exitTo,this]
   exact⟨.exit g,a₁,w₁,j,λr n=>.head i og (d.1 r (by rw[p];exact n)),
    λo n=>let⟨k₁,s,t⟩:=d.2 o (by rw[p];exact n);⟨k₁,s,.head i og t⟩⟩
 | goto l=>
  have p:gotoIn l (.inBlock id::k)=gotoIn l k:=by simp[gotoIn]
  exact⟨_,a₁,w₁,j,λr n=>.head i og (d.1 r (by rw[p];exact n)),
   λo n=>let⟨k₁,s,t⟩:=d.2 o (by rw[p];exact n);⟨k₁,s,.head i og t⟩⟩
 | ret=>exact⟨_,a₁,w₁,j,.of_steps (.one i og) d⟩
 | panic v=>exact⟨_,a₁,w₁,j,.of_steps (.one i og) d⟩
 | outgrown=>exact⟨_,a₁,w₁,j,.of_steps (.one i og) d⟩
theorem IQ{args:C3 K2}(t:P.funcs[f]? =some fn)(v:fn.body=some c)
  (h:j4 f P c (bodyPostM Fence.wide 0 P fn R) {tmps:=args++Array.replicate (fn.ntmps - args.size) undef,defers:=[]} w):Calls P f args w R:=by
 refine(s9 (n:=0)).1 ⟨trivial,λcs u=> ?_⟩
 let b:Frame:={(default:Frame) with fn:=f,kind:=.normal,roundOf:=none}
 have m:Frame.enter P f args .normal=b.atR {tmps:=args++Array.replicate (fn.ntmps - args.size) undef,defers:=[]} [.code c]:=by
  simp[Frame.enter,Frame.atR,t,v,b]
 obtain⟨e,o,w',p,d⟩:=h b [] cs rfl rfl;rw[<-m] at d
 cases e with
 | normal=>
  obtain⟨q,g,i,r,hs,j,s⟩:=qA7 o.defers .returning w' {b.atR o [] with mode:=.returning} cs rfl rfl rfl t rfl trivial u p;exact⟨q,g,i,r,qA5 (lN d<|.one (ls _ _)<|stepR_end rfl) hs,j,s⟩
 | ret=>
  obtain⟨k,hs₀⟩:=d.1 rfl;obtain⟨q,g,i,r,hs,j,s⟩:=qA7 o.defers .returning w' {b.atR o k with mode:=.returning} cs rfl rfl rfl t rfl trivial u p;exact⟨q,g,i,r,qA5 hs₀ hs,j,s⟩
 | panic chain=>
  obtain⟨k,hs₀⟩:=d;obtain⟨q,g,i,r,hs,j,s⟩:=qA7 o.defers (.panicking chain) w' {b.atR o k with mode:=.panicking chain} cs rfl rfl rfl t rfl trivial u p;exact⟨q,g,i,r,qA5 hs₀ hs,j,s⟩
 | exit id=>exact p.elim
 | goto l=>exact p.elim
 | outgrown=>exact⟨.outgrown,w',b,p,d.resolve_left (by simp[b]),rfl,trivial⟩
def zs(P:B2)(l:Nat)(R:qAq->By->Prop):s6->Act->By->Prop
 | .panic chain,a,w=>a.defers=[]/\R (.panicked chain) w
 | e,a,w=>roundPost P l R e a w
theorem yQ{l:Nat}{tmps:C3 K2}(s:P.funcs[f]? =some fn)
  (h:assign.wpIn (Fence.wide.inRound l) 0 P (Exit.then (λa₁ w₁=>∃w₂,(Instr.beginRound l).run P w₁= .ok () w₂/\body.wpIn (Fence.wide.inRound l) 0 P (zs P l R) a₁ w₂) λ_ _ _=>False)
   {tmps:=tmps,defers:=[]} w):RoundIn Fence.wide 0 P l f tmps assign body w R:=by
 refine⟨trivial,λc cs u=> ?_⟩
 let b:Frame:={(default:Frame) with fn:=f,kind:=.normal,roundOf:=some l}
 have p:Frame.round l f tmps assign body .normal=b.atR {tmps:=tmps,defers:=[]} [.code assign,.beginRound,.code body]:=by
  simp[Frame.round,Frame.atR,b]
 have m:(Fence.wide.inRound l).room ((c::cs).length+1+0):=u;obtain⟨e,a₁,w₁,k,g⟩:=h b [.beginRound,.code body] (c::cs) rfl trivial m;rw[<-p] at g
 cases e with
 | normal=>
  obtain⟨w₂,q,j⟩:=k
  have n:StepsIn (Machine.fenced P<|Fence.wide.inRound l) P (lone (b.atR a₁ [.beginRound,.code body]) (c::cs) w₁) (lone (b.atR a₁ [.code body]) (c::cs) w₂):=
   .one (ls _ _) (stepR_beginRound rfl q)
  obtain⟨e₂,a₂,w₃,hq₂,harr₂⟩:=j b [] (c::cs) rfl trivial m;cases e₂ with
  | normal=>
   obtain⟨v,w₄,d,i⟩:=hq₂;exact⟨.returned v,w₄,i,(lN g n).trans<|lN harr₂<|.one (ls _ _)<|stepR_round_end rfl rfl d⟩
  | ret=>
   obtain⟨v,w₄,d,i⟩:=hq₂;obtain⟨k₁,hs⟩:=harr₂.2 rfl;exact⟨.returned v,w₄,i,(lN g n).trans<|lN hs<|.one (ls _ _)<|stepR_round_ret rfl rfl d⟩
  | exit id=>
   obtain⟨v,w₄,d,i⟩:=hq₂;obtain⟨k₁,r,hs⟩:=harr₂.2 rfl rfl;exact⟨.returned v,w₄,i,(lN g n).trans<|lN hs<|.one (ls _ _)<|stepR_round_exit rfl rfl r d⟩
  | goto t=>
   obtain⟨v,w₄,d,i⟩:=hq₂;obtain⟨k₁,r,hs⟩:=harr₂.2 rfl rfl;exact⟨.returned v,w₄,i,(lN g n).trans<|lN hs<|.one (ls _ _)<|stepR_round_goto rfl rfl r d⟩
  | panic chain=>
   obtain⟨x,i⟩:=hq₂;obtain⟨o,hs⟩:=harr₂;have y:Frame.leaving P {b.atR a₂ o with mode:=.panicking chain} w₃ (.panicked chain):=⟨rfl,x,fn,s⟩;exact⟨.panicked chain,w₃,i,(lN g n).trans<|lN hs<|.one (ls _ _)<|qBe y⟩
  | outgrown=>exact hq₂.elim
 | exit id=>exact k.elim
 | goto t=>exact k.elim
 | ret=>exact k.elim
 | panic chain=>exact k.elim
 | outgrown=>exact k.elim
theorem LG{g:OF}{ps:C3 Tmp}
  (h:∃(l:Nat) (mark:Q0 AT) (w₁:By) (d:AT) (w₁' :By) (y:Nm) (args:C3 K2) (w₂:By),
   (Instr.enterLoop f a.tmps ps assign body none).run P w= .ok (l,mark) w₁/\(resolve a.eval (rangeCall g l) 0).run P w₁= .ok d w₁'/\(invoke d.target d.args).run P w₁' = .ok (.enter y args) w₂/\
   Calls P y args w₂ (λe w₃=>match e with
    | .returned _=>∃i w₄,(Instr.endLoop l).run P w₃= .ok i w₄/\(match i with | none=>Q .normal {a with defers:=mark++a.defers} w₄ | some c=>j4 f P c Q {a with defers:=mark++a.defers} w₄)
    | .panicked chain=>Q (.panic chain) {a with defers:=mark++a.defers} w₃
    | .outgrown=>False)):j4 f P (.rangeFunc g ps assign body) Q a w:=by
 intro b k cs r B;obtain⟨l,mark,w₁,d,w₁',y,args,w₂,he,s,t,q⟩:=h;rw[<-B,<-r] at he
 have j:=stepR_rangeFunc (P:=P) (b:=b) (a:=a) (k:=k) (cs:=cs) (w:=w) he s t;obtain⟨e,w₃,fr,z,m,D,o⟩:=(s9 (n:=0)).2 q |>.2 (b.atR {a with defers:=mark++a.defers} (.inRangeFunc l::k)::cs) (room_wide _);cases e with
 | outgrown=>exact z.elim
 | returned v=>
  obtain⟨i,w₄,u,C⟩:=z
  have p:StepsIn (Machine.fenced P Fence.wide) P (lone (b.atR a<|.code (.rangeFunc g ps assign body)::k) cs w) (lone (b.atR {a with defers:=mark++a.defers}<|(i.map Item.code).toList++k) cs w₄):=by
   refine .head (ls _ _) j<|lN m<|.head (ls _ _) ?_<|.one (ls _ _)<|stepR_endRangeFunc u;rw[<-finish_atR_inRangeFunc l v];exact step_leave_returned o
  cases i with
  | none=>exact⟨.normal,_,w₄,C,p⟩
  | some c=>
   obtain⟨E,A,w₅,F,x⟩:=C b k cs r B;exact⟨E,A,w₅,F,.of_steps p x⟩
 | panicked chain=>
  refine⟨.panic chain,_,w₃,z,.inRangeFunc l::k,.head (ls _ _) j<|lN m<|.one (ls _ _) ?_⟩;rw[<-Frame.raise_atR];exact qBe o
end
end
section
variable{f:Nm}{c:oZ}{n:Nat}{m:Q2 β}
abbrev TH(en:ε->K2)(q:ε):Q0 PanicEntry:=[{v:=en q,recovered:=false}]
def Xt(f:Nm)(P:B2):Q0 Kt->(s6->Act->By->Prop)->s6->Act->By->Prop
 | [],Q=>Q
 | .code c::ks,Q=>Exit.then (j4 f P c<|Xt f P ks Q) (Xt f P ks Q)
 | .block id::ks,Q=>Exit.inBlock id<|Xt f P ks Q
def GB(f:Nm)(P:B2)(c:oZ)(ks:Q0 Kt)(Q:s6->Act->By->Prop)(A:Act->By->Prop)(m:Q2 β)(r:β):Prop:=m=some r->∀a w,A a w->j4 f P c (Xt f P ks Q) a w
section
variable{f:Nm}{m:Q2 β}
theorem GB.q{x y:oZ}(h:GB f P x (.code y::ks) Q A m r):GB f P (.seq x y) ks Q A m r:=λb a w d=>wj<|h b a w d
theorem GB.k{id:Nat}(h:GB f P c (.block id::ks) Q A m r):GB f P (.block id c) ks Q A m r:=λb a w d=>j2<|h b a w d
theorem GB.g(h:GC none P c [] (Xt f P ks Q) A m r):GB f P c ks Q A m r:=λb a w d=>vm<|h b a w d
theorem GG.cb(h:GB f P c ks Q A m r):GE none P [] (Xt f P (.code c::ks) Q) A m r:=h
theorem VG:∀(ks:Q0 Kt) {e:s6} {a:Act} {w:By},Z0 none P ks Q e a w->Xt f P ks Q e a w
 | [],_,_,_,h=>h
 | .code c::ks,.normal,a,w,h=>vn (vm<|show c.wpIn Fence.wide 0 P (Z0 none P ks Q) a w from h) λ_ _ _=>VG ks
 | .code c::ks,.exit id,a,w,h=>VG (e:=.exit id) ks h
 | .code c::ks,.goto l,a,w,h=>VG (e:=.goto l) ks h
 | .code c::ks,.ret,a,w,h=>VG (e:=.ret) ks h
 | .code c::ks,.panic d,a,w,h=>VG (e:=.panic d) ks h
 | .code c::ks,.outgrown,a,w,h=>VG (e:=.outgrown) ks h
 | .block id::ks,.exit b,a,w,h=>by
  show(if b=id then Xt f P ks Q .normal a w else Xt f P ks Q (.exit b) a w);have h' :(if b=id then Z0 none P ks Q .normal a w else Z0 none P ks Q (.exit b) a w):=h;by_cases hi:b=id
  .rw[DO hi] at h' ⊢;exact VG ks h'
  .rw[Do hi] at h' ⊢;exact VG ks h'
 | .block id::ks,.normal,a,w,h=>VG (e:=.normal) ks h
 | .block id::ks,.goto l,a,w,h=>VG (e:=.goto l) ks h
 | .block id::ks,.ret,a,w,h=>VG (e:=.ret) ks h
 | .block id::ks,.panic d,a,w,h=>VG (e:=.panic d) ks h
 | .block id::ks,.outgrown,a,w,h=>VG (e:=.outgrown) ks h
theorem GV{c:Q0 PanicEntry}{a:Act}{w:By}:∀{ks:Q0 Kt},Q (.panic c) a w->Xt f P ks Q (.panic c) a w
 | [],k=>k
 | .code c::ks,k=>by show Xt f P ks Q (.panic _) a w;exact GV k
 | .block j::ks,k=>by show Xt f P ks Q (.panic _) a w;exact GV k
theorem Vu.mA{m:Q2 (Out ε β)}{a:β->Fz->K2->Q0 HP}
  (d:P.funcs[f]? =some fn) (e:fn.body=some c) (g:fn.ntmps=n) (i:Nat.ble args.length n=true)
  (k:∀r R,GB f P c [] (SZ P en fn F R ρ a r) (Hd n [] (D4 0 args) F<|Hs++[R]) m r):Vu P en f args.toArray F Hs m ρ a:=by
 intro r b w R j;refine IQ d e<|k r R b _ w ⟨?_,j.mono λm b=>JD<|QT (λ_ h=>Jx h) b⟩;rw[g];exact WC i
end
section
variable{f:Nm}{c:oZ}{m:Q2 β}{n:Nat}
theorem GB.o(s:Sub S' S)(e:hs=hs')(k:GB f P c ks Q (Hd n D S' F hs') m r):GB f P c ks Q (Hd n D S F hs) m r:=λd a w b=>k d a w ⟨b.1.sub s,e▸b.2⟩
end
theorem bU{c:Q0 PanicEntry}(h:m=some r->∀a w,A a w->Q (.panic c) a w):m=some r->∀a w,A a w->Xt f P ks Q (.panic c) a w:=λb a w d=>GV<|h b a w d
def YP(en:ε->K2)(ret:σ->qAq->Prop)(Y:σ->Fz->HP)(Z:ε->Fz->HP)(F:Fz)(R:HP)(r:Out ε σ)(e:qAq)(w:By):Prop:=
 ∃a,F<=a/\match r with
  | .ok p=>ret p e/\SH w a (star (Y p a) R)
  | .pan q=>e= .panicked (TH en q)/\SH w a (star (Z q a) R)
def PV(P:B2)(en:ε->K2)(l:Nat)(F:Fz)(arg:α->Fz->Q0 K2->Prop)(Y:σ->Fz->HP)(Z:ε->Fz->HP)(y:α->σ->Q2 (Out ε<|σ×Bool)):Prop:=
 (∀s F0 a m,F<=F0->F0<=a->Y s F0 m->Y s a m)/\
 ∀a,F<=a->∀x vs s r,arg x a vs->y x s=some r->∀w R,SH w a (star (Y s a) R)->
  ∃f b assign body,(Instr.yield l vs.toArray).run P w= .ok (.round l f b assign body) w/\
   RoundIn Fence.wide 0 P l f b assign body w (YP en (fun(p:σ×Bool) e=>e= .returned (.bool p.2)) (λp=>Y p.1) Z a R r)
def bE(P:B2)(en:ε->K2)(f:Nm)(args:C3 K2)(F:Fz)(H:HP)(m:Q2 (Out ε σ))(Y:σ->Fz->HP)(Z:ε->Fz->HP):Prop:=∀r,m=some r->∀w R,SH w F (star H R)->Calls P f args w (YP en (λ_ e=>∃v,e= .returned v) Y Z F R r)
def gA(P:B2)(F:Fz)(f:Nm)(eY:Q0 K2)(arg:α->Fz->Q0 K2->Prop)(mk:∀ε σ:Type,(α->σ->Q2 (Out ε<|σ×Bool))->σ->Q2 (Out ε σ)):Prop:=
 (∀args w,(callFunc f args).run P w= .ok (.enter f args) w)/\
 ∀(ε σ:Type) (en:ε->K2) (l:Nat) (Y:σ->Fz->HP) (Z:ε->Fz->HP) (y:α->σ->Q2 (Out ε<|σ×Bool)) (a:Fz),F<=a->PV P en l a arg Y Z y->∀s,bE P en f (.func (.yield l) #[] #[]::eY).toArray a (Y s a) (mk ε σ y s) Y Z
def G4(y:α->σ->Q2 (Out ε<|σ×Bool)):Q0 α->σ->Q2 (Out ε σ)
 | [],s=>some (.ok s)
 | x::xs,s=>Q5 (y x s) (λq=>some<|.pan q) λp=>if p.2 then G4 y xs p.1 else some (.ok p.1)
def S6(P:B2)(F:Fz)(f:Nm)(eY:Q0 K2)(arg:α->Fz->Q0 K2->Prop)(l:Q0 α):Prop:=gA P F f eY arg λ_ _ y s=>G4 y l s
theorem Ez{y:α->σ->Q2 (σ×Bool)}:∀(l:Q0 α) (s:σ),G4 (ε:=Empty) (λx s=>(y x s).map .ok) l s=(WG y l s).map .ok
 | [],s=>rfl
 | x::xs,s=>by
  simp only[G4,WG];cases y x s with
  | none=>rfl
  | some p=>
   simp only[RK,Q5,K1];split
   .exact Ez xs p.1
   .rfl
theorem S6.plain{l:Q0 α}(h:S6 P F f eY arg l):Nb P F f eY arg l:=by
 refine⟨h.1,λσ u Y y z le t s r B w R j=> ?_⟩
 have C:=h.2 Empty σ (λq=>q.elim) u Y (λq=>q.elim) (λx s=>(y x s).map .ok) z le
  ⟨t.1,λE G x vs s r H a w R j=>by
   replace a:(y x s).map Out.ok=some r:=a
   cases b:y x s with
   | none=>rw[b] at a;cases a
   | some p=>
    rw[b] at a
    simp only[RK,UV] at a
    subst a;obtain⟨g,i,assign,body,I,K⟩:=t.2 E G x vs s p H b w R j;exact⟨g,i,assign,body,I,K.mono λe w' ⟨k,d,he,o⟩=>⟨k,d,he,o⟩⟩⟩ s (.ok r) ((Ez l s).trans (by rw[show WG y l s=some r from B];rfl)) w R j
 exact C.mono λe w' ⟨k,d,⟨v,he⟩,o⟩=>⟨k,v,d,he,trivial,o⟩
section
variable{n:Nat}
theorem GG.mF{l d i:Nat}{of:OF}{C:Fz}{y:α->σ->Q2 (Out ε<|σ×Bool)}{x:α}{s:σ}{g:σ×Bool->Q2 β}
  (I:Nat.blt d n=true) (E:PV P en l C arg Y Z y) (K:QS S of=some (.func (.yield l) #[] #[])) (L:Un S os=some vs) (M:arg x F vs) (hi:hs[i]? =some (Y s F0)) (o:C<=F0) (le:F0<=F)
  (k:∀p j,y x s=some (.ok p)->F<=j->GL O P eX rest ks Q (Hd n D ((d,.bool p.2)::S) j<|hs.set i<|Y p.1 j) (g p) r)
  (N:∀q j,F<=j->gp q=some r->∀a w,Hd n D S j (hs.set i<|Z q j) a w->Q (.panic<|TH en q) a w):GL O P eX (⟨some d,.call ⟨.value of,os.toArray,T⟩,ty,pos,after,none⟩::rest) ks Q (Hd n D S F hs) (Q5 (y x s) gp g) r:=by
 intro b a w t;cases he:y x s with
 | none=>rw[he] at b;cases b
 | some p=>
  rw[he] at b
  obtain⟨f,u,assign,body,R,h⟩:=E.2 F (Fz.le_trans o le) x vs s p M he w _<|(t.2.pull hi).mono λ_ b=>QR (λ_ b=>E.1 s F0 F _ o le b) b;refine dN ?_;unfold Xp;rw[DO<|by simp[Region.wanted]];refine⟨.inr rfl,?_⟩;have e:=He t.1 L
  have v:(execOp a.eval ⟨some d,.call ⟨.value of,os.toArray,T⟩,ty,pos,after,none⟩).run P w= .ok (.round l f u assign body) w:=by
   simp[execOp,resolve,Deferred.ofValue,t.1.eval K,e,invoke,R]
  rw[v];refine⟨λe=>(by rw[BU] at e;cases e),EI.2<|h.mono ?_⟩;rintro e w' ⟨G,z,H⟩;cases p with
  | ok p=>obtain⟨rfl,B⟩:=H;exact k p G he z b _ _ ⟨t.1.put I _,SH.push hi B⟩
  | pan q=>obtain⟨rfl,B⟩:=H;exact JF<|N q G z b _ _ ⟨t.1,SH.push hi B⟩
end
def La(b:α->τ->Q2 (Out ε τ)):Q0 α->τ->Q2 (Out ε τ)
 | [],s=>some (.ok s)
 | x::xs,s=>Q5 (b x s) (λq=>some<|.pan q)<|La b xs
def vh(b:α->τ->Q2 (Out ε τ))(x:α)(s:τ):Q2 (Out ε<|τ×Bool):=Q5 (b x s) (λq=>some<|.pan q) λa=>some<|.ok (a,true)
theorem Ry(b:α->τ->Q2 (Out ε τ)):∀(l:Q0 α) (s:τ),G4 (vh b) l s=La b l s
 | [],s=>rfl
 | x::xs,s=>by
  simp only[G4,vh,La];cases b x s with
  | none=>rfl
  | some c=>
   cases c with
   | ok a=>simpa[Q5] using Ry b xs a
   | pan q=>rfl
def yN(a:Fz)(l:Nat)(L:Loop)(I:τ->Fz->Q0 HP->Prop)(s:τ)(F:Fz):HP:=λm=>∃F0 hs,a<=F0/\F0<=F/\I s F0 hs/\star (pt l<|UP L) (Qk hs) m
def yZ(a:Fz)(l:Nat)(L:Loop)(b:ε->Fz->Q0 HP->Prop)(q:ε)(F:Fz):HP:=λm=>∃F0 hs,a<=F0/\F0<=F/\b q F0 hs/\star (pt l<|UJ L) (Qk hs) m
def dB(en:ε->K2)(l:Nat)(L:Loop)(I:τ->Fz->Q0 HP->Prop)(g:ε->Fz->Q0 HP->Prop)(d:Fz)(R:HP)(r:Out ε τ):s6->Act->By->Prop:=λe a w=>
 match r with
 | .ok s=>e= .normal/\∃b hs,d<=b/\I s b hs/\SH w b (Qk<|pt l (UJ L)::R::hs)
 | .pan q=>e= .panic (TH en q)/\a.defers=[]/\∃b hs,d<=b/\g q b hs/\SH w b (Qk<|pt l (UJ L)::R::hs)
section
variable{l:Nat}{L:Loop}{I:τ->Fz->Q0 HP->Prop}{Jp:ε->Fz->Q0 HP->Prop}{n:Nat}{F1:Fz}{R:HP}
theorem dB.norm{s:τ}{r:Out ε τ}(le:F1<=F)(h:I s F hs')(e:hs=pt l (UJ L)::R::hs'):some (Out.ok s)=some r->∀a w,Hd n [] S F hs a w->dB en l L I Jp F1 R r .normal a w:=λb a w d=>by
 simp only[UV] at b;subst b;subst e;exact⟨rfl,F,hs',le,h,d.2⟩
theorem dB.pan{q:ε}{r:Out ε τ}(le:F1<=F)(h:Jp q F hs')(e:hs=pt l (UJ L)::R::hs'):some (Out.pan q)=some r->∀a w,Hd n [] S F hs a w->dB en l L I Jp F1 R r (.panic<|TH en q) a w:=λb a w d=>by
 simp only[UV] at b;subst b;subst e;exact⟨rfl,d.1.2.1,F,hs',le,h,d.2⟩
end
section
variable{n:Nat}
variable{g:OF}{f f0:Nm}{fn0:oW}{bm:α->τ->Q2 (Out ε τ)}{l:Q0 α}{k:τ->Q2 β}
theorem GB.aj(I:τ->Fz->Q0 HP->Prop)(Jp:ε->Fz->Q0 HP->Prop)(hf:P.funcs[f0]? =some fn0)(hg:QS S g=some (.func (.func f) #[] eY.toArray))(T:S6 P F f eY arg l)(aG:(ps.all λp=>Nat.blt p n)=true)(V:∀x j vs,arg x j vs->vs.length=ps.length)
  (hI:I s0 F hs)
  (round:∀l L F0 C x vs s o R hs',F<=F0->F0<=C->arg x C vs->I s F0 hs'->GC (some l) P assign [] (BP P l body<|dB en l L I Jp C R o) (Hd n [] ((ps.zip vs).reverse++S) C<|pt l (UP L)::R::hs') (bm x s) o)
  (next:∀q F0 j s hs',F<=F0->F0<=j->La bm l s0=some (.ok s)->I s F0 hs'->GE none P ks Q (Hd n (WZ q::D) S j<|pt q (.deferred<|some [])::hs') (k s) r)
  (pan:∀q F0 j e hs',F<=F0->F0<=j->La bm l s0=some (.pan e)->Jp e F0 hs'->gp e=some r->∀a w,Hd n (WZ q::D) S j (pt q (.deferred<|some [])::hs') a w->Q (.panic<|TH en e) a w):GB f0 P (.rangeFunc g ps.toArray assign body) ks Q (Hd n D S F hs) (Q5 (La bm l s0) gp k) r:=by
 intro b a w u;cases W:La bm l s0 with
 | none=>rw[W] at b;cases b
 | some c=>
  rw[W] at b
  let L:Loop:={state:=.ready,pending:=none,fn:=f0,tmps:=a.tmps,params:=ps.toArray,assign,body,defers:=w.heap.size}
  have aH:SH ((w.alloc<|.deferred<|some []).alloc<|.loop L) F (star (yN F (w.heap.size+1) L I s0 F)<|Qk [pt w.heap.size<|.deferred<|some []]):=by
   have t:=(u.2.alloc<|.deferred<|some []).alloc<|.loop L;rw[qAA] at t
   have h2:SH ((w.alloc<|.deferred<|some []).alloc<|.loop L) F (Qk<|pt (w.heap.size+1) (UP L)::Qk [pt w.heap.size<|.deferred<|some []]::hs):=by
    refine t.mono λm b=>QT (λm b=>QR (λm b=> ?_) b) b;exact⟨m,λ_=>none,λ_=>.inr rfl,Mem.sub.refl _,λ_ _ e=>by simp at e,b,trivial⟩
   exact(SH.three h2).mono λm b=>QR (λm b=>⟨F,hs,Fz.le_refl _,Fz.le_refl _,hI,b⟩) b
  have hY:PV P en (w.heap.size+1) F arg (yN F (w.heap.size+1) L I) (yZ F (w.heap.size+1) L Jp) (vh bm):=by
   refine⟨λs F0 C m _ t ⟨G,hs,g0,g1,k⟩=>⟨G,hs,g0,Fz.le_trans g1 t,k⟩,λC t x vs s r hx y w' R hw=> ?_⟩;obtain⟨m,⟨E,X,d,z,Y,⟨F0,aI,Z,aJ,aK,B⟩,i⟩,hk⟩:=hw;have aB:=SH.tE ⟨m,⟨E,X,d,z,Y,B,i⟩,hk⟩;have aL:w'.heap[w.heap.size+1]? =some (UP L):=SH.sK (k:=0) rfl aB;have hn:=V x C vs hx;refine⟨L.fn,_,L.assign,L.body,run_yield (r:={L with state:=.ready,pending:=none}) aL (by simpa[L] using hn),?_⟩;refine yQ hf ?_;cases hc:bm x s with
   | none=>unfold vh at y;rw[hc] at y;cases y
   | some o=>
    have aM:=round (w.heap.size+1) L F0 C x vs s o R aI Z aJ hx aK hc _ w' ⟨BE aG ⟨u.1.1,rfl,u.1.2.2⟩,aB⟩;refine qAH aM λe a1 w1 i=> ?_;obtain⟨rfl,w2,aN,H⟩:=i;refine⟨w2,aN,qAH H λe a2 w3 i=> ?_⟩;unfold vh at y
    rw[hc] at y
    cases o with
    | ok s' =>
     simp only[Q5,UV] at y
     subst y;obtain⟨rfl,F2,K,le,M,h⟩:=i;refine⟨_,_,qE<|SH.sK (k:=0) rfl h,F2,le,rfl,(SH.three<|SH.putAt (k:=0) rfl h<|UP L).mono λm b=>QR (λm b=> ?_) b⟩;exact⟨F2,K,Fz.le_trans t le,Fz.le_refl _,M,b⟩
    | pan q=>
     simp only[Q5,UV] at y
     subst y;obtain⟨rfl,hd,F2,K,le,M,h⟩:=i;exact⟨hd,F2,le,rfl,(SH.three h).mono λm b=>QR (λm b=>⟨F2,K,Fz.le_trans t le,Fz.le_refl _,M,b⟩) b⟩
  have hc:=T.2 _ _ en _ _ _ _ F (Fz.le_refl F) hY s0 c (by show G4 _ _ _=_;rw[Ry,W]) _ _ aH;refine LG ⟨w.heap.size+1,[WZ w.heap.size],(w.alloc<|.deferred<|some []).alloc<|.loop L,⟨.fn (.func f) eY.toArray,#[.func (.yield<|w.heap.size+1) #[] #[]]⟩,(w.alloc<|.deferred<|some []).alloc<|.loop L,f,(.func (.yield<|w.heap.size+1) #[] #[]::eY).toArray,(w.alloc<|.deferred<|some []).alloc<|.loop L,oq f0 a.tmps ps.toArray assign body,?_,?_,?_⟩
  .have aO:a.eval (.const<|.func (.yield<|w.heap.size+1) #[] #[])= .func (.yield<|w.heap.size+1) #[] #[]:=rfl;simp[resolve,Deferred.ofValue,u.1.eval hg,aO]
  .simp[invoke,T.1]
  .refine hc.mono ?_;rintro e w' ⟨j,le,i⟩;cases c with
   | ok s=>
    obtain⟨⟨v,rfl⟩,m,⟨E,X,d,z,Y,⟨F0,hs',Z,t,N,B⟩,i⟩,hk⟩:=i;have h3:=SH.tE ⟨m,⟨E,X,d,z,Y,B,i⟩,hk⟩;refine⟨none,_,BF<|SH.sK (k:=0) rfl h3,?_⟩;have h4:SH _ j (Qk<|pt w.heap.size (.deferred<|some [])::hs'):=(SH.se 0<|SH.putAt (k:=0) rfl h3<|T4 L none).mono λm b=>QR (λm b=>by obtain⟨E,_,_,z,_,B,_⟩:=b;exact z _ _ B) b;exact VG ks (next w.heap.size F0 j s hs' Z t W N b _ _ ⟨⟨u.1.1,by simp[u.1.2.1],u.1.2.2⟩,h4⟩)
   | pan q=>
    obtain⟨rfl,m,⟨E,X,d,z,Y,⟨F0,hs',Z,t,N,B⟩,i⟩,hk⟩:=i;have h3:=SH.tE ⟨m,⟨E,X,d,z,Y,B,i⟩,hk⟩;have h4:SH _ j (Qk<|pt w.heap.size (.deferred<|some [])::hs'):=(SH.se 0 h3).mono λm b=>QR (λm b=>by obtain⟨E,_,_,z,_,B,_⟩:=b;exact z _ _ B) b;exact GV<|pan w.heap.size F0 j q hs' Z t W N b _ _ ⟨⟨u.1.1,by simp[u.1.2.1],u.1.2.2⟩,h4⟩
end
def IC(P:B2)(en:ε->K2)(fn:oW)(F:Fz)(R:HP)(Y:σ->Fz->HP)(Z:ε->Fz->HP)(r:Out ε σ):s6->Act->By->Prop:=bodyPost P fn<|YP en (λ_ e=>∃v,e= .returned v) Y Z F R r
section
variable{n:Nat}{R:HP}{x:σ}{r:Out ε σ}
theorem bE.enter{m:Q2 (Out ε σ)}(b:P.funcs[f]? =some fn)(d:fn.body=some c)(e:fn.ntmps=n)(g:Nat.ble args.length n=true)
  (k:∀r R,GC none P c [] (IC P en fn F R Y Z r) (Hd n [] (D4 0 args) F [H,R]) m r):bE P en f args.toArray F H m Y Z:=by
 intro r a w R i;refine qAR b d<|qAj.1<|k r R a _ w ⟨?_,i.mono λm a=>QT (λ_ h=>Jx h) a⟩;rw[e];exact WC g
theorem EK(d:fn.results=rs.toArray)(h:S5 P S F' [Y x F',R] rs vs)(le:F<=F'):some (Out.ok x)=some r->∀a w,Hd n [] S F' [Y x F',R] a w->IC P en fn F R Y Z r .ret a w:=by
 intro e a w b;simp only[UV] at e
 subst e;exact⟨b.1.2.1,_,Jn d b h,F',le,⟨_,rfl⟩,b.2.pe (i:=0) (j:=0) rfl rfl⟩
theorem yY{q:ε}(le:F<=F'):some (Out.pan q)=some r->∀a w,Hd n [] S F' [Z q F',R] a w->IC P en fn F R Y Z r (.panic<|TH en q) a w:=by
 intro e a w b;simp only[UV] at e
 subst e;exact⟨b.1.2.1,F',le,rfl,b.2.pe (i:=0) (j:=0) rfl rfl⟩
theorem Qu.pan{I:σ->Act->By->Prop}{Dn:γ->s6->Act->By->Prop}{b:γ}{d:UN σ γ}{c:Q0 PanicEntry}(h:∀a w,A a w->Dn b (.panic c) a w):some (UN.done b)=some d->∀a w,A a w->Qu I Dn d (.panic c) a w:=λe a w g=>by
 simp only[UV] at e;subst e;exact⟨by simp,h a w g⟩
end
end
theorem G9.string{H:Type}{enc:S2×K2->H}{P:B2}{W:By}{t:S2}(b:P.underlying t=some .string):G9 enc P W t (Ex Af) (λm=>m.length<=maxLen):=by
 intro c held a cs x h;obtain⟨s,rfl,_,hs⟩:=DataW.trod_string b h;refine⟨s.data.toList,(by show s.data.toList.length<=maxLen;rw[o0];exact hs),λ_ _=> ?_⟩;show[Value.string s]=[.string ⟨s.data.toList.toArray⟩];rw[Array.toArray_toList]
section
open Go.ChangeShapes Go.WideShapes Go.ChangeAt Go.RowKit
section
variable{H:Type}{enc:S2×K2->H}
theorem xn{Z:Nat}{d:DataW H}{ps:Q0 MemPlace}(z:P.underlying t=some (.slice e))(he:P.underlying e=some .string)(N:P.cellsOf e=1)
  (hk:Value.okWide P W .any Z t v) (Q:DataW.Trod enc P W 0 (λ_=>true) true t v d ps) (D:(d.weights P t).all (·<=reachBytes)=true):∃m p k,(∀x∈m,x.length<=140737488351232)/\v= .slice p m.length k/\QI 1 (Ex Af) (FW W) p k m:=by
 obtain⟨m,p,k,_,A,R⟩:=zQ z (G9.slice z N ig<|G9.string he) hk Q;refine⟨m,p,k,λx hx=> ?_,A,R⟩;obtain⟨S,V⟩:=Q;obtain⟨i,hi,rfl⟩:=lz hx;have E:v.cells.toList=[v]:=by rw[A];rfl
 rw[E] at V
 rcases open_strings z he N V with⟨c,_⟩ | ⟨a,len,cap,B,c,_,hl,_,hz,n,f,_⟩
 .rw[A] at c
  simp only[oA,Value.slice.injEq,and_true] at c
  omega
 .rw[A] at c
  simp only[oA,Value.slice.injEq,and_true] at c
  obtain⟨hp,X,_⟩:=c;have r:i < B.length:=by split at hz<;>omega
  rcases R.2.2 with h0 | ⟨b,o,cs,T,fr,g,u,F⟩
  .rw[h0] at hi;simp at hi
  .rw[hp] at g
   simp only[UV] at g
   subst g;have G:=F i m[i] (B3 hi) _<|Fz.le_refl _;have G:(cs.toList.drop<|o+i*1).take 1=[.string<|bs m[i]]:=G;have Y:=f i r;rw[addr_add] at Y
   obtain⟨_,cs',T',aF,j,I⟩:=jo Y;have K:W.heap[b]? =some (.cells cs T fr):=u;rw[K] at j
   simp only[UV,Obj.cells.injEq] at j
   obtain⟨rfl,_⟩:=j
   have C:cs.toList[o+i]? =some (.string<|bs m[i]):=by
    have:=congrArg List.head? G;rw[qAS,List.head?_take] at this
    simpa[qA9] using this
   rw[Array.getElem?_toList,I] at C
   simp only[UV,Value.string.injEq] at C
   have L:(B.getD i ByteArray.empty)=B[i]:=by simp[r]
   rw[L] at C
   simp only[T2] at n
   rw[n.1] at D
   simp only[DataW.weights,z,ld,oG,BY] at D
   have w:=D.2.1
   have y:∀(l:Q0 ByteArray),(DataW.weightsAll P e<|strs (H:=H) l).all (·<=reachBytes)=true->∀s∈l,s.data.toList.length<=reachBytes:=by
    intro l
    induction l with
    | nil=>intro _ s hs;cases hs
    | cons s l ih=>
     intro h q w;simp only[strs,Of,DataW.weightsAll,DataW.weights,r7,lQ,ld,BY,TO] at h
     rcases A4.1 w with rfl | w
     .exact h.1
     .exact ih h.2 q w
   have M:=y _ w B[i] (by rw[List.mem_take_iff_getElem];exact⟨i,by omega,rfl⟩);rw[C] at M
   have h5:(bs m[i]).data.toList=m[i]:=rfl;rw[h5] at M
   exact M
theorem Bv{a:Q0 S2}{d:DataW H}{ds:Q0 (DataW H)}{p:Nat->Bool}(h:(DataW.weightsEach P (t::a)<|d::ds).all p=true):(d.weights P t).all p=true:=by
 rw[DataW.weightsEach,oG,BY] at h
 exact h.1
theorem Bu{a:Q0 S2}{d:DataW H}{ds:Q0 (DataW H)}{p:Nat->Bool}(h:(DataW.weightsEach P (t::a)<|d::ds).all p=true):(DataW.weightsEach P a ds).all p=true:=by
 rw[DataW.weightsEach,oG,BY] at h
 exact h.2
theorem kP{C:Checked}{os:Os}{f:Nm}{s:ChangeSpec}{conds:Q0 PathCond}{apart fresh handsOn again:Bool}{X:By->Prop}
  (p:∀(w w' :By),w.heap=w'.heap->X w->X w') (own:ownKnob C.prog.godebug=none) (started:os.Started) (b:C.prog.inits.idxOf? f=none) (h:C.prog.funcs[f]? =some fn)
  (witness:∃(w:By) (tape:Tape) (i:Input),w.os=os/\(w.forCall tape i).Shaped C.prog/\i.vars=[]/\Input.okWide C.prog (w.forCall tape i) .any w.heap.size f i/\
   ((s.pre enc C.prog fn conds apart (w.forCall tape i).memory i.args/\X (w.forCall tape i).memory)/\sizedMet enc C.prog fn (OpenSpec.ofChange s) apart (w.forCall tape i).memory i.args)/\({}:Assume).holds C.prog (lone (Frame.enter C.prog f i.args .normal) []<|w.forCall tape i))
  (a:∀(W:By) (base:Nat) (args:C3 K2) (ds k:Q0 (DataW H)) (before:Q0 MemPlace),(∀(j:Nat) t v,fn.params[j]? =some t->args[j]? =some v->Value.okWide C.prog W .any base t v)->
   DataW.Whole enc C.prog fn.params.toList s.vars apart W args.toList ds k before->W.ShapedOpen C.prog->X W->sizedMet enc C.prog fn (OpenSpec.ofChange s) apart W args->
   Calls C.prog f args W λe o=>∃v,e= .returned v/\s.post enc C.prog fn apart fresh handsOn again W args v o):ReturnsInHanded {} C os f .any (λw args=>(s.pre enc C.prog fn conds apart w args/\X w)/\sizedMet enc C.prog fn (OpenSpec.ofChange s) apart w args) (s.post enc C.prog fn apart fresh handsOn again):=by
 refine returnsInHanded_of_calls own started b witness ?_;intro w tape i _ l _ m c _;obtain⟨_,_,_,n,d,_,_,_,_,g⟩:=m;have e:n=fn:=Tc<|d.symm.trans h;subst e;obtain⟨⟨⟨ds,k,before,q,y⟩,r⟩,u⟩:=c;refine(a (w.forCall tape i) w.heap.size i.args ds k before g (DataW.Whole.of_heap (w' :=w.forCall tape i) ij q) l (p _ _ ij r)<|u.of_heap ij).mono λe o ⟨v,he,x⟩=> ?_;subst he;exact ChangeSpec.post_blind x
theorem LX{f:Nm}{s:ChangeSpec}{y:S2}{fresh:Bool}(C:laidOutB P=true)(b:(fn.params.toList.all λt=>P.readableRec t&&decide (t < P.types.size))=true)
  (a:s.vars=[]) (l:(OpenSpec.ofChange s).bare.plain.varTypes P=[]) (m:fn.resultTypes=#[y]) (n:P.underlying y=some .bool)
  (c:∀ds:Q0 (DataW H),ds.length=fn.params.toList.length->s.fn H ds={results:=[.lit<|.bool true],args:=ds})
  (base:Nat) (args:C3 K2) (ds D:Q0 (DataW H)) (before:Q0 MemPlace)
  (d:∀(ps:Q0 MemPlace),(∀(j:Nat) t v,fn.params[j]? =some t->args[j]? =some v->Value.okWide P W .any base t v)->
   DataW.TrodAll enc P W 0 (λ_=>true) true fn.params.toList args.toList ds ps->(DataW.weightsEach P fn.params.toList ds).all (·<=reachBytes)=true->KO P f args (FW W) (some true) (λr _ v=>v= .bool r))
  (i:∀(j:Nat) t v,fn.params[j]? =some t->args[j]? =some v->Value.okWide P W .any base t v)
  (o:DataW.Whole enc P fn.params.toList s.vars false W args.toList ds D before) (E:sizedMet enc P fn (OpenSpec.ofChange s) false W args):Calls P f args W λe z=>∃v,e= .returned v/\s.post enc P fn false fresh false false W args v z:=by
 have hs:=E.weights o;have k:=o;obtain⟨p,q,u,A,rfl,F,K⟩:=o;rw[a] at A
 obtain⟨rfl,rfl⟩:=trodVars_none A;rw[l,mo,mo] at hs
 refine(d p i u hs true rfl W AX<|SH.start W).mono λe z ⟨L,v,le,he,G,hs⟩=>⟨v,he,?_⟩;subst G;have B:=wL le hs;have w:∀x∈p,x.block < W.heap.size:=λx I=>k.lt x<|by simp[I]
 have g:s.fn H (ds++[])={results:=[.lit<|.bool true],args:=ds}:=by
  rw[mo];exact c ds<|Rf u
 refine⟨ds,[],p++[],[],p,[],k,?_,?_,?_,B.frame _,λh=>by cases h⟩
 .rw[g,m];exact trodAll_mk1<|shut_bool n true
 .rw[g];exact Aj C B b u w
 .rw[g,a];rfl
end
end
abbrev fM:BinOp->lO->Int->Int->Q2 K2
 | .add,k,a,b=>some (.int k<|k.wrap<|a+b)
 | .sub,k,a,b=>some (.int k<|k.wrap<|a - b)
 | .mul,k,a,b=>some (.int k<|k.wrap<|a*b)
 | .eql,_,a,b=>some (.bool<|a==b)
 | .neq,_,a,b=>some (.bool<|a != b)
 | .lss,_,a,b=>some (.bool<|decide<|a < b)
 | .leq,_,a,b=>some (.bool<|decide<|a<=b)
 | .gtr,_,a,b=>some (.bool<|decide<|a > b)
 | .geq,_,a,b=>some (.bool<|decide<|a≥b)
 | _,_,_,_=>none
abbrev vr(S:Q0 (Nat×K2)):Op->(K2->Prop)->Prop
 | .move x,K=>match QS S x with | some v=>K v | none=>False
 | .assign x,K=>match QS S x with | some v=>K v | none=>False
 | .extract x i,K=>match QS S x with
  | some (.tuple vs)=>match vs[i]? with | some v=>K v | none=>False
  | _=>False
 | .nilCheck x,K=>match QS S x with
  | some (.pointer<|some p)=>K (.pointer<|some p)
  | _=>False
 | .unOp .not _ x,K=>match QS S x with
  | some (.bool b)=>K (.bool<|!b)
  | _=>False
 | .binOp o _ x y _,K=>match QS S x,QS S y with
  | some (.int k a),some (.int c b)=>match decEq c k,fM o k a b with
   | .isTrue _,some v=>K v
   | _,_=>False
  | _,_=>False
 | _,_=>False
abbrev run(n:Nat):Nat->Pt->Q0 (Nat×K2)->(Pt->Q0 (Nat×K2)->Prop)->Prop
 | 0,p,S,K=>K p S
 | k+1,.L eX l ks,S,K=>match l with
  | []=>run n k (.E ks) S K
  | ⟨some d,op,_,_,_,none⟩::l=>match Nat.blt d n with
   | true=>vr S op λv=>run n k (.L eX l ks) ((d,v)::S) K
   | false=>False
  | _=>False
 | k+1,.C c ks,S,K=>match c with
  | .seq x y=>run n k (.C x<|.code y::ks) S K
  | .block id c=>run n k (.C c<|.block id::ks) S K
  | .region _ a false=>run n k (.L a a.toList ks) S K
  | .skip=>run n k (.E ks) S K
  | _=>False
 | k+1,.E ks,S,K=>match ks with
  | .code c::ks=>run n k (.C c ks) S K
  | .block _::ks=>run n k (.E ks) S K
  | []=>False
section
variable{l:Q0 L0}{m:Q2 β}
variable{n:Nat}
theorem xU{d:Nat}{o:BinOp}{x y:OF}{k:lO}{a b:Int}{A:Act}{w:By}(e:Sl n D S A)(f:QS S x=some (.int k a))(g:QS S y=some (.int k b))(c:fM o k a b=some v):(execOp A.eval ⟨some d,.binOp o t x y t',ty,pos,after,none⟩).run P w= .ok (.value v) w:=by
 unfold fM at c
 split at c
 all_goals first | (cases c;done) | (simp only[UV] at c;subst c;simp[execOp,e.eval f,e.eval g,eqGuard,binOp,Op.intArith,Op.intCmp])
theorem Ir{op:Op}{K:K2->Prop}(h:vr S op K):∃v,K v/\Ht op=true/\∀(d:Nat) (ty:S2) (pos:String) (after:C3 oX) (A:Act) (w:By),Hd n D S F hs A w->(execOp A.eval ⟨some d,op,ty,pos,after,none⟩).run P w= .ok (.value v) w:=by
 unfold vr at h
 split at h
 .split at h
  .rename_i e;exact⟨_,h,rfl,λ_ _ _ _ A w a=>by simp[execOp,a.1.eval e]⟩
  .exact h.elim
 .split at h
  .rename_i e;exact⟨_,h,rfl,λ_ _ _ _ A w a=>by simp[execOp,a.1.eval e]⟩
  .exact h.elim
 .split at h
  .rename_i e;split at h
   .rename_i b;exact⟨_,h,rfl,λ_ _ _ _ A w a=>by simp[execOp,a.1.eval e,Instr.extract,b]⟩
   .exact h.elim
  .exact h.elim
 .split at h
  .rename_i e;exact⟨_,h,rfl,λ_ _ _ _ A w a=>by simp[execOp,a.1.eval e]⟩
  .exact h.elim
 .split at h
  .rename_i e;exact⟨_,h,rfl,λ_ _ _ _ A w a=>by simp[execOp,a.1.eval e,Op.unary]⟩
  .exact h.elim
 .split at h
  .rename_i e b;split at h
   .rename_i c q _ f;subst c;exact⟨_,h,rfl,λ_ _ _ _ A w a=>xU a.1 e b f⟩
   .exact h.elim
  .exact h.elim
 .exact h.elim
theorem vl:∀{l:Q0 L0} {a:Act} {w:By},wpS P eX w (λa=>Q .normal a w) l a->Xp none P eX Q l a w
 | [],_,_,h=>h
 | o::l,a,w,h=>by
  unfold wpS at h
  unfold Xp;split
  .rename_i b;rw[DO b] at h
   obtain⟨v,c,d⟩:=h;refine⟨.inl rfl,?_⟩;rw[c];exact vl d
  .rename_i b;rw[Do b] at h
   exact vl h
theorem X8:∀(k:Nat) (p:Pt) (S:Q0 (Nat×K2)),run n k p S (λp S=>GG ⟨μ,P,Q,p⟩ (Hd n D S F hs) m r)->GG ⟨μ,P,Q,p⟩ (Hd n D S F hs) m r
 | 0,_,_,h=>h
 | k+1,.L eX l ks,S,h=>by
  unfold run at h
  split at h
  .have h:=X8 k (.E ks) S h;cases μ<;>exact h
  .split at h
   .rename_i e;obtain⟨v,g,i,he⟩:=Ir h;exact GG.val e (he _ _ _ _) (X8 k (.L eX _ ks) _ g) i
   .exact h.elim
  .exact h.elim
 | k+1,.C c ks,S,h=>by
  unfold run at h
  split at h
  .exact λb a w d=>wpIn_seq<|X8 k (.C _ _) S h b a w d
  .exact λb a w d=>wpIn_block<|X8 k (.C _ _) S h b a w d
  .rename_i a;obtain⟨l⟩:=a;have h:=X8 k (.L _ _ ks) S h;cases μ with
   | s=>exact λb a w d=>wpIn_region_lit (vl<|h b a w d).wpIn
   | f=>exact GG.region h
  .exact λb a w d=>wpIn_skip<|X8 k (.E ks) S h b a w d
  .exact h.elim
 | k+1,.E ks,S,h=>by
  unfold run at h
  split at h
  .exact X8 k (.C _ _) S h
  .exact λb a w d=>X8 k (.E _) S h b a w d
  .exact h.elim
theorem GG.w{p:Pt}(k:Nat)(h:run n k p S λp S=>GG ⟨μ,P,Q,p⟩ (Hd n D S F hs) m r):GG ⟨μ,P,Q,p⟩ (Hd n D S F hs) m r:=X8 k p S h
theorem GG.s1{p:Pt}(h:run n 1 p S λp S=>GG ⟨μ,P,Q,p⟩ (Hd n D S F hs) m r):GG ⟨μ,P,Q,p⟩ (Hd n D S F hs) m r:=X8 1 p S h
end
abbrev GG.n:= @GG.s1
abbrev GG.c:= @GG.s1
abbrev GG.q:= @GG.s1
abbrev GG.g:= @GG.s1
abbrev GG.k:= @GG.s1
abbrev GG.block:= @GG.s1
abbrev GG.nil:= @GG.s1
section
variable{n:Nat}{Si:Q0 (Nat×K2)}
variable{l:Q0 L0}{X:Env->Q0 XE}{k:Nat}{o:L0}{os:Q0 L0}
theorem Gu.B(h:∀{L:Nat->Bool} {env:Env} {a:Fz} {_:F<=a},GL O P eX [o] [] (FK n D l X C L env a k o.dst<|DI l k S0 (X env) 0) (Hd n D (DI l k S0 (X env) 0) a<|C L env) (some ()) ())(t:Gu O P eX l n D S0 F X C (k+1) os):Gu O P eX l n D S0 F X C k (o::os):=Gu.b (λL env a le=> @h L env a le) t
theorem GG.fv{d:Nat}{a:Fz}{env:Env}{i:Nat}{x:β}(h:((X env)[i]?,C (Kh L i) env)=(some (v,λ_=>True),C L env)):GL O P eX [] [] (FK n D l X C L env a i (some d) Si) (Hd n D ((d,v)::Si) a<|C L env) (some x) x:=by
 simp only[T2] at h
 exact GG.sU h.1 h.2<|Fz.le_refl _
abbrev gJ(n:Nat)(l:Q0 L0)(S0:Q0 (Nat×K2))(X:Env->Q0 XE)(C:(Nat->Bool)->Env->Q0 HP)(L:Nat->Bool)(env:Env):Nat->Q0 L0->Nat->Prop
 | _,_,0=>(0:Nat)=0
 | k,os,c+1=>match os with
  | ⟨some d,op,_,_,_,none⟩::os=>match Nat.blt d n with
   | true=>vr (DI l k S0 (X env) 0) op (λv=>((X env)[k]?,C (Kh L k) env)=(some (v,λ_=>True),C L env))/\gJ n l S0 X C L env (k+1) os c
   | false=>False
  | _=>False
def xg:Env:=⟨λ_=>none,λ_=>0,λ_=>[],λ_=>{mem:=λ_=>none,os:=default,tape:=λ_ _=>0,out:=#[]},λ_=>none⟩
theorem Gu.V:∀(c:Nat) {k:Nat} {os:Q0 L0},(∀L env,gJ n l S0 X C L env k os c)->Gu O P eX l n D S0 F X C (k+c) (os.drop c)->Gu O P eX l n D S0 F X C k os
 | 0,_,_,_,t=>t
 | c+1,k,os,h,t=>by
  have a:=h λ_=>false
  match os with
  | []=>exact absurd (a xg) (by unfold gJ;exact id)
  | ⟨none,_,_,_,_,_⟩::os=>exact absurd (a xg) (by unfold gJ;exact id)
  | ⟨some d,_,_,_,_,some _⟩::os=>exact absurd (a xg) (by unfold gJ;exact id)
  | ⟨some d,op,ty,pos,after,none⟩::os=>
   have e:Nat.blt d n=true:=by
    cases e:Nat.blt d n with
    | true=>rfl
    | false=>have:=a xg;unfold gJ at this;simp only[e] at this
   have h' :∀L env,vr (DI l k S0 (X env) 0) op (λv=>((X env)[k]?,C (Kh L k) env)=(some (v,λ_=>True),C L env))/\gJ n l S0 X C L env (k+1) os c:=λL env=>by
    have:=h L env;unfold gJ at this
    simpa only[e] using this
   refine Gu.b (λL env f _=> ?_) (Gu.V c (λL env=>(h' L env).2) (by rw[show k+1+c=k+(c+1) by omega];exact t));obtain⟨v,g,i,he⟩:=Ir (n:=n) (D:=D) (F:=f) (hs:=C L env) (P:=P) (h' L env).1;exact GG.val e (he _ _ _ _) (GG.fv g) i
end
section
variable{b:Bool}
def kJ(n:Nat)(eX:C3 L0)(c:Bool)(a:Q0 (Nat×K2)):Q0 L0->Q0 (Nat×K2)->Q2 (Q0 K2×Nat×K2)
 | [],_=>none
 | ⟨some d,_,_,_,_,some (j,w)⟩::l,S=>match(eX[j]?).bind (·.dst) with
  | none=>none
  | some t=>match JC S t,Nat.blt d n&&(w== !c)&&(JC a d).isNone with
   | some g,true=>(kJ n eX c a l<|(d,undef)::S).map λr=>(g::r.1,r.2)
   | _,_=>none
 | [⟨some d,.pick e f h,_,_,_,none⟩],S=>match QS S e,QS S<|if c then f else h,Nat.blt d n&&(JC a d).isNone with
  | some z,some v,true=>some ([z],d,v)
  | _,_,_=>none
 | _,_=>none
section
variable{l:Q0 L0}{m:Q2 β}
variable{n:Nat}
theorem jL{d:Nat}(h:Sub S0 S)(a:(JC S0 d).isNone=true):Sub S0 ((d,v)::S):=λi u e=>by
 have hi:i≠d:=by rintro rfl;rw[e] at a;cases a
 have:=h i u e;have c:Nat.beq d i=false:=Bool.eq_false_iff.2 λe=>hi (yb e).symm;simp only[JC,c];exact this
theorem NS{c:Bool}:∀(l:Q0 L0) (S:Q0 (Nat×K2)) {k:Q0 K2} {d:Nat} {v:K2},Sub S0 S->kJ n eX c S0 l S=some (k,d,v)->(∀g∈k,g= .bool c)->GL μ P eX l [] (Vy n D d v S0 F hs) (Hd n D S F hs) (some ()) ():=by
 intro l
 induction l with
 | nil=>intro S k d v _ h;cases h
 | cons o l G=>
  intro S k d v A h s;unfold kJ at h
  split at h
  .cases h
  .rename_i y op ty pos after j w H B e;simp only[oA] at e
   obtain⟨rfl,rfl⟩:=e;split at h
   .cases h
   .rename_i t I;split at h
    .rename_i g K a;simp only[BY,r6] at a
     obtain⟨⟨L,M⟩,N⟩:=a;obtain⟨q,R,he⟩:=lW.1 h;obtain⟨T,V,W⟩:=q;simp only[T2] at he
     obtain⟨rfl,rfl,rfl⟩:=he;have f:g= .bool c:=s g ic;subst f;refine GG.sF (b:=c) (by rw[M];cases c<;>rfl) L I K<|G _ (jL A N) R λx p=>s x<|by simp[p]
    .cases h
  .rename_i B H X y Y Z oy ty pos after e;simp only[oA] at e
   obtain⟨rfl,rfl⟩:=e;split at h
   .rename_i z u C p a;simp only[BY] at a
    simp only[UV,T2] at h
    obtain⟨rfl,rfl,rfl⟩:=h;have f:z= .bool c:=s z ic;subst f;have i:GL μ P eX [] [] (Vy n D y u S0 F hs) (Hd n D ((y,u)::B) F hs) (some ()) ():=λ_ _ _ E=>OM ⟨rfl,F,Fz.le_refl _,E.1.sub (Sub.cons (by simp[JC])<|jL A a.2),E.2⟩;cases c with
    | true=>exact GG.cn rfl a.1 C p i
    | false=>exact GG.sD rfl a.1 C p i
   .cases h
  .cases h
theorem NZ{k:Nat}{c:Bool}(a:b=c):∀g∈List.replicate k (Value.bool b),g= .bool c:=λg d=>by rw[List.eq_of_mem_replicate d,a]
theorem GG.sX(k d:Nat)(a:kJ n eX false S (l.take k) S=some (List.replicate k<|.bool b,d,.bool false))
  (c:b=true->GL μ P eX (l.take k) [] (Vy n D d (.bool b') S F hs) (Hd n D S F hs) (some ()) ())
  (next:∀F',F<=F'->GL μ P eX (l.drop k) ks Q (Hd n D ((d,.bool<|b&&b')::S) F' hs) m r):GL μ P eX l ks Q (Hd n D S F hs) m r:=
 GG.nQ k d c (λe=>NS _ _ (Sub.refl S) a<|NZ e) next
theorem GG.rz(k d:Nat)(a:kJ n eX true S (l.take k) S=some (List.replicate k<|.bool b,d,.bool true))
  (c:b=false->GL μ P eX (l.take k) [] (Vy n D d (.bool b') S F hs) (Hd n D S F hs) (some ()) ())
  (next:∀F',F<=F'->GL μ P eX (l.drop k) ks Q (Hd n D ((d,.bool<|b||b')::S) F' hs) m r):GL μ P eX l ks Q (Hd n D S F hs) m r:=
 GG.mU k d c (λe=>NS _ _ (Sub.refl S) a<|NZ e) next
theorem GG.tA{a:Q2 Bool}{f:Bool->Q2 β}(k d:Nat)(c:kJ n eX false S (l.take k) S=some (List.replicate k<|.bool b,d,.bool false))
  (e:b=true->∀z,GL μ P eX (l.take k) [] (Vy n D d (.bool z) S F hs) (Hd n D S F hs) a z)
  (next:∀z F',F<=F'->GL μ P eX (l.drop k) ks Q (Hd n D ((d,.bool z)::S) F' hs) (f z) r):GL μ P eX l ks Q (Hd n D S F hs) ((if b then a else some false).bind f) r:=
 GG.andM k d e (λg=>NS _ _ (Sub.refl S) c<|NZ g) next
theorem GG.rP{a:Q2 Bool}{f:Bool->Q2 β}(k d:Nat)(c:kJ n eX true S (l.take k) S=some (List.replicate k<|.bool b,d,.bool true))
  (e:b=false->∀z,GL μ P eX (l.take k) [] (Vy n D d (.bool z) S F hs) (Hd n D S F hs) a z)
  (next:∀z F',F<=F'->GL μ P eX (l.drop k) ks Q (Hd n D ((d,.bool z)::S) F' hs) (f z) r):GL μ P eX l ks Q (Hd n D S F hs) ((if b then some true else a).bind f) r:=
 GG.orM k d e (λg=>NS _ _ (Sub.refl S) c<|NZ g) next
theorem GG.fi{d:Nat}{x:β}(le:F<=F')(h:(JC S' d,S'.drop<|S'.length - S.length,fresh S<|S'.take<|S'.length - S.length)=(some v,S,true):=by kernel_rfl):GL μ P eX [] [] (Vy n D d v S F hs) (Hd n D S' F' hs) (some x) x:=by
 simp only[T2] at h
 exact GG.fin _ h.1 h.2.1 h.2.2 le
end
theorem We{g:K2}{G:Fz->K2->Prop}(h:∀F,F0<=F->G F g):∀F v,F0<=F->v=g->G F v:=λF _ l e=>e▸h F l
theorem JI{E:α->Prop}{g:α->K2}{G:α->Fz->K2->Prop}(h:∀x F,E x->F0<=F->G x F (g x)):∀x F v,E x->F0<=F->v=g x->G x F v:=λx F _ e l q=>q▸h x F e l
end
end Go.Dec
end
