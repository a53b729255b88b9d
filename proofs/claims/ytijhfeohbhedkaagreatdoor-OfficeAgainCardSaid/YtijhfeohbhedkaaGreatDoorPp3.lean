/- For OfficeAgain. -/
import Derived.Test.YtijhfeohbhedkaaGreatDoorPp2
import Derived.Lib.LaidTab
import Derived.Shelf.Vars
import Derived.LaidMore
import Derived.Lay
import Derived.Handed
import Derived.SevenTiedAt
import Derived.Lib.UnsafeStr
import Derived.Lib.Builder
import Derived.Laws.Externs
noncomputable section
namespace Go.Dec
abbrev rk:=@beq_self_eq_true
abbrev lT:=@List.head?_drop
end Go.Dec
namespace Go.Dec
section
open Go.ChangeShapes Go.WideShapes Go.ChangeAt Go.RowKit
theorem zM{P:PP}{w:TO}{n:String}{d:DataW Unit}:∀{l:UV (String×DataW Unit)} {ps:UV MemPlace} (j:Nat),l[j]? =some (n,d)->DataW.LaidVars P w l ps->
  ∃g t cs fuel p T fr,P.globalNamed n=some g/\(P.globals[g]?).map (·.type)=some t/\w.heap[g]? =some (.cells cs T fr)/\DataW.trod (λ_=>()) P w 0 (λ_=>true) false fuel t cs.toList=some (d,p)
 | [],_,_,h,_=>by simp at h
 | x::l,ps,0,h,hl=>by
  simp at h;subst h
  obtain⟨g,t,cs,fuel,p,q,hg,ht,hv,hd,_,_⟩:=hl;unfold World.var? at hv
  rw[hg] at hv
  simp only[DO] at hv
  split at hv
  ·rename_i cs' T fr hh;simp only[BY] at hv
   subst hv;exact⟨g,t,_,fuel,p,T,fr,hg,ht,hh,hd⟩
  ·cases hv
 | x::l,ps,j+1,h,hl=>by
  obtain⟨g,t,cs,fuel,p,q,hg,ht,hv,hd,hr,_⟩:=hl;exact zM j (by simpa using h) hr
theorem NM{w:TO}{g:Nat}{m:Int}{k:pg}{P:PP}{t:IF}{zero:OF Do}(h:w.ShapedOpen P)(hg:g < P.globals.size)(h0:((begin P (λ_ _=>0) default).world.heap[g]?).bind Obj.row? =some (zero,t))(hz:zero.size=1)
  (hc:w.cell? ⟨g,0,none⟩=some (.int k m)):∃T fr,w.heap[g]? =some (.cells #[.int k m] T fr):=by
 obtain⟨cs,hh,hs,_⟩:=h.1 g zero t hg h0
 have h1:cs=#[.int k m]:=by
  rw[hz] at hs
  have h2:cs[0]? =some (.int k m):=by simpa[World.cell?,hh] using hc
  apply Array.ext
  ·rw[hs];rfl
  ·intro i h1 h3;have hi:i=0:=by simp at h3;exact h3
   subst hi;rw[Array.getElem?_eq_getElem h1] at h2
   simpa using h2
 exact⟨t,_,by rw[hh,h1]⟩
end
section
open Classical
variable{S0 S:UV (Nat×Do)}
def yL(S:UV (Nat×Do)):UV (Nat×Do)->UV (H1 Do)
 | []=>[]
 | (k,_)::t=>K4 S k::yL S t
def jj:UV (Nat×Do)->UV (H1 Do)
 | []=>[]
 | (_,v)::t=>some v::jj t
theorem Sub.k:∀{T:UV (Nat×Do)},yL S T=jj T->Sub T S
 | [],_=>Sub.nil S
 | (k,v)::t,h=>by
  simp only[yL,jj,nU] at h
  exact Sub.cons h.1<|Sub.k h.2
def u5(S:UV (Nat×Do)):UV Nat->UV (Nat×Do)
 | []=>[]
 | k::t=>(k,(K4 S k).getD<|.bool false)::u5 S t
def we(S:UV (Nat×Do)):UV Nat->UV Bool
 | []=>[]
 | k::t=>(K4 S k).isSome::we S t
theorem Sub.p:∀(ks:UV Nat),(we S ks).all id=true->Sub (u5 S ks) S
 | [],_=>Sub.nil S
 | k::t,h=>by
  simp only[we,rL,id,T2] at h
  obtain⟨v,hv⟩:=Option.isSome_iff_exists.1 h.1;exact Sub.cons (by rw[hv];rfl)<|Sub.p t h.2
theorem xY{l:UV j9}{k:Nat}(h:zd l k=true):∀t o,k<=t->l[t]? =some o->∀j,j < t->∃s,Xd l s t j=true:=NW h
def FD(l:UV j9)(i:Nat)(S0:UV (Nat×Do)):UV Wb->Nat->UV (Nat×Do)
 | [],_=>S0
 | q::qs,j=>match Vi l j with
  | none=>FD l i S0 qs (j+1)
  | some d=>bif ((WZ [] l).getD i []).getD j false then(d,q.1)::FD l i S0 qs (j+1) else FD l i S0 qs (j+1)
theorem La{l:UV j9}{i:Nat}(h0:Sub S0 S){xs:UV Wb}{L:Nat->Bool}(hdn:∀k j,Xd l k i j=true->L j=true)
  (hV:∀(j d:Nat) (v:Do),L j=true->Vi l j=some d->(xs[j]?).map Prod.fst=some v->K4 S d=some v):∀(qs:UV Wb) (j:Nat),xs.drop j=qs->Sub (FD l i S0 qs j) S
 | [],_,_=>h0
 | q::qs,j,e=>by
  have e1:xs[j]? =some q:=by rw[<-lT,e];rfl
  have e2:xs.drop (j+1)=qs:=by rw[<-ng,e];rfl
  have ih:=La h0 hdn hV qs (j+1) e2;unfold FD;cases hd:Vi l j with
  | none=>exact ih
  | some d=>
   simp only;cases hb:((WZ [] l).getD i []).getD j false with
   | false=>exact ih
   | true=>
    have hM:PG l (WZ [] l):=BB (pre:=[]) rfl rfl λt m hm=>by simp at hm
    obtain⟨s,hs⟩:∃s,Xd l s i j=true:=by
     cases hm:(WZ [] l)[i]? with
     | none=>rw[pe (l:=WZ [] l),hm] at hb;simp at hb
     | some m=>rw[pe (l:=WZ [] l),hm] at hb;exact hM i m hm j hb
    exact Sub.cons (hV j d q.1 (hdn s j hs) hd (by rw[e1];rfl)) ih
section
variable{O:H1 Nat}{β:Type}{P:PP}{n:Nat}{D:UV If}{S0:UV (Nat×Do)}{F:Fz}
variable{ops:OF j9}{l:UV j9}{X:Env->UV Wb}{C:(Nat->Bool)->Env->UV HP}{k:Nat}{o:j9}{os:UV j9}
theorem uv.a(h:∀L env F',F<=F'->L k=false->(∀s j,Xd l s k j=true->L j=true)->(∀s j,Xd l s j k=true->L j=false)->(∀(j:Nat) (q:Wb),L j=true->(X env)[j]? =some q->∀G,F'<=G->q.2 G)->
  GL O P ops [o] [] (GQ n D l X C L env F' k o.dst<|FD l k S0 (X env) 0) (Hd n D (FD l k S0 (X env) 0) F'<|C L env) (some ()) ()):uv O P ops l n D S0 F X C k o:=
 λL env F' le hL hdn hup hphi=>⟨_,λ_ hS hV=>La hS hdn hV _ 0 rfl,h L env F' le hL hdn hup hphi⟩
theorem H2.a(h:∀L env F',F<=F'->L k=false->(∀s j,Xd l s k j=true->L j=true)->(∀s j,Xd l s j k=true->L j=false)->(∀(j:Nat) (q:Wb),L j=true->(X env)[j]? =some q->∀G,F'<=G->q.2 G)->
 GL O P ops [o] [] (GQ n D l X C L env F' k o.dst<|FD l k S0 (X env) 0) (Hd n D (FD l k S0 (X env) 0) F'<|C L env) (some ()) ()) (t:H2 O P ops l n D S0 F X C (k+1) os):H2 O P ops l n D S0 F X C k (o::os):=⟨uv.a h,t⟩
theorem H2.b(h:∀L env F',F<=F'->GL O P ops [o] [] (GQ n D l X C L env F' k o.dst<|FD l k S0 (X env) 0) (Hd n D (FD l k S0 (X env) 0) F'<|C L env) (some ()) ())(t:H2 O P ops l n D S0 F X C (k+1) os):H2 O P ops l n D S0 F X C k (o::os):=⟨uv.a λL env F' le _ _ _ _=>h L env F' le,t⟩
end
abbrev vP(b o:Nat):Do:=.pointer<|some ⟨b,o,none⟩
abbrev vI(x:Int):Do:=.int .i64 x
abbrev vS{α:Type}(p:H1 Of)(l:UV α)(k:Nat):Do:=.slice p l.length k
abbrev pc(b:Nat)(cs:UV Do)(T:IF):HP:=pt b<|.cells cs.toArray T
theorem J{α:Sort _}{a:α}:a=a:=rfl
abbrev vT(v:Do):Wb:=(v,λ_=>True)
abbrev ON:=H1 Nat
theorem Jb{n m:Nat}(h:Nat.ble n m=true):n<=m:=j3 h
def gu(n k:Nat)(l:UV j9)(S0:UV (Nat×Do)):Bool:=MF 0 l&&zd l k&&Nat.ble k l.length&&H7 n S0 (l.take k)
theorem GC.dG{O:H1 Nat}{β:Type}{P:PP}{ks:UV Kt}{Q:pU->Act->TO->Prop}{m:H1 β}{r:β}{n:Nat}{D:UV If}{F:Fz}{hs:UV HP}{id:Nat}{l:UV j9}(k g:Nat)(X:Env->UV Wb)(C:(Nat->Bool)->Env->UV HP)(hm:P.follows .mixedOrders=true)(hB:gu n k l S0=true)
  (hX:∀env,(X env).length=k) (hC:∀env,C (λ_=>false) env=hs++List.replicate g SI)
  (hops:H2 O P l.toArray l n D S0 F X C 0 (l.take k))
  (tail:∀env F',F<=F'->(∀(j:Nat) (q:Wb),(X env)[j]? =some q->q.2 F')->GL O P l.toArray (l.drop k) ks Q (Hd n D (EI (l.take k) (X env) S0) F'<|C (λj=>Nat.blt j k) env) m r):GC O P (.region id l.toArray true) ks Q (Hd n D S0 F hs) m r:=by
 simp only[gu,T2] at hB
 exact GC.tJ k g X C hm hB.1.1.1 (xY hB.1.1.2) hB.1.2 hX hB.2 hC hops tail
abbrev Cq.n:= @Cq.nil
abbrev GL.m:= @GL.move
abbrev GL.s:= @GL.assign
abbrev GL.f:= @GL.fieldAddr
abbrev GL.x:= @GL.extract
abbrev GL.l:= @GL.alloc
abbrev GL.o:= @GL.norm
abbrev GL.n:= @GL.nil
abbrev GL.d:= @GL.bind
abbrev GS.m:= @GS.move
abbrev GS.s:= @GS.assign
abbrev GS.f:= @GS.fieldAddr
abbrev GS.d:= @GS.bind
abbrev GC.g:= @GC.region
abbrev GC.q:= @GC.seq
abbrev GC.k:= @GC.block
abbrev GC.o:= @GC.norm
abbrev GC.i:= @GC.cond
abbrev GC.d:= @GC.bind
abbrev GE.c:= @GE.code
abbrev GE.k:= @GE.block
abbrev GE.o:= @GE.norm
abbrev GE.n:= @GE.nil
abbrev GE.d:= @GE.bind
theorem UP{α:Type}{j:Nat}(n:Nat)(f g:Nat->α)(h:(List.range n).map f=(List.range n).map g)(hj:j < n):f j=g j:=by
 have h1:=congrArg (λl=>l[j]?) h;simp only[pb,List.getElem?_range hj,dO,BY] at h1
 exact h1
end
section
variable{S:UV (Nat×Do)}{D:UV If}{Q:pU->Act->TO->Prop}{p:H1 Of}{P:PP}{K V β α ι:Type}{l:UV (K×V)}{hs:UV HP}{m:H1 β}{after:OF nA}{F F0 F':Fz}{ops:OF j9}{rv:Fz->V->Do->Prop}{n b d cap sz:Nat}{c:UR α}{X:Act->TO->Prop}{T ty t kt vt:IF}{rest:UV j9}{ks:UV Kt}{pos:String}{ox oy oz:x8}{r:β}{kd:pg}{ck:K->Do}{p':HP}{x:H1 α}{zv:Do}{key:K}
variable{O:H1 Nat}
def yf(Φ:ι->Prop)(l:ι->UV HP):HP:=λm=>∃q,Φ q/\Qh (l q) m
section
variable{β ι:Type}{X:Act->TO->Prop}{m:H1 β}{r:β}{n:Nat}{D:UV If}{S:UV (Nat×Do)}{F F0:Fz}{hs:UV HP}{Φ:ι->Prop}{l:ι->UV HP}
theorem GG.be(i:Nat)(hi:hs[i]? =some (yf Φ l))(k:∀q,Φ q->GG X (Hd n D S F<|l q++hs.eraseIdx i) m r):GG X (Hd n D S F hs) m r:=λhm a w ha=>by
 obtain⟨m1,⟨m2,m3,d,s1,s2,⟨q,hq,hl⟩,hr⟩,hk⟩:=ha.2.pull hi;exact k q hq hm a w ⟨ha.1,m1,Kx ⟨m2,m3,d,s1,s2,hl,hr⟩,hk⟩
theorem GG.sB(is:UV Nat)(q:ι)(hq:Φ q)(hp:JG is hs=l q)(k:GG X (Hd n D S F<|yf Φ l::JV is hs) m r):GG X (Hd n D S F hs) m r:=λhm a w ha=>
 k hm a w ⟨ha.1,ha.2.mono λ_ hm=>QQ (λ_ h=>⟨q,hq,hp▸h⟩)<|Vs (ks:=is) hm⟩
theorem Q9{p:HP}{l l' :UV HP}(h1:∀m,p m->p' m)(h2:∀m,Qh l m->Qh l' m):∀m,Qh (p::l) m->Qh (p' ::l') m:=λ_ h=>QQ h1<|QS h2 h
theorem GG.dq{l0:UV HP}(is:UV Nat)(q:ι)(hq:Φ q)(hp:JG is hs=l0)(hi:∀m,Qh l0 m->Qh (l q) m)(k:GG X (Hd n D S F<|yf Φ l::JV is hs) m r):GG X (Hd n D S F hs) m r:=λhm a w ha=>
 k hm a w ⟨ha.1,ha.2.mono λ_ hm=>QQ (λ_ h=>⟨q,hq,hi _<|hp▸h⟩)<|Vs (ks:=is) hm⟩
theorem GG.tN{p:HP}(i:Nat)(hp:∀m,p m->p' m)(hi:hs[i]? =some p)(k:GG X (Hd n D S F<|hs.set i p') m r):GG X (Hd n D S F hs) m r:=λhm a w ha=>
 k hm a w ⟨ha.1,SH.push hi<|(ha.2.pull hi).mono λ_ h=>QQ hp h⟩
theorem GG.ins{p:HP}(hp:∀m,p m)(k:GG X (Hd n D S F<|p::hs) m r):GG X (Hd n D S F hs) m r:=λhm a w ha=>
 k hm a w ⟨ha.1,ha.2.mono λm h=>⟨λ_=>none,m,λ_=>.inl rfl,λ_ _ e=>by simp at e,Mem.sub.refl _,hp _,h⟩⟩
end
def Iu(sz:Nat)(c:UR α)(F:Fz)(T:IF)(p:H1 Of)(cap:Nat)(l:UV α):HP:=λm=>Ql sz c F T p cap l m∨QG sz c F p cap l
section
variable{β α:Type}{X:Act->TO->Prop}{m:H1 β}{r:β}{n:Nat}{D:UV If}{S:UV (Nat×Do)}{F F0 F' :Fz}{hs:UV HP}{sz cap:Nat}{c:UR α}{T:IF}{p:H1 Of}{l:UV α}
theorem It{m:Mem}(le:F<=F')(h:Iu sz c F T p cap l m):Iu sz c F' T p cap l m:=h.imp (Vx le) λh=>h.mono le
theorem GG.bT(i:Nat)(hi:hs[i]? =some (Iu sz c F0 T p cap l))(le0:F0<=F)(k:∀F',F<=F'->QG sz c F' p cap l->GG X (Hd n D S F'<|hs.eraseIdx i) m r):GG X (Hd n D S F hs) m r:=λhm a w ha=>by
 obtain⟨m1,⟨m2,m3,d,s1,s2,hq,hr⟩,hk⟩:=ha.2.pull hi;rcases hq with hq | hq
 ·obtain⟨F',le,h1,h2⟩:=SH.fo le0 (w:=w) (H:=Qh<|hs.eraseIdx i) ⟨m1,⟨m2,m3,d,s1,s2,hq,hr⟩,hk⟩;exact k F' le h2 hm a w ⟨ha.1,h1⟩
 ·exact k F (Fz.le_refl F) (hq.mono le0) hm a w ⟨ha.1,m3,hr,hk.sub s2⟩
end
def Ua(T:IF)(c:UR α)(F:Fz)(p:H1 Of):H1 α->Prop
 | none=>p=none
 | some x=>∃b cs,p=some ⟨b,0,none⟩/\F.mem b=some (.cells (List.toArray cs) T)/\∀F',F<=F'->c F' x cs
section
variable{α:Type}{T:IF}{c:UR α}{F F' :Fz}{p:H1 Of}{x:H1 α}{a:α}
theorem Ua.mono(h:Ua T c F p x)(le:F<=F'):Ua T c F' p x:=by
 cases x with
 | none=>exact h
 | some x=>obtain⟨b,cs,h1,h2,h3⟩:=h;exact⟨b,cs,h1,le.mem _ _ h2,λG l=>h3 G<|Fz.le_trans le l⟩
theorem Ua.nil:Ua T c F none none:=rfl
theorem Ua.of{cs:UV Do}(h:F.mem b=some (.cells (List.toArray cs) T))(hc:∀F',F<=F'->c F' a cs):Ua T c F (some ⟨b,0,none⟩) (some a):=⟨b,cs,rfl,h,hc⟩
theorem Ua.at(h:Ua T c F p x)(e:x=some a):∃b cs,F.mem b=some (.cells (List.toArray cs) T)/\p=some ⟨b,0,none⟩/\c F a cs:=by
 subst e;obtain⟨b,cs,h1,h2,h3⟩:=h;exact⟨b,cs,h2,h1,h3 F<|Fz.le_refl F⟩
theorem Ua.isNone(h:Ua T c F p x):p.isNone=x.isNone:=by
 cases x with
 | none=>have:p=none:=h;rw[this];rfl
 | some x=>obtain⟨b,cs,h1,_⟩:=h;rw[h1];rfl
end
section
variable{β:Type}{P:PP}{ops:OF j9}{rest:UV j9}{ks:UV Kt}{Q:pU->Act->TO->Prop}{m:H1 β}{r:β}
variable{n:Nat}{D:UV If}{S:UV (Nat×Do)}{F F0:Fz}{hs:UV HP}
variable{d:Nat}{ty t:IF}{pos:String}{after:OF nA}{ox oy oz:x8}
theorem GL.aE{e t' :IF}(h:Ua T c F p x)(hd:Nat.blt d n=true)(ht:P.underlying t=some (.pointer e))(hx:QI S ox=some (.pointer p))(hy:QI S oy=some (.pointer none))(k:GL O P ops rest ks Q (Hd n D ((d,.bool x.isNone)::S) F hs) m r):GL O P ops (⟨some d,.binOp .eql t ox oy t',ty,pos,after,none⟩::rest) ks Q (Hd n D S F hs) m r:=
 GL.val hd (λa w ha=>by
  have hq:(Op.equal t (.pointer p)<|.pointer none).run P w= .ok p.isNone w:=Db ht 9999;have hg:P.eqGuardType P.depth t=false∨P.eqGuardType P.depth t=true:=by cases P.eqGuardType P.depth t<;>simp
  simp[execOp,ha.1.eval hx,ha.1.eval hy,eqGuard,binOp,hq,h.isNone]) k
theorem GL.sx{e t' :IF}(h:Ua T c F p x)(hd:Nat.blt d n=true)(ht:P.underlying t=some (.pointer e))(hx:QI S ox=some (.pointer p))(hy:QI S oy=some (.pointer none))(k:GL O P ops rest ks Q (Hd n D ((d,.bool<|!x.isNone)::S) F hs) m r):GL O P ops (⟨some d,.binOp .neq t ox oy t',ty,pos,after,none⟩::rest) ks Q (Hd n D S F hs) m r:=
 GL.val hd (λa w ha=>by
  have hq:(Op.equal t (.pointer p)<|.pointer none).run P w= .ok p.isNone w:=Db ht 9999;have hg:P.eqGuardType P.depth t=false∨P.eqGuardType P.depth t=true:=by cases P.eqGuardType P.depth t<;>simp
  simp[execOp,ha.1.eval hx,ha.1.eval hy,eqGuard,binOp,hq,h.isNone]) k
section
variable{K V:Type}{ck:K->Do}{rv:Fz->V->Do->Prop}
def WA(ck:K->Do)(rv:Fz->V->Do->Prop)(F:Fz)(p:H1 Nat)(l:UV (K×V)):Prop:=∃(b:Nat) (es:OF pY) (clock:Nat) (l' :UV (K×V)),p=some b/\l'.Perm l/\(l.map Prod.fst).Nodup/\F.mem b=some (.map es clock)/\UZ ck rv F es.toList l'/\YI es.toList clock
theorem WA.mono{p:H1 Nat}{l:UV (K×V)}(h:WA ck rv F p l)(le:F<=F'):WA ck rv F' p l:=let⟨b,es,c,l',e,h0,h00,h1,h2,h3⟩:=h;⟨b,es,c,l',e,h0,h00,le.mem _ _ h1,h2.up le,h3⟩
theorem GG.dL[BEq K]{l:UV (K×V)}(i:Nat)(hi:hs[i]? =some (QW ck rv F0 b l))(le:F0<=F)(k:∀F',F<=F'->WA ck rv F' (some b) l->GG X (Hd n D S F'<|hs.eraseIdx i) m r):GG X (Hd n D S F hs) m r:=λhm a w ha=>by
 obtain⟨es,c,l',h0,h00,_,h2,h3,h5⟩:=WD<|ha.2.pull hi;obtain⟨l1,h4⟩:=h3.freeze;exact k _ l1 ⟨b,es,c,l',rfl,h0,h00,Fz.fx F b _,(h2.up le).up l1,h5⟩ hm a w ⟨ha.1,h4⟩
theorem GL.dL[BEq K]{l:UV (K×V)}(i:Nat)(hi:hs[i]? =some (QW ck rv F0 b l))(le:F0<=F)(k:∀F',F<=F'->WA ck rv F' (some b) l->GL O P ops rest ks Q (Hd n D S F'<|hs.eraseIdx i) m r):GL O P ops rest ks Q (Hd n D S F hs) m r:=GG.dL i hi le k
variable{b:Nat}{l:UV (K×V)}{key:K}{z:V}{kt vt:IF}{zv:Do}
variable[BEq K][LawfulBEq K]
theorem GL.dR(i:Nat)(hi:hs[i]? =some (QW ck rv F0 b l))(le0:F0<=F)(hd:Nat.blt d n=true)(ht:P.underlying t=some (.map kt vt))(ok:XI P kt ck)(hzv:∀w,(zeroValue vt).run P w= .ok zv w)(hz:rv F z zv)(hx:QI S ox=some (.map<|some b))(hy:QI S oy=some (ck key))
  (k:∀v,rv F ((Qb l key).getD z) v->GL O P ops rest ks Q (Hd n D ((d,v)::S) F hs) m r):GL O P ops (⟨some d,.lookup t ox oy false,ty,pos,after,none⟩::rest) ks Q (Hd n D S F hs) m r:=by
 refine GL.step rfl (.inr rfl) λhm a w ha=> ?_;obtain⟨es,c,l',hpm,hn,hb',hr,_⟩:=WD<|ha.2.pull hi;obtain⟨v,hv,hrun⟩:=HR (key:=key) hb' hr le0 ht ok hzv hz false;rw[UA hpm hn] at hv
 refine⟨v,w,?_,k v hv hm _ _ ⟨ha.1.put hd _,ha.2⟩⟩;simp[execOp,ha.1.eval hx,ha.1.eval hy,hrun]
theorem GL.cZ(i:Nat)(hi:hs[i]? =some (QW ck rv F0 b l))(le0:F0<=F)(hd:Nat.blt d n=true)(ht:P.underlying t=some (.map kt vt))(ok:XI P kt ck)(hzv:∀w,(zeroValue vt).run P w= .ok zv w)(hz:rv F z zv)(hx:QI S ox=some (.map<|some b))(hy:QI S oy=some (ck key))
  (k:∀v,rv F ((Qb l key).getD z) v->GL O P ops rest ks Q (Hd n D ((d,.tuple #[v,.bool (Qb l key).isSome])::S) F hs) m r):GL O P ops (⟨some d,.lookup t ox oy true,ty,pos,after,none⟩::rest) ks Q (Hd n D S F hs) m r:=by
 refine GL.step rfl (.inr rfl) λhm a w ha=> ?_;obtain⟨es,c,l',hpm,hn,hb',hr,_⟩:=WD<|ha.2.pull hi;obtain⟨v,hv,hrun⟩:=HR (key:=key) hb' hr le0 ht ok hzv hz true;rw[UA hpm hn] at hv hrun
 refine⟨_,w,?_,k v hv hm _ _ ⟨ha.1.put hd _,ha.2⟩⟩;simp[execOp,ha.1.eval hx,ha.1.eval hy,hrun]
end
theorem GL.ca[BEq K][LawfulBEq K](h:Gf ck rv F b l)(hd:Nat.blt d n=true)(ht:P.underlying t=some (.map kt vt))(ok:XI P kt ck)(hzv:∀w,(zeroValue vt).run P w= .ok zv w)(hx:QI S ox=some (.map<|some b))(hy:QI S oy=some (ck key))
  (k1:Qb l key=none->GL O P ops rest ks Q (Hd n D ((d,.tuple #[zv,.bool false])::S) F hs) m r)
  (k2:∀x v,Qb l key=some x->rv F x v->GL O P ops rest ks Q (Hd n D ((d,.tuple #[v,.bool true])::S) F hs) m r):GL O P ops (⟨some d,.lookup t ox oy true,ty,pos,after,none⟩::rest) ks Q (Hd n D S F hs) m r:=by
 refine GL.step rfl (.inr rfl) λhm a w ha=> ?_;obtain⟨es,c,l',hpm,hn,hb,hr⟩:=h;obtain⟨kd,hu,hsame⟩:=ok.und;have hb' :=ha.2.frozen hb;have he:=UA (k:=key) hpm hn;rcases hr.find (k:=key) hsame ok.eq 0 with⟨g1,g2,_⟩ | ⟨j,e1,x1,g1,g2,g3,g4,g5,_⟩
 ·have hf:=run_findKey (w:=w) hu g2;refine⟨.tuple #[zv,.bool false],w,?_,k1 (by rw[<-he];exact g1) hm _ _ ⟨ha.1.put hd _,ha.2⟩⟩;simp[execOp,Instr.lookup,ha.1.eval hx,ha.1.eval hy,Ji ht,YJ hb',ok.check,hf,hzv]
 ·have hf:=run_findKey (w:=w) hu g4;refine⟨.tuple #[e1.val,.bool true],w,?_,k2 x1 e1.val (by rw[<-he];exact g3) (g5 F<|Fz.le_refl F) hm _ _ ⟨ha.1.put hd _,ha.2⟩⟩;simp[execOp,Instr.lookup,ha.1.eval hx,ha.1.eval hy,Ji ht,YJ hb',ok.check,hf]
end
section
variable{β:Type}{P:PP}{ops:OF j9}{rest:UV j9}{E:Act->TO->Prop}{m:H1 β}{r:β}
variable{n:Nat}{D:UV If}{S:UV (Nat×Do)}{F F0:Fz}{hs:UV HP}
variable{d:Nat}{ty t:IF}{pos:String}{after:OF nA}{ox oy oz:x8}
section
variable{K V:Type}{ck:K->Do}{rv:Fz->V->Do->Prop}{b:Nat}{l:UV (K×V)}{key:K}{z:V}{kt vt:IF}{zv:Do}
variable[BEq K][LawfulBEq K]
theorem GS.dR(i:Nat)(hi:hs[i]? =some (QW ck rv F0 b l))(le0:F0<=F)(hd:Nat.blt d n=true)(ht:P.underlying t=some (.map kt vt))(ok:XI P kt ck)(hzv:∀w,(zeroValue vt).run P w= .ok zv w)(hz:rv F z zv)(hx:QI S ox=some (.map<|some b))(hy:QI S oy=some (ck key))
  (k:∀v,rv F ((Qb l key).getD z) v->GS P ops rest E (Hd n D ((d,v)::S) F hs) m r):GS P ops (⟨some d,.lookup t ox oy false,ty,pos,after,none⟩::rest) E (Hd n D S F hs) m r:=by
 refine GS.step rfl λhm a w ha=> ?_;obtain⟨es,c,l',hpm,hn,hb',hr,_⟩:=WD<|ha.2.pull hi;obtain⟨v,hv,hrun⟩:=HR (key:=key) hb' hr le0 ht ok hzv hz false;rw[UA hpm hn] at hv
 refine⟨v,?_,k v hv hm _ _ ⟨ha.1.put hd _,ha.2⟩⟩;simp[execOp,ha.1.eval hx,ha.1.eval hy,hrun]
end
end
section
variable{P:PP}{w:TO}{t e sz:Nat}{kd kd' kd'' :pg}{x y:Int}{p:H1 Of}{len cap:Nat}
theorem Po(ht:P.underlying t=some (.slice e))(hz:∀w,(sizeOf e).run P w= .ok sz w)(h:0<=x/\x<=y)(h' :y<=cap):(Instr.sliceAt t (.slice p len cap) (some<|.int kd x) (some<|.int kd' y)<|some<|.int kd'' y).run P w= .ok (.slice (if y.toNat=x.toNat then p else p.map (·.add (x.toNat*sz))) (y.toNat - x.toNat)<|y.toNat - x.toNat) w:=by
 simp only[Instr.sliceAt,pI,Ji ht,Result.andThen,Instr.slice,Instr.sliceBounds,r6,nX,Nm];rw[XK (kd:=kd'')<|by omega];simp only[];rw[XK (kd:=kd')<|by omega];simp only[];rw[XK<|by omega];simp[hz]
end
section
variable{β:Type}{P:PP}{ops:OF j9}{rest:UV j9}{ks:UV Kt}{Q:pU->Act->TO->Prop}{m:H1 β}{r:β}
variable{n:Nat}{D:UV If}{S:UV (Nat×Do)}{F:Fz}{hs:UV HP}{d:Nat}{ty t:IF}{pos:String}{after:OF nA}{ox oy oz ou:x8}{kd:pg}{x y:Int}
theorem GL.cr{e:Nat}{l:UV α}{kd' kd'' :pg}{f:UV α->H1 β}(hd:Nat.blt d n=true)(ht:P.underlying t=some (.slice e))(hz:∀w,(sizeOf e).run P w= .ok sz w)
  (hr:QG sz c F p cap l) (hx:QI S ox=some (.slice p l.length cap)) (hy:QI S oy=some (.int kd x)) (hm:QI S oz=some (.int kd' y)) (hu:QI S ou=some (.int kd'' y))
  (k:∀l' p' c',ZW l x y=some l'->QG sz c F p' c' l'->GL O P ops rest ks Q (Hd n D ((d,.slice p' l'.length c')::S) F hs) (f l') r):GL O P ops (⟨some d,.slice t ox (some oy) (some oz)<|some ou,ty,pos,after,none⟩::rest) ks Q (Hd n D S F hs) ((ZW l x y).bind f) r:=
 GL.bind λl' hl=>by
  have hl' :=hl;unfold ZW at hl
  split at hl
  ·rename_i h;simp only[BY] at hl
   have hcut:QG sz c F (p.map (·.add (x.toNat*sz))) (y.toNat - x.toNat) l' :=by
    have:=hr.cut (lo:=x.toNat) (hi:=y.toNat) (cap' :=y.toNat - x.toNat) (by omega) (by omega) (by have:=hr.1;omega) (by have:=hr.1;omega);rw[<-hl];exact this
   have hlen:l'.length=y.toNat - x.toNat:=by rw[<-hl];simp;omega
   have hrep:QG sz c F (if y.toNat=x.toNat then p else p.map (·.add (x.toNat*sz))) (y.toNat - x.toNat) l' :=L7 (λh=>by
    have:l' =[]:=by have:=hcut.1;rw[<-h] at this;simp at this;exact this
    subst this;exact hcut.aj) hcut
   have hk:=k l' _ _ hl' hrep;rw[hlen] at hk
   refine GL.val hd (λa w ha=> ?_) hk;simp only[execOp,ha.1.eval hx,ha.1.eval hy,ha.1.eval hm,ha.1.eval hu,dO,pI];rw[Po ht hz (by omega) (by have:=hr.1;omega)];rfl
  ·cases hl
end
section
variable{P:PP}{w:TO}{t:Nat}{kd:pg}{x:Int}{s:UV So}
theorem MA(ht:P.underlying t=some .string)(h:0<=x/\x<=s.length):(Instr.sliceAt t (.string<|bs s) (some<|.int kd x) none none).run P w= .ok (.string<|bs<|s.drop x.toNat) w:=by
 simp only[Instr.sliceAt,pI,Ji ht,Result.andThen,Instr.slice,Instr.sliceBounds,r6,nG,By,RK,BW];rw[XK<|by omega];simp[AM];rw[s4];simp
variable{n:Nat}{D:UV If}{S:UV (Nat×Do)}{a:Act}{d:Nat}{ty:IF}{pos:String}{after:OF nA}{ox oy:x8}
theorem Ri(h:Sl n D S a)(ht:P.underlying t=some .string)(hx:QI S ox=some (.string<|bs s))(hy:QI S oy=some (.int kd x)){l:UV So}(hl:ZW s x s.length=some l):(execOp a.eval ⟨some d,.slice t ox (some oy) none none,ty,pos,after,none⟩).run P w= .ok (.value<|.string<|bs l) w:=by
 unfold ZW at hl
 split at hl
 ·rename_i hh;simp only[BY] at hl
  simp only[execOp,h.eval hx,h.eval hy,dO,nI,pI];rw[MA ht (by omega),<-hl,s4<|by simp];rfl
 ·cases hl
end
section
variable{β:Type}{P:PP}{ops:OF j9}{rest:UV j9}{ks:UV Kt}{Q:pU->Act->TO->Prop}{E:Act->TO->Prop}{m:H1 β}{r:β}
variable{n:Nat}{D:UV If}{S:UV (Nat×Do)}{F:Fz}{hs:UV HP}{d:Nat}{ty t:IF}{pos:String}{after:OF nA}{ox oy:x8}{kd:pg}{x:Int}{s:UV So}
theorem GL.aG{f:UV So->H1 β}(hd:Nat.blt d n=true)(ht:P.underlying t=some .string)(hx:QI S ox=some (.string<|bs s))(hy:QI S oy=some (.int kd x))(k:∀z,ZW s x s.length=some z->GL O P ops rest ks Q (Hd n D ((d,.string<|bs z)::S) F hs) (f z) r):GL O P ops (⟨some d,.slice t ox (some oy) none none,ty,pos,after,none⟩::rest) ks Q (Hd n D S F hs) ((ZW s x s.length).bind f) r:=GL.bind λz h=>GL.val hd (λa w ha=>Ri ha.1 ht hx hy h)<|k z h
theorem GS.sd{z:UV So}(h:ZW s x s.length=some z)(hd:Nat.blt d n=true)(ht:P.underlying t=some .string)(hx:QI S ox=some (.string<|bs s))(hy:QI S oy=some (.int kd x))(k:GS P ops rest E (Hd n D ((d,.string<|bs z)::S) F hs) m r):GS P ops (⟨some d,.slice t ox (some oy) none none,ty,pos,after,none⟩::rest) E (Hd n D S F hs) m r:=GS.val hd (λa w ha=>Ri ha.1 ht hx hy h) k
end
theorem y4{a b:UV So}:(bs a==bs b)=(a==b):=by
 show(bs a).beq (bs b)=_;unfold ByteArray.beq;simp[bs]
theorem XI.str(h:P.underlying t=some .string):XI P t (λx:UV So=>.string<|bs x) where
 und:=⟨_,h,λa b=>by simp only[Instr.sameNow];rw[y4]⟩
 check e k w:=by unfold Instr.checkKey;simp[Ji h]
 same a:=by show(bs a==bs a)=true;rw[y4,rk]
 eq a b e:=by simpa using e
section
variable{ε β:Type}{P:PP}{penc:ε->Do}{fn:nH}
def CN(P:PP)(penc:ε->Do)(fn:nH)(F:Fz)(R:HP)(ρ:β->Fz->Do->Prop)(Hs' :β->Fz->Do->UV HP)(r:Out ε β):pU->Act->TO->Prop:=
 bodyPostM Fence.wide 0 P fn (λe w' =>∃F',F<=F'/\match r with
  | .ok x=>∃v,e= .returned v/\ρ x F' v/\SH w' F' (star (Qh<|Hs' x F' v) R)
  | .pan x=>e= .panicked [{v:=penc x,recovered:=false}]/\SH w' F' R)
theorem VX.bN{f:x4}{c:rh}{args:UV Do}{F:Fz}{Hs:UV HP}{m:H1 (Out ε β)}{ρ:β->Fz->Do->Prop}{Hs' :β->Fz->Do->UV HP}{n:Nat}
  (hf:P.funcs[f]? =some fn) (hb:fn.body=some c) (hn:fn.ntmps=n) (ha:Nat.ble args.length n=true)
  (k:∀r R,GC none P c [] (CN P penc fn F R ρ Hs' r) (Hd n [] (DE 0 args) F<|Hs++[R]) m r):VX P penc f args.toArray F Hs m ρ Hs' :=by
 intro r hm w R hw;refine(pW (n:=0)).1<|ml hf hb trivial<|k r R hm _ w ⟨?_,hw.mono λm hm=>Kx<|QS (λ_ h=>J1 h) hm⟩;rw[hn];exact Ul ha
theorem Ov{tmps:OF Do}{R:mq->TO->Prop}{chain:UV PanicEntry}:∀{ms:UV (Nat×Nat)} {hs:UV HP} {w:TO},SH w F (Qh hs)->yB hs ms->
  (∀w',SH w' F (Qh<|HH hs ms)->R (.panicked chain) w')->LeavesInM Fence.wide 0 P fn tmps R (ms.map λp=>U2 p.2) (.panicking chain) w
 | [],hs,w,h,_,k=>k w h
 | (i,q)::ms,hs,w,h,ho,k=>by
  refine⟨by simp,.inl ⟨q,_,rfl,run_takeDeferred<|SH.fl ho.1 h,?_⟩⟩;exact Ov (SH.putAt ho.1 h _) ho.2 k
variable{n:Nat}{S:UV (Nat×Do)}{F F' :Fz}{hs:UV HP}{ks:UV Kt}{R:HP}{ρ:β->Fz->Do->Prop}{Hs' :β->Fz->Do->UV HP}{x:β}{r:Out ε β}{rs:UV ResultVar}{vs:UV Do}{ms:UV (Nat×Nat)}
theorem I0(is:UV Nat)(ms:UV (Nat×Nat))(hr:fn.results=rs.toArray)(ho:yB hs ms)(h:Cq P S F' (HH hs ms) rs vs)(hi:JG is (HH hs ms)=Hs' x F' (SS vs)++[R])(le:F<=F')(hρ:ρ x F' (SS vs)):some (Out.ok x)=some r->∀a w,Hd n (ms.map λp=>U2 p.2) S F' hs a w->CN P penc fn F R ρ Hs' r .ret a w:=by
 intro e a w ha;simp only[BY] at e
 subst e;show LeavesInM Fence.wide 0 P fn a.tmps _ a.defers .returning w;rw[ha.1.2.1];refine P7 ha.2 ho λw' h' => ?_
 exact⟨_,JW (n:=n) (a:=a) (D:=a.defers) hr ⟨⟨ha.1.1,rfl,ha.1.2.2⟩,h'⟩ h,F',le,_,rfl,hρ,h'.mono λm hm=>by
  have h1:=VN (ks:=is) hm;rw[hi] at h1
  exact XX<|VO h1⟩
theorem GC.al(is:UV Nat)(ms:UV (Nat×Nat))(hr:fn.results=rs.toArray)(ho:yB hs ms)(h:Cq P S F' (HH hs ms) rs vs)(hi:JG is (HH hs ms)=Hs' x F' (SS vs)++[R])(le:F<=F')(hρ:ρ x F' (SS vs)):GC O P .ret ks (CN P penc fn F R ρ Hs' r) (Hd n (ms.map λp=>U2 p.2) S F' hs) (some<|.ok x) r:=GC.dC<|I0 is ms hr ho h hi le hρ
theorem Xm{q:ε}{i:Nat}(ms:UV (Nat×Nat))(ho:yB hs ms)(hi:(HH hs ms)[i]? =some R)(le:F<=F'):some (Out.pan q)=some r->∀a w,Hd n (ms.map λp=>U2 p.2) S F' hs a w->CN P penc fn F R ρ Hs' r (.panic [{v:=penc q,recovered:=false}]) a w:=by
 intro e a w ha;simp only[BY] at e
 subst e;show LeavesInM Fence.wide 0 P fn a.tmps _ a.defers (.panicking _) w;rw[ha.1.2.1];exact Ov ha.2 ho λw' h' =>⟨F',le,rfl,h'.only hi⟩
end
section
variable{β:Type}{P:PP}{ops:OF j9}{l0:UV j9}{cd:rh}{ks:UV Kt}{Q:pU->Act->TO->Prop}{m:H1 β}{r:β}
variable{n:Nat}{D:UV If}{S:UV (Nat×Do)}{F F0:Fz}{hs:UV HP}
theorem GL.dT{p:HP}(i:Nat)(hp:∀m,p m->p' m)(hi:hs[i]? =some p)(k:GL O P ops l0 ks Q (Hd n D S F<|hs.set i p') m r):GL O P ops l0 ks Q (Hd n D S F hs) m r:=GG.tN i hp hi k
theorem GC.dT{p:HP}(i:Nat)(hp:∀m,p m->p' m)(hi:hs[i]? =some p)(k:GC O P cd ks Q (Hd n D S F<|hs.set i p') m r):GC O P cd ks Q (Hd n D S F hs) m r:=GG.tN i hp hi k
theorem GE.dT{p:HP}(i:Nat)(hp:∀m,p m->p' m)(hi:hs[i]? =some p)(k:GE O P ks Q (Hd n D S F<|hs.set i p') m r):GE O P ks Q (Hd n D S F hs) m r:=GG.tN i hp hi k
section
variable{ι:Type}{Φ:ι->Prop}{l:ι->UV HP}
theorem GL.be(i:Nat)(hi:hs[i]? =some (yf Φ l))(k:∀q,Φ q->GL O P ops l0 ks Q (Hd n D S F<|l q++hs.eraseIdx i) m r):GL O P ops l0 ks Q (Hd n D S F hs) m r:=GG.be i hi k
theorem GC.sB(is:UV Nat)(q:ι)(hq:Φ q)(hp:JG is hs=l q)(k:GC O P cd ks Q (Hd n D S F<|yf Φ l::JV is hs) m r):GC O P cd ks Q (Hd n D S F hs) m r:=GG.sB is q hq hp k
end
section
variable{α:Type}{sz cap:Nat}{c:UR α}{T:IF}{p:H1 Of}{l:UV α}
theorem GL.bT(i:Nat)(hi:hs[i]? =some (Iu sz c F0 T p cap l))(le0:F0<=F)(k:∀F',F<=F'->QG sz c F' p cap l->GL O P ops l0 ks Q (Hd n D S F'<|hs.eraseIdx i) m r):GL O P ops l0 ks Q (Hd n D S F hs) m r:=GG.bT i hi le0 k
theorem GE.toQ(i:Nat)(le:F0<=F)(hi:hs[i]? =some (Ql sz c F0 T p cap l))(k:GE O P ks Q (Hd n D S F<|hs.set i<|Iu sz c F T p cap l) m r):GE O P ks Q (Hd n D S F hs) m r:=GG.tN i (λ_ h=>.inl<|Vx le h) hi k
theorem GE.th(h:QG sz c F p cap l)(k:GE O P ks Q (Hd n D S F<|Iu sz c F T p cap l::hs) m r):GE O P ks Q (Hd n D S F hs) m r:=GG.ins (λ_=>.inr h) k
end
end
end
section
variable{T:OF IF}{p:H1 Of}{S:UV (Nat×Do)}{s:UV So}{D:UV If}{P:PP}{F F0:Fz}{f:x4}{cap n i:Nat}{ti:TypeInfo}{l:UV Int}{hs:UV HP}{e:IF}{β:Type}
variable{O:H1 Nat}
theorem qQ{a b:UV So}:WU (a++b)=WU a++WU b:=by simp[WU]
theorem C8{a:UV So}:(WU a).length=a.length:=by simp[WU]
theorem j8(l:UV So):Jg 1 (Ex<|KJ .u8) F (WU l) (l.map λb=>Value.int .u8 b.toNat):=λi x hx F' _=>by
 simp only[WU,pb] at hx
 cases h:l[i]? with
 | none=>rw[h] at hx;cases hx
 | some b=>
  rw[h] at hx
  simp only[dO,BY] at hx
  subst hx;obtain⟨hi,he⟩:=AC.1 h;show((l.map _).drop<|i*1).take 1=KJ .u8 _;rw[mM,pM<|by simpa using hi];simp[KJ,he]
theorem OR{w:TO}{H:HP}{e t t2:Nat}{ty:IF}
  (E:Uz P e 1 (Ex<|KJ .u8)) (le0:F0<=F) (ht:P.underlying t=some (.slice e)) (ht2:P.underlying t2=some .string)
  (hT0:T[0]? =some t) (hT1:T[1]? =some t2) (h:SH w F (star (Ql 1 (Ex<|KJ .u8) F0 e p cap l) H)) (hlen:l.length+s.length<=4294967296):∃p' cap' w',(Builtin.append_ T ty #[.slice p l.length cap,.string<|bs s]).run P w= .ok (.slice p' (l++WU s).length cap') w'/\SH w' F (star (Ql 1 (Ex<|KJ .u8) F e p' cap'<|l++WU s) H)/\(l++WU s=[]->p' =p/\cap' =cap):=by
 obtain⟨ti,hti,hb0,hb1⟩:=E.info;obtain⟨z,hzero,hzl⟩:=E.zero;have hz:=E.size;have hfr:∀b o,F.mem b=some o->w.heap[b]? =some o:=λb o e=>h.frozen e;have hl2:(WU s).length=s.length:=C8;generalize hus:(s.map λb=>Value.int .u8 (b.toNat:Int))=us2;have hus2:us2.length=(WU s).length*1:=by rw[<-hus];simp[WU]
 have hp2:Jg 1 (Ex<|KJ .u8) F (WU s) us2:=hus▸j8 s;have hall:us2.all Value.oneCell' =true:=by rw[<-hus];simp[Value.oneCell']
 have hsrc:∀w' :TO,(Builtin.firstCells 1 (WU s).length<|.string<|bs s).run P w' = .ok us2.toArray w' :=λw' =>by
  have:(ByteArray.extract (bs s) 0 (WU s).length)=bs s:=by rw[hl2,AM];simp
  simp only[Builtin.firstCells,this];rw[<-hus];simp[bs]
 have hlo:∀w' :TO,(Builtin.lenOf<|.string<|bs s).run P w' = .ok (WU s).length w' :=λw' =>by simp[Builtin.lenOf,BW,hl2]
 obtain⟨m,⟨m1,m2,d,s1,s2,⟨h1,h2,h3⟩,hq⟩,k⟩:=h;by_cases hneed:l.length+(WU s).length<=cap
 ·rcases h3 with⟨rfl,rfl⟩ | ⟨b,cs,rfl,hb,hl,hp⟩
  ·have e1:l=[]:=x6 (by omega);have e2:WU s=[]:=x6 (by omega);subst e1;have e3:us2=[]:=x6 (by rw[hus2,e2];rfl);rw[e2] at hsrc hlo ⊢
   refine⟨none,0,w,?_,⟨m,⟨m1,m2,d,s1,s2,⟨by simp,by simp,.inl ⟨rfl,rfl⟩⟩,hq⟩,k⟩,λ_=>⟨rfl,rfl⟩⟩;simp only[Builtin.append_];simp only[pO] at hsrc hlo
   simp[hT0,hT1,Ji ht,Ji ht2,hz,hlo,hsrc,e3]
  ·have hh:SH w F (star (pt b<|.cells cs.toArray e (0,0)) H):=⟨m,⟨m1,m2,d,s1,s2,hb,hq⟩,k⟩;have hbl:=hh.owned
   have hroom:l.length*1+us2.length<=cs.length:=by
    rw[hus2,hl,<-rS];exact r7 1 hneed
   have hst:=Wr (P:=P) (o:=l.length*1) (i:=0) hbl (by simpa using hroom) hall;simp only[my] at hst
   refine⟨some ⟨b,0,none⟩,cap,put w b<|.cells (Kq cs (l.length*1) us2).toArray e (0,0),?_,?_,λ_=>⟨rfl,rfl⟩⟩
   ·simp only[Builtin.append_];simp only[mM] at hst
    simp[hT0,hT1,Ji ht,Ji ht2,hz,hlo,hsrc,hneed,WK,hst]
   ·have hp' :=hh.put (o' :=.cells (Kq cs (l.length*1) us2).toArray e (0,0));refine hp'.mono λm hm=>QQ (λm' hm' =>⟨by simp;omega,h2,.inr ⟨b,_,rfl,hm',by rw[HA];exact hl,?_⟩⟩) hm;have:=GU us2 cs (l.length*1) hroom;rw[hus2,<-rS] at this
    apply Jg.su;rw[pP,this];exact(hp.mono le0).take.append hp2 (by simp;omega)
 ·have hn:Hh (l.length+(WU s).length) cap ti.bytes:=CF (Nat.lt_of_not_le hneed) (by omega) hb1
  have hold:∃us:UV Do,us.length=l.length*1/\Jg 1 (Ex<|KJ .u8) F l us/\∀w' :TO,w'.heap=w.heap->(Builtin.firstCells 1 l.length<|.slice p l.length cap).run P w' = .ok us.toArray w' :=by
   rcases h3 with⟨rfl,rfl⟩ | ⟨b,cs,rfl,hb,hl,hp⟩
   ·have e1:l=[]:=x6 (by omega);subst e1;exact⟨[],by simp,Jg.nil,λw' _=>by simp[Builtin.firstCells]⟩
   ·have hpl:=hp.len E.len;refine⟨cs.take<|l.length*1,by simp;omega,(hp.mono le0).take,λw' hw' => ?_⟩;simp only[Builtin.firstCells];exact X2 (cs:=cs) (T:=e) (fr:=(0,0)) (by rw[hw'];exact k.aR<|s1 _ _ hb) (by simp) (by simp;omega)
  obtain⟨us,hus',hp1,hold⟩:=hold;have hHq:SH w F H:=⟨m2,hq,k.sub s2⟩;generalize hq' :Question.appendCap (l.length+(WU s).length) cap e=q
  have hcap:l.length+(WU s).length<=q.cut (w.tape w.drawn q)/\q.cut (w.tape w.drawn q)<=9223372036854775807:=by
   rw[<-hq'];have:=mS (w.tape w.drawn<|Question.appendCap (l.length+(WU s).length) cap e) (show 0 < 2^63 - (l.length+(WU s).length) by omega);simp only[Question.cut];omega
  have hforced:q.forced=false:=by rw[<-hq'];rfl
  generalize hC:q.cut (w.tape w.drawn q)=C at hcap
  have hdrew:SH {w with drawn:=w.drawn+1} F H:=hHq.drew _;have halloc:=hdrew.alloc<|.cells ((us.toArray++us2.toArray++Builtin.zeroCells z.cells (C - (l.length+(WU s).length)))) e;have e3:(Builtin.zeroCells z.cells<|C - (l.length+(WU s).length)).size=(C - (l.length+(WU s).length))*1:=by simp[Builtin.zeroCells,hzl]
  have e4:(us.toArray++us2.toArray++Builtin.zeroCells z.cells (C - (l.length+(WU s).length))).toList.length=C*1:=by
   simp only[nT,lL,eV,hus',hus2,e3];rw[<-rS,<-rS];congr 1;omega
  have e5:Jg 1 (Ex<|KJ .u8) F (l++WU s) (us.toArray++us2.toArray++Builtin.zeroCells z.cells (C - (l.length+(WU s).length))).toList:=by
   have:=(hp1.append hp2 hus').bg (us2:=(Builtin.zeroCells z.cells<|C - (l.length+(WU s).length)).toList) (by simp[hus',hus2]);simpa using this
  refine⟨some ⟨w.heap.size,0,none⟩,C,_,?_,halloc.mono λm hm=>QQ (λm' hm' =>⟨by simp only[pP];exact hcap.1,hcap.2,.inr ⟨w.heap.size,(us.toArray++us2.toArray++Builtin.zeroCells z.cells (C - (l.length+(WU s).length))).toList,rfl,(by have hm2:pt w.heap.size _ m' :=hm';unfold pt at hm2 ⊢;rw[hm2]),e4,e5⟩⟩) hm,λhe=> ?_⟩
  ·simp only[Builtin.append_];have hnb:=hn;unfold Hh at hnb
   have hnot:¬(2:Nat)^48 < Builtin.nextslicecap (l.length+(WU s).length) cap*ti.bytes:=by omega
   have g1:=hold w.drew rfl;have g2:=hsrc w.drew;simp[hT0,hT1,Ji ht,Ji ht2,hz,hlo,hneed,hti,hb0,hnot,hq',hforced,hC,g1,g2,hzero,newRow];simp only[<-eM,eR]
  ·exfalso;have h5:=congrArg List.length he;simp only[pP,pO] at h5;omega
def xQ(e:IF)(p:H1 Of)(cap:Nat)(s:UV So):HP:=λm=>∃F,Ql 1 (Ex<|KJ .u8) F e p cap (WU s) m
theorem vz{m:Mem}(F' :Fz)(h:xQ e p cap s m):Ql 1 (Ex<|KJ .u8) F' e p cap (WU s) m:=by
 obtain⟨F,h1,h2,h3⟩:=h;rcases h3 with h3 | ⟨b,cs,e,hb,hl,hp⟩
 ·exact⟨h1,h2,.inl h3⟩
 ·exact⟨h1,h2,.inr ⟨b,cs,e,hb,hl,λi x hx G _=>hp i x hx F<|Fz.le_refl _⟩⟩
def FX(T e:IF)(b:Nat)(s:UV So):HP:=yf (λq:H1 Of×H1 Of×Nat=>(q.1=none∨q.1=some ⟨b,0,none⟩)/\(s=[]->q.2.1=none∨q.2.2≠0)) λq=>[pc b [.pointer q.1,.slice q.2.1 (WU s).length q.2.2] T,xQ e q.2.1 q.2.2 s]
section
variable{β:Type}{X:Act->TO->Prop}{m:H1 β}{r:β}{n:Nat}{D:UV If}{S:UV (Nat×Do)}{F F0:Fz}{hs:UV HP}{T e b:IF}{s:UV So}
theorem GG.dZ(i:Nat)(hi:hs[i]? =some (FX T e b s))(k:∀p q cap,(p=none∨p=some ⟨b,0,none⟩)->(q=none∨cap≠0)->GG X (Hd n D S F<|pc b [.pointer p,.slice q (WU s).length cap] T::Ql 1 (Ex<|KJ .u8) F e q cap (WU s)::hs.eraseIdx i) m r):GG X (Hd n D S F hs) m r:=
 GG.be i hi fun⟨p,q,cap⟩ ⟨h1,h2⟩=>GG.tN (p' :=Ql 1 (Ex<|KJ .u8) F e q cap<|WU s) 1 (λ_ h=>vz F h) rfl λhm a w ha=>by
  refine k p q cap h1 ?_ hm a w ha;by_cases hs0:s=[]
  ·exact h2 hs0
  ·right;obtain⟨_,⟨m1,_,_,_,_,⟨hl,_⟩,_⟩,_⟩:=ha.2.pull (k:=1) rfl;rw[C8] at hl
   intro e0;subst e0;exact hs0<|x6<|by omega
theorem GG.dh{q:H1 Of}(is:UV Nat)(hp:p=none∨p=some ⟨b,0,none⟩)(hq:s=[]->q=none∨cap≠0)(hi:JG is hs=[pc b [.pointer p,.slice q (WU s).length cap] T,Ql 1 (Ex<|KJ .u8) F0 e q cap<|WU s])(k:GG X (Hd n D S F<|FX T e b s::JV is hs) m r):GG X (Hd n D S F hs) m r:=GG.dq is (p,q,cap) ⟨hp,hq⟩ hi (Q9 (λ_ h=>h)<|Q9 (λ_ h=>⟨F0,h⟩) λ_ h=>h) k
end
section
variable{β:Type}{P:PP}{ops:OF j9}{rest:UV j9}{ks:UV Kt}{Q:pU->Act->TO->Prop}{E:Act->TO->Prop}{m:H1 β}{r:β}
variable{n:Nat}{D:UV If}{S:UV (Nat×Do)}{F F0:Fz}{hs:UV HP}{d:Nat}{ty t t2 e T b:IF}{pos:String}{after:OF nA}{ox oy:x8}{p:H1 Of}{cap:Nat}{s:UV So}{c:rh}
theorem GL.dZ(i:Nat)(hi:hs[i]? =some (FX T e b s))(k:∀p q cap,(p=none∨p=some ⟨b,0,none⟩)->(q=none∨cap≠0)->GL O P ops rest ks Q (Hd n D S F<|pc b [.pointer p,.slice q (WU s).length cap] T::Ql 1 (Ex<|KJ .u8) F e q cap (WU s)::hs.eraseIdx i) m r):GL O P ops rest ks Q (Hd n D S F hs) m r:=GG.dZ i hi k
theorem GC.dZ(i:Nat)(hi:hs[i]? =some (FX T e b s))(k:∀p q cap,(p=none∨p=some ⟨b,0,none⟩)->(q=none∨cap≠0)->GC O P c ks Q (Hd n D S F<|pc b [.pointer p,.slice q (WU s).length cap] T::Ql 1 (Ex<|KJ .u8) F e q cap (WU s)::hs.eraseIdx i) m r):GC O P c ks Q (Hd n D S F hs) m r:=GG.dZ i hi k
theorem GL.dh{q:H1 Of}(is:UV Nat)(hp:p=none∨p=some ⟨b,0,none⟩)(hq:s=[]->q=none∨cap≠0)(hi:JG is hs=[pc b [.pointer p,.slice q (WU s).length cap] T,Ql 1 (Ex<|KJ .u8) F0 e q cap<|WU s])(k:GL O P ops rest ks Q (Hd n D S F<|FX T e b s::JV is hs) m r):GL O P ops rest ks Q (Hd n D S F hs) m r:=GG.dh is hp hq hi k
theorem GC.aX(k:GC O P c ks Q (Hd n D S F<|SI::hs) m r):GC O P c ks Q (Hd n D S F hs) m r:=GG.ins (λ_=>trivial) k
theorem GL.aL(i:Nat)(e:IF)(hi:hs[i]? =some (pc b [.pointer none,.slice none 0 0] T))(k:GL O P ops rest ks Q (Hd n D S F<|hs.set i<|FX T e b []) m r):GL O P ops rest ks Q (Hd n D S F hs) m r:=λhm a w ha=>k hm a w ⟨ha.1,SH.push hi<|(ha.2.pull hi).mono λ_ hm=>QQ (λm h=>⟨(none,none,0),⟨.inl rfl,λ_=>.inl rfl⟩,m,λ_=>none,λ_=>.inr rfl,Mem.sub.refl _,λ_ _ e=>by simp at e,h,λ_=>none,λ_=>none,λ_=>.inr rfl,λ_ _ e=>by simp at e,λ_ _ e=>by simp at e,⟨F,Cy⟩,trivial⟩) hm⟩
theorem GL.ai{f:UV Int->H1 β}{T:OF IF}(i:Nat)(E:Uz P e 1 (Ex<|KJ .u8))(le0:F0<=F)(hd:Nat.blt d n=true)(ht:P.underlying t=some (.slice e))(ht2:P.underlying t2=some .string)(hT0:T[0]? =some t)(hT1:T[1]? =some t2)
  (hi:hs[i]? =some (Ql 1 (Ex<|KJ .u8) F0 e p cap l)) (hx:QI S ox=some (.slice p l.length cap)) (hy:QI S oy=some (.string<|bs s))
  (k:∀l' p' cap',Jf l (WU s)=some l'->(l' =[]->p' =p/\cap' =cap)->GL O P ops rest ks Q (Hd n D ((d,.slice p' l'.length cap')::S) F<|hs.set i<|Ql 1 (Ex<|KJ .u8) F e p' cap' l') (f l') r):GL O P ops (⟨some d,.call ⟨.builtin .append,#[ox,oy],T⟩,ty,pos,after,none⟩::rest) ks Q (Hd n D S F hs) ((Jf l<|WU s).bind f) r:=
 GL.bind λl' hl=>by
  have hl' :=hl;unfold Jf at hl
  split at hl
  ·rename_i hlen;simp only[BY] at hl
   subst hl;refine GL.step rfl (.inr rfl) λhm a w ha=> ?_;obtain⟨p',cap',w',hrun,hS,hnil⟩:=OR (P:=P) (T:=T) (ty:=ty) (s:=s) E le0 ht ht2 hT0 hT1 (ha.2.pull hi) (by rw[C8] at hlen;exact hlen);refine⟨_,w',?_,k _ p' cap' hl' hnil hm _ _ ⟨ha.1.put hd _,SH.push hi hS⟩⟩;simp[execOp,resolve,invoke,builtin,ha.1.eval hx,ha.1.eval hy,hrun]
  ·cases hl
theorem GL.aN{l':UV Int}{T:OF IF}(happ:Jf l (WU s)=some l')(i:Nat)(E:Uz P e 1 (Ex<|KJ .u8))(le0:F0<=F)(hd:Nat.blt d n=true)(ht:P.underlying t=some (.slice e))(ht2:P.underlying t2=some .string)(hT0:T[0]? =some t)(hT1:T[1]? =some t2)
  (hi:hs[i]? =some (Ql 1 (Ex<|KJ .u8) F0 e p cap l)) (hx:QI S ox=some (.slice p l.length cap)) (hy:QI S oy=some (.string<|bs s))
  (k:∀p' cap',(l' =[]->p' =p/\cap' =cap)->GL O P ops rest ks Q (Hd n D ((d,.slice p' l'.length cap')::S) F<|hs.set i<|Ql 1 (Ex<|KJ .u8) F e p' cap' l') m r):GL O P ops (⟨some d,.call ⟨.builtin .append,#[ox,oy],T⟩,ty,pos,after,none⟩::rest) ks Q (Hd n D S F hs) m r:=by
 have h:=GL.ai (f:=λ_=>m) (pos:=pos) (after:=after) (ty:=ty) i E le0 hd ht ht2 hT0 hT1 hi hx hy (λl'' p' cap' hl'' hn=>by rw[happ] at hl'';cases hl'';exact k p' cap' hn);rw[happ] at h;exact h
theorem GL.sE{caps as1 vs:UV Do}{of:x8}{os:UV x8}{T:OF IF}{ρ:Unit->Fz->Do->Prop}{H:HP}{H' :Unit->Fz->Do->HP}(hd:Nat.blt d n=true)
  (hcall:∀args w,(callFunc f args).run P w= .ok (.enter f args) w) (hf:QI S of=some (.func (.func f) #[] caps.toArray)) (ha:UO S os=some vs) (has:vs++caps=as1) (hi:hs[i]? =some H)
  (hc:CT P f as1.toArray F H (some ()) ρ H') (k:∀F' v,F<=F'->GL O P ops rest ks Q (Hd n D ((d,v)::S) F'<|hs.set i<|H' () F' v) m r):GL O P ops (⟨some d,.call ⟨.value of,os.toArray,T⟩,ty,pos,after,none⟩::rest) ks Q (Hd n D S F hs) m r:=
 GL.bC (e:=some ()) (g:=λ_=>m) hd hcall hf ha has hi hc (λ_ F' v _ le _=>k F' v le)
theorem GL.tn{t' :IF}(hd:Nat.blt d n=true)(ht:P.underlying t=some (.pointer e))(hx:QI S ox=some (.pointer p))(hy:QI S oy=some (.pointer none))(k:GL O P ops rest ks Q (Hd n D ((d,.bool p.isNone)::S) F hs) m r):GL O P ops (⟨some d,.binOp .eql t ox oy t',ty,pos,after,none⟩::rest) ks Q (Hd n D S F hs) m r:=
 GL.val hd (λa w ha=>by
  have hq:(Op.equal t (.pointer p)<|.pointer none).run P w= .ok p.isNone w:=Db ht 9999;simp[execOp,ha.1.eval hx,ha.1.eval hy,eqGuard,binOp,hq]) k
theorem GL.te{t' :IF}{a0:Of}(hd:Nat.blt d n=true)(ht:P.underlying t=some (.pointer e))(hti:P.info? e=some ti)(hx:QI S ox=some (.pointer<|some a0))(hy:QI S oy=some (.pointer<|some a0))(k:GL O P ops rest ks Q (Hd n D ((d,.bool false)::S) F hs) m r):GL O P ops (⟨some d,.binOp .neq t ox oy t',ty,pos,after,none⟩::rest) ks Q (Hd n D S F hs) m r:=
 GL.val hd (λa w ha=>by
  have hq:=Go.Lib.run_neq_ptr_same (P:=P) w a0 ht hti;simp[execOp,ha.1.eval hx,ha.1.eval hy,eqGuard,hq]) k
theorem GL.sg{b0 T0:Nat}{cs:UV Do}{src dst:IF}(hd:Nat.blt d n=true)(hs1:P.underlying src=some (.pointer e))(hs2:P.underlying dst=some .unsafePointer)(ht:P.info? e=some ti)(hj:ti.size≠0)(hb:hs[i]? =some (pc b0 cs T0))(h0:0 < cs.length)(hx:QI S ox=some (vP b0 0))
  (k:GL O P ops rest ks Q (Hd n D ((d,vP b0 0)::S) F hs) m r):GL O P ops (⟨some d,.convert src dst ox,ty,pos,after,none⟩::rest) ks Q (Hd n D S F hs) m r:=
 GL.val hd (λa w ha=>by
  have hsh:w.shape? b0=some (T0,cs.length):=by simp[World.shape?,SH.fl hb ha.2]
  have hq:=Go.Lib.run_to_unsafe (P:=P) w ⟨b0,0,none⟩ hs1 hs2 ht hj hsh h0;simp[execOp,ha.1.eval hx,hq]) k
theorem GL.c6{b0 T0:Nat}{cs:UV Do}{src dst:IF}(hd:Nat.blt d n=true)(hs1:P.underlying src=some .unsafePointer)(hs2:P.underlying dst=some (.pointer e))(ht:P.info? e=some ti)(hb:hs[i]? =some (pc b0 cs T0))(hl:liesAt P P.depth T0 (cs.length / P.cellsOf T0) 0 e 1=true)(hx:QI S ox=some (vP b0 0))
  (k:GL O P ops rest ks Q (Hd n D ((d,vP b0 0)::S) F hs) m r):GL O P ops (⟨some d,.convert src dst ox,ty,pos,after,none⟩::rest) ks Q (Hd n D S F hs) m r:=
 GL.val hd (λa w ha=>by
  have hsh:w.shape? b0=some (T0,cs.length):=by simp[World.shape?,SH.fl hb ha.2]
  have hq:=Go.Lib.run_from_unsafe (P:=P) w ⟨b0,0,none⟩ hs1 hs2 ht hsh hl;simp[execOp,ha.1.eval hx,hq]) k
theorem GL.ag{T:OF IF}{v:Do}(hd:Nat.blt d n=true)(hf:∀w,(callFunc f #[v]).run P w= .ok (.value v) w)(hx:QI S ox=some v)
  (k:GL O P ops rest ks Q (Hd n D ((d,v)::S) F hs) m r):GL O P ops (⟨some d,.call ⟨.value<|.func f,#[ox],T⟩,ty,pos,after,none⟩::rest) ks Q (Hd n D S F hs) m r:=
 GL.val hd (λa w ha=>by
  have h0:a.eval (.func f)= .func (.func f) #[] #[]:=rfl;simp[execOp,resolve,Deferred.ofValue,h0,ha.1.eval hx,invoke,hf]) k
theorem GS.sW{k:Nat}{T:OF IF}(hp:p=none∨cap≠0)(hd:Nat.blt d n=true)(hx:QI S ox=some (.slice p k cap))(h:GS P ops rest E (Hd n D ((d,.pointer p)::S) F hs) m r):GS P ops (⟨some d,.call ⟨.builtin .unsafeSliceData,#[ox],T⟩,ty,pos,after,none⟩::rest) E (Hd n D S F hs) m r:=by
 refine GS.step rfl λhm a w ha=>⟨.pointer p,?_,h hm _ _ ⟨ha.1.put hd _,ha.2⟩⟩
 have:(Builtin.unsafeSliceData_ T ty #[.slice p k cap]).run P w= .ok (.pointer p) w:=by
  cases p with
  | none=>exact Go.Lib.run_unsafeSliceData_nil w T ty k cap
  | some a=>exact Go.Lib.run_unsafeSliceData_row w T ty a k cap (by rcases hp with h | h;cases h;exact h)
 simp[execOp,resolve,invoke,builtin,ha.1.eval hx,this]
theorem GL.sT{T:OF IF}{pt it:IF}(i:Nat)(hT:T=#[pt,it])(hpt:P.underlying pt=some (.pointer e))(hce:P.cellsOf e=1)(hi:hs[i]? =some (Ql 1 (Ex<|KJ .u8) F0 e p cap<|WU s))(hd:Nat.blt d n=true)(hx:QI S ox=some (.pointer p))(hy:QI S oy=some (.int .i64 (WU s).length))
  (k:GL O P ops rest ks Q (Hd n D ((d,.string<|bs s)::S) F<|hs.eraseIdx i) m r):GL O P ops (⟨some d,.call ⟨.builtin .unsafeString,#[ox,oy],T⟩,ty,pos,after,none⟩::rest) ks Q (Hd n D S F hs) m r:=by
 subst hT;refine GL.step rfl (.inr rfl) λhm a w ha=> ?_;have hS:=ha.2.pull hi;obtain⟨mm,⟨m1,m2,dd,s1,s2,⟨h1,h2,h3⟩,hq⟩,kk⟩:=hS;rw[C8] at hy h1
 by_cases h0:s=[]
 ·subst h0;refine⟨.string<|bs [],w,?_,k hm _ _ ⟨ha.1.put hd _,⟨m2,hq,kk.sub s2⟩⟩⟩;have:=Go.Lib.run_unsafeString_none (P:=P) w pt it ty p;simp only[pO] at hy
  simp[execOp,resolve,invoke,builtin,ha.1.eval hx,ha.1.eval hy];have e:bs []=ByteArray.empty:=rfl;rw[e];simpa using congrArg (λr=>r) (show(Builtin.unsafeString_ #[pt,it] ty #[.pointer p,.int .i64 0]).run P w= .ok (.string .empty) w from this)▸rfl
 ·rcases h3 with⟨rfl,rfl⟩ | ⟨g,cs,rfl,hb,hl,hp⟩
  ·exfalso;exact h0<|x6<|by omega
  ·have hh:SH w F (star (Dec.pt g<|.cells cs.toArray e (0,0))<|Qh<|hs.eraseIdx i):=⟨mm,⟨m1,m2,dd,s1,s2,hb,hq⟩,kk⟩;have hg:=hh.owned
   have hcell:∀j x,s[j]? =some x->w.cell? ((⟨g,0,none⟩:Of).add j)=some (.int .u8 x.toNat):=λj x hx=>by
    have hj:(WU s)[j]? =some (x.toNat:Int):=by simp[WU,hx]
    have:=hp j _ hj F0<|Fz.le_refl _;have h5:(cs.drop<|j*1).take 1=[Value.int .u8 x.toNat]:=this;rw[mM] at h5
    have h6:cs[j]? =some (.int .u8 x.toNat):=by
     have:=congrArg (λl:UV Do=>l[0]?) h5;simpa[pF,rJ] using this
    rw[WK];simp[World.cell?,hg,h6]
   have hrun:=Go.Lib.run_unsafeString_row (P:=P) w pt it ty e hpt hce g cs.length (by simp[World.shape?,hg]) s h0 (by omega) (by omega) hcell
   have hw:w.freeze ⟨g,0,none⟩ s.length=put w g (.cells cs.toArray e (0,0+s.length)):=by
    have hne:s.length≠0:=λe=>h0<|x6 e;unfold World.freeze put;rw[RW hne];congr 1;apply mr;intro j;rw[eC,Array.getElem?_setIfInBounds];split
    ·rename_i hj;subst hj;have:=lt_of_heap hg;rw[AT this,hg];rfl
    ·rfl
   rw[hw] at hrun
   have h7:=(hh.put (o' :=.cells cs.toArray e (0,0+s.length))).drop;refine⟨.string<|bs s,_,?_,k hm _ _ ⟨ha.1.put hd _,h7⟩⟩;have e8:bs s=⟨s.toArray⟩:=rfl;simp[execOp,resolve,invoke,builtin,ha.1.eval hx,ha.1.eval hy,hrun,e8]
end
def wJ{α:Type}(P:PP)(F:Fz)(f:x4)(caps:UV Do)(arg:α->Fz->UV Do->Prop)(Hs:UV HP)(l:UV α):Prop:=
 (∀args w,(callFunc f args).run P w= .ok (.enter f args) w)/\
 ∀(σ:Type) (ly:Nat) (Y:σ->Fz->HP) (y:α->σ->H1 (σ×Bool)) (F1:Fz),F<=F1->UY P ly F1 arg Y y->∀s,Xz P f (.func (.yield ly) #[] #[]::caps).toArray F1 (Hs++[Y s F1]) (Un y l s) (λ_ _ _=>True) λs' F' =>[Y s' F']
section
variable{β:Type}{P:PP}{ks:UV Kt}{Q:pU->Act->TO->Prop}{r:β}{n:Nat}{D:UV If}{S:UV (Nat×Do)}{F:Fz}{hs:UV HP}
variable{α τ γ:Type}{g:x8}{ps:UV Tmp}{assign body:rh}{f:x4}{caps:UV Do}{arg:α->Fz->UV Do->Prop}{bm:α->τ->H1 (UE τ γ)}{s0:τ}{k:UE τ γ->H1 β}
theorem GC.sX{l:UV α}(Hs:UV HP)(is:UV Nat)(I:τ->Fz->UV HP->Prop)(J:γ->Fz->UV HP->Prop)(hg:QI S g=some (.func (.func f) #[] caps.toArray))(hit:wJ P F f caps arg Hs l)(hps:(ps.all λp=>Nat.blt p n)=true)(harg:∀x F' vs,arg x F' vs->vs.length=ps.length)
  (hi:JG is hs=Hs) (hI:I s0 F (JV is hs))
  (round:∀l L F0 F1 x vs s ctl R hs',F<=F0->F0<=F1->arg x F1 vs->I s F0 hs'->GC (some l) P assign [] (BP P l body<|RP l L I J F1 R ctl) (Hd n [] ((ps.zip vs).reverse++S) F1<|pt l (Vu L)::R::hs') (bm x s) ctl)
  (next:∀q F0 F' s hs',F<=F0->F0<=F'->Sx bm l s0=some (.next s)->I s F0 hs'->GE none P ks Q (Hd n (U2 q::D) S F'<|pt q (.deferred<|some [])::hs') (k<|.next s) r)
  (done:∀q F0 F' b hs',F<=F0->F0<=F'->Sx bm l s0=some (.done b)->J b F0 hs'->GC none P .ret ks Q (Hd n (U2 q::D) S F'<|pt q (.deferred<|some [])::hs') (k<|.done b) r):GC none P (.rangeFunc g ps.toArray assign body) ks Q (Hd n D S F hs) ((Sx bm l s0).bind k) r:=by
 intro hm a w ha;cases hl:Sx bm l s0 with
 | none=>rw[hl] at hm;cases hm
 | some c=>
  rw[hl] at hm
  refine mZ λfn _=> ?_
  let L:Loop:={state:=.ready,pending:=none,fn,tmps:=a.tmps,params:=ps.toArray,assign,body,defers:=w.heap.size}
  have hw1:SH ((w.alloc<|.deferred<|some []).alloc<|.loop L) F (star (Qh<|Hs++[yS F (w.heap.size+1) L I J (.next s0) F])<|Qh [pt w.heap.size<|.deferred<|some []]):=by
   have h1:=(ha.2.alloc<|.deferred<|some []).alloc<|.loop L;rw[nk] at h1
   refine h1.mono λm hm=> ?_
   have h2:star (pt (w.heap.size+1)<|Vu L) (star (pt w.heap.size<|.deferred<|some [])<|star (Qh Hs)<|Qh<|JV is hs) m:=
    QS (λm hm=>QS (λm hm=>by have:=Vs (ks:=is) hm;rw[hi] at this;exact this) hm) hm
   have h3:=TS<|QS (λm hm=>Ze hm)<|Ze h2;refine QQ (λm hm=> ?_)<|QS (λm hm=>J1 hm) h3;refine Kx<|QS (λm hm=>J1 (p:=yS F (w.heap.size+1) L I J (.next s0) F) ⟨F,JV is hs,Fz.le_refl _,Fz.le_refl _,hI,hm⟩) hm
  have hY:UY P (w.heap.size+1) F arg (yS F (w.heap.size+1) L I J) (zp bm):=by
   refine P4 (S' :=λvs=>(ps.zip vs).reverse++S) (assign:=assign) (body:=body) (λx F' vs hx=>by rw[harg x F' vs hx];simp[L]) rfl rfl (λvs _=>DN hps ⟨ha.1.1,rfl,ha.1.2.2⟩) ?_;exact λF0 F1 x vs s ctl R hs' h0 h1 hx hI=>round _ L F0 F1 x vs s ctl R hs' h0 h1 hx hI
  have hc:=hit.2 _ _ _ _ F (Fz.le_refl F) hY (.next s0) c (by rw[FA];exact hl) _ _ hw1;refine⟨w.heap.size+1,[U2 w.heap.size],(w.alloc<|.deferred<|some []).alloc<|.loop L,⟨.fn (.func f) caps.toArray,#[.func (.yield<|w.heap.size+1) #[] #[]]⟩,(w.alloc<|.deferred<|some []).alloc<|.loop L,f,(.func (.yield<|w.heap.size+1) #[] #[]::caps).toArray,(w.alloc<|.deferred<|some []).alloc<|.loop L,nP fn a.tmps ps.toArray assign body,?_,λ_ _=>trivial,?_,λe=>(by cases e),?_⟩
  ·have hc0:a.eval (.const<|.func (.yield<|w.heap.size+1) #[] #[])= .func (.yield<|w.heap.size+1) #[] #[]:=rfl;simp[resolve,Deferred.ofValue,ha.1.eval hg,hc0]
  ·simp[invoke,hit.1]
  ·refine pW.2<|hc.mono ?_;rintro _ w' ⟨F',v,le,rfl, -,hw'⟩;cases c with
   | next s=>
    have hw2:SH w' F' (star (yS F (w.heap.size+1) L I J (.next s) F')<|Qh [pt w.heap.size<|.deferred<|some []]):=hw'.mono λm hm=>WM hm;obtain⟨F0,hs',h0,h1,hI',h3⟩:=SH.dv hw2;refine⟨none,_,DP<|SH.fl (k:=0) rfl h3,?_⟩;have h4:SH _ F' (Qh<|pt w.heap.size (.deferred<|some [])::hs'):=(SH.dF 0<|SH.putAt (k:=0) rfl h3<|Ao L none).mono λm hm=>WM hm;exact next w.heap.size F0 F' s hs' h0 h1 hl hI' hm _ _ ⟨⟨ha.1.1,by simp[ha.1.2.1],ha.1.2.2⟩,h4⟩
   | done b=>
    have hw2:SH w' F' (star (yS F (w.heap.size+1) L I J (.done b) F')<|Qh [pt w.heap.size<|.deferred<|some []]):=hw'.mono λm hm=>WM hm;obtain⟨F0,hs',h0,h1,hI',h3⟩:=SH.cW hw2;refine⟨some .ret,_,Mp<|SH.fl (k:=0) rfl h3,?_⟩;have h4:SH _ F' (Qh<|pt w.heap.size (.deferred<|some [])::hs'):=(SH.dF 0<|SH.putAt (k:=0) rfl h3<|Ao L<|some .ret).mono λm hm=>WM hm;exact done w.heap.size F0 F' b hs' h0 h1 hl hI' hm _ _ ⟨⟨ha.1.1,by simp[ha.1.2.1],ha.1.2.2⟩,h4⟩
end
theorem yv{K V:Type}[BEq K]{ck:K->Do}{rv:Fz->V->Do->Prop}{p:H1 Nat}{l:UV (K×V)}(h:WA ck rv F p l)
  (hcl:∀b es clock w,w.heap[b]? =some (.map es clock)->Calls P f #[.map<|some b] w λe w' =>e= .returned (.map<|some w.heap.size)/\w' =w.alloc (.map es clock)) (w:TO) (R:HP) (hw:SH w F R):Calls P f #[.map p] w (λe w' =>∃b,e= .returned (.map<|some b)/\SH w' F (star (QW ck rv F b l) R)):=by
 obtain⟨b,es,c,l',rfl,h0,h00,h1,h2,h3⟩:=h;refine(hcl b es c w<|hw.frozen h1).mono ?_;rintro e w' ⟨rfl,rfl⟩;exact⟨_,rfl,(hw.alloc<|.map es c).mono λm hm=>QQ (λm hm=>⟨l',h0,h00,es,c,hm,h2,h3⟩) hm⟩
end
end Go.Dec
end
