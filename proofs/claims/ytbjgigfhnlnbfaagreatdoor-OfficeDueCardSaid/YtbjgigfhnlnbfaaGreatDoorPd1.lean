/- For OfficeDue. -/
import Derived.Test.YtbjgigfhnlnbfaaGreatDoorPd0
import Derived.RecoverIn
import Derived.LaidEql
noncomputable section
namespace Go.Dec
abbrev RK:=@Bool.not_true
abbrev L4:=@Prod.mk.injEq
abbrev IF:=@List.mem_cons_of_mem
abbrev s5:=@List.filter_congr
abbrev mY:=@List.filter_cons
abbrev mb:=@beq_iff_eq
abbrev mc:=@List.nodup_cons
abbrev mw:=@Bool.and_true
abbrev lH:=@List.filter_eq_self
abbrev lI:=@List.find?_cons
abbrev lP:=@List.getElem_map
abbrev lT:=@List.append_of_mem
abbrev lY:=@List.map_map
abbrev eF:=@LawfulBEq.eq_of_beq
abbrev eT:=@List.length_map
abbrev ed:=@List.pairwise_iff_getElem
abbrev oM:=@Array.contains_push
abbrev oU:=@Nat.ne_of_lt
abbrev oV:=@Nat.lt_trichotomy
abbrev oY:=@List.map_set
abbrev o5:=@List.head?_cons
abbrev o6:=@List.filter_map
abbrev iB:=@List.nodup_nil
abbrev iF:=@leavesIn_cons
abbrev iM:=@List.eraseIdx_cons_zero
abbrev iW:=@callsIn_of_wp_defers
abbrev iZ:=@List.eraseIdx_set_eq
abbrev ia:=@Bool.not_or
abbrev ic:=@List.filter_sublist
abbrev ig:=@Array.toList_modify
abbrev iu:=@callsDIn_of_wpSIn
end Go.Dec
namespace Go.Dec
section
variable{K V α β:Type}{l l' l1:Q0 (K×V)}{es:S1 dO}{p:Q2 Nat}{w:B1}{b γ j c:Nat}{xs:Q0 α}{T:S1 A4}{F F0 G:Fz}{k:K}{vv zv:K2}{H:HP}{x:α}
variable{O:Q2 Nat}{μ:Md}
theorem ZO.at{p:Q2 C3}{x:Q2 Nat}{i:Nat}(h:ZO γ F p x)(e:x=some i):∃b,UJ γ F i b/\p=some ⟨b,0,none⟩:=by subst e;exact h
theorem Zx.at{x:Q2 Nat}{i:Nat}(h:Zx γ F p x)(e:x=some i):∃b,UJ γ F i b/\p=some b:=by subst e;exact h
theorem ZZ{a:Q0 α}{y:α}(h:xs[j]? =some x)(e:a=xs.set j y):a[j]? =some y:=by
 subst e;rw[my];simp[(Do.1 h).1]
section
variable{α:Type}{γ T j b:Nat}{c:U2 α}{xs:Q0 α}{x:α}{F F0:Fz}{w:B1}{H:HP}
theorem SH.aY(h:SH w F (star (ZC γ (Wk T c) F0 xs) H))(d:UJ γ F j b)(e:xs[j]? =some x):∃vs:Q0 K2,(∀a,F0<=a->c a x vs)/\w.heap[b]? =some (.cells vs.toArray T):=by
 obtain⟨m,⟨n,_,_,f,_,⟨vs,g,i⟩,_⟩,k⟩:=h.ab d e;exact⟨vs,g,k.rO<|f _ _ i⟩
theorem SH.rH{o:Nat}{us:Q0 K2}{x' :α}(h:SH w F (star (ZC γ (Wk T c) F0 xs) H))(r:UJ γ F j b)(g:xs[j]? =some x)(e:F0<=G)(s:∀a vs,G<=a->c a x vs->c a x' (Ku vs o us)):∃vs:Q0 K2,(∀a,F0<=a->c a x vs)/\w.heap[b]? =some (.cells vs.toArray T)/\SH (Dec.put w b<|.cells (Ku vs o us).toArray T) F (star (ZC γ (Wk T c) G<|xs.set j x') H):=by
 obtain⟨m,⟨t,u,d,i,v,⟨vs,n,q⟩,y⟩,k⟩:=h.ab r g;have hs:SH w F (star (pt b<|.cells vs.toArray T)<|star (hole γ (Wk T c) F0 j b xs) H):=⟨m,⟨t,u,d,i,v,q,y⟩,k⟩;refine⟨vs,n,k.rO<|i _ _ q,?_⟩;have z:=hs.put (o' :=.cells (Ku vs o us).toArray T);refine SH.tN (F0:=F0) (b:=b) Wk.stays e (z.mono λm f=>QR (λm f=>⟨Ku vs o us,λa le=>s a vs le<|n a<|Fz.le_trans e le,f⟩) f) (Do.1 g).1
end
section
variable{β:Type}{P:C1}{ops:S1 Rw}{rest:Q0 Rw}{ks:Q0 Kt}{Q:gw->Act->B1->Prop}{m:Q2 β}{r:β}
variable{n:Nat}{D:Q0 TO}{S:Q0 (Nat×K2)}{F F0:Fz}{hs:Q0 HP}
variable{d:Nat}{d' :Q2 Nat}{ty t e:A4}{pos:String}{after:S1 ll}{ox oy oz:IR}{v:K2}
theorem GG.cE{a:C3}{p:Q2 C3}(f:p=some a)(g:Nat.blt d n=true)(h:QP S ox=some (.pointer p))(k:GL μ P ops rest ks Q (Hd n D ((d,.pointer<|some a)::S) F hs) m r):GL μ P ops (⟨some d,.nilCheck ox,ty,pos,after,none⟩::rest) ks Q (Hd n D S F hs) m r:=by
 subst f;exact GG.nilCheck g h k
section
variable{α:Type}{γ T j b o:Nat}{c:U2 α}{xs:Q0 α}{x:α}
theorem GG.cI{Φ:K2->Prop}(i:Nat)(hi:hs[i]? =some (ZC γ (Wk T c) F0 xs))(g:F0<=F)(q:UJ γ F j b)(h:xs[j]? =some x)(s:Nat.blt d n=true)(u:∀w,(isAgg t).run P w= .ok false w)
  (y:QP S ox=some (.pointer<|some ⟨b,o,none⟩)) (z:∀vs,c F x vs->∃v,vs[o]? =some v/\Φ v) (k:∀v,Φ v->GL μ P ops rest ks Q (Hd n D ((d,v)::S) F hs) m r):GL μ P ops (⟨some d,.load t ox,ty,pos,after,none⟩::rest) ks Q (Hd n D S F hs) m r:=by
 refine GG.sh rfl rfl λA a w f=> ?_;obtain⟨vs,B,C⟩:=(f.2.pull hi).aY q h;obtain⟨v,E,hΦ⟩:=z _<|B F g;refine⟨v,?_,k v hΦ A _ _ ⟨f.1.put s _,f.2⟩⟩;simp[execOp,f.1.eval y,D6 u (by rw[cell_of_heap C];exact E)]
theorem GG.sb{z:Nat}{Φ:Q0 K2->Prop}(i:Nat)(hi:hs[i]? =some (ZC γ (Wk T c) F0 xs))(g:F0<=F)(s:UJ γ F j b)(h:xs[j]? =some x)(u:Nat.blt d n=true)(y:∀w,(isAgg t).run P w= .ok true w)(A:∀w,(sizeOf t).run P w= .ok z w)
  (B:QP S ox=some (.pointer<|some ⟨b,o,none⟩)) (C:∀vs,c F x vs->∃us,(vs.drop o).take z=us/\us.length=z/\Φ us) (k:∀us,Φ us->GL μ P ops rest ks Q (Hd n D ((d,.agg us.toArray)::S) F hs) m r):GL μ P ops (⟨some d,.load t ox,ty,pos,after,none⟩::rest) ks Q (Hd n D S F hs) m r:=by
 refine GG.sh rfl rfl λE a w f=> ?_;obtain⟨vs,I,L⟩:=(f.2.pull hi).aY s h;obtain⟨us,M,q,hΦ⟩:=C _<|I F g;refine⟨.agg us.toArray,?_,k us hΦ E _ _ ⟨f.1.put u _,f.2⟩⟩;simp[execOp,f.1.eval B,Su y A L M q]
theorem GG.cZ{N g:Nat}{us:Q0 K2}{x' :α}{xs' :Q0 α}(i:Nat)(hi:hs[i]? =some (ZC γ (Wk T c) F0 xs))(h:F0<=G)(y:G<=F)(C:∀q vs,c q x vs->vs.length=N)(E:∀w,(sizeOf t).run P w= .ok g w)(I:UJ γ F j b)(z:xs[j]? =some x)
  (L:QP S ox=some (.pointer<|some ⟨b,o,none⟩)) (M:QP S oy=some v) (R:v.cells=us.toArray) (s:us.length=g) (W:us.all Value.oneCell' =true) (A:Nat.ble (o+g) N=true)
  (X:∀q vs,G<=q->c q x vs->c q x' (Ku vs o us)) (he:xs' =xs.set j x')
  (k:GL O P ops rest ks Q (Hd n D S F<|hs.set i<|ZC γ (Wk T c) G xs') m r):GL O P ops (⟨none,.store t ox oy,ty,pos,after,none⟩::rest) ks Q (Hd n D S F hs) m r:=by
 subst he;refine GG.ad rfl (.inr rfl) λY a w u=> ?_;obtain⟨vs,Z,g2,g3⟩:=(u.2.pull hi).rH (o:=o) (us:=us) I z h X;have hl:=C _ _<|Z F<|Fz.le_trans h y;have B:=AC A;refine⟨_,?_,k Y _ _ ⟨u.1.c6 _,SH.push hi g3⟩⟩;have f:=XP (P:=P) (o:=o) (i:=0) g2 qz W;simp only[oW] at f
 simp only[execOp,Instr.storeAt,u.1.eval L,u.1.eval M,Instr.sureAddr,storeVar,wt,E,Result.andThen,R];simp[s,f]
end
section
variable{K V:Type}[BEq K][LawfulBEq K]
theorem Aw:∀{l:Q0 (K×V)} {k:K} {v:V},Qb l k=some v->(k,v)∈l
 | [],_,_,h=>by cases h
 | x::l,k,v,h=>by
  simp only[Qb] at h
  split at h
  ·rename_i a;simp only[UV] at h
   have:=eF a;subst this;subst h;simp
  ·exact IF _<|Aw h
theorem Dh:∀{l:Q0 (K×V)} {k:K} {v:V},(l.map Prod.fst).Nodup->(k,v)∈l->Qb l k=some v
 | [],_,_,_,h=>by cases h
 | x::l,k,v,a,h=>by
  simp only[Of,mc] at a
  simp only[Qb];rcases Tc.1 h with h | h
  ·subst h;simp
  ·have g:(k==x.1)=false:=by
    cases i:k==x.1 with
    | false=>rfl
    | true=>exact absurd (kx (f:=Prod.fst) h) (by have:=eF i;rw[this];exact a.1)
   rw[g];exact Dh a.2 h
theorem WC{l l' :Q0 (K×V)}{k:K}(a:l'.Perm l)(g:(l.map Prod.fst).Nodup):Qb l' k=Qb l k:=by
 have f:(l'.map Prod.fst).Nodup:=(a.map _).nodup_iff.2 g;cases h:Qb l k with
 | some v=>exact Dh f (a.mem_iff.2<|Aw h)
 | none=>
  cases h' :Qb l' k with
  | none=>rfl
  | some v=>rw[Dh g<|a.mem_iff.1<|Aw h'] at h;cases h
theorem Ej{l:Q0 (K×V)}{k:K}(h:k∉l.map Prod.fst):l.filter (λx=> !(k==x.1))=l:=
 lH.2 λx a=>by
  cases g:k==x.1 with
  | false=>rfl
  | true=>exact absurd (by have:=eF g;rw[this];exact kx (f:=Prod.fst) a) h
theorem Jr:∀{l:Q0 (K×V)} {k:K} {v:V},(l.map Prod.fst).Nodup->(Q4 l k v).Perm ((k,v)::l.filter (λx=> !(k==x.1)))
 | [],_,_,_=>.refl _
 | x::l,k,v,a=>by
  simp only[Of,mc] at a
  simp only[Q4,mY];cases f:k==x.1 with
  | true=>
   have:=eF f;simp only[B3,RK,H1,By];rw[Ej (by rw[this];exact a.1)]
  | false=>
   simp only[H1,By,u0,B3];exact((Jr a.2).cons x).trans<|.swap _ _ _
theorem JQ{l:Q0 (K×V)}{k:K}{v:V}(a:(l.map Prod.fst).Nodup):((Q4 l k v).map Prod.fst).Nodup:=by
 rw[((Jr a).map Prod.fst).nodup_iff];simp only[Of,mc,n2,s6,not_exists,not_and,and_imp];refine⟨λx _ f e=> ?_,(a.sublist<|(ic (l:=l)).map _)⟩;rw[e] at f;simp at f
theorem GK{l l' :Q0 (K×V)}{k:K}{v:V}(a:l'.Perm l)(f:(l.map Prod.fst).Nodup):(Q4 l' k v).Perm (Q4 l k v):=(Jr<|(a.map _).nodup_iff.2 f).trans (((a.filter _).cons _).trans (Jr f).symm)
def J4[BEq K]:Q0 (K×V)->K->Q0 (K×V)
 | [],_=>[]
 | x::l,k=>if k==x.1 then l else x::J4 l k
theorem XD:∀{l:Q0 (K×V)} {k:K},(l.map Prod.fst).Nodup->J4 l k=l.filter (λx=> !(k==x.1))
 | [],_,_=>rfl
 | x::l,k,a=>by
  simp only[Of,mc] at a
  simp only[J4,mY];cases f:k==x.1 with
  | true=>
   have:=eF f;simp only[B3,RK,H1,By];rw[Ej (by rw[this];exact a.1)]
  | false=>
   simp only[H1,By,u0,B3];rw[XD a.2]
theorem Bl{l:Q0 (K×V)}{k:K}(a:(l.map Prod.fst).Nodup):((J4 l k).map Prod.fst).Nodup:=by
 rw[XD a];exact a.sublist<|(ic (l:=l)).map _
theorem C9{l l' :Q0 (K×V)}{k:K}(a:l'.Perm l)(f:(l.map Prod.fst).Nodup):(J4 l' k).Perm (J4 l k):=by
 rw[XD f,XD<|(a.map _).nodup_iff.2 f];exact a.filter _
end
def QY(ck:K->K2)(rv:Fz->V->K2->Prop)(F:Fz)(b:Nat)(l:Q0 (K×V)):HP:=λm=>∃l' :Q0 (K×V),l'.Perm l/\(l.map Prod.fst).Nodup/\Gg ck rv F b l' m
section
variable{K V:Type}{ck:K->K2}{rv:Fz->V->K2->Prop}{F F' F0:Fz}{b:Nat}{l:Q0 (K×V)}
theorem Ji{m:Mem}(le:F<=F')(h:QY ck rv F b l m):QY ck rv F' b l m:=let⟨l',a,f,g⟩:=h;⟨l',a,f,yA le g⟩
theorem He:Hm (α:=Q0<|K×V) (QY ck rv):=λ_ _ _ _ _ le h=>Ji le h
theorem Wy(h:SH w F (star (QY ck rv F0 b l) H)):∃(es:S1 dO) (clock:Nat) (l' :Q0 (K×V)),l'.Perm l/\(l.map Prod.fst).Nodup/\w.heap[b]? =some (.map es clock)/\Uv ck rv F0 es.toList l'/\SH w F (star (pt b<|.map es clock) H)/\YV es.toList clock:=by
 obtain⟨m,⟨a,f,d,g,i,⟨l',o,q,s⟩,u⟩,k⟩:=h;obtain⟨es,c,y,z,A,B⟩:=OX (ck:=ck) (rv:=rv) (F0:=F0) (b:=b) (l:=l') ⟨m,⟨a,f,d,g,i,s,u⟩,k⟩;exact⟨es,c,l',o,q,y,z,A,B⟩
end
section
variable{K V:Type}{ck:K->K2}{rv:Fz->V->K2->Prop}{γ j b:Nat}{xs:Q0 (Q0<|K×V)}{l l' :Q0 (K×V)}{key:K}{val z:V}{kt vt:A4}
theorem SH.ae(h:SH w F (star (ZC γ (QY ck rv) F0 xs) H))(g:UJ γ F j b)(a:xs[j]? =some l):∃(es:S1 dO) (clock:Nat) (l' :Q0 (K×V)),l'.Perm l/\(l.map Prod.fst).Nodup/\w.heap[b]? =some (.map es clock)/\Uv ck rv F0 es.toList l'/\YV es.toList clock:=by
 obtain⟨es,c,l',i,f,o,q,_,s⟩:=Wy<|h.ab g a;exact⟨es,c,l',i,f,o,q,s⟩
theorem SH.pk(h:SH w F (star (ZC γ (QY ck rv) F0 xs) H))(i:UJ γ F j b)(a:xs[j]? =some l)(f:F0<=G){clock:Nat}{l1:Q0 (K×V)}(o:l1.Perm l')(q:(l'.map Prod.fst).Nodup)(s:Uv ck rv G es.toList l1)(u:YV es.toList clock):SH (Dec.put w b<|.map es clock) F (star (ZC γ (QY ck rv) G<|xs.set j l') H):=by
 obtain⟨_,_,_,_,_,_,_,y,_⟩:=Wy<|h.ab i a;have A:=y.put (o' :=.map es clock);exact SH.tN (F0:=F0) (b:=b) He f (A.mono λm g=>QR (λm g=>⟨l1,o,q,es,clock,g,s,u⟩) g) (Do.1 a).1
theorem SH.pB(h:SH w F (star (QY ck rv F0 b l) H)){clock:Nat}{l1:Q0 (K×V)}(f:l1.Perm l')(g:(l'.map Prod.fst).Nodup)(i:Uv ck rv G es.toList l1)(o:YV es.toList clock):SH (Dec.put w b<|.map es clock) F (star (QY ck rv G b l') H):=by
 obtain⟨_,_,_,_,_,_,_,q,_⟩:=Wy h;exact(q.put (o' :=.map es clock)).mono λm a=>QR (λm a=>⟨l1,f,g,es,clock,a,i,o⟩) a
theorem GG.sE(ck:K->K2)(rv:Fz->V->K2->Prop)(h:Nat.blt d n=true)(k:∀b,GL O P ops rest ks Q (Hd n D ((d,.map<|some b)::S) F<|QY ck rv F b []::hs) m r):GL O P ops (⟨some d,.makeMap t none,ty,pos,after,none⟩::rest) ks Q (Hd n D S F hs) m r:=GG.makeMap ck rv h λb=>λf a w g=>k b f a w ⟨g.1,g.2.mono λ_m f=>QR (λ_m f=>⟨[],.refl _,iB,f⟩) f⟩
theorem GG.rQ(i:Nat)(hi:hs[i]? =some (ZC γ (QY ck rv) F0 xs))(f:UJ γ F j b)(q:p=some b)(g:xs[j]? =some l)(s:Nat.blt d n=true)(u:T[0]? =some t)(y:P.underlying t=some (.map kt vt))(A:QP S ox=some (.map p))
  (k:GL μ P ops rest ks Q (Hd n D ((d,.int .i64 l.length)::S) F hs) m r):GL μ P ops (⟨some d,.call ⟨.builtin .len,#[ox],T⟩,ty,pos,after,none⟩::rest) ks Q (Hd n D S F hs) m r:=by
 subst q
 exact GG.val s (λa w o=>by
  obtain⟨es,c,l',h,_,f,B,_⟩:=(o.2.pull hi).ae f g;have:es.size=l.length:=by rw[<-h.length_eq,<-B.len];simp
  simp[execOp,resolve,invoke,builtin,Builtin.len_,o.1.eval A,u,YA y,goInt,YW f,this]) k
variable[BEq K][LawfulBEq K]
omit [LawfulBEq K] in
theorem FY(q:w.heap[b]? =some (.map es c))(B:Uv ck rv F0 es.toList l')(g:F0<=F)(s:P.underlying t=some (.map kt vt))(ok:Xi P kt ck)(h:∀w,(zeroValue vt).run P w= .ok zv w)(C:rv F z zv)(f:Bool):∃v,rv F ((Qb l' key).getD z) v/\(Instr.lookup t (.map<|some b) (ck key) f).run P w= .ok (if f then .tuple #[v,.bool (Qb l' key).isSome] else v) w:=by
 obtain⟨kd,u,a⟩:=ok.und;rcases B.find (k:=key) a ok.eq 0 with⟨i,y,_⟩ | ⟨j,E,M,i,y,A,I,L,_⟩
 ·have o:=run_findKey (w:=w) u y;refine⟨zv,by rw[i];exact C,?_⟩;cases f<;>simp[Instr.lookup,YA s,YW q,ok.check,o,h,i]
 ·have o:=run_findKey (w:=w) u I;refine⟨E.val,by rw[A];exact L F g,?_⟩;cases f<;>simp[Instr.lookup,YA s,YW q,ok.check,o,A]
theorem GG.sa(i:Nat)(hi:hs[i]? =some (ZC γ (QY ck rv) F0 xs))(h:F0<=F)(A:UJ γ F j b)(B:p=some b)(o:xs[j]? =some l)(C:Nat.blt d n=true)(E:P.underlying t=some (.map kt vt))(ok:Xi P kt ck)(q:∀w,(zeroValue vt).run P w= .ok zv w)(I:rv F z zv)(L:QP S ox=some (.map p))(M:QP S oy=some (ck key))
  (k:∀v,rv F ((Qb l key).getD z) v->GL μ P ops rest ks Q (Hd n D ((d,v)::S) F hs) m r):GL μ P ops (⟨some d,.lookup t ox oy false,ty,pos,after,none⟩::rest) ks Q (Hd n D S F hs) m r:=by
 subst B;refine GG.sh rfl rfl λN a w f=> ?_;obtain⟨es,c,l',s,R,u,W,_⟩:=(f.2.pull hi).ae A o;obtain⟨v,y,g⟩:=FY (key:=key) u W h E ok q I false;rw[WC s R] at y
 refine⟨v,?_,k v y N _ _ ⟨f.1.put C _,f.2⟩⟩;simp[execOp,f.1.eval L,f.1.eval M,g]
theorem GG.pn(i:Nat)(hi:hs[i]? =some (ZC γ (QY ck rv) F0 xs))(h:F0<=F)(A:UJ γ F j b)(B:p=some b)(o:xs[j]? =some l)(C:Nat.blt d n=true)(E:P.underlying t=some (.map kt vt))(ok:Xi P kt ck)(q:∀w,(zeroValue vt).run P w= .ok zv w)(I:rv F z zv)(L:QP S ox=some (.map p))(M:QP S oy=some (ck key))
  (k:∀v,rv F ((Qb l key).getD z) v->GL μ P ops rest ks Q (Hd n D ((d,.tuple #[v,.bool (Qb l key).isSome])::S) F hs) m r):GL μ P ops (⟨some d,.lookup t ox oy true,ty,pos,after,none⟩::rest) ks Q (Hd n D S F hs) m r:=by
 subst B;refine GG.sh rfl rfl λN a w g=> ?_;obtain⟨es,c,l',s,R,u,W,_⟩:=(g.2.pull hi).ae A o;obtain⟨v,y,f⟩:=FY (key:=key) u W h E ok q I true;rw[WC s R] at y f
 refine⟨_,?_,k v y N _ _ ⟨g.1.put C _,g.2⟩⟩;simp[execOp,g.1.eval L,g.1.eval M,f]
omit [LawfulBEq K] in
theorem H8{l1:Q0 (K×V)}(o:w.heap[b]? =some (.map es c))(M:Uv ck rv F es.toList l1)(h:YV es.toList c)(A:P.underlying t=some (.map kt vt))(ok:Xi P kt ck)(B:∀C,F<=C->rv C val vv):∃a c',(Instr.mapUpdate t (.map<|some b) (ck key) vv).run P w= .ok () (Dec.put w b<|.map a c')/\Uv ck rv F a.toList (Q4 l1 key val)/\YV a.toList c' :=by
 obtain⟨kd,E,g⟩:=ok.und;rcases M.find (k:=key) g ok.eq 0 with⟨I,s,L⟩ | ⟨u,N,X,I,s,L,R,Y,W⟩
 ·refine⟨es.push {key:=ck key,val:=vv,born:=c},c+1,?_,by simpa using L val {key:=ck key,val:=vv,born:=c} rfl B,by simpa using h.push⟩;have q:=run_findKey (w:=w) E s;simp[Instr.mapUpdate,YA A,YW o,ok.check,q,FX o]
 ·refine⟨es.modify u λe=>{e with key:=ck key,val:=vv},c,?_,by rw[ig];exact W val (λe=>{e with key:=ck key,val:=vv}) rfl B,by rw[ig];exact h.modify (j:=u) (f:=λe=>{e with key:=ck key,val:=vv}) λ_=>rfl⟩;have q:=run_findKey (w:=w) E R;rw[sf] at q
  have i:es[u]? =some N:=by simpa using I
  have y:=ok.same key;simp[Instr.mapUpdate,YA A,YW o,ok.check,q,FX o,i,s,Instr.keyThatStays,y]
theorem GG.sZ{xs' :Q0 (Q0<|K×V)}(i:Nat)(hi:hs[i]? =some (ZC γ (QY ck rv) F0 xs))(g:F0<=F)(y:UJ γ F j b)(C:p=some b)(h:xs[j]? =some l)(E:P.underlying t=some (.map kt vt))(ok:Xi P kt ck)(I:QP S ox=some (.map p))(L:QP S oy=some (ck key))(M:QP S oz=some vv)(N:∀A,F<=A->rv A val vv)(he:xs' =xs.set j (Q4 l key val))
  (k:GL O P ops rest ks Q (Hd n D S F<|hs.set i<|ZC γ (QY ck rv) F xs') m r):GL O P ops (⟨none,.mapUpdate t ox oy oz,ty,pos,after,none⟩::rest) ks Q (Hd n D S F hs) m r:=by
 subst C;subst he;refine GG.ad rfl (.inr rfl) λR a w f=> ?_;obtain⟨es,c,l1,q,B,s,W,u⟩:=(f.2.pull hi).ae y h;obtain⟨X,c',o,Y,Z⟩:=H8 (key:=key) (val:=val) s (W.up g) u E ok N;refine⟨_,?_,k R _ _ ⟨f.1.c6 _,SH.push hi<|(f.2.pull hi).pk y h g (GK q B) (JQ B) Y Z⟩⟩;simp[execOp,f.1.eval I,f.1.eval L,f.1.eval M,o]
theorem GG.sR(i:Nat)(hi:hs[i]? =some (QY ck rv F0 b l))(h:F0<=F)(A:P.underlying t=some (.map kt vt))(ok:Xi P kt ck)(B:QP S ox=some (.map<|some b))(C:QP S oy=some (ck key))(E:QP S oz=some vv)(I:∀u,F<=u->rv u val vv)(he:l' =Q4 l key val)
  (k:GL O P ops rest ks Q (Hd n D S F<|hs.set i<|QY ck rv F b l') m r):GL O P ops (⟨none,.mapUpdate t ox oy oz,ty,pos,after,none⟩::rest) ks Q (Hd n D S F hs) m r:=by
 subst he;refine GG.ad rfl (.inr rfl) λL a w f=> ?_;obtain⟨es,c,l1,o,y,q,M,_,s⟩:=Wy<|f.2.pull hi;obtain⟨N,c',g,R,W⟩:=H8 (key:=key) (val:=val) q (M.up h) s A ok I;refine⟨_,?_,k L _ _ ⟨f.1.c6 _,SH.push hi<|(f.2.pull hi).pB (GK o y) (JQ y) R W⟩⟩;simp[execOp,f.1.eval B,f.1.eval C,f.1.eval E,g]
theorem GG.cX(i:Nat)(hi:hs[i]? =some (QY ck rv F0 b l))(h:F0<=F)(A:P.underlying t=some (.map kt vt))(ok:Xi P kt ck)(B:QP S ox=some (.map<|some b))(C:QP S oy=some (ck key))(E:QP S oz=some vv)(I:∀u,F<=u->rv u val vv)(he:l' =Q4 l key val)
  (k:GL O P ops rest ks Q (Hd n D S F<|hs.set i<|QY ck rv F b l') m r):GL O P ops (⟨none,.insert t ox oy oz,ty,pos,after,none⟩::rest) ks Q (Hd n D S F hs) m r:=by
 subst he;refine GG.ad rfl (.inr rfl) λL a w f=> ?_;obtain⟨es,c,l1,o,y,q,M,_,s⟩:=Wy<|f.2.pull hi;obtain⟨N,c',g,R,W⟩:=H8 (key:=key) (val:=val) q (M.up h) s A ok I;refine⟨_,?_,k L _ _ ⟨f.1.c6 _,SH.push hi<|(f.2.pull hi).pB (GK o y) (JQ y) R W⟩⟩;simp[execOp,f.1.eval B,f.1.eval C,f.1.eval E,g]
omit [LawfulBEq K] in
theorem Uv.del{kd:oE}{k:K}(h:∀a b,Instr.sameNow kd (ck a) (ck b)=some (a==b)):∀{es:Q0 dO} {l:Q0 (K×V)} (g:Nat),Uv ck rv F es l->
   (Instr.findNow kd (ck k) es g=some none/\J4 l k=l)∨
   (∃j e,Instr.findNow kd (ck k) es g=some (some (g+j,e))/\j < es.length/\Uv ck rv F (es.eraseIdx j) (J4 l k))
 | [],[],_,_=>.inl ⟨rfl,rfl⟩
 | e::es,x::l,g,⟨i,y,u⟩=>by
  by_cases o:(k==x.1)=true
  ·right;refine⟨0,e.val,by simp[Instr.findNow,i,h,o],by simp,?_⟩;simp only[J4,o,B3,iM];exact u
  ·have f:(k==x.1)=false:=by simpa using o
   rcases Uv.del (k:=k) h (g+1) u with⟨q,s⟩ | ⟨j,A,q,s,B⟩
   ·left;exact⟨by simp[Instr.findNow,i,h,f,q],by simp[J4,f,s]⟩
   ·right;refine⟨j+1,A,by simp[Instr.findNow,i,h,f,q];omega,by simpa using s,?_⟩;simp only[J4,f,H1,By,lb];exact⟨i,y,B⟩
omit [LawfulBEq K] in
theorem ze{l1:Q0 (K×V)}(h:w.heap[b]? =some (.map es c))(u:Uv ck rv F es.toList l1)(g:YV es.toList c)(y:T[0]? =some t)(A:P.underlying t=some (.map kt vt))(ok:Xi P kt ck):∃a:S1 dO,(Builtin.delete_ T ty #[.map<|some b,ck key]).run P w= .ok (.tuple #[]) (Dec.put w b<|.map a c)/\Uv ck rv F a.toList (J4 l1 key)/\YV a.toList c:=by
 obtain⟨kd,B,f⟩:=ok.und;rcases u.del (k:=key) f 0 with⟨o,q⟩ | ⟨s,I,o,q,E⟩
 ·have i:=run_findKey (w:=w) B o;refine⟨es,?_,by rw[q];exact u,g⟩;simp[Builtin.delete_,y,YA A,YW h,ok.check,i,FX h]
 ·have C:s < es.size:=by simpa using q
  have i:=run_findKey (w:=w) B o;rw[sf] at i
  refine⟨es.eraseIdxIfInBounds s,?_,by simpa[Array.eraseIdxIfInBounds,C] using E,by simpa[Array.eraseIdxIfInBounds,C] using g.erase (j:=s)⟩;simp[Builtin.delete_,y,YA A,YW h,ok.check,i,FX h]
theorem GG.rZ{xs' :Q0 (Q0<|K×V)}(i:Nat)(hi:hs[i]? =some (ZC γ (QY ck rv) F0 xs))(u:UJ γ F j b)(A:p=some b)(g:xs[j]? =some l)(B:∀e,d' =some e->Nat.blt e n=true)(C:T[0]? =some t)(E:P.underlying t=some (.map kt vt))(ok:Xi P kt ck)(I:QP S ox=some (.map p))(L:QP S oy=some (ck key))(he:xs' =xs.set j (J4 l key))
  (k:GL O P ops rest ks Q (Hd n D (match d' with | some e=>(e,.tuple #[])::S | none=>S) F<|hs.set i<|ZC γ (QY ck rv) F0 xs') m r):GL O P ops (⟨d',.call ⟨.builtin .delete,#[ox,oy],T⟩,ty,pos,after,none⟩::rest) ks Q (Hd n D S F hs) m r:=by
 subst A;subst he;refine GG.step rfl (.inr rfl) λM a w f=> ?_;obtain⟨es,c,l1,o,y,q,N,s⟩:=(f.2.pull hi).ae u g;obtain⟨R,h,W,X⟩:=ze (key:=key) (ty:=ty) q N s C E ok;refine⟨.tuple #[],_,?_,k M _ _ ⟨?_,SH.push hi<|(f.2.pull hi).pk u g (Fz.le_refl _) (C9 o y) (Bl y) W X⟩⟩
 ·simp[execOp,resolve,invoke,builtin,f.1.eval I,f.1.eval L,h]
 ·cases d' with
  | none=>exact f.1.c6 _
  | some e=>exact f.1.put (B e rfl) _
end
end
section
variable{β:Type}{X:Act->B1->Prop}{m:Q2 β}{r:β}{n:Nat}{D:Q0 TO}{S:Q0 (Nat×K2)}{F F0:Fz}{hs:Q0 HP}
variable{α:Type}{γ:Nat}{C:Fz->Nat->α->HP}{xs xs' :Q0 α}{b:Nat}{x:α}
theorem GG.sc{g:Gp}{p:HP}(k i:Nat)(h:hs[k]? =some p)(hi:(hs.eraseIdx k)[i]? =some (ZC γ C F0 xs))(o:Hm C)(le:F0<=F)(q:∀d m,F<=d->p m->C d b x m)(he:xs' =xs++[x])
  (K:∀d,F<=d->UJ γ d xs.length b->GG g (Hd n D S d<|(hs.eraseIdx k).set i<|ZC γ C d xs') m r):GG g (Hd n D S F hs) m r:=by
 exact λe a w f=>by
  subst he;have s:SH w F (star p<|star (ZC γ C F0 xs)<|Qg<|(hs.eraseIdx k).eraseIdx i):=(f.2.pull h).mono λm e=>QS (λ_=>Vc hi) e;obtain⟨d,l,t,u⟩:=SH.ry o le s q;exact K d l t e a w ⟨f.1,SH.push hi u⟩
theorem GG.tI{g:Gp}(C:Fz->Nat->α->HP)(i:Nat)(hi:hs[i]? =some (vC γ []))(K:GG g (Hd n D S F<|hs.set i<|ZC γ C F []) m r):GG g (Hd n D S F hs) m r:=by
 exact λd a w f=>
  K d a w ⟨f.1,SH.push hi<|(f.2.pull hi).mono λm d=>QR (λm d=>⟨[],rfl,m,λ_=>none,λ_=>.inr rfl,Mem.sub.refl _,λ_ _ e=>by simp at e,d,trivial⟩) d⟩
theorem GG.sg{g:Gp}(K:∀γ d,F<=d->GG g (Hd n D S d<|vC γ []::hs) m r):GG g (Hd n D S F hs) m r:=by
 exact λf a w e=>by
  obtain⟨le,h⟩:=e.2.sg;exact K _ _ le f a w ⟨e.1,h⟩
end
section
variable{β σ γ:Type}{A:Act->B1->Prop}
theorem Q5.aA{I:σ->Act->B1->Prop}{Dn:γ->gw->Act->B1->Prop}{b:γ}{d:UP σ γ}{c:Q0 PanicEntry}(h:∀a w,A a w->Dn b (.panic c) a w):some (UP.done b)=some d->∀a w,A a w->Q5 I Dn d (.panic c) a w:=λe a w f=>by
 simp only[UV] at e;subst e;exact⟨by simp,h a w f⟩
end
end
section
variable{α β ε G ι:Type}{ρ:α->Fz->K2->Prop}{caps vs as:Q0 K2}{f:L3}{os:Q0 IR}{Hs':α->Fz->K2->Q0 HP}{g:α->Q2 β}{of:IR}{e:Q2 (Out ε α)}{Hs hs:Q0 HP}{Q:gw->Act->B1->Prop}{S:Q0 (Nat×K2)}{P:C1}{gp:ε->Q2 β}{p:Q2 C3}{F F':Fz}{w:B1}{m:Q2 β}{γ n b b' i j:Nat}{penc:ε->K2}{ks:Q0 Kt}{after:S1 ll}{D:Q0 TO}{ops:S1 Rw}{rest:Q0 Rw}{T:S1 A4}{x:Q2 Nat}{em:Q2 α}{fn:lg}{pos:String}{xs:Q0 α}{ty t':A4}{c:U2 α}{r:β}
variable{O:Q2 Nat}{μ:Md}
def Qw(e:Q2 (Out ε α))(gp:ε->Q2 β)(g:α->Q2 β):Q2 β:=match e with
 | none=>none
 | some (.ok x)=>g x
 | some (.pan q)=>gp q
def TM(P:C1)(penc:ε->K2)(F:Fz)(f:L3)(k:Q0 K2×Q0 K2)(arg:ι->Fz->Q0 K2->Prop)(d:Fz->ι->Q0 HP)(ρ:β->Fz->K2->Prop)(a:Fz->ι->β->Q0 HP)(m:ι->Q2 (Out ε β)):Prop:=(∀args w,(callFunc f args).run P w= .ok (.enter f args) w)/\∀F',F<=F'->∀x vs,arg x F' vs->Vn P penc f (k.1++vs++k.2).toArray F' (d F' x) (m x) ρ (λr h _=>a h x r)
theorem TM.mono{k:Q0 K2×Q0 K2}{arg:ι->Fz->Q0 K2->Prop}{d:Fz->ι->Q0 HP}{ρ:β->Fz->K2->Prop}{a:Fz->ι->β->Q0 HP}{m:ι->Q2 (Out ε β)}(h:TM P penc F f k arg d ρ a m)(le:F<=F'):TM P penc F' f k arg d ρ a m:=⟨h.1,λG l=>h.2 G<|Fz.le_trans le l⟩
section
variable{ε β:Type}{P:C1}{penc:ε->K2}{ops:S1 Rw}{rest:Q0 Rw}{ks:Q0 Kt}{Q:gw->Act->B1->Prop}{m:Q2 β}{r:β}
variable{n:Nat}{D:Q0 TO}{S:Q0 (Nat×K2)}{F F0:Fz}{hs:Q0 HP}
variable{d:Nat}{ty t:A4}{pos:String}{after:S1 ll}{ox oy:IR}{T:S1 A4}
theorem GG.nD{A:Act->B1->Prop}{args:S1 K2}{o:Rw}{e:Q2 (Out ε α)}{g:α->Q2 β}{gp:ε->Q2 β}(is:Q0 Nat)(I:Nat.blt d n=true)(K:o.guard=none)(s:o.dst=some d)(z:HB o.op=true)
  (L:∀a w,A a w->Hd n D S F hs a w/\(execOp a.eval o).run P w= .ok (.enter f args) w) (hi:YJ is hs=Hs)
  (M:Vn P penc f args F Hs e ρ Hs') (k:∀x F' v,e=some (.ok x)->F<=F'->ρ x F' v->GL O P ops rest ks Q (Hd n D ((d,v)::S) F'<|Hs' x F' v++J9 is hs) (g x) r)
  (N:∀q F',e=some (.pan q)->F<=F'->gp q=some r->∀a w,Hd n D S F' (J9 is hs) a w->Q (.panic [{v:=penc q,recovered:=false}]) a w):GL O P ops (o::rest) ks Q A (Qw e gp g) r:=by
 intro l a w B;obtain⟨C,u⟩:=L a w B;cases he:e with
 | none=>rw[he] at l;cases l
 | some y=>
  rw[he] at l
  have E:SH w F (star (Qg Hs)<|Qg<|J9 is hs):=C.2.mono λm l=>by
   have:=UG (ks:=is) l;rw[hi] at this;exact this
  refine fo ?_;unfold W8;rw[Bm<|by simp[Region.wanted,K]];refine⟨.inr z,?_⟩;rw[u];refine⟨λe=>(by rw[BN] at e;cases e),Eo.2<|(M y he w _ E).mono ?_⟩;rintro V w' ⟨F',le,h⟩;cases y with
  | ok x=>
   obtain⟨v,rfl,hρ,H⟩:=h;have R:=k x F' v he le hρ l _ _ ⟨C.1.put I v,H.mono λ_=>K7⟩;simp only[s];exact R
  | pan q=>
   obtain⟨rfl,H⟩:=h;exact K9<|N q F' he le l _ _ ⟨C.1,H⟩
theorem GG.cM{e:Q2 (Out ε α)}{g:α->Q2 β}{gp:ε->Q2 β}(is:Q0 Nat)
  (o:Nat.blt d n=true) (h:∀args w,(callFunc f args).run P w= .ok (.enter f args) w) (s:QP S of=some (.func (.func f) #[] caps.toArray)) (u:Uk S os=some vs) (has:vs++caps=as) (hi:YJ is hs=Hs)
  (y:Vn P penc f as.toArray F Hs e ρ Hs') (k:∀x F' v,e=some (.ok x)->F<=F'->ρ x F' v->GL O P ops rest ks Q (Hd n D ((d,v)::S) F'<|Hs' x F' v++J9 is hs) (g x) r)
  (z:∀q F',e=some (.pan q)->F<=F'->gp q=some r->∀a w,Hd n D S F' (J9 is hs) a w->Q (.panic [{v:=penc q,recovered:=false}]) a w):GL O P ops (⟨some d,.call ⟨.value of,os.toArray,T⟩,ty,pos,after,none⟩::rest) ks Q (Hd n D S F hs) (Qw e gp g) r:=by
 subst has;exact GG.nD is o rfl rfl rfl (λa w l=>⟨l,Wx l.1 h s u⟩) hi y k z
theorem jv{a:Act}{first:Q0 K2}(hs:Sl n D S a)(h:∀args w,(callFunc f args).run P w= .ok (.enter f args) w)
  (l:QP S of=some (.func (.func f) first.toArray caps.toArray)) (o:Uk S os=some vs) {k:Q2 Tmp}:(execOp a.eval ⟨k,.call ⟨.value of,os.toArray,T⟩,ty,pos,after,none⟩).run P w= .ok (.enter f (first++vs++caps).toArray) w:=by
 have e:=HO hs o;simp[execOp,resolve,Deferred.ofValue,hs.eval l,e,invoke,h]
theorem GG.rF{s:Q0 K2×Q0 K2}{arg:ι->Fz->Q0 K2->Prop}{l:Fz->ι->Q0 HP}{h:Fz->ι->α->Q0 HP}{o:ι->Q2 (Out ε α)}{x:ι}{g:α->Q2 β}{gp:ε->Q2 β}(is:Q0 Nat)
  (B:Nat.blt d n=true) (z:TM P penc F f s arg l ρ h o) (C:QP S of=some (.func (.func f) s.1.toArray s.2.toArray)) (E:Uk S os=some vs) (H:arg x F vs) (hi:YJ is hs=Hs) (u:l F x=Hs)
  (k:∀y F' v,o x=some (.ok y)->F<=F'->ρ y F' v->GL O P ops rest ks Q (Hd n D ((d,v)::S) F'<|h F' x y++J9 is hs) (g y) r)
  (I:∀q F',o x=some (.pan q)->F<=F'->gp q=some r->∀a w,Hd n D S F' (J9 is hs) a w->Q (.panic [{v:=penc q,recovered:=false}]) a w):GL O P ops (⟨some d,.call ⟨.value of,os.toArray,T⟩,ty,pos,after,none⟩::rest) ks Q (Hd n D S F hs) (Qw (o x) gp g) r:=by
 subst u;exact GG.nD is B rfl rfl rfl (λa w A=>⟨A,jv A.1 z.1 C E⟩) hi (z.2 F (Fz.le_refl F) x vs H) k I
theorem GG.tt{e:Q2 (Out ε α)}{x:α}(he:e=some (.ok x))(is:Q0 Nat)
  (o:Nat.blt d n=true) (a:∀args w,(callFunc f args).run P w= .ok (.enter f args) w) (s:QP S of=some (.func (.func f) #[] caps.toArray)) (u:Uk S os=some vs) (has:vs++caps=as) (hi:YJ is hs=Hs)
  (y:Vn P penc f as.toArray F Hs e ρ Hs') (k:∀F' v,F<=F'->ρ x F' v->GL O P ops rest ks Q (Hd n D ((d,v)::S) F'<|Hs' x F' v++J9 is hs) m r):GL O P ops (⟨some d,.call ⟨.value of,os.toArray,T⟩,ty,pos,after,none⟩::rest) ks Q (Hd n D S F hs) m r:=by
 have h:=GG.cM (O:=O) (P:=P) (penc:=penc) (ops:=ops) (rest:=rest) (ks:=ks) (Q:=Q) (r:=r) (n:=n) (D:=D) (S:=S) (F:=F) (hs:=hs) (d:=d) (ty:=ty) (pos:=pos) (after:=after) (T:=T) (g:=λ_=>m) (gp:=λ_=>(none:Q2 β)) is o a s u has hi y
  (λx' F' v l le hρ=>by rw[he] at l;cases l;exact k F' v le hρ) (λq F' l _ z=>by cases z)
 rw[he] at h
 exact h
theorem GG.a8{e:Q2 (Out ε α)}{q:ε}(he:e=some (.pan q))(is:Q0 Nat)
  (o:Nat.blt d n=true) (l:∀args w,(callFunc f args).run P w= .ok (.enter f args) w) (s:QP S of=some (.func (.func f) #[] caps.toArray)) (u:Uk S os=some vs) (has:vs++caps=as) (hi:YJ is hs=Hs)
  (y:Vn P penc f as.toArray F Hs e ρ Hs') (z:∀F',F<=F'->m=some r->∀a w,Hd n D S F' (J9 is hs) a w->Q (.panic [{v:=penc q,recovered:=false}]) a w):GL O P ops (⟨some d,.call ⟨.value of,os.toArray,T⟩,ty,pos,after,none⟩::rest) ks Q (Hd n D S F hs) m r:=by
 have h:=GG.cM (O:=O) (P:=P) (penc:=penc) (ops:=ops) (rest:=rest) (ks:=ks) (Q:=Q) (r:=r) (n:=n) (D:=D) (S:=S) (F:=F) (hs:=hs) (d:=d) (ty:=ty) (pos:=pos) (after:=after) (T:=T) (g:=λ_=>(none:Q2 β)) (gp:=λ_=>m) is o l s u has hi y
  (λx' F' v k _ _=>by rw[he] at k;cases k) (λB F' k le A=>by rw[he] at k;cases k;exact z F' le A)
 rw[he] at h
 exact h
theorem GG.pf{h:Gp}{A:Act->B1->Prop}{e:Q2 (Out ε α)}{g:α->Q2 β}{gp:ε->Q2 β}(k:∀x,e=some (.ok x)->GG h A (g x) r)(l:∀q,e=some (.pan q)->GG h A (gp q) r):GG h A (Qw e gp g) r:=by
 intro a;cases he:e with
 | none=>rw[he] at a;cases a
 | some o=>
  rw[he] at a
  cases o with
  | ok x=>exact k x he a
  | pan q=>exact l q he a
theorem BO{e:A4}(a:P.underlying t=some (.pointer e))(n:Nat):(Op.equalIn (n+1) t (.pointer p)<|.pointer none).run P w= .ok p.isNone w:=by
 cases p<;>simp[Op.equalIn,YA a]
theorem ZO.isNone(h:ZO γ F p x):p.isNone=x.isNone:=by
 cases x with
 | none=>simp[show p=none from h]
 | some i=>obtain⟨b,_,rfl⟩:=h;rfl
theorem GG.sD{e:A4}(h:ZO γ F p x)(o:Nat.blt d n=true)(q:P.underlying t=some (.pointer e))(s:QP S ox=some (.pointer p))(u:QP S oy=some (.pointer none))(k:GL μ P ops rest ks Q (Hd n D ((d,.bool x.isNone)::S) F hs) m r):GL μ P ops (⟨some d,.binOp .eql t ox oy t',ty,pos,after,none⟩::rest) ks Q (Hd n D S F hs) m r:=
 GG.val o (λa w l=>by
  have v:(Op.equal t (.pointer p)<|.pointer none).run P w= .ok p.isNone w:=BO q 9999;have y:P.eqGuardType P.depth t=false∨P.eqGuardType P.depth t=true:=by cases P.eqGuardType P.depth t<;>simp
  simp[execOp,l.1.eval s,l.1.eval u,eqGuard,binOp,v,h.isNone]) k
theorem GG.pS{e:A4}(h:ZO γ F p x)(o:Nat.blt d n=true)(q:P.underlying t=some (.pointer e))(s:QP S ox=some (.pointer p))(u:QP S oy=some (.pointer none))(k:GL μ P ops rest ks Q (Hd n D ((d,.bool<|!x.isNone)::S) F hs) m r):GL μ P ops (⟨some d,.binOp .neq t ox oy t',ty,pos,after,none⟩::rest) ks Q (Hd n D S F hs) m r:=
 GG.val o (λa w l=>by
  have v:(Op.equal t (.pointer p)<|.pointer none).run P w= .ok p.isNone w:=BO q 9999;have y:P.eqGuardType P.depth t=false∨P.eqGuardType P.depth t=true:=by cases P.eqGuardType P.depth t<;>simp
  simp[execOp,l.1.eval s,l.1.eval u,eqGuard,binOp,v,h.isNone]) k
theorem SH.ri{T:Nat}{x y:α}{H:HP}(h:SH w F (star (ZC γ (Wk T c) F0 xs) H))(A:UJ γ F i b)(a:UJ γ F j b')(B:xs[i]? =some x)(C:xs[j]? =some y)(l:i≠j):b≠b' :=by
 intro e;subst e;obtain⟨m,⟨m1,m2,d,E,s2,⟨bs,hl,m3,m4,d',I,t2,K,L⟩,hq⟩,k⟩:=h;obtain⟨_,e⟩:=k.gst γ _<|E _ _<|I _ _ K;simp only[Cell.gh.injEq] at e
 have M:bs[i]? =some b:=by rw[e];exact A.2
 have N:bs[j]? =some b:=by rw[e];exact a.2
 have v:=Rv (f:=Wk T c F0) M B;have z:=Rv (f:=Wk T c F0) N C;obtain⟨R,V,W,_,_,⟨vs,_,X⟩,Y⟩:=Vc v L;have o:i < (List.zipWith (Wk T c F0) bs xs).length:=(Do.1 v).1
 have q:∃k:Nat,((List.zipWith (Wk T c F0) bs xs).eraseIdx i)[k]? =some (Wk T c F0 b y):=by
  rcases Nat.lt_or_gt_of_ne l with o | s
  ·exact⟨j - 1,by rw[ew,B2 qz,show j - 1+1=j by omega];exact z⟩
  ·exact⟨j,by rw[ew,Bm s];exact z⟩
 obtain⟨k',q⟩:=q;obtain⟨n3,n4,_,Z,_,⟨vs',_,u⟩,_⟩:=Vc q Y;have q1:R (.blk b)=some (.obj<|.cells vs.toArray T):=X;have q2:V (.blk b)=some (.obj<|.cells vs'.toArray T):=Z _ _ u;have:=W.c9 q1;rw[q2] at this;cases this
theorem dA{a:Act}{T N:Nat}{e:A4}{x y:α}{A:Nat}(s:P.underlying t=some (.pointer e))(u:∀w,(sizeOf e).run P w= .ok (N+1) w)(hi:hs[A]? =some (ZC γ (Wk T c) F0 xs))(o:UJ γ F i b)(h:UJ γ F j b')(v:xs[i]? =some x)(z:xs[j]? =some y)(q:Hd n D S F hs a w)(k:Nat):(Op.equalIn (k+1) t (.pointer<|some ⟨b,0,none⟩)<|.pointer<|some ⟨b',0,none⟩).run P w= .ok (i==j) w:=by
 by_cases l:i=j
 ·subst l;have:=o.inj h;subst this;simp[Op.equalIn,YA s,u,run_sameAddr_same]
 ·have B:=(q.2.pull hi).ri o h v z l;obtain⟨vs,_,C⟩:=(q.2.pull hi).aY o v;obtain⟨vs',_,E⟩:=(q.2.pull hi).aY h z;have hs:=run_sameAddr_other (P:=P) (w:=w) (a:=⟨b,0,none⟩) (b:=⟨b',0,none⟩) zh C E;simp[Op.equalIn,YA s,u,hs,l]
theorem GG.nK{s N:Nat}{e:A4}{x y:α}{q:Q2 C3}(u:Nat)(hi:hs[u]? =some (ZC γ (Wk s c) F0 xs))(v:UJ γ F i b)(z:p=some ⟨b,0,none⟩)(h:UJ γ F j b')(l:q=some ⟨b',0,none⟩)(A:xs[i]? =some x)(B:xs[j]? =some y)(C:Nat.blt d n=true)(E:P.underlying t=some (.pointer e))(H:∀w,(sizeOf e).run P w= .ok (N+1) w)(I:QP S ox=some (.pointer p))(K:QP S oy=some (.pointer q))(k:GL μ P ops rest ks Q (Hd n D ((d,.bool<|i != j)::S) F hs) m r):GL μ P ops (⟨some d,.binOp .neq t ox oy t',ty,pos,after,none⟩::rest) ks Q (Hd n D S F hs) m r:=by
 subst z l
 exact GG.val C (λa w o=>by
  have l:(Op.equal t (.pointer<|some ⟨b,0,none⟩)<|.pointer<|some ⟨b',0,none⟩).run P w= .ok (i==j) w:=dA E H hi v h A B o 9999;simp[execOp,o.1.eval I,o.1.eval K,eqGuard,binOp,l,bne]) k
section
variable{K V:Type}[BEq K]{ck:K->K2}{rv:Fz->V->K2->Prop}{b:Nat}{l:Q0 (K×V)}{key:K}{kt vt:A4}
def De(ck:K->K2)(rv:Fz->V->K2->Prop)(F:Fz)(b:Nat)(l:Q0 (K×V)):Prop:=∃(es:S1 dO) (clock:Nat) (l' :Q0 (K×V)),l'.Perm l/\(l.map Prod.fst).Nodup/\F.mem b=some (.map es clock)/\Uv ck rv F es.toList l'
omit [BEq K] in
theorem De.mono(h:De ck rv F b l)(le:F<=F'):De ck rv F' b l:=let⟨es,c,l',k,a,o,q⟩:=h;⟨es,c,l',k,a,le.mem _ _ o,q.up le⟩
omit [BEq K] in
theorem GG.an{g:Gp}(i:Nat)(hi:hs[i]? =some (QY ck rv F0 b l))(le:F0<=F)(k:∀F',F<=F'->De ck rv F' b l->GG g (Hd n D S F'<|hs.eraseIdx i) m r):GG g (Hd n D S F hs) m r:=by
 exact λs a w o=>by
  obtain⟨es,c,l',u,h,_,v,y,_⟩:=Wy<|o.2.pull hi;obtain⟨q,z⟩:=y.freeze;exact k _ q ⟨es,c,l',u,h,Fz.cx F b _,(v.up le).up q⟩ s a w ⟨o.1,z⟩
theorem GG.rR[LawfulBEq K]{x:V}(h:De ck rv F b l)(s:Qb l key=some x)(B:Nat.blt d n=true)(C:P.underlying t=some (.map kt vt))(ok:Xi P kt ck)(E:QP S ox=some (.map<|some b))(H:QP S oy=some (ck key))
  (k:∀v,rv F x v->GL μ P ops rest ks Q (Hd n D ((d,v)::S) F hs) m r):GL μ P ops (⟨some d,.lookup t ox oy false,ty,pos,after,none⟩::rest) ks Q (Hd n D S F hs) m r:=by
 refine GG.sh rfl rfl λI a w q=> ?_;obtain⟨es,c,l',u,L,M,N⟩:=h;rw[<-WC u L] at s
 obtain⟨kd,R,o⟩:=ok.und;have y:=q.2.frozen M;rcases N.find (k:=key) o ok.eq 0 with⟨z,W,_⟩ | ⟨j,X,x1,z,W,A,Y,Z,_⟩
 ·rw[s] at z;cases z
 ·rw[s] at A;cases A
  have hf:=run_findKey (w:=w) R Y;refine⟨X.val,?_,k _ (Z F<|Fz.le_refl F) I _ _ ⟨q.1.put B _,q.2⟩⟩;simp[execOp,Instr.lookup,q.1.eval E,q.1.eval H,YA C,YW y,ok.check,hf]
end
def fW(P:C1)(f:L3)(args:S1 K2)(F:Fz)(m:Q2 β)(ρ:G->β->Fz->K2->Prop)(Hs' :G->β->Fz->Q0 HP):Prop:=∀r,m=some r->∀w R,SH w F R->Calls P f args w (λe w' =>∃U F' v,F<=F'/\e= .returned v/\ρ U r F' v/\SH w' F' (star (Qg<|Hs' U r F') R))
theorem GG.pI{G α:Type}{f:L3}{caps as vs:Q0 K2}{of:IR}{os:Q0 IR}{em:Q2 α}{ρ:G->α->Fz->K2->Prop}{Hs' :G->α->Fz->Q0 HP}{g:α->Q2 β}
  (q:Nat.blt d n=true) (h:∀args w,(callFunc f args).run P w= .ok (.enter f args) w) (s:QP S of=some (.func (.func f) #[] caps.toArray)) (u:Uk S os=some vs) (has:vs++caps=as)
  (z:fW P f as.toArray F em ρ Hs') (k:∀x U F' v,em=some x->F<=F'->ρ U x F' v->GL O P ops rest ks Q (Hd n D ((d,v)::S) F'<|Hs' U x F' ++hs) (g x) r):GL O P ops (⟨some d,.call ⟨.value of,os.toArray,T⟩,ty,pos,after,none⟩::rest) ks Q (Hd n D S F hs) (em.bind g) r:=
 GG.su rfl (.inr rfl) λl a w o=>by
  subst has;refine⟨Wx o.1 h s u,?_⟩;cases he:em with
  | none=>rw[he] at l;cases l
  | some y=>
   rw[he] at l
   refine(z y he w _ o.2).mono ?_;rintro _ w' ⟨U,F',v,le,rfl,hρ,A⟩;exact⟨v,rfl,k y U F' v he le hρ l _ _ ⟨o.1.put q _,A.mono λ_=>K7⟩⟩
end
abbrev Pn(f:L3)(caps:Q0 K2):TO:={target:=.fn (.func f) caps.toArray,args:=#[]}
def S8(P:C1)(fn:lg)(F:Fz)(R:HP)(ρ:G->β->Fz->K2->Prop)(Hs' :G->β->Fz->Q0 HP)(r:β):gw->Act->B1->Prop:=bodyPostDIn Fence.wide 0 P fn (λe w' =>∃U F' v,F<=F'/\e= .returned v/\ρ U r F' v/\SH w' F' (star (Qg<|Hs' U r F') R))
theorem fW.enter{c:ln}{args:Q0 K2}{ρ:G->β->Fz->K2->Prop}{Hs' :G->β->Fz->Q0 HP}
  (a:P.funcs[f]? =some fn) (d:fn.body=some c) (h:fn.ntmps=n) (l:Nat.ble args.length n=true)
  (k:∀r R,GC none P c [] (S8 P fn F R ρ Hs' r) (Hd n [] (Dw 0 args) F [R]) m r):fW P f args.toArray F m ρ Hs' :=by
 intro r o w R q;refine(fl (n:=0)).1<|iW a d trivial<|k r R o _ w ⟨?_,q.one⟩;rw[h];exact WB l
section
variable{β:Type}{P:C1}{ops:S1 Rw}{rest:Q0 Rw}{ks:Q0 Kt}{Q:gw->Act->B1->Prop}{m:Q2 β}{r:β}
variable{n:Nat}{D:Q0 TO}{S:Q0 (Nat×K2)}{F F' :Fz}{hs:Q0 HP}
theorem GG.defer(o:QP S of=some (.func (.func f) #[] caps.toArray))(k:GL (.f none) P ops rest ks Q (Hd n (Pn f caps::D) S F hs) m r):GL (.f none) P ops (⟨none,.defer ⟨.value of,#[],T⟩,ty,pos,after,none⟩::rest) ks Q (Hd n D S F hs) m r:=by
 intro q a w d;have h:=k q {a with defers:=Pn f caps::a.defers} w ⟨⟨d.1.1,by rw[d.1.2.1],d.1.2.2⟩,d.2⟩;refine fo ?_;unfold W8;rw[Bm<|by simp[Region.wanted]];refine⟨.inl rfl,?_⟩
 have l:(execOp a.eval ⟨none,.defer ⟨.value of,#[],T⟩,ty,pos,after,none⟩).run P w= .ok (.defer<|Pn f caps) w:=by
  simp[execOp,resolve,Deferred.ofValue,d.1.eval o]
 rw[l];exact h
variable{G ε:Type}{penc:ε->K2}{fn:lg}{R:HP}{ρ:G->β->Fz->K2->Prop}{Hs' :G->β->Fz->Q0 HP}{x:β}{rs:Q0 ResultVar}{vs:Q0 K2}{U:G}
theorem Hz(is:Q0 Nat)(l:fn.results=rs.toArray)(h:Sm P S F' hs rs vs)(hi:YJ is hs=Hs' U x F' ++[R])(le:F<=F')(hρ:ρ U x F' (AL vs)):some x=some r->∀a w,Hd n [] S F' hs a w->S8 P fn F R ρ Hs' r .ret a w:=by
 intro e a w d;simp only[UV] at e
 subst e;show LeavesIn Fence.wide 0 P fn a.tmps _ a.defers .returning w;rw[d.1.2.1];refine⟨_,Jh l d h,U,F',_,le,rfl,hρ,d.2.mono λm o=> ?_⟩;have k:=Vd (ks:=is) o;rw[hi] at k
 exact Xw<|Ve k
theorem Pa:∀g,(Target.fn (.func f) caps.toArray).leads P w #[]=some g->Fence.wide.fn g:=λ_ _=>trivial
theorem Az(a:∀args w,(callFunc f args).run P w= .ok (.enter f args) w):(invoke (.fn (.func f) caps.toArray) #[]).run P w= .ok (.enter f caps.toArray) w:=by
 simp[invoke,a]
end
def Xv(P:C1)(f:L3)(args:S1 K2)(F:Fz)(Hs:Q0 HP)(m:Q2 β)(ρ:β->Fz->K2->Prop)(Hs' :β->Fz->Q0 HP):Prop:=∀r,m=some r->∀w R,SH w F (star (Qg Hs) R)->Calls P f args w (λe w' =>∃F' v,F<=F'/\e= .returned v/\ρ r F' v/\SH w' F' (star (Qg<|Hs' r F') R))
def R7(P:C1)(fn:lg)(F:Fz)(R:HP)(ρ:β->Fz->K2->Prop)(Hs' :β->Fz->Q0 HP)(r:β):gw->Act->B1->Prop:=bodyPost P fn (λe w' =>∃F' v,F<=F'/\e= .returned v/\ρ r F' v/\SH w' F' (star (Qg<|Hs' r F') R))
theorem Xv.enter{c:ln}{args:Q0 K2}{ρ:β->Fz->K2->Prop}{Hs' :β->Fz->Q0 HP}
  (d:P.funcs[f]? =some fn) (l:fn.body=some c) (o:fn.ntmps=n) (q:Nat.ble args.length n=true)
  (k:∀r R,GC none P c [] (R7 P fn F R ρ Hs' r) (Hd n [] (Dw 0 args) F<|Hs++[R]) m r):Xv P f args.toArray F Hs m ρ Hs' :=by
 intro r a w R s;refine eh d l<|oI.1<|k r R a _ w ⟨?_,s.mono λm a=>K7<|QS (λ_ h=>YD h) a⟩;rw[o];exact WB q
section
variable{β:Type}{P:C1}{n:Nat}{S:Q0 (Nat×K2)}{F F' :Fz}{hs:Q0 HP}{ks:Q0 Kt}{fn:lg}{R:HP}{ρ:β->Fz->K2->Prop}{Hs' :β->Fz->Q0 HP}{x r:β}{rs:Q0 ResultVar}{vs:Q0 K2}
theorem FG(is:Q0 Nat)(l:fn.results=rs.toArray)(h:Sm P S F' hs rs vs)(hi:YJ is hs=Hs' x F' ++[R])(le:F<=F')(hρ:ρ x F' (AL vs)):some x=some r->∀a w,Hd n [] S F' hs a w->R7 P fn F R ρ Hs' r .ret a w:=by
 intro e a w d;simp only[UV] at e
 subst e;refine⟨d.1.2.1,_,Jh l d h,F',_,le,rfl,hρ,d.2.mono λm o=> ?_⟩;have k:=Vd (ks:=is) o;rw[hi] at k
 exact Xw<|Ve k
theorem GG.sY(is:Q0 Nat)(a:fn.results=rs.toArray)(h:Sm P S F' hs rs vs)(hi:YJ is hs=Hs' x F' ++[R])(le:F<=F')(hρ:ρ x F' (AL vs)):GC O P .ret ks (R7 P fn F R ρ Hs' r) (Hd n [] S F' hs) (some x) r:=GG.cz<|FG is a h hi le hρ
theorem GG.ag(is:Q0 Nat)(a:fn.results=rs.toArray)(h:Sm P S F' hs rs vs)(hi:YJ is hs=Hs' x F' ++[R])(le:F<=F')(hρ:ρ x F' (AL vs)):GE O P [] (R7 P fn F R ρ Hs' r) (Hd n [] S F' hs) (some x) r:=GG.cN<|FG is a h hi le hρ
end
section
variable{β:Type}{P:C1}{ops:S1 Rw}{rest:Q0 Rw}{ks:Q0 Kt}{Q:gw->Act->B1->Prop}{m:Q2 β}{r:β}
variable{n:Nat}{D:Q0 TO}{S:Q0 (Nat×K2)}{F:Fz}{hs:Q0 HP}{d:Nat}{ty:A4}{pos:String}{after:S1 ll}{T:S1 A4}
theorem GG.cm{α:Type}{f:L3}{caps as vs:Q0 K2}{of:IR}{os:Q0 IR}{em:Q2 α}{ρ:α->Fz->K2->Prop}{Hs:Q0 HP}{Hs' :α->Fz->Q0 HP}{g:α->Q2 β}(is:Q0 Nat)
  (s:Nat.blt d n=true) (h:∀args w,(callFunc f args).run P w= .ok (.enter f args) w) (t:QP S of=some (.func (.func f) #[] caps.toArray)) (u:Uk S os=some vs) (has:vs++caps=as) (hi:YJ is hs=Hs)
  (z:Xv P f as.toArray F Hs em ρ Hs') (k:∀x F' v,em=some x->F<=F'->ρ x F' v->GL O P ops rest ks Q (Hd n D ((d,v)::S) F'<|Hs' x F' ++J9 is hs) (g x) r):GL O P ops (⟨some d,.call ⟨.value of,os.toArray,T⟩,ty,pos,after,none⟩::rest) ks Q (Hd n D S F hs) (em.bind g) r:=
 GG.su rfl (.inr rfl) λl a w o=>by
  subst has;refine⟨Wx o.1 h t u,?_⟩;cases he:em with
  | none=>rw[he] at l;cases l
  | some y=>
   rw[he] at l
   have q:SH w F (star (Qg Hs)<|Qg<|J9 is hs):=o.2.mono λm l=>by
    have:=UG (ks:=is) l;rw[hi] at this;exact this
   refine(z y he w _ q).mono ?_;rintro _ w' ⟨F',v,le,rfl,hρ,A⟩;exact⟨v,rfl,k y F' v he le hρ l _ _ ⟨o.1.put s _,A.mono λ_=>K7⟩⟩
theorem GG.tq{x:α}{Hs' :α->Fz->Q0 HP}(he:em=some x)(is:Q0 Nat)
  (o:Nat.blt d n=true) (a:∀args w,(callFunc f args).run P w= .ok (.enter f args) w) (q:QP S of=some (.func (.func f) #[] caps.toArray)) (s:Uk S os=some vs) (has:vs++caps=as) (hi:YJ is hs=Hs)
  (t:Xv P f as.toArray F Hs em ρ Hs') (k:∀F' v,F<=F'->ρ x F' v->GL O P ops rest ks Q (Hd n D ((d,v)::S) F'<|Hs' x F' ++J9 is hs) m r):GL O P ops (⟨some d,.call ⟨.value of,os.toArray,T⟩,ty,pos,after,none⟩::rest) ks Q (Hd n D S F hs) m r:=by
 have h:=GG.cm (O:=O) (P:=P) (ops:=ops) (rest:=rest) (ks:=ks) (Q:=Q) (r:=r) (n:=n) (D:=D) (S:=S) (F:=F) (hs:=hs) (d:=d) (ty:=ty) (pos:=pos) (after:=after) (T:=T) (g:=λ_=>m) is o a q s has hi t
  (λx' F' v l le hρ=>by rw[he] at l;cases l;exact k F' v le hρ)
 rw[he] at h
 exact h
end
theorem SH.sC{a:Q0 HP}(ks:Q0 Nat)(e:YJ ks hs=a)(h:SH w F (Qg hs)):SH w F (Qg a):=e▸h.mono λ_=>Vd
end
section
variable{C:(Nat->Bool)->Env->Q0 HP}{X:Env->Q0 W6}{ops:S1 Rw}{l os:Q0 Rw}{ip k:Nat}{o:Rw}
variable{O:Q2 Nat}{μ:Md}
section
variable{β:Type}{P:C1}{ks:Q0 Kt}{Q:gw->Act->B1->Prop}{m:Q2 β}{r:β}
variable{n:Nat}{D:Q0 TO}{S0:Q0 (Nat×K2)}{F:Fz}
theorem GG.nS{hs:Q0 HP}{id:Nat}(k g:Nat)(X:Env->Q0 W6)(C:(Nat->Bool)->Env->Q0 HP)(hm:P.follows .mixedOrders=true)(aR:N4 0 l=true)(aH:∀t o,k<=t->l[t]? =some o->∀j,j < t->∃s,X2 l s t j=true)
  (aS:Nat.ble k l.length=true) (hX:∀env,(X env).length=k) (aI:Gi n S0 (l.take k)=true) (hC:∀env,C (λ_=>false) env=hs++List.replicate g Aa)
  (aU:Gd O P l.toArray l n D S0 F X C 0 (l.take k))
  (tail:∀env H,F<=H->(∀(j:Nat) (q:W6),(X env)[j]? =some q->q.2 H)->GL O P l.toArray (l.drop k) ks Q (Hd n D (OY (l.take k) (X env) S0) H<|C (λj=>Nat.blt j k) env) m r):GC O P (.region id l.toArray true) ks Q (Hd n D S0 F hs) m r:=by
 intro ak a w ha;have al:k<=l.length:=AC aS
 let aF:(Nat->Bool)->Act->B1->Prop:=λL a w=>Down l L/\(∀i,k<=i->L i=false)/\∃env H S,F<=H/\Sub S0 S/\(∀(j d:Nat) (v:K2),L j=true->Vo l j=some d->((X env)[j]?).map Prod.fst=some v->K6 S d=some v)/\(∀(j:Nat) (q:W6),L j=true->(X env)[j]? =some q->∀G,H<=G->q.2 G)/\Hd n D S H (C L env) a w
 let Inv:(Nat->Bool)->Act->B1->Prop:=λL a w=>aF L a w∨∃i,k < i/\Down l L/\(∀j,L j=true↔j < i)/\W8 O P l.toArray (Zh O P ks Q) (l.drop i) a w
 have N:∀L a w,(∀i,i < k->L i=true)->aF L a w->W8 O P l.toArray (Zh O P ks Q) (l.drop k) a w:=by
  rintro L a w b ⟨I,E,env,H,S,le,hS,hV,hΦ,hA⟩;have bM:=hX env
  have an:L=λj=>Nat.blt j k:=by
    funext j;rcases qs j k with h | h
    ·rw[b j h];exact(u2 h).symm
    ·rw[E j h];cases B:Nat.blt j k with
     | false=>rfl
     | true=>have:=AC B;omega
  refine tail env H le (λj q Y=>hΦ j q (b j (by have:=Zm Y;omega)) Y H<|Fz.le_refl H) ak a w ⟨hA.1.sub<|NX hS λi o d q e1 e2 e3=> ?_,an▸hA.2⟩;have aW:i < k:=by have:=Zm e3;omega
  refine hV i d q.1 (b i aW) ?_ (by rw[e3];rfl);rw[yb,Bm aW] at e1
  simp[Vo,e1,e2]
 refine W7 hm Inv (λi o h e he B=>by have:=XC aR i o (by simpa using h) e he B;omega) ?_ ?_ ?_
 ·refine .inl ⟨λi o _ h=>(by cases h),λ_ _=>rfl,⟨λ_=>none,λ_=>0,λ_=>[],λ_=>F,λ_=>none⟩,F,S0,Fz.le_refl F,Sub.refl _,λj d v h=>(by cases h),λj q h=>(by cases h),ha.1,?_⟩;rw[hC];have h1:=ha.2.drew<|w.drawn+1;refine h1.mono λm ao=> ?_;exact GG.nB.stars_emps ao
 ·intro L a w i o ho K x hI;have y:l[i]? =some o:=by simpa using ho
  have aJ:i < l.length:=Zm y;by_cases hi:i < k
  · rcases hI with R | ⟨z,hk,_,Z,_⟩
    case inr=>have:=(Z i).2 qz;rw[K] at this;cases this
    obtain⟨I,E,env,H,S,le,hS,hV,hΦ,hA⟩:=R;have aA:(l.take k)[i]? =some o:=by rw[yb,Bm hi];exact y
    have aY:=Gd.get aU i o aA;simp only[sf] at aY
    have ar:∀z j,X2 l z j i=true->L j=false:=λz j h=>by
     cases A:L j with
     | false=>rfl
     | true=>
      have:=W0 I h λo' p e he B=>I j o' p A e he B;rw[K] at this;cases this
    have aZ:∀z j,X2 l z i j=true->L j=true:=λz j h=>W0 I h λo' p e he B=>by
     rw[y] at p;cases p;exact x e he B
    obtain⟨Si,au,aK⟩:=aY L env H le K aZ ar hΦ;have aa:=au S hS hV;have hn:∀d,o.dst=some d->Nat.blt d n=true:=λd hd=>(HJ aI aA hd).1;have h1:=Ow (S:=S) hn hA.1<|aK rfl a w ⟨hA.1.sub aa,hA.2⟩;refine PD (λe a w aM Y=>absurd Y.1 aM) (λa' w' Y=> ?_) h1;obtain⟨_,T,av,ab,⟨M,aw,ax,ay⟩,q,Y,az,a1⟩:=Y
    have ad:∀(j:Nat) (q:W6),L j=true->(X T)[j]? =some q->(X env)[j]? =some q:=λj q A hx=>by
     have a6:j < M.length:=by rw[aw,hX env,<-hX T];exact Zm hx
     exact Sz ay.symm (PV I K ax j A a6) hx
    refine .inl ⟨?_,?_,T,av,(match o.dst with | some d=>(d,q.1)::S | none=>S),Fz.le_trans le ab,?_,?_,?_,a1⟩
    ·intro j oj u A e he B;by_cases f:j=i
     ·subst f;rw[y] at u;cases u
      have:=x e he B;simp only[KS];split
      ·rfl
      ·exact this
     ·have c:L j=true:=by simpa[KS,f] using A
      have:=I j oj u c e he B;simp only[KS];split
      ·rfl
      ·exact this
    ·intro j A;simp only[KS];rw[B2 qz];exact E j A
    ·cases hd:o.dst with
     | none=>exact hS
     | some d=>exact NW hS (HJ aI aA hd).2 _
    ·intro j d' v' A aB aC;by_cases f:j=i
     ·subst f;have a8:o.dst=some d' :=by simpa[Vo,y] using aB
      rw[Y] at aC;simp only[E4,UV] at aC
      subst aC;rw[a8];exact BI
     ·have c:L j=true:=by simpa[KS,f] using A
      have bA:j < k:=by
       rcases qs j k with h | h
       ·exact h
       ·rw[E j h] at c;cases c
      obtain⟨q',V,rfl⟩:=mo.1 aC;have h0:=hV j d' q'.1 c aB (by rw[ad j q' c V];rfl);cases hd:o.dst with
      | none=>exact h0
      | some d=>
       have aM:d≠d' :=λh=>by
        subst h;cases u:l[j]? with
        | none=>simp[Vo,u] at aB
        | some oj=>
         have bB:oj.dst=some d:=by simpa[Vo,u] using aB
         exact f<|Bu aI (by rw[yb,Bm bA];exact u) aA bB hd
       exact PX aM h0
    ·intro j q' A V G hG;by_cases f:j=i
     ·subst f;rw[Y] at V;cases V;exact az G hG
     ·have c:L j=true:=by simpa[KS,f] using A
      exact hΦ j q' c (ad j q' c V) G<|Fz.le_trans ab hG
  ·
    have aG:Down l L:=by
     rcases hI with R | ⟨_,_,hd,_,_⟩
     ·exact R.1
     ·exact hd
    have b:∀j,j < i->L j=true:=λj A=>by
     obtain⟨s,hs⟩:=aH i o qz y j A;exact W0 aG hs λo' p e he B=>by rw[y] at p;cases p;exact x e he B
    have ag:Down l (KS L i):=λj oj u A e he B=>by
     have:L e.on=true:=by
      by_cases f:j=i
      ·subst f;rw[y] at u;cases u;exact x e he B
      ·exact aG j oj u (by simpa[KS,f] using A) e he B
     simp only[KS];split
     ·rfl
     ·exact this
    have hw:W8 O P l.toArray (Zh O P ks Q) (l.drop i) a w:=by
     rcases hI with R | ⟨z,hk,_,Z,aE⟩
     ·have bC:i=k:=by
       rcases qs k i with h | h
       ·have:=b k h;rw[R.2.1 _<|S2 _] at this;cases this
       ·omega
      subst bC;exact N L a w b R
     ·have:z=i:=by
       have h1:¬i < z:=λh=>by have:=(Z i).2 h;rw[K] at this;cases this
       have h2:¬z < i:=λh=>by have:=(Z z).1<|b z h;omega
       omega
      subst this;exact aE
    have aN:l.drop i=o::l.drop (i+1):=by
     have hg:l[i]'aJ=o:=by simpa[aJ] using y
     rw[<-hg];exact x2 aJ
    rw[aN] at hw
    have W:∀a' w',W8 O P l.toArray (Zh O P ks Q) (l.drop<|i+1) a' w'->Inv (KS L i) a' w' :=λa' w' h=>
     .inr ⟨i+1,by omega,ag,λj=>by
      simp only[KS];by_cases A:j=i
      ·simp[A]
      ·simp only[A,By];constructor
       ·intro c
        have:j < i:=by
         rcases qs j i with h | h
         ·exact h
         ·rcases hI with R | ⟨z,hk,_,Z,_⟩
          ·rw[R.2.1 j qz] at c;cases c
          ·have h1:=(Z j).1 c;have:=(Z i).2 qz;rw[K] at this;cases this
        omega
       ·intro bR;exact b j qz,h⟩
    unfold W8 at hw
    split
    ·rename_i aO;rw[Bm aO] at hw
     exact BE W hw
    ·rename_i aO;rw[B2 aO] at hw
     exact W _ _ hw
 ·intro L a w b hI
  have hw:W8 O P l.toArray (Zh O P ks Q) (l.drop l.length) a w:=by
    rcases hI with R | ⟨z,hk,_,Z,aE⟩
    ·have bD:k=l.length:=by
      rcases qs k l.length with h | h
      ·have:=b k (by simpa using h);rw[R.2.1 _<|S2 _] at this;cases this
      ·omega
     have:=N L a w (λi hi=>b i zg) R
     rwa[bD] at this
    ·have:l.length<=z:=by
      rcases qs z l.length with h | h
      ·have:=(Z z).1 (b z<|by simpa using h);omega
      ·exact h
     rw[j0 this] at aE
     rw[j0<|S2 _];exact aE
  rw[j0<|S2 _] at hw
  exact hw
def wP(Q:gw->Act->B1->Prop):gw->Act->B1->Prop:=λe a w=>∃c,e= .panic c/\Q (.panic c) a w
def ba(O:Q2 Nat)(P:C1)(ops:S1 Rw)(l:Q0 Rw)(n:Nat)(D:Q0 TO)(S0:Q0 (Nat×K2))(F:Fz)(X:Env->Q0 W6)(C:(Nat->Bool)->Env->Q0 HP)(Q:gw->Act->B1->Prop)(m:Q2 β)(r:β)(i:Nat)(o:Rw):Prop:=
 ∀L env a,F<=a->L i=false->(∀k j,X2 l k i j=true->L j=true)->(∀k j,X2 l k j i=true->L j=false)->(∀(j:Nat) (q:W6),L j=true->(X env)[j]? =some q->∀G,a<=G->q.2 G)->
  ∃b,(∀S,Sub S0 S->(∀(j d:Nat) (v:K2),L j=true->Vo l j=some d->((X env)[j]?).map Prod.fst=some v->K6 S d=some v)->Sub b S)/\
   GL O P ops [o] [] (wP Q) (Hd n D b a<|C L env) m r
def Sq(O:Q2 Nat)(P:C1)(ops:S1 Rw)(l:Q0 Rw)(n:Nat)(D:Q0 TO)(S0:Q0 (Nat×K2))(F:Fz)(X:Env->Q0 W6)(C:(Nat->Bool)->Env->Q0 HP)(Q:gw->Act->B1->Prop)(m:Q2 β)(r:β)(ip:Nat):Nat->Q0 Rw->Prop
 | _,[]=>True
 | i,o::os=>((i=ip/\ba O P ops l n D S0 F X C Q m r i o)∨(∃s,X2 l s i ip=true)∨(i≠ip/\xr O P ops l n D S0 F X C i o))/\Sq O P ops l n D S0 F X C Q m r ip (i+1) os
theorem Sq.get:∀{k:Nat} {os:Q0 Rw},Sq O P ops l n D S0 F X C Q m r ip k os->∀i o,os[i]? =some o->(k+i=ip/\ba O P ops l n D S0 F X C Q m r (k+i) o)∨(∃s,X2 l s (k+i) ip=true)∨(k+i≠ip/\xr O P ops l n D S0 F X C (k+i) o)
 | _,[],_,i,o,h=>by simp at h
 | k,x::os,a,0,o,h=>by simp at h;subst h;exact a.1
 | k,x::os,a,i+1,o,h=>by
  have:=Sq.get a.2 i o<|by simpa using h
  rwa[show k+1+i=k+(i+1) by omega] at this
theorem Sq.nil{ops:S1 Rw}{l:Q0 Rw}{X:Env->Q0 W6}{C:(Nat->Bool)->Env->Q0 HP}{ip k:Nat}:Sq O P ops l n D S0 F X C Q m r ip k []:=trivial
theorem Sq.cons{ops:S1 Rw}{l:Q0 Rw}{X:Env->Q0 W6}{C:(Nat->Bool)->Env->Q0 HP}{ip k:Nat}{o:Rw}{os:Q0 Rw}(a:k≠ip)(h:xr O P ops l n D S0 F X C k o)(t:Sq O P ops l n D S0 F X C Q m r ip (k+1) os):Sq O P ops l n D S0 F X C Q m r ip k (o::os):=⟨.inr<|.inr ⟨a,h⟩,t⟩
theorem Sq.at_(h:ba O P ops l n D S0 F X C Q m r k o)(t:Sq O P ops l n D S0 F X C Q m r k (k+1) os):Sq O P ops l n D S0 F X C Q m r k k (o::os):=⟨.inl ⟨rfl,h⟩,t⟩
theorem Sq.rK(s:Nat)(h:X2 l s k ip=true)(t:Sq O P ops l n D S0 F X C Q m r ip (k+1) os):Sq O P ops l n D S0 F X C Q m r ip k (o::os):=⟨.inr<|.inl ⟨s,h⟩,t⟩
theorem jf{a:Act}{w:B1}{K:Act->B1->Prop}(h:W8 O P ops (wP Q) [o] a w):if Region.wanted o (yielded ops a.tmps) then yC O P o a w K (Zh O P ks Q) else K (a.put o.dst undef) w:=by
 unfold W8 at h
 split
 ·rename_i d;rw[Bm d] at h
  refine R0 (λa w b=> ?_) (λe a w f b=> ?_) h
  ·obtain⟨c,e,_⟩:=b;cases e
  ·obtain⟨c,rfl,b⟩:=b;exact K9 b
 ·rename_i d;rw[B2 d] at h
  obtain⟨c,e,_⟩:=h;cases e
theorem GG.pd{A:Act->B1->Prop}{c:Q0 PanicEntry}(h:m=some r->∀a w,A a w->Q (.panic c) a w):m=some r->∀a w,A a w->wP Q (.panic c) a w:=λb a w d=>⟨c,rfl,h b a w d⟩
theorem GG.tk{hs:Q0 HP}{id:Nat}(ip g:Nat)(X:Env->Q0 W6)(C:(Nat->Bool)->Env->Q0 HP)(hm:P.follows .mixedOrders=true)(aA:N4 0 l=true)
  (aP:Nat.blt ip l.length=true) (hX:∀env,(X env).length=l.length) (T:Gi n S0 l=true) (hC:∀env,C (λ_=>false) env=hs++List.replicate g Aa)
  (aB:Sq O P l.toArray l n D S0 F X C Q m r ip 0 l):GC O P (.region id l.toArray true) ks Q (Hd n D S0 F hs) m r:=by
 intro aQ a w ha;have aC:ip < l.length:=AC aP
 let Inv:(Nat->Bool)->Act->B1->Prop:=λL a w=>L ip=false/\Down l L/\∃env Y S,F<=Y/\Sub S0 S/\(∀(j d:Nat) (v:K2),L j=true->Vo l j=some d->((X env)[j]?).map Prod.fst=some v->K6 S d=some v)/\(∀(j:Nat) (q:W6),L j=true->(X env)[j]? =some q->∀G,Y<=G->q.2 G)/\Hd n D S Y (C L env) a w
 refine W7 hm Inv (λi o h e he R=>by have:=XC aA i o (by simpa using h) e he R;omega) ?_ ?_ ?_
 ·refine⟨rfl,λi o _ h=>(by cases h),⟨λ_=>none,λ_=>0,λ_=>[],λ_=>F,λ_=>none⟩,F,S0,Fz.le_refl F,Sub.refl _,λj d v h=>(by cases h),λj q h=>(by cases h),ha.1,?_⟩;rw[hC];exact(ha.2.drew<|w.drawn+1).mono λm aR=>GG.nB.stars_emps aR
 ·intro L a w i o ho H y hI;have c:l[i]? =some o:=by simpa using ho
  obtain⟨aD,z,env,Y,S,le,hS,hV,hΦ,hA⟩:=hI;have x:=Sq.get aB i o c;simp only[sf] at x
  have aF:∀k' j,X2 l k' j i=true->L j=false:=λk' j h=>by
   cases I:L j with
   | false=>rfl
   | true=>
    have:=W0 z h λo' u e he R=>z j o' u I e he R;rw[H] at this;cases this
  have A:∀k' j,X2 l k' i j=true->L j=true:=λk' j h=>W0 z h λo' u e he R=>by
   rw[c] at u;cases u;exact y e he R
  have hn:∀d,o.dst=some d->Nat.blt d n=true:=λd hd=>(HJ T c hd).1;rcases x with⟨rfl,x⟩ | ⟨s,aV⟩ | ⟨aI,x⟩
  ·obtain⟨Si,V,f⟩:=x L env Y le H A aF hΦ;exact jf<|f aQ a w ⟨hA.1.sub<|V S hS hV,hA.2⟩
  ·have:=A s ip aV;rw[aD] at this;cases this
  ·obtain⟨Si,V,f⟩:=x L env Y le H A aF hΦ;have aJ:=V S hS hV;have h1:=Ow (S:=S) hn hA.1<|f rfl a w ⟨hA.1.sub aJ,hA.2⟩;refine PD (λe a w W Z=>absurd Z.1 W) (λa' w' Z=> ?_) h1;obtain⟨_,B,aW,aK,⟨M,aX,aY,aZ⟩,q,Z,aa,ab⟩:=Z
   have aL:∀(j:Nat) (q:W6),L j=true->(X B)[j]? =some q->(X env)[j]? =some q:=λj q I hx=>by
    have ad:j < M.length:=by rw[aX,hX env,<-hX B];exact Zm hx
    exact Sz aZ.symm (PV z H aY j I ad) hx
   refine⟨by simp only[KS];rw[B2 λe=>aI e.symm];exact aD,?_,B,aW,(match o.dst with | some d=>(d,q.1)::S | none=>S),Fz.le_trans le aK,?_,?_,?_,ab⟩
   ·intro j oj p I e he R;by_cases b:j=i
    ·subst b;rw[c] at p;cases p
     have:=y e he R;simp only[KS];split
     ·rfl
     ·exact this
    ·have t:L j=true:=by simpa[KS,b] using I
     have:=z j oj p t e he R;simp only[KS];split
     ·rfl
     ·exact this
   ·cases hd:o.dst with
    | none=>exact hS
    | some d=>exact NW hS (HJ T c hd).2 _
   ·intro j d' v' I K N;by_cases b:j=i
    ·subst b;have ag:o.dst=some d' :=by simpa[Vo,c] using K
     rw[Z] at N;simp only[E4,UV] at N
     subst N;rw[ag];exact BI
    ·have t:L j=true:=by simpa[KS,b] using I
     obtain⟨q',E,rfl⟩:=mo.1 N;have h0:=hV j d' q'.1 t K (by rw[aL j q' t E];rfl);cases hd:o.dst with
     | none=>exact h0
     | some d=>
      have W:d≠d' :=λh=>by
       subst h;cases p:l[j]? with
       | none=>simp[Vo,p] at K
       | some oj=>
        have ah:oj.dst=some d:=by simpa[Vo,p] using K
        exact b<|Bu T p c ah hd
      exact PX W h0
   ·intro j q' I E G hG;by_cases b:j=i
    ·subst b;rw[Z] at E;cases E;exact aa G hG
    ·have t:L j=true:=by simpa[KS,b] using I
     exact hΦ j q' t (aL j q' t E) G<|Fz.le_trans aK hG
 ·intro L a w aN hI;have:=aN ip (by simpa using aC);rw[hI.1] at this;cases this
end
end
section
variable{α τ V K β:Type}{b:α->τ->Q2 τ}{rv:Fz->V->K2->Prop}{Q:gw->Act->B1->Prop}{I:Q0 α->Q0 α->τ->Act->B1->Prop}{ck:K->K2}{A:Act->B1->Prop}{xs xs':Q0 (Q0<|K×V)}{S:Q0 (Nat×K2)}{l:Q0 α}{P:C1}{w:B1}{D:Q0 TO}{ks:Q0 Kt}{F F0:Fz}{todo done:Q0 (K×V)}{hs:Q0 HP}{γ j B n c it:Nat}{C:Fz->Nat->α->HP}{ops:S1 Rw}{m:Q2 β}{pt':Q2 C3}{seen:S1 Nat}{s:τ}{r:β}{H:HP}
variable{O:Q2 Nat}{μ:Md}
open Classical in
def C5(b:α->τ->Q2 τ)(l:Q0 α)(s:τ):Q2 τ:=if ∀l',l'.Perm l->Y1 b l' s=Y1 b l s then Y1 b l s else none
theorem zr{r:τ}(h:C5 b l s=some r):∀l',l'.Perm l->Y1 b l' s=some r:=by
 unfold C5 at h
 split at h
 ·rename_i a;intro l' d;rw[a l' d];exact h
 ·cases h
theorem qB{r:τ}(h:∀l',l'.Perm l->Y1 b l' s=some r):C5 b l s=some r:=by
 unfold C5;rw[Bm λl' a=>by rw[h l' a,h l<|.refl _]];exact h l<|.refl _
def Gz(B:Nat)(I:Q0 α->Q0 α->τ->Act->B1->Prop)(b:α->τ->Q2 τ)(todo done:Q0 α)(s:τ):gw->Act->B1->Prop:=λe a w=>
 (todo=[]/\e= .exit B/\I [] done s a w)∨(e= .normal/\∃x rest d,(x::rest).Perm todo/\b x s=some d/\I rest (x::done) d a w)
theorem Gz.over{done:Q0 α}(h:∀a w,A a w->I [] done s a w):some ()=some ()->∀a w,A a w->Gz B I b [] done s (.exit B) a w:=λ_ a w d=>.inl ⟨rfl,rfl,h a w d⟩
theorem Gz.norm{α τ:Type}{B:Nat}{I:Q0 α->Q0 α->τ->Act->B1->Prop}{b:α->τ->Q2 τ}{todo done rest:Q0 α}{s d m:τ}{x:α}{A:Act->B1->Prop}(f:(x::rest).Perm todo)(g:b x s=some d)(h:∀a w,A a w->I rest (x::done) m a w):some m=some d->∀a w,A a w->Gz B I b todo done s .normal a w:=λe a w i=>.inr ⟨rfl,x,rest,d,f,g,by simp only[UV] at e;subst e;exact h a w i⟩
theorem ND{c:ln}{R:τ}
  (round:∀todo done s,(∀x∈todo,∃i,b x s=some i)->∀a w,I todo done s a w->c.wpIn (Rm O) 0 P (Gz B I b todo done s) a w):∀(n:Nat) (todo done:Q0 α) (s:τ),todo.length=n->(∀l',l'.Perm todo->Y1 b l' s=some R)->(done++todo).Perm l->∀a w,I todo done s a w->
   ∀(fr:Frame) (k:Q0 Item) (cs:Q0 Frame),fr.roundOf=(Rm O).round->∃z w' d,d.Perm l/\I [] d R z w'/\ArrivesIn (Machine.fenced P<|Rm O) P (lone (fr.atR a<|.code c:: .inLoop c::k) cs w) fr k cs (.exit B) z w'
 | n,todo,done,s,Y,f,g,a,w,L,fr,k,cs,t=>by
  have M:∀x∈todo,∃i,b x s=some i:=λx N=>by
   obtain⟨T,l2,e⟩:=lT N;have u:(x::(T++l2)).Perm todo:=by rw[e];exact List.perm_middle.symm
   have:=f _ u;simp only[Y1] at this
   cases v:b x s with
   | none=>rw[v] at this;cases this
   | some i=>exact⟨i,rfl⟩
  obtain⟨e,a₁,w₁,W,o⟩:=round todo done s M a w L fr (.inLoop c::k) cs t (Bv O _)<|BM O _;rcases W with⟨rfl,rfl,p⟩ | ⟨rfl,x,rest,i,u,v,p⟩
  ·have E:=f []<|.refl _;simp only[Y1,UV] at E
   subst E;exact⟨a₁,w₁,done,by simpa using g,p,.pass (x:=.inLoop c) rfl (λ_ _=>.inl zh) o⟩
  ·have G:rest.length < n:=by have:=u.length_eq;simp at this;omega
   have q:∀l',l'.Perm rest->Y1 b l' i=some R:=λl' y=>by
    have:=f (x::l')<|(y.cons x).trans u;simpa[Y1,v] using this
   have h:(x::done++rest).Perm l:=by
    refine List.Perm.trans ?_ g;have X:(x::done++rest).Perm (done++x::rest):=List.perm_middle.symm;exact X.trans<|u.append_left done
   obtain⟨a₂,w₂,done₂,hd₂,hI₂,harr₂⟩:=ND round rest.length rest (x::done) i rfl q h a₁ w₁ p fr k cs t;exact⟨a₂,w₂,done₂,hd₂,hI₂,.of_steps (nn o<|.one (eg (n:=0) (Bv O _) (BM O _) rfl) iN) harr₂⟩
termination_by n=>n
section
variable{β:Type}{P:C1}{ks ks' :Q0 Kt}{Q:gw->Act->B1->Prop}{A:Act->B1->Prop}{r:β}
theorem GG.pC{c:ln}{e:τ}{f:τ->Q2 β}(I:Q0 α->Q0 α->τ->Act->B1->Prop)(q:CV B ks=some ks')
  (t:∀a w,A a w->I l [] e a w)
  (round:∀todo done s,(∀x∈todo,∃u,b x s=some u)->GC O P c [] (Gz B I b todo done s) (I todo done s) (some ()) ())
  (after:∀done R,C5 b l e=some R->done.Perm l->GE O P ks' Q (I [] done R) (f R) r):GC O P (.loop c) ks Q A ((C5 b l e).bind f) r:=by
 intro h a w v;cases i:C5 b l e with
 | none=>rw[i] at h;cases h
 | some R=>
  rw[i] at h
  intro fr k cs o y z;obtain⟨p,w',done,E,d,g⟩:=ND (I:=I) (b:=b) (R:=R) (l:=l) (λtodo done s G a w d=>round todo done s G rfl a w d) l.length l [] e rfl (zr i) zh a w (t a w v) fr k cs o;exact⟨.exit B,p,w',Q9 q<|after done R i E h p w' d,.of_steps (.one (eg y z rfl) ij) g⟩
theorem GG.use{σ:Type}{a:Q0 Rw}{e:Q2 σ}{d:σ}(he:e=some d)(k:GL O P ops a ks Q A e d):GL O P ops a ks Q A (some ()) ():=λ_=>k he
end
section
variable{K V:Type}
def Up(ck:K->K2)(rv:Fz->V->K2->Prop)(F:Fz)(b it:Nat)(todo done:Q0 (K×V)):HP:=λm=>∃(es:S1 dO) (clock:Nat) (l' :Q0 (K×V)) (seen:S1 Nat) (last:Nat),
 star (pt b<|.map es clock) (pt it<|.mapIter (some b) clock seen last) m/\Uv ck rv F es.toList l'/\YV es.toList clock/\(seen.isEmpty=false->last=clock)/\
 todo.Perm (((es.toList.zip l').filter λz=> !seen.contains z.1.born).map Prod.snd)/\done.Perm (((es.toList.zip l').filter λz=>seen.contains z.1.born).map Prod.snd)/\
 ∀x,done.head? =some x->∃z∈es.toList.zip l',z.2=x/\seen.back? =some z.1.born
theorem Tg{ck:K->K2}{rv:Fz->V->K2->Prop}{b:Nat}{todo done:Q0 (K×V)}(h:SH w F (star (Up ck rv F0 b it todo done) H)):∃(es:S1 dO) (clock:Nat) (l' :Q0 (K×V)) (seen:S1 Nat) (last:Nat),
  w.heap[b]? =some (.map es clock)/\w.heap[it]? =some (.mapIter (some b) clock seen last)/\SH w F (star (pt it<|.mapIter (some b) clock seen last)<|star (pt b<|.map es clock) H)/\Uv ck rv F0 es.toList l'/\YV es.toList clock/\(seen.isEmpty=false->last=clock)/\
  todo.Perm (((es.toList.zip l').filter λz=> !seen.contains z.1.born).map Prod.snd)/\done.Perm (((es.toList.zip l').filter λz=>seen.contains z.1.born).map Prod.snd)/\
  ∀x,done.head? =some x->∃z∈es.toList.zip l',z.2=x/\seen.back? =some z.1.born:=by
 obtain⟨m,⟨e,f,d,g,i,⟨es,c,l',seen,last,o,p⟩,q⟩,k⟩:=h;have hs:SH w F (star (pt b<|.map es c)<|star (pt it<|.mapIter (some b) c seen last) H):=⟨m,XO ⟨e,f,d,g,i,o,q⟩,k⟩;have a:SH w F (star (pt it<|.mapIter (some b) c seen last)<|star (pt b<|.map es c) H):=hs.mono λm t=>Zi t;exact⟨es,c,l',seen,last,hs.owned,a.owned,a,p⟩
theorem Uv.aF{ck:K->K2}{rv:Fz->V->K2->Prop}:∀{es:Q0 dO} {l:Q0 (K×V)} {z:dO×(K×V)},Uv ck rv F es l->z∈es.zip l->z.1.key=ck z.2.1/\∀a,F<=a->rv a z.2.2 z.1.val
 | [],_,_,_,h=>by simp at h
 | _::_,[],_,_,h=>by simp at h
 | e::es,x::l,z,⟨d,f,g⟩,h=>by
  rw[List.zip_cons_cons,Tc] at h
  rcases h with rfl | h
  ·exact⟨d,f⟩
  ·exact g.aF h
theorem Uv.sK{ck:K->K2}{rv:Fz->V->K2->Prop}{es:Q0 dO}{l:Q0 (K×V)}(h:Uv ck rv F es l):(es.zip l).map Prod.snd=l/\(es.zip l).map Prod.fst=es:=⟨List.map_snd_zip (by rw[h.len];exact S2 _),List.map_fst_zip (by rw[h.len];exact S2 _)⟩
theorem G8{g:α->Nat}{p:α->Bool}:∀{Z:Q0 α} {z:α},(Z.map g).Nodup->z∈Z->p z=true->(Z.filter p).Perm (z::Z.filter (λy=>p y&& !(g y==g z)))
 | [],_,_,h,_=>by cases h
 | y::Z,z,a,h,i=>by
  simp only[Of,mc] at a
  rcases Tc.1 h with rfl | h
  ·have o:Z.filter (λy=>p y&& !(g y==g z))=Z.filter p:=s5 λy q=>by
    have:g y≠g z:=λe=>a.1<|e▸kx q;simp[this]
   simp only[mY,i,B3,BEq.rfl,RK,Bool.and_false,H1,By];rw[o]
  ·have d:(g y==g z)=false:=by
    cases t:g y==g z with
    | false=>rfl
    | true=>exact absurd (kx (f:=g) h) (by rw[<-(mb.1 t:g y=g z)];exact a.1)
   have k:=G8 a.2 h i;simp only[mY,d,u0,mw];cases p y with
   | true=>simp only[B3];exact(k.cons y).trans (.swap _ _ _)
   | false=>simpa using k
theorem qe{g:α->Nat}{p q:α->Bool}{Z:Q0 α}{z:α}(o:(Z.map g).Nodup)(d:z∈Z)(E:p z=false)(t:∀y∈Z,q y=(p y||g y==g z)):(Z.filter q).Perm (z::Z.filter p):=by
 have G:=G8 (p:=q) o d (by rw[t z d];simp);refine G.trans<|.of_eq ?_;congr 1;refine s5 λy u=> ?_;rw[t y u];cases L:g y==g z with
 | false=>simp
 | true=>
  have e:y=z:=by
   have v:g y=g z:=mb.1 L;obtain⟨i,hi,f⟩:=mz u;obtain⟨j,x,k⟩:=mz d;have a:=ed.1 o
   have:i=j:=by
    rcases oV i j with h | h | h
    ·exact absurd (by rw[lP,lP,f,k,v])<|a i j (by simpa using hi) (by simpa using x) h
    ·exact h
    ·exact absurd (by rw[lP,lP,f,k,v])<|a j i (by simpa using x) (by simpa using hi) h
   subst this;rw[<-f,<-k]
  subst e;simp[E]
end
section
variable{β:Type}{P:C1}{ops:S1 Rw}{rest:Q0 Rw}{ks:Q0 Kt}{Q:gw->Act->B1->Prop}{m:Q2 β}{r:β}
variable{n:Nat}{D:Q0 TO}{S:Q0 (Nat×K2)}{F F0:Fz}{hs:Q0 HP}{d:Nat}{ty t kt vt:A4}{pos:String}{after:S1 ll}{ox:IR}
variable{K V:Type}{ck:K->K2}{rv:Fz->V->K2->Prop}{b it γ j:Nat}{l todo done:Q0 (K×V)}{xs:Q0 (Q0<|K×V)}
theorem GG.tW{p:Q2 Nat}(i:Nat)(hi:hs[i]? =some (ZC γ (QY ck rv) F0 xs))(G:UJ γ F j b)(L:p=some b)(o:xs[j]? =some l)(M:Nat.blt d n=true)(N:P.underlying t=some (.map kt vt))(R:QP S ox=some (.map p))
  (k:∀it,(l.map Prod.fst).Nodup->GL O P ops rest ks Q (Hd n D ((d,.pointer<|some ⟨it,0,none⟩)::S) F<|Up ck rv F0 b it l []::hs.set i (hole γ (QY ck rv) F0 j b xs)) m r):GL O P ops (⟨some d,.range t ox,ty,pos,after,none⟩::rest) ks Q (Hd n D S F hs) m r:=by
 subst L;refine GG.step rfl (.inr rfl) λg a w q=> ?_;have T:=(q.2.pull hi).ab G o;obtain⟨es,c,l',u,W,X,E,v,y⟩:=Wy T;refine⟨.pointer<|some ⟨w.heap.size,0,none⟩,w.alloc<|.mapIter (some b) c #[] c,?_,k w.heap.size W g _ _ ⟨q.1.put M _,?_⟩⟩
 ·simp[execOp,Instr.range,q.1.eval R,YA N,YW X]
 ·have Y:=v.alloc<|.mapIter (some b) c #[] c
  have Z:SH (w.alloc<|.mapIter (some b) c #[] c) F (star (Up ck rv F0 b w.heap.size l [])<|star (hole γ (QY ck rv) F0 j b xs)<|Qg<|hs.eraseIdx i):=Y.mono λm g=>by
   have h3:=UU<|Zi g;refine QR (λm' f=>⟨es,c,l',#[],c,f,E,y,λh=>(by simp at h),?_,?_,λx h=>(by cases h)⟩) h3
   ·have e:((es.toList.zip l').filter λz=> !(#[]:S1 Nat).contains z.1.born)=es.toList.zip l' :=lH.2 λ_ _=>by simp
    rw[e,E.sK.1];exact u.symm
   ·have e:((es.toList.zip l').filter λz=>(#[]:S1 Nat).contains z.1.born)=[]:=eK.2 λ_ _=>by simp
    rw[e];exact .refl _
  exact Z.mono λm g=>QS (λm' f=>FU hi f) g
theorem T5{es:Q0 dO}{l' :Q0 (K×V)}(a:YV es c)(f:Uv ck rv F es l'):((es.zip l').map λz=>z.1.born).Nodup:=by
 have e:(es.zip l').map (λz=>z.1.born)=((es.zip l').map Prod.fst).map (·.born):=by rw[lY];rfl
 rw[e,f.sK.2];exact a.1.imp λh=>oU h
theorem S6{q:Nat}{s:Nat}(h:w.heap[q]? =some (.mapIter (some b) c seen s)):(getObj q).run P w= .ok (.mapIter (some b) c seen s) w:=by
 simp[getObj,Sem.run,h]
theorem jq{o' :Obj}{q:Nat}{s:Nat}(h:w.heap[q]? =some (.mapIter (some b) c seen s)):(setObj q o').run P w= .ok () (put w q o'):=by
 simp[setObj,Sem.run,put,h]
theorem Nj(w:B1)(e:0 < n):∃a,a < n/\∃k,(choose<|.mapNext n).run P w= .ok a {w with drawn:=k}:=by
 by_cases f:n<=1
 ·exact⟨0,e,w.drawn,by simp[choose,Sem.run,Question.forced,f]⟩
 ·exact⟨_,oN _ e,w.drawn+1,by simp[choose,Sem.run,Question.forced,Question.cut,f];rfl⟩
theorem Td{es:S1 dO}{clock last:Nat}{l' :Q0 (K×V)}(hb:w.heap[b]? =some (.map es clock))(o:w.heap[it]? =some (.mapIter (some b) clock seen last))(hr:Uv ck rv F0 es.toList l')(p:YV es.toList clock)(hl:seen.isEmpty=false->last=clock)
  (ht:todo.Perm (((es.toList.zip l').filter λz=> !seen.contains z.1.born).map Prod.snd)):(todo=[]->∃k,(Instr.next (.pointer<|some ⟨it,0,none⟩) false ty).run P w= .ok (.tuple #[.bool false]) {w with drawn:=k})/\
  (todo≠[]->∃z∈es.toList.zip l',seen.contains z.1.born=false/\∃k,(Instr.next (.pointer<|some ⟨it,0,none⟩) false ty).run P w= .ok (.tuple #[.bool true,z.1.key,z.1.val]) (put {w with drawn:=k} it<|.mapIter (some b) clock (seen.push z.1.born) clock)):=by
 have a:(!seen.isEmpty&& !es.isEmpty&&es.all λe=>decide<|e.born≥last)=false:=by
  cases hs:seen.isEmpty with
  | true=>simp
  | false=>
   cases he:es.isEmpty with
   | true=>simp
   | false=>
    have W:=hl hs;simp only[u0,rW];cases f:es.all λe=>decide (e.born≥last) with
    | false=>rfl
    | true=>
     rw[Array.all_eq_true] at f
     have X:0 < es.size:=by
      rcases ea es.size with h | h
      ·have:es.isEmpty=true:=by simpa using Array.eq_empty_of_size_eq_zero h
       rw[this] at he;cases he
      ·exact h
     have R:=f 0 X;have Y:=p.2 es[0] zh;simp at R;omega
 obtain⟨L,T⟩:∃L,L=es.filter λe=> !seen.contains e.born:=⟨_,rfl⟩
 have u:∀e,e∈L->e∈es.toList/\seen.contains e.born=false:=λe he=>by
  subst T;rw[Array.mem_filter] at he
  exact⟨by simpa using he.1,by simpa using he.2⟩
 have x:(L.filter λe=>decide<|e.born < clock)=L:=by
  rw[Array.filter_eq_self];intro e he;simpa using p.2 e (u e he).1
 have y:(L.filter λe=>decide<|e.born≥clock)=#[]:=by
  rw[Array.filter_eq_empty_iff];intro e he;have:=p.2 e (u e he).1;simp;omega
 have g:todo.length=L.size:=by
  have R:=ht.length_eq;rw[eT] at R
  have Y:((es.toList.zip l').filter λz=> !seen.contains z.1.born).length=(((es.toList.zip l').map Prod.fst).filter λe=> !seen.contains e.born).length:=by
   rw[o6,eT];rfl
  rw[hr.sK.2] at Y
  rw[R,Y,T,<-eG,Array.toList_filter]
 have aF:∀(q:Q2 dO->B1->Result K2),True:=λ_=>trivial;refine⟨λZ=> ?_,λZ=> ?_⟩
 ·have v:L=#[]:=ot (by rw[<-g,Z];rfl);refine⟨w.drawn,?_⟩;simp only[Instr.next,wt,S6 o,Result.andThen,YW hb,a,H1,By,<-T,v];simp[choose,Sem.run,Question.forced]
 ·have aA:L.size≠0:=by
   rw[<-g];intro e;exact Z<|Nm e
  have v:L.isEmpty=false:=by
   cases h:L.isEmpty with
   | false=>rfl
   | true=>rw[Array.isEmpty_iff_size_eq_zero] at h;exact absurd h aA
  obtain⟨E,G,k,aB⟩:=Nj (P:=P) w (n:=L.size) qz;have i:=u L[E] zh
  obtain⟨z,hz,M⟩:∃z∈es.toList.zip l',z.1=L[E]:=by
   have:=i.1;rw[<-hr.sK.2] at this
   obtain⟨z,hz,e⟩:=n2.1 this;exact⟨z,hz,e⟩
  refine⟨z,hz,by rw[M];exact i.2,k,?_⟩;rw[M];have N:({w with drawn:=k}:B1).heap[it]? =some (.mapIter (some b) clock seen last):=o;simp only[Instr.next,wt,S6 o,Result.andThen,YW hb,a,H1,By,<-T,x,y,v,Array.append_empty,Array.size_map,iq,aB];simp[G,jq N]
theorem GG.tZ(i:Nat)(hi:hs[i]? =some (Up ck rv F0 b it [] done))(o:pt' =some ⟨it,0,none⟩)(p:Nat.blt d n=true)(q:QP S ox=some (.pointer pt'))
  (k:GL O P ops rest ks Q (Hd n D ((d,.tuple #[.bool false])::S) F hs) m r):GL O P ops (⟨some d,.next ox false,ty,pos,after,none⟩::rest) ks Q (Hd n D S F hs) m r:=by
 subst o;refine GG.step rfl (.inr rfl) λu a w e=> ?_;obtain⟨es,c,l',seen,last,v,f,_,x,g,y,z,E,_⟩:=Tg<|e.2.pull hi;obtain⟨G,h⟩:=(Td (P:=P) (ty:=ty) v f x g y z).1 rfl;refine⟨_,{w with drawn:=G},?_,k u _ _ ⟨e.1.put p _,e.2.drew _⟩⟩;simp[execOp,e.1.eval q,h]
theorem GG.tY(i:Nat)(hi:hs[i]? =some (Up ck rv F0 b it todo done))(N:todo≠[])(hp:pt' =some ⟨it,0,none⟩)(hd:Nat.blt d n=true)(M:QP S ox=some (.pointer pt'))
  (k:∀x e v,(x::e).Perm todo->(∀F',F0<=F'->rv F' x.2 v)->GL O P ops rest ks Q (Hd n D ((d,.tuple #[.bool true,ck x.1,v])::S) F<|hs.set i<|Up ck rv F0 b it e<|x::done) m r):GL O P ops (⟨some d,.next ox false,ty,pos,after,none⟩::rest) ks Q (Hd n D S F hs) m r:=by
 subst hp;refine GG.step rfl (.inr rfl) λR a w T=> ?_;obtain⟨es,c,l',seen,last,hb,W,X,o,h,hl,ht,Y,_⟩:=Tg<|T.2.pull hi;obtain⟨z,u,f,k',Z⟩:=(Td (P:=P) (ty:=ty) hb W o h hl ht).2 N;obtain⟨E,G⟩:=o.aF u;have L:=T5 h o;have aL:z.1.born < c:=h.2 _ (by rw[<-o.sK.2];exact kx u);have aA:=G8 (p:=λy:dO×(K×V)=> !seen.contains y.1.born) L u<|by simp only[f,u0]
 have e1:∀y:dO×(K×V),(!(seen.push z.1.born).contains y.1.born)=(!seen.contains y.1.born&& !(y.1.born==z.1.born)):=λy=>by
  rw[oM,ia]
 refine⟨_,put {w with drawn:=k'} it<|.mapIter (some b) c (seen.push z.1.born) c,?_,k z.2 (((es.toList.zip l').filter λy=> !(seen.push z.1.born).contains y.1.born).map Prod.snd) z.1.val ?_ G R _ _ ⟨by rw[<-E];exact T.1.put hd _,SH.push hi<|(((X.drew _).put (o' :=.mapIter (some b) c (seen.push z.1.born) c))).mono λm R=> ?_⟩⟩
 ·simp[execOp,T.1.eval M,Z]
 ·refine List.Perm.trans ?_ ht.symm;have:=(aA.map Prod.snd).symm;simp only[Of] at this
  refine List.Perm.trans (.of_eq ?_) this;congr 2;exact s5 λy _=>e1 y
 ·have aB:=UU<|Zi R;refine QR (λm' aC=>⟨es,c,l',seen.push z.1.born,c,aC,o,h,λ_=>rfl,.refl _,?_,λx M=> ?_⟩) aB
  ·have:=qe (g:=λy:dO×(K×V)=>y.1.born) (p:=λy=>seen.contains y.1.born) (q:=λy=>(seen.push z.1.born).contains y.1.born) L u f (λy _=>by rw[oM]);have h3:=this.map Prod.snd;simp only[Of] at h3
   exact(Y.cons z.2).trans h3.symm
  ·simp only[o5,UV] at M
   exact⟨z,u,M,by simp⟩
theorem GG.tj{x:K×V}(i:Nat)(hi:hs[i]? =some (Up ck rv F0 b it todo<|x::done))(hp:pt' =some ⟨it,0,none⟩)(hd:Nat.blt d n=true)(hx:QP S ox=some (.pointer pt'))
  (k:∀v,(∀F',F0<=F'->rv F' x.2 v)->GL O P ops rest ks Q (Hd n D ((d,.tuple #[ck x.1,v])::S) F hs) m r):GL O P ops (⟨some d,.entry ox,ty,pos,after,none⟩::rest) ks Q (Hd n D S F hs) m r:=by
 subst hp;refine GG.step rfl (.inr rfl) λhm a w R=> ?_;obtain⟨es,c,l',seen,last,hb,M,T,W,N,hl,ht,X,o⟩:=Tg<|R.2.pull hi;obtain⟨z,Y,Z,g⟩:=o x rfl;obtain⟨u,E⟩:=W.aF Y;subst Z
 have aA:seen.isEmpty=false:=by
  cases h:seen.isEmpty with
  | false=>rfl
  | true=>
   have:seen=#[]:=by simpa using h
   subst this;simp at g
 have aB:=hl aA;subst aB
 have G:es.find? (λe=>e.born==z.1.born)=some z.1:=by
  have p:z.1∈es.toList:=by rw[<-W.sK.2];exact kx Y
  have q:(es.toList.map (·.born)).Nodup:=N.1.imp λh=>oU h
  have:es.toList.find? (λe=>e.born==z.1.born)=some z.1:=by
   clear hb M W N ht X o Y E u T g hl
   generalize es.toList=L at p q
   induction L with
   | nil=>cases p
   | cons y L ih=>
    simp only[Of,mc] at q
    rcases Tc.1 p with e | e
    ·rw[lI,<-e];simp
    ·have:(y.born==z.1.born)=false:=by
      cases aC:y.born==z.1.born with
      | false=>rfl
      | true=>exact absurd (kx (f:=(·.born)) e) (by rw[<-(mb.1 aC:y.born=z.1.born)];exact q.1)
     rw[lI,this];exact ih e q.2
  simpa using this
 refine⟨_,w,?_,k z.1.val E hm _ _ ⟨by rw[<-u];exact R.1.put hd _,R.2⟩⟩;simp[execOp,Instr.entry,R.1.eval hx,S6 M,YW hb,g,G]
end
section
variable{K V:Type}{ck:K->K2}{rv:Fz->V->K2->Prop}{b it γ j:Nat}{l todo done:Q0 (K×V)}{xs:Q0 (Q0<|K×V)}{F F0 F1:Fz}{w:B1}{hs:Q0 HP}
theorem SH.rT(k:done.Perm l)(o:(l.map Prod.fst).Nodup)(h:SH w F (star (Up ck rv F0 b it [] done) H)):SH w F (star (QY ck rv F0 b l) H):=by
 obtain⟨es,c,l',seen,last,x,p,d,g,e,y,q,a,_⟩:=Tg h
 have t:((es.toList.zip l').filter λz=> !seen.contains z.1.born)=[]:=by
  have i:=q.length_eq;rw[eT] at i
  exact Nm i.symm
 have u:((es.toList.zip l').filter λz=>seen.contains z.1.born)=es.toList.zip l' :=by
  rw[lH];intro z v;have:=(eK.1 t) z v;simpa using this
 rw[u,g.sK.1] at a
 exact d.drop.mono λm f=>QR (λm f=>⟨l',(a.symm.trans k),o,es,c,f,g,e⟩) f
theorem Ou{C:Fz->Nat->Q0 (K×V)->HP}(h:SH w F (star (hole γ C F0 j b xs) H)):j < xs.length:=by
 obtain⟨m,⟨e,f,_,_,_,⟨bs,a,d,_⟩,_⟩,_⟩:=h;rw[<-a];exact(Do.1 d).1
theorem SH.sn{xs' :Q0 (Q0<|K×V)}(i k:Nat)(hi:hs[i]? =some (Up ck rv F0 b it [] done))(f:(hs.eraseIdx i)[k]? =some (hole γ (QY ck rv) F1 j b xs))(d:F0<=F)(e:F1<=F)(o:done.Perm l)(p:(l.map Prod.fst).Nodup)(he:xs' =xs.set j l)(h:SH w F (Qg hs)):SH w F (Qg<|(hs.eraseIdx i).set k<|ZC γ (QY ck rv) F xs'):=by
 subst he;have q:SH w F (star (Up ck rv F0 b it [] done)<|star (hole γ (QY ck rv) F1 j b xs)<|Qg<|(hs.eraseIdx i).eraseIdx k):=(h.pull hi).mono λm a=>QS (λ_=>Vc f) a;have g:=(q.rT o p).mono (H' :=star (QY ck rv F b l)<|star (hole γ (QY ck rv) F1 j b xs)<|Qg<|(hs.eraseIdx i).eraseIdx k) λm a=>QR (λm a=>Ji d a) a;have t:=SH.tN He e g<|Ou<|g.mono λm a=>Zi a;exact SH.push f t
end
section
variable{β:Type}{X:Act->B1->Prop}{P:C1}{ks:Q0 Kt}{Q:gw->Act->B1->Prop}{m:Q2 β}{r:β}{n:Nat}{D:Q0 TO}{S:Q0 (Nat×K2)}{F F0 F1:Fz}{hs:Q0 HP}
variable{K V:Type}{ck:K->K2}{rv:Fz->V->K2->Prop}{b it γ j:Nat}{l done:Q0 (K×V)}{xs xs' :Q0 (Q0<|K×V)}
theorem GG.sn(i k:Nat)(hi:hs[i]? =some (Up ck rv F0 b it [] done))(g:(hs.eraseIdx i)[k]? =some (hole γ (QY ck rv) F1 j b xs))(d:F0<=F)(e:F1<=F)(h:done.Perm l)(o:(l.map Prod.fst).Nodup)(he:xs' =xs.set j l)
  (p:GE O P ks Q (Hd n D S F<|(hs.eraseIdx i).set k<|ZC γ (QY ck rv) F xs') m r):GE O P ks Q (Hd n D S F hs) m r:=λq a w f=>
 p q a w ⟨f.1,f.2.sn i k hi g d e h o he⟩
end
section
variable{α:Type}{γ:Nat}{C:Fz->Nat->α->HP}{F F0 F' :Fz}{xs:Q0 α}{i j b c:Nat}{x y:α}{H:HP}{w:B1}
def zw(C:Fz->Nat->α->HP):Fz->Nat->Q2 α->HP:=λF b x=>match x with | some x=>C F b x | none=>Aa
theorem N6(a:Hm C):Hm (zw C):=λF F' b x m le h=>by
 cases x with
 | none=>exact h
 | some x=>exact a _ _ _ _ _ le h
theorem ki{bs:Q0 Nat}(a:bs[j]? =some b):List.zipWith (zw C F0) bs ((xs.map some).set j none)=(List.zipWith (C F0) bs xs).set j Aa:=by
 have d:=Ru (f:=zw C F0) (xs:=xs.map some) (y:=none) a;rw[<-d,List.zipWith_map_right];rfl
theorem MR(h:SH w F (star (hole γ C F0 j b xs) H)):SH w F (star (ZC γ (zw C) F0<|(xs.map some).set j none) H):=
 h.mono λm a=>QR (λm a=>by
  obtain⟨bs,g,f,k⟩:=a;refine⟨bs,by simpa using g,QS (λm a=> ?_) k⟩;rw[ki f];have o:=(Do.1 f).1;have d:j < (List.zipWith (C F0) bs xs).length:=by simp;omega
  exact FU (C2 d) ⟨λ_=>none,m,λ_=>.inl rfl,λ_ _ e=>by simp at e,Mem.sub.refl _,trivial,a⟩) a
theorem N5(h:SH w F (star (ZC γ (zw C) F0<|(xs.map some).set j none) H))(M:UJ γ F j b)(Y:j < xs.length):SH w F (star (hole γ C F0 j b xs) H):=by
 obtain⟨m,⟨N,R,d,p,T,⟨bs,q,a⟩,W⟩,k⟩:=h
 have f:bs[j]? =some b:=by
  obtain⟨t,X,u,g,v,o,_⟩:=a;obtain⟨_,e⟩:=k.gst γ _<|p _ _<|g _ _ o;simp only[Cell.gh.injEq] at e
  rw[e];exact M.2
 rw[ki f] at a
 refine⟨m,⟨N,R,d,p,T,⟨bs,by simpa using q,f,?_⟩,W⟩,k⟩;obtain⟨t,X,u,g,v,o,hs⟩:=a;have z:bs.length=xs.length:=by simpa using q
 have a:((List.zipWith (C F0) bs xs).set j Aa)[j]? =some Aa:=by
  rw[my];simp;omega
 obtain⟨Z,E,d6,t5,G,_,L⟩:=Vc a hs;rw[iZ] at L
 exact⟨t,E,λk=>(u k).imp id (λe=>by
  cases h:E k with
  | none=>rfl
  | some c=>have:=G _ _ h;rw[e] at this;cases this),g,G.trans v,o,L⟩
theorem SH.nk(h:SH w F (star (hole γ C F0 j b xs) H))(d:UJ γ F i c)(e:xs[i]? =some x)(a:i≠j):SH w F (star (C F0 c x)<|star (hole γ (zw C) F0 i c<|(xs.map some).set j none) H):=SH.ab (MR h) d (x:=some x) (by rw[my];simp[iP a,e])
theorem SH.mE(d:Hm C)(le:F0<=F')(f:UJ γ F j b)(hi:i < xs.length)(g:j < xs.length)(a:i≠j)(h:SH w F (star (C F' c y)<|star (hole γ (zw C) F0 i c<|(xs.map some).set j none) H)):SH w F (star (hole γ C F' j b<|xs.set i y) H):=by
 have k:=SH.tN (y:=some y) (N6 d) le h (by simpa using hi);refine N5 ?_ f<|by simpa using g
 have e:((xs.map some).set j none).set i (some y)=((xs.set i y).map some).set j none:=by
  rw[oY,List.set_comm _ _ a.symm]
 rw[<-e];exact k
end
section
variable{β:Type}{P:C1}{ops:S1 Rw}{rest:Q0 Rw}{ks:Q0 Kt}{Q:gw->Act->B1->Prop}{m:Q2 β}{r:β}
variable{n:Nat}{D:Q0 TO}{S:Q0 (Nat×K2)}{F F0:Fz}{hs:Q0 HP}{ty t kt vt:A4}{pos:String}{after:S1 ll}{ox oy oz:IR}
variable{K V:Type}[BEq K][LawfulBEq K]{ck:K->K2}{rv:Fz->V->K2->Prop}{b c γ j i' :Nat}{l:Q0 (K×V)}{xs:Q0 (Q0<|K×V)}{key:K}{val:V}
theorem GG.tc{p:Q2 Nat}{xs' :Q0 (Q0<|K×V)}{E:K2}(i:Nat)(hi:hs[i]? =some (hole γ (QY ck rv) F0 j b xs))(d:F0<=F)(u:UJ γ F j b)(R:UJ γ F i' c)(T:p=some c)(e:i'≠j)(f:xs[i']? =some l)(W:P.underlying t=some (.map kt vt))(ok:Xi P kt ck)(X:QP S ox=some (.map p))(Y:QP S oy=some (ck key))(Z:QP S oz=some E)(hv:∀G,F<=G->rv G val E)(he:xs' =xs.set i' (Q4 l key val))
  (k:GL O P ops rest ks Q (Hd n D S F<|hs.set i<|hole γ (QY ck rv) F j b xs') m r):GL O P ops (⟨none,.mapUpdate t ox oy oz,ty,pos,after,none⟩::rest) ks Q (Hd n D S F hs) m r:=by
 subst T;subst he;refine GG.ad rfl (.inr rfl) λg a w h=> ?_;have L:=h.2.pull hi;have h1:=L.nk R f e;obtain⟨es,c',l1,v,M,x,hr,y,z⟩:=Wy h1;obtain⟨o,N,q,g1,g2⟩:=H8 (key:=key) (val:=val) x (hr.up d) z W ok hv;refine⟨_,?_,k g _ _ ⟨h.1.c6 _,SH.push hi<|SH.mE He d u (Do.1 f).1 (Ou L) e<|(y.put (o' :=.map o N)).mono λm g=>QR (λm g=>⟨Q4 l1 key val,GK v M,JQ M,o,N,g,g1,g2⟩) g⟩⟩;simp[execOp,h.1.eval X,h.1.eval Y,h.1.eval Z,q]
end
section
variable{α β:Type}{X:Act->B1->Prop}{P:C1}{ops:S1 Rw}{l0:Q0 Rw}{cd:ln}{ks:Q0 Kt}{Q:gw->Act->B1->Prop}{m:Q2 β}{r:β}{n:Nat}{D:Q0 TO}{S:Q0 (Nat×K2)}{F F0:Fz}{hs:Q0 HP}
variable{γ j b:Nat}{C:Fz->Nat->α->HP}{xs:Q0 α}
theorem SH.rU{d:Fz}(e:Hm C)(le:F0<=d)(a:UJ γ F j b)(h:SH w F (star (hole γ C F0 j b xs) H)):SH w F (star (hole γ C d j b xs) H):=by
 have f:j < xs.length:=by
  obtain⟨m,⟨i,k,_,_,_,⟨bs,g,a,_⟩,_⟩,_⟩:=h;rw[<-g];exact(Do.1 a).1
 exact N5 (SH.aN (N6 e) le<|MR h) a f
end
theorem Cz{xs:Q0 α}{x:α}(h:xs[j]? =some x):xs=xs.set j x:=by
 apply mg;intro i;rw[my];by_cases e:j=i
 ·subst e;rw[Bm rfl,h,Bm (Do.1 h).1]
 ·rw[B2 e]
section
variable{α τ:Type}
open Classical in
def CS(E:τ->τ->Prop)(b:α->τ->Q2 τ)(l:Q0 α)(s:τ):Q2 τ:=match Y1 b l s with
 | none=>none
 | some r=>if ∀l',l'.Perm l->∃a,Y1 b l' s=some a/\E a r then some r else none
theorem zs{E:τ->τ->Prop}{b:α->τ->Q2 τ}{l:Q0 α}{s r:τ}(h:CS E b l s=some r):∀l',l'.Perm l->∃a,Y1 b l' s=some a/\E a r:=by
 unfold CS at h
 split at h
 ·cases h
 ·split at h
  ·rename_i d;simp only[UV] at h
   subst h;exact d
  ·cases h
theorem qC{E:τ->τ->Prop}{b:α->τ->Q2 τ}{l:Q0 α}{s r:τ}(d:Y1 b l s=some r)(h:∀l',l'.Perm l->∃a,Y1 b l' s=some a/\E a r):CS E b l s=some r:=by
 unfold CS;rw[d];exact Bm h
theorem P7{c:ln}{I:Q0 α->Q0 α->τ->Act->B1->Prop}{b:α->τ->Q2 τ}{l:Q0 α}
  (round:∀todo done s,(∀x∈todo,∃h,b x s=some h)->∀a w,I todo done s a w->c.wpIn (Rm O) 0 P (Gz B I b todo done s) a w):∀(n:Nat) (todo done:Q0 α) (s:τ),todo.length=n->(∀l',l'.Perm todo->∃r,Y1 b l' s=some r)->(done++todo).Perm l->∀a w,I todo done s a w->
   ∀(fr:Frame) (k:Q0 Item) (cs:Q0 Frame),fr.roundOf=(Rm O).round->∃z w' d R l',d.Perm l/\l'.Perm todo/\Y1 b l' s=some R/\I [] d R z w'/\ArrivesIn (Machine.fenced P<|Rm O) P (lone (fr.atR a<|.code c:: .inLoop c::k) cs w) fr k cs (.exit B) z w'
 | n,todo,done,s,Y,i,f,a,w,G,fr,k,cs,v=>by
  have L:∀x∈todo,∃h,b x s=some h:=λx M=>by
   obtain⟨N,l2,e⟩:=lT M;have u:(x::(N++l2)).Perm todo:=by rw[e];exact List.perm_middle.symm
   obtain⟨r,this⟩:=i _ u;simp only[Y1] at this
   cases y:b x s with
   | none=>rw[y] at this;cases this
   | some h=>exact⟨h,rfl⟩
  obtain⟨e,a₁,w₁,T,o⟩:=round todo done s L a w G fr (.inLoop c::k) cs v (Bv O _)<|BM O _;rcases T with⟨rfl,rfl,p⟩ | ⟨rfl,x,rest,h,u,y,p⟩
  ·exact⟨a₁,w₁,done,s,[],by simpa using f,.refl _,rfl,p,.pass (x:=.inLoop c) rfl (λ_ _=>.inl zh) o⟩
  ·have E:rest.length < n:=by have:=u.length_eq;simp at this;omega
   have q:∀l',l'.Perm rest->∃r,Y1 b l' h=some r:=λl' t=>by
    obtain⟨r,this⟩:=i (x::l')<|(t.cons x).trans u;exact⟨r,by simpa[Y1,y] using this⟩
   have g:(x::done++rest).Perm l:=by
    refine List.Perm.trans ?_ f;have W:(x::done++rest).Perm (done++x::rest):=List.perm_middle.symm;exact W.trans<|u.append_left done
   obtain⟨a₂,w₂,done₂,R,l',hd₂,t,X,hI₂,harr₂⟩:=P7 round rest.length rest (x::done) h rfl q g a₁ w₁ p fr k cs v;exact⟨a₂,w₂,done₂,R,x::l',hd₂,(t.cons x).trans u,by simp[Y1,y,X],hI₂,.of_steps (nn o<|.one (eg (n:=0) (Bv O _) (BM O _) rfl) iN) harr₂⟩
termination_by n=>n
theorem GG.tJ{h:Q0 Kt}{c:ln}{l:Q0 α}{b:α->τ->Q2 τ}{i:τ}{f:τ->Q2 β}(E:τ->τ->Prop)(I:Q0 α->Q0 α->τ->Act->B1->Prop)(L:CV B ks=some h)
  (M:∀a w,A a w->I l [] i a w) (N:∀done R p a w,E p R->I [] done p a w->I [] done R a w)
  (round:∀todo done s,(∀x∈todo,∃T,b x s=some T)->GC O P c [] (Gz B I b todo done s) (I todo done s) (some ()) ())
  (after:∀done R,CS E b l i=some R->done.Perm l->GE O P h Q (I [] done R) (f R) r):GC O P (.loop c) ks Q A ((CS E b l i).bind f) r:=by
 intro q a w W;cases t:CS E b l i with
 | none=>rw[t] at q;cases q
 | some R=>
  rw[t] at q
  have d:=zs t;intro fr k cs v X Y;obtain⟨y,w',done,p,l',Z,e,z,g,o⟩:=P7 (I:=I) (b:=b) (l:=l) (λtodo done s hx a w g=>round todo done s hx rfl a w g) l.length l [] i rfl (λl' e=>let⟨G,u,_⟩:=d l' e;⟨G,u⟩) zh a w (M a w W) fr k cs v;obtain⟨G,u,h2⟩:=d l' e;rw[z] at u
  cases u;exact⟨.exit B,y,w',Q9 L<|after done R t Z q y w'<|N done R p y w' h2 g,.of_steps (.one (eg X Y rfl) ij) o⟩
end
def PB(xs a:Q0 (Q0 α)):Prop:=xs.length=a.length/\∀(i:Nat) (x y:Q0 α),xs[i]? =some x->a[i]? =some y->x.Perm y
theorem SH.ao{xs f:Q0 α}(u:xs.length=f.length)(v:∀(i:Nat) x y b m,xs[i]? =some x->f[i]? =some y->C F0 b x m->C F0 b y m)(h:SH w F (star (ZC γ C F0 xs) H)):SH w F (star (ZC γ C F0 f) H):=
 h.mono λm g=>QR (λm ⟨bs,k,hs⟩=>⟨bs,k.trans u,QS (λm g=>D2 (by simp[u]) (λi p q a d m z=>by
  rw[lu] at a d
  cases e:bs[i]? with
  | none=>rw[e] at a;simp at a
  | some b=>
   cases o:xs[i]? with
   | none=>rw[e,o] at a;simp at a
   | some x=>
    cases t:f[i]? with
    | none=>rw[e,t] at d;simp at d
    | some y=>rw[e,o] at a;rw[e,t] at d;simp at a d;subst a;subst d;exact v i x y b _ o t z) g) hs⟩) g
section
variable{K V:Type}{ck:K->K2}{rv:Fz->V->K2->Prop}{γ j b:Nat}{xs ys:Q0 (Q0<|K×V)}{n:Nat}{D:Q0 TO}{S:Q0 (Nat×K2)}{F F0:Fz}{hs:Q0 HP}{a:Act}{w:B1}
theorem Hd.mD(i:Nat)(hi:hs[i]? =some (hole γ (QY ck rv) F0 j b xs))(v:UJ γ F j b)(k:PB xs ys)(q:Hd n D S F hs a w):Hd n D S F (hs.set i<|hole γ (QY ck rv) F0 j b ys) a w:=by
 refine⟨q.1,SH.push hi ?_⟩;have t:=q.2.pull hi;have z:=Ou t;refine N5 ?_ v (by rw[<-k.1];exact z);refine(MR t).ao (by simp[k.1]) λh x y b' m d f u=> ?_;rw[my] at d f
 by_cases e:j=h
 ·simp only[e,B3] at d f
  split at d
  ·split at f
   ·cases d;cases f;exact u
   ·cases f
  ·cases d
 ·rw[B2 e,hP] at d f
  cases o:xs[h]? with
  | none=>rw[o] at d;cases d
  | some E=>
   cases p:ys[h]? with
   | none=>rw[p] at f;cases f
   | some G=>
    rw[o] at d;rw[p] at f
    simp only[E4,UV] at d f
    subst d;subst f;obtain⟨l',L,M,N⟩:=u;have g:=k.2 h E G o p;exact⟨l',L.trans g,((g.map Prod.fst).nodup_iff).1 M,N⟩
end
end
section
variable{O:Q2 Nat}{μ:Md}
section
variable{K V:Type}{ck:K->K2}{rv:Fz->V->K2->Prop}{γ:Nat}{F:Fz}{A:Q0 (Q0<|K×V)}{x p:Q2 Nat}{P:C1}{f:L3}
def Mc(A:Q0 (Q0<|K×V))(x:Q2 Nat):Q2 (Q2 Nat×Q0 (Q0<|K×V)):=
 match x with
 | none=>some (none,A)
 | some i=>(A[i]?).bind λl=>some (some A.length,A++[l])
theorem fA(h:Zx γ F p x)(k:∀b es clock w,w.heap[b]? =some (.map es clock)->Calls P f #[.map<|some b] w λe w' =>e= .returned (.map<|some w.heap.size)/\w' =w.alloc (.map es clock))
  (g:∀w,Calls P f #[.map none] w λe w' =>e= .returned (.map none)/\w' =w):Xv P f [.map p].toArray F [ZC γ (QY ck rv) F A] (Mc A x) (fun(r:Q2 Nat×Q0 (Q0<|K×V)) F v=>∃(s:Q2 Nat) (_k0:Unit),v= .map s/\Zx γ F s r.1) (λr j=>[ZC γ (QY ck rv) j r.2]):=by
 intro r a w R t;have u:SH w F (Qg<|[ZC γ (QY ck rv) F A]++[R]):=t.mono λm a=>K7<|QS (λ_ h=>YD h) a;cases x with
 | none=>
  have y:p=none:=h;subst y;simp only[Mc,UV] at a
  subst a;refine(g w).mono ?_;rintro e w' ⟨rfl,rfl⟩;exact⟨F,_,Fz.le_refl _,rfl,⟨none,(),rfl,rfl⟩,t⟩
 | some i=>
  obtain⟨b,z,rfl⟩:=h;simp only[Mc] at a
  cases n:A[i]? with
  | none=>rw[n] at a;cases a
  | some l=>
   rw[n] at a
   simp only[K1,UV] at a
   subst a;obtain⟨es,c,l',o,B,d,C,q⟩:=SH.ae (H:=Qg [R]) u z n;refine(k b es c w d).mono ?_;rintro e w' ⟨rfl,rfl⟩;have D:=u.alloc<|.map es c;obtain⟨j,le,E,G⟩:=SH.ry (x:=l) (H:=Qg [R]) (xs:=A) He (Fz.le_refl F) D λj m le a=>⟨l',o,B,es,c,a,C.up le,q⟩;exact⟨j,_,le,rfl,⟨some w.heap.size,(),rfl,_,E,rfl⟩,G.mono λm a=>Xw<|Ve (l:=[ZC γ (QY ck rv) j<|A++[l]]) a⟩
end
def de(i j:Nat):Q2 Unit:=if i=j then none else some ()
theorem uC{i j:Nat}{u:Unit}(h:de i j=some u):i≠j:=λe=>by simp[de,e] at h
end
section
variable{ms:S1 (String×A4)}{Q:gw->Act->Q0 Frame->B1->Prop}{S:Q0 (Nat×K2)}{ε:Type}{Hp:ε->Fz->Q0 HP}{Hs hs:Q0 HP}{P:C1}{ops:S1 Rw}{f:L3}{cs:Q0 Frame}{fn:lg}{w:B1}{v:K2}{F:Fz}{n:Nat}{a:Act}
variable{O:Q2 Nat}{μ:Md}
def wR(P:C1)(penc:ε->K2)(f:L3)(args:S1 K2)(F:Fz)(Hs:Q0 HP)(Hp:ε->Fz->Q0 HP):Prop:=
 (∀w R,SH w F (star (Qg Hs) R)->CallsDIn Fence.wide 0 P f args .returning w (λe b w' =>b= .returning/\(∃v,e= .returned v)/\SH w' F (star (Qg Hs) R)))/\
 ∀q w R,SH w F (star (Qg Hs) R)->CallsDIn Fence.wide 0 P f args (.panicking [{v:=penc q,recovered:=false}]) w (λe b w' =>b= .panicking [{v:=penc q,recovered:=true}]/\(∃v,e= .returned v)/\∃c,F<=c/\SH w' c (star (Qg<|Hp q c) R))
def jO(P:C1)(fn:lg)(F:Fz)(Hs:Q0 HP)(R:HP):gw->Act->B1->Prop:=λe a w=>(e= .normal∨e= .ret)/\a.defers=[]/\(∃v,(results fn a.tmps).run P w= .ok v w)/\SH w F (star (Qg Hs) R)
def jN(P:C1)(fn:lg)(F:Fz)(Hp:Fz->Q0 HP)(R:HP):gw->Act->B1->Prop:=λe a w=>(e= .normal∨e= .ret)/\a.defers=[]/\(∃v,(results fn a.tmps).run P w= .ok v w)/\∃b,F<=b/\SH w b (star (Qg<|Hp b) R)
section
variable{ε:Type}{P:C1}{penc:ε->K2}{f:L3}{fn:lg}{n i0 d0 d1:Nat}{args:Q0 K2}{F:Fz}{Hs:Q0 HP}{Hp:ε->Fz->Q0 HP}{rest:ln}{T0:S1 A4}{ty0 ty1:A4}{pos0 pos1:String}{after0 after1:S1 ll}
theorem Iy{ev:IR->K2}:(execOp ev ⟨some d0,.call ⟨.builtin .recover,#[],T0⟩,ty0,pos0,after0,none⟩).run P w= .ok .recover w:=by
 simp[execOp,resolve,invoke,builtin]
theorem zx{i:Nat}{rest:Q0 Nat}{o:Rw}{w':B1}(b:ops[i]? =some o)(c:Region.wanted o (yielded ops a.tmps)=true)(d:(execOp a.eval o).run P w= .ok (.value v) w')(h:wpOpsSIn Fence.wide 0 P ops Q rest (a.put o.dst v) cs w'):wpOpsSIn Fence.wide 0 P ops Q (i::rest) a cs w:=by
 simp only[wpOpsSIn,b];exact⟨λ_ _=>trivial,by rw[Bm c,d];exact h⟩
theorem Oa{i:Nat}{rest:Q0 Nat}{o:Rw}{cs':Q0 Frame}{w':B1}(d:ops[i]? =some o)(e:Region.wanted o (yielded ops a.tmps)=true)(c:(execOp a.eval o).run P w= .ok .recover w')(b:(match recoverD cs with | some (v,cs')=>(v,cs') | none=>(.nilIface,cs))=(v,cs'))(h:wpOpsSIn Fence.wide 0 P ops Q rest (a.put o.dst v) cs' w'):wpOpsSIn Fence.wide 0 P ops Q (i::rest) a cs w:=by
 simp only[wpOpsSIn,d];refine⟨λ_ _=>trivial,?_⟩;rw[Bm e,c];cases c:recoverD cs with
 | none=>
  rw[c] at b
  simp only[L4] at b
  obtain⟨rfl,rfl⟩:=b;exact h
 | some p=>
  obtain⟨j,g⟩:=p;rw[c] at b
  simp only[L4] at b
  obtain⟨rfl,rfl⟩:=b;exact h
theorem C4{cs':Q0 Frame}
   (c:Sl n [] S a) (d:Nat.blt d0 n=true) (e:Nat.blt d1 n=true)
  (b:(match recoverD cs with | some (v,cs')=>(v,cs') | none=>(.nilIface,cs))=(v,cs')) (k:∀h,Sl n [] ((d1,v)::(d0,v)::S) h->Q .normal h cs' w):wpOpsSIn Fence.wide 0 P #[⟨some d0,.call ⟨.builtin .recover,#[],T0⟩,ty0,pos0,after0,none⟩,⟨some d1,.assign<|.tmp d0,ty1,pos1,after1,none⟩] Q [0,1] a cs w:=by
 have j:=c.put d v;have l:=j.put e v;have g:(a.put (some d0) v).eval (.tmp d0)=v:=j.eval (by simp[QP,K6]);refine Oa (i:=0) (w' :=w) (o:=⟨some d0,.call ⟨.builtin .recover,#[],T0⟩,ty0,pos0,after0,none⟩) rfl (by simp[Region.wanted]) Iy b ?_;refine zx (i:=1) (v:=v) (w' :=w) (o:=⟨some d1,.assign<|.tmp d0,ty1,pos1,after1,none⟩) rfl (by simp[Region.wanted]) (by simp[execOp,g]) ?_;exact k _ l
theorem wR.mk(p:P.funcs[f]? =some fn)(r:fn.body=some (.seq (.region i0 #[⟨some d0,.call ⟨.builtin .recover,#[],T0⟩,ty0,pos0,after0,none⟩,⟨some d1,.assign<|.tmp d0,ty1,pos1,after1,none⟩] false) rest))(s:fn.ntmps=n)(t:Nat.ble args.length n=true)(c:Nat.blt d0 n=true)(d:Nat.blt d1 n=true)
  (x:∀R,GC none P rest [] (jO P fn F Hs R) (Hd n [] ((d1,.nilIface)::(d0,.nilIface)::Dw 0 args) F<|Hs++[R]) (some ()) ())
  (y:∀q R,GC none P rest [] (jN P fn F (Hp q) R) (Hd n [] ((d1,penc q)::(d0,penc q)::Dw 0 args) F<|Hs++[R]) (some ()) ()):wR P penc f args.toArray F Hs Hp:=by
 refine⟨λw R j=> ?_,λq w R j=> ?_⟩
 ·refine iu p r trivial λc₀ cs k=> ?_;refine wpSIn_seq (wpSIn_region<|C4 (n:=n) (v:=.nilIface) (cs' :=c₀::cs) (S:=Dw 0 args) (by rw[s];exact WB t) c d (by simp[recoverD,k]) λl b=> ?_);refine wpSIn_of_wpIn rfl<|eX (x R rfl l w ⟨b,j.mono λm o=>K7<|QS (λ_ h=>YD h) o⟩) ?_;rintro e z A ⟨he,g,⟨v,i⟩,hs⟩;have u:c₀::cs={c₀ with mode:=.returning}::cs:=by cases c₀;simp_all
  rcases he with rfl | rfl
  ·exact⟨g,.returning,u,v,i,rfl,⟨v,rfl⟩,hs⟩
  ·exact⟨g,.returning,u,v,i,rfl,⟨v,rfl⟩,hs⟩
 ·refine iu p r trivial λc₀ cs k=> ?_;refine wpSIn_seq (wpSIn_region<|C4 (n:=n) (v:=penc q) (cs' :={c₀ with mode:=.panicking [{v:=penc q,recovered:=true}]}::cs) (S:=Dw 0 args) (by rw[s];exact WB t) c d (by simp[recoverD,k]) λl b=> ?_);refine wpSIn_of_wpIn rfl<|eX (y q R rfl l w ⟨b,j.mono λm o=>K7<|QS (λ_ h=>YD h) o⟩) ?_;rintro e z A ⟨he,g,⟨v,i⟩,hs⟩;rcases he with rfl | rfl
  ·exact⟨g,_,rfl,v,i,rfl,⟨v,rfl⟩,hs⟩
  ·exact⟨g,_,rfl,v,i,rfl,⟨v,rfl⟩,hs⟩
end
section
variable{P:C1}{n:Nat}{S:Q0 (Nat×K2)}{F F' :Fz}{hs Hs:Q0 HP}{fn:lg}{R:HP}{Hp:Fz->Q0 HP}
theorem Pl(is:Q0 Nat)(d:fn.results=#[])(hi:YJ is hs=Hs++[R]):some ()=some ()->∀a w,Hd n [] S F hs a w->jO P fn F Hs R .normal a w:=by
 intro _ a w b;refine⟨.inl rfl,b.1.2.1,⟨_,Jh (rs:=[]) (by simpa using d) b .nil⟩,b.2.mono λm e=> ?_⟩;have c:=Vd (ks:=is) e;rw[hi] at c
 exact Xw<|Ve c
theorem Pk(is:Q0 Nat)(d:fn.results=#[])(hi:YJ is hs=Hp F' ++[R])(le:F<=F'):some ()=some ()->∀a w,Hd n [] S F' hs a w->jN P fn F Hp R .normal a w:=by
 intro _ a w b;refine⟨.inl rfl,b.1.2.1,⟨_,Jh (rs:=[]) (by simpa using d) b .nil⟩,F',le,b.2.mono λm e=> ?_⟩;have c:=Vd (ks:=is) e;rw[hi] at c
 exact Xw<|Ve c
end
section
variable{β:Type}{P:C1}{n:Nat}{S:Q0 (Nat×K2)}{F F' :Fz}{hs:Q0 HP}
variable{G ε:Type}{penc:ε->K2}{fn:lg}{R:HP}{ρ:G->β->Fz->K2->Prop}{Hs' :G->β->Fz->Q0 HP}{x r:β}{rs:Q0 ResultVar}{vs:Q0 K2}{U:G}
theorem PK{caps:Q0 K2}{Hp:ε->Fz->Q0 HP}(b:Q0 Nat)(c:∀args w,(callFunc f args).run P w= .ok (.enter f args) w)(o:wR P penc f caps.toArray F' Hs Hp)(g:YJ b hs=Hs)(is:Q0 Nat)(p:fn.results=rs.toArray)(h:Sm P S F' (Hs++J9 b hs) rs vs)(hi:YJ is (Hs++J9 b hs)=Hs' U x F' ++[R])(le:F<=F')(hρ:ρ U x F' (AL vs)):some x=some r->∀a w,Hd n [Pn f caps] S F' hs a w->S8 P fn F R ρ Hs' r .ret a w:=by
 intro e a w d;simp only[UV] at e
 subst e;show LeavesIn Fence.wide 0 P fn a.tmps _ a.defers .returning w;rw[d.1.2.1]
 have i:SH w F' (star (Qg Hs)<|Qg<|J9 b hs):=d.2.mono λm j=>by
  have:=UG (ks:=b) j;rw[g] at this;exact this
 refine iF zh (λe=>by cases e) (Az c) Pa<|(o.1 w _ i).mono ?_;rintro _ _ w' ⟨rfl,⟨v,rfl⟩,q⟩;have k:SH w' F' (Qg<|Hs++J9 b hs):=q.mono λ_=>K7;refine⟨_,Jh (n:=n) (a:=a) (D:=a.defers) p ⟨⟨d.1.1,rfl,d.1.2.2⟩,k⟩ h,U,F',_,le,rfl,hρ,k.mono λm j=> ?_⟩;have l:=Vd (ks:=is) j;rw[hi] at l
 exact Xw<|Ve l
theorem EO{caps:Q0 K2}{Hp:ε->Fz->Q0 HP}{q:ε}(j:Nat)(c:∀args w,(callFunc f args).run P w= .ok (.enter f args) w)(t:wR P penc f caps.toArray F' Hs Hp)(is:Q0 Nat)(hi:YJ is hs=Hs)(u:fn.results=rs.toArray)(h:∀b,F'<=b->Sm P S b (Hp q b++J9 is hs) rs vs)(y:∀b,(Hp q b++J9 is hs)[j]? =some R)(le:F<=F')
  (d:∀w F R,SH w F R->∃U b,F<=b/\SH w b (star (Qg<|Hs' U x b) R)) (hρ:∀U b,ρ U x b<|AL vs):some x=some r->∀a w,Hd n [Pn f caps] S F' hs a w->S8 P fn F R ρ Hs' r (.panic [{v:=penc q,recovered:=false}]) a w:=by
 intro e a w i;simp only[UV] at e
 subst e;show LeavesIn Fence.wide 0 P fn a.tmps _ a.defers (.panicking _) w;rw[i.1.2.1]
 have l:SH w F' (star (Qg Hs)<|Qg<|J9 is hs):=i.2.mono λm z=>by
  have:=UG (ks:=is) z;rw[hi] at this;exact this
 refine iF zh (λe=>by cases e) (Az c) Pa<|(t.2 q w _ l).mono ?_;rintro _ _ w' ⟨rfl,⟨v,rfl⟩,k,g,A⟩;have p:SH w' k (Qg<|Hp q k++J9 is hs):=A.mono λ_=>K7;obtain⟨U,s,o,B⟩:=d _ _ _<|p.only<|y k;exact⟨_,Jh (n:=n) (a:=a) (D:=a.defers) u ⟨⟨i.1.1,rfl,i.1.2.2⟩,p⟩<|h k g,U,s,_,Fz.le_trans le<|Fz.le_trans g o,rfl,hρ U s,B⟩
end
section
variable{β:Type}{P:C1}{ops:S1 Rw}{rest:Q0 Rw}{ks:Q0 Kt}{Q:gw->Act->B1->Prop}{m:Q2 β}{r:β}
variable{n:Nat}{D:Q0 TO}{S:Q0 (Nat×K2)}{F:Fz}{hs:Q0 HP}{d:Nat}{ty t t' tx:A4}{pos:String}{after:S1 ll}{ox oy:IR}{v:K2}
theorem ue(b:P.underlying t=some (.interface ms))(k:Nat)(w:B1):(Op.equalIn (k+1) t .nilIface .nilIface).run P w= .ok true w:=by
 simp[Op.equalIn,YA b]
theorem O3(b:P.underlying t=some (.interface ms))(k:Nat)(w:B1):(Op.equalIn (k+1) t (.iface tx v) .nilIface).run P w= .ok false w:=by
 simp[Op.equalIn,YA b]
theorem xW(b:P.underlying t=some (.interface ms))(w:B1):(Op.equal t .nilIface .nilIface).run P w= .ok true w:=ue b 9999 w
theorem qi(b:P.underlying t=some (.interface ms))(w:B1):(Op.equal t (.iface tx v) .nilIface).run P w= .ok false w:=O3 b 9999 w
theorem GG.av(b:Nat.blt d n=true)(c:P.underlying t=some (.interface ms))(e:QP S ox=some .nilIface)(k:GL μ P ops rest ks Q (Hd n D ((d,.bool false)::S) F hs) m r):GL μ P ops (⟨some d,.binOp .neq t ox (.const .nilIface) t',ty,pos,after,none⟩::rest) ks Q (Hd n D S F hs) m r:=
 GG.val b (λa w g=>by
  have h:a.eval (.const .nilIface)= .nilIface:=rfl;simp[execOp,g.1.eval e,h,eqGuard,binOp,xW c]) k
theorem GG.au(b:Nat.blt d n=true)(c:P.underlying t=some (.interface ms))(e:QP S ox=some (.iface tx v))(k:GL μ P ops rest ks Q (Hd n D ((d,.bool true)::S) F hs) m r):GL μ P ops (⟨some d,.binOp .neq t ox (.const .nilIface) t',ty,pos,after,none⟩::rest) ks Q (Hd n D S F hs) m r:=
 GG.val b (λa w g=>by
  have h:a.eval (.const .nilIface)= .nilIface:=rfl;simp[execOp,g.1.eval e,h,eqGuard,binOp,qi c]) k
theorem GG.ai{b:oE}(c:Nat.blt d n=true)(e:P.underlying tx=some b)(i:∀ms,b≠.interface ms)(g:QP S ox=some (.iface tx v))(k:GL O P ops rest ks Q (Hd n D ((d,.tuple #[v,.bool true])::S) F hs) m r):GL O P ops (⟨some d,.typeAssert ox t tx true,ty,pos,after,none⟩::rest) ks Q (Hd n D S F hs) m r:=
 GG.val c (λa w h=>by
  have:(Instr.typeAssert (.iface tx v) t tx true).run P w= .ok (.tuple #[v,.bool true]) w:=by
   cases b<;>simp_all [Instr.typeAssert,YA e]
  simp[execOp,h.1.eval g,this]) k
end
theorem qK{X:HP}{m:Mem}(h:X m):star (Qg []) X m:=⟨λ_=>none,m,λ_=>.inl rfl,λ_ _ e=>by simp at e,Mem.sub.refl _,trivial,h⟩
theorem H2{α:Type}{γ:Nat}{C:Fz->Nat->α->HP}{R:HP}{m:Mem}(h:star (Qg hs) (star (vC γ []) R) m):star (Qg<|ZC γ C F []::hs) R m:=by
 have c:=UU<|Zi h;exact QR (λm b=>QR (λm b=>⟨[],rfl,m,λ_=>none,λ_=>.inr rfl,Mem.sub.refl _,λ_ _ e=>by simp at e,b,trivial⟩) b) c
end
end Go.Dec
end
