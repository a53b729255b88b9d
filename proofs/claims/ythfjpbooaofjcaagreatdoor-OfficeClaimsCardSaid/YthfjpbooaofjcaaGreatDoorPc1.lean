/- For OfficeClaims. -/
import Derived.Test.YthfjpbooaofjcaaGreatDoorPc0
import Derived.RecoverIn
import Derived.LaidEql
noncomputable section
namespace Go.Dec
abbrev T2:=@Prod.mk.injEq
abbrev RW:=@Bool.not_true
abbrev L3:=@List.mem_cons_of_mem
abbrev td:=@List.filter_congr
abbrev r6:=@beq_iff_eq
abbrev lS:=@List.filter_cons
abbrev lr:=@List.nodup_cons
abbrev el:=@List.filter_eq_self
abbrev oF:=@List.find?_cons
abbrev oK:=@List.getElem_map
abbrev oN:=@List.append_of_mem
abbrev oc:=@Bool.and_true
abbrev ov:=@LawfulBEq.eq_of_beq
abbrev qAD:=@List.length_map
abbrev qAF:=@List.map_map
abbrev qAN:=@List.pairwise_iff_getElem
abbrev qAn:=@Array.contains_push
abbrev qAt:=@Nat.ne_of_lt
abbrev qAu:=@Nat.lt_trichotomy
abbrev qBA:=@List.filter_map
abbrev qBI:=@leavesIn_cons
abbrev qBO:=@List.eraseIdx_cons_zero
abbrev qBX:=@callsIn_of_wp_defers
abbrev qBb:=@List.eraseIdx_set_eq
abbrev qBd:=@Bool.not_or
abbrev qBf:=@List.filter_sublist
abbrev qBh:=@Array.toList_modify
end Go.Dec
namespace Go.Dec
variable{ε β K V α σ G τ:Type}{P:B2}{n i b γ j d N clock ip B it:Nat}{O p:Q2 Nat}{μ:Md}{f:Nm}{fn:oW}{c:oZ}{args vs us eY as:Q0 K2}{F F' F0 F1:Fz}{Hs hs:Q0 HP}{S:Q0 (Nat×K2)}{ks:Q0 Kt}{R H:HP}{rs:Q0 ResultVar}{eX:C3 L0}{rest:Q0 L0}{Q:s6->Act->By->Prop}{D:Q0 AT}{ty t kt vt t' :S2}{pos:String}{after:C3 oX}{v:K2}{es:C3 ta}{w w' :By}{T:C3 S2}{o:L0}{ox oy oz of:OF}{X A:Act->By->Prop}{os:Q0 OF}{a:Act}{cs' :Q0 Frame}{en:ε->K2}{m:Q2 β}{ρ:β->Fz->K2->Prop}{x y x' :α}{q:ε}{r:β}{l l' l1 ix done:Q0 (K×V)}{xs xs' :Q0 (Q0<|K×V)}{k key:K}{ck:K->K2}{rv:Fz->V->K2->Prop}{val:V}{C:Fz->Nat->α->HP}{g:α->Q2 β}{gp:ε->Q2 β}{em:Q2 α}{s:τ}{Hs' :G->β->Fz->Q0 HP}{U:G}{I:Q0 α->Q0 α->τ->Act->By->Prop}{E:τ->τ->Prop}{Hp:ε->Fz->Q0 HP}
inductive Out(ε β:Type) where
 | ok (b:β)
 | pan (x:ε)
def YC:Q0 Nat->Q0 HP->Q0 HP
 | [],hs=>hs
 | k::ks,hs=>YC ks<|hs.eraseIdx k
theorem UO:∀{ks:Q0 Nat} {hs:Q0 HP} {m:Mem},Qk hs m->star (Qk<|YN ks hs) (Qk<|YC ks hs) m
 | [],_,m,h=>⟨λ_=>none,m,λ_=>.inl rfl,λ_ _ e=>by simp at e,Mem.sub.refl _,trivial,h⟩
 | k::ks,hs,m,h=>by
  have a:star ((hs[k]?).getD AX) (Qk<|hs.eraseIdx k) m:=by
   cases e:hs[k]? with
   | some p=>exact Vm e h
   | none=>exact Da h
  exact Ua<|QT (λ_ h=>UO (ks:=ks) h) a
theorem JD:∀{l k:Q0 HP} {m:Mem},star (Qk l) (Qk k) m->Qk (l++k) m
 | [],_,_,⟨_,_,_,_,a,_,h⟩=>stars_sub a h
 | _p::_l,_k,_m,h=>QT (λ_ h=>JD h)<|XS h
where
 stars_sub:∀{l:Q0 HP} {m n:Mem},Mem.sub m n->Qk l m->Qk l n
  | [],_,_,_,_=>trivial
  | _::_,_,_,s,⟨m1,m2,d,s1,s2,hp,hq⟩=>⟨m1,m2,d,s1.trans s,s2.trans s,hp,hq⟩
theorem Y5:∀{l k:Q0 HP} {m:Mem},Qk (l++k) m->star (Qk l) (Qk k) m
 | [],_,m,h=>⟨λ_=>none,m,λ_=>.inl rfl,λ_ _ e=>by simp at e,Mem.sub.refl _,trivial,h⟩
 | p::l,k,m,h=>Ua<|QT (λ_ h=>Y5 h) h
theorem Jx{p:HP}{m:Mem}(h:p m):Qk [p] m:=⟨m,λ_=>none,λ_=>.inr rfl,Mem.sub.refl _,λ_ _ e=>by simp at e,h,trivial⟩
def Vu(P:B2)(en:ε->K2)(f:Nm)(args:C3 K2)(F:Fz)(Hs:Q0 HP)(m:Q2 (Out ε β))(ρ:β->Fz->K2->Prop)(b:β->Fz->K2->Q0 HP):Prop:=
 ∀r,m=some r->∀w R,SH w F (star (Qk Hs) R)->Calls P f args w (λe w' =>∃a,F<=a/\match r with
  | .ok x=>∃v,e= .returned v/\ρ x a v/\SH w' a (star (Qk<|b x a v) R)
  | .pan x=>e= .panicked [{v:=en x,recovered:=false}]/\SH w' a R)
def PA(P:B2)(en:ε->K2)(fn:oW)(F:Fz)(R:HP)(ρ:β->Fz->K2->Prop)(b:β->Fz->K2->Q0 HP)(r:Out ε β):s6->Act->By->Prop:=
 bodyPost P fn (λe w' =>∃a,F<=a/\match r with
  | .ok x=>∃v,e= .returned v/\ρ x a v/\SH w' a (star (Qk<|b x a v) R)
  | .pan x=>e= .panicked [{v:=en x,recovered:=false}]/\SH w' a R)
theorem Vu.enter{m:Q2 (Out ε β)}{a:β->Fz->K2->Q0 HP}
  (d:P.funcs[f]? =some fn) (e:fn.body=some c) (g:fn.ntmps=n) (i:Nat.ble args.length n=true)
  (k:∀r R,GC none P c [] (PA P en fn F R ρ a r) (Hd n [] (D4 0 args) F<|Hs++[R]) m r):Vu P en f args.toArray F Hs m ρ a:=by
 intro r b w R j;refine qAR d e<|qAj.1<|k r R b _ w ⟨?_,j.mono λm b=>JD<|QT (λ_ h=>Jx h) b⟩;rw[g];exact WC i
section
variable{Hs' :β->Fz->K2->Q0 HP}{x:β}{r:Out ε β}
theorem XR{A:HP}{m:Mem}(h:star A (Qk [R]) m):star A R m:=by
 obtain⟨b,j,d,c,e,f,g,_,_,a,_,i,_⟩:=h;exact⟨b,g,d.sub (Mem.sub.refl _) a,c,a.trans e,f,i⟩
theorem EL(is:Q0 Nat)(d:fn.results=rs.toArray)(h:S5 P S F' hs rs vs)(hi:YN is hs=Hs' x F' (Ai vs)++[R])(le:F<=F')(hρ:ρ x F' (Ai vs)):some (Out.ok x)=some r->∀a w,Hd n [] S F' hs a w->PA P en fn F R ρ Hs' r .ret a w:=by
 intro e a w b;simp only[UV] at e
 subst e;refine⟨b.1.2.1,_,Jn d b h,F',le,_,rfl,hρ,b.2.mono λm f=> ?_⟩;have c:=YZ (ks:=is) f;rw[hi] at c
 exact XR<|Y5 c
theorem GG.sx(is:Q0 Nat)(a:fn.results=rs.toArray)(h:S5 P S F' hs rs vs)(hi:YN is hs=Hs' x F' (Ai vs)++[R])(le:F<=F')(hρ:ρ x F' (Ai vs)):GC O P .ret ks (PA P en fn F R ρ Hs' r) (Hd n [] S F' hs) (some<|.ok x) r:=GG.sR<|EL is a h hi le hρ
theorem GG.sr(is:Q0 Nat)(a:fn.results=rs.toArray)(h:S5 P S F' hs rs vs)(hi:YN is hs=Hs' x F' (Ai vs)++[R])(le:F<=F')(hρ:ρ x F' (Ai vs)):GE O P [] (PA P en fn F R ρ Hs' r) (Hd n [] S F' hs) (some<|.ok x) r:=GG.cg<|EL is a h hi le hρ
theorem Qo(hi:hs[i]? =some R)(le:F<=F'):some (Out.pan q)=some r->∀a w,Hd n [] S F' hs a w->PA P en fn F R ρ Hs' r (.panic [{v:=en q,recovered:=false}]) a w:=by
 intro e a w b;simp only[UV] at e
 subst e;exact⟨b.1.2.1,F',le,rfl,b.2.only hi⟩
end
theorem GG.pM{b:Q2 Tmp}{d:OF}{T:S2}(f:QS S d=some (.iface T v))
  (h:m=some r->∀a w,Hd n D S F hs a w->Q (.panic [{v:=.iface T v,recovered:=false}]) a w):GL O P eX (⟨b,.panic d,ty,pos,after,none⟩::rest) ks Q (Hd n D S F hs) m r:=by
 intro g a w e;refine dN ?_;unfold Xp;rw[DO<|by simp[Region.wanted]];refine⟨.inr rfl,?_⟩
 have c:(execOp a.eval ⟨b,.panic d,ty,pos,after,none⟩).run P w= .halt (.panic<|.iface T v) w:=by
  simp[execOp,Instr.panic,e.1.eval f,goPanic]
 rw[c];exact JF<|h g a w e
variable{e:Q2 (Out ε α)}
section
variable{c:Nat}{xs:Q0 α}{G:Fz}{vv zv:K2}
theorem ZT.at{p:Q2 C1}{x:Q2 Nat}(h:ZT γ F p x)(e:x=some i):∃b,UE γ F i b/\p=some ⟨b,0,none⟩:=by subst e;exact h
theorem Z4.at{x:Q2 Nat}(h:Z4 γ F p x)(e:x=some i):∃b,UE γ F i b/\p=some b:=by subst e;exact h
theorem Zf{a:Q0 α}(h:xs[j]? =some x)(e:a=xs.set j y):a[j]? =some y:=by
 subst e;rw[lg];simp[(Fm.1 h).1]
section
variable{T:Nat}{c:Up α}{xs:Q0 α}
theorem SH.tD(h:SH w F (star (ZE γ (Uy T c) F0 xs) H))(d:UE γ F j b)(e:xs[j]? =some x):∃vs:Q0 K2,(∀a,F0<=a->c a x vs)/\w.heap[b]? =some (.cells vs.toArray T):=by
 obtain⟨m,⟨n,_,_,f,_,⟨vs,g,i⟩,_⟩,k⟩:=h.aY d e;exact⟨vs,g,k.ry<|f _ _ i⟩
theorem SH.rm{o:Nat}(h:SH w F (star (ZE γ (Uy T c) F0 xs) H))(r:UE γ F j b)(g:xs[j]? =some x)(e:F0<=G)(s:∀a vs,G<=a->c a x vs->c a x' (Ki vs o us)):∃vs:Q0 K2,(∀a,F0<=a->c a x vs)/\w.heap[b]? =some (.cells vs.toArray T)/\SH (Dec.put w b<|.cells (Ki vs o us).toArray T) F (star (ZE γ (Uy T c) G<|xs.set j x') H):=by
 obtain⟨m,⟨t,u,d,i,v,⟨vs,n,q⟩,y⟩,k⟩:=h.aY r g;have hs:SH w F (star (pt b<|.cells vs.toArray T)<|star (hole γ (Uy T c) F0 j b xs) H):=⟨m,⟨t,u,d,i,v,q,y⟩,k⟩;refine⟨vs,n,k.ry<|i _ _ q,?_⟩;have z:=hs.put (o' :=.cells (Ki vs o us).toArray T);refine SH.az (F0:=F0) (b:=b) Uy.stays e (z.mono λm f=>QR (λm f=>⟨Ki vs o us,λa le=>s a vs le<|n a<|Fz.le_trans e le,f⟩) f) (Fm.1 g).1
end
section
variable{d' :Q2 Nat}{e:S2}
theorem GG.cZ{a:C1}{p:Q2 C1}(f:p=some a)(g:Nat.blt d n=true)(h:QS S ox=some (.pointer p))(k:GL μ P eX rest ks Q (Hd n D ((d,.pointer<|some a)::S) F hs) m r):GL μ P eX (⟨some d,.nilCheck ox,ty,pos,after,none⟩::rest) ks Q (Hd n D S F hs) m r:=by
 subst f;exact GG.nilCheck g h k
section
variable{T o:Nat}{c:Up α}{xs:Q0 α}
theorem GG.cp{Φ:K2->Prop}(i:Nat)(hi:hs[i]? =some (ZE γ (Uy T c) F0 xs))(g:F0<=F)(q:UE γ F j b)(h:xs[j]? =some x)(s:Nat.blt d n=true)(u:∀w,(isAgg t).run P w= .ok false w)
  (y:QS S ox=some (.pointer<|some ⟨b,o,none⟩)) (z:∀vs,c F x vs->∃v,vs[o]? =some v/\Φ v) (k:∀v,Φ v->GL μ P eX rest ks Q (Hd n D ((d,v)::S) F hs) m r):GL μ P eX (⟨some d,.load t ox,ty,pos,after,none⟩::rest) ks Q (Hd n D S F hs) m r:=by
 refine GG.aL rfl rfl λA a w f=> ?_;obtain⟨vs,B,C⟩:=(f.2.pull hi).tD q h;obtain⟨v,E,hΦ⟩:=z _<|B F g;refine⟨v,?_,k v hΦ A _ _ ⟨f.1.put s _,f.2⟩⟩;simp[execOp,f.1.eval y,BH u (by rw[cell_of_heap C];exact E)]
theorem GG.aI{z:Nat}{Φ:Q0 K2->Prop}(i:Nat)(hi:hs[i]? =some (ZE γ (Uy T c) F0 xs))(g:F0<=F)(s:UE γ F j b)(h:xs[j]? =some x)(u:Nat.blt d n=true)(y:∀w,(isAgg t).run P w= .ok true w)(A:∀w,(sizeOf t).run P w= .ok z w)
  (B:QS S ox=some (.pointer<|some ⟨b,o,none⟩)) (C:∀vs,c F x vs->∃us,(vs.drop o).take z=us/\us.length=z/\Φ us) (k:∀us,Φ us->GL μ P eX rest ks Q (Hd n D ((d,.agg us.toArray)::S) F hs) m r):GL μ P eX (⟨some d,.load t ox,ty,pos,after,none⟩::rest) ks Q (Hd n D S F hs) m r:=by
 refine GG.aL rfl rfl λE a w f=> ?_;obtain⟨vs,I,L⟩:=(f.2.pull hi).tD s h;obtain⟨us,M,q,hΦ⟩:=C _<|I F g;refine⟨.agg us.toArray,?_,k us hΦ E _ _ ⟨f.1.put u _,f.2⟩⟩;simp[execOp,f.1.eval B,BG y A L M q]
theorem GG.sH{g:Nat}{xs' :Q0 α}(i:Nat)(hi:hs[i]? =some (ZE γ (Uy T c) F0 xs))(h:F0<=G)(y:G<=F)(C:∀q vs,c q x vs->vs.length=N)(E:∀w,(sizeOf t).run P w= .ok g w)(I:UE γ F j b)(z:xs[j]? =some x)
  (L:QS S ox=some (.pointer<|some ⟨b,o,none⟩)) (M:QS S oy=some v) (R:v.cells=us.toArray) (s:us.length=g) (W:us.all Value.oneCell' =true) (A:Nat.ble (o+g) N=true)
  (X:∀q vs,G<=q->c q x vs->c q x' (Ki vs o us)) (he:xs' =xs.set j x')
  (k:GL O P eX rest ks Q (Hd n D S F<|hs.set i<|ZE γ (Uy T c) G xs') m r):GL O P eX (⟨none,.store t ox oy,ty,pos,after,none⟩::rest) ks Q (Hd n D S F hs) m r:=by
 subst he;refine GG.tF rfl (.inr rfl) λY a w u=> ?_;obtain⟨vs,Z,g2,g3⟩:=(u.2.pull hi).rm (o:=o) (us:=us) I z h X;have hl:=C _ _<|Z F<|Fz.le_trans h y;have B:=AC A;refine⟨_,?_,k Y _ _ ⟨u.1.sb _,SH.push hi g3⟩⟩;have f:=XT (P:=P) (o:=o) (i:=0) g2 hQ W;simp only[qAv] at f
 simp only[execOp,Instr.storeAt,u.1.eval L,u.1.eval M,Instr.sureAddr,storeVar,y1,E,Result.andThen,R];simp[s,f]
end
section
variable[BEq K][LawfulBEq K]
theorem TL:∀{l:Q0 (K×V)} {k:K} {v:V},QZ l k=some v->(k,v)∈l
 | [],_,_,h=>by cases h
 | x::l,k,v,h=>by
  simp only[QZ] at h
  split at h
  .rename_i a;simp only[UV] at h
   have:=ov a;subst this;subst h;simp
  .exact L3 _<|TL h
theorem Dq:∀{l:Q0 (K×V)} {k:K} {v:V},(l.map Prod.fst).Nodup->(k,v)∈l->QZ l k=some v
 | [],_,_,_,h=>by cases h
 | x::l,k,v,a,h=>by
  simp only[Of,lr] at a
  simp only[QZ];rcases A4.1 h with h | h
  .subst h;simp
  .have g:(k==x.1)=false:=by
    cases i:k==x.1 with
    | false=>rfl
    | true=>exact absurd (wt (f:=Prod.fst) h) (by have:=ov i;rw[this];exact a.1)
   rw[g];exact Dq a.2 h
theorem Wo(a:l'.Perm l)(g:(l.map Prod.fst).Nodup):QZ l' k=QZ l k:=by
 have f:(l'.map Prod.fst).Nodup:=(a.map _).nodup_iff.2 g;cases h:QZ l k with
 | some v=>exact Dq f (a.mem_iff.2<|TL h)
 | none=>
  cases h' :QZ l' k with
  | none=>rfl
  | some v=>rw[Dq g<|a.mem_iff.1<|TL h'] at h;cases h
theorem E1(h:k∉l.map Prod.fst):l.filter (λx=> !(k==x.1))=l:=
 el.2 λx a=>by
  cases g:k==x.1 with
  | false=>rfl
  | true=>exact absurd (by have:=ov g;rw[this];exact wt (f:=Prod.fst) a) h
theorem Jv:∀{l:Q0 (K×V)} {k:K} {v:V},(l.map Prod.fst).Nodup->(Qq l k v).Perm ((k,v)::l.filter (λx=> !(k==x.1)))
 | [],_,_,_=>.refl _
 | x::l,k,v,a=>by
  simp only[Of,lr] at a
  simp only[Qq,lS];cases f:k==x.1 with
  | true=>
   have:=ov f;simp only[B1,RW,W1,Bm];rw[E1 (by rw[this];exact a.1)]
  | false=>
   simp only[W1,Bm,u1,B1];exact((Jv a.2).cons x).trans<|.swap _ _ _
theorem Jb{v:V}(a:(l.map Prod.fst).Nodup):((Qq l k v).map Prod.fst).Nodup:=by
 rw[((Jv a).map Prod.fst).nodup_iff];simp only[Of,lr,lX,rW,not_exists,not_and,and_imp];refine⟨λx _ f e=> ?_,(a.sublist<|(qBf (l:=l)).map _)⟩;rw[e] at f;simp at f
theorem Gb{v:V}(a:l'.Perm l)(f:(l.map Prod.fst).Nodup):(Qq l' k v).Perm (Qq l k v):=(Jv<|(a.map _).nodup_iff.2 f).trans (((a.filter _).cons _).trans (Jv f).symm)
def J7[BEq K]:Q0 (K×V)->K->Q0 (K×V)
 | [],_=>[]
 | x::l,k=>if k==x.1 then l else x::J7 l k
theorem XH:∀{l:Q0 (K×V)} {k:K},(l.map Prod.fst).Nodup->J7 l k=l.filter (λx=> !(k==x.1))
 | [],_,_=>rfl
 | x::l,k,a=>by
  simp only[Of,lr] at a
  simp only[J7,lS];cases f:k==x.1 with
  | true=>
   have:=ov f;simp only[B1,RW,W1,Bm];rw[E1 (by rw[this];exact a.1)]
  | false=>
   simp only[W1,Bm,u1,B1];rw[XH a.2]
theorem B7(a:(l.map Prod.fst).Nodup):((J7 l k).map Prod.fst).Nodup:=by
 rw[XH a];exact a.sublist<|(qBf (l:=l)).map _
theorem SS(a:l'.Perm l)(f:(l.map Prod.fst).Nodup):(J7 l' k).Perm (J7 l k):=by
 rw[XH f,XH<|(a.map _).nodup_iff.2 f];exact a.filter _
end
def Qc(ck:K->K2)(rv:Fz->V->K2->Prop)(F:Fz)(b:Nat)(l:Q0 (K×V)):HP:=λm=>∃l' :Q0 (K×V),l'.Perm l/\(l.map Prod.fst).Nodup/\Gx ck rv F b l' m
theorem KG{m:Mem}(le:F<=F')(h:Qc ck rv F b l m):Qc ck rv F' b l m:=let⟨l',a,f,g⟩:=h;⟨l',a,f,ya le g⟩
theorem Hu:HK (α:=Q0<|K×V) (Qc ck rv):=λ_ _ _ _ _ le h=>KG le h
theorem W8(h:SH w F (star (Qc ck rv F0 b l) H)):∃(es:C3 ta) (clock:Nat) (l' :Q0 (K×V)),l'.Perm l/\(l.map Prod.fst).Nodup/\w.heap[b]? =some (.map es clock)/\Uw ck rv F0 es.toList l'/\SH w F (star (pt b<|.map es clock) H)/\Ye es.toList clock:=by
 obtain⟨m,⟨a,f,d,g,i,⟨l',o,q,s⟩,u⟩,k⟩:=h;obtain⟨es,c,y,z,A,B⟩:=Oq (ck:=ck) (rv:=rv) (F0:=F0) (b:=b) (l:=l') ⟨m,⟨a,f,d,g,i,s,u⟩,k⟩;exact⟨es,c,l',o,q,y,z,A,B⟩
section
variable{xs:Q0 (Q0<|K×V)}{z:V}
theorem SH.tH(h:SH w F (star (ZE γ (Qc ck rv) F0 xs) H))(g:UE γ F j b)(a:xs[j]? =some l):∃(es:C3 ta) (clock:Nat) (l' :Q0 (K×V)),l'.Perm l/\(l.map Prod.fst).Nodup/\w.heap[b]? =some (.map es clock)/\Uw ck rv F0 es.toList l'/\Ye es.toList clock:=by
 obtain⟨es,c,l',i,f,o,q,_,s⟩:=W8<|h.aY g a;exact⟨es,c,l',i,f,o,q,s⟩
theorem SH.rU(h:SH w F (star (ZE γ (Qc ck rv) F0 xs) H))(i:UE γ F j b)(a:xs[j]? =some l)(f:F0<=G)(o:l1.Perm l')(q:(l'.map Prod.fst).Nodup)(s:Uw ck rv G es.toList l1)(u:Ye es.toList clock):SH (Dec.put w b<|.map es clock) F (star (ZE γ (Qc ck rv) G<|xs.set j l') H):=by
 obtain⟨_,_,_,_,_,_,_,y,_⟩:=W8<|h.aY i a;have A:=y.put (o' :=.map es clock);exact SH.az (F0:=F0) (b:=b) Hu f (A.mono λm g=>QR (λm g=>⟨l1,o,q,es,clock,g,s,u⟩) g) (Fm.1 a).1
theorem SH.pf(h:SH w F (star (Qc ck rv F0 b l) H))(f:l1.Perm l')(g:(l'.map Prod.fst).Nodup)(i:Uw ck rv G es.toList l1)(o:Ye es.toList clock):SH (Dec.put w b<|.map es clock) F (star (Qc ck rv G b l') H):=by
 obtain⟨_,_,_,_,_,_,_,q,_⟩:=W8 h;exact(q.put (o' :=.map es clock)).mono λm a=>QR (λm a=>⟨l1,f,g,es,clock,a,i,o⟩) a
theorem GG.sY(ck:K->K2)(rv:Fz->V->K2->Prop)(h:Nat.blt d n=true)(k:∀b,GL O P eX rest ks Q (Hd n D ((d,.map<|some b)::S) F<|Qc ck rv F b []::hs) m r):GL O P eX (⟨some d,.makeMap t none,ty,pos,after,none⟩::rest) ks Q (Hd n D S F hs) m r:=GG.makeMap ck rv h λb=>λf a w g=>k b f a w ⟨g.1,g.2.mono λ_m f=>QR (λ_m f=>⟨[],.refl _,List.nodup_nil,f⟩) f⟩
theorem GG.nB(i:Nat)(hi:hs[i]? =some (ZE γ (Qc ck rv) F0 xs))(f:UE γ F j b)(q:p=some b)(g:xs[j]? =some l)(s:Nat.blt d n=true)(u:T[0]? =some t)(y:P.underlying t=some (.map kt vt))(A:QS S ox=some (.map p))
  (k:GL μ P eX rest ks Q (Hd n D ((d,.int .i64 l.length)::S) F hs) m r):GL μ P eX (⟨some d,.call ⟨.builtin .len,#[ox],T⟩,ty,pos,after,none⟩::rest) ks Q (Hd n D S F hs) m r:=by
 subst q
 exact GG.val s (λa w o=>by
  obtain⟨es,c,l',h,_,f,B,_⟩:=(o.2.pull hi).tH f g;have:es.size=l.length:=by rw[<-h.length_eq,<-B.len];simp
  simp[execOp,resolve,invoke,builtin,Builtin.len_,o.1.eval A,u,YU y,goInt,Yf f,this]) k
variable[BEq K][LawfulBEq K]
omit [LawfulBEq K] in
theorem B4(q:w.heap[b]? =some (.map es c))(B:Uw ck rv F0 es.toList l')(g:F0<=F)(s:P.underlying t=some (.map kt vt))(ok:HL P kt ck)(h:∀w,(zeroValue vt).run P w= .ok zv w)(C:rv F z zv)(f:Bool):∃v,rv F ((QZ l' key).getD z) v/\(Instr.lookup t (.map<|some b) (ck key) f).run P w= .ok (if f then .tuple #[v,.bool (QZ l' key).isSome] else v) w:=by
 obtain⟨kd,u,a⟩:=ok.und;rcases B.find (k:=key) a ok.eq 0 with⟨i,y,_⟩ | ⟨j,E,M,i,y,A,I,L,_⟩
 .have o:=run_findKey (w:=w) u y;refine⟨zv,by rw[i];exact C,?_⟩;cases f<;>simp[Instr.lookup,YU s,Yf q,ok.check,o,h,i]
 .have o:=run_findKey (w:=w) u I;refine⟨E.val,by rw[A];exact L F g,?_⟩;cases f<;>simp[Instr.lookup,YU s,Yf q,ok.check,o,A]
theorem GG.aH(i:Nat)(hi:hs[i]? =some (ZE γ (Qc ck rv) F0 xs))(h:F0<=F)(A:UE γ F j b)(B:p=some b)(o:xs[j]? =some l)(C:Nat.blt d n=true)(E:P.underlying t=some (.map kt vt))(ok:HL P kt ck)(q:∀w,(zeroValue vt).run P w= .ok zv w)(I:rv F z zv)(L:QS S ox=some (.map p))(M:QS S oy=some (ck key))
  (k:∀v,rv F ((QZ l key).getD z) v->GL μ P eX rest ks Q (Hd n D ((d,v)::S) F hs) m r):GL μ P eX (⟨some d,.lookup t ox oy false,ty,pos,after,none⟩::rest) ks Q (Hd n D S F hs) m r:=by
 subst B;refine GG.aL rfl rfl λN a w f=> ?_;obtain⟨es,c,l',s,R,u,W,_⟩:=(f.2.pull hi).tH A o;obtain⟨v,y,g⟩:=B4 (key:=key) u W h E ok q I false;rw[Wo s R] at y
 refine⟨v,?_,k v y N _ _ ⟨f.1.put C _,f.2⟩⟩;simp[execOp,f.1.eval L,f.1.eval M,g]
theorem GG.rV(i:Nat)(hi:hs[i]? =some (ZE γ (Qc ck rv) F0 xs))(h:F0<=F)(A:UE γ F j b)(B:p=some b)(o:xs[j]? =some l)(C:Nat.blt d n=true)(E:P.underlying t=some (.map kt vt))(ok:HL P kt ck)(q:∀w,(zeroValue vt).run P w= .ok zv w)(I:rv F z zv)(L:QS S ox=some (.map p))(M:QS S oy=some (ck key))
  (k:∀v,rv F ((QZ l key).getD z) v->GL μ P eX rest ks Q (Hd n D ((d,.tuple #[v,.bool (QZ l key).isSome])::S) F hs) m r):GL μ P eX (⟨some d,.lookup t ox oy true,ty,pos,after,none⟩::rest) ks Q (Hd n D S F hs) m r:=by
 subst B;refine GG.aL rfl rfl λN a w g=> ?_;obtain⟨es,c,l',s,R,u,W,_⟩:=(g.2.pull hi).tH A o;obtain⟨v,y,f⟩:=B4 (key:=key) u W h E ok q I true;rw[Wo s R] at y f
 refine⟨_,?_,k v y N _ _ ⟨g.1.put C _,g.2⟩⟩;simp[execOp,g.1.eval L,g.1.eval M,f]
omit [LawfulBEq K] in
theorem GS(o:w.heap[b]? =some (.map es c))(M:Uw ck rv F es.toList l1)(h:Ye es.toList c)(A:P.underlying t=some (.map kt vt))(ok:HL P kt ck)(B:∀C,F<=C->rv C val vv):∃a c',(Instr.mapUpdate t (.map<|some b) (ck key) vv).run P w= .ok () (Dec.put w b<|.map a c')/\Uw ck rv F a.toList (Qq l1 key val)/\Ye a.toList c' :=by
 obtain⟨kd,E,g⟩:=ok.und;rcases M.find (k:=key) g ok.eq 0 with⟨I,s,L⟩ | ⟨u,N,X,I,s,L,R,Y,W⟩
 .refine⟨es.push {key:=ck key,val:=vv,born:=c},c+1,?_,by simpa using L val {key:=ck key,val:=vv,born:=c} rfl B,by simpa using h.push⟩;have q:=run_findKey (w:=w) E s;simp[Instr.mapUpdate,YU A,Yf o,ok.check,q,Ft o]
 .refine⟨es.modify u λe=>{e with key:=ck key,val:=vv},c,?_,by rw[qBh];exact W val (λe=>{e with key:=ck key,val:=vv}) rfl B,by rw[qBh];exact h.modify (j:=u) (f:=λe=>{e with key:=ck key,val:=vv}) λ_=>rfl⟩;have q:=run_findKey (w:=w) E R;rw[s5] at q
  have i:es[u]? =some N:=by simpa using I
  have y:=ok.same key;simp[Instr.mapUpdate,YU A,Yf o,ok.check,q,Ft o,i,s,Instr.keyThatStays,y]
theorem GG.aG(i:Nat)(hi:hs[i]? =some (ZE γ (Qc ck rv) F0 xs))(g:F0<=F)(y:UE γ F j b)(C:p=some b)(h:xs[j]? =some l)(E:P.underlying t=some (.map kt vt))(ok:HL P kt ck)(I:QS S ox=some (.map p))(L:QS S oy=some (ck key))(M:QS S oz=some vv)(N:∀A,F<=A->rv A val vv)(he:xs' =xs.set j (Qq l key val))
  (k:GL O P eX rest ks Q (Hd n D S F<|hs.set i<|ZE γ (Qc ck rv) F xs') m r):GL O P eX (⟨none,.mapUpdate t ox oy oz,ty,pos,after,none⟩::rest) ks Q (Hd n D S F hs) m r:=by
 subst C;subst he;refine GG.tF rfl (.inr rfl) λR a w f=> ?_;obtain⟨es,c,l1,q,B,s,W,u⟩:=(f.2.pull hi).tH y h;obtain⟨X,c',o,Y,Z⟩:=GS (key:=key) (val:=val) s (W.up g) u E ok N;refine⟨_,?_,k R _ _ ⟨f.1.sb _,SH.push hi<|(f.2.pull hi).rU y h g (Gb q B) (Jb B) Y Z⟩⟩;simp[execOp,f.1.eval I,f.1.eval L,f.1.eval M,o]
theorem GG.sN(i:Nat)(hi:hs[i]? =some (Qc ck rv F0 b l))(h:F0<=F)(A:P.underlying t=some (.map kt vt))(ok:HL P kt ck)(B:QS S ox=some (.map<|some b))(C:QS S oy=some (ck key))(E:QS S oz=some vv)(I:∀u,F<=u->rv u val vv)(he:l' =Qq l key val)
  (k:GL O P eX rest ks Q (Hd n D S F<|hs.set i<|Qc ck rv F b l') m r):GL O P eX (⟨none,.mapUpdate t ox oy oz,ty,pos,after,none⟩::rest) ks Q (Hd n D S F hs) m r:=by
 subst he;refine GG.tF rfl (.inr rfl) λL a w f=> ?_;obtain⟨es,c,l1,o,y,q,M,_,s⟩:=W8<|f.2.pull hi;obtain⟨N,c',g,R,W⟩:=GS (key:=key) (val:=val) q (M.up h) s A ok I;refine⟨_,?_,k L _ _ ⟨f.1.sb _,SH.push hi<|(f.2.pull hi).pf (Gb o y) (Jb y) R W⟩⟩;simp[execOp,f.1.eval B,f.1.eval C,f.1.eval E,g]
theorem GG.sE(i:Nat)(hi:hs[i]? =some (Qc ck rv F0 b l))(h:F0<=F)(A:P.underlying t=some (.map kt vt))(ok:HL P kt ck)(B:QS S ox=some (.map<|some b))(C:QS S oy=some (ck key))(E:QS S oz=some vv)(I:∀u,F<=u->rv u val vv)(he:l' =Qq l key val)
  (k:GL O P eX rest ks Q (Hd n D S F<|hs.set i<|Qc ck rv F b l') m r):GL O P eX (⟨none,.insert t ox oy oz,ty,pos,after,none⟩::rest) ks Q (Hd n D S F hs) m r:=by
 subst he;refine GG.tF rfl (.inr rfl) λL a w f=> ?_;obtain⟨es,c,l1,o,y,q,M,_,s⟩:=W8<|f.2.pull hi;obtain⟨N,c',g,R,W⟩:=GS (key:=key) (val:=val) q (M.up h) s A ok I;refine⟨_,?_,k L _ _ ⟨f.1.sb _,SH.push hi<|(f.2.pull hi).pf (Gb o y) (Jb y) R W⟩⟩;simp[execOp,f.1.eval B,f.1.eval C,f.1.eval E,g]
omit [LawfulBEq K] in
theorem Uw.del{kd:qAg}{k:K}(h:∀a b,Instr.sameNow kd (ck a) (ck b)=some (a==b)):∀{es:Q0 ta} {l:Q0 (K×V)} (g:Nat),Uw ck rv F es l->
   (Instr.findNow kd (ck k) es g=some none/\J7 l k=l)∨
   (∃j e,Instr.findNow kd (ck k) es g=some (some (g+j,e))/\j < es.length/\Uw ck rv F (es.eraseIdx j) (J7 l k))
 | [],[],_,_=>.inl ⟨rfl,rfl⟩
 | e::es,x::l,g,⟨i,y,u⟩=>by
  by_cases o:(k==x.1)=true
  .right;refine⟨0,e.val,by simp[Instr.findNow,i,h,o],by simp,?_⟩;simp only[J7,o,B1,qBO];exact u
  .have f:(k==x.1)=false:=by simpa using o
   rcases Uw.del (k:=k) h (g+1) u with⟨q,s⟩ | ⟨j,A,q,s,B⟩
   .left;exact⟨by simp[Instr.findNow,i,h,f,q],by simp[J7,f,s]⟩
   .right;refine⟨j+1,A,by simp[Instr.findNow,i,h,f,q];omega,by simpa using s,?_⟩;simp only[J7,f,W1,Bm,oU];exact⟨i,y,B⟩
omit [LawfulBEq K] in
theorem zp(h:w.heap[b]? =some (.map es c))(u:Uw ck rv F es.toList l1)(g:Ye es.toList c)(y:T[0]? =some t)(A:P.underlying t=some (.map kt vt))(ok:HL P kt ck):∃a:C3 ta,(Builtin.delete_ T ty #[.map<|some b,ck key]).run P w= .ok (.tuple #[]) (Dec.put w b<|.map a c)/\Uw ck rv F a.toList (J7 l1 key)/\Ye a.toList c:=by
 obtain⟨kd,B,f⟩:=ok.und;rcases u.del (k:=key) f 0 with⟨o,q⟩ | ⟨s,I,o,q,E⟩
 .have i:=run_findKey (w:=w) B o;refine⟨es,?_,by rw[q];exact u,g⟩;simp[Builtin.delete_,y,YU A,Yf h,ok.check,i,Ft h]
 .have C:s < es.size:=by simpa using q
  have i:=run_findKey (w:=w) B o;rw[s5] at i
  refine⟨es.eraseIdxIfInBounds s,?_,by simpa[Array.eraseIdxIfInBounds,C] using E,by simpa[Array.eraseIdxIfInBounds,C] using g.erase (j:=s)⟩;simp[Builtin.delete_,y,YU A,Yf h,ok.check,i,Ft h]
theorem GG.nI(i:Nat)(hi:hs[i]? =some (ZE γ (Qc ck rv) F0 xs))(u:UE γ F j b)(A:p=some b)(g:xs[j]? =some l)(B:∀e,d' =some e->Nat.blt e n=true)(C:T[0]? =some t)(E:P.underlying t=some (.map kt vt))(ok:HL P kt ck)(I:QS S ox=some (.map p))(L:QS S oy=some (ck key))(he:xs' =xs.set j (J7 l key))
  (k:GL O P eX rest ks Q (Hd n D (match d' with | some e=>(e,.tuple #[])::S | none=>S) F<|hs.set i<|ZE γ (Qc ck rv) F0 xs') m r):GL O P eX (⟨d',.call ⟨.builtin .delete,#[ox,oy],T⟩,ty,pos,after,none⟩::rest) ks Q (Hd n D S F hs) m r:=by
 subst A;subst he;refine GG.step rfl (.inr rfl) λM a w f=> ?_;obtain⟨es,c,l1,o,y,q,N,s⟩:=(f.2.pull hi).tH u g;obtain⟨R,h,W,X⟩:=zp (key:=key) (ty:=ty) q N s C E ok;refine⟨.tuple #[],_,?_,k M _ _ ⟨?_,SH.push hi<|(f.2.pull hi).rU u g (Fz.le_refl _) (SS o y) (B7 y) W X⟩⟩
 .simp[execOp,resolve,invoke,builtin,f.1.eval I,f.1.eval L,h]
 .cases d' with
  | none=>exact f.1.sb _
  | some e=>exact f.1.put (B e rfl) _
end
end
section
variable{xs xs' :Q0 α}
theorem GG.aA{g:Gp}{p:HP}(k i:Nat)(h:hs[k]? =some p)(hi:(hs.eraseIdx k)[i]? =some (ZE γ C F0 xs))(o:HK C)(le:F0<=F)(q:∀d m,F<=d->p m->C d b x m)(he:xs' =xs++[x])
  (K:∀d,F<=d->UE γ d xs.length b->GG g (Hd n D S d<|(hs.eraseIdx k).set i<|ZE γ C d xs') m r):GG g (Hd n D S F hs) m r:=by
 exact λe a w f=>by
  subst he;have s:SH w F (star p<|star (ZE γ C F0 xs)<|Qk<|(hs.eraseIdx k).eraseIdx i):=(f.2.pull h).mono λm e=>QT (λ_=>Vm hi) e;obtain⟨d,l,t,u⟩:=SH.nW o le s q;exact K d l t e a w ⟨f.1,SH.push hi u⟩
theorem GG.tv{g:Gp}(C:Fz->Nat->α->HP)(i:Nat)(hi:hs[i]? =some (yr γ []))(K:GG g (Hd n D S F<|hs.set i<|ZE γ C F []) m r):GG g (Hd n D S F hs) m r:=by
 exact λd a w f=>
  K d a w ⟨f.1,SH.push hi<|(f.2.pull hi).mono λm d=>QR (λm d=>⟨[],rfl,m,λ_=>none,λ_=>.inr rfl,Mem.sub.refl _,λ_ _ e=>by simp at e,d,trivial⟩) d⟩
theorem GG.aF{g:Gp}(K:∀γ d,F<=d->GG g (Hd n D S d<|yr γ []::hs) m r):GG g (Hd n D S F hs) m r:=by
 exact λf a w e=>by
  obtain⟨le,h⟩:=e.2.aF;exact K _ _ le f a w ⟨e.1,h⟩
end
section
variable{γ:Type}
theorem Qu.ab{I:σ->Act->By->Prop}{Dn:γ->s6->Act->By->Prop}{b:γ}{d:UN σ γ}{c:Q0 PanicEntry}(h:∀a w,A a w->Dn b (.panic c) a w):some (UN.done b)=some d->∀a w,A a w->Qu I Dn d (.panic c) a w:=λe a w f=>by
 simp only[UV] at e;subst e;exact⟨by simp,h a w f⟩
end
end
section
variable{ι:Type}{ρ:α->Fz->K2->Prop}{Hs':α->Fz->K2->Q0 HP}{p:Q2 C1}{b' :Nat}{x:Q2 Nat}{xs:Q0 α}{c:Up α}
def Q5(e:Q2 (Out ε α))(gp:ε->Q2 β)(g:α->Q2 β):Q2 β:=match e with
 | none=>none
 | some (.ok x)=>g x
 | some (.pan q)=>gp q
def Ti(P:B2)(en:ε->K2)(F:Fz)(f:Nm)(k:Q0 K2×Q0 K2)(arg:ι->Fz->Q0 K2->Prop)(d:Fz->ι->Q0 HP)(ρ:β->Fz->K2->Prop)(a:Fz->ι->β->Q0 HP)(m:ι->Q2 (Out ε β)):Prop:=(∀args w,(callFunc f args).run P w= .ok (.enter f args) w)/\∀F',F<=F'->∀x vs,arg x F' vs->Vu P en f (k.1++vs++k.2).toArray F' (d F' x) (m x) ρ (λr h _=>a h x r)
theorem Ti.mono{k:Q0 K2×Q0 K2}{arg:ι->Fz->Q0 K2->Prop}{d:Fz->ι->Q0 HP}{ρ:β->Fz->K2->Prop}{a:Fz->ι->β->Q0 HP}{m:ι->Q2 (Out ε β)}(h:Ti P en F f k arg d ρ a m)(le:F<=F'):Ti P en F' f k arg d ρ a m:=⟨h.1,λG l=>h.2 G<|Fz.le_trans le l⟩
theorem GG.nc{args:C3 K2}(is:Q0 Nat)(I:Nat.blt d n=true)(K:o.guard=none)(s:o.dst=some d)(z:Ht o.op=true)
  (L:∀a w,A a w->Hd n D S F hs a w/\(execOp a.eval o).run P w= .ok (.enter f args) w) (hi:YN is hs=Hs)
  (M:Vu P en f args F Hs e ρ Hs') (k:∀x F' v,e=some (.ok x)->F<=F'->ρ x F' v->GL O P eX rest ks Q (Hd n D ((d,v)::S) F'<|Hs' x F' v++YC is hs) (g x) r)
  (N:∀q F',e=some (.pan q)->F<=F'->gp q=some r->∀a w,Hd n D S F' (YC is hs) a w->Q (.panic [{v:=en q,recovered:=false}]) a w):GL O P eX (o::rest) ks Q A (Q5 e gp g) r:=by
 intro l a w B;obtain⟨C,u⟩:=L a w B;cases he:e with
 | none=>rw[he] at l;cases l
 | some y=>
  rw[he] at l
  have E:SH w F (star (Qk Hs)<|Qk<|YC is hs):=C.2.mono λm l=>by
   have:=UO (ks:=is) l;rw[hi] at this;exact this
  refine dN ?_;unfold Xp;rw[DO<|by simp[Region.wanted,K]];refine⟨.inr z,?_⟩;rw[u];refine⟨λe=>(by rw[BU] at e;cases e),E7.2<|(M y he w _ E).mono ?_⟩;rintro V w' ⟨F',le,h⟩;cases y with
  | ok x=>
   obtain⟨v,rfl,hρ,H⟩:=h;have R:=k x F' v he le hρ l _ _ ⟨C.1.put I v,H.mono λ_=>JD⟩;simp only[s];exact R
  | pan q=>
   obtain⟨rfl,H⟩:=h;exact JF<|N q F' he le l _ _ ⟨C.1,H⟩
theorem GG.cr(is:Q0 Nat)
  (o:Nat.blt d n=true) (h:∀args w,(callFunc f args).run P w= .ok (.enter f args) w) (s:QS S of=some (.func (.func f) #[] eY.toArray)) (u:Un S os=some vs) (has:vs++eY=as) (hi:YN is hs=Hs)
  (y:Vu P en f as.toArray F Hs e ρ Hs') (k:∀x F' v,e=some (.ok x)->F<=F'->ρ x F' v->GL O P eX rest ks Q (Hd n D ((d,v)::S) F'<|Hs' x F' v++YC is hs) (g x) r)
  (z:∀q F',e=some (.pan q)->F<=F'->gp q=some r->∀a w,Hd n D S F' (YC is hs) a w->Q (.panic [{v:=en q,recovered:=false}]) a w):GL O P eX (⟨some d,.call ⟨.value of,os.toArray,T⟩,ty,pos,after,none⟩::rest) ks Q (Hd n D S F hs) (Q5 e gp g) r:=by
 rw[<-has] at y;exact GG.nc is o rfl rfl rfl (λa w l=>⟨l,W7 l.1 h s u⟩) hi y k z
theorem yM{first:Q0 K2}(hs:Sl n D S a)(h:∀args w,(callFunc f args).run P w= .ok (.enter f args) w)
  (l:QS S of=some (.func (.func f) first.toArray eY.toArray)) (o:Un S os=some vs) {k:Q2 Tmp}:(execOp a.eval ⟨k,.call ⟨.value of,os.toArray,T⟩,ty,pos,after,none⟩).run P w= .ok (.enter f (first++vs++eY).toArray) w:=by
 have e:=He hs o;simp[execOp,resolve,Deferred.ofValue,hs.eval l,e,invoke,h]
theorem GG.rk{s:Q0 K2×Q0 K2}{arg:ι->Fz->Q0 K2->Prop}{l:Fz->ι->Q0 HP}{h:Fz->ι->α->Q0 HP}{o:ι->Q2 (Out ε α)}{x:ι}(is:Q0 Nat)
  (B:Nat.blt d n=true) (z:Ti P en F f s arg l ρ h o) (C:QS S of=some (.func (.func f) s.1.toArray s.2.toArray)) (E:Un S os=some vs) (H:arg x F vs) (hi:YN is hs=Hs) (u:l F x=Hs)
  (k:∀y F' v,o x=some (.ok y)->F<=F'->ρ y F' v->GL O P eX rest ks Q (Hd n D ((d,v)::S) F'<|h F' x y++YC is hs) (g y) r)
  (I:∀q F',o x=some (.pan q)->F<=F'->gp q=some r->∀a w,Hd n D S F' (YC is hs) a w->Q (.panic [{v:=en q,recovered:=false}]) a w):GL O P eX (⟨some d,.call ⟨.value of,os.toArray,T⟩,ty,pos,after,none⟩::rest) ks Q (Hd n D S F hs) (Q5 (o x) gp g) r:=by
 subst u;exact GG.nc is B rfl rfl rfl (λa w A=>⟨A,yM A.1 z.1 C E⟩) hi (z.2 F (Fz.le_refl F) x vs H) k I
theorem GG.pX{x:α}(he:e=some (.ok x))(is:Q0 Nat)
  (o:Nat.blt d n=true) (a:∀args w,(callFunc f args).run P w= .ok (.enter f args) w) (s:QS S of=some (.func (.func f) #[] eY.toArray)) (u:Un S os=some vs) (has:vs++eY=as) (hi:YN is hs=Hs)
  (y:Vu P en f as.toArray F Hs e ρ Hs') (k:∀F' v,F<=F'->ρ x F' v->GL O P eX rest ks Q (Hd n D ((d,v)::S) F'<|Hs' x F' v++YC is hs) m r):GL O P eX (⟨some d,.call ⟨.value of,os.toArray,T⟩,ty,pos,after,none⟩::rest) ks Q (Hd n D S F hs) m r:=by
 have h:=GG.cr (O:=O) (P:=P) (en:=en) (eX:=eX) (rest:=rest) (ks:=ks) (Q:=Q) (r:=r) (n:=n) (D:=D) (S:=S) (F:=F) (hs:=hs) (d:=d) (ty:=ty) (pos:=pos) (after:=after) (T:=T) (g:=λ_=>m) (gp:=λ_=>(none:Q2 β)) is o a s u has hi y
  (λx' F' v l le hρ=>by rw[he] at l;cases l;exact k F' v le hρ) (λq F' l _ z=>by cases z)
 rw[he] at h
 exact h
theorem GG.tf(he:e=some (.pan q))(is:Q0 Nat)
  (o:Nat.blt d n=true) (l:∀args w,(callFunc f args).run P w= .ok (.enter f args) w) (s:QS S of=some (.func (.func f) #[] eY.toArray)) (u:Un S os=some vs) (has:vs++eY=as) (hi:YN is hs=Hs)
  (y:Vu P en f as.toArray F Hs e ρ Hs') (z:∀F',F<=F'->m=some r->∀a w,Hd n D S F' (YC is hs) a w->Q (.panic [{v:=en q,recovered:=false}]) a w):GL O P eX (⟨some d,.call ⟨.value of,os.toArray,T⟩,ty,pos,after,none⟩::rest) ks Q (Hd n D S F hs) m r:=by
 have h:=GG.cr (O:=O) (P:=P) (en:=en) (eX:=eX) (rest:=rest) (ks:=ks) (Q:=Q) (r:=r) (n:=n) (D:=D) (S:=S) (F:=F) (hs:=hs) (d:=d) (ty:=ty) (pos:=pos) (after:=after) (T:=T) (g:=λ_=>(none:Q2 β)) (gp:=λ_=>m) is o l s u has hi y
  (λx' F' v k _ _=>by rw[he] at k;cases k) (λB F' k le A=>by rw[he] at k;cases k;exact z F' le A)
 rw[he] at h
 exact h
theorem GG.rO{h:Gp}(k:∀x,e=some (.ok x)->GG h A (g x) r)(l:∀q,e=some (.pan q)->GG h A (gp q) r):GG h A (Q5 e gp g) r:=by
 intro a;cases he:e with
 | none=>rw[he] at a;cases a
 | some o=>
  rw[he] at a
  cases o with
  | ok x=>exact k x he a
  | pan q=>exact l q he a
theorem BZ{e:S2}(a:P.underlying t=some (.pointer e))(n:Nat):(Op.equalIn (n+1) t (.pointer p)<|.pointer none).run P w= .ok p.isNone w:=by
 cases p<;>simp[Op.equalIn,YU a]
theorem ZT.isNone(h:ZT γ F p x):p.isNone=x.isNone:=by
 cases x with
 | none=>simp[show p=none from h]
 | some i=>obtain⟨b,_,rfl⟩:=h;rfl
theorem GG.sw{e:S2}(h:ZT γ F p x)(o:Nat.blt d n=true)(q:P.underlying t=some (.pointer e))(s:QS S ox=some (.pointer p))(u:QS S oy=some (.pointer none))(k:GL μ P eX rest ks Q (Hd n D ((d,.bool x.isNone)::S) F hs) m r):GL μ P eX (⟨some d,.binOp .eql t ox oy t',ty,pos,after,none⟩::rest) ks Q (Hd n D S F hs) m r:=
 GG.val o (λa w l=>by
  have v:(Op.equal t (.pointer p)<|.pointer none).run P w= .ok p.isNone w:=BZ q 9999;have y:P.eqGuardType P.depth t=false∨P.eqGuardType P.depth t=true:=by cases P.eqGuardType P.depth t<;>simp
  simp[execOp,l.1.eval s,l.1.eval u,eqGuard,binOp,v,h.isNone]) k
theorem GG.rE{e:S2}(h:ZT γ F p x)(o:Nat.blt d n=true)(q:P.underlying t=some (.pointer e))(s:QS S ox=some (.pointer p))(u:QS S oy=some (.pointer none))(k:GL μ P eX rest ks Q (Hd n D ((d,.bool<|!x.isNone)::S) F hs) m r):GL μ P eX (⟨some d,.binOp .neq t ox oy t',ty,pos,after,none⟩::rest) ks Q (Hd n D S F hs) m r:=
 GG.val o (λa w l=>by
  have v:(Op.equal t (.pointer p)<|.pointer none).run P w= .ok p.isNone w:=BZ q 9999;have y:P.eqGuardType P.depth t=false∨P.eqGuardType P.depth t=true:=by cases P.eqGuardType P.depth t<;>simp
  simp[execOp,l.1.eval s,l.1.eval u,eqGuard,binOp,v,h.isNone]) k
theorem SH.nO{T:Nat}{x:α}(h:SH w F (star (ZE γ (Uy T c) F0 xs) H))(A:UE γ F i b)(a:UE γ F j b')(B:xs[i]? =some x)(C:xs[j]? =some y)(l:i≠j):b≠b' :=by
 intro e;subst e;obtain⟨m,⟨m1,m2,d,E,s2,⟨bs,hl,m3,m4,d',I,t2,K,L⟩,hq⟩,k⟩:=h;obtain⟨_,e⟩:=k.gst γ _<|E _ _<|I _ _ K;simp only[Cell.gh.injEq] at e
 have M:bs[i]? =some b:=by rw[e];exact A.2
 have N:bs[j]? =some b:=by rw[e];exact a.2
 have v:=NP (f:=Uy T c F0) M B;have z:=NP (f:=Uy T c F0) N C;obtain⟨R,V,W,_,_,⟨vs,_,X⟩,Y⟩:=Vm v L;have o:i < (List.zipWith (Uy T c F0) bs xs).length:=(Fm.1 v).1
 have q:∃k:Nat,((List.zipWith (Uy T c F0) bs xs).eraseIdx i)[k]? =some (Uy T c F0 b y):=by
  rcases Nat.lt_or_gt_of_ne l with o | s
  .exact⟨j - 1,by rw[qAY,Do hQ,show j - 1+1=j by omega];exact z⟩
  .exact⟨j,by rw[qAY,DO s];exact z⟩
 obtain⟨k',q⟩:=q;obtain⟨n3,n4,_,Z,_,⟨vs',_,u⟩,_⟩:=Vm q Y;have q1:R (.blk b)=some (.obj<|.cells vs.toArray T):=X;have q2:V (.blk b)=some (.obj<|.cells vs'.toArray T):=Z _ _ u;have:=W.sc q1;rw[q2] at this;cases this
theorem dW{T:Nat}{e:S2}{x:α}{A:Nat}(s:P.underlying t=some (.pointer e))(u:∀w,(sizeOf e).run P w= .ok (N+1) w)(hi:hs[A]? =some (ZE γ (Uy T c) F0 xs))(o:UE γ F i b)(h:UE γ F j b')(v:xs[i]? =some x)(z:xs[j]? =some y)(q:Hd n D S F hs a w)(k:Nat):(Op.equalIn (k+1) t (.pointer<|some ⟨b,0,none⟩)<|.pointer<|some ⟨b',0,none⟩).run P w= .ok (i==j) w:=by
 by_cases l:i=j
 .subst l;have:=o.inj h;subst this;simp[Op.equalIn,YU s,u,run_sameAddr_same]
 .have B:=(q.2.pull hi).nO o h v z l;obtain⟨vs,_,C⟩:=(q.2.pull hi).tD o v;obtain⟨vs',_,E⟩:=(q.2.pull hi).tD h z;have hs:=run_sameAddr_other (P:=P) (w:=w) (a:=⟨b,0,none⟩) (b:=⟨b',0,none⟩) ic C E;simp[Op.equalIn,YU s,u,hs,l]
theorem GG.nr{s:Nat}{e:S2}{x:α}{q:Q2 C1}(u:Nat)(hi:hs[u]? =some (ZE γ (Uy s c) F0 xs))(v:UE γ F i b)(z:p=some ⟨b,0,none⟩)(h:UE γ F j b')(l:q=some ⟨b',0,none⟩)(A:xs[i]? =some x)(B:xs[j]? =some y)(C:Nat.blt d n=true)(E:P.underlying t=some (.pointer e))(H:∀w,(sizeOf e).run P w= .ok (N+1) w)(I:QS S ox=some (.pointer p))(K:QS S oy=some (.pointer q))(k:GL μ P eX rest ks Q (Hd n D ((d,.bool<|i != j)::S) F hs) m r):GL μ P eX (⟨some d,.binOp .neq t ox oy t',ty,pos,after,none⟩::rest) ks Q (Hd n D S F hs) m r:=by
 subst z l
 exact GG.val C (λa w o=>by
  have l:(Op.equal t (.pointer<|some ⟨b,0,none⟩)<|.pointer<|some ⟨b',0,none⟩).run P w= .ok (i==j) w:=dW E H hi v h A B o 9999;simp[execOp,o.1.eval I,o.1.eval K,eqGuard,binOp,l,bne]) k
section
variable[BEq K]
def Dp(ck:K->K2)(rv:Fz->V->K2->Prop)(F:Fz)(b:Nat)(l:Q0 (K×V)):Prop:=∃(es:C3 ta) (clock:Nat) (l' :Q0 (K×V)),l'.Perm l/\(l.map Prod.fst).Nodup/\F.mem b=some (.map es clock)/\Uw ck rv F es.toList l'
omit [BEq K] in
theorem Dp.mono(h:Dp ck rv F b l)(le:F<=F'):Dp ck rv F' b l:=let⟨es,c,l',k,a,o,q⟩:=h;⟨es,c,l',k,a,le.mem _ _ o,q.up le⟩
omit [BEq K] in
theorem GG.tN{g:Gp}(i:Nat)(hi:hs[i]? =some (Qc ck rv F0 b l))(le:F0<=F)(k:∀F',F<=F'->Dp ck rv F' b l->GG g (Hd n D S F'<|hs.eraseIdx i) m r):GG g (Hd n D S F hs) m r:=by
 exact λs a w o=>by
  obtain⟨es,c,l',u,h,_,v,y,_⟩:=W8<|o.2.pull hi;obtain⟨q,z⟩:=y.freeze;exact k _ q ⟨es,c,l',u,h,Fz.sV F b _,(v.up le).up q⟩ s a w ⟨o.1,z⟩
theorem GG.nC[LawfulBEq K]{x:V}(h:Dp ck rv F b l)(s:QZ l key=some x)(B:Nat.blt d n=true)(C:P.underlying t=some (.map kt vt))(ok:HL P kt ck)(E:QS S ox=some (.map<|some b))(H:QS S oy=some (ck key))
  (k:∀v,rv F x v->GL μ P eX rest ks Q (Hd n D ((d,v)::S) F hs) m r):GL μ P eX (⟨some d,.lookup t ox oy false,ty,pos,after,none⟩::rest) ks Q (Hd n D S F hs) m r:=by
 refine GG.aL rfl rfl λI a w q=> ?_;obtain⟨es,c,l',u,L,M,N⟩:=h;rw[<-Wo u L] at s
 obtain⟨kd,R,o⟩:=ok.und;have y:=q.2.frozen M;rcases N.find (k:=key) o ok.eq 0 with⟨z,W,_⟩ | ⟨j,X,x1,z,W,A,Y,Z,_⟩
 .rw[s] at z;cases z
 .rw[s] at A;cases A
  have hf:=run_findKey (w:=w) R Y;refine⟨X.val,?_,k _ (Z F<|Fz.le_refl F) I _ _ ⟨q.1.put B _,q.2⟩⟩;simp[execOp,Instr.lookup,q.1.eval E,q.1.eval H,YU C,Yf y,ok.check,hf]
end
def dC(P:B2)(f:Nm)(args:C3 K2)(F:Fz)(m:Q2 β)(ρ:G->β->Fz->K2->Prop)(Hs' :G->β->Fz->Q0 HP):Prop:=∀r,m=some r->∀w R,SH w F R->Calls P f args w (λe w' =>∃U F' v,F<=F'/\e= .returned v/\ρ U r F' v/\SH w' F' (star (Qk<|Hs' U r F') R))
theorem GG.po{ρ:G->α->Fz->K2->Prop}{Hs' :G->α->Fz->Q0 HP}
  (q:Nat.blt d n=true) (h:∀args w,(callFunc f args).run P w= .ok (.enter f args) w) (s:QS S of=some (.func (.func f) #[] eY.toArray)) (u:Un S os=some vs) (has:vs++eY=as)
  (z:dC P f as.toArray F em ρ Hs') (k:∀x U F' v,em=some x->F<=F'->ρ U x F' v->GL O P eX rest ks Q (Hd n D ((d,v)::S) F'<|Hs' U x F' ++hs) (g x) r):GL O P eX (⟨some d,.call ⟨.value of,os.toArray,T⟩,ty,pos,after,none⟩::rest) ks Q (Hd n D S F hs) (em.bind g) r:=
 GG.aV rfl (.inr rfl) λl a w o=>by
  rw[<-has] at z;refine⟨W7 o.1 h s u,?_⟩;cases he:em with
  | none=>rw[he] at l;cases l
  | some y=>
   rw[he] at l
   refine(z y he w _ o.2).mono ?_;rintro _ w' ⟨U,F',v,le,rfl,hρ,A⟩;exact⟨v,rfl,k y U F' v he le hρ l _ _ ⟨o.1.put q _,A.mono λ_=>JD⟩⟩
abbrev RB(f:Nm)(eY:Q0 K2):AT:={target:=.fn (.func f) eY.toArray,args:=#[]}
def AO(P:B2)(fn:oW)(F:Fz)(R:HP)(ρ:G->β->Fz->K2->Prop)(Hs' :G->β->Fz->Q0 HP)(r:β):s6->Act->By->Prop:=bodyPostDIn Fence.wide 0 P fn (λe w' =>∃U F' v,F<=F'/\e= .returned v/\ρ U r F' v/\SH w' F' (star (Qk<|Hs' U r F') R))
theorem dC.enter{c:oZ}{ρ:G->β->Fz->K2->Prop}{Hs' :G->β->Fz->Q0 HP}
  (a:P.funcs[f]? =some fn) (d:fn.body=some c) (h:fn.ntmps=n) (l:Nat.ble args.length n=true)
  (k:∀r R,GC none P c [] (AO P fn F R ρ Hs' r) (Hd n [] (D4 0 args) F [R]) m r):dC P f args.toArray F m ρ Hs' :=by
 intro r o w R q;refine(s9 (n:=0)).1<|qBX a d trivial<|k r R o _ w ⟨?_,q.one⟩;rw[h];exact WC l
section
theorem GG.defer(o:QS S of=some (.func (.func f) #[] eY.toArray))(k:GL (.f none) P eX rest ks Q (Hd n (RB f eY::D) S F hs) m r):GL (.f none) P eX (⟨none,.defer ⟨.value of,#[],T⟩,ty,pos,after,none⟩::rest) ks Q (Hd n D S F hs) m r:=by
 intro q a w d;have h:=k q {a with defers:=RB f eY::a.defers} w ⟨⟨d.1.1,by rw[d.1.2.1],d.1.2.2⟩,d.2⟩;refine dN ?_;unfold Xp;rw[DO<|by simp[Region.wanted]];refine⟨.inl rfl,?_⟩
 have l:(execOp a.eval ⟨none,.defer ⟨.value of,#[],T⟩,ty,pos,after,none⟩).run P w= .ok (.defer<|RB f eY) w:=by
  simp[execOp,resolve,Deferred.ofValue,d.1.eval o]
 rw[l];exact h
variable{ρ:G->β->Fz->K2->Prop}{Hs' :G->β->Fz->Q0 HP}{x:β}
theorem GI(is:Q0 Nat)(l:fn.results=rs.toArray)(h:S5 P S F' hs rs vs)(hi:YN is hs=Hs' U x F' ++[R])(le:F<=F')(hρ:ρ U x F' (Ai vs)):some x=some r->∀a w,Hd n [] S F' hs a w->AO P fn F R ρ Hs' r .ret a w:=by
 intro e a w d;simp only[UV] at e
 subst e;show LeavesIn Fence.wide 0 P fn a.tmps _ a.defers .returning w;rw[d.1.2.1];refine⟨_,Jn l d h,U,F',_,le,rfl,hρ,d.2.mono λm o=> ?_⟩;have k:=YZ (ks:=is) o;rw[hi] at k
 exact XR<|Y5 k
theorem Px:∀g,(Target.fn (.func f) eY.toArray).leads P w #[]=some g->Fence.wide.fn g:=λ_ _=>trivial
theorem TP(a:∀args w,(callFunc f args).run P w= .ok (.enter f args) w):(invoke (.fn (.func f) eY.toArray) #[]).run P w= .ok (.enter f eY.toArray) w:=by
 simp[invoke,a]
end
def X6(P:B2)(f:Nm)(args:C3 K2)(F:Fz)(Hs:Q0 HP)(m:Q2 β)(ρ:β->Fz->K2->Prop)(Hs' :β->Fz->Q0 HP):Prop:=∀r,m=some r->∀w R,SH w F (star (Qk Hs) R)->Calls P f args w (λe w' =>∃F' v,F<=F'/\e= .returned v/\ρ r F' v/\SH w' F' (star (Qk<|Hs' r F') R))
def NX(P:B2)(fn:oW)(F:Fz)(R:HP)(ρ:β->Fz->K2->Prop)(Hs' :β->Fz->Q0 HP)(r:β):s6->Act->By->Prop:=bodyPost P fn (λe w' =>∃F' v,F<=F'/\e= .returned v/\ρ r F' v/\SH w' F' (star (Qk<|Hs' r F') R))
theorem X6.enter{c:oZ}{ρ:β->Fz->K2->Prop}{Hs' :β->Fz->Q0 HP}
  (d:P.funcs[f]? =some fn) (l:fn.body=some c) (o:fn.ntmps=n) (q:Nat.ble args.length n=true)
  (k:∀r R,GC none P c [] (NX P fn F R ρ Hs' r) (Hd n [] (D4 0 args) F<|Hs++[R]) m r):X6 P f args.toArray F Hs m ρ Hs' :=by
 intro r a w R s;refine qAR d l<|qAj.1<|k r R a _ w ⟨?_,s.mono λm a=>JD<|QT (λ_ h=>Jx h) a⟩;rw[o];exact WC q
section
variable{ρ:β->Fz->K2->Prop}{Hs' :β->Fz->Q0 HP}{x:β}
theorem Fg(is:Q0 Nat)(l:fn.results=rs.toArray)(h:S5 P S F' hs rs vs)(hi:YN is hs=Hs' x F' ++[R])(le:F<=F')(hρ:ρ x F' (Ai vs)):some x=some r->∀a w,Hd n [] S F' hs a w->NX P fn F R ρ Hs' r .ret a w:=by
 intro e a w d;simp only[UV] at e
 subst e;refine⟨d.1.2.1,_,Jn l d h,F',_,le,rfl,hρ,d.2.mono λm o=> ?_⟩;have k:=YZ (ks:=is) o;rw[hi] at k
 exact XR<|Y5 k
theorem GG.ai(is:Q0 Nat)(a:fn.results=rs.toArray)(h:S5 P S F' hs rs vs)(hi:YN is hs=Hs' x F' ++[R])(le:F<=F')(hρ:ρ x F' (Ai vs)):GC O P .ret ks (NX P fn F R ρ Hs' r) (Hd n [] S F' hs) (some x) r:=GG.sR<|Fg is a h hi le hρ
theorem GG.al(is:Q0 Nat)(a:fn.results=rs.toArray)(h:S5 P S F' hs rs vs)(hi:YN is hs=Hs' x F' ++[R])(le:F<=F')(hρ:ρ x F' (Ai vs)):GE O P [] (NX P fn F R ρ Hs' r) (Hd n [] S F' hs) (some x) r:=GG.cg<|Fg is a h hi le hρ
end
theorem GG.sM{ρ:α->Fz->K2->Prop}{Hs' :α->Fz->Q0 HP}(is:Q0 Nat)
  (s:Nat.blt d n=true) (h:∀args w,(callFunc f args).run P w= .ok (.enter f args) w) (t:QS S of=some (.func (.func f) #[] eY.toArray)) (u:Un S os=some vs) (has:vs++eY=as) (hi:YN is hs=Hs)
  (z:X6 P f as.toArray F Hs em ρ Hs') (k:∀x F' v,em=some x->F<=F'->ρ x F' v->GL O P eX rest ks Q (Hd n D ((d,v)::S) F'<|Hs' x F' ++YC is hs) (g x) r):GL O P eX (⟨some d,.call ⟨.value of,os.toArray,T⟩,ty,pos,after,none⟩::rest) ks Q (Hd n D S F hs) (em.bind g) r:=
 GG.aV rfl (.inr rfl) λl a w o=>by
  rw[<-has] at z;refine⟨W7 o.1 h t u,?_⟩;cases he:em with
  | none=>rw[he] at l;cases l
  | some y=>
   rw[he] at l
   have q:SH w F (star (Qk Hs)<|Qk<|YC is hs):=o.2.mono λm l=>by
    have:=UO (ks:=is) l;rw[hi] at this;exact this
   refine(z y he w _ q).mono ?_;rintro _ w' ⟨F',v,le,rfl,hρ,A⟩;exact⟨v,rfl,k y F' v he le hρ l _ _ ⟨o.1.put s _,A.mono λ_=>JD⟩⟩
theorem GG.pV{x:α}{Hs' :α->Fz->Q0 HP}(he:em=some x)(is:Q0 Nat)
  (o:Nat.blt d n=true) (a:∀args w,(callFunc f args).run P w= .ok (.enter f args) w) (q:QS S of=some (.func (.func f) #[] eY.toArray)) (s:Un S os=some vs) (has:vs++eY=as) (hi:YN is hs=Hs)
  (t:X6 P f as.toArray F Hs em ρ Hs') (k:∀F' v,F<=F'->ρ x F' v->GL O P eX rest ks Q (Hd n D ((d,v)::S) F'<|Hs' x F' ++YC is hs) m r):GL O P eX (⟨some d,.call ⟨.value of,os.toArray,T⟩,ty,pos,after,none⟩::rest) ks Q (Hd n D S F hs) m r:=by
 have h:=GG.sM (O:=O) (P:=P) (eX:=eX) (rest:=rest) (ks:=ks) (Q:=Q) (r:=r) (n:=n) (D:=D) (S:=S) (F:=F) (hs:=hs) (d:=d) (ty:=ty) (pos:=pos) (after:=after) (T:=T) (g:=λ_=>m) is o a q s has hi t
  (λx' F' v l le hρ=>by rw[he] at l;cases l;exact k F' v le hρ)
 rw[he] at h
 exact h
theorem SH.sd{a:Q0 HP}(ks:Q0 Nat)(e:YN ks hs=a)(h:SH w F (Qk hs)):SH w F (Qk a):=e▸h.mono λ_=>YZ
end
section
variable{C:(Nat->Bool)->Env->Q0 HP}{X:Env->Q0 XE}{l os:Q0 L0}{k:Nat}
section
variable{S0:Q0 (Nat×K2)}
theorem GG.mB{id:Nat}(k g:Nat)(X:Env->Q0 XE)(C:(Nat->Bool)->Env->Q0 HP)(hm:P.follows .mixedOrders=true)(aR:LU 0 l=true)(aH:∀t o,k<=t->l[t]? =some o->∀j,j < t->∃s,HE l s t j=true)
  (aS:Nat.ble k l.length=true) (hX:∀env,(X env).length=k) (aI:G0 n S0 (l.take k)=true) (hC:∀env,C (λ_=>false) env=hs++List.replicate g AX)
  (aU:Gu O P l.toArray l n D S0 F X C 0 (l.take k))
  (tail:∀env H,F<=H->(∀(j:Nat) (q:XE),(X env)[j]? =some q->q.2 H)->GL O P l.toArray (l.drop k) ks Q (Hd n D (Ot (l.take k) (X env) S0) H<|C (λj=>Nat.blt j k) env) m r):GC O P (.region id l.toArray true) ks Q (Hd n D S0 F hs) m r:=by
 intro ak a w ha;have al:k<=l.length:=AC aS
 let aF:(Nat->Bool)->Act->By->Prop:=λL a w=>Down l L/\(∀i,k<=i->L i=false)/\∃env H S,F<=H/\Sub S0 S/\(∀(j d:Nat) (v:K2),L j=true->UC l j=some d->((X env)[j]?).map Prod.fst=some v->JC S d=some v)/\(∀(j:Nat) (q:XE),L j=true->(X env)[j]? =some q->∀G,H<=G->q.2 G)/\Hd n D S H (C L env) a w
 let Inv:(Nat->Bool)->Act->By->Prop:=λL a w=>aF L a w∨∃i,k < i/\Down l L/\(∀j,L j=true↔j < i)/\Xp O P l.toArray (Z0 O P ks Q) (l.drop i) a w
 have N:∀L a w,(∀i,i < k->L i=true)->aF L a w->Xp O P l.toArray (Z0 O P ks Q) (l.drop k) a w:=by
  rintro L a w b ⟨I,E,env,H,S,le,hS,hV,hΦ,hA⟩;have bM:=hX env
  have an:L=λj=>Nat.blt j k:=by
    funext j;rcases u0 j k with h | h
    .rw[b j h];exact(sp h).symm
    .rw[E j h];cases B:Nat.blt j k with
     | false=>rfl
     | true=>have:=AC B;omega
  refine tail env H le (λj q Y=>hΦ j q (b j (by have:=Zz Y;omega)) Y H<|Fz.le_refl H) ak a w ⟨hA.1.sub<|Nu hS λi o d q e1 e2 e3=> ?_,an▸hA.2⟩;have aW:i < k:=by have:=Zz e3;omega
  refine hV i d q.1 (b i aW) ?_ (by rw[e3];rfl);rw[If,DO aW] at e1
  simp[UC,e1,e2]
 refine X7 hm Inv (λi o h e he B=>by have:=HY aR i o (by simpa using h) e he B;omega) ?_ ?_ ?_
 .refine .inl ⟨λi o _ h=>(by cases h),λ_ _=>rfl,⟨λ_=>none,λ_=>0,λ_=>[],λ_=>F,λ_=>none⟩,F,S0,Fz.le_refl F,Sub.refl _,λj d v h=>(by cases h),λj q h=>(by cases h),ha.1,?_⟩;rw[hC];have h1:=ha.2.drew<|w.drawn+1;refine h1.mono λm ao=> ?_;exact GG.nY.stars_emps ao
 .intro L a w i o ho K x hI;have y:l[i]? =some o:=by simpa using ho
  have aJ:i < l.length:=Zz y;by_cases hi:i < k
  . rcases hI with R | ⟨z,hk,_,Z,_⟩
    case inr=>have:=(Z i).2 hQ;rw[K] at this;cases this
    obtain⟨I,E,env,H,S,le,hS,hV,hΦ,hA⟩:=R;have aA:(l.take k)[i]? =some o:=by rw[If,DO hi];exact y
    have aY:=Gu.get aU i o aA;simp only[s5] at aY
    have ar:∀z j,HE l z j i=true->L j=false:=λz j h=>by
     cases A:L j with
     | false=>rfl
     | true=>
      have:=Xh I h λo' p e he B=>I j o' p A e he B;rw[K] at this;cases this
    have aZ:∀z j,HE l z i j=true->L j=true:=λz j h=>Xh I h λo' p e he B=>by
     rw[y] at p;cases p;exact x e he B
    obtain⟨Si,au,aK⟩:=aY L env H le K aZ ar hΦ;have aa:=au S hS hV;have hn:∀d,o.dst=some d->Nat.blt d n=true:=λd hd=>(HV aI aA hd).1;have h1:=IB (S:=S) hn hA.1<|aK rfl a w ⟨hA.1.sub aa,hA.2⟩;refine Pb (λe a w aM Y=>absurd Y.1 aM) (λa' w' Y=> ?_) h1;obtain⟨_,T,av,ab,⟨M,aw,ax,ay⟩,q,Y,az,a1⟩:=Y
    have ad:∀(j:Nat) (q:XE),L j=true->(X T)[j]? =some q->(X env)[j]? =some q:=λj q A hx=>by
     have a6:j < M.length:=by rw[aw,hX env,<-hX T];exact Zz hx
     exact AJ ay.symm (Ps I K ax j A a6) hx
    refine .inl ⟨?_,?_,T,av,(match o.dst with | some d=>(d,q.1)::S | none=>S),Fz.le_trans le ab,?_,?_,?_,a1⟩
    .intro j oj u A e he B;by_cases f:j=i
     .subst f;rw[y] at u;cases u
      have:=x e he B;simp only[Kh];split
      .rfl
      .exact this
     .have c:L j=true:=by simpa[Kh,f] using A
      have:=I j oj u c e he B;simp only[Kh];split
      .rfl
      .exact this
    .intro j A;simp only[Kh];rw[Do hQ];exact E j A
    .cases hd:o.dst with
     | none=>exact hS
     | some d=>exact Nt hS (HV aI aA hd).2 _
    .intro j d' v' A aB aC;by_cases f:j=i
     .subst f;have a8:o.dst=some d' :=by simpa[UC,y] using aB
      rw[Y] at aC;simp only[RK,UV] at aC
      subst aC;rw[a8];exact BO
     .have c:L j=true:=by simpa[Kh,f] using A
      have bA:j < k:=by
       rcases u0 j k with h | h
       .exact h
       .rw[E j h] at c;cases c
      obtain⟨q',V,rfl⟩:=lW.1 aC;have h0:=hV j d' q'.1 c aB (by rw[ad j q' c V];rfl);cases hd:o.dst with
      | none=>exact h0
      | some d=>
       have aM:d≠d' :=λh=>by
        subst h;cases u:l[j]? with
        | none=>simp[UC,u] at aB
        | some oj=>
         have bB:oj.dst=some d:=by simpa[UC,u] using aB
         exact f<|CF aI (by rw[If,DO bA];exact u) aA bB hd
       exact Pv aM h0
    .intro j q' A V G hG;by_cases f:j=i
     .subst f;rw[Y] at V;cases V;exact az G hG
     .have c:L j=true:=by simpa[Kh,f] using A
      exact hΦ j q' c (ad j q' c V) G<|Fz.le_trans ab hG
  ·
    have aG:Down l L:=by
     rcases hI with R | ⟨_,_,hd,_,_⟩
     .exact R.1
     .exact hd
    have b:∀j,j < i->L j=true:=λj A=>by
     obtain⟨s,hs⟩:=aH i o hQ y j A;exact Xh aG hs λo' p e he B=>by rw[y] at p;cases p;exact x e he B
    have ag:Down l (Kh L i):=λj oj u A e he B=>by
     have:L e.on=true:=by
      by_cases f:j=i
      .subst f;rw[y] at u;cases u;exact x e he B
      .exact aG j oj u (by simpa[Kh,f] using A) e he B
     simp only[Kh];split
     .rfl
     .exact this
    have hw:Xp O P l.toArray (Z0 O P ks Q) (l.drop i) a w:=by
     rcases hI with R | ⟨z,hk,_,Z,aE⟩
     .have bC:i=k:=by
       rcases u0 k i with h | h
       .have:=b k h;rw[R.2.1 _<|So _] at this;cases this
       .omega
      subst bC;exact N L a w b R
     .have:z=i:=by
       have h1:¬i < z:=λh=>by have:=(Z i).2 h;rw[K] at this;cases this
       have h2:¬z < i:=λh=>by have:=(Z z).1<|b z h;omega
       omega
      subst this;exact aE
    have aN:l.drop i=o::l.drop (i+1):=by
     have hg:l[i]'aJ=o:=by simpa[aJ] using y
     rw[<-hg];exact dO aJ
    rw[aN] at hw
    have W:∀a' w',Xp O P l.toArray (Z0 O P ks Q) (l.drop<|i+1) a' w'->Inv (Kh L i) a' w' :=λa' w' h=>
     .inr ⟨i+1,by omega,ag,λj=>by
      simp only[Kh];by_cases A:j=i
      .simp[A]
      .simp only[A,Bm];constructor
       .intro c
        have:j < i:=by
         rcases u0 j i with h | h
         .exact h
         .rcases hI with R | ⟨z,hk,_,Z,_⟩
          .rw[R.2.1 j hQ] at c;cases c
          .have h1:=(Z j).1 c;have:=(Z i).2 hQ;rw[K] at this;cases this
        omega
       .intro bR;exact b j hQ,h⟩
    unfold Xp at hw
    split
    .rename_i aO;rw[DO aO] at hw
     exact SO W hw
    .rename_i aO;rw[Do aO] at hw
     exact W _ _ hw
 .intro L a w b hI
  have hw:Xp O P l.toArray (Z0 O P ks Q) (l.drop l.length) a w:=by
    rcases hI with R | ⟨z,hk,_,Z,aE⟩
    .have bD:k=l.length:=by
      rcases u0 k l.length with h | h
      .have:=b k (by simpa using h);rw[R.2.1 _<|So _] at this;cases this
      .omega
     have:=N L a w (λi hi=>b i ia) R
     rwa[bD] at this
    .have:l.length<=z:=by
      rcases u0 z l.length with h | h
      .have:=(Z z).1 (b z<|by simpa using h);omega
      .exact h
     rw[x4 this] at aE
     rw[x4<|So _];exact aE
  rw[x4<|So _] at hw
  exact hw
def wZ(Q:s6->Act->By->Prop):s6->Act->By->Prop:=λe a w=>∃c,e= .panic c/\Q (.panic c) a w
def cC(O:Q2 Nat)(P:B2)(eX:C3 L0)(l:Q0 L0)(n:Nat)(D:Q0 AT)(S0:Q0 (Nat×K2))(F:Fz)(X:Env->Q0 XE)(C:(Nat->Bool)->Env->Q0 HP)(Q:s6->Act->By->Prop)(m:Q2 β)(r:β)(i:Nat)(o:L0):Prop:=
 ∀L env a,F<=a->L i=false->(∀k j,HE l k i j=true->L j=true)->(∀k j,HE l k j i=true->L j=false)->(∀(j:Nat) (q:XE),L j=true->(X env)[j]? =some q->∀G,a<=G->q.2 G)->
  ∃b,(∀S,Sub S0 S->(∀(j d:Nat) (v:K2),L j=true->UC l j=some d->((X env)[j]?).map Prod.fst=some v->JC S d=some v)->Sub b S)/\
   GL O P eX [o] [] (wZ Q) (Hd n D b a<|C L env) m r
def S8(O:Q2 Nat)(P:B2)(eX:C3 L0)(l:Q0 L0)(n:Nat)(D:Q0 AT)(S0:Q0 (Nat×K2))(F:Fz)(X:Env->Q0 XE)(C:(Nat->Bool)->Env->Q0 HP)(Q:s6->Act->By->Prop)(m:Q2 β)(r:β)(ip:Nat):Nat->Q0 L0->Prop
 | _,[]=>True
 | i,o::os=>((i=ip/\cC O P eX l n D S0 F X C Q m r i o)∨(∃s,HE l s i ip=true)∨(i≠ip/\hZ O P eX l n D S0 F X C i o))/\S8 O P eX l n D S0 F X C Q m r ip (i+1) os
theorem S8.get:∀{k:Nat} {os:Q0 L0},S8 O P eX l n D S0 F X C Q m r ip k os->∀i o,os[i]? =some o->(k+i=ip/\cC O P eX l n D S0 F X C Q m r (k+i) o)∨(∃s,HE l s (k+i) ip=true)∨(k+i≠ip/\hZ O P eX l n D S0 F X C (k+i) o)
 | _,[],_,i,o,h=>by simp at h
 | k,x::os,a,0,o,h=>by simp at h;subst h;exact a.1
 | k,x::os,a,i+1,o,h=>by
  have:=S8.get a.2 i o<|by simpa using h
  rwa[show k+1+i=k+(i+1) by omega] at this
theorem S8.nil{l:Q0 L0}{X:Env->Q0 XE}{C:(Nat->Bool)->Env->Q0 HP}{k:Nat}:S8 O P eX l n D S0 F X C Q m r ip k []:=trivial
theorem S8.cons{l:Q0 L0}{X:Env->Q0 XE}{C:(Nat->Bool)->Env->Q0 HP}{k:Nat}{os:Q0 L0}(a:k≠ip)(h:hZ O P eX l n D S0 F X C k o)(t:S8 O P eX l n D S0 F X C Q m r ip (k+1) os):S8 O P eX l n D S0 F X C Q m r ip k (o::os):=⟨.inr<|.inr ⟨a,h⟩,t⟩
theorem S8.at_(h:cC O P eX l n D S0 F X C Q m r k o)(t:S8 O P eX l n D S0 F X C Q m r k (k+1) os):S8 O P eX l n D S0 F X C Q m r k k (o::os):=⟨.inl ⟨rfl,h⟩,t⟩
theorem S8.rq(s:Nat)(h:HE l s k ip=true)(t:S8 O P eX l n D S0 F X C Q m r ip (k+1) os):S8 O P eX l n D S0 F X C Q m r ip k (o::os):=⟨.inr<|.inl ⟨s,h⟩,t⟩
theorem j1{K:Act->By->Prop}(h:Xp O P eX (wZ Q) [o] a w):if Region.wanted o (yielded eX a.tmps) then yd O P o a w K (Z0 O P ks Q) else K (a.put o.dst undef) w:=by
 unfold Xp at h
 split
 .rename_i d;rw[DO d] at h
  refine NR (λa w b=> ?_) (λe a w f b=> ?_) h
  .obtain⟨c,e,_⟩:=b;cases e
  .obtain⟨c,rfl,b⟩:=b;exact JF b
 .rename_i d;rw[Do d] at h
  obtain⟨c,e,_⟩:=h;cases e
theorem GG.rN{c:Q0 PanicEntry}(h:m=some r->∀a w,A a w->Q (.panic c) a w):m=some r->∀a w,A a w->wZ Q (.panic c) a w:=λb a w d=>⟨c,rfl,h b a w d⟩
theorem GG.pT{id:Nat}(ip g:Nat)(X:Env->Q0 XE)(C:(Nat->Bool)->Env->Q0 HP)(hm:P.follows .mixedOrders=true)(aA:LU 0 l=true)
  (aP:Nat.blt ip l.length=true) (hX:∀env,(X env).length=l.length) (T:G0 n S0 l=true) (hC:∀env,C (λ_=>false) env=hs++List.replicate g AX)
  (aB:S8 O P l.toArray l n D S0 F X C Q m r ip 0 l):GC O P (.region id l.toArray true) ks Q (Hd n D S0 F hs) m r:=by
 intro aQ a w ha;have aC:ip < l.length:=AC aP
 let Inv:(Nat->Bool)->Act->By->Prop:=λL a w=>L ip=false/\Down l L/\∃env Y S,F<=Y/\Sub S0 S/\(∀(j d:Nat) (v:K2),L j=true->UC l j=some d->((X env)[j]?).map Prod.fst=some v->JC S d=some v)/\(∀(j:Nat) (q:XE),L j=true->(X env)[j]? =some q->∀G,Y<=G->q.2 G)/\Hd n D S Y (C L env) a w
 refine X7 hm Inv (λi o h e he R=>by have:=HY aA i o (by simpa using h) e he R;omega) ?_ ?_ ?_
 .refine⟨rfl,λi o _ h=>(by cases h),⟨λ_=>none,λ_=>0,λ_=>[],λ_=>F,λ_=>none⟩,F,S0,Fz.le_refl F,Sub.refl _,λj d v h=>(by cases h),λj q h=>(by cases h),ha.1,?_⟩;rw[hC];exact(ha.2.drew<|w.drawn+1).mono λm aR=>GG.nY.stars_emps aR
 .intro L a w i o ho H y hI;have c:l[i]? =some o:=by simpa using ho
  obtain⟨aD,z,env,Y,S,le,hS,hV,hΦ,hA⟩:=hI;have x:=S8.get aB i o c;simp only[s5] at x
  have aF:∀k' j,HE l k' j i=true->L j=false:=λk' j h=>by
   cases I:L j with
   | false=>rfl
   | true=>
    have:=Xh z h λo' u e he R=>z j o' u I e he R;rw[H] at this;cases this
  have A:∀k' j,HE l k' i j=true->L j=true:=λk' j h=>Xh z h λo' u e he R=>by
   rw[c] at u;cases u;exact y e he R
  have hn:∀d,o.dst=some d->Nat.blt d n=true:=λd hd=>(HV T c hd).1;rcases x with⟨rfl,x⟩ | ⟨s,aV⟩ | ⟨aI,x⟩
  .obtain⟨Si,V,f⟩:=x L env Y le H A aF hΦ;exact j1<|f aQ a w ⟨hA.1.sub<|V S hS hV,hA.2⟩
  .have:=A s ip aV;rw[aD] at this;cases this
  .obtain⟨Si,V,f⟩:=x L env Y le H A aF hΦ;have aJ:=V S hS hV;have h1:=IB (S:=S) hn hA.1<|f rfl a w ⟨hA.1.sub aJ,hA.2⟩;refine Pb (λe a w W Z=>absurd Z.1 W) (λa' w' Z=> ?_) h1;obtain⟨_,B,aW,aK,⟨M,aX,aY,aZ⟩,q,Z,aa,ab⟩:=Z
   have aL:∀(j:Nat) (q:XE),L j=true->(X B)[j]? =some q->(X env)[j]? =some q:=λj q I hx=>by
    have ad:j < M.length:=by rw[aX,hX env,<-hX B];exact Zz hx
    exact AJ aZ.symm (Ps z H aY j I ad) hx
   refine⟨by simp only[Kh];rw[Do λe=>aI e.symm];exact aD,?_,B,aW,(match o.dst with | some d=>(d,q.1)::S | none=>S),Fz.le_trans le aK,?_,?_,?_,ab⟩
   .intro j oj p I e he R;by_cases b:j=i
    .subst b;rw[c] at p;cases p
     have:=y e he R;simp only[Kh];split
     .rfl
     .exact this
    .have t:L j=true:=by simpa[Kh,b] using I
     have:=z j oj p t e he R;simp only[Kh];split
     .rfl
     .exact this
   .cases hd:o.dst with
    | none=>exact hS
    | some d=>exact Nt hS (HV T c hd).2 _
   .intro j d' v' I K N;by_cases b:j=i
    .subst b;have ag:o.dst=some d' :=by simpa[UC,c] using K
     rw[Z] at N;simp only[RK,UV] at N
     subst N;rw[ag];exact BO
    .have t:L j=true:=by simpa[Kh,b] using I
     obtain⟨q',E,rfl⟩:=lW.1 N;have h0:=hV j d' q'.1 t K (by rw[aL j q' t E];rfl);cases hd:o.dst with
     | none=>exact h0
     | some d=>
      have W:d≠d' :=λh=>by
       subst h;cases p:l[j]? with
       | none=>simp[UC,p] at K
       | some oj=>
        have ah:oj.dst=some d:=by simpa[UC,p] using K
        exact b<|CF T p c ah hd
      exact Pv W h0
   .intro j q' I E G hG;by_cases b:j=i
    .subst b;rw[Z] at E;cases E;exact aa G hG
    .have t:L j=true:=by simpa[Kh,b] using I
     exact hΦ j q' t (aL j q' t E) G<|Fz.le_trans aK hG
 .intro L a w aN hI;have:=aN ip (by simpa using aC);rw[hI.1] at this;cases this
end
end
section
variable{b:α->τ->Q2 τ}{l:Q0 α}{c:Nat}{pt':Q2 C1}{j0:C3 Nat}
open Classical in
def SN(b:α->τ->Q2 τ)(l:Q0 α)(s:τ):Q2 τ:=if ∀l',l'.Perm l->VH b l' s=VH b l s then VH b l s else none
theorem z8{r:τ}(h:SN b l s=some r):∀l',l'.Perm l->VH b l' s=some r:=by
 unfold SN at h
 split at h
 .rename_i a;intro l' d;rw[a l' d];exact h
 .cases h
theorem qO{r:τ}(h:∀l',l'.Perm l->VH b l' s=some r):SN b l s=some r:=by
 unfold SN;rw[DO λl' a=>by rw[h l' a,h l<|.refl _]];exact h l<|.refl _
def FJ(B:Nat)(I:Q0 α->Q0 α->τ->Act->By->Prop)(b:α->τ->Q2 τ)(ix done:Q0 α)(s:τ):s6->Act->By->Prop:=λe a w=>
 (ix=[]/\e= .exit B/\I [] done s a w)∨(e= .normal/\∃x rest d,(x::rest).Perm ix/\b x s=some d/\I rest (x::done) d a w)
theorem FJ.over{done:Q0 α}(h:∀a w,A a w->I [] done s a w):some ()=some ()->∀a w,A a w->FJ B I b [] done s (.exit B) a w:=λ_ a w d=>.inl ⟨rfl,rfl,h a w d⟩
theorem FJ.norm{b:α->τ->Q2 τ}{ix done rest:Q0 α}{d m:τ}(f:(x::rest).Perm ix)(g:b x s=some d)(h:∀a w,A a w->I rest (x::done) m a w):some m=some d->∀a w,A a w->FJ B I b ix done s .normal a w:=λe a w i=>.inr ⟨rfl,x,rest,d,f,g,by simp only[UV] at e;subst e;exact h a w i⟩
theorem Nd{c:oZ}{R:τ}
  (round:∀ix done s,(∀x∈ix,∃i,b x s=some i)->∀a w,I ix done s a w->c.wpIn (NH O) 0 P (FJ B I b ix done s) a w):∀(n:Nat) (ix done:Q0 α) (s:τ),ix.length=n->(∀l',l'.Perm ix->VH b l' s=some R)->(done++ix).Perm l->∀a w,I ix done s a w->
   ∀(fr:Frame) (k:Q0 Item) (cs:Q0 Frame),fr.roundOf=(NH O).round->∃z w' d,d.Perm l/\I [] d R z w'/\ArrivesIn (Machine.fenced P<|NH O) P (lone (fr.atR a<|.code c:: .inLoop c::k) cs w) fr k cs (.exit B) z w'
 | n,ix,done,s,Y,f,g,a,w,L,fr,k,cs,t=>by
  have M:∀x∈ix,∃i,b x s=some i:=λx N=>by
   obtain⟨T,l2,e⟩:=oN N;have u:(x::(T++l2)).Perm ix:=by rw[e];exact List.perm_middle.symm
   have:=f _ u;simp only[VH] at this
   cases v:b x s with
   | none=>rw[v] at this;cases this
   | some i=>exact⟨i,rfl⟩
  obtain⟨e,a₁,w₁,W,o⟩:=round ix done s M a w L fr (.inLoop c::k) cs t (CG O _)<|BT O _;rcases W with⟨rfl,rfl,p⟩ | ⟨rfl,x,rest,i,u,v,p⟩
  .have E:=f []<|.refl _;simp only[VH,UV] at E
   subst E;exact⟨a₁,w₁,done,by simpa using g,p,.pass (x:=.inLoop c) rfl (λ_ _=>.inl ic) o⟩
  .have G:rest.length < n:=by have:=u.length_eq;simp at this;omega
   have q:∀l',l'.Perm rest->VH b l' i=some R:=λl' y=>by
    have:=f (x::l')<|(y.cons x).trans u;simpa[VH,v] using this
   have h:(x::done++rest).Perm l:=by
    refine List.Perm.trans ?_ g;have X:(x::done++rest).Perm (done++x::rest):=List.perm_middle.symm;exact X.trans<|u.append_left done
   obtain⟨a₂,w₂,done₂,hd₂,hI₂,harr₂⟩:=Nd round rest.length rest (x::done) i rfl q h a₁ w₁ p fr k cs t;exact⟨a₂,w₂,done₂,hd₂,hI₂,.of_steps (lN o<|.one (qAQ (n:=0) (CG O _) (BT O _) rfl) qBP) harr₂⟩
termination_by n=>n
section
variable{ks' :Q0 Kt}
theorem GG.pg{c:oZ}{e:τ}{f:τ->Q2 β}(I:Q0 α->Q0 α->τ->Act->By->Prop)(q:BV B ks=some ks')
  (t:∀a w,A a w->I l [] e a w)
  (round:∀ix done s,(∀x∈ix,∃u,b x s=some u)->GC O P c [] (FJ B I b ix done s) (I ix done s) (some ()) ())
  (after:∀done R,SN b l e=some R->done.Perm l->GE O P ks' Q (I [] done R) (f R) r):GC O P (.loop c) ks Q A ((SN b l e).bind f) r:=by
 intro h a w v;cases i:SN b l e with
 | none=>rw[i] at h;cases h
 | some R=>
  rw[i] at h
  intro fr k cs o y z;obtain⟨p,w',done,E,d,g⟩:=Nd (I:=I) (b:=b) (R:=R) (l:=l) (λix done s G a w d=>round ix done s G rfl a w d) l.length l [] e rfl (z8 i) ic a w (t a w v) fr k cs o;exact⟨.exit B,p,w',Q9 q<|after done R i E h p w' d,.of_steps (.one (qAQ y z rfl) stepR_loop) g⟩
theorem GG.use{a:Q0 L0}{e:Q2 σ}{d:σ}(he:e=some d)(k:GL O P eX a ks Q A e d):GL O P eX a ks Q A (some ()) ():=λ_=>k he
end
def Us(ck:K->K2)(rv:Fz->V->K2->Prop)(F:Fz)(b it:Nat)(ix done:Q0 (K×V)):HP:=λm=>∃(es:C3 ta) (clock:Nat) (l' :Q0 (K×V)) (j0:C3 Nat) (last:Nat),
 star (pt b<|.map es clock) (pt it<|.mapIter (some b) clock j0 last) m/\Uw ck rv F es.toList l'/\Ye es.toList clock/\(j0.isEmpty=false->last=clock)/\
 ix.Perm (((es.toList.zip l').filter λz=> !j0.contains z.1.born).map Prod.snd)/\done.Perm (((es.toList.zip l').filter λz=>j0.contains z.1.born).map Prod.snd)/\
 ∀x,done.head? =some x->∃z∈es.toList.zip l',z.2=x/\j0.back? =some z.1.born
theorem T1{b:Nat}(h:SH w F (star (Us ck rv F0 b it ix done) H)):∃(es:C3 ta) (clock:Nat) (l' :Q0 (K×V)) (j0:C3 Nat) (last:Nat),
  w.heap[b]? =some (.map es clock)/\w.heap[it]? =some (.mapIter (some b) clock j0 last)/\SH w F (star (pt it<|.mapIter (some b) clock j0 last)<|star (pt b<|.map es clock) H)/\Uw ck rv F0 es.toList l'/\Ye es.toList clock/\(j0.isEmpty=false->last=clock)/\
  ix.Perm (((es.toList.zip l').filter λz=> !j0.contains z.1.born).map Prod.snd)/\done.Perm (((es.toList.zip l').filter λz=>j0.contains z.1.born).map Prod.snd)/\
  ∀x,done.head? =some x->∃z∈es.toList.zip l',z.2=x/\j0.back? =some z.1.born:=by
 obtain⟨m,⟨e,f,d,g,i,⟨es,c,l',j0,last,o,p⟩,q⟩,k⟩:=h;have hs:SH w F (star (pt b<|.map es c)<|star (pt it<|.mapIter (some b) c j0 last) H):=⟨m,XS ⟨e,f,d,g,i,o,q⟩,k⟩;have a:SH w F (star (pt it<|.mapIter (some b) c j0 last)<|star (pt b<|.map es c) H):=hs.mono λm t=>Zm t;exact⟨es,c,l',j0,last,hs.owned,a.owned,a,p⟩
theorem Uw.ah:∀{es:Q0 ta} {l:Q0 (K×V)} {z:ta×(K×V)},Uw ck rv F es l->z∈es.zip l->z.1.key=ck z.2.1/\∀a,F<=a->rv a z.2.2 z.1.val
 | [],_,_,_,h=>by simp at h
 | _::_,[],_,_,h=>by simp at h
 | e::es,x::l,z,⟨d,f,g⟩,h=>by
  rw[List.zip_cons_cons,A4] at h
  rcases h with rfl | h
  .exact⟨d,f⟩
  .exact g.ah h
theorem Uw.sq{es:Q0 ta}{l:Q0 (K×V)}(h:Uw ck rv F es l):(es.zip l).map Prod.snd=l/\(es.zip l).map Prod.fst=es:=⟨List.map_snd_zip (by rw[h.len];exact So _),List.map_fst_zip (by rw[h.len];exact So _)⟩
theorem FU{g:α->Nat}{p:α->Bool}:∀{Z:Q0 α} {z:α},(Z.map g).Nodup->z∈Z->p z=true->(Z.filter p).Perm (z::Z.filter (λy=>p y&& !(g y==g z)))
 | [],_,_,h,_=>by cases h
 | y::Z,z,a,h,i=>by
  simp only[Of,lr] at a
  rcases A4.1 h with rfl | h
  .have o:Z.filter (λy=>p y&& !(g y==g z))=Z.filter p:=td λy q=>by
    have:g y≠g z:=λe=>a.1<|e▸wt q;simp[this]
   simp only[lS,i,B1,BEq.rfl,RW,Bool.and_false,W1,Bm];rw[o]
  .have d:(g y==g z)=false:=by
    cases t:g y==g z with
    | false=>rfl
    | true=>exact absurd (wt (f:=g) h) (by rw[<-(r6.1 t:g y=g z)];exact a.1)
   have k:=FU a.2 h i;simp only[lS,d,u1,oc];cases p y with
   | true=>simp only[B1];exact(k.cons y).trans (.swap _ _ _)
   | false=>simpa using k
theorem qp{g:α->Nat}{p q:α->Bool}{Z:Q0 α}{z:α}(o:(Z.map g).Nodup)(d:z∈Z)(E:p z=false)(t:∀y∈Z,q y=(p y||g y==g z)):(Z.filter q).Perm (z::Z.filter p):=by
 have G:=FU (p:=q) o d (by rw[t z d];simp);refine G.trans<|.of_eq ?_;congr 1;refine td λy u=> ?_;rw[t y u];cases L:g y==g z with
 | false=>simp
 | true=>
  have e:y=z:=by
   have v:g y=g z:=r6.1 L;obtain⟨i,hi,f⟩:=lz u;obtain⟨j,x,k⟩:=lz d;have a:=qAN.1 o
   have:i=j:=by
    rcases qAu i j with h | h | h
    .exact absurd (by rw[oK,oK,f,k,v])<|a i j (by simpa using hi) (by simpa using x) h
    .exact h
    .exact absurd (by rw[oK,oK,f,k,v])<|a j i (by simpa using x) (by simpa using hi) h
   subst this;rw[<-f,<-k]
  subst e;simp[E]
section
variable{b:Nat}{l:Q0 (K×V)}
theorem GG.pL(i:Nat)(hi:hs[i]? =some (ZE γ (Qc ck rv) F0 xs))(G:UE γ F j b)(L:p=some b)(o:xs[j]? =some l)(M:Nat.blt d n=true)(N:P.underlying t=some (.map kt vt))(R:QS S ox=some (.map p))
  (k:∀it,(l.map Prod.fst).Nodup->GL O P eX rest ks Q (Hd n D ((d,.pointer<|some ⟨it,0,none⟩)::S) F<|Us ck rv F0 b it l []::hs.set i (hole γ (Qc ck rv) F0 j b xs)) m r):GL O P eX (⟨some d,.range t ox,ty,pos,after,none⟩::rest) ks Q (Hd n D S F hs) m r:=by
 subst L;refine GG.step rfl (.inr rfl) λg a w q=> ?_;have T:=(q.2.pull hi).aY G o;obtain⟨es,c,l',u,W,X,E,v,y⟩:=W8 T;refine⟨.pointer<|some ⟨w.heap.size,0,none⟩,w.alloc<|.mapIter (some b) c #[] c,?_,k w.heap.size W g _ _ ⟨q.1.put M _,?_⟩⟩
 .simp[execOp,Instr.range,q.1.eval R,YU N,Yf X]
 .have Y:=v.alloc<|.mapIter (some b) c #[] c
  have Z:SH (w.alloc<|.mapIter (some b) c #[] c) F (star (Us ck rv F0 b w.heap.size l [])<|star (hole γ (Qc ck rv) F0 j b xs)<|Qk<|hs.eraseIdx i):=Y.mono λm g=>by
   have h3:=Ua<|Zm g;refine QR (λm' f=>⟨es,c,l',#[],c,f,E,y,λh=>(by simp at h),?_,?_,λx h=>(by cases h)⟩) h3
   .have e:((es.toList.zip l').filter λz=> !(#[]:C3 Nat).contains z.1.born)=es.toList.zip l' :=el.2 λ_ _=>by simp
    rw[e,E.sq.1];exact u.symm
   .have e:((es.toList.zip l').filter λz=>(#[]:C3 Nat).contains z.1.born)=[]:=o7.2 λ_ _=>by simp
    rw[e];exact .refl _
  exact Z.mono λm g=>QT (λm' f=>Fs hi f) g
theorem PS{es:Q0 ta}(a:Ye es c)(f:Uw ck rv F es l'):((es.zip l').map λz=>z.1.born).Nodup:=by
 have e:(es.zip l').map (λz=>z.1.born)=((es.zip l').map Prod.fst).map (·.born):=by rw[qAF];rfl
 rw[e,f.sq.2];exact a.1.imp λh=>qAt h
theorem AM{q:Nat}{s:Nat}(h:w.heap[q]? =some (.mapIter (some b) c j0 s)):(getObj q).run P w= .ok (.mapIter (some b) c j0 s) w:=by
 simp[getObj,Sem.run,h]
theorem yF{o' :Obj}{q:Nat}{s:Nat}(h:w.heap[q]? =some (.mapIter (some b) c j0 s)):(setObj q o').run P w= .ok () (put w q o'):=by
 simp[setObj,Sem.run,put,h]
theorem N3(w:By)(e:0 < n):∃a,a < n/\∃k,(choose<|.mapNext n).run P w= .ok a {w with drawn:=k}:=by
 by_cases f:n<=1
 .exact⟨0,e,w.drawn,by simp[choose,Sem.run,Question.forced,f]⟩
 .exact⟨_,qAo _ e,w.drawn+1,by simp[choose,Sem.run,Question.forced,Question.cut,f];rfl⟩
theorem Tx{last:Nat}(hb:w.heap[b]? =some (.map es clock))(o:w.heap[it]? =some (.mapIter (some b) clock j0 last))(hr:Uw ck rv F0 es.toList l')(p:Ye es.toList clock)(hl:j0.isEmpty=false->last=clock)
  (ht:ix.Perm (((es.toList.zip l').filter λz=> !j0.contains z.1.born).map Prod.snd)):(ix=[]->∃k,(Instr.next (.pointer<|some ⟨it,0,none⟩) false ty).run P w= .ok (.tuple #[.bool false]) {w with drawn:=k})/\
  (ix≠[]->∃z∈es.toList.zip l',j0.contains z.1.born=false/\∃k,(Instr.next (.pointer<|some ⟨it,0,none⟩) false ty).run P w= .ok (.tuple #[.bool true,z.1.key,z.1.val]) (put {w with drawn:=k} it<|.mapIter (some b) clock (j0.push z.1.born) clock)):=by
 have a:(!j0.isEmpty&& !es.isEmpty&&es.all λe=>decide<|e.born≥last)=false:=by
  cases hs:j0.isEmpty with
  | true=>simp
  | false=>
   cases he:es.isEmpty with
   | true=>simp
   | false=>
    have W:=hl hs;simp only[u1,ln];cases f:es.all λe=>decide (e.born≥last) with
    | false=>rfl
    | true=>
     rw[Array.all_eq_true] at f
     have X:0 < es.size:=by
      rcases qAJ es.size with h | h
      .have:es.isEmpty=true:=by simpa using Array.eq_empty_of_size_eq_zero h
       rw[this] at he;cases he
      .exact h
     have R:=f 0 X;have Y:=p.2 es[0] ic;simp at R;omega
 obtain⟨L,T⟩:∃L,L=es.filter λe=> !j0.contains e.born:=⟨_,rfl⟩
 have u:∀e,e∈L->e∈es.toList/\j0.contains e.born=false:=λe he=>by
  subst T;rw[Array.mem_filter] at he
  exact⟨by simpa using he.1,by simpa using he.2⟩
 have x:(L.filter λe=>decide<|e.born < clock)=L:=by
  rw[Array.filter_eq_self];intro e he;simpa using p.2 e (u e he).1
 have y:(L.filter λe=>decide<|e.born≥clock)=#[]:=by
  rw[Array.filter_eq_empty_iff];intro e he;have:=p.2 e (u e he).1;simp;omega
 have g:ix.length=L.size:=by
  have R:=ht.length_eq;rw[qAD] at R
  have Y:((es.toList.zip l').filter λz=> !j0.contains z.1.born).length=(((es.toList.zip l').map Prod.fst).filter λe=> !j0.contains e.born).length:=by
   rw[qBA,qAD];rfl
  rw[hr.sq.2] at Y
  rw[R,Y,T,<-o0,Array.toList_filter]
 have aF:∀(q:Q2 ta->By->Result K2),True:=λ_=>trivial;refine⟨λZ=> ?_,λZ=> ?_⟩
 .have v:L=#[]:=qA6 (by rw[<-g,Z];rfl);refine⟨w.drawn,?_⟩;simp only[Instr.next,y1,AM o,Result.andThen,Yf hb,a,W1,Bm,<-T,v];simp[choose,Sem.run,Question.forced]
 .have aA:L.size≠0:=by
   rw[<-g];intro e;exact Z<|Rw e
  have v:L.isEmpty=false:=by
   cases h:L.isEmpty with
   | false=>rfl
   | true=>rw[Array.isEmpty_iff_size_eq_zero] at h;exact absurd h aA
  obtain⟨E,G,k,aB⟩:=N3 (P:=P) w (n:=L.size) hQ;have i:=u L[E] ic
  obtain⟨z,hz,M⟩:∃z∈es.toList.zip l',z.1=L[E]:=by
   have:=i.1;rw[<-hr.sq.2] at this
   obtain⟨z,hz,e⟩:=lX.1 this;exact⟨z,hz,e⟩
  refine⟨z,hz,by rw[M];exact i.2,k,?_⟩;rw[M];have N:({w with drawn:=k}:By).heap[it]? =some (.mapIter (some b) clock j0 last):=o;simp only[Instr.next,y1,AM o,Result.andThen,Yf hb,a,W1,Bm,<-T,x,y,v,Array.append_empty,Array.size_map,Array.empty_append,aB];simp[G,yF N]
theorem GG.pO(i:Nat)(hi:hs[i]? =some (Us ck rv F0 b it [] done))(o:pt' =some ⟨it,0,none⟩)(p:Nat.blt d n=true)(q:QS S ox=some (.pointer pt'))
  (k:GL O P eX rest ks Q (Hd n D ((d,.tuple #[.bool false])::S) F hs) m r):GL O P eX (⟨some d,.next ox false,ty,pos,after,none⟩::rest) ks Q (Hd n D S F hs) m r:=by
 subst o;refine GG.step rfl (.inr rfl) λu a w e=> ?_;obtain⟨es,c,l',j0,last,v,f,_,x,g,y,z,E,_⟩:=T1<|e.2.pull hi;obtain⟨G,h⟩:=(Tx (P:=P) (ty:=ty) v f x g y z).1 rfl;refine⟨_,{w with drawn:=G},?_,k u _ _ ⟨e.1.put p _,e.2.drew _⟩⟩;simp[execOp,e.1.eval q,h]
theorem GG.pN(i:Nat)(hi:hs[i]? =some (Us ck rv F0 b it ix done))(N:ix≠[])(hp:pt' =some ⟨it,0,none⟩)(hd:Nat.blt d n=true)(M:QS S ox=some (.pointer pt'))
  (k:∀x e v,(x::e).Perm ix->(∀F',F0<=F'->rv F' x.2 v)->GL O P eX rest ks Q (Hd n D ((d,.tuple #[.bool true,ck x.1,v])::S) F<|hs.set i<|Us ck rv F0 b it e<|x::done) m r):GL O P eX (⟨some d,.next ox false,ty,pos,after,none⟩::rest) ks Q (Hd n D S F hs) m r:=by
 subst hp;refine GG.step rfl (.inr rfl) λR a w T=> ?_;obtain⟨es,c,l',j0,last,hb,W,X,o,h,hl,ht,Y,_⟩:=T1<|T.2.pull hi;obtain⟨z,u,f,k',Z⟩:=(Tx (P:=P) (ty:=ty) hb W o h hl ht).2 N;obtain⟨E,G⟩:=o.ah u;have L:=PS h o;have aL:z.1.born < c:=h.2 _ (by rw[<-o.sq.2];exact wt u);have aA:=FU (p:=λy:ta×(K×V)=> !j0.contains y.1.born) L u<|by simp only[f,u1]
 have e1:∀y:ta×(K×V),(!(j0.push z.1.born).contains y.1.born)=(!j0.contains y.1.born&& !(y.1.born==z.1.born)):=λy=>by
  rw[qAn,qBd]
 refine⟨_,put {w with drawn:=k'} it<|.mapIter (some b) c (j0.push z.1.born) c,?_,k z.2 (((es.toList.zip l').filter λy=> !(j0.push z.1.born).contains y.1.born).map Prod.snd) z.1.val ?_ G R _ _ ⟨by rw[<-E];exact T.1.put hd _,SH.push hi<|(((X.drew _).put (o' :=.mapIter (some b) c (j0.push z.1.born) c))).mono λm R=> ?_⟩⟩
 .simp[execOp,T.1.eval M,Z]
 .refine List.Perm.trans ?_ ht.symm;have:=(aA.map Prod.snd).symm;simp only[Of] at this
  refine List.Perm.trans (.of_eq ?_) this;congr 2;exact td λy _=>e1 y
 .have aB:=Ua<|Zm R;refine QR (λm' aC=>⟨es,c,l',j0.push z.1.born,c,aC,o,h,λ_=>rfl,.refl _,?_,λx M=> ?_⟩) aB
  .have:=qp (g:=λy:ta×(K×V)=>y.1.born) (p:=λy=>j0.contains y.1.born) (q:=λy=>(j0.push z.1.born).contains y.1.born) L u f (λy _=>by rw[qAn]);have h3:=this.map Prod.snd;simp only[Of] at h3
   exact(Y.cons z.2).trans h3.symm
  .simp only[List.head?_cons,UV] at M
   exact⟨z,u,M,by simp⟩
theorem GG.pS{x:K×V}(i:Nat)(hi:hs[i]? =some (Us ck rv F0 b it ix<|x::done))(hp:pt' =some ⟨it,0,none⟩)(hd:Nat.blt d n=true)(hx:QS S ox=some (.pointer pt'))
  (k:∀v,(∀F',F0<=F'->rv F' x.2 v)->GL O P eX rest ks Q (Hd n D ((d,.tuple #[ck x.1,v])::S) F hs) m r):GL O P eX (⟨some d,.entry ox,ty,pos,after,none⟩::rest) ks Q (Hd n D S F hs) m r:=by
 subst hp;refine GG.step rfl (.inr rfl) λhm a w R=> ?_;obtain⟨es,c,l',j0,last,hb,M,T,W,N,hl,ht,X,o⟩:=T1<|R.2.pull hi;obtain⟨z,Y,Z,g⟩:=o x rfl;obtain⟨u,E⟩:=W.ah Y;subst Z
 have aA:j0.isEmpty=false:=by
  cases h:j0.isEmpty with
  | false=>rfl
  | true=>
   have:j0=#[]:=by simpa using h
   subst this;simp at g
 have aB:=hl aA;subst aB
 have G:es.find? (λe=>e.born==z.1.born)=some z.1:=by
  have p:z.1∈es.toList:=by rw[<-W.sq.2];exact wt Y
  have q:(es.toList.map (·.born)).Nodup:=N.1.imp λh=>qAt h
  have:es.toList.find? (λe=>e.born==z.1.born)=some z.1:=by
   clear hb M W N ht X o Y E u T g hl
   generalize es.toList=L at p q
   induction L with
   | nil=>cases p
   | cons y L ih=>
    simp only[Of,lr] at q
    rcases A4.1 p with e | e
    .rw[oF,<-e];simp
    .have:(y.born==z.1.born)=false:=by
      cases aC:y.born==z.1.born with
      | false=>rfl
      | true=>exact absurd (wt (f:=(·.born)) e) (by rw[<-(r6.1 aC:y.born=z.1.born)];exact q.1)
     rw[oF,this];exact ih e q.2
  simpa using this
 refine⟨_,w,?_,k z.1.val E hm _ _ ⟨by rw[<-u];exact R.1.put hd _,R.2⟩⟩;simp[execOp,Instr.entry,R.1.eval hx,AM M,Yf hb,g,G]
end
section
variable{b:Nat}{l:Q0 (K×V)}
theorem SH.nE(k:done.Perm l)(o:(l.map Prod.fst).Nodup)(h:SH w F (star (Us ck rv F0 b it [] done) H)):SH w F (star (Qc ck rv F0 b l) H):=by
 obtain⟨es,c,l',j0,last,x,p,d,g,e,y,q,a,_⟩:=T1 h
 have t:((es.toList.zip l').filter λz=> !j0.contains z.1.born)=[]:=by
  have i:=q.length_eq;rw[qAD] at i
  exact Rw i.symm
 have u:((es.toList.zip l').filter λz=>j0.contains z.1.born)=es.toList.zip l' :=by
  rw[el];intro z v;have:=(o7.1 t) z v;simpa using this
 rw[u,g.sq.1] at a
 exact d.drop.mono λm f=>QR (λm f=>⟨l',(a.symm.trans k),o,es,c,f,g,e⟩) f
theorem IA{C:Fz->Nat->Q0 (K×V)->HP}(h:SH w F (star (hole γ C F0 j b xs) H)):j < xs.length:=by
 obtain⟨m,⟨e,f,_,_,_,⟨bs,a,d,_⟩,_⟩,_⟩:=h;rw[<-a];exact(Fm.1 d).1
theorem SH.aQ(i k:Nat)(hi:hs[i]? =some (Us ck rv F0 b it [] done))(f:(hs.eraseIdx i)[k]? =some (hole γ (Qc ck rv) F1 j b xs))(d:F0<=F)(e:F1<=F)(o:done.Perm l)(p:(l.map Prod.fst).Nodup)(he:xs' =xs.set j l)(h:SH w F (Qk hs)):SH w F (Qk<|(hs.eraseIdx i).set k<|ZE γ (Qc ck rv) F xs'):=by
 subst he;have q:SH w F (star (Us ck rv F0 b it [] done)<|star (hole γ (Qc ck rv) F1 j b xs)<|Qk<|(hs.eraseIdx i).eraseIdx k):=(h.pull hi).mono λm a=>QT (λ_=>Vm f) a;have g:=(q.nE o p).mono (H' :=star (Qc ck rv F b l)<|star (hole γ (Qc ck rv) F1 j b xs)<|Qk<|(hs.eraseIdx i).eraseIdx k) λm a=>QR (λm a=>KG d a) a;have t:=SH.az Hu e g<|IA<|g.mono λm a=>Zm a;exact SH.push f t
end
section
variable{b:Nat}{l:Q0 (K×V)}
theorem GG.aQ(i k:Nat)(hi:hs[i]? =some (Us ck rv F0 b it [] done))(g:(hs.eraseIdx i)[k]? =some (hole γ (Qc ck rv) F1 j b xs))(d:F0<=F)(e:F1<=F)(h:done.Perm l)(o:(l.map Prod.fst).Nodup)(he:xs' =xs.set j l)
  (p:GE O P ks Q (Hd n D S F<|(hs.eraseIdx i).set k<|ZE γ (Qc ck rv) F xs') m r):GE O P ks Q (Hd n D S F hs) m r:=λq a w f=>
 p q a w ⟨f.1,f.2.aQ i k hi g d e h o he⟩
end
section
variable{xs:Q0 α}{b c:Nat}
def kE(C:Fz->Nat->α->HP):Fz->Nat->Q2 α->HP:=λF b x=>match x with | some x=>C F b x | none=>AX
theorem MM(a:HK C):HK (kE C):=λF F' b x m le h=>by
 cases x with
 | none=>exact h
 | some x=>exact a _ _ _ _ _ le h
theorem jI{bs:Q0 Nat}(a:bs[j]? =some b):List.zipWith (kE C F0) bs ((xs.map some).set j none)=(List.zipWith (C F0) bs xs).set j AX:=by
 have d:=NO (f:=kE C F0) (xs:=xs.map some) (y:=none) a;rw[<-d,List.zipWith_map_right];rfl
theorem Me(h:SH w F (star (hole γ C F0 j b xs) H)):SH w F (star (ZE γ (kE C) F0<|(xs.map some).set j none) H):=
 h.mono λm a=>QR (λm a=>by
  obtain⟨bs,g,f,k⟩:=a;refine⟨bs,by simpa using g,QT (λm a=> ?_) k⟩;rw[jI f];have o:=(Fm.1 f).1;have d:j < (List.zipWith (C F0) bs xs).length:=by simp;omega
  exact Fs (B3 d) ⟨λ_=>none,m,λ_=>.inl rfl,λ_ _ e=>by simp at e,Mem.sub.refl _,trivial,a⟩) a
theorem ML(h:SH w F (star (ZE γ (kE C) F0<|(xs.map some).set j none) H))(M:UE γ F j b)(Y:j < xs.length):SH w F (star (hole γ C F0 j b xs) H):=by
 obtain⟨m,⟨N,R,d,p,T,⟨bs,q,a⟩,W⟩,k⟩:=h
 have f:bs[j]? =some b:=by
  obtain⟨t,X,u,g,v,o,_⟩:=a;obtain⟨_,e⟩:=k.gst γ _<|p _ _<|g _ _ o;simp only[Cell.gh.injEq] at e
  rw[e];exact M.2
 rw[jI f] at a
 refine⟨m,⟨N,R,d,p,T,⟨bs,by simpa using q,f,?_⟩,W⟩,k⟩;obtain⟨t,X,u,g,v,o,hs⟩:=a;have z:bs.length=xs.length:=by simpa using q
 have a:((List.zipWith (C F0) bs xs).set j AX)[j]? =some AX:=by
  rw[lg];simp;omega
 obtain⟨Z,E,d6,t5,G,_,L⟩:=Vm a hs;rw[qBb] at L
 exact⟨t,E,λk=>(u k).imp id (λe=>by
  cases h:E k with
  | none=>rfl
  | some c=>have:=G _ _ h;rw[e] at this;cases this),g,G.trans v,o,L⟩
theorem SH.mL(h:SH w F (star (hole γ C F0 j b xs) H))(d:UE γ F i c)(e:xs[i]? =some x)(a:i≠j):SH w F (star (C F0 c x)<|star (hole γ (kE C) F0 i c<|(xs.map some).set j none) H):=SH.aY (Me h) d (x:=some x) (by rw[lg];simp[qBR a,e])
theorem SH.ma(d:HK C)(le:F0<=F')(f:UE γ F j b)(hi:i < xs.length)(g:j < xs.length)(a:i≠j)(h:SH w F (star (C F' c y)<|star (hole γ (kE C) F0 i c<|(xs.map some).set j none) H)):SH w F (star (hole γ C F' j b<|xs.set i y) H):=by
 have k:=SH.az (y:=some y) (MM d) le h (by simpa using hi);refine ML ?_ f<|by simpa using g
 have e:((xs.map some).set j none).set i (some y)=((xs.set i y).map some).set j none:=by
  rw[List.map_set,List.set_comm _ _ a.symm]
 rw[<-e];exact k
end
section
variable[BEq K][LawfulBEq K]{b c i' :Nat}{l:Q0 (K×V)}
theorem GG.pP{E:K2}(i:Nat)(hi:hs[i]? =some (hole γ (Qc ck rv) F0 j b xs))(d:F0<=F)(u:UE γ F j b)(R:UE γ F i' c)(T:p=some c)(e:i'≠j)(f:xs[i']? =some l)(W:P.underlying t=some (.map kt vt))(ok:HL P kt ck)(X:QS S ox=some (.map p))(Y:QS S oy=some (ck key))(Z:QS S oz=some E)(hv:∀G,F<=G->rv G val E)(he:xs' =xs.set i' (Qq l key val))
  (k:GL O P eX rest ks Q (Hd n D S F<|hs.set i<|hole γ (Qc ck rv) F j b xs') m r):GL O P eX (⟨none,.mapUpdate t ox oy oz,ty,pos,after,none⟩::rest) ks Q (Hd n D S F hs) m r:=by
 subst T;subst he;refine GG.tF rfl (.inr rfl) λg a w h=> ?_;have L:=h.2.pull hi;have h1:=L.mL R f e;obtain⟨es,c',l1,v,M,x,hr,y,z⟩:=W8 h1;obtain⟨o,N,q,g1,g2⟩:=GS (key:=key) (val:=val) x (hr.up d) z W ok hv;refine⟨_,?_,k g _ _ ⟨h.1.sb _,SH.push hi<|SH.ma Hu d u (Fm.1 f).1 (IA L) e<|(y.put (o' :=.map o N)).mono λm g=>QR (λm g=>⟨Qq l1 key val,Gb v M,Jb M,o,N,g,g1,g2⟩) g⟩⟩;simp[execOp,h.1.eval X,h.1.eval Y,h.1.eval Z,q]
end
section
variable{l0:Q0 L0}{cd:oZ}
variable{b:Nat}{xs:Q0 α}
theorem SH.nF{d:Fz}(e:HK C)(le:F0<=d)(a:UE γ F j b)(h:SH w F (star (hole γ C F0 j b xs) H)):SH w F (star (hole γ C d j b xs) H):=by
 have f:j < xs.length:=by
  obtain⟨m,⟨i,k,_,_,_,⟨bs,g,a,_⟩,_⟩,_⟩:=h;rw[<-g];exact(Fm.1 a).1
 exact ML (SH.ar (MM e) le<|Me h) a f
end
theorem SF{xs:Q0 α}(h:xs[j]? =some x):xs=xs.set j x:=by
 apply lM;intro i;rw[lg];by_cases e:j=i
 .subst e;rw[DO rfl,h,DO (Fm.1 h).1]
 .rw[Do e]
section
open Classical in
def Ck(E:τ->τ->Prop)(b:α->τ->Q2 τ)(l:Q0 α)(s:τ):Q2 τ:=match VH b l s with
 | none=>none
 | some r=>if ∀l',l'.Perm l->∃a,VH b l' s=some a/\E a r then some r else none
theorem kA{b:α->τ->Q2 τ}{l:Q0 α}{r:τ}(h:Ck E b l s=some r):∀l',l'.Perm l->∃a,VH b l' s=some a/\E a r:=by
 unfold Ck at h
 split at h
 .cases h
 .split at h
  .rename_i d;simp only[UV] at h
   subst h;exact d
  .cases h
theorem qP{b:α->τ->Q2 τ}{l:Q0 α}{r:τ}(d:VH b l s=some r)(h:∀l',l'.Perm l->∃a,VH b l' s=some a/\E a r):Ck E b l s=some r:=by
 unfold Ck;rw[d];exact DO h
theorem Rb{c:oZ}{I:Q0 α->Q0 α->τ->Act->By->Prop}{b:α->τ->Q2 τ}{l:Q0 α}
  (round:∀ix done s,(∀x∈ix,∃h,b x s=some h)->∀a w,I ix done s a w->c.wpIn (NH O) 0 P (FJ B I b ix done s) a w):∀(n:Nat) (ix done:Q0 α) (s:τ),ix.length=n->(∀l',l'.Perm ix->∃r,VH b l' s=some r)->(done++ix).Perm l->∀a w,I ix done s a w->
   ∀(fr:Frame) (k:Q0 Item) (cs:Q0 Frame),fr.roundOf=(NH O).round->∃z w' d R l',d.Perm l/\l'.Perm ix/\VH b l' s=some R/\I [] d R z w'/\ArrivesIn (Machine.fenced P<|NH O) P (lone (fr.atR a<|.code c:: .inLoop c::k) cs w) fr k cs (.exit B) z w'
 | n,ix,done,s,Y,i,f,a,w,G,fr,k,cs,v=>by
  have L:∀x∈ix,∃h,b x s=some h:=λx M=>by
   obtain⟨N,l2,e⟩:=oN M;have u:(x::(N++l2)).Perm ix:=by rw[e];exact List.perm_middle.symm
   obtain⟨r,this⟩:=i _ u;simp only[VH] at this
   cases y:b x s with
   | none=>rw[y] at this;cases this
   | some h=>exact⟨h,rfl⟩
  obtain⟨e,a₁,w₁,T,o⟩:=round ix done s L a w G fr (.inLoop c::k) cs v (CG O _)<|BT O _;rcases T with⟨rfl,rfl,p⟩ | ⟨rfl,x,rest,h,u,y,p⟩
  .exact⟨a₁,w₁,done,s,[],by simpa using f,.refl _,rfl,p,.pass (x:=.inLoop c) rfl (λ_ _=>.inl ic) o⟩
  .have E:rest.length < n:=by have:=u.length_eq;simp at this;omega
   have q:∀l',l'.Perm rest->∃r,VH b l' h=some r:=λl' t=>by
    obtain⟨r,this⟩:=i (x::l')<|(t.cons x).trans u;exact⟨r,by simpa[VH,y] using this⟩
   have g:(x::done++rest).Perm l:=by
    refine List.Perm.trans ?_ f;have W:(x::done++rest).Perm (done++x::rest):=List.perm_middle.symm;exact W.trans<|u.append_left done
   obtain⟨a₂,w₂,done₂,R,l',hd₂,t,X,hI₂,harr₂⟩:=Rb round rest.length rest (x::done) h rfl q g a₁ w₁ p fr k cs v;exact⟨a₂,w₂,done₂,R,x::l',hd₂,(t.cons x).trans u,by simp[VH,y,X],hI₂,.of_steps (lN o<|.one (qAQ (n:=0) (CG O _) (BT O _) rfl) qBP) harr₂⟩
termination_by n=>n
theorem GG.tw{h:Q0 Kt}{c:oZ}{l:Q0 α}{b:α->τ->Q2 τ}{i:τ}{f:τ->Q2 β}(E:τ->τ->Prop)(I:Q0 α->Q0 α->τ->Act->By->Prop)(L:BV B ks=some h)
  (M:∀a w,A a w->I l [] i a w) (N:∀done R p a w,E p R->I [] done p a w->I [] done R a w)
  (round:∀ix done s,(∀x∈ix,∃T,b x s=some T)->GC O P c [] (FJ B I b ix done s) (I ix done s) (some ()) ())
  (after:∀done R,Ck E b l i=some R->done.Perm l->GE O P h Q (I [] done R) (f R) r):GC O P (.loop c) ks Q A ((Ck E b l i).bind f) r:=by
 intro q a w W;cases t:Ck E b l i with
 | none=>rw[t] at q;cases q
 | some R=>
  rw[t] at q
  have d:=kA t;intro fr k cs v X Y;obtain⟨y,w',done,p,l',Z,e,z,g,o⟩:=Rb (I:=I) (b:=b) (l:=l) (λix done s hx a w g=>round ix done s hx rfl a w g) l.length l [] i rfl (λl' e=>let⟨G,u,_⟩:=d l' e;⟨G,u⟩) ic a w (M a w W) fr k cs v;obtain⟨G,u,h2⟩:=d l' e;rw[z] at u
  cases u;exact⟨.exit B,y,w',Q9 L<|after done R t Z q y w'<|N done R p y w' h2 g,.of_steps (.one (qAQ X Y rfl) stepR_loop) o⟩
end
def Pa(xs a:Q0 (Q0 α)):Prop:=xs.length=a.length/\∀(i:Nat) (x y:Q0 α),xs[i]? =some x->a[i]? =some y->x.Perm y
theorem SH.tP{xs f:Q0 α}(u:xs.length=f.length)(v:∀(i:Nat) x y b m,xs[i]? =some x->f[i]? =some y->C F0 b x m->C F0 b y m)(h:SH w F (star (ZE γ C F0 xs) H)):SH w F (star (ZE γ C F0 f) H):=
 h.mono λm g=>QR (λm ⟨bs,k,hs⟩=>⟨bs,k.trans u,QT (λm g=>BA (by simp[u]) (λi p q a d m z=>by
  rw[oe] at a d
  cases e:bs[i]? with
  | none=>rw[e] at a;simp at a
  | some b=>
   cases o:xs[i]? with
   | none=>rw[e,o] at a;simp at a
   | some x=>
    cases t:f[i]? with
    | none=>rw[e,t] at d;simp at d
    | some y=>rw[e,o] at a;rw[e,t] at d;simp at a d;subst a;subst d;exact v i x y b _ o t z) g) hs⟩) g
section
variable{b:Nat}{ys:Q0 (Q0<|K×V)}
theorem Hd.mZ(i:Nat)(hi:hs[i]? =some (hole γ (Qc ck rv) F0 j b xs))(v:UE γ F j b)(k:Pa xs ys)(q:Hd n D S F hs a w):Hd n D S F (hs.set i<|hole γ (Qc ck rv) F0 j b ys) a w:=by
 refine⟨q.1,SH.push hi ?_⟩;have t:=q.2.pull hi;have z:=IA t;refine ML ?_ v (by rw[<-k.1];exact z);refine(Me t).tP (by simp[k.1]) λh x y b' m d f u=> ?_;rw[lg] at d f
 by_cases e:j=h
 .simp only[e,B1] at d f
  split at d
  .split at f
   .cases d;cases f;exact u
   .cases f
  .cases d
 .rw[Do e,tb] at d f
  cases o:xs[h]? with
  | none=>rw[o] at d;cases d
  | some E=>
   cases p:ys[h]? with
   | none=>rw[p] at f;cases f
   | some G=>
    rw[o] at d;rw[p] at f
    simp only[RK,UV] at d f
    subst d;subst f;obtain⟨l',L,M,N⟩:=u;have g:=k.2 h E G o p;exact⟨l',L.trans g,((g.map Prod.fst).nodup_iff).1 M,N⟩
end
end
section
variable{A:Q0 (Q0<|K×V)}{x:Q2 Nat}
def Mp(A:Q0 (Q0<|K×V))(x:Q2 Nat):Q2 (Q2 Nat×Q0 (Q0<|K×V)):=
 match x with
 | none=>some (none,A)
 | some i=>(A[i]?).bind λl=>some (some A.length,A++[l])
theorem fV(h:Z4 γ F p x)(k:∀b es clock w,w.heap[b]? =some (.map es clock)->Calls P f #[.map<|some b] w λe w' =>e= .returned (.map<|some w.heap.size)/\w' =w.alloc (.map es clock))
  (g:∀w,Calls P f #[.map none] w λe w' =>e= .returned (.map none)/\w' =w):X6 P f [.map p].toArray F [ZE γ (Qc ck rv) F A] (Mp A x) (fun(r:Q2 Nat×Q0 (Q0<|K×V)) F v=>∃(s:Q2 Nat) (_k0:Unit),v= .map s/\Z4 γ F s r.1) (λr j=>[ZE γ (Qc ck rv) j r.2]):=by
 intro r a w R t;have u:SH w F (Qk<|[ZE γ (Qc ck rv) F A]++[R]):=t.mono λm a=>JD<|QT (λ_ h=>Jx h) a;cases x with
 | none=>
  have y:p=none:=h;subst y;simp only[Mp,UV] at a
  subst a;refine(g w).mono ?_;rintro e w' ⟨rfl,rfl⟩;exact⟨F,_,Fz.le_refl _,rfl,⟨none,(),rfl,rfl⟩,t⟩
 | some i=>
  obtain⟨b,z,rfl⟩:=h;simp only[Mp] at a
  cases n:A[i]? with
  | none=>rw[n] at a;cases a
  | some l=>
   rw[n] at a
   simp only[K1,UV] at a
   subst a;obtain⟨es,c,l',o,B,d,C,q⟩:=SH.tH (H:=Qk [R]) u z n;refine(k b es c w d).mono ?_;rintro e w' ⟨rfl,rfl⟩;have D:=u.alloc<|.map es c;obtain⟨j,le,E,G⟩:=SH.nW (x:=l) (H:=Qk [R]) (xs:=A) Hu (Fz.le_refl F) D λj m le a=>⟨l',o,B,es,c,a,C.up le,q⟩;exact⟨j,_,le,rfl,⟨some w.heap.size,(),rfl,_,E,rfl⟩,G.mono λm a=>XR<|Y5 (l:=[ZE γ (Qc ck rv) j<|A++[l]]) a⟩
end
def bG(i j:Nat):Q2 Unit:=if i=j then none else some ()
theorem uV{u:Unit}(h:bG i j=some u):i≠j:=λe=>by simp[bG,e] at h
section
variable{ms:C3 (String×S2)}{Q:s6->Act->Q0 Frame->By->Prop}{cs:Q0 Frame}
def wb(P:B2)(en:ε->K2)(f:Nm)(args:C3 K2)(F:Fz)(Hs:Q0 HP)(Hp:ε->Fz->Q0 HP):Prop:=
 (∀w R,SH w F (star (Qk Hs) R)->CallsDIn Fence.wide 0 P f args .returning w (λe b w' =>b= .returning/\(∃v,e= .returned v)/\SH w' F (star (Qk Hs) R)))/\
 ∀q w R,SH w F (star (Qk Hs) R)->CallsDIn Fence.wide 0 P f args (.panicking [{v:=en q,recovered:=false}]) w (λe b w' =>b= .panicking [{v:=en q,recovered:=true}]/\(∃v,e= .returned v)/\∃c,F<=c/\SH w' c (star (Qk<|Hp q c) R))
def jf(P:B2)(fn:oW)(F:Fz)(Hs:Q0 HP)(R:HP):s6->Act->By->Prop:=λe a w=>(e= .normal∨e= .ret)/\a.defers=[]/\(∃v,(results fn a.tmps).run P w= .ok v w)/\SH w F (star (Qk Hs) R)
def je(P:B2)(fn:oW)(F:Fz)(Hp:Fz->Q0 HP)(R:HP):s6->Act->By->Prop:=λe a w=>(e= .normal∨e= .ret)/\a.defers=[]/\(∃v,(results fn a.tmps).run P w= .ok v w)/\∃b,F<=b/\SH w b (star (Qk<|Hp b) R)
section
variable{i0 d0 d1:Nat}{rest:oZ}{T0:C3 S2}{ty0 ty1:S2}{pos0 pos1:String}{after0 after1:C3 oX}
theorem qD{b:OF->K2}:(execOp b ⟨some d0,.call ⟨.builtin .recover,#[],T0⟩,ty0,pos0,after0,none⟩).run P w= .ok .recover w:=by
 simp[execOp,resolve,invoke,builtin]
theorem kF{rest:Q0 Nat}(b:eX[i]? =some o)(c:Region.wanted o (yielded eX a.tmps)=true)(d:(execOp a.eval o).run P w= .ok (.value v) w')(h:wpOpsSIn Fence.wide 0 P eX Q rest (a.put o.dst v) cs w'):wpOpsSIn Fence.wide 0 P eX Q (i::rest) a cs w:=by
 simp only[wpOpsSIn,b];exact⟨λ_ _=>trivial,by rw[DO c,d];exact h⟩
theorem Ov{rest:Q0 Nat}(d:eX[i]? =some o)(e:Region.wanted o (yielded eX a.tmps)=true)(c:(execOp a.eval o).run P w= .ok .recover w')(b:(match recoverD cs with | some (v,cs')=>(v,cs') | none=>(.nilIface,cs))=(v,cs'))(h:wpOpsSIn Fence.wide 0 P eX Q rest (a.put o.dst v) cs' w'):wpOpsSIn Fence.wide 0 P eX Q (i::rest) a cs w:=by
 simp only[wpOpsSIn,d];refine⟨λ_ _=>trivial,?_⟩;rw[DO e,c];cases c:recoverD cs with
 | none=>
  rw[c] at b
  simp only[T2] at b
  obtain⟨rfl,rfl⟩:=b;exact h
 | some p=>
  obtain⟨j,g⟩:=p;rw[c] at b
  simp only[T2] at b
  obtain⟨rfl,rfl⟩:=b;exact h
theorem SJ
   (c:Sl n [] S a) (d:Nat.blt d0 n=true) (e:Nat.blt d1 n=true)
  (b:(match recoverD cs with | some (v,cs')=>(v,cs') | none=>(.nilIface,cs))=(v,cs')) (k:∀h,Sl n [] ((d1,v)::(d0,v)::S) h->Q .normal h cs' w):wpOpsSIn Fence.wide 0 P #[⟨some d0,.call ⟨.builtin .recover,#[],T0⟩,ty0,pos0,after0,none⟩,⟨some d1,.assign<|.tmp d0,ty1,pos1,after1,none⟩] Q [0,1] a cs w:=by
 have j:=c.put d v;have l:=j.put e v;have g:(a.put (some d0) v).eval (.tmp d0)=v:=j.eval (by simp[QS,JC]);refine Ov (i:=0) (w' :=w) (o:=⟨some d0,.call ⟨.builtin .recover,#[],T0⟩,ty0,pos0,after0,none⟩) rfl (by simp[Region.wanted]) qD b ?_;refine kF (i:=1) (v:=v) (w' :=w) (o:=⟨some d1,.assign<|.tmp d0,ty1,pos1,after1,none⟩) rfl (by simp[Region.wanted]) (by simp[execOp,g]) ?_;exact k _ l
theorem wb.mk(p:P.funcs[f]? =some fn)(r:fn.body=some (.seq (.region i0 #[⟨some d0,.call ⟨.builtin .recover,#[],T0⟩,ty0,pos0,after0,none⟩,⟨some d1,.assign<|.tmp d0,ty1,pos1,after1,none⟩] false) rest))(s:fn.ntmps=n)(t:Nat.ble args.length n=true)(c:Nat.blt d0 n=true)(d:Nat.blt d1 n=true)
  (x:∀R,GC none P rest [] (jf P fn F Hs R) (Hd n [] ((d1,.nilIface)::(d0,.nilIface)::D4 0 args) F<|Hs++[R]) (some ()) ())
  (y:∀q R,GC none P rest [] (je P fn F (Hp q) R) (Hd n [] ((d1,en q)::(d0,en q)::D4 0 args) F<|Hs++[R]) (some ()) ()):wb P en f args.toArray F Hs Hp:=by
 refine⟨λw R j=> ?_,λq w R j=> ?_⟩
 .refine callsDIn_of_wpSIn p r trivial λc₀ cs k=> ?_;refine wpSIn_seq (wpSIn_region<|SJ (n:=n) (v:=.nilIface) (cs' :=c₀::cs) (S:=D4 0 args) (by rw[s];exact WC t) c d (by simp[recoverD,k]) λl b=> ?_);refine wpSIn_of_wpIn rfl<|qAH (x R rfl l w ⟨b,j.mono λm o=>JD<|QT (λ_ h=>Jx h) o⟩) ?_;rintro e z A ⟨he,g,⟨v,i⟩,hs⟩;have u:c₀::cs={c₀ with mode:=.returning}::cs:=by cases c₀;simp_all
  rcases he with rfl | rfl
  .exact⟨g,.returning,u,v,i,rfl,⟨v,rfl⟩,hs⟩
  .exact⟨g,.returning,u,v,i,rfl,⟨v,rfl⟩,hs⟩
 .refine callsDIn_of_wpSIn p r trivial λc₀ cs k=> ?_;refine wpSIn_seq (wpSIn_region<|SJ (n:=n) (v:=en q) (cs' :={c₀ with mode:=.panicking [{v:=en q,recovered:=true}]}::cs) (S:=D4 0 args) (by rw[s];exact WC t) c d (by simp[recoverD,k]) λl b=> ?_);refine wpSIn_of_wpIn rfl<|qAH (y q R rfl l w ⟨b,j.mono λm o=>JD<|QT (λ_ h=>Jx h) o⟩) ?_;rintro e z A ⟨he,g,⟨v,i⟩,hs⟩;rcases he with rfl | rfl
  .exact⟨g,_,rfl,v,i,rfl,⟨v,rfl⟩,hs⟩
  .exact⟨g,_,rfl,v,i,rfl,⟨v,rfl⟩,hs⟩
end
section
variable{Hp:Fz->Q0 HP}
theorem P8(is:Q0 Nat)(d:fn.results=#[])(hi:YN is hs=Hs++[R]):some ()=some ()->∀a w,Hd n [] S F hs a w->jf P fn F Hs R .normal a w:=by
 intro _ a w b;refine⟨.inl rfl,b.1.2.1,⟨_,Jn (rs:=[]) (by simpa using d) b .nil⟩,b.2.mono λm e=> ?_⟩;have c:=YZ (ks:=is) e;rw[hi] at c
 exact XR<|Y5 c
theorem P7(is:Q0 Nat)(d:fn.results=#[])(hi:YN is hs=Hp F' ++[R])(le:F<=F'):some ()=some ()->∀a w,Hd n [] S F' hs a w->je P fn F Hp R .normal a w:=by
 intro _ a w b;refine⟨.inl rfl,b.1.2.1,⟨_,Jn (rs:=[]) (by simpa using d) b .nil⟩,F',le,b.2.mono λm e=> ?_⟩;have c:=YZ (ks:=is) e;rw[hi] at c
 exact XR<|Y5 c
end
section
variable{ρ:G->β->Fz->K2->Prop}{x:β}
theorem Pm(b:Q0 Nat)(c:∀args w,(callFunc f args).run P w= .ok (.enter f args) w)(o:wb P en f eY.toArray F' Hs Hp)(g:YN b hs=Hs)(is:Q0 Nat)(p:fn.results=rs.toArray)(h:S5 P S F' (Hs++YC b hs) rs vs)(hi:YN is (Hs++YC b hs)=Hs' U x F' ++[R])(le:F<=F')(hρ:ρ U x F' (Ai vs)):some x=some r->∀a w,Hd n [RB f eY] S F' hs a w->AO P fn F R ρ Hs' r .ret a w:=by
 intro e a w d;simp only[UV] at e
 subst e;show LeavesIn Fence.wide 0 P fn a.tmps _ a.defers .returning w;rw[d.1.2.1]
 have i:SH w F' (star (Qk Hs)<|Qk<|YC b hs):=d.2.mono λm j=>by
  have:=UO (ks:=b) j;rw[g] at this;exact this
 refine qBI ic (λe=>by cases e) (TP c) Px<|(o.1 w _ i).mono ?_;rintro _ _ w' ⟨rfl,⟨v,rfl⟩,q⟩;have k:SH w' F' (Qk<|Hs++YC b hs):=q.mono λ_=>JD;refine⟨_,Jn (n:=n) (a:=a) (D:=a.defers) p ⟨⟨d.1.1,rfl,d.1.2.2⟩,k⟩ h,U,F',_,le,rfl,hρ,k.mono λm j=> ?_⟩;have l:=YZ (ks:=is) j;rw[hi] at l
 exact XR<|Y5 l
theorem Ea(j:Nat)(c:∀args w,(callFunc f args).run P w= .ok (.enter f args) w)(t:wb P en f eY.toArray F' Hs Hp)(is:Q0 Nat)(hi:YN is hs=Hs)(u:fn.results=rs.toArray)(h:∀b,F'<=b->S5 P S b (Hp q b++YC is hs) rs vs)(y:∀b,(Hp q b++YC is hs)[j]? =some R)(le:F<=F')
  (d:∀w F R,SH w F R->∃U b,F<=b/\SH w b (star (Qk<|Hs' U x b) R)) (hρ:∀U b,ρ U x b<|Ai vs):some x=some r->∀a w,Hd n [RB f eY] S F' hs a w->AO P fn F R ρ Hs' r (.panic [{v:=en q,recovered:=false}]) a w:=by
 intro e a w i;simp only[UV] at e
 subst e;show LeavesIn Fence.wide 0 P fn a.tmps _ a.defers (.panicking _) w;rw[i.1.2.1]
 have l:SH w F' (star (Qk Hs)<|Qk<|YC is hs):=i.2.mono λm z=>by
  have:=UO (ks:=is) z;rw[hi] at this;exact this
 refine qBI ic (λe=>by cases e) (TP c) Px<|(t.2 q w _ l).mono ?_;rintro _ _ w' ⟨rfl,⟨v,rfl⟩,k,g,A⟩;have p:SH w' k (Qk<|Hp q k++YC is hs):=A.mono λ_=>JD;obtain⟨U,s,o,B⟩:=d _ _ _<|p.only<|y k;exact⟨_,Jn (n:=n) (a:=a) (D:=a.defers) u ⟨⟨i.1.1,rfl,i.1.2.2⟩,p⟩<|h k g,U,s,_,Fz.le_trans le<|Fz.le_trans g o,rfl,hρ U s,B⟩
end
section
variable{Q:s6->Act->By->Prop}
variable{tx:S2}
theorem uz(b:P.underlying t=some (.interface ms))(k:Nat)(w:By):(Op.equalIn (k+1) t .nilIface .nilIface).run P w= .ok true w:=by
 simp[Op.equalIn,YU b]
theorem IJ(b:P.underlying t=some (.interface ms))(k:Nat)(w:By):(Op.equalIn (k+1) t (.iface tx v) .nilIface).run P w= .ok false w:=by
 simp[Op.equalIn,YU b]
theorem xe(b:P.underlying t=some (.interface ms))(w:By):(Op.equal t .nilIface .nilIface).run P w= .ok true w:=uz b 9999 w
theorem qv(b:P.underlying t=some (.interface ms))(w:By):(Op.equal t (.iface tx v) .nilIface).run P w= .ok false w:=IJ b 9999 w
theorem GG.tS(b:Nat.blt d n=true)(c:P.underlying t=some (.interface ms))(e:QS S ox=some .nilIface)(k:GL μ P eX rest ks Q (Hd n D ((d,.bool false)::S) F hs) m r):GL μ P eX (⟨some d,.binOp .neq t ox (.const .nilIface) t',ty,pos,after,none⟩::rest) ks Q (Hd n D S F hs) m r:=
 GG.val b (λa w g=>by
  have h:a.eval (.const .nilIface)= .nilIface:=rfl;simp[execOp,g.1.eval e,h,eqGuard,binOp,xe c]) k
theorem GG.tR(b:Nat.blt d n=true)(c:P.underlying t=some (.interface ms))(e:QS S ox=some (.iface tx v))(k:GL μ P eX rest ks Q (Hd n D ((d,.bool true)::S) F hs) m r):GL μ P eX (⟨some d,.binOp .neq t ox (.const .nilIface) t',ty,pos,after,none⟩::rest) ks Q (Hd n D S F hs) m r:=
 GG.val b (λa w g=>by
  have h:a.eval (.const .nilIface)= .nilIface:=rfl;simp[execOp,g.1.eval e,h,eqGuard,binOp,qv c]) k
theorem GG.tL{b:qAg}(c:Nat.blt d n=true)(e:P.underlying tx=some b)(i:∀ms,b≠.interface ms)(g:QS S ox=some (.iface tx v))(k:GL O P eX rest ks Q (Hd n D ((d,.tuple #[v,.bool true])::S) F hs) m r):GL O P eX (⟨some d,.typeAssert ox t tx true,ty,pos,after,none⟩::rest) ks Q (Hd n D S F hs) m r:=
 GG.val c (λa w h=>by
  have:(Instr.typeAssert (.iface tx v) t tx true).run P w= .ok (.tuple #[v,.bool true]) w:=by
   cases b<;>simp_all [Instr.typeAssert,YU e]
  simp[execOp,h.1.eval g,this]) k
end
theorem qV{X:HP}{m:Mem}(h:X m):star (Qk []) X m:=⟨λ_=>none,m,λ_=>.inl rfl,λ_ _ e=>by simp at e,Mem.sub.refl _,trivial,h⟩
theorem GK{m:Mem}(h:star (Qk hs) (star (yr γ []) R) m):star (Qk<|ZE γ C F []::hs) R m:=by
 have c:=Ua<|Zm h;exact QR (λm b=>QR (λm b=>⟨[],rfl,m,λ_=>none,λ_=>.inr rfl,Mem.sub.refl _,λ_ _ e=>by simp at e,b,trivial⟩) b) c
end
end Go.Dec
end
