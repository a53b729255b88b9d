/- For OfficeBonds. -/
import Derived.Test.YtdoocboganbagaaGreatDoorPb0
import Derived.RecoverIn
import Derived.LaidEql
noncomputable section
namespace Go.Dec
abbrev RK:=@Bool.not_true
abbrev L0:=@Prod.mk.injEq
abbrev L3:=@List.mem_cons_of_mem
abbrev bY:=@List.filter_congr
abbrev nt:=@List.filter_cons
abbrev mX:=@beq_iff_eq
abbrev ma:=@List.nodup_cons
abbrev mw:=@List.filter_eq_self
abbrev mx:=@List.find?_cons
abbrev lJ:=@List.map_map
abbrev lL:=@List.getElem_map
abbrev lP:=@List.append_of_mem
abbrev ld:=@Bool.and_true
abbrev eg:=@LawfulBEq.eq_of_beq
abbrev ei:=@List.length_map
abbrev oJ:=@List.pairwise_iff_getElem
abbrev o0:=@Array.contains_push
abbrev iB:=@Nat.ne_of_lt
abbrev iC:=@Nat.lt_trichotomy
abbrev iF:=@List.map_set
abbrev iV:=@List.filter_map
abbrev iZ:=@List.nodup_nil
abbrev ie:=@leavesIn_cons
abbrev iq:=@List.eraseIdx_cons_zero
abbrev qAA:=@callsIn_of_wp_defers
abbrev qAD:=@List.eraseIdx_set_eq
abbrev qAE:=@Bool.not_or
abbrev qAG:=@List.filter_sublist
abbrev qAJ:=@Array.toList_modify
end Go.Dec
namespace Go.Dec
section
variable{ε β:Type}{ec:ε->UV}{P:B3}{n:Nat}
variable{O:K1 Nat}{μ:Md}
inductive Out(ε β:Type) where
 | ok (b:β)
 | pan (x:ε)
def YF:Q0 Nat->Q0 HP->Q0 HP
 | [],hs=>hs
 | k::ks,hs=>YF ks<|hs.eraseIdx k
theorem UJ:∀{ks:Q0 Nat} {hs:Q0 HP} {m:Mem},Qh hs m->star (Qh<|YN ks hs) (Qh<|YF ks hs) m
 | [],_,m,h=>⟨λ_=>none,m,λ_=>.inl rfl,λ_ _ e=>by simp at e,Mem.sub.refl _,trivial,h⟩
 | k::ks,hs,m,h=>by
  have a:star ((hs[k]?).getD SO) (Qh<|hs.eraseIdx k) m:=by
   cases e:hs[k]? with
   | some p=>exact Vi e h
   | none=>exact DW h
  exact UX<|QR (λ_ h=>UJ (ks:=ks) h) a
theorem K7:∀{l k:Q0 HP} {m:Mem},star (Qh l) (Qh k) m->Qh (l++k) m
 | [],_,_,⟨_,_,_,_,a,_,h⟩=>stars_sub a h
 | _p::_l,_k,_m,h=>QR (λ_ h=>K7 h)<|XN h
where
 stars_sub:∀{l:Q0 HP} {m n:Mem},Mem.sub m n->Qh l m->Qh l n
  | [],_,_,_,_=>trivial
  | _::_,_,_,s,⟨m1,m2,d,s1,s2,hp,hq⟩=>⟨m1,m2,d,s1.trans s,s2.trans s,hp,hq⟩
theorem Yx:∀{l k:Q0 HP} {m:Mem},Qh (l++k) m->star (Qh l) (Qh k) m
 | [],_,m,h=>⟨λ_=>none,m,λ_=>.inl rfl,λ_ _ e=>by simp at e,Mem.sub.refl _,trivial,h⟩
 | p::l,k,m,h=>UX<|QR (λ_ h=>Yx h) h
theorem Jy{p:HP}{m:Mem}(h:p m):Qh [p] m:=⟨m,λ_=>none,λ_=>.inr rfl,Mem.sub.refl _,λ_ _ e=>by simp at e,h,trivial⟩
def Vq(P:B3)(ec:ε->UV)(f:Rw)(args:So UV)(F:Fz)(Hs:Q0 HP)(m:K1 (Out ε β))(ρ:β->Fz->UV->Prop)(b:β->Fz->UV->Q0 HP):Prop:=
 ∀r,m=some r->∀w R,SH w F (star (Qh Hs) R)->Calls P f args w (λe w' =>∃a,F<=a/\match r with
  | .ok x=>∃v,e= .returned v/\ρ x a v/\SH w' a (star (Qh<|b x a v) R)
  | .pan x=>e= .panicked [{v:=ec x,recovered:=false}]/\SH w' a R)
def Tv(P:B3)(ec:ε->UV)(fn:lX)(F:Fz)(R:HP)(ρ:β->Fz->UV->Prop)(b:β->Fz->UV->Q0 HP)(r:Out ε β):hP->Act->By->Prop:=
 bodyPost P fn (λe w' =>∃a,F<=a/\match r with
  | .ok x=>∃v,e= .returned v/\ρ x a v/\SH w' a (star (Qh<|b x a v) R)
  | .pan x=>e= .panicked [{v:=ec x,recovered:=false}]/\SH w' a R)
theorem Vq.enter{f:Rw}{fn:lX}{c:la}{args:Q0 UV}{F:Fz}{Hs:Q0 HP}{m:K1 (Out ε β)}{ρ:β->Fz->UV->Prop}{a:β->Fz->UV->Q0 HP}
  (d:P.funcs[f]? =some fn) (e:fn.body=some c) (g:fn.ntmps=n) (i:Nat.ble args.length n=true)
  (k:∀r R,GC none P c [] (Tv P ec fn F R ρ a r) (Hd n [] (D2 0 args) F<|Hs++[R]) m r):Vq P ec f args.toArray F Hs m ρ a:=by
 intro r b w R j;refine oN d e<|oo.1<|k r R b _ w ⟨?_,j.mono λm b=>K7<|QR (λ_ h=>Jy h) b⟩;rw[g];exact WA i
section
variable{ε β:Type}{P:B3}{ec:ε->UV}{n:Nat}{S:Q0 (Nat×UV)}{F F' :Fz}{hs:Q0 HP}{ks:Q0 Kt}{fn:lX}{R:HP}{ρ:β->Fz->UV->Prop}{Hs' :β->Fz->UV->Q0 HP}{x:β}{r:Out ε β}{rs:Q0 ResultVar}{vs:Q0 UV}
theorem XM{A:HP}{m:Mem}(h:star A (Qh [R]) m):star A R m:=by
 obtain⟨b,j,d,c,e,f,g,_,_,a,_,i,_⟩:=h;exact⟨b,g,d.sub (Mem.sub.refl _) a,c,a.trans e,f,i⟩
theorem L7(is:Q0 Nat)(d:fn.results=rs.toArray)(h:Ss P S F' hs rs vs)(hi:YN is hs=Hs' x F' (AU vs)++[R])(le:F<=F')(hρ:ρ x F' (AU vs)):some (Out.ok x)=some r->∀a w,Hd n [] S F' hs a w->Tv P ec fn F R ρ Hs' r .ret a w:=by
 intro e a w b;simp only[W1] at e
 subst e;refine⟨b.1.2.1,_,Jm d b h,F',le,_,rfl,hρ,b.2.mono λm f=> ?_⟩;have c:=Yw (ks:=is) f;rw[hi] at c
 exact XM<|Yx c
theorem GG.sO(is:Q0 Nat)(a:fn.results=rs.toArray)(h:Ss P S F' hs rs vs)(hi:YN is hs=Hs' x F' (AU vs)++[R])(le:F<=F')(hρ:ρ x F' (AU vs)):GC O P .ret ks (Tv P ec fn F R ρ Hs' r) (Hd n [] S F' hs) (some<|.ok x) r:=GG.cw<|L7 is a h hi le hρ
theorem GG.sL(is:Q0 Nat)(a:fn.results=rs.toArray)(h:Ss P S F' hs rs vs)(hi:YN is hs=Hs' x F' (AU vs)++[R])(le:F<=F')(hρ:ρ x F' (AU vs)):GE O P [] (Tv P ec fn F R ρ Hs' r) (Hd n [] S F' hs) (some<|.ok x) r:=GG.cK<|L7 is a h hi le hρ
theorem Qn{q:ε}{i:Nat}(hi:hs[i]? =some R)(le:F<=F'):some (Out.pan q)=some r->∀a w,Hd n [] S F' hs a w->Tv P ec fn F R ρ Hs' r (.panic [{v:=ec q,recovered:=false}]) a w:=by
 intro e a w b;simp only[W1] at e
 subst e;exact⟨b.1.2.1,F',le,rfl,b.2.only hi⟩
end
section
variable{ε β:Type}{P:B3}{ec:ε->UV}{eG:So Nm}{rest:Q0 Nm}{ks:Q0 Kt}{Q:hP->Act->By->Prop}{m:K1 β}{r:β}
variable{n:Nat}{D:Q0 AC}{S:Q0 (Nat×UV)}{F F0:Fz}{hs:Q0 HP}
theorem GG.tU{b:K1 Tmp}{d:L5}{ty:S1}{pos:String}{after:So lY}{T:S1}{v:UV}(f:QQ S d=some (.iface T v))
  (h:m=some r->∀a w,Hd n D S F hs a w->Q (.panic [{v:=.iface T v,recovered:=false}]) a w):GL O P eG (⟨b,.panic d,ty,pos,after,none⟩::rest) ks Q (Hd n D S F hs) m r:=by
 intro g a w e;refine fg ?_;unfold Xl;rw[BY<|by simp[Region.wanted]];refine⟨.inr rfl,?_⟩
 have c:(execOp a.eval ⟨b,.panic d,ty,pos,after,none⟩).run P w= .halt (.panic<|.iface T v) w:=by
  simp[execOp,Instr.panic,e.1.eval f,goPanic]
 rw[c];exact JB<|h g a w e
end
end
section
variable{K V α β:Type}{l l' l1:Q0 (K×V)}{es:So gw}{p:K1 Nat}{w:By}{b γ j c:Nat}{xs:Q0 α}{T:So S1}{F F0 G:Fz}{k:K}{vv zv:UV}{H:HP}{x:α}
variable{O:K1 Nat}{μ:Md}
theorem ZP.at{p:K1 C3}{x:K1 Nat}{i:Nat}(h:ZP γ F p x)(e:x=some i):∃b,UB γ F i b/\p=some ⟨b,0,none⟩:=by subst e;exact h
theorem Z3.at{x:K1 Nat}{i:Nat}(h:Z3 γ F p x)(e:x=some i):∃b,UB γ F i b/\p=some b:=by subst e;exact h
theorem Zd{a:Q0 α}{y:α}(h:xs[j]? =some x)(e:a=xs.set j y):a[j]? =some y:=by
 subst e;rw[mu];simp[(DO.1 h).1]
section
variable{α:Type}{γ T j b:Nat}{c:Uo α}{xs:Q0 α}{x:α}{F F0:Fz}{w:By}{H:HP}
theorem SH.aZ(h:SH w F (star (ZD γ (Uy T c) F0 xs) H))(d:UB γ F j b)(e:xs[j]? =some x):∃vs:Q0 UV,(∀a,F0<=a->c a x vs)/\w.heap[b]? =some (.cells vs.toArray T):=by
 obtain⟨m,⟨n,_,_,f,_,⟨vs,g,i⟩,_⟩,k⟩:=h.sw d e;exact⟨vs,g,k.rJ<|f _ _ i⟩
theorem SH.rB{o:Nat}{us:Q0 UV}{x' :α}(h:SH w F (star (ZD γ (Uy T c) F0 xs) H))(r:UB γ F j b)(g:xs[j]? =some x)(e:F0<=G)(s:∀a vs,G<=a->c a x vs->c a x' (Kp vs o us)):∃vs:Q0 UV,(∀a,F0<=a->c a x vs)/\w.heap[b]? =some (.cells vs.toArray T)/\SH (Dec.put w b<|.cells (Kp vs o us).toArray T) F (star (ZD γ (Uy T c) G<|xs.set j x') H):=by
 obtain⟨m,⟨t,u,d,i,v,⟨vs,n,q⟩,y⟩,k⟩:=h.sw r g;have hs:SH w F (star (pt b<|.cells vs.toArray T)<|star (hole γ (Uy T c) F0 j b xs) H):=⟨m,⟨t,u,d,i,v,q,y⟩,k⟩;refine⟨vs,n,k.rJ<|i _ _ q,?_⟩;have z:=hs.put (o' :=.cells (Kp vs o us).toArray T);refine SH.aV (F0:=F0) (b:=b) Uy.stays e (z.mono λm f=>QP (λm f=>⟨Kp vs o us,λa le=>s a vs le<|n a<|Fz.le_trans e le,f⟩) f) (DO.1 g).1
end
section
variable{β:Type}{P:B3}{eG:So Nm}{rest:Q0 Nm}{ks:Q0 Kt}{Q:hP->Act->By->Prop}{m:K1 β}{r:β}
variable{n:Nat}{D:Q0 AC}{S:Q0 (Nat×UV)}{F F0:Fz}{hs:Q0 HP}
variable{d:Nat}{d' :K1 Nat}{ty t e:S1}{pos:String}{after:So lY}{ox oy oz:L5}{v:UV}
theorem GG.cB{a:C3}{p:K1 C3}(f:p=some a)(g:Nat.blt d n=true)(h:QQ S ox=some (.pointer p))(k:GL μ P eG rest ks Q (Hd n D ((d,.pointer<|some a)::S) F hs) m r):GL μ P eG (⟨some d,.nilCheck ox,ty,pos,after,none⟩::rest) ks Q (Hd n D S F hs) m r:=by
 subst f;exact GG.nilCheck g h k
section
variable{α:Type}{γ T j b o:Nat}{c:Uo α}{xs:Q0 α}{x:α}
theorem GG.cG{Φ:UV->Prop}(i:Nat)(hi:hs[i]? =some (ZD γ (Uy T c) F0 xs))(g:F0<=F)(q:UB γ F j b)(h:xs[j]? =some x)(s:Nat.blt d n=true)(u:∀w,(isAgg t).run P w= .ok false w)
  (y:QQ S ox=some (.pointer<|some ⟨b,o,none⟩)) (z:∀vs,c F x vs->∃v,vs[o]? =some v/\Φ v) (k:∀v,Φ v->GL μ P eG rest ks Q (Hd n D ((d,v)::S) F hs) m r):GL μ P eG (⟨some d,.load t ox,ty,pos,after,none⟩::rest) ks Q (Hd n D S F hs) m r:=by
 refine GG.sg rfl rfl λA a w f=> ?_;obtain⟨vs,B,C⟩:=(f.2.pull hi).aZ q h;obtain⟨v,E,hΦ⟩:=z _<|B F g;refine⟨v,?_,k v hΦ A _ _ ⟨f.1.put s _,f.2⟩⟩;simp[execOp,f.1.eval y,BE u (by rw[cell_of_heap C];exact E)]
theorem GG.sT{z:Nat}{Φ:Q0 UV->Prop}(i:Nat)(hi:hs[i]? =some (ZD γ (Uy T c) F0 xs))(g:F0<=F)(s:UB γ F j b)(h:xs[j]? =some x)(u:Nat.blt d n=true)(y:∀w,(isAgg t).run P w= .ok true w)(A:∀w,(sizeOf t).run P w= .ok z w)
  (B:QQ S ox=some (.pointer<|some ⟨b,o,none⟩)) (C:∀vs,c F x vs->∃us,(vs.drop o).take z=us/\us.length=z/\Φ us) (k:∀us,Φ us->GL μ P eG rest ks Q (Hd n D ((d,.agg us.toArray)::S) F hs) m r):GL μ P eG (⟨some d,.load t ox,ty,pos,after,none⟩::rest) ks Q (Hd n D S F hs) m r:=by
 refine GG.sg rfl rfl λE a w f=> ?_;obtain⟨vs,I,L⟩:=(f.2.pull hi).aZ s h;obtain⟨us,M,q,hΦ⟩:=C _<|I F g;refine⟨.agg us.toArray,?_,k us hΦ E _ _ ⟨f.1.put u _,f.2⟩⟩;simp[execOp,f.1.eval B,Sy y A L M q]
theorem GG.cY{N g:Nat}{us:Q0 UV}{x' :α}{xs' :Q0 α}(i:Nat)(hi:hs[i]? =some (ZD γ (Uy T c) F0 xs))(h:F0<=G)(y:G<=F)(C:∀q vs,c q x vs->vs.length=N)(E:∀w,(sizeOf t).run P w= .ok g w)(I:UB γ F j b)(z:xs[j]? =some x)
  (L:QQ S ox=some (.pointer<|some ⟨b,o,none⟩)) (M:QQ S oy=some v) (R:v.cells=us.toArray) (s:us.length=g) (W:us.all Value.oneCell' =true) (A:Nat.ble (o+g) N=true)
  (X:∀q vs,G<=q->c q x vs->c q x' (Kp vs o us)) (he:xs' =xs.set j x')
  (k:GL O P eG rest ks Q (Hd n D S F<|hs.set i<|ZD γ (Uy T c) G xs') m r):GL O P eG (⟨none,.store t ox oy,ty,pos,after,none⟩::rest) ks Q (Hd n D S F hs) m r:=by
 subst he;refine GG.ab rfl (.inr rfl) λY a w u=> ?_;obtain⟨vs,Z,g2,g3⟩:=(u.2.pull hi).rB (o:=o) (us:=us) I z h X;have hl:=C _ _<|Z F<|Fz.le_trans h y;have B:=A4 A;refine⟨_,?_,k Y _ _ ⟨u.1.cz _,SH.push hi g3⟩⟩;have f:=XO (P:=P) (o:=o) (i:=0) g2 eB W;simp only[iD] at f
 simp only[execOp,Instr.storeAt,u.1.eval L,u.1.eval M,Instr.sureAddr,storeVar,j3,E,Result.andThen,R];simp[s,f]
end
section
variable{K V:Type}[BEq K][LawfulBEq K]
theorem A9:∀{l:Q0 (K×V)} {k:K} {v:V},Qc l k=some v->(k,v)∈l
 | [],_,_,h=>by cases h
 | x::l,k,v,h=>by
  simp only[Qc] at h
  split at h
  ·rename_i a;simp only[W1] at h
   have:=eg a;subst this;subst h;simp
  ·exact L3 _<|A9 h
theorem Dm:∀{l:Q0 (K×V)} {k:K} {v:V},(l.map Prod.fst).Nodup->(k,v)∈l->Qc l k=some v
 | [],_,_,_,h=>by cases h
 | x::l,k,v,a,h=>by
  simp only[E4,ma] at a
  simp only[Qc];rcases TO.1 h with h | h
  ·subst h;simp
  ·have g:(k==x.1)=false:=by
    cases i:k==x.1 with
    | false=>rfl
    | true=>exact absurd (IR (f:=Prod.fst) h) (by have:=eg i;rw[this];exact a.1)
   rw[g];exact Dm a.2 h
theorem WC{l l' :Q0 (K×V)}{k:K}(a:l'.Perm l)(g:(l.map Prod.fst).Nodup):Qc l' k=Qc l k:=by
 have f:(l'.map Prod.fst).Nodup:=(a.map _).nodup_iff.2 g;cases h:Qc l k with
 | some v=>exact Dm f (a.mem_iff.2<|A9 h)
 | none=>
  cases h' :Qc l' k with
  | none=>rfl
  | some v=>rw[Dm g<|a.mem_iff.1<|A9 h'] at h;cases h
theorem Ei{l:Q0 (K×V)}{k:K}(h:k∉l.map Prod.fst):l.filter (λx=> !(k==x.1))=l:=
 mw.2 λx a=>by
  cases g:k==x.1 with
  | false=>rfl
  | true=>exact absurd (by have:=eg g;rw[this];exact IR (f:=Prod.fst) a) h
theorem Jv:∀{l:Q0 (K×V)} {k:K} {v:V},(l.map Prod.fst).Nodup->(Q5 l k v).Perm ((k,v)::l.filter (λx=> !(k==x.1)))
 | [],_,_,_=>.refl _
 | x::l,k,v,a=>by
  simp only[E4,ma] at a
  simp only[Q5,nt];cases f:k==x.1 with
  | true=>
   have:=eg f;simp only[B2,RK,W2,Bm];rw[Ei (by rw[this];exact a.1)]
  | false=>
   simp only[W2,Bm,k4,B2];exact((Jv a.2).cons x).trans<|.swap _ _ _
theorem JW{l:Q0 (K×V)}{k:K}{v:V}(a:(l.map Prod.fst).Nodup):((Q5 l k v).map Prod.fst).Nodup:=by
 rw[((Jv a).map Prod.fst).nodup_iff];simp only[E4,ma,rm,sf,not_exists,not_and,and_imp];refine⟨λx _ f e=> ?_,(a.sublist<|(qAG (l:=l)).map _)⟩;rw[e] at f;simp at f
theorem GV{l l' :Q0 (K×V)}{k:K}{v:V}(a:l'.Perm l)(f:(l.map Prod.fst).Nodup):(Q5 l' k v).Perm (Q5 l k v):=(Jv<|(a.map _).nodup_iff.2 f).trans (((a.filter _).cons _).trans (Jv f).symm)
def YA[BEq K]:Q0 (K×V)->K->Q0 (K×V)
 | [],_=>[]
 | x::l,k=>if k==x.1 then l else x::YA l k
theorem XD:∀{l:Q0 (K×V)} {k:K},(l.map Prod.fst).Nodup->YA l k=l.filter (λx=> !(k==x.1))
 | [],_,_=>rfl
 | x::l,k,a=>by
  simp only[E4,ma] at a
  simp only[YA,nt];cases f:k==x.1 with
  | true=>
   have:=eg f;simp only[B2,RK,W2,Bm];rw[Ei (by rw[this];exact a.1)]
  | false=>
   simp only[W2,Bm,k4,B2];rw[XD a.2]
theorem Bv{l:Q0 (K×V)}{k:K}(a:(l.map Prod.fst).Nodup):((YA l k).map Prod.fst).Nodup:=by
 rw[XD a];exact a.sublist<|(qAG (l:=l)).map _
theorem SF{l l' :Q0 (K×V)}{k:K}(a:l'.Perm l)(f:(l.map Prod.fst).Nodup):(YA l' k).Perm (YA l k):=by
 rw[XD f,XD<|(a.map _).nodup_iff.2 f];exact a.filter _
end
def QZ(ck:K->UV)(rv:Fz->V->UV->Prop)(F:Fz)(b:Nat)(l:Q0 (K×V)):HP:=λm=>∃l' :Q0 (K×V),l'.Perm l/\(l.map Prod.fst).Nodup/\Gm ck rv F b l' m
section
variable{K V:Type}{ck:K->UV}{rv:Fz->V->UV->Prop}{F F' F0:Fz}{b:Nat}{l:Q0 (K×V)}
theorem Jn{m:Mem}(le:F<=F')(h:QZ ck rv F b l m):QZ ck rv F' b l m:=let⟨l',a,f,g⟩:=h;⟨l',a,f,yA le g⟩
theorem Hf:HC (α:=Q0<|K×V) (QZ ck rv):=λ_ _ _ _ _ le h=>Jn le h
theorem Wz(h:SH w F (star (QZ ck rv F0 b l) H)):∃(es:So gw) (clock:Nat) (l' :Q0 (K×V)),l'.Perm l/\(l.map Prod.fst).Nodup/\w.heap[b]? =some (.map es clock)/\Uv ck rv F0 es.toList l'/\SH w F (star (pt b<|.map es clock) H)/\Ya es.toList clock:=by
 obtain⟨m,⟨a,f,d,g,i,⟨l',o,q,s⟩,u⟩,k⟩:=h;obtain⟨es,c,y,z,A,B⟩:=Oe (ck:=ck) (rv:=rv) (F0:=F0) (b:=b) (l:=l') ⟨m,⟨a,f,d,g,i,s,u⟩,k⟩;exact⟨es,c,l',o,q,y,z,A,B⟩
end
section
variable{K V:Type}{ck:K->UV}{rv:Fz->V->UV->Prop}{γ j b:Nat}{xs:Q0 (Q0<|K×V)}{l l' :Q0 (K×V)}{key:K}{val z:V}{kt vt:S1}
theorem SH.ae(h:SH w F (star (ZD γ (QZ ck rv) F0 xs) H))(g:UB γ F j b)(a:xs[j]? =some l):∃(es:So gw) (clock:Nat) (l' :Q0 (K×V)),l'.Perm l/\(l.map Prod.fst).Nodup/\w.heap[b]? =some (.map es clock)/\Uv ck rv F0 es.toList l'/\Ya es.toList clock:=by
 obtain⟨es,c,l',i,f,o,q,_,s⟩:=Wz<|h.sw g a;exact⟨es,c,l',i,f,o,q,s⟩
theorem SH.pd(h:SH w F (star (ZD γ (QZ ck rv) F0 xs) H))(i:UB γ F j b)(a:xs[j]? =some l)(f:F0<=G){clock:Nat}{l1:Q0 (K×V)}(o:l1.Perm l')(q:(l'.map Prod.fst).Nodup)(s:Uv ck rv G es.toList l1)(u:Ya es.toList clock):SH (Dec.put w b<|.map es clock) F (star (ZD γ (QZ ck rv) G<|xs.set j l') H):=by
 obtain⟨_,_,_,_,_,_,_,y,_⟩:=Wz<|h.sw i a;have A:=y.put (o' :=.map es clock);exact SH.aV (F0:=F0) (b:=b) Hf f (A.mono λm g=>QP (λm g=>⟨l1,o,q,es,clock,g,s,u⟩) g) (DO.1 a).1
theorem SH.tu(h:SH w F (star (QZ ck rv F0 b l) H)){clock:Nat}{l1:Q0 (K×V)}(f:l1.Perm l')(g:(l'.map Prod.fst).Nodup)(i:Uv ck rv G es.toList l1)(o:Ya es.toList clock):SH (Dec.put w b<|.map es clock) F (star (QZ ck rv G b l') H):=by
 obtain⟨_,_,_,_,_,_,_,q,_⟩:=Wz h;exact(q.put (o' :=.map es clock)).mono λm a=>QP (λm a=>⟨l1,f,g,es,clock,a,i,o⟩) a
theorem GG.sC(ck:K->UV)(rv:Fz->V->UV->Prop)(h:Nat.blt d n=true)(k:∀b,GL O P eG rest ks Q (Hd n D ((d,.map<|some b)::S) F<|QZ ck rv F b []::hs) m r):GL O P eG (⟨some d,.makeMap t none,ty,pos,after,none⟩::rest) ks Q (Hd n D S F hs) m r:=GG.makeMap ck rv h λb=>λf a w g=>k b f a w ⟨g.1,g.2.mono λ_m f=>QP (λ_m f=>⟨[],.refl _,iZ,f⟩) f⟩
theorem GG.rL(i:Nat)(hi:hs[i]? =some (ZD γ (QZ ck rv) F0 xs))(f:UB γ F j b)(q:p=some b)(g:xs[j]? =some l)(s:Nat.blt d n=true)(u:T[0]? =some t)(y:P.underlying t=some (.map kt vt))(A:QQ S ox=some (.map p))
  (k:GL μ P eG rest ks Q (Hd n D ((d,.int .i64 l.length)::S) F hs) m r):GL μ P eG (⟨some d,.call ⟨.builtin .len,#[ox],T⟩,ty,pos,after,none⟩::rest) ks Q (Hd n D S F hs) m r:=by
 subst q
 exact GG.val s (λa w o=>by
  obtain⟨es,c,l',h,_,f,B,_⟩:=(o.2.pull hi).ae f g;have:es.size=l.length:=by rw[<-h.length_eq,<-B.len];simp
  simp[execOp,resolve,invoke,builtin,Builtin.len_,o.1.eval A,u,YG y,goInt,Yb f,this]) k
variable[BEq K][LawfulBEq K]
omit [LawfulBEq K] in
theorem Fh(q:w.heap[b]? =some (.map es c))(B:Uv ck rv F0 es.toList l')(g:F0<=F)(s:P.underlying t=some (.map kt vt))(ok:Xj P kt ck)(h:∀w,(zeroValue vt).run P w= .ok zv w)(C:rv F z zv)(f:Bool):∃v,rv F ((Qc l' key).getD z) v/\(Instr.lookup t (.map<|some b) (ck key) f).run P w= .ok (if f then .tuple #[v,.bool (Qc l' key).isSome] else v) w:=by
 obtain⟨kd,u,a⟩:=ok.und;rcases B.find (k:=key) a ok.eq 0 with⟨i,y,_⟩ | ⟨j,E,M,i,y,A,I,L,_⟩
 ·have o:=run_findKey (w:=w) u y;refine⟨zv,by rw[i];exact C,?_⟩;cases f<;>simp[Instr.lookup,YG s,Yb q,ok.check,o,h,i]
 ·have o:=run_findKey (w:=w) u I;refine⟨E.val,by rw[A];exact L F g,?_⟩;cases f<;>simp[Instr.lookup,YG s,Yb q,ok.check,o,A]
theorem GG.sc(i:Nat)(hi:hs[i]? =some (ZD γ (QZ ck rv) F0 xs))(h:F0<=F)(A:UB γ F j b)(B:p=some b)(o:xs[j]? =some l)(C:Nat.blt d n=true)(E:P.underlying t=some (.map kt vt))(ok:Xj P kt ck)(q:∀w,(zeroValue vt).run P w= .ok zv w)(I:rv F z zv)(L:QQ S ox=some (.map p))(M:QQ S oy=some (ck key))
  (k:∀v,rv F ((Qc l key).getD z) v->GL μ P eG rest ks Q (Hd n D ((d,v)::S) F hs) m r):GL μ P eG (⟨some d,.lookup t ox oy false,ty,pos,after,none⟩::rest) ks Q (Hd n D S F hs) m r:=by
 subst B;refine GG.sg rfl rfl λN a w f=> ?_;obtain⟨es,c,l',s,R,u,W,_⟩:=(f.2.pull hi).ae A o;obtain⟨v,y,g⟩:=Fh (key:=key) u W h E ok q I false;rw[WC s R] at y
 refine⟨v,?_,k v y N _ _ ⟨f.1.put C _,f.2⟩⟩;simp[execOp,f.1.eval L,f.1.eval M,g]
theorem GG.pe(i:Nat)(hi:hs[i]? =some (ZD γ (QZ ck rv) F0 xs))(h:F0<=F)(A:UB γ F j b)(B:p=some b)(o:xs[j]? =some l)(C:Nat.blt d n=true)(E:P.underlying t=some (.map kt vt))(ok:Xj P kt ck)(q:∀w,(zeroValue vt).run P w= .ok zv w)(I:rv F z zv)(L:QQ S ox=some (.map p))(M:QQ S oy=some (ck key))
  (k:∀v,rv F ((Qc l key).getD z) v->GL μ P eG rest ks Q (Hd n D ((d,.tuple #[v,.bool (Qc l key).isSome])::S) F hs) m r):GL μ P eG (⟨some d,.lookup t ox oy true,ty,pos,after,none⟩::rest) ks Q (Hd n D S F hs) m r:=by
 subst B;refine GG.sg rfl rfl λN a w g=> ?_;obtain⟨es,c,l',s,R,u,W,_⟩:=(g.2.pull hi).ae A o;obtain⟨v,y,f⟩:=Fh (key:=key) u W h E ok q I true;rw[WC s R] at y f
 refine⟨_,?_,k v y N _ _ ⟨g.1.put C _,g.2⟩⟩;simp[execOp,g.1.eval L,g.1.eval M,f]
omit [LawfulBEq K] in
theorem GK{l1:Q0 (K×V)}(o:w.heap[b]? =some (.map es c))(M:Uv ck rv F es.toList l1)(h:Ya es.toList c)(A:P.underlying t=some (.map kt vt))(ok:Xj P kt ck)(B:∀C,F<=C->rv C val vv):∃a c',(Instr.mapUpdate t (.map<|some b) (ck key) vv).run P w= .ok () (Dec.put w b<|.map a c')/\Uv ck rv F a.toList (Q5 l1 key val)/\Ya a.toList c' :=by
 obtain⟨kd,E,g⟩:=ok.und;rcases M.find (k:=key) g ok.eq 0 with⟨I,s,L⟩ | ⟨u,N,X,I,s,L,R,Y,W⟩
 ·refine⟨es.push {key:=ck key,val:=vv,born:=c},c+1,?_,by simpa using L val {key:=ck key,val:=vv,born:=c} rfl B,by simpa using h.push⟩;have q:=run_findKey (w:=w) E s;simp[Instr.mapUpdate,YG A,Yb o,ok.check,q,Fg o]
 ·refine⟨es.modify u λe=>{e with key:=ck key,val:=vv},c,?_,by rw[qAJ];exact W val (λe=>{e with key:=ck key,val:=vv}) rfl B,by rw[qAJ];exact h.modify (j:=u) (f:=λe=>{e with key:=ck key,val:=vv}) λ_=>rfl⟩;have q:=run_findKey (w:=w) E R;rw[dO] at q
  have i:es[u]? =some N:=by simpa using I
  have y:=ok.same key;simp[Instr.mapUpdate,YG A,Yb o,ok.check,q,Fg o,i,s,Instr.keyThatStays,y]
theorem GG.sb{xs' :Q0 (Q0<|K×V)}(i:Nat)(hi:hs[i]? =some (ZD γ (QZ ck rv) F0 xs))(g:F0<=F)(y:UB γ F j b)(C:p=some b)(h:xs[j]? =some l)(E:P.underlying t=some (.map kt vt))(ok:Xj P kt ck)(I:QQ S ox=some (.map p))(L:QQ S oy=some (ck key))(M:QQ S oz=some vv)(N:∀A,F<=A->rv A val vv)(he:xs' =xs.set j (Q5 l key val))
  (k:GL O P eG rest ks Q (Hd n D S F<|hs.set i<|ZD γ (QZ ck rv) F xs') m r):GL O P eG (⟨none,.mapUpdate t ox oy oz,ty,pos,after,none⟩::rest) ks Q (Hd n D S F hs) m r:=by
 subst C;subst he;refine GG.ab rfl (.inr rfl) λR a w f=> ?_;obtain⟨es,c,l1,q,B,s,W,u⟩:=(f.2.pull hi).ae y h;obtain⟨X,c',o,Y,Z⟩:=GK (key:=key) (val:=val) s (W.up g) u E ok N;refine⟨_,?_,k R _ _ ⟨f.1.cz _,SH.push hi<|(f.2.pull hi).pd y h g (GV q B) (JW B) Y Z⟩⟩;simp[execOp,f.1.eval I,f.1.eval L,f.1.eval M,o]
theorem GG.sP(i:Nat)(hi:hs[i]? =some (QZ ck rv F0 b l))(h:F0<=F)(A:P.underlying t=some (.map kt vt))(ok:Xj P kt ck)(B:QQ S ox=some (.map<|some b))(C:QQ S oy=some (ck key))(E:QQ S oz=some vv)(I:∀u,F<=u->rv u val vv)(he:l' =Q5 l key val)
  (k:GL O P eG rest ks Q (Hd n D S F<|hs.set i<|QZ ck rv F b l') m r):GL O P eG (⟨none,.mapUpdate t ox oy oz,ty,pos,after,none⟩::rest) ks Q (Hd n D S F hs) m r:=by
 subst he;refine GG.ab rfl (.inr rfl) λL a w f=> ?_;obtain⟨es,c,l1,o,y,q,M,_,s⟩:=Wz<|f.2.pull hi;obtain⟨N,c',g,R,W⟩:=GK (key:=key) (val:=val) q (M.up h) s A ok I;refine⟨_,?_,k L _ _ ⟨f.1.cz _,SH.push hi<|(f.2.pull hi).tu (GV o y) (JW y) R W⟩⟩;simp[execOp,f.1.eval B,f.1.eval C,f.1.eval E,g]
theorem GG.cU(i:Nat)(hi:hs[i]? =some (QZ ck rv F0 b l))(h:F0<=F)(A:P.underlying t=some (.map kt vt))(ok:Xj P kt ck)(B:QQ S ox=some (.map<|some b))(C:QQ S oy=some (ck key))(E:QQ S oz=some vv)(I:∀u,F<=u->rv u val vv)(he:l' =Q5 l key val)
  (k:GL O P eG rest ks Q (Hd n D S F<|hs.set i<|QZ ck rv F b l') m r):GL O P eG (⟨none,.insert t ox oy oz,ty,pos,after,none⟩::rest) ks Q (Hd n D S F hs) m r:=by
 subst he;refine GG.ab rfl (.inr rfl) λL a w f=> ?_;obtain⟨es,c,l1,o,y,q,M,_,s⟩:=Wz<|f.2.pull hi;obtain⟨N,c',g,R,W⟩:=GK (key:=key) (val:=val) q (M.up h) s A ok I;refine⟨_,?_,k L _ _ ⟨f.1.cz _,SH.push hi<|(f.2.pull hi).tu (GV o y) (JW y) R W⟩⟩;simp[execOp,f.1.eval B,f.1.eval C,f.1.eval E,g]
omit [LawfulBEq K] in
theorem Uv.del{kd:oh}{k:K}(h:∀a b,Instr.sameNow kd (ck a) (ck b)=some (a==b)):∀{es:Q0 gw} {l:Q0 (K×V)} (g:Nat),Uv ck rv F es l->
   (Instr.findNow kd (ck k) es g=some none/\YA l k=l)∨
   (∃j e,Instr.findNow kd (ck k) es g=some (some (g+j,e))/\j < es.length/\Uv ck rv F (es.eraseIdx j) (YA l k))
 | [],[],_,_=>.inl ⟨rfl,rfl⟩
 | e::es,x::l,g,⟨i,y,u⟩=>by
  by_cases o:(k==x.1)=true
  ·right;refine⟨0,e.val,by simp[Instr.findNow,i,h,o],by simp,?_⟩;simp only[YA,o,B2,iq];exact u
  ·have f:(k==x.1)=false:=by simpa using o
   rcases Uv.del (k:=k) h (g+1) u with⟨q,s⟩ | ⟨j,A,q,s,B⟩
   ·left;exact⟨by simp[Instr.findNow,i,h,f,q],by simp[YA,f,s]⟩
   ·right;refine⟨j+1,A,by simp[Instr.findNow,i,h,f,q];omega,by simpa using s,?_⟩;simp only[YA,f,W2,Bm,lV];exact⟨i,y,B⟩
omit [LawfulBEq K] in
theorem za{l1:Q0 (K×V)}(h:w.heap[b]? =some (.map es c))(u:Uv ck rv F es.toList l1)(g:Ya es.toList c)(y:T[0]? =some t)(A:P.underlying t=some (.map kt vt))(ok:Xj P kt ck):∃a:So gw,(Builtin.delete_ T ty #[.map<|some b,ck key]).run P w= .ok (.tuple #[]) (Dec.put w b<|.map a c)/\Uv ck rv F a.toList (YA l1 key)/\Ya a.toList c:=by
 obtain⟨kd,B,f⟩:=ok.und;rcases u.del (k:=key) f 0 with⟨o,q⟩ | ⟨s,I,o,q,E⟩
 ·have i:=run_findKey (w:=w) B o;refine⟨es,?_,by rw[q];exact u,g⟩;simp[Builtin.delete_,y,YG A,Yb h,ok.check,i,Fg h]
 ·have C:s < es.size:=by simpa using q
  have i:=run_findKey (w:=w) B o;rw[dO] at i
  refine⟨es.eraseIdxIfInBounds s,?_,by simpa[Array.eraseIdxIfInBounds,C] using E,by simpa[Array.eraseIdxIfInBounds,C] using g.erase (j:=s)⟩;simp[Builtin.delete_,y,YG A,Yb h,ok.check,i,Fg h]
theorem GG.rT{xs' :Q0 (Q0<|K×V)}(i:Nat)(hi:hs[i]? =some (ZD γ (QZ ck rv) F0 xs))(u:UB γ F j b)(A:p=some b)(g:xs[j]? =some l)(B:∀e,d' =some e->Nat.blt e n=true)(C:T[0]? =some t)(E:P.underlying t=some (.map kt vt))(ok:Xj P kt ck)(I:QQ S ox=some (.map p))(L:QQ S oy=some (ck key))(he:xs' =xs.set j (YA l key))
  (k:GL O P eG rest ks Q (Hd n D (match d' with | some e=>(e,.tuple #[])::S | none=>S) F<|hs.set i<|ZD γ (QZ ck rv) F0 xs') m r):GL O P eG (⟨d',.call ⟨.builtin .delete,#[ox,oy],T⟩,ty,pos,after,none⟩::rest) ks Q (Hd n D S F hs) m r:=by
 subst A;subst he;refine GG.step rfl (.inr rfl) λM a w f=> ?_;obtain⟨es,c,l1,o,y,q,N,s⟩:=(f.2.pull hi).ae u g;obtain⟨R,h,W,X⟩:=za (key:=key) (ty:=ty) q N s C E ok;refine⟨.tuple #[],_,?_,k M _ _ ⟨?_,SH.push hi<|(f.2.pull hi).pd u g (Fz.le_refl _) (SF o y) (Bv y) W X⟩⟩
 ·simp[execOp,resolve,invoke,builtin,f.1.eval I,f.1.eval L,h]
 ·cases d' with
  | none=>exact f.1.cz _
  | some e=>exact f.1.put (B e rfl) _
end
end
section
variable{β:Type}{X:Act->By->Prop}{m:K1 β}{r:β}{n:Nat}{D:Q0 AC}{S:Q0 (Nat×UV)}{F F0:Fz}{hs:Q0 HP}
variable{α:Type}{γ:Nat}{C:Fz->Nat->α->HP}{xs xs' :Q0 α}{b:Nat}{x:α}
theorem GG.sU{g:Gp}{p:HP}(k i:Nat)(h:hs[k]? =some p)(hi:(hs.eraseIdx k)[i]? =some (ZD γ C F0 xs))(o:HC C)(le:F0<=F)(q:∀d m,F<=d->p m->C d b x m)(he:xs' =xs++[x])
  (K:∀d,F<=d->UB γ d xs.length b->GG g (Hd n D S d<|(hs.eraseIdx k).set i<|ZD γ C d xs') m r):GG g (Hd n D S F hs) m r:=by
 exact λe a w f=>by
  subst he;have s:SH w F (star p<|star (ZD γ C F0 xs)<|Qh<|(hs.eraseIdx k).eraseIdx i):=(f.2.pull h).mono λm e=>QR (λ_=>Vi hi) e;obtain⟨d,l,t,u⟩:=SH.rn o le s q;exact K d l t e a w ⟨f.1,SH.push hi u⟩
theorem GG.tF{g:Gp}(C:Fz->Nat->α->HP)(i:Nat)(hi:hs[i]? =some (yQ γ []))(K:GG g (Hd n D S F<|hs.set i<|ZD γ C F []) m r):GG g (Hd n D S F hs) m r:=by
 exact λd a w f=>
  K d a w ⟨f.1,SH.push hi<|(f.2.pull hi).mono λm d=>QP (λm d=>⟨[],rfl,m,λ_=>none,λ_=>.inr rfl,Mem.sub.refl _,λ_ _ e=>by simp at e,d,trivial⟩) d⟩
theorem GG.sa{g:Gp}(K:∀γ d,F<=d->GG g (Hd n D S d<|yQ γ []::hs) m r):GG g (Hd n D S F hs) m r:=by
 exact λf a w e=>by
  obtain⟨le,h⟩:=e.2.sa;exact K _ _ le f a w ⟨e.1,h⟩
end
section
variable{β σ γ:Type}{A:Act->By->Prop}
theorem Q7.sy{I:σ->Act->By->Prop}{Dn:γ->hP->Act->By->Prop}{b:γ}{d:UQ σ γ}{c:Q0 PanicEntry}(h:∀a w,A a w->Dn b (.panic c) a w):some (UQ.done b)=some d->∀a w,A a w->Q7 I Dn d (.panic c) a w:=λe a w f=>by
 simp only[W1] at e;subst e;exact⟨by simp,h a w f⟩
end
end
section
variable{α β ε G ι:Type}{ρ:α->Fz->UV->Prop}{eb vs as:Q0 UV}{f:Rw}{os:Q0 L5}{Hs':α->Fz->UV->Q0 HP}{g:α->K1 β}{of:L5}{e:K1 (Out ε α)}{Hs hs:Q0 HP}{Q:hP->Act->By->Prop}{S:Q0 (Nat×UV)}{P:B3}{gp:ε->K1 β}{p:K1 C3}{F F':Fz}{w:By}{m:K1 β}{γ n b b' i j:Nat}{ec:ε->UV}{ks:Q0 Kt}{after:So lY}{D:Q0 AC}{eG:So Nm}{rest:Q0 Nm}{T:So S1}{x:K1 Nat}{em:K1 α}{fn:lX}{pos:String}{xs:Q0 α}{ty t':S1}{c:Uo α}{r:β}
variable{O:K1 Nat}{μ:Md}
def Q4(e:K1 (Out ε α))(gp:ε->K1 β)(g:α->K1 β):K1 β:=match e with
 | none=>none
 | some (.ok x)=>g x
 | some (.pan q)=>gp q
def TX(P:B3)(ec:ε->UV)(F:Fz)(f:Rw)(k:Q0 UV×Q0 UV)(arg:ι->Fz->Q0 UV->Prop)(d:Fz->ι->Q0 HP)(ρ:β->Fz->UV->Prop)(a:Fz->ι->β->Q0 HP)(m:ι->K1 (Out ε β)):Prop:=(∀args w,(callFunc f args).run P w= .ok (.enter f args) w)/\∀F',F<=F'->∀x vs,arg x F' vs->Vq P ec f (k.1++vs++k.2).toArray F' (d F' x) (m x) ρ (λr h _=>a h x r)
theorem TX.mono{k:Q0 UV×Q0 UV}{arg:ι->Fz->Q0 UV->Prop}{d:Fz->ι->Q0 HP}{ρ:β->Fz->UV->Prop}{a:Fz->ι->β->Q0 HP}{m:ι->K1 (Out ε β)}(h:TX P ec F f k arg d ρ a m)(le:F<=F'):TX P ec F' f k arg d ρ a m:=⟨h.1,λG l=>h.2 G<|Fz.le_trans le l⟩
section
variable{ε β:Type}{P:B3}{ec:ε->UV}{eG:So Nm}{rest:Q0 Nm}{ks:Q0 Kt}{Q:hP->Act->By->Prop}{m:K1 β}{r:β}
variable{n:Nat}{D:Q0 AC}{S:Q0 (Nat×UV)}{F F0:Fz}{hs:Q0 HP}
variable{d:Nat}{ty t:S1}{pos:String}{after:So lY}{ox oy:L5}{T:So S1}
theorem GG.ry{A:Act->By->Prop}{args:So UV}{o:Nm}{e:K1 (Out ε α)}{g:α->K1 β}{gp:ε->K1 β}(is:Q0 Nat)(I:Nat.blt d n=true)(K:o.guard=none)(s:o.dst=some d)(z:He o.op=true)
  (L:∀a w,A a w->Hd n D S F hs a w/\(execOp a.eval o).run P w= .ok (.enter f args) w) (hi:YN is hs=Hs)
  (M:Vq P ec f args F Hs e ρ Hs') (k:∀x F' v,e=some (.ok x)->F<=F'->ρ x F' v->GL O P eG rest ks Q (Hd n D ((d,v)::S) F'<|Hs' x F' v++YF is hs) (g x) r)
  (N:∀q F',e=some (.pan q)->F<=F'->gp q=some r->∀a w,Hd n D S F' (YF is hs) a w->Q (.panic [{v:=ec q,recovered:=false}]) a w):GL O P eG (o::rest) ks Q A (Q4 e gp g) r:=by
 intro l a w B;obtain⟨C,u⟩:=L a w B;cases he:e with
 | none=>rw[he] at l;cases l
 | some y=>
  rw[he] at l
  have E:SH w F (star (Qh Hs)<|Qh<|YF is hs):=C.2.mono λm l=>by
   have:=UJ (ks:=is) l;rw[hi] at this;exact this
  refine fg ?_;unfold Xl;rw[BY<|by simp[Region.wanted,K]];refine⟨.inr z,?_⟩;rw[u];refine⟨λe=>(by rw[BS] at e;cases e),Ep.2<|(M y he w _ E).mono ?_⟩;rintro V w' ⟨F',le,h⟩;cases y with
  | ok x=>
   obtain⟨v,rfl,hρ,H⟩:=h;have R:=k x F' v he le hρ l _ _ ⟨C.1.put I v,H.mono λ_=>K7⟩;simp only[s];exact R
  | pan q=>
   obtain⟨rfl,H⟩:=h;exact JB<|N q F' he le l _ _ ⟨C.1,H⟩
theorem GG.cJ{e:K1 (Out ε α)}{g:α->K1 β}{gp:ε->K1 β}(is:Q0 Nat)
  (o:Nat.blt d n=true) (h:∀args w,(callFunc f args).run P w= .ok (.enter f args) w) (s:QQ S of=some (.func (.func f) #[] eb.toArray)) (u:Un S os=some vs) (has:vs++eb=as) (hi:YN is hs=Hs)
  (y:Vq P ec f as.toArray F Hs e ρ Hs') (k:∀x F' v,e=some (.ok x)->F<=F'->ρ x F' v->GL O P eG rest ks Q (Hd n D ((d,v)::S) F'<|Hs' x F' v++YF is hs) (g x) r)
  (z:∀q F',e=some (.pan q)->F<=F'->gp q=some r->∀a w,Hd n D S F' (YF is hs) a w->Q (.panic [{v:=ec q,recovered:=false}]) a w):GL O P eG (⟨some d,.call ⟨.value of,os.toArray,T⟩,ty,pos,after,none⟩::rest) ks Q (Hd n D S F hs) (Q4 e gp g) r:=by
 subst has;exact GG.ry is o rfl rfl rfl (λa w l=>⟨l,Wy l.1 h s u⟩) hi y k z
theorem jw{a:Act}{first:Q0 UV}(hs:Sl n D S a)(h:∀args w,(callFunc f args).run P w= .ok (.enter f args) w)
  (l:QQ S of=some (.func (.func f) first.toArray eb.toArray)) (o:Un S os=some vs) {k:K1 Tmp}:(execOp a.eval ⟨k,.call ⟨.value of,os.toArray,T⟩,ty,pos,after,none⟩).run P w= .ok (.enter f (first++vs++eb).toArray) w:=by
 have e:=HT hs o;simp[execOp,resolve,Deferred.ofValue,hs.eval l,e,invoke,h]
theorem GG.pz{s:Q0 UV×Q0 UV}{arg:ι->Fz->Q0 UV->Prop}{l:Fz->ι->Q0 HP}{h:Fz->ι->α->Q0 HP}{o:ι->K1 (Out ε α)}{x:ι}{g:α->K1 β}{gp:ε->K1 β}(is:Q0 Nat)
  (B:Nat.blt d n=true) (z:TX P ec F f s arg l ρ h o) (C:QQ S of=some (.func (.func f) s.1.toArray s.2.toArray)) (E:Un S os=some vs) (H:arg x F vs) (hi:YN is hs=Hs) (u:l F x=Hs)
  (k:∀y F' v,o x=some (.ok y)->F<=F'->ρ y F' v->GL O P eG rest ks Q (Hd n D ((d,v)::S) F'<|h F' x y++YF is hs) (g y) r)
  (I:∀q F',o x=some (.pan q)->F<=F'->gp q=some r->∀a w,Hd n D S F' (YF is hs) a w->Q (.panic [{v:=ec q,recovered:=false}]) a w):GL O P eG (⟨some d,.call ⟨.value of,os.toArray,T⟩,ty,pos,after,none⟩::rest) ks Q (Hd n D S F hs) (Q4 (o x) gp g) r:=by
 subst u;exact GG.ry is B rfl rfl rfl (λa w A=>⟨A,jw A.1 z.1 C E⟩) hi (z.2 F (Fz.le_refl F) x vs H) k I
theorem GG.tk{e:K1 (Out ε α)}{x:α}(he:e=some (.ok x))(is:Q0 Nat)
  (o:Nat.blt d n=true) (a:∀args w,(callFunc f args).run P w= .ok (.enter f args) w) (s:QQ S of=some (.func (.func f) #[] eb.toArray)) (u:Un S os=some vs) (has:vs++eb=as) (hi:YN is hs=Hs)
  (y:Vq P ec f as.toArray F Hs e ρ Hs') (k:∀F' v,F<=F'->ρ x F' v->GL O P eG rest ks Q (Hd n D ((d,v)::S) F'<|Hs' x F' v++YF is hs) m r):GL O P eG (⟨some d,.call ⟨.value of,os.toArray,T⟩,ty,pos,after,none⟩::rest) ks Q (Hd n D S F hs) m r:=by
 have h:=GG.cJ (O:=O) (P:=P) (ec:=ec) (eG:=eG) (rest:=rest) (ks:=ks) (Q:=Q) (r:=r) (n:=n) (D:=D) (S:=S) (F:=F) (hs:=hs) (d:=d) (ty:=ty) (pos:=pos) (after:=after) (T:=T) (g:=λ_=>m) (gp:=λ_=>(none:K1 β)) is o a s u has hi y
  (λx' F' v l le hρ=>by rw[he] at l;cases l;exact k F' v le hρ) (λq F' l _ z=>by cases z)
 rw[he] at h
 exact h
theorem GG.az{e:K1 (Out ε α)}{q:ε}(he:e=some (.pan q))(is:Q0 Nat)
  (o:Nat.blt d n=true) (l:∀args w,(callFunc f args).run P w= .ok (.enter f args) w) (s:QQ S of=some (.func (.func f) #[] eb.toArray)) (u:Un S os=some vs) (has:vs++eb=as) (hi:YN is hs=Hs)
  (y:Vq P ec f as.toArray F Hs e ρ Hs') (z:∀F',F<=F'->m=some r->∀a w,Hd n D S F' (YF is hs) a w->Q (.panic [{v:=ec q,recovered:=false}]) a w):GL O P eG (⟨some d,.call ⟨.value of,os.toArray,T⟩,ty,pos,after,none⟩::rest) ks Q (Hd n D S F hs) m r:=by
 have h:=GG.cJ (O:=O) (P:=P) (ec:=ec) (eG:=eG) (rest:=rest) (ks:=ks) (Q:=Q) (r:=r) (n:=n) (D:=D) (S:=S) (F:=F) (hs:=hs) (d:=d) (ty:=ty) (pos:=pos) (after:=after) (T:=T) (g:=λ_=>(none:K1 β)) (gp:=λ_=>m) is o l s u has hi y
  (λx' F' v k _ _=>by rw[he] at k;cases k) (λB F' k le A=>by rw[he] at k;cases k;exact z F' le A)
 rw[he] at h
 exact h
theorem GG.pY{h:Gp}{A:Act->By->Prop}{e:K1 (Out ε α)}{g:α->K1 β}{gp:ε->K1 β}(k:∀x,e=some (.ok x)->GG h A (g x) r)(l:∀q,e=some (.pan q)->GG h A (gp q) r):GG h A (Q4 e gp g) r:=by
 intro a;cases he:e with
 | none=>rw[he] at a;cases a
 | some o=>
  rw[he] at a
  cases o with
  | ok x=>exact k x he a
  | pan q=>exact l q he a
theorem BT{e:S1}(a:P.underlying t=some (.pointer e))(n:Nat):(Op.equalIn (n+1) t (.pointer p)<|.pointer none).run P w= .ok p.isNone w:=by
 cases p<;>simp[Op.equalIn,YG a]
theorem ZP.isNone(h:ZP γ F p x):p.isNone=x.isNone:=by
 cases x with
 | none=>simp[show p=none from h]
 | some i=>obtain⟨b,_,rfl⟩:=h;rfl
theorem GG.sB{e:S1}(h:ZP γ F p x)(o:Nat.blt d n=true)(q:P.underlying t=some (.pointer e))(s:QQ S ox=some (.pointer p))(u:QQ S oy=some (.pointer none))(k:GL μ P eG rest ks Q (Hd n D ((d,.bool x.isNone)::S) F hs) m r):GL μ P eG (⟨some d,.binOp .eql t ox oy t',ty,pos,after,none⟩::rest) ks Q (Hd n D S F hs) m r:=
 GG.val o (λa w l=>by
  have v:(Op.equal t (.pointer p)<|.pointer none).run P w= .ok p.isNone w:=BT q 9999;have y:P.eqGuardType P.depth t=false∨P.eqGuardType P.depth t=true:=by cases P.eqGuardType P.depth t<;>simp
  simp[execOp,l.1.eval s,l.1.eval u,eqGuard,binOp,v,h.isNone]) k
theorem GG.pO{e:S1}(h:ZP γ F p x)(o:Nat.blt d n=true)(q:P.underlying t=some (.pointer e))(s:QQ S ox=some (.pointer p))(u:QQ S oy=some (.pointer none))(k:GL μ P eG rest ks Q (Hd n D ((d,.bool<|!x.isNone)::S) F hs) m r):GL μ P eG (⟨some d,.binOp .neq t ox oy t',ty,pos,after,none⟩::rest) ks Q (Hd n D S F hs) m r:=
 GG.val o (λa w l=>by
  have v:(Op.equal t (.pointer p)<|.pointer none).run P w= .ok p.isNone w:=BT q 9999;have y:P.eqGuardType P.depth t=false∨P.eqGuardType P.depth t=true:=by cases P.eqGuardType P.depth t<;>simp
  simp[execOp,l.1.eval s,l.1.eval u,eqGuard,binOp,v,h.isNone]) k
theorem SH.ra{T:Nat}{x y:α}{H:HP}(h:SH w F (star (ZD γ (Uy T c) F0 xs) H))(A:UB γ F i b)(a:UB γ F j b')(B:xs[i]? =some x)(C:xs[j]? =some y)(l:i≠j):b≠b' :=by
 intro e;subst e;obtain⟨m,⟨m1,m2,d,E,s2,⟨bs,hl,m3,m4,d',I,t2,K,L⟩,hq⟩,k⟩:=h;obtain⟨_,e⟩:=k.gst γ _<|E _ _<|I _ _ K;simp only[Cell.gh.injEq] at e
 have M:bs[i]? =some b:=by rw[e];exact A.2
 have N:bs[j]? =some b:=by rw[e];exact a.2
 have v:=R6 (f:=Uy T c F0) M B;have z:=R6 (f:=Uy T c F0) N C;obtain⟨R,V,W,_,_,⟨vs,_,X⟩,Y⟩:=Vi v L;have o:i < (List.zipWith (Uy T c F0) bs xs).length:=(DO.1 v).1
 have q:∃k:Nat,((List.zipWith (Uy T c F0) bs xs).eraseIdx i)[k]? =some (Uy T c F0 b y):=by
  rcases Nat.lt_or_gt_of_ne l with o | s
  ·exact⟨j - 1,by rw[oW,B1 eB,show j - 1+1=j by omega];exact z⟩
  ·exact⟨j,by rw[oW,BY s];exact z⟩
 obtain⟨k',q⟩:=q;obtain⟨n3,n4,_,Z,_,⟨vs',_,u⟩,_⟩:=Vi q Y;have q1:R (.blk b)=some (.obj<|.cells vs.toArray T):=X;have q2:V (.blk b)=some (.obj<|.cells vs'.toArray T):=Z _ _ u;have:=W.c9 q1;rw[q2] at this;cases this
theorem fw{a:Act}{T N:Nat}{e:S1}{x y:α}{A:Nat}(s:P.underlying t=some (.pointer e))(u:∀w,(sizeOf e).run P w= .ok (N+1) w)(hi:hs[A]? =some (ZD γ (Uy T c) F0 xs))(o:UB γ F i b)(h:UB γ F j b')(v:xs[i]? =some x)(z:xs[j]? =some y)(q:Hd n D S F hs a w)(k:Nat):(Op.equalIn (k+1) t (.pointer<|some ⟨b,0,none⟩)<|.pointer<|some ⟨b',0,none⟩).run P w= .ok (i==j) w:=by
 by_cases l:i=j
 ·subst l;have:=o.inj h;subst this;simp[Op.equalIn,YG s,u,run_sameAddr_same]
 ·have B:=(q.2.pull hi).ra o h v z l;obtain⟨vs,_,C⟩:=(q.2.pull hi).aZ o v;obtain⟨vs',_,E⟩:=(q.2.pull hi).aZ h z;have hs:=run_sameAddr_other (P:=P) (w:=w) (a:=⟨b,0,none⟩) (b:=⟨b',0,none⟩) eF C E;simp[Op.equalIn,YG s,u,hs,l]
theorem GG.nH{s N:Nat}{e:S1}{x y:α}{q:K1 C3}(u:Nat)(hi:hs[u]? =some (ZD γ (Uy s c) F0 xs))(v:UB γ F i b)(z:p=some ⟨b,0,none⟩)(h:UB γ F j b')(l:q=some ⟨b',0,none⟩)(A:xs[i]? =some x)(B:xs[j]? =some y)(C:Nat.blt d n=true)(E:P.underlying t=some (.pointer e))(H:∀w,(sizeOf e).run P w= .ok (N+1) w)(I:QQ S ox=some (.pointer p))(K:QQ S oy=some (.pointer q))(k:GL μ P eG rest ks Q (Hd n D ((d,.bool<|i != j)::S) F hs) m r):GL μ P eG (⟨some d,.binOp .neq t ox oy t',ty,pos,after,none⟩::rest) ks Q (Hd n D S F hs) m r:=by
 subst z l
 exact GG.val C (λa w o=>by
  have l:(Op.equal t (.pointer<|some ⟨b,0,none⟩)<|.pointer<|some ⟨b',0,none⟩).run P w= .ok (i==j) w:=fw E H hi v h A B o 9999;simp[execOp,o.1.eval I,o.1.eval K,eqGuard,binOp,l,bne]) k
section
variable{K V:Type}[BEq K]{ck:K->UV}{rv:Fz->V->UV->Prop}{b:Nat}{l:Q0 (K×V)}{key:K}{kt vt:S1}
def Dk(ck:K->UV)(rv:Fz->V->UV->Prop)(F:Fz)(b:Nat)(l:Q0 (K×V)):Prop:=∃(es:So gw) (clock:Nat) (l' :Q0 (K×V)),l'.Perm l/\(l.map Prod.fst).Nodup/\F.mem b=some (.map es clock)/\Uv ck rv F es.toList l'
omit [BEq K] in
theorem Dk.mono(h:Dk ck rv F b l)(le:F<=F'):Dk ck rv F' b l:=let⟨es,c,l',k,a,o,q⟩:=h;⟨es,c,l',k,a,le.mem _ _ o,q.up le⟩
omit [BEq K] in
theorem GG.ak{g:Gp}(i:Nat)(hi:hs[i]? =some (QZ ck rv F0 b l))(le:F0<=F)(k:∀F',F<=F'->Dk ck rv F' b l->GG g (Hd n D S F'<|hs.eraseIdx i) m r):GG g (Hd n D S F hs) m r:=by
 exact λs a w o=>by
  obtain⟨es,c,l',u,h,_,v,y,_⟩:=Wz<|o.2.pull hi;obtain⟨q,z⟩:=y.freeze;exact k _ q ⟨es,c,l',u,h,Fz.cv F b _,(v.up le).up q⟩ s a w ⟨o.1,z⟩
theorem GG.rM[LawfulBEq K]{x:V}(h:Dk ck rv F b l)(s:Qc l key=some x)(B:Nat.blt d n=true)(C:P.underlying t=some (.map kt vt))(ok:Xj P kt ck)(E:QQ S ox=some (.map<|some b))(H:QQ S oy=some (ck key))
  (k:∀v,rv F x v->GL μ P eG rest ks Q (Hd n D ((d,v)::S) F hs) m r):GL μ P eG (⟨some d,.lookup t ox oy false,ty,pos,after,none⟩::rest) ks Q (Hd n D S F hs) m r:=by
 refine GG.sg rfl rfl λI a w q=> ?_;obtain⟨es,c,l',u,L,M,N⟩:=h;rw[<-WC u L] at s
 obtain⟨kd,R,o⟩:=ok.und;have y:=q.2.frozen M;rcases N.find (k:=key) o ok.eq 0 with⟨z,W,_⟩ | ⟨j,X,x1,z,W,A,Y,Z,_⟩
 ·rw[s] at z;cases z
 ·rw[s] at A;cases A
  have hf:=run_findKey (w:=w) R Y;refine⟨X.val,?_,k _ (Z F<|Fz.le_refl F) I _ _ ⟨q.1.put B _,q.2⟩⟩;simp[execOp,Instr.lookup,q.1.eval E,q.1.eval H,YG C,Yb y,ok.check,hf]
end
def fX(P:B3)(f:Rw)(args:So UV)(F:Fz)(m:K1 β)(ρ:G->β->Fz->UV->Prop)(Hs' :G->β->Fz->Q0 HP):Prop:=∀r,m=some r->∀w R,SH w F R->Calls P f args w (λe w' =>∃U F' v,F<=F'/\e= .returned v/\ρ U r F' v/\SH w' F' (star (Qh<|Hs' U r F') R))
theorem GG.pE{G α:Type}{f:Rw}{eb as vs:Q0 UV}{of:L5}{os:Q0 L5}{em:K1 α}{ρ:G->α->Fz->UV->Prop}{Hs' :G->α->Fz->Q0 HP}{g:α->K1 β}
  (q:Nat.blt d n=true) (h:∀args w,(callFunc f args).run P w= .ok (.enter f args) w) (s:QQ S of=some (.func (.func f) #[] eb.toArray)) (u:Un S os=some vs) (has:vs++eb=as)
  (z:fX P f as.toArray F em ρ Hs') (k:∀x U F' v,em=some x->F<=F'->ρ U x F' v->GL O P eG rest ks Q (Hd n D ((d,v)::S) F'<|Hs' U x F' ++hs) (g x) r):GL O P eG (⟨some d,.call ⟨.value of,os.toArray,T⟩,ty,pos,after,none⟩::rest) ks Q (Hd n D S F hs) (em.bind g) r:=
 GG.sq rfl (.inr rfl) λl a w o=>by
  subst has;refine⟨Wy o.1 h s u,?_⟩;cases he:em with
  | none=>rw[he] at l;cases l
  | some y=>
   rw[he] at l
   refine(z y he w _ o.2).mono ?_;rintro _ w' ⟨U,F',v,le,rfl,hρ,A⟩;exact⟨v,rfl,k y U F' v he le hρ l _ _ ⟨o.1.put q _,A.mono λ_=>K7⟩⟩
end
abbrev Px(f:Rw)(eb:Q0 UV):AC:={target:=.fn (.func f) eb.toArray,args:=#[]}
def AE(P:B3)(fn:lX)(F:Fz)(R:HP)(ρ:G->β->Fz->UV->Prop)(Hs' :G->β->Fz->Q0 HP)(r:β):hP->Act->By->Prop:=bodyPostDIn Fence.wide 0 P fn (λe w' =>∃U F' v,F<=F'/\e= .returned v/\ρ U r F' v/\SH w' F' (star (Qh<|Hs' U r F') R))
theorem fX.enter{c:la}{args:Q0 UV}{ρ:G->β->Fz->UV->Prop}{Hs' :G->β->Fz->Q0 HP}
  (a:P.funcs[f]? =some fn) (d:fn.body=some c) (h:fn.ntmps=n) (l:Nat.ble args.length n=true)
  (k:∀r R,GC none P c [] (AE P fn F R ρ Hs' r) (Hd n [] (D2 0 args) F [R]) m r):fX P f args.toArray F m ρ Hs' :=by
 intro r o w R q;refine(hQ (n:=0)).1<|qAA a d trivial<|k r R o _ w ⟨?_,q.one⟩;rw[h];exact WA l
section
variable{β:Type}{P:B3}{eG:So Nm}{rest:Q0 Nm}{ks:Q0 Kt}{Q:hP->Act->By->Prop}{m:K1 β}{r:β}
variable{n:Nat}{D:Q0 AC}{S:Q0 (Nat×UV)}{F F' :Fz}{hs:Q0 HP}
theorem GG.defer(o:QQ S of=some (.func (.func f) #[] eb.toArray))(k:GL (.f none) P eG rest ks Q (Hd n (Px f eb::D) S F hs) m r):GL (.f none) P eG (⟨none,.defer ⟨.value of,#[],T⟩,ty,pos,after,none⟩::rest) ks Q (Hd n D S F hs) m r:=by
 intro q a w d;have h:=k q {a with defers:=Px f eb::a.defers} w ⟨⟨d.1.1,by rw[d.1.2.1],d.1.2.2⟩,d.2⟩;refine fg ?_;unfold Xl;rw[BY<|by simp[Region.wanted]];refine⟨.inl rfl,?_⟩
 have l:(execOp a.eval ⟨none,.defer ⟨.value of,#[],T⟩,ty,pos,after,none⟩).run P w= .ok (.defer<|Px f eb) w:=by
  simp[execOp,resolve,Deferred.ofValue,d.1.eval o]
 rw[l];exact h
variable{G ε:Type}{ec:ε->UV}{fn:lX}{R:HP}{ρ:G->β->Fz->UV->Prop}{Hs' :G->β->Fz->Q0 HP}{x:β}{rs:Q0 ResultVar}{vs:Q0 UV}{U:G}
theorem H6(is:Q0 Nat)(l:fn.results=rs.toArray)(h:Ss P S F' hs rs vs)(hi:YN is hs=Hs' U x F' ++[R])(le:F<=F')(hρ:ρ U x F' (AU vs)):some x=some r->∀a w,Hd n [] S F' hs a w->AE P fn F R ρ Hs' r .ret a w:=by
 intro e a w d;simp only[W1] at e
 subst e;show LeavesIn Fence.wide 0 P fn a.tmps _ a.defers .returning w;rw[d.1.2.1];refine⟨_,Jm l d h,U,F',_,le,rfl,hρ,d.2.mono λm o=> ?_⟩;have k:=Yw (ks:=is) o;rw[hi] at k
 exact XM<|Yx k
theorem Pk:∀g,(Target.fn (.func f) eb.toArray).leads P w #[]=some g->Fence.wide.fn g:=λ_ _=>trivial
theorem TD(a:∀args w,(callFunc f args).run P w= .ok (.enter f args) w):(invoke (.fn (.func f) eb.toArray) #[]).run P w= .ok (.enter f eb.toArray) w:=by
 simp[invoke,a]
end
def Xs(P:B3)(f:Rw)(args:So UV)(F:Fz)(Hs:Q0 HP)(m:K1 β)(ρ:β->Fz->UV->Prop)(Hs' :β->Fz->Q0 HP):Prop:=∀r,m=some r->∀w R,SH w F (star (Qh Hs) R)->Calls P f args w (λe w' =>∃F' v,F<=F'/\e= .returned v/\ρ r F' v/\SH w' F' (star (Qh<|Hs' r F') R))
def NH(P:B3)(fn:lX)(F:Fz)(R:HP)(ρ:β->Fz->UV->Prop)(Hs' :β->Fz->Q0 HP)(r:β):hP->Act->By->Prop:=bodyPost P fn (λe w' =>∃F' v,F<=F'/\e= .returned v/\ρ r F' v/\SH w' F' (star (Qh<|Hs' r F') R))
theorem Xs.enter{c:la}{args:Q0 UV}{ρ:β->Fz->UV->Prop}{Hs' :β->Fz->Q0 HP}
  (d:P.funcs[f]? =some fn) (l:fn.body=some c) (o:fn.ntmps=n) (q:Nat.ble args.length n=true)
  (k:∀r R,GC none P c [] (NH P fn F R ρ Hs' r) (Hd n [] (D2 0 args) F<|Hs++[R]) m r):Xs P f args.toArray F Hs m ρ Hs' :=by
 intro r a w R s;refine oN d l<|oo.1<|k r R a _ w ⟨?_,s.mono λm a=>K7<|QR (λ_ h=>Jy h) a⟩;rw[o];exact WA q
section
variable{β:Type}{P:B3}{n:Nat}{S:Q0 (Nat×UV)}{F F' :Fz}{hs:Q0 HP}{ks:Q0 Kt}{fn:lX}{R:HP}{ρ:β->Fz->UV->Prop}{Hs' :β->Fz->Q0 HP}{x r:β}{rs:Q0 ResultVar}{vs:Q0 UV}
theorem H7(is:Q0 Nat)(l:fn.results=rs.toArray)(h:Ss P S F' hs rs vs)(hi:YN is hs=Hs' x F' ++[R])(le:F<=F')(hρ:ρ x F' (AU vs)):some x=some r->∀a w,Hd n [] S F' hs a w->NH P fn F R ρ Hs' r .ret a w:=by
 intro e a w d;simp only[W1] at e
 subst e;refine⟨d.1.2.1,_,Jm l d h,F',_,le,rfl,hρ,d.2.mono λm o=> ?_⟩;have k:=Yw (ks:=is) o;rw[hi] at k
 exact XM<|Yx k
theorem GG.sX(is:Q0 Nat)(a:fn.results=rs.toArray)(h:Ss P S F' hs rs vs)(hi:YN is hs=Hs' x F' ++[R])(le:F<=F')(hρ:ρ x F' (AU vs)):GC O P .ret ks (NH P fn F R ρ Hs' r) (Hd n [] S F' hs) (some x) r:=GG.cw<|H7 is a h hi le hρ
theorem GG.aW(is:Q0 Nat)(a:fn.results=rs.toArray)(h:Ss P S F' hs rs vs)(hi:YN is hs=Hs' x F' ++[R])(le:F<=F')(hρ:ρ x F' (AU vs)):GE O P [] (NH P fn F R ρ Hs' r) (Hd n [] S F' hs) (some x) r:=GG.cK<|H7 is a h hi le hρ
end
section
variable{β:Type}{P:B3}{eG:So Nm}{rest:Q0 Nm}{ks:Q0 Kt}{Q:hP->Act->By->Prop}{m:K1 β}{r:β}
variable{n:Nat}{D:Q0 AC}{S:Q0 (Nat×UV)}{F:Fz}{hs:Q0 HP}{d:Nat}{ty:S1}{pos:String}{after:So lY}{T:So S1}
theorem GG.cg{α:Type}{f:Rw}{eb as vs:Q0 UV}{of:L5}{os:Q0 L5}{em:K1 α}{ρ:α->Fz->UV->Prop}{Hs:Q0 HP}{Hs' :α->Fz->Q0 HP}{g:α->K1 β}(is:Q0 Nat)
  (s:Nat.blt d n=true) (h:∀args w,(callFunc f args).run P w= .ok (.enter f args) w) (t:QQ S of=some (.func (.func f) #[] eb.toArray)) (u:Un S os=some vs) (has:vs++eb=as) (hi:YN is hs=Hs)
  (z:Xs P f as.toArray F Hs em ρ Hs') (k:∀x F' v,em=some x->F<=F'->ρ x F' v->GL O P eG rest ks Q (Hd n D ((d,v)::S) F'<|Hs' x F' ++YF is hs) (g x) r):GL O P eG (⟨some d,.call ⟨.value of,os.toArray,T⟩,ty,pos,after,none⟩::rest) ks Q (Hd n D S F hs) (em.bind g) r:=
 GG.sq rfl (.inr rfl) λl a w o=>by
  subst has;refine⟨Wy o.1 h t u,?_⟩;cases he:em with
  | none=>rw[he] at l;cases l
  | some y=>
   rw[he] at l
   have q:SH w F (star (Qh Hs)<|Qh<|YF is hs):=o.2.mono λm l=>by
    have:=UJ (ks:=is) l;rw[hi] at this;exact this
   refine(z y he w _ q).mono ?_;rintro _ w' ⟨F',v,le,rfl,hρ,A⟩;exact⟨v,rfl,k y F' v he le hρ l _ _ ⟨o.1.put s _,A.mono λ_=>K7⟩⟩
theorem GG.ah{x:α}{Hs' :α->Fz->Q0 HP}(he:em=some x)(is:Q0 Nat)
  (o:Nat.blt d n=true) (a:∀args w,(callFunc f args).run P w= .ok (.enter f args) w) (q:QQ S of=some (.func (.func f) #[] eb.toArray)) (s:Un S os=some vs) (has:vs++eb=as) (hi:YN is hs=Hs)
  (t:Xs P f as.toArray F Hs em ρ Hs') (k:∀F' v,F<=F'->ρ x F' v->GL O P eG rest ks Q (Hd n D ((d,v)::S) F'<|Hs' x F' ++YF is hs) m r):GL O P eG (⟨some d,.call ⟨.value of,os.toArray,T⟩,ty,pos,after,none⟩::rest) ks Q (Hd n D S F hs) m r:=by
 have h:=GG.cg (O:=O) (P:=P) (eG:=eG) (rest:=rest) (ks:=ks) (Q:=Q) (r:=r) (n:=n) (D:=D) (S:=S) (F:=F) (hs:=hs) (d:=d) (ty:=ty) (pos:=pos) (after:=after) (T:=T) (g:=λ_=>m) is o a q s has hi t
  (λx' F' v l le hρ=>by rw[he] at l;cases l;exact k F' v le hρ)
 rw[he] at h
 exact h
end
theorem SH.sA{a:Q0 HP}(ks:Q0 Nat)(e:YN ks hs=a)(h:SH w F (Qh hs)):SH w F (Qh a):=e▸h.mono λ_=>Yw
end
section
variable{C:(Nat->Bool)->Env->Q0 HP}{X:Env->Q0 XA}{eG:So Nm}{l os:Q0 Nm}{ip k:Nat}{o:Nm}
variable{O:K1 Nat}{μ:Md}
section
variable{β:Type}{P:B3}{ks:Q0 Kt}{Q:hP->Act->By->Prop}{m:K1 β}{r:β}
variable{n:Nat}{D:Q0 AC}{S0:Q0 (Nat×UV)}{F:Fz}
theorem GG.nP{hs:Q0 HP}{id:Nat}(k g:Nat)(X:Env->Q0 XA)(C:(Nat->Bool)->Env->Q0 HP)(hm:P.follows .mixedOrders=true)(aR:LK 0 l=true)(aH:∀t o,k<=t->l[t]? =some o->∀j,j < t->∃s,X6 l s t j=true)
  (aS:Nat.ble k l.length=true) (hX:∀env,(X env).length=k) (aI:Gq n S0 (l.take k)=true) (hC:∀env,C (λ_=>false) env=hs++List.replicate g SO)
  (aU:Gk O P l.toArray l n D S0 F X C 0 (l.take k))
  (tail:∀env H,F<=H->(∀(j:Nat) (q:XA),(X env)[j]? =some q->q.2 H)->GL O P l.toArray (l.drop k) ks Q (Hd n D (Og (l.take k) (X env) S0) H<|C (λj=>Nat.blt j k) env) m r):GC O P (.region id l.toArray true) ks Q (Hd n D S0 F hs) m r:=by
 intro ak a w ha;have al:k<=l.length:=A4 aS
 let aF:(Nat->Bool)->Act->By->Prop:=λL a w=>Down l L/\(∀i,k<=i->L i=false)/\∃env H S,F<=H/\Sub S0 S/\(∀(j d:Nat) (v:UV),L j=true->V6 l j=some d->((X env)[j]?).map Prod.fst=some v->K4 S d=some v)/\(∀(j:Nat) (q:XA),L j=true->(X env)[j]? =some q->∀G,H<=G->q.2 G)/\Hd n D S H (C L env) a w
 let Inv:(Nat->Bool)->Act->By->Prop:=λL a w=>aF L a w∨∃i,k < i/\Down l L/\(∀j,L j=true↔j < i)/\Xl O P l.toArray (Zw O P ks Q) (l.drop i) a w
 have N:∀L a w,(∀i,i < k->L i=true)->aF L a w->Xl O P l.toArray (Zw O P ks Q) (l.drop k) a w:=by
  rintro L a w b ⟨I,E,env,H,S,le,hS,hV,hΦ,hA⟩;have bM:=hX env
  have an:L=λj=>Nat.blt j k:=by
    funext j;rcases kn j k with h | h
    ·rw[b j h];exact(hN h).symm
    ·rw[E j h];cases B:Nat.blt j k with
     | false=>rfl
     | true=>have:=A4 B;omega
  refine tail env H le (λj q Y=>hΦ j q (b j (by have:=Zx Y;omega)) Y H<|Fz.le_refl H) ak a w ⟨hA.1.sub<|Nd hS λi o d q e1 e2 e3=> ?_,an▸hA.2⟩;have aW:i < k:=by have:=Zx e3;omega
  refine hV i d q.1 (b i aW) ?_ (by rw[e3];rfl);rw[yb,BY aW] at e1
  simp[V6,e1,e2]
 refine X0 hm Inv (λi o h e he B=>by have:=HQ aR i o (by simpa using h) e he B;omega) ?_ ?_ ?_
 ·refine .inl ⟨λi o _ h=>(by cases h),λ_ _=>rfl,⟨λ_=>none,λ_=>0,λ_=>[],λ_=>F,λ_=>none⟩,F,S0,Fz.le_refl F,Sub.refl _,λj d v h=>(by cases h),λj q h=>(by cases h),ha.1,?_⟩;rw[hC];have h1:=ha.2.drew<|w.drawn+1;refine h1.mono λm ao=> ?_;exact GG.rr.stars_emps ao
 ·intro L a w i o ho K x hI;have y:l[i]? =some o:=by simpa using ho
  have aJ:i < l.length:=Zx y;by_cases hi:i < k
  · rcases hI with R | ⟨z,hk,_,Z,_⟩
    case inr=>have:=(Z i).2 eB;rw[K] at this;cases this
    obtain⟨I,E,env,H,S,le,hS,hV,hΦ,hA⟩:=R;have aA:(l.take k)[i]? =some o:=by rw[yb,BY hi];exact y
    have aY:=Gk.get aU i o aA;simp only[dO] at aY
    have ar:∀z j,X6 l z j i=true->L j=false:=λz j h=>by
     cases A:L j with
     | false=>rfl
     | true=>
      have:=Xb I h λo' p e he B=>I j o' p A e he B;rw[K] at this;cases this
    have aZ:∀z j,X6 l z i j=true->L j=true:=λz j h=>Xb I h λo' p e he B=>by
     rw[y] at p;cases p;exact x e he B
    obtain⟨Si,au,aK⟩:=aY L env H le K aZ ar hΦ;have aa:=au S hS hV;have hn:∀d,o.dst=some d->Nat.blt d n=true:=λd hd=>(HL aI aA hd).1;have h1:=O4 (S:=S) hn hA.1<|aK rfl a w ⟨hA.1.sub aa,hA.2⟩;refine PK (λe a w aM Y=>absurd Y.1 aM) (λa' w' Y=> ?_) h1;obtain⟨_,T,av,ab,⟨M,aw,ax,ay⟩,q,Y,az,a1⟩:=Y
    have ad:∀(j:Nat) (q:XA),L j=true->(X T)[j]? =some q->(X env)[j]? =some q:=λj q A hx=>by
     have a6:j < M.length:=by rw[aw,hX env,<-hX T];exact Zx hx
     exact S7 ay.symm (Pf I K ax j A a6) hx
    refine .inl ⟨?_,?_,T,av,(match o.dst with | some d=>(d,q.1)::S | none=>S),Fz.le_trans le ab,?_,?_,?_,a1⟩
    ·intro j oj u A e he B;by_cases f:j=i
     ·subst f;rw[y] at u;cases u
      have:=x e he B;simp only[Kb];split
      ·rfl
      ·exact this
     ·have c:L j=true:=by simpa[Kb,f] using A
      have:=I j oj u c e he B;simp only[Kb];split
      ·rfl
      ·exact this
    ·intro j A;simp only[Kb];rw[B1 eB];exact E j A
    ·cases hd:o.dst with
     | none=>exact hS
     | some d=>exact Nc hS (HL aI aA hd).2 _
    ·intro j d' v' A aB aC;by_cases f:j=i
     ·subst f;have a8:o.dst=some d' :=by simpa[V6,y] using aB
      rw[Y] at aC;simp only[L4,W1] at aC
      subst aC;rw[a8];exact BM
     ·have c:L j=true:=by simpa[Kb,f] using A
      have bA:j < k:=by
       rcases kn j k with h | h
       ·exact h
       ·rw[E j h] at c;cases c
      obtain⟨q',V,rfl⟩:=mY.1 aC;have h0:=hV j d' q'.1 c aB (by rw[ad j q' c V];rfl);cases hd:o.dst with
      | none=>exact h0
      | some d=>
       have aM:d≠d' :=λh=>by
        subst h;cases u:l[j]? with
        | none=>simp[V6,u] at aB
        | some oj=>
         have bB:oj.dst=some d:=by simpa[V6,u] using aB
         exact f<|B6 aI (by rw[yb,BY bA];exact u) aA bB hd
       exact Ph aM h0
    ·intro j q' A V G hG;by_cases f:j=i
     ·subst f;rw[Y] at V;cases V;exact az G hG
     ·have c:L j=true:=by simpa[Kb,f] using A
      exact hΦ j q' c (ad j q' c V) G<|Fz.le_trans ab hG
  ·
    have aG:Down l L:=by
     rcases hI with R | ⟨_,_,hd,_,_⟩
     ·exact R.1
     ·exact hd
    have b:∀j,j < i->L j=true:=λj A=>by
     obtain⟨s,hs⟩:=aH i o eB y j A;exact Xb aG hs λo' p e he B=>by rw[y] at p;cases p;exact x e he B
    have ag:Down l (Kb L i):=λj oj u A e he B=>by
     have:L e.on=true:=by
      by_cases f:j=i
      ·subst f;rw[y] at u;cases u;exact x e he B
      ·exact aG j oj u (by simpa[Kb,f] using A) e he B
     simp only[Kb];split
     ·rfl
     ·exact this
    have hw:Xl O P l.toArray (Zw O P ks Q) (l.drop i) a w:=by
     rcases hI with R | ⟨z,hk,_,Z,aE⟩
     ·have bC:i=k:=by
       rcases kn k i with h | h
       ·have:=b k h;rw[R.2.1 _<|S2 _] at this;cases this
       ·omega
      subst bC;exact N L a w b R
     ·have:z=i:=by
       have h1:¬i < z:=λh=>by have:=(Z i).2 h;rw[K] at this;cases this
       have h2:¬z < i:=λh=>by have:=(Z z).1<|b z h;omega
       omega
      subst this;exact aE
    have aN:l.drop i=o::l.drop (i+1):=by
     have hg:l[i]'aJ=o:=by simpa[aJ] using y
     rw[<-hg];exact u2 aJ
    rw[aN] at hw
    have W:∀a' w',Xl O P l.toArray (Zw O P ks Q) (l.drop<|i+1) a' w'->Inv (Kb L i) a' w' :=λa' w' h=>
     .inr ⟨i+1,by omega,ag,λj=>by
      simp only[Kb];by_cases A:j=i
      ·simp[A]
      ·simp only[A,Bm];constructor
       ·intro c
        have:j < i:=by
         rcases kn j i with h | h
         ·exact h
         ·rcases hI with R | ⟨z,hk,_,Z,_⟩
          ·rw[R.2.1 j eB] at c;cases c
          ·have h1:=(Z j).1 c;have:=(Z i).2 eB;rw[K] at this;cases this
        omega
       ·intro bR;exact b j eB,h⟩
    unfold Xl at hw
    split
    ·rename_i aO;rw[BY aO] at hw
     exact SB W hw
    ·rename_i aO;rw[B1 aO] at hw
     exact W _ _ hw
 ·intro L a w b hI
  have hw:Xl O P l.toArray (Zw O P ks Q) (l.drop l.length) a w:=by
    rcases hI with R | ⟨z,hk,_,Z,aE⟩
    ·have bD:k=l.length:=by
      rcases kn k l.length with h | h
      ·have:=b k (by simpa using h);rw[R.2.1 _<|S2 _] at this;cases this
      ·omega
     have:=N L a w (λi hi=>b i eE) R
     rwa[bD] at this
    ·have:l.length<=z:=by
      rcases kn z l.length with h | h
      ·have:=(Z z).1 (b z<|by simpa using h);omega
      ·exact h
     rw[u0 this] at aE
     rw[u0<|S2 _];exact aE
  rw[u0<|S2 _] at hw
  exact hw
def wL(Q:hP->Act->By->Prop):hP->Act->By->Prop:=λe a w=>∃c,e= .panic c/\Q (.panic c) a w
def bW(O:K1 Nat)(P:B3)(eG:So Nm)(l:Q0 Nm)(n:Nat)(D:Q0 AC)(S0:Q0 (Nat×UV))(F:Fz)(X:Env->Q0 XA)(C:(Nat->Bool)->Env->Q0 HP)(Q:hP->Act->By->Prop)(m:K1 β)(r:β)(i:Nat)(o:Nm):Prop:=
 ∀L env a,F<=a->L i=false->(∀k j,X6 l k i j=true->L j=true)->(∀k j,X6 l k j i=true->L j=false)->(∀(j:Nat) (q:XA),L j=true->(X env)[j]? =some q->∀G,a<=G->q.2 G)->
  ∃b,(∀S,Sub S0 S->(∀(j d:Nat) (v:UV),L j=true->V6 l j=some d->((X env)[j]?).map Prod.fst=some v->K4 S d=some v)->Sub b S)/\
   GL O P eG [o] [] (wL Q) (Hd n D b a<|C L env) m r
def Sv(O:K1 Nat)(P:B3)(eG:So Nm)(l:Q0 Nm)(n:Nat)(D:Q0 AC)(S0:Q0 (Nat×UV))(F:Fz)(X:Env->Q0 XA)(C:(Nat->Bool)->Env->Q0 HP)(Q:hP->Act->By->Prop)(m:K1 β)(r:β)(ip:Nat):Nat->Q0 Nm->Prop
 | _,[]=>True
 | i,o::os=>((i=ip/\bW O P eG l n D S0 F X C Q m r i o)∨(∃s,X6 l s i ip=true)∨(i≠ip/\xp O P eG l n D S0 F X C i o))/\Sv O P eG l n D S0 F X C Q m r ip (i+1) os
theorem Sv.get:∀{k:Nat} {os:Q0 Nm},Sv O P eG l n D S0 F X C Q m r ip k os->∀i o,os[i]? =some o->(k+i=ip/\bW O P eG l n D S0 F X C Q m r (k+i) o)∨(∃s,X6 l s (k+i) ip=true)∨(k+i≠ip/\xp O P eG l n D S0 F X C (k+i) o)
 | _,[],_,i,o,h=>by simp at h
 | k,x::os,a,0,o,h=>by simp at h;subst h;exact a.1
 | k,x::os,a,i+1,o,h=>by
  have:=Sv.get a.2 i o<|by simpa using h
  rwa[show k+1+i=k+(i+1) by omega] at this
theorem Sv.nil{eG:So Nm}{l:Q0 Nm}{X:Env->Q0 XA}{C:(Nat->Bool)->Env->Q0 HP}{ip k:Nat}:Sv O P eG l n D S0 F X C Q m r ip k []:=trivial
theorem Sv.cons{eG:So Nm}{l:Q0 Nm}{X:Env->Q0 XA}{C:(Nat->Bool)->Env->Q0 HP}{ip k:Nat}{o:Nm}{os:Q0 Nm}(a:k≠ip)(h:xp O P eG l n D S0 F X C k o)(t:Sv O P eG l n D S0 F X C Q m r ip (k+1) os):Sv O P eG l n D S0 F X C Q m r ip k (o::os):=⟨.inr<|.inr ⟨a,h⟩,t⟩
theorem Sv.at_(h:bW O P eG l n D S0 F X C Q m r k o)(t:Sv O P eG l n D S0 F X C Q m r k (k+1) os):Sv O P eG l n D S0 F X C Q m r k k (o::os):=⟨.inl ⟨rfl,h⟩,t⟩
theorem Sv.rF(s:Nat)(h:X6 l s k ip=true)(t:Sv O P eG l n D S0 F X C Q m r ip (k+1) os):Sv O P eG l n D S0 F X C Q m r ip k (o::os):=⟨.inr<|.inl ⟨s,h⟩,t⟩
theorem jd{a:Act}{w:By}{K:Act->By->Prop}(h:Xl O P eG (wL Q) [o] a w):if Region.wanted o (yielded eG a.tmps) then yC O P o a w K (Zw O P ks Q) else K (a.put o.dst undef) w:=by
 unfold Xl at h
 split
 ·rename_i d;rw[BY d] at h
  refine R9 (λa w b=> ?_) (λe a w f b=> ?_) h
  ·obtain⟨c,e,_⟩:=b;cases e
  ·obtain⟨c,rfl,b⟩:=b;exact JB b
 ·rename_i d;rw[B1 d] at h
  obtain⟨c,e,_⟩:=h;cases e
theorem GG.pX{A:Act->By->Prop}{c:Q0 PanicEntry}(h:m=some r->∀a w,A a w->Q (.panic c) a w):m=some r->∀a w,A a w->wL Q (.panic c) a w:=λb a w d=>⟨c,rfl,h b a w d⟩
theorem GG.tg{hs:Q0 HP}{id:Nat}(ip g:Nat)(X:Env->Q0 XA)(C:(Nat->Bool)->Env->Q0 HP)(hm:P.follows .mixedOrders=true)(aA:LK 0 l=true)
  (aP:Nat.blt ip l.length=true) (hX:∀env,(X env).length=l.length) (T:Gq n S0 l=true) (hC:∀env,C (λ_=>false) env=hs++List.replicate g SO)
  (aB:Sv O P l.toArray l n D S0 F X C Q m r ip 0 l):GC O P (.region id l.toArray true) ks Q (Hd n D S0 F hs) m r:=by
 intro aQ a w ha;have aC:ip < l.length:=A4 aP
 let Inv:(Nat->Bool)->Act->By->Prop:=λL a w=>L ip=false/\Down l L/\∃env Y S,F<=Y/\Sub S0 S/\(∀(j d:Nat) (v:UV),L j=true->V6 l j=some d->((X env)[j]?).map Prod.fst=some v->K4 S d=some v)/\(∀(j:Nat) (q:XA),L j=true->(X env)[j]? =some q->∀G,Y<=G->q.2 G)/\Hd n D S Y (C L env) a w
 refine X0 hm Inv (λi o h e he R=>by have:=HQ aA i o (by simpa using h) e he R;omega) ?_ ?_ ?_
 ·refine⟨rfl,λi o _ h=>(by cases h),⟨λ_=>none,λ_=>0,λ_=>[],λ_=>F,λ_=>none⟩,F,S0,Fz.le_refl F,Sub.refl _,λj d v h=>(by cases h),λj q h=>(by cases h),ha.1,?_⟩;rw[hC];exact(ha.2.drew<|w.drawn+1).mono λm aR=>GG.rr.stars_emps aR
 ·intro L a w i o ho H y hI;have c:l[i]? =some o:=by simpa using ho
  obtain⟨aD,z,env,Y,S,le,hS,hV,hΦ,hA⟩:=hI;have x:=Sv.get aB i o c;simp only[dO] at x
  have aF:∀k' j,X6 l k' j i=true->L j=false:=λk' j h=>by
   cases I:L j with
   | false=>rfl
   | true=>
    have:=Xb z h λo' u e he R=>z j o' u I e he R;rw[H] at this;cases this
  have A:∀k' j,X6 l k' i j=true->L j=true:=λk' j h=>Xb z h λo' u e he R=>by
   rw[c] at u;cases u;exact y e he R
  have hn:∀d,o.dst=some d->Nat.blt d n=true:=λd hd=>(HL T c hd).1;rcases x with⟨rfl,x⟩ | ⟨s,aV⟩ | ⟨aI,x⟩
  ·obtain⟨Si,V,f⟩:=x L env Y le H A aF hΦ;exact jd<|f aQ a w ⟨hA.1.sub<|V S hS hV,hA.2⟩
  ·have:=A s ip aV;rw[aD] at this;cases this
  ·obtain⟨Si,V,f⟩:=x L env Y le H A aF hΦ;have aJ:=V S hS hV;have h1:=O4 (S:=S) hn hA.1<|f rfl a w ⟨hA.1.sub aJ,hA.2⟩;refine PK (λe a w W Z=>absurd Z.1 W) (λa' w' Z=> ?_) h1;obtain⟨_,B,aW,aK,⟨M,aX,aY,aZ⟩,q,Z,aa,ab⟩:=Z
   have aL:∀(j:Nat) (q:XA),L j=true->(X B)[j]? =some q->(X env)[j]? =some q:=λj q I hx=>by
    have ad:j < M.length:=by rw[aX,hX env,<-hX B];exact Zx hx
    exact S7 aZ.symm (Pf z H aY j I ad) hx
   refine⟨by simp only[Kb];rw[B1 λe=>aI e.symm];exact aD,?_,B,aW,(match o.dst with | some d=>(d,q.1)::S | none=>S),Fz.le_trans le aK,?_,?_,?_,ab⟩
   ·intro j oj p I e he R;by_cases b:j=i
    ·subst b;rw[c] at p;cases p
     have:=y e he R;simp only[Kb];split
     ·rfl
     ·exact this
    ·have t:L j=true:=by simpa[Kb,b] using I
     have:=z j oj p t e he R;simp only[Kb];split
     ·rfl
     ·exact this
   ·cases hd:o.dst with
    | none=>exact hS
    | some d=>exact Nc hS (HL T c hd).2 _
   ·intro j d' v' I K N;by_cases b:j=i
    ·subst b;have ag:o.dst=some d' :=by simpa[V6,c] using K
     rw[Z] at N;simp only[L4,W1] at N
     subst N;rw[ag];exact BM
    ·have t:L j=true:=by simpa[Kb,b] using I
     obtain⟨q',E,rfl⟩:=mY.1 N;have h0:=hV j d' q'.1 t K (by rw[aL j q' t E];rfl);cases hd:o.dst with
     | none=>exact h0
     | some d=>
      have W:d≠d' :=λh=>by
       subst h;cases p:l[j]? with
       | none=>simp[V6,p] at K
       | some oj=>
        have ah:oj.dst=some d:=by simpa[V6,p] using K
        exact b<|B6 T p c ah hd
      exact Ph W h0
   ·intro j q' I E G hG;by_cases b:j=i
    ·subst b;rw[Z] at E;cases E;exact aa G hG
    ·have t:L j=true:=by simpa[Kb,b] using I
     exact hΦ j q' t (aL j q' t E) G<|Fz.le_trans aK hG
 ·intro L a w aN hI;have:=aN ip (by simpa using aC);rw[hI.1] at this;cases this
end
end
section
variable{α τ V K β:Type}{b:α->τ->K1 τ}{rv:Fz->V->UV->Prop}{Q:hP->Act->By->Prop}{I:Q0 α->Q0 α->τ->Act->By->Prop}{ck:K->UV}{A:Act->By->Prop}{xs xs':Q0 (Q0<|K×V)}{S:Q0 (Nat×UV)}{l:Q0 α}{P:B3}{w:By}{D:Q0 AC}{ks:Q0 Kt}{F F0:Fz}{ed done:Q0 (K×V)}{hs:Q0 HP}{γ j B n c it:Nat}{C:Fz->Nat->α->HP}{eG:So Nm}{m:K1 β}{pt':K1 C3}{ee:So Nat}{s:τ}{r:β}{H:HP}
variable{O:K1 Nat}{μ:Md}
open Classical in
def SA(b:α->τ->K1 τ)(l:Q0 α)(s:τ):K1 τ:=if ∀l',l'.Perm l->VB b l' s=VB b l s then VB b l s else none
theorem zn{r:τ}(h:SA b l s=some r):∀l',l'.Perm l->VB b l' s=some r:=by
 unfold SA at h
 split at h
 ·rename_i a;intro l' d;rw[a l' d];exact h
 ·cases h
theorem qE{r:τ}(h:∀l',l'.Perm l->VB b l' s=some r):SA b l s=some r:=by
 unfold SA;rw[BY λl' a=>by rw[h l' a,h l<|.refl _]];exact h l<|.refl _
def G9(B:Nat)(I:Q0 α->Q0 α->τ->Act->By->Prop)(b:α->τ->K1 τ)(ed done:Q0 α)(s:τ):hP->Act->By->Prop:=λe a w=>
 (ed=[]/\e= .exit B/\I [] done s a w)∨(e= .normal/\∃x rest d,(x::rest).Perm ed/\b x s=some d/\I rest (x::done) d a w)
theorem G9.over{done:Q0 α}(h:∀a w,A a w->I [] done s a w):some ()=some ()->∀a w,A a w->G9 B I b [] done s (.exit B) a w:=λ_ a w d=>.inl ⟨rfl,rfl,h a w d⟩
theorem G9.norm{α τ:Type}{B:Nat}{I:Q0 α->Q0 α->τ->Act->By->Prop}{b:α->τ->K1 τ}{ed done rest:Q0 α}{s d m:τ}{x:α}{A:Act->By->Prop}(f:(x::rest).Perm ed)(g:b x s=some d)(h:∀a w,A a w->I rest (x::done) m a w):some m=some d->∀a w,A a w->G9 B I b ed done s .normal a w:=λe a w i=>.inr ⟨rfl,x,rest,d,f,g,by simp only[W1] at e;subst e;exact h a w i⟩
theorem NM{c:la}{R:τ}
  (round:∀ed done s,(∀x∈ed,∃i,b x s=some i)->∀a w,I ed done s a w->c.wpIn (Ry O) 0 P (G9 B I b ed done s) a w):∀(n:Nat) (ed done:Q0 α) (s:τ),ed.length=n->(∀l',l'.Perm ed->VB b l' s=some R)->(done++ed).Perm l->∀a w,I ed done s a w->
   ∀(fr:Frame) (k:Q0 Item) (cs:Q0 Frame),fr.roundOf=(Ry O).round->∃z w' d,d.Perm l/\I [] d R z w'/\ArrivesIn (Machine.fenced P<|Ry O) P (lone (fr.atR a<|.code c:: .inLoop c::k) cs w) fr k cs (.exit B) z w'
 | n,ed,done,s,Y,f,g,a,w,L,fr,k,cs,t=>by
  have M:∀x∈ed,∃i,b x s=some i:=λx N=>by
   obtain⟨T,l2,e⟩:=lP N;have u:(x::(T++l2)).Perm ed:=by rw[e];exact List.perm_middle.symm
   have:=f _ u;simp only[VB] at this
   cases v:b x s with
   | none=>rw[v] at this;cases this
   | some i=>exact⟨i,rfl⟩
  obtain⟨e,a₁,w₁,W,o⟩:=round ed done s M a w L fr (.inLoop c::k) cs t (B7 O _)<|BR O _;rcases W with⟨rfl,rfl,p⟩ | ⟨rfl,x,rest,i,u,v,p⟩
  ·have E:=f []<|.refl _;simp only[VB,W1] at E
   subst E;exact⟨a₁,w₁,done,by simpa using g,p,.pass (x:=.inLoop c) rfl (λ_ _=>.inl eF) o⟩
  ·have G:rest.length < n:=by have:=u.length_eq;simp at this;omega
   have q:∀l',l'.Perm rest->VB b l' i=some R:=λl' y=>by
    have:=f (x::l')<|(y.cons x).trans u;simpa[VB,v] using this
   have h:(x::done++rest).Perm l:=by
    refine List.Perm.trans ?_ g;have X:(x::done++rest).Perm (done++x::rest):=List.perm_middle.symm;exact X.trans<|u.append_left done
   obtain⟨a₂,w₂,done₂,hd₂,hI₂,harr₂⟩:=NM round rest.length rest (x::done) i rfl q h a₁ w₁ p fr k cs t;exact⟨a₂,w₂,done₂,hd₂,hI₂,.of_steps (td o<|.one (oM (n:=0) (B7 O _) (BR O _) rfl) ir) harr₂⟩
termination_by n=>n
section
variable{β:Type}{P:B3}{ks ks' :Q0 Kt}{Q:hP->Act->By->Prop}{A:Act->By->Prop}{r:β}
theorem GG.tv{c:la}{e:τ}{f:τ->K1 β}(I:Q0 α->Q0 α->τ->Act->By->Prop)(q:CZ B ks=some ks')
  (t:∀a w,A a w->I l [] e a w)
  (round:∀ed done s,(∀x∈ed,∃u,b x s=some u)->GC O P c [] (G9 B I b ed done s) (I ed done s) (some ()) ())
  (after:∀done R,SA b l e=some R->done.Perm l->GE O P ks' Q (I [] done R) (f R) r):GC O P (.loop c) ks Q A ((SA b l e).bind f) r:=by
 intro h a w v;cases i:SA b l e with
 | none=>rw[i] at h;cases h
 | some R=>
  rw[i] at h
  intro fr k cs o y z;obtain⟨p,w',done,E,d,g⟩:=NM (I:=I) (b:=b) (R:=R) (l:=l) (λed done s G a w d=>round ed done s G rfl a w d) l.length l [] e rfl (zn i) eF a w (t a w v) fr k cs o;exact⟨.exit B,p,w',ZE q<|after done R i E h p w' d,.of_steps (.one (oM y z rfl) stepR_loop) g⟩
theorem GG.use{σ:Type}{a:Q0 Nm}{e:K1 σ}{d:σ}(he:e=some d)(k:GL O P eG a ks Q A e d):GL O P eG a ks Q A (some ()) ():=λ_=>k he
end
section
variable{K V:Type}
def Uq(ck:K->UV)(rv:Fz->V->UV->Prop)(F:Fz)(b it:Nat)(ed done:Q0 (K×V)):HP:=λm=>∃(es:So gw) (clock:Nat) (l' :Q0 (K×V)) (ee:So Nat) (last:Nat),
 star (pt b<|.map es clock) (pt it<|.mapIter (some b) clock ee last) m/\Uv ck rv F es.toList l'/\Ya es.toList clock/\(ee.isEmpty=false->last=clock)/\
 ed.Perm (((es.toList.zip l').filter λz=> !ee.contains z.1.born).map Prod.snd)/\done.Perm (((es.toList.zip l').filter λz=>ee.contains z.1.born).map Prod.snd)/\
 ∀x,done.head? =some x->∃z∈es.toList.zip l',z.2=x/\ee.back? =some z.1.born
theorem Tn{ck:K->UV}{rv:Fz->V->UV->Prop}{b:Nat}{ed done:Q0 (K×V)}(h:SH w F (star (Uq ck rv F0 b it ed done) H)):∃(es:So gw) (clock:Nat) (l' :Q0 (K×V)) (ee:So Nat) (last:Nat),
  w.heap[b]? =some (.map es clock)/\w.heap[it]? =some (.mapIter (some b) clock ee last)/\SH w F (star (pt it<|.mapIter (some b) clock ee last)<|star (pt b<|.map es clock) H)/\Uv ck rv F0 es.toList l'/\Ya es.toList clock/\(ee.isEmpty=false->last=clock)/\
  ed.Perm (((es.toList.zip l').filter λz=> !ee.contains z.1.born).map Prod.snd)/\done.Perm (((es.toList.zip l').filter λz=>ee.contains z.1.born).map Prod.snd)/\
  ∀x,done.head? =some x->∃z∈es.toList.zip l',z.2=x/\ee.back? =some z.1.born:=by
 obtain⟨m,⟨e,f,d,g,i,⟨es,c,l',ee,last,o,p⟩,q⟩,k⟩:=h;have hs:SH w F (star (pt b<|.map es c)<|star (pt it<|.mapIter (some b) c ee last) H):=⟨m,XN ⟨e,f,d,g,i,o,q⟩,k⟩;have a:SH w F (star (pt it<|.mapIter (some b) c ee last)<|star (pt b<|.map es c) H):=hs.mono λm t=>Zj t;exact⟨es,c,l',ee,last,hs.owned,a.owned,a,p⟩
theorem Uv.aF{ck:K->UV}{rv:Fz->V->UV->Prop}:∀{es:Q0 gw} {l:Q0 (K×V)} {z:gw×(K×V)},Uv ck rv F es l->z∈es.zip l->z.1.key=ck z.2.1/\∀a,F<=a->rv a z.2.2 z.1.val
 | [],_,_,_,h=>by simp at h
 | _::_,[],_,_,h=>by simp at h
 | e::es,x::l,z,⟨d,f,g⟩,h=>by
  rw[List.zip_cons_cons,TO] at h
  rcases h with rfl | h
  ·exact⟨d,f⟩
  ·exact g.aF h
theorem Uv.sJ{ck:K->UV}{rv:Fz->V->UV->Prop}{es:Q0 gw}{l:Q0 (K×V)}(h:Uv ck rv F es l):(es.zip l).map Prod.snd=l/\(es.zip l).map Prod.fst=es:=⟨List.map_snd_zip (by rw[h.len];exact S2 _),List.map_fst_zip (by rw[h.len];exact S2 _)⟩
theorem FG{g:α->Nat}{p:α->Bool}:∀{Z:Q0 α} {z:α},(Z.map g).Nodup->z∈Z->p z=true->(Z.filter p).Perm (z::Z.filter (λy=>p y&& !(g y==g z)))
 | [],_,_,h,_=>by cases h
 | y::Z,z,a,h,i=>by
  simp only[E4,ma] at a
  rcases TO.1 h with rfl | h
  ·have o:Z.filter (λy=>p y&& !(g y==g z))=Z.filter p:=bY λy q=>by
    have:g y≠g z:=λe=>a.1<|e▸IR q;simp[this]
   simp only[nt,i,B2,BEq.rfl,RK,Bool.and_false,W2,Bm];rw[o]
  ·have d:(g y==g z)=false:=by
    cases t:g y==g z with
    | false=>rfl
    | true=>exact absurd (IR (f:=g) h) (by rw[<-(mX.1 t:g y=g z)];exact a.1)
   have k:=FG a.2 h i;simp only[nt,d,k4,ld];cases p y with
   | true=>simp only[B2];exact(k.cons y).trans (.swap _ _ _)
   | false=>simpa using k
theorem qg{g:α->Nat}{p q:α->Bool}{Z:Q0 α}{z:α}(o:(Z.map g).Nodup)(d:z∈Z)(E:p z=false)(t:∀y∈Z,q y=(p y||g y==g z)):(Z.filter q).Perm (z::Z.filter p):=by
 have G:=FG (p:=q) o d (by rw[t z d];simp);refine G.trans<|.of_eq ?_;congr 1;refine bY λy u=> ?_;rw[t y u];cases L:g y==g z with
 | false=>simp
 | true=>
  have e:y=z:=by
   have v:g y=g z:=mX.1 L;obtain⟨i,hi,f⟩:=mv u;obtain⟨j,x,k⟩:=mv d;have a:=oJ.1 o
   have:i=j:=by
    rcases iC i j with h | h | h
    ·exact absurd (by rw[lL,lL,f,k,v])<|a i j (by simpa using hi) (by simpa using x) h
    ·exact h
    ·exact absurd (by rw[lL,lL,f,k,v])<|a j i (by simpa using x) (by simpa using hi) h
   subst this;rw[<-f,<-k]
  subst e;simp[E]
end
section
variable{β:Type}{P:B3}{eG:So Nm}{rest:Q0 Nm}{ks:Q0 Kt}{Q:hP->Act->By->Prop}{m:K1 β}{r:β}
variable{n:Nat}{D:Q0 AC}{S:Q0 (Nat×UV)}{F F0:Fz}{hs:Q0 HP}{d:Nat}{ty t kt vt:S1}{pos:String}{after:So lY}{ox:L5}
variable{K V:Type}{ck:K->UV}{rv:Fz->V->UV->Prop}{b it γ j:Nat}{l ed done:Q0 (K×V)}{xs:Q0 (Q0<|K×V)}
theorem GG.tS{p:K1 Nat}(i:Nat)(hi:hs[i]? =some (ZD γ (QZ ck rv) F0 xs))(G:UB γ F j b)(L:p=some b)(o:xs[j]? =some l)(M:Nat.blt d n=true)(N:P.underlying t=some (.map kt vt))(R:QQ S ox=some (.map p))
  (k:∀it,(l.map Prod.fst).Nodup->GL O P eG rest ks Q (Hd n D ((d,.pointer<|some ⟨it,0,none⟩)::S) F<|Uq ck rv F0 b it l []::hs.set i (hole γ (QZ ck rv) F0 j b xs)) m r):GL O P eG (⟨some d,.range t ox,ty,pos,after,none⟩::rest) ks Q (Hd n D S F hs) m r:=by
 subst L;refine GG.step rfl (.inr rfl) λg a w q=> ?_;have T:=(q.2.pull hi).sw G o;obtain⟨es,c,l',u,W,X,E,v,y⟩:=Wz T;refine⟨.pointer<|some ⟨w.heap.size,0,none⟩,w.alloc<|.mapIter (some b) c #[] c,?_,k w.heap.size W g _ _ ⟨q.1.put M _,?_⟩⟩
 ·simp[execOp,Instr.range,q.1.eval R,YG N,Yb X]
 ·have Y:=v.alloc<|.mapIter (some b) c #[] c
  have Z:SH (w.alloc<|.mapIter (some b) c #[] c) F (star (Uq ck rv F0 b w.heap.size l [])<|star (hole γ (QZ ck rv) F0 j b xs)<|Qh<|hs.eraseIdx i):=Y.mono λm g=>by
   have h3:=UX<|Zj g;refine QP (λm' f=>⟨es,c,l',#[],c,f,E,y,λh=>(by simp at h),?_,?_,λx h=>(by cases h)⟩) h3
   ·have e:((es.toList.zip l').filter λz=> !(#[]:So Nat).contains z.1.born)=es.toList.zip l' :=mw.2 λ_ _=>by simp
    rw[e,E.sJ.1];exact u.symm
   ·have e:((es.toList.zip l').filter λz=>(#[]:So Nat).contains z.1.born)=[]:=el.2 λ_ _=>by simp
    rw[e];exact .refl _
  exact Z.mono λm g=>QR (λm' f=>Ff hi f) g
theorem PD{es:Q0 gw}{l' :Q0 (K×V)}(a:Ya es c)(f:Uv ck rv F es l'):((es.zip l').map λz=>z.1.born).Nodup:=by
 have e:(es.zip l').map (λz=>z.1.born)=((es.zip l').map Prod.fst).map (·.born):=by rw[lJ];rfl
 rw[e,f.sJ.2];exact a.1.imp λh=>iB h
theorem AB{q:Nat}{s:Nat}(h:w.heap[q]? =some (.mapIter (some b) c ee s)):(getObj q).run P w= .ok (.mapIter (some b) c ee s) w:=by
 simp[getObj,Sem.run,h]
theorem jq{o' :Obj}{q:Nat}{s:Nat}(h:w.heap[q]? =some (.mapIter (some b) c ee s)):(setObj q o').run P w= .ok () (put w q o'):=by
 simp[setObj,Sem.run,put,h]
theorem Nq(w:By)(e:0 < n):∃a,a < n/\∃k,(choose<|.mapNext n).run P w= .ok a {w with drawn:=k}:=by
 by_cases f:n<=1
 ·exact⟨0,e,w.drawn,by simp[choose,Sem.run,Question.forced,f]⟩
 ·exact⟨_,o1 _ e,w.drawn+1,by simp[choose,Sem.run,Question.forced,Question.cut,f];rfl⟩
theorem Tm{es:So gw}{clock last:Nat}{l' :Q0 (K×V)}(hb:w.heap[b]? =some (.map es clock))(o:w.heap[it]? =some (.mapIter (some b) clock ee last))(hr:Uv ck rv F0 es.toList l')(p:Ya es.toList clock)(hl:ee.isEmpty=false->last=clock)
  (ht:ed.Perm (((es.toList.zip l').filter λz=> !ee.contains z.1.born).map Prod.snd)):(ed=[]->∃k,(Instr.next (.pointer<|some ⟨it,0,none⟩) false ty).run P w= .ok (.tuple #[.bool false]) {w with drawn:=k})/\
  (ed≠[]->∃z∈es.toList.zip l',ee.contains z.1.born=false/\∃k,(Instr.next (.pointer<|some ⟨it,0,none⟩) false ty).run P w= .ok (.tuple #[.bool true,z.1.key,z.1.val]) (put {w with drawn:=k} it<|.mapIter (some b) clock (ee.push z.1.born) clock)):=by
 have a:(!ee.isEmpty&& !es.isEmpty&&es.all λe=>decide<|e.born≥last)=false:=by
  cases hs:ee.isEmpty with
  | true=>simp
  | false=>
   cases he:es.isEmpty with
   | true=>simp
   | false=>
    have W:=hl hs;simp only[k4,mb];cases f:es.all λe=>decide (e.born≥last) with
    | false=>rfl
    | true=>
     rw[Array.all_eq_true] at f
     have X:0 < es.size:=by
      rcases oF es.size with h | h
      ·have:es.isEmpty=true:=by simpa using Array.eq_empty_of_size_eq_zero h
       rw[this] at he;cases he
      ·exact h
     have R:=f 0 X;have Y:=p.2 es[0] eF;simp at R;omega
 obtain⟨L,T⟩:∃L,L=es.filter λe=> !ee.contains e.born:=⟨_,rfl⟩
 have u:∀e,e∈L->e∈es.toList/\ee.contains e.born=false:=λe he=>by
  subst T;rw[Array.mem_filter] at he
  exact⟨by simpa using he.1,by simpa using he.2⟩
 have x:(L.filter λe=>decide<|e.born < clock)=L:=by
  rw[Array.filter_eq_self];intro e he;simpa using p.2 e (u e he).1
 have y:(L.filter λe=>decide<|e.born≥clock)=#[]:=by
  rw[Array.filter_eq_empty_iff];intro e he;have:=p.2 e (u e he).1;simp;omega
 have g:ed.length=L.size:=by
  have R:=ht.length_eq;rw[ei] at R
  have Y:((es.toList.zip l').filter λz=> !ee.contains z.1.born).length=(((es.toList.zip l').map Prod.fst).filter λe=> !ee.contains e.born).length:=by
   rw[iV,ei];rfl
  rw[hr.sJ.2] at Y
  rw[R,Y,T,<-eh,Array.toList_filter]
 have aF:∀(q:K1 gw->By->Result UV),True:=λ_=>trivial;refine⟨λZ=> ?_,λZ=> ?_⟩
 ·have v:L=#[]:=iQ (by rw[<-g,Z];rfl);refine⟨w.drawn,?_⟩;simp only[Instr.next,j3,AB o,Result.andThen,Yb hb,a,W2,Bm,<-T,v];simp[choose,Sem.run,Question.forced]
 ·have aA:L.size≠0:=by
   rw[<-g];intro e;exact Z<|RW e
  have v:L.isEmpty=false:=by
   cases h:L.isEmpty with
   | false=>rfl
   | true=>rw[Array.isEmpty_iff_size_eq_zero] at h;exact absurd h aA
  obtain⟨E,G,k,aB⟩:=Nq (P:=P) w (n:=L.size) eB;have i:=u L[E] eF
  obtain⟨z,hz,M⟩:∃z∈es.toList.zip l',z.1=L[E]:=by
   have:=i.1;rw[<-hr.sJ.2] at this
   obtain⟨z,hz,e⟩:=rm.1 this;exact⟨z,hz,e⟩
  refine⟨z,hz,by rw[M];exact i.2,k,?_⟩;rw[M];have N:({w with drawn:=k}:By).heap[it]? =some (.mapIter (some b) clock ee last):=o;simp only[Instr.next,j3,AB o,Result.andThen,Yb hb,a,W2,Bm,<-T,x,y,v,Array.append_empty,Array.size_map,Array.empty_append,aB];simp[G,jq N]
theorem GG.tW(i:Nat)(hi:hs[i]? =some (Uq ck rv F0 b it [] done))(o:pt' =some ⟨it,0,none⟩)(p:Nat.blt d n=true)(q:QQ S ox=some (.pointer pt'))
  (k:GL O P eG rest ks Q (Hd n D ((d,.tuple #[.bool false])::S) F hs) m r):GL O P eG (⟨some d,.next ox false,ty,pos,after,none⟩::rest) ks Q (Hd n D S F hs) m r:=by
 subst o;refine GG.step rfl (.inr rfl) λu a w e=> ?_;obtain⟨es,c,l',ee,last,v,f,_,x,g,y,z,E,_⟩:=Tn<|e.2.pull hi;obtain⟨G,h⟩:=(Tm (P:=P) (ty:=ty) v f x g y z).1 rfl;refine⟨_,{w with drawn:=G},?_,k u _ _ ⟨e.1.put p _,e.2.drew _⟩⟩;simp[execOp,e.1.eval q,h]
theorem GG.tV(i:Nat)(hi:hs[i]? =some (Uq ck rv F0 b it ed done))(N:ed≠[])(hp:pt' =some ⟨it,0,none⟩)(hd:Nat.blt d n=true)(M:QQ S ox=some (.pointer pt'))
  (k:∀x e v,(x::e).Perm ed->(∀F',F0<=F'->rv F' x.2 v)->GL O P eG rest ks Q (Hd n D ((d,.tuple #[.bool true,ck x.1,v])::S) F<|hs.set i<|Uq ck rv F0 b it e<|x::done) m r):GL O P eG (⟨some d,.next ox false,ty,pos,after,none⟩::rest) ks Q (Hd n D S F hs) m r:=by
 subst hp;refine GG.step rfl (.inr rfl) λR a w T=> ?_;obtain⟨es,c,l',ee,last,hb,W,X,o,h,hl,ht,Y,_⟩:=Tn<|T.2.pull hi;obtain⟨z,u,f,k',Z⟩:=(Tm (P:=P) (ty:=ty) hb W o h hl ht).2 N;obtain⟨E,G⟩:=o.aF u;have L:=PD h o;have aL:z.1.born < c:=h.2 _ (by rw[<-o.sJ.2];exact IR u);have aA:=FG (p:=λy:gw×(K×V)=> !ee.contains y.1.born) L u<|by simp only[f,k4]
 have e1:∀y:gw×(K×V),(!(ee.push z.1.born).contains y.1.born)=(!ee.contains y.1.born&& !(y.1.born==z.1.born)):=λy=>by
  rw[o0,qAE]
 refine⟨_,put {w with drawn:=k'} it<|.mapIter (some b) c (ee.push z.1.born) c,?_,k z.2 (((es.toList.zip l').filter λy=> !(ee.push z.1.born).contains y.1.born).map Prod.snd) z.1.val ?_ G R _ _ ⟨by rw[<-E];exact T.1.put hd _,SH.push hi<|(((X.drew _).put (o' :=.mapIter (some b) c (ee.push z.1.born) c))).mono λm R=> ?_⟩⟩
 ·simp[execOp,T.1.eval M,Z]
 ·refine List.Perm.trans ?_ ht.symm;have:=(aA.map Prod.snd).symm;simp only[E4] at this
  refine List.Perm.trans (.of_eq ?_) this;congr 2;exact bY λy _=>e1 y
 ·have aB:=UX<|Zj R;refine QP (λm' aC=>⟨es,c,l',ee.push z.1.born,c,aC,o,h,λ_=>rfl,.refl _,?_,λx M=> ?_⟩) aB
  ·have:=qg (g:=λy:gw×(K×V)=>y.1.born) (p:=λy=>ee.contains y.1.born) (q:=λy=>(ee.push z.1.born).contains y.1.born) L u f (λy _=>by rw[o0]);have h3:=this.map Prod.snd;simp only[E4] at h3
   exact(Y.cons z.2).trans h3.symm
  ·simp only[List.head?_cons,W1] at M
   exact⟨z,u,M,by simp⟩
theorem GG.tf{x:K×V}(i:Nat)(hi:hs[i]? =some (Uq ck rv F0 b it ed<|x::done))(hp:pt' =some ⟨it,0,none⟩)(hd:Nat.blt d n=true)(hx:QQ S ox=some (.pointer pt'))
  (k:∀v,(∀F',F0<=F'->rv F' x.2 v)->GL O P eG rest ks Q (Hd n D ((d,.tuple #[ck x.1,v])::S) F hs) m r):GL O P eG (⟨some d,.entry ox,ty,pos,after,none⟩::rest) ks Q (Hd n D S F hs) m r:=by
 subst hp;refine GG.step rfl (.inr rfl) λhm a w R=> ?_;obtain⟨es,c,l',ee,last,hb,M,T,W,N,hl,ht,X,o⟩:=Tn<|R.2.pull hi;obtain⟨z,Y,Z,g⟩:=o x rfl;obtain⟨u,E⟩:=W.aF Y;subst Z
 have aA:ee.isEmpty=false:=by
  cases h:ee.isEmpty with
  | false=>rfl
  | true=>
   have:ee=#[]:=by simpa using h
   subst this;simp at g
 have aB:=hl aA;subst aB
 have G:es.find? (λe=>e.born==z.1.born)=some z.1:=by
  have p:z.1∈es.toList:=by rw[<-W.sJ.2];exact IR Y
  have q:(es.toList.map (·.born)).Nodup:=N.1.imp λh=>iB h
  have:es.toList.find? (λe=>e.born==z.1.born)=some z.1:=by
   clear hb M W N ht X o Y E u T g hl
   generalize es.toList=L at p q
   induction L with
   | nil=>cases p
   | cons y L ih=>
    simp only[E4,ma] at q
    rcases TO.1 p with e | e
    ·rw[mx,<-e];simp
    ·have:(y.born==z.1.born)=false:=by
      cases aC:y.born==z.1.born with
      | false=>rfl
      | true=>exact absurd (IR (f:=(·.born)) e) (by rw[<-(mX.1 aC:y.born=z.1.born)];exact q.1)
     rw[mx,this];exact ih e q.2
  simpa using this
 refine⟨_,w,?_,k z.1.val E hm _ _ ⟨by rw[<-u];exact R.1.put hd _,R.2⟩⟩;simp[execOp,Instr.entry,R.1.eval hx,AB M,Yb hb,g,G]
end
section
variable{K V:Type}{ck:K->UV}{rv:Fz->V->UV->Prop}{b it γ j:Nat}{l ed done:Q0 (K×V)}{xs:Q0 (Q0<|K×V)}{F F0 F1:Fz}{w:By}{hs:Q0 HP}
theorem SH.rO(k:done.Perm l)(o:(l.map Prod.fst).Nodup)(h:SH w F (star (Uq ck rv F0 b it [] done) H)):SH w F (star (QZ ck rv F0 b l) H):=by
 obtain⟨es,c,l',ee,last,x,p,d,g,e,y,q,a,_⟩:=Tn h
 have t:((es.toList.zip l').filter λz=> !ee.contains z.1.born)=[]:=by
  have i:=q.length_eq;rw[ei] at i
  exact RW i.symm
 have u:((es.toList.zip l').filter λz=>ee.contains z.1.born)=es.toList.zip l' :=by
  rw[mw];intro z v;have:=(el.1 t) z v;simpa using this
 rw[u,g.sJ.1] at a
 exact d.drop.mono λm f=>QP (λm f=>⟨l',(a.symm.trans k),o,es,c,f,g,e⟩) f
theorem O2{C:Fz->Nat->Q0 (K×V)->HP}(h:SH w F (star (hole γ C F0 j b xs) H)):j < xs.length:=by
 obtain⟨m,⟨e,f,_,_,_,⟨bs,a,d,_⟩,_⟩,_⟩:=h;rw[<-a];exact(DO.1 d).1
theorem SH.sk{xs' :Q0 (Q0<|K×V)}(i k:Nat)(hi:hs[i]? =some (Uq ck rv F0 b it [] done))(f:(hs.eraseIdx i)[k]? =some (hole γ (QZ ck rv) F1 j b xs))(d:F0<=F)(e:F1<=F)(o:done.Perm l)(p:(l.map Prod.fst).Nodup)(he:xs' =xs.set j l)(h:SH w F (Qh hs)):SH w F (Qh<|(hs.eraseIdx i).set k<|ZD γ (QZ ck rv) F xs'):=by
 subst he;have q:SH w F (star (Uq ck rv F0 b it [] done)<|star (hole γ (QZ ck rv) F1 j b xs)<|Qh<|(hs.eraseIdx i).eraseIdx k):=(h.pull hi).mono λm a=>QR (λ_=>Vi f) a;have g:=(q.rO o p).mono (H' :=star (QZ ck rv F b l)<|star (hole γ (QZ ck rv) F1 j b xs)<|Qh<|(hs.eraseIdx i).eraseIdx k) λm a=>QP (λm a=>Jn d a) a;have t:=SH.aV Hf e g<|O2<|g.mono λm a=>Zj a;exact SH.push f t
end
section
variable{β:Type}{X:Act->By->Prop}{P:B3}{ks:Q0 Kt}{Q:hP->Act->By->Prop}{m:K1 β}{r:β}{n:Nat}{D:Q0 AC}{S:Q0 (Nat×UV)}{F F0 F1:Fz}{hs:Q0 HP}
variable{K V:Type}{ck:K->UV}{rv:Fz->V->UV->Prop}{b it γ j:Nat}{l done:Q0 (K×V)}{xs xs' :Q0 (Q0<|K×V)}
theorem GG.sk(i k:Nat)(hi:hs[i]? =some (Uq ck rv F0 b it [] done))(g:(hs.eraseIdx i)[k]? =some (hole γ (QZ ck rv) F1 j b xs))(d:F0<=F)(e:F1<=F)(h:done.Perm l)(o:(l.map Prod.fst).Nodup)(he:xs' =xs.set j l)
  (p:GE O P ks Q (Hd n D S F<|(hs.eraseIdx i).set k<|ZD γ (QZ ck rv) F xs') m r):GE O P ks Q (Hd n D S F hs) m r:=λq a w f=>
 p q a w ⟨f.1,f.2.sk i k hi g d e h o he⟩
end
section
variable{α:Type}{γ:Nat}{C:Fz->Nat->α->HP}{F F0 F' :Fz}{xs:Q0 α}{i j b c:Nat}{x y:α}{H:HP}{w:By}
def zr(C:Fz->Nat->α->HP):Fz->Nat->K1 α->HP:=λF b x=>match x with | some x=>C F b x | none=>SO
theorem MB(a:HC C):HC (zr C):=λF F' b x m le h=>by
 cases x with
 | none=>exact h
 | some x=>exact a _ _ _ _ _ le h
theorem ki{bs:Q0 Nat}(a:bs[j]? =some b):List.zipWith (zr C F0) bs ((xs.map some).set j none)=(List.zipWith (C F0) bs xs).set j SO:=by
 have d:=R5 (f:=zr C F0) (xs:=xs.map some) (y:=none) a;rw[<-d,List.zipWith_map_right];rfl
theorem MT(h:SH w F (star (hole γ C F0 j b xs) H)):SH w F (star (ZD γ (zr C) F0<|(xs.map some).set j none) H):=
 h.mono λm a=>QP (λm a=>by
  obtain⟨bs,g,f,k⟩:=a;refine⟨bs,by simpa using g,QR (λm a=> ?_) k⟩;rw[ki f];have o:=(DO.1 f).1;have d:j < (List.zipWith (C F0) bs xs).length:=by simp;omega
  exact Ff (C1 d) ⟨λ_=>none,m,λ_=>.inl rfl,λ_ _ e=>by simp at e,Mem.sub.refl _,trivial,a⟩) a
theorem MA(h:SH w F (star (ZD γ (zr C) F0<|(xs.map some).set j none) H))(M:UB γ F j b)(Y:j < xs.length):SH w F (star (hole γ C F0 j b xs) H):=by
 obtain⟨m,⟨N,R,d,p,T,⟨bs,q,a⟩,W⟩,k⟩:=h
 have f:bs[j]? =some b:=by
  obtain⟨t,X,u,g,v,o,_⟩:=a;obtain⟨_,e⟩:=k.gst γ _<|p _ _<|g _ _ o;simp only[Cell.gh.injEq] at e
  rw[e];exact M.2
 rw[ki f] at a
 refine⟨m,⟨N,R,d,p,T,⟨bs,by simpa using q,f,?_⟩,W⟩,k⟩;obtain⟨t,X,u,g,v,o,hs⟩:=a;have z:bs.length=xs.length:=by simpa using q
 have a:((List.zipWith (C F0) bs xs).set j SO)[j]? =some SO:=by
  rw[mu];simp;omega
 obtain⟨Z,E,d6,t5,G,_,L⟩:=Vi a hs;rw[qAD] at L
 exact⟨t,E,λk=>(u k).imp id (λe=>by
  cases h:E k with
  | none=>rfl
  | some c=>have:=G _ _ h;rw[e] at this;cases this),g,G.trans v,o,L⟩
theorem SH.nZ(h:SH w F (star (hole γ C F0 j b xs) H))(d:UB γ F i c)(e:xs[i]? =some x)(a:i≠j):SH w F (star (C F0 c x)<|star (hole γ (zr C) F0 i c<|(xs.map some).set j none) H):=SH.sw (MT h) d (x:=some x) (by rw[mu];simp[iu a,e])
theorem SH.mA(d:HC C)(le:F0<=F')(f:UB γ F j b)(hi:i < xs.length)(g:j < xs.length)(a:i≠j)(h:SH w F (star (C F' c y)<|star (hole γ (zr C) F0 i c<|(xs.map some).set j none) H)):SH w F (star (hole γ C F' j b<|xs.set i y) H):=by
 have k:=SH.aV (y:=some y) (MB d) le h (by simpa using hi);refine MA ?_ f<|by simpa using g
 have e:((xs.map some).set j none).set i (some y)=((xs.set i y).map some).set j none:=by
  rw[iF,List.set_comm _ _ a.symm]
 rw[<-e];exact k
end
section
variable{β:Type}{P:B3}{eG:So Nm}{rest:Q0 Nm}{ks:Q0 Kt}{Q:hP->Act->By->Prop}{m:K1 β}{r:β}
variable{n:Nat}{D:Q0 AC}{S:Q0 (Nat×UV)}{F F0:Fz}{hs:Q0 HP}{ty t kt vt:S1}{pos:String}{after:So lY}{ox oy oz:L5}
variable{K V:Type}[BEq K][LawfulBEq K]{ck:K->UV}{rv:Fz->V->UV->Prop}{b c γ j i' :Nat}{l:Q0 (K×V)}{xs:Q0 (Q0<|K×V)}{key:K}{val:V}
theorem GG.tX{p:K1 Nat}{xs' :Q0 (Q0<|K×V)}{E:UV}(i:Nat)(hi:hs[i]? =some (hole γ (QZ ck rv) F0 j b xs))(d:F0<=F)(u:UB γ F j b)(R:UB γ F i' c)(T:p=some c)(e:i'≠j)(f:xs[i']? =some l)(W:P.underlying t=some (.map kt vt))(ok:Xj P kt ck)(X:QQ S ox=some (.map p))(Y:QQ S oy=some (ck key))(Z:QQ S oz=some E)(hv:∀G,F<=G->rv G val E)(he:xs' =xs.set i' (Q5 l key val))
  (k:GL O P eG rest ks Q (Hd n D S F<|hs.set i<|hole γ (QZ ck rv) F j b xs') m r):GL O P eG (⟨none,.mapUpdate t ox oy oz,ty,pos,after,none⟩::rest) ks Q (Hd n D S F hs) m r:=by
 subst T;subst he;refine GG.ab rfl (.inr rfl) λg a w h=> ?_;have L:=h.2.pull hi;have h1:=L.nZ R f e;obtain⟨es,c',l1,v,M,x,hr,y,z⟩:=Wz h1;obtain⟨o,N,q,g1,g2⟩:=GK (key:=key) (val:=val) x (hr.up d) z W ok hv;refine⟨_,?_,k g _ _ ⟨h.1.cz _,SH.push hi<|SH.mA Hf d u (DO.1 f).1 (O2 L) e<|(y.put (o' :=.map o N)).mono λm g=>QP (λm g=>⟨Q5 l1 key val,GV v M,JW M,o,N,g,g1,g2⟩) g⟩⟩;simp[execOp,h.1.eval X,h.1.eval Y,h.1.eval Z,q]
end
section
variable{α β:Type}{X:Act->By->Prop}{P:B3}{eG:So Nm}{l0:Q0 Nm}{cd:la}{ks:Q0 Kt}{Q:hP->Act->By->Prop}{m:K1 β}{r:β}{n:Nat}{D:Q0 AC}{S:Q0 (Nat×UV)}{F F0:Fz}{hs:Q0 HP}
variable{γ j b:Nat}{C:Fz->Nat->α->HP}{xs:Q0 α}
theorem SH.rP{d:Fz}(e:HC C)(le:F0<=d)(a:UB γ F j b)(h:SH w F (star (hole γ C F0 j b xs) H)):SH w F (star (hole γ C d j b xs) H):=by
 have f:j < xs.length:=by
  obtain⟨m,⟨i,k,_,_,_,⟨bs,g,a,_⟩,_⟩,_⟩:=h;rw[<-g];exact(DO.1 a).1
 exact MA (SH.aL (MB e) le<|MT h) a f
end
theorem C5{xs:Q0 α}{x:α}(h:xs[j]? =some x):xs=xs.set j x:=by
 apply mc;intro i;rw[mu];by_cases e:j=i
 ·subst e;rw[BY rfl,h,BY (DO.1 h).1]
 ·rw[B1 e]
section
variable{α τ:Type}
open Classical in
def CY(E:τ->τ->Prop)(b:α->τ->K1 τ)(l:Q0 α)(s:τ):K1 τ:=match VB b l s with
 | none=>none
 | some r=>if ∀l',l'.Perm l->∃a,VB b l' s=some a/\E a r then some r else none
theorem zo{E:τ->τ->Prop}{b:α->τ->K1 τ}{l:Q0 α}{s r:τ}(h:CY E b l s=some r):∀l',l'.Perm l->∃a,VB b l' s=some a/\E a r:=by
 unfold CY at h
 split at h
 ·cases h
 ·split at h
  ·rename_i d;simp only[W1] at h
   subst h;exact d
  ·cases h
theorem qF{E:τ->τ->Prop}{b:α->τ->K1 τ}{l:Q0 α}{s r:τ}(d:VB b l s=some r)(h:∀l',l'.Perm l->∃a,VB b l' s=some a/\E a r):CY E b l s=some r:=by
 unfold CY;rw[d];exact BY h
theorem RH{c:la}{I:Q0 α->Q0 α->τ->Act->By->Prop}{b:α->τ->K1 τ}{l:Q0 α}
  (round:∀ed done s,(∀x∈ed,∃h,b x s=some h)->∀a w,I ed done s a w->c.wpIn (Ry O) 0 P (G9 B I b ed done s) a w):∀(n:Nat) (ed done:Q0 α) (s:τ),ed.length=n->(∀l',l'.Perm ed->∃r,VB b l' s=some r)->(done++ed).Perm l->∀a w,I ed done s a w->
   ∀(fr:Frame) (k:Q0 Item) (cs:Q0 Frame),fr.roundOf=(Ry O).round->∃z w' d R l',d.Perm l/\l'.Perm ed/\VB b l' s=some R/\I [] d R z w'/\ArrivesIn (Machine.fenced P<|Ry O) P (lone (fr.atR a<|.code c:: .inLoop c::k) cs w) fr k cs (.exit B) z w'
 | n,ed,done,s,Y,i,f,a,w,G,fr,k,cs,v=>by
  have L:∀x∈ed,∃h,b x s=some h:=λx M=>by
   obtain⟨N,l2,e⟩:=lP M;have u:(x::(N++l2)).Perm ed:=by rw[e];exact List.perm_middle.symm
   obtain⟨r,this⟩:=i _ u;simp only[VB] at this
   cases y:b x s with
   | none=>rw[y] at this;cases this
   | some h=>exact⟨h,rfl⟩
  obtain⟨e,a₁,w₁,T,o⟩:=round ed done s L a w G fr (.inLoop c::k) cs v (B7 O _)<|BR O _;rcases T with⟨rfl,rfl,p⟩ | ⟨rfl,x,rest,h,u,y,p⟩
  ·exact⟨a₁,w₁,done,s,[],by simpa using f,.refl _,rfl,p,.pass (x:=.inLoop c) rfl (λ_ _=>.inl eF) o⟩
  ·have E:rest.length < n:=by have:=u.length_eq;simp at this;omega
   have q:∀l',l'.Perm rest->∃r,VB b l' h=some r:=λl' t=>by
    obtain⟨r,this⟩:=i (x::l')<|(t.cons x).trans u;exact⟨r,by simpa[VB,y] using this⟩
   have g:(x::done++rest).Perm l:=by
    refine List.Perm.trans ?_ f;have W:(x::done++rest).Perm (done++x::rest):=List.perm_middle.symm;exact W.trans<|u.append_left done
   obtain⟨a₂,w₂,done₂,R,l',hd₂,t,X,hI₂,harr₂⟩:=RH round rest.length rest (x::done) h rfl q g a₁ w₁ p fr k cs v;exact⟨a₂,w₂,done₂,R,x::l',hd₂,(t.cons x).trans u,by simp[VB,y,X],hI₂,.of_steps (td o<|.one (oM (n:=0) (B7 O _) (BR O _) rfl) ir) harr₂⟩
termination_by n=>n
theorem GG.tG{h:Q0 Kt}{c:la}{l:Q0 α}{b:α->τ->K1 τ}{i:τ}{f:τ->K1 β}(E:τ->τ->Prop)(I:Q0 α->Q0 α->τ->Act->By->Prop)(L:CZ B ks=some h)
  (M:∀a w,A a w->I l [] i a w) (N:∀done R p a w,E p R->I [] done p a w->I [] done R a w)
  (round:∀ed done s,(∀x∈ed,∃T,b x s=some T)->GC O P c [] (G9 B I b ed done s) (I ed done s) (some ()) ())
  (after:∀done R,CY E b l i=some R->done.Perm l->GE O P h Q (I [] done R) (f R) r):GC O P (.loop c) ks Q A ((CY E b l i).bind f) r:=by
 intro q a w W;cases t:CY E b l i with
 | none=>rw[t] at q;cases q
 | some R=>
  rw[t] at q
  have d:=zo t;intro fr k cs v X Y;obtain⟨y,w',done,p,l',Z,e,z,g,o⟩:=RH (I:=I) (b:=b) (l:=l) (λed done s hx a w g=>round ed done s hx rfl a w g) l.length l [] i rfl (λl' e=>let⟨G,u,_⟩:=d l' e;⟨G,u⟩) eF a w (M a w W) fr k cs v;obtain⟨G,u,h2⟩:=d l' e;rw[z] at u
  cases u;exact⟨.exit B,y,w',ZE L<|after done R t Z q y w'<|N done R p y w' h2 g,.of_steps (.one (oM X Y rfl) stepR_loop) o⟩
end
def PI(xs a:Q0 (Q0 α)):Prop:=xs.length=a.length/\∀(i:Nat) (x y:Q0 α),xs[i]? =some x->a[i]? =some y->x.Perm y
theorem SH.al{xs f:Q0 α}(u:xs.length=f.length)(v:∀(i:Nat) x y b m,xs[i]? =some x->f[i]? =some y->C F0 b x m->C F0 b y m)(h:SH w F (star (ZD γ C F0 xs) H)):SH w F (star (ZD γ C F0 f) H):=
 h.mono λm g=>QP (λm ⟨bs,k,hs⟩=>⟨bs,k.trans u,QR (λm g=>D8 (by simp[u]) (λi p q a d m z=>by
  rw[lk] at a d
  cases e:bs[i]? with
  | none=>rw[e] at a;simp at a
  | some b=>
   cases o:xs[i]? with
   | none=>rw[e,o] at a;simp at a
   | some x=>
    cases t:f[i]? with
    | none=>rw[e,t] at d;simp at d
    | some y=>rw[e,o] at a;rw[e,t] at d;simp at a d;subst a;subst d;exact v i x y b _ o t z) g) hs⟩) g
section
variable{K V:Type}{ck:K->UV}{rv:Fz->V->UV->Prop}{γ j b:Nat}{xs ys:Q0 (Q0<|K×V)}{n:Nat}{D:Q0 AC}{S:Q0 (Nat×UV)}{F F0:Fz}{hs:Q0 HP}{a:Act}{w:By}
theorem Hd.nz(i:Nat)(hi:hs[i]? =some (hole γ (QZ ck rv) F0 j b xs))(v:UB γ F j b)(k:PI xs ys)(q:Hd n D S F hs a w):Hd n D S F (hs.set i<|hole γ (QZ ck rv) F0 j b ys) a w:=by
 refine⟨q.1,SH.push hi ?_⟩;have t:=q.2.pull hi;have z:=O2 t;refine MA ?_ v (by rw[<-k.1];exact z);refine(MT t).al (by simp[k.1]) λh x y b' m d f u=> ?_;rw[mu] at d f
 by_cases e:j=h
 ·simp only[e,B2] at d f
  split at d
  ·split at f
   ·cases d;cases f;exact u
   ·cases f
  ·cases d
 ·rw[B1 e,x8] at d f
  cases o:xs[h]? with
  | none=>rw[o] at d;cases d
  | some E=>
   cases p:ys[h]? with
   | none=>rw[p] at f;cases f
   | some G=>
    rw[o] at d;rw[p] at f
    simp only[L4,W1] at d f
    subst d;subst f;obtain⟨l',L,M,N⟩:=u;have g:=k.2 h E G o p;exact⟨l',L.trans g,((g.map Prod.fst).nodup_iff).1 M,N⟩
end
end
section
variable{O:K1 Nat}{μ:Md}
section
variable{K V:Type}{ck:K->UV}{rv:Fz->V->UV->Prop}{γ:Nat}{F:Fz}{A:Q0 (Q0<|K×V)}{x p:K1 Nat}{P:B3}{f:Rw}
def Mg(A:Q0 (Q0<|K×V))(x:K1 Nat):K1 (K1 Nat×Q0 (Q0<|K×V)):=
 match x with
 | none=>some (none,A)
 | some i=>(A[i]?).bind λl=>some (some A.length,A++[l])
theorem fE(h:Z3 γ F p x)(k:∀b es clock w,w.heap[b]? =some (.map es clock)->Calls P f #[.map<|some b] w λe w' =>e= .returned (.map<|some w.heap.size)/\w' =w.alloc (.map es clock))
  (g:∀w,Calls P f #[.map none] w λe w' =>e= .returned (.map none)/\w' =w):Xs P f [.map p].toArray F [ZD γ (QZ ck rv) F A] (Mg A x) (fun(r:K1 Nat×Q0 (Q0<|K×V)) F v=>∃(s:K1 Nat) (_k0:Unit),v= .map s/\Z3 γ F s r.1) (λr j=>[ZD γ (QZ ck rv) j r.2]):=by
 intro r a w R t;have u:SH w F (Qh<|[ZD γ (QZ ck rv) F A]++[R]):=t.mono λm a=>K7<|QR (λ_ h=>Jy h) a;cases x with
 | none=>
  have y:p=none:=h;subst y;simp only[Mg,W1] at a
  subst a;refine(g w).mono ?_;rintro e w' ⟨rfl,rfl⟩;exact⟨F,_,Fz.le_refl _,rfl,⟨none,(),rfl,rfl⟩,t⟩
 | some i=>
  obtain⟨b,z,rfl⟩:=h;simp only[Mg] at a
  cases n:A[i]? with
  | none=>rw[n] at a;cases a
  | some l=>
   rw[n] at a
   simp only[K2,W1] at a
   subst a;obtain⟨es,c,l',o,B,d,C,q⟩:=SH.ae (H:=Qh [R]) u z n;refine(k b es c w d).mono ?_;rintro e w' ⟨rfl,rfl⟩;have D:=u.alloc<|.map es c;obtain⟨j,le,E,G⟩:=SH.rn (x:=l) (H:=Qh [R]) (xs:=A) Hf (Fz.le_refl F) D λj m le a=>⟨l',o,B,es,c,a,C.up le,q⟩;exact⟨j,_,le,rfl,⟨some w.heap.size,(),rfl,_,E,rfl⟩,G.mono λm a=>XM<|Yx (l:=[ZD γ (QZ ck rv) j<|A++[l]]) a⟩
end
def dc(i j:Nat):K1 Unit:=if i=j then none else some ()
theorem uD{i j:Nat}{u:Unit}(h:dc i j=some u):i≠j:=λe=>by simp[dc,e] at h
end
section
variable{ms:So (String×S1)}{Q:hP->Act->Q0 Frame->By->Prop}{S:Q0 (Nat×UV)}{ε:Type}{Hp:ε->Fz->Q0 HP}{Hs hs:Q0 HP}{P:B3}{eG:So Nm}{f:Rw}{cs:Q0 Frame}{fn:lX}{w:By}{v:UV}{F:Fz}{n:Nat}{a:Act}
variable{O:K1 Nat}{μ:Md}
def wN(P:B3)(ec:ε->UV)(f:Rw)(args:So UV)(F:Fz)(Hs:Q0 HP)(Hp:ε->Fz->Q0 HP):Prop:=
 (∀w R,SH w F (star (Qh Hs) R)->CallsDIn Fence.wide 0 P f args .returning w (λe b w' =>b= .returning/\(∃v,e= .returned v)/\SH w' F (star (Qh Hs) R)))/\
 ∀q w R,SH w F (star (Qh Hs) R)->CallsDIn Fence.wide 0 P f args (.panicking [{v:=ec q,recovered:=false}]) w (λe b w' =>b= .panicking [{v:=ec q,recovered:=true}]/\(∃v,e= .returned v)/\∃c,F<=c/\SH w' c (star (Qh<|Hp q c) R))
def jL(P:B3)(fn:lX)(F:Fz)(Hs:Q0 HP)(R:HP):hP->Act->By->Prop:=λe a w=>(e= .normal∨e= .ret)/\a.defers=[]/\(∃v,(results fn a.tmps).run P w= .ok v w)/\SH w F (star (Qh Hs) R)
def jK(P:B3)(fn:lX)(F:Fz)(Hp:Fz->Q0 HP)(R:HP):hP->Act->By->Prop:=λe a w=>(e= .normal∨e= .ret)/\a.defers=[]/\(∃v,(results fn a.tmps).run P w= .ok v w)/\∃b,F<=b/\SH w b (star (Qh<|Hp b) R)
section
variable{ε:Type}{P:B3}{ec:ε->UV}{f:Rw}{fn:lX}{n i0 d0 d1:Nat}{args:Q0 UV}{F:Fz}{Hs:Q0 HP}{Hp:ε->Fz->Q0 HP}{rest:la}{T0:So S1}{ty0 ty1:S1}{pos0 pos1:String}{after0 after1:So lY}
theorem I3{ev:L5->UV}:(execOp ev ⟨some d0,.call ⟨.builtin .recover,#[],T0⟩,ty0,pos0,after0,none⟩).run P w= .ok .recover w:=by
 simp[execOp,resolve,invoke,builtin]
theorem zs{i:Nat}{rest:Q0 Nat}{o:Nm}{w':By}(b:eG[i]? =some o)(c:Region.wanted o (yielded eG a.tmps)=true)(d:(execOp a.eval o).run P w= .ok (.value v) w')(h:wpOpsSIn Fence.wide 0 P eG Q rest (a.put o.dst v) cs w'):wpOpsSIn Fence.wide 0 P eG Q (i::rest) a cs w:=by
 simp only[wpOpsSIn,b];exact⟨λ_ _=>trivial,by rw[BY c,d];exact h⟩
theorem Oi{i:Nat}{rest:Q0 Nat}{o:Nm}{cs':Q0 Frame}{w':By}(d:eG[i]? =some o)(e:Region.wanted o (yielded eG a.tmps)=true)(c:(execOp a.eval o).run P w= .ok .recover w')(b:(match recoverD cs with | some (v,cs')=>(v,cs') | none=>(.nilIface,cs))=(v,cs'))(h:wpOpsSIn Fence.wide 0 P eG Q rest (a.put o.dst v) cs' w'):wpOpsSIn Fence.wide 0 P eG Q (i::rest) a cs w:=by
 simp only[wpOpsSIn,d];refine⟨λ_ _=>trivial,?_⟩;rw[BY e,c];cases c:recoverD cs with
 | none=>
  rw[c] at b
  simp only[L0] at b
  obtain⟨rfl,rfl⟩:=b;exact h
 | some p=>
  obtain⟨j,g⟩:=p;rw[c] at b
  simp only[L0] at b
  obtain⟨rfl,rfl⟩:=b;exact h
theorem C8{cs':Q0 Frame}
   (c:Sl n [] S a) (d:Nat.blt d0 n=true) (e:Nat.blt d1 n=true)
  (b:(match recoverD cs with | some (v,cs')=>(v,cs') | none=>(.nilIface,cs))=(v,cs')) (k:∀h,Sl n [] ((d1,v)::(d0,v)::S) h->Q .normal h cs' w):wpOpsSIn Fence.wide 0 P #[⟨some d0,.call ⟨.builtin .recover,#[],T0⟩,ty0,pos0,after0,none⟩,⟨some d1,.assign<|.tmp d0,ty1,pos1,after1,none⟩] Q [0,1] a cs w:=by
 have j:=c.put d v;have l:=j.put e v;have g:(a.put (some d0) v).eval (.tmp d0)=v:=j.eval (by simp[QQ,K4]);refine Oi (i:=0) (w' :=w) (o:=⟨some d0,.call ⟨.builtin .recover,#[],T0⟩,ty0,pos0,after0,none⟩) rfl (by simp[Region.wanted]) I3 b ?_;refine zs (i:=1) (v:=v) (w' :=w) (o:=⟨some d1,.assign<|.tmp d0,ty1,pos1,after1,none⟩) rfl (by simp[Region.wanted]) (by simp[execOp,g]) ?_;exact k _ l
theorem wN.mk(p:P.funcs[f]? =some fn)(r:fn.body=some (.seq (.region i0 #[⟨some d0,.call ⟨.builtin .recover,#[],T0⟩,ty0,pos0,after0,none⟩,⟨some d1,.assign<|.tmp d0,ty1,pos1,after1,none⟩] false) rest))(s:fn.ntmps=n)(t:Nat.ble args.length n=true)(c:Nat.blt d0 n=true)(d:Nat.blt d1 n=true)
  (x:∀R,GC none P rest [] (jL P fn F Hs R) (Hd n [] ((d1,.nilIface)::(d0,.nilIface)::D2 0 args) F<|Hs++[R]) (some ()) ())
  (y:∀q R,GC none P rest [] (jK P fn F (Hp q) R) (Hd n [] ((d1,ec q)::(d0,ec q)::D2 0 args) F<|Hs++[R]) (some ()) ()):wN P ec f args.toArray F Hs Hp:=by
 refine⟨λw R j=> ?_,λq w R j=> ?_⟩
 ·refine callsDIn_of_wpSIn p r trivial λc₀ cs k=> ?_;refine wpSIn_seq (wpSIn_region<|C8 (n:=n) (v:=.nilIface) (cs' :=c₀::cs) (S:=D2 0 args) (by rw[s];exact WA t) c d (by simp[recoverD,k]) λl b=> ?_);refine wpSIn_of_wpIn rfl<|oD (x R rfl l w ⟨b,j.mono λm o=>K7<|QR (λ_ h=>Jy h) o⟩) ?_;rintro e z A ⟨he,g,⟨v,i⟩,hs⟩;have u:c₀::cs={c₀ with mode:=.returning}::cs:=by cases c₀;simp_all
  rcases he with rfl | rfl
  ·exact⟨g,.returning,u,v,i,rfl,⟨v,rfl⟩,hs⟩
  ·exact⟨g,.returning,u,v,i,rfl,⟨v,rfl⟩,hs⟩
 ·refine callsDIn_of_wpSIn p r trivial λc₀ cs k=> ?_;refine wpSIn_seq (wpSIn_region<|C8 (n:=n) (v:=ec q) (cs' :={c₀ with mode:=.panicking [{v:=ec q,recovered:=true}]}::cs) (S:=D2 0 args) (by rw[s];exact WA t) c d (by simp[recoverD,k]) λl b=> ?_);refine wpSIn_of_wpIn rfl<|oD (y q R rfl l w ⟨b,j.mono λm o=>K7<|QR (λ_ h=>Jy h) o⟩) ?_;rintro e z A ⟨he,g,⟨v,i⟩,hs⟩;rcases he with rfl | rfl
  ·exact⟨g,_,rfl,v,i,rfl,⟨v,rfl⟩,hs⟩
  ·exact⟨g,_,rfl,v,i,rfl,⟨v,rfl⟩,hs⟩
end
section
variable{P:B3}{n:Nat}{S:Q0 (Nat×UV)}{F F' :Fz}{hs Hs:Q0 HP}{fn:lX}{R:HP}{Hp:Fz->Q0 HP}
theorem Pv(is:Q0 Nat)(d:fn.results=#[])(hi:YN is hs=Hs++[R]):some ()=some ()->∀a w,Hd n [] S F hs a w->jL P fn F Hs R .normal a w:=by
 intro _ a w b;refine⟨.inl rfl,b.1.2.1,⟨_,Jm (rs:=[]) (by simpa using d) b .nil⟩,b.2.mono λm e=> ?_⟩;have c:=Yw (ks:=is) e;rw[hi] at c
 exact XM<|Yx c
theorem Pu(is:Q0 Nat)(d:fn.results=#[])(hi:YN is hs=Hp F' ++[R])(le:F<=F'):some ()=some ()->∀a w,Hd n [] S F' hs a w->jK P fn F Hp R .normal a w:=by
 intro _ a w b;refine⟨.inl rfl,b.1.2.1,⟨_,Jm (rs:=[]) (by simpa using d) b .nil⟩,F',le,b.2.mono λm e=> ?_⟩;have c:=Yw (ks:=is) e;rw[hi] at c
 exact XM<|Yx c
end
section
variable{β:Type}{P:B3}{n:Nat}{S:Q0 (Nat×UV)}{F F' :Fz}{hs:Q0 HP}
variable{G ε:Type}{ec:ε->UV}{fn:lX}{R:HP}{ρ:G->β->Fz->UV->Prop}{Hs' :G->β->Fz->Q0 HP}{x r:β}{rs:Q0 ResultVar}{vs:Q0 UV}{U:G}
theorem PX{eb:Q0 UV}{Hp:ε->Fz->Q0 HP}(b:Q0 Nat)(c:∀args w,(callFunc f args).run P w= .ok (.enter f args) w)(o:wN P ec f eb.toArray F' Hs Hp)(g:YN b hs=Hs)(is:Q0 Nat)(p:fn.results=rs.toArray)(h:Ss P S F' (Hs++YF b hs) rs vs)(hi:YN is (Hs++YF b hs)=Hs' U x F' ++[R])(le:F<=F')(hρ:ρ U x F' (AU vs)):some x=some r->∀a w,Hd n [Px f eb] S F' hs a w->AE P fn F R ρ Hs' r .ret a w:=by
 intro e a w d;simp only[W1] at e
 subst e;show LeavesIn Fence.wide 0 P fn a.tmps _ a.defers .returning w;rw[d.1.2.1]
 have i:SH w F' (star (Qh Hs)<|Qh<|YF b hs):=d.2.mono λm j=>by
  have:=UJ (ks:=b) j;rw[g] at this;exact this
 refine ie eF (λe=>by cases e) (TD c) Pk<|(o.1 w _ i).mono ?_;rintro _ _ w' ⟨rfl,⟨v,rfl⟩,q⟩;have k:SH w' F' (Qh<|Hs++YF b hs):=q.mono λ_=>K7;refine⟨_,Jm (n:=n) (a:=a) (D:=a.defers) p ⟨⟨d.1.1,rfl,d.1.2.2⟩,k⟩ h,U,F',_,le,rfl,hρ,k.mono λm j=> ?_⟩;have l:=Yw (ks:=is) j;rw[hi] at l
 exact XM<|Yx l
theorem EL{eb:Q0 UV}{Hp:ε->Fz->Q0 HP}{q:ε}(j:Nat)(c:∀args w,(callFunc f args).run P w= .ok (.enter f args) w)(t:wN P ec f eb.toArray F' Hs Hp)(is:Q0 Nat)(hi:YN is hs=Hs)(u:fn.results=rs.toArray)(h:∀b,F'<=b->Ss P S b (Hp q b++YF is hs) rs vs)(y:∀b,(Hp q b++YF is hs)[j]? =some R)(le:F<=F')
  (d:∀w F R,SH w F R->∃U b,F<=b/\SH w b (star (Qh<|Hs' U x b) R)) (hρ:∀U b,ρ U x b<|AU vs):some x=some r->∀a w,Hd n [Px f eb] S F' hs a w->AE P fn F R ρ Hs' r (.panic [{v:=ec q,recovered:=false}]) a w:=by
 intro e a w i;simp only[W1] at e
 subst e;show LeavesIn Fence.wide 0 P fn a.tmps _ a.defers (.panicking _) w;rw[i.1.2.1]
 have l:SH w F' (star (Qh Hs)<|Qh<|YF is hs):=i.2.mono λm z=>by
  have:=UJ (ks:=is) z;rw[hi] at this;exact this
 refine ie eF (λe=>by cases e) (TD c) Pk<|(t.2 q w _ l).mono ?_;rintro _ _ w' ⟨rfl,⟨v,rfl⟩,k,g,A⟩;have p:SH w' k (Qh<|Hp q k++YF is hs):=A.mono λ_=>K7;obtain⟨U,s,o,B⟩:=d _ _ _<|p.only<|y k;exact⟨_,Jm (n:=n) (a:=a) (D:=a.defers) u ⟨⟨i.1.1,rfl,i.1.2.2⟩,p⟩<|h k g,U,s,_,Fz.le_trans le<|Fz.le_trans g o,rfl,hρ U s,B⟩
end
section
variable{β:Type}{P:B3}{eG:So Nm}{rest:Q0 Nm}{ks:Q0 Kt}{Q:hP->Act->By->Prop}{m:K1 β}{r:β}
variable{n:Nat}{D:Q0 AC}{S:Q0 (Nat×UV)}{F:Fz}{hs:Q0 HP}{d:Nat}{ty t t' tx:S1}{pos:String}{after:So lY}{ox oy:L5}{v:UV}
theorem uf(b:P.underlying t=some (.interface ms))(k:Nat)(w:By):(Op.equalIn (k+1) t .nilIface .nilIface).run P w= .ok true w:=by
 simp[Op.equalIn,YG b]
theorem IC(b:P.underlying t=some (.interface ms))(k:Nat)(w:By):(Op.equalIn (k+1) t (.iface tx v) .nilIface).run P w= .ok false w:=by
 simp[Op.equalIn,YG b]
theorem xT(b:P.underlying t=some (.interface ms))(w:By):(Op.equal t .nilIface .nilIface).run P w= .ok true w:=uf b 9999 w
theorem qk(b:P.underlying t=some (.interface ms))(w:By):(Op.equal t (.iface tx v) .nilIface).run P w= .ok false w:=IC b 9999 w
theorem GG.aq(b:Nat.blt d n=true)(c:P.underlying t=some (.interface ms))(e:QQ S ox=some .nilIface)(k:GL μ P eG rest ks Q (Hd n D ((d,.bool false)::S) F hs) m r):GL μ P eG (⟨some d,.binOp .neq t ox (.const .nilIface) t',ty,pos,after,none⟩::rest) ks Q (Hd n D S F hs) m r:=
 GG.val b (λa w g=>by
  have h:a.eval (.const .nilIface)= .nilIface:=rfl;simp[execOp,g.1.eval e,h,eqGuard,binOp,xT c]) k
theorem GG.ao(b:Nat.blt d n=true)(c:P.underlying t=some (.interface ms))(e:QQ S ox=some (.iface tx v))(k:GL μ P eG rest ks Q (Hd n D ((d,.bool true)::S) F hs) m r):GL μ P eG (⟨some d,.binOp .neq t ox (.const .nilIface) t',ty,pos,after,none⟩::rest) ks Q (Hd n D S F hs) m r:=
 GG.val b (λa w g=>by
  have h:a.eval (.const .nilIface)= .nilIface:=rfl;simp[execOp,g.1.eval e,h,eqGuard,binOp,qk c]) k
theorem GG.ai{b:oh}(c:Nat.blt d n=true)(e:P.underlying tx=some b)(i:∀ms,b≠.interface ms)(g:QQ S ox=some (.iface tx v))(k:GL O P eG rest ks Q (Hd n D ((d,.tuple #[v,.bool true])::S) F hs) m r):GL O P eG (⟨some d,.typeAssert ox t tx true,ty,pos,after,none⟩::rest) ks Q (Hd n D S F hs) m r:=
 GG.val c (λa w h=>by
  have:(Instr.typeAssert (.iface tx v) t tx true).run P w= .ok (.tuple #[v,.bool true]) w:=by
   cases b<;>simp_all [Instr.typeAssert,YG e]
  simp[execOp,h.1.eval g,this]) k
end
theorem qN{X:HP}{m:Mem}(h:X m):star (Qh []) X m:=⟨λ_=>none,m,λ_=>.inl rfl,λ_ _ e=>by simp at e,Mem.sub.refl _,trivial,h⟩
theorem H9{α:Type}{γ:Nat}{C:Fz->Nat->α->HP}{R:HP}{m:Mem}(h:star (Qh hs) (star (yQ γ []) R) m):star (Qh<|ZD γ C F []::hs) R m:=by
 have c:=UX<|Zj h;exact QP (λm b=>QP (λm b=>⟨[],rfl,m,λ_=>none,λ_=>.inr rfl,Mem.sub.refl _,λ_ _ e=>by simp at e,b,trivial⟩) b) c
end
end Go.Dec
end
