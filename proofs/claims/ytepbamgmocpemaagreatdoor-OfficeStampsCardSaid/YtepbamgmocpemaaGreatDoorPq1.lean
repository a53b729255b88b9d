/- For OfficeStamps. -/
import Derived.Test.YtepbamgmocpemaaGreatDoorPq0
import Derived.RecoverIn
import Derived.LaidEql
noncomputable section
namespace Go.Dec
abbrev x6:=@Bool.not_true
abbrev x8:=@List.mem_cons_of_mem
abbrev bY:=@Prod.mk.injEq
abbrev nT:=@List.filter_congr
abbrev nu:=@List.filter_cons
abbrev mB:=@beq_iff_eq
abbrev mM:=@List.nodup_cons
abbrev mU:=@List.filter_eq_self
abbrev mY:=@Bool.and_true
abbrev ma:=@List.find?_cons
abbrev mj:=@List.getElem_map
abbrev mr:=@List.append_of_mem
abbrev lY:=@LawfulBEq.eq_of_beq
abbrev lz:=@List.length_map
abbrev eB:=@List.map_map
abbrev eK:=@List.pairwise_iff_getElem
abbrev oH:=@Array.contains_push
abbrev oO:=@Nat.ne_of_lt
abbrev oP:=@Nat.lt_trichotomy
abbrev og:=@List.head?_cons
abbrev oh:=@List.filter_map
abbrev o5:=@leavesIn_cons
abbrev iD:=@List.eraseIdx_cons_zero
abbrev iK:=@callsIn_of_wp_defers
abbrev iM:=@List.eraseIdx_set_eq
abbrev iP:=@Bool.not_or
abbrev iR:=@List.filter_sublist
abbrev iT:=@Array.toList_modify
abbrev iZ:=@callsDIn_of_wpSIn
end Go.Dec
namespace Go.Dec
section
variable{K V α β:Type}{l l' l1:UV (K×V)}{es:Of nS}{p:H1 Nat}{w:PP}{b γ j c:Nat}{xs:UV α}{T:Of If}{F F0 G:Fz}{k:K}{vv zv:Do}{H:HP}{x:α}
variable{O:H1 Nat}{μ:Md}
theorem ZP.at{p:H1 OF}{x:H1 Nat}{i:Nat}(h:ZP γ F p x)(e:x=some i):∃b,UE γ F i b/\p=some ⟨b,0,none⟩:=by subst e;exact h
theorem Zy.at{x:H1 Nat}{i:Nat}(h:Zy γ F p x)(e:x=some i):∃b,UE γ F i b/\p=some b:=by subst e;exact h
theorem ZZ{ys:UV α}{y:α}(h:xs[j]? =some x)(e:ys=xs.set j y):ys[j]? =some y:=by
 subst e;rw[mS];simp[(AC.1 h).1]
section
variable{α:Type}{γ T j b:Nat}{c:Uk α}{xs:UV α}{x:α}{F F0:Fz}{w:PP}{H:HP}
theorem SH.sO(h:SH w F (star (ZB γ (WW T c) F0 xs) H))(hb:UE γ F j b)(hx:xs[j]? =some x):∃vs:UV Do,(∀F',F0<=F'->c F' x vs)/\w.heap[b]? =some (.cells vs.toArray T):=by
 obtain⟨m,⟨m1,_,_,s1,_,⟨vs,h1,h2⟩,_⟩,k⟩:=h.sR hb hx;exact⟨vs,h1,k.tu<|s1 _ _ h2⟩
theorem SH.tn{o:Nat}{us:UV Do}{x' :α}(h:SH w F (star (ZB γ (WW T c) F0 xs) H))(hb:UE γ F j b)(hx:xs[j]? =some x)(le0:F0<=G)(hr:∀F' vs,G<=F'->c F' x vs->c F' x' (Ku vs o us)):∃vs:UV Do,(∀F',F0<=F'->c F' x vs)/\w.heap[b]? =some (.cells vs.toArray T)/\SH (Dec.put w b<|.cells (Ku vs o us).toArray T) F (star (ZB γ (WW T c) G<|xs.set j x') H):=by
 obtain⟨m,⟨m1,m2,d,s1,s2,⟨vs,h1,h2⟩,h3⟩,k⟩:=h.sR hb hx;have hs:SH w F (star (pt b<|.cells vs.toArray T)<|star (hole γ (WW T c) F0 j b xs) H):=⟨m,⟨m1,m2,d,s1,s2,h2,h3⟩,k⟩;refine⟨vs,h1,k.tu<|s1 _ _ h2,?_⟩;have h4:=hs.put (o' :=.cells (Ku vs o us).toArray T);refine SH.aO (F0:=F0) (b:=b) WW.stays le0 (h4.mono λm hm=>QQ (λm hm=>⟨Ku vs o us,λF' le=>hr F' vs le<|h1 F'<|Fz.le_trans le0 le,hm⟩) hm) (AC.1 hx).1
end
section
variable{β:Type}{P:RK}{ops:Of x5}{rest:UV x5}{ks:UV Kt}{Q:nN->Act->PP->Prop}{m:H1 β}{r:β}
variable{n:Nat}{D:UV q8}{S:UV (Nat×Do)}{F F0:Fz}{hs:UV HP}
variable{d:Nat}{d' :H1 Nat}{ty t e:If}{pos:String}{after:Of lL}{ox oy oz:dO}{v:Do}
theorem GG.dp{a:OF}{p:H1 OF}(hp:p=some a)(hd:Nat.blt d n=true)(hx:QO S ox=some (.pointer p))(k:GL μ P ops rest ks Q (Hd n D ((d,.pointer<|some a)::S) F hs) m r):GL μ P ops (⟨some d,.nilCheck ox,ty,pos,after,none⟩::rest) ks Q (Hd n D S F hs) m r:=by
 subst hp;exact GG.nilCheck hd hx k
section
variable{α:Type}{γ T j b o:Nat}{c:Uk α}{xs:UV α}{x:α}
theorem GG.dx{Φ:Do->Prop}(i:Nat)(hi:hs[i]? =some (ZB γ (WW T c) F0 xs))(le0:F0<=F)(hb:UE γ F j b)(hel:xs[j]? =some x)(hd:Nat.blt d n=true)(hA:∀w,(isAgg t).run P w= .ok false w)
  (hx:QO S ox=some (.pointer<|some ⟨b,o,none⟩)) (hg:∀vs,c F x vs->∃v,vs[o]? =some v/\Φ v) (k:∀v,Φ v->GL μ P ops rest ks Q (Hd n D ((d,v)::S) F hs) m r):GL μ P ops (⟨some d,.load t ox,ty,pos,after,none⟩::rest) ks Q (Hd n D S F hs) m r:=by
 refine GG.cr rfl rfl λhm a w ha=> ?_;obtain⟨vs,h1,h2⟩:=(ha.2.pull hi).sO hb hel;obtain⟨v,hv,hΦ⟩:=hg _<|h1 F le0;refine⟨v,?_,k v hΦ hm _ _ ⟨ha.1.put hd _,ha.2⟩⟩;simp[execOp,ha.1.eval hx,Dk hA (by rw[cell_of_heap h2];exact hv)]
theorem GG.cN{z:Nat}{Φ:UV Do->Prop}(i:Nat)(hi:hs[i]? =some (ZB γ (WW T c) F0 xs))(le0:F0<=F)(hb:UE γ F j b)(hel:xs[j]? =some x)(hd:Nat.blt d n=true)(hA:∀w,(isAgg t).run P w= .ok true w)(hz:∀w,(sizeOf t).run P w= .ok z w)
  (hx:QO S ox=some (.pointer<|some ⟨b,o,none⟩)) (hg:∀vs,c F x vs->∃us,(vs.drop o).take z=us/\us.length=z/\Φ us) (k:∀us,Φ us->GL μ P ops rest ks Q (Hd n D ((d,.agg us.toArray)::S) F hs) m r):GL μ P ops (⟨some d,.load t ox,ty,pos,after,none⟩::rest) ks Q (Hd n D S F hs) m r:=by
 refine GG.cr rfl rfl λhm a w ha=> ?_;obtain⟨vs,h1,h2⟩:=(ha.2.pull hi).sO hb hel;obtain⟨us,hv,hul,hΦ⟩:=hg _<|h1 F le0;refine⟨.agg us.toArray,?_,k us hΦ hm _ _ ⟨ha.1.put hd _,ha.2⟩⟩;simp[execOp,ha.1.eval hx,SY hA hz h2 hv hul]
theorem GG.bP{N sz' :Nat}{us:UV Do}{x' :α}{xs' :UV α}(i:Nat)(hi:hs[i]? =some (ZB γ (WW T c) F0 xs))(le0:F0<=G)(le1:G<=F)(hN:∀F' vs,c F' x vs->vs.length=N)(hz:∀w,(sizeOf t).run P w= .ok sz' w)(hb:UE γ F j b)(hel:xs[j]? =some x)
  (hx:QO S ox=some (.pointer<|some ⟨b,o,none⟩)) (hy:QO S oy=some v) (hc:v.cells=us.toArray) (hlen:us.length=sz') (h1:us.all Value.oneCell' =true) (hs' :Nat.ble (o+sz') N=true)
  (hr:∀F' vs,G<=F'->c F' x vs->c F' x' (Ku vs o us)) (he:xs' =xs.set j x')
  (k:GL O P ops rest ks Q (Hd n D S F<|hs.set i<|ZB γ (WW T c) G xs') m r):GL O P ops (⟨none,.store t ox oy,ty,pos,after,none⟩::rest) ks Q (Hd n D S F hs) m r:=by
 subst he;refine GG.sS rfl (.inr rfl) λhm a w ha=> ?_;obtain⟨vs,g1,g2,g3⟩:=(ha.2.pull hi).tn (o:=o) (us:=us) hb hel le0 hr;have hl:=hN _ _<|g1 F<|Fz.le_trans le0 le1;have hs'' :=j3 hs';refine⟨_,?_,k hm _ _ ⟨ha.1.bh _,SH.push hi g3⟩⟩;have hrun:=XE (P:=P) (o:=o) (i:=0) g2 (by omega) h1;simp only[oQ] at hrun
 simp only[execOp,Instr.storeAt,ha.1.eval hx,ha.1.eval hy,Instr.sureAddr,storeVar,r7,hz,Result.andThen,hc];simp[hlen,hrun]
end
section
variable{K V:Type}[BEq K][LawfulBEq K]
theorem Ah:∀{l:UV (K×V)} {k:K} {v:V},Qc l k=some v->(k,v)∈l
 | [],_,_,h=>by cases h
 | x::l,k,v,h=>by
  simp only[Qc] at h
  split at h
  ·rename_i hb;simp only[BY] at h
   have:=lY hb;subst this;subst h;simp
  ·exact x8 _<|Ah h
theorem DR:∀{l:UV (K×V)} {k:K} {v:V},(l.map Prod.fst).Nodup->(k,v)∈l->Qc l k=some v
 | [],_,_,_,h=>by cases h
 | x::l,k,v,hn,h=>by
  simp only[s4,mM] at hn
  simp only[Qc];rcases j9.1 h with h | h
  ·subst h;simp
  ·have hne:(k==x.1)=false:=by
    cases hb:k==x.1 with
    | false=>rfl
    | true=>exact absurd (nB (f:=Prod.fst) h) (by have:=lY hb;rw[this];exact hn.1)
   rw[hne];exact DR hn.2 h
theorem WY{l l' :UV (K×V)}{k:K}(hp:l'.Perm l)(hn:(l.map Prod.fst).Nodup):Qc l' k=Qc l k:=by
 have hn' :(l'.map Prod.fst).Nodup:=(hp.map _).nodup_iff.2 hn;cases h:Qc l k with
 | some v=>exact DR hn' (hp.mem_iff.2<|Ah h)
 | none=>
  cases h' :Qc l' k with
  | none=>rfl
  | some v=>rw[DR hn<|hp.mem_iff.1<|Ah h'] at h;cases h
theorem EM{l:UV (K×V)}{k:K}(h:k∉l.map Prod.fst):l.filter (λx=> !(k==x.1))=l:=
 mU.2 λx hx=>by
  cases hb:k==x.1 with
  | false=>rfl
  | true=>exact absurd (by have:=lY hb;rw[this];exact nB (f:=Prod.fst) hx) h
theorem Jm:∀{l:UV (K×V)} {k:K} {v:V},(l.map Prod.fst).Nodup->(Qx l k v).Perm ((k,v)::l.filter (λx=> !(k==x.1)))
 | [],_,_,_=>.refl _
 | x::l,k,v,hn=>by
  simp only[s4,mM] at hn
  simp only[Qx,nu];cases hb:k==x.1 with
  | true=>
   have:=lY hb;simp only[Rw,x6,By,T2];rw[EM (by rw[this];exact hn.1)]
  | false=>
   simp only[By,T2,r6,Rw];exact((Jm hn.2).cons x).trans<|.swap _ _ _
theorem JQ{l:UV (K×V)}{k:K}{v:V}(hn:(l.map Prod.fst).Nodup):((Qx l k v).map Prod.fst).Nodup:=by
 rw[((Jm hn).map Prod.fst).nodup_iff];simp only[s4,mM,ny,nU,not_exists,not_and,and_imp];refine⟨λx _ hb e=> ?_,(hn.sublist<|(iR (l:=l)).map _)⟩;rw[e] at hb;simp at hb
theorem H8{l l' :UV (K×V)}{k:K}{v:V}(hp:l'.Perm l)(hn:(l.map Prod.fst).Nodup):(Qx l' k v).Perm (Qx l k v):=(Jm<|(hp.map _).nodup_iff.2 hn).trans (((hp.filter _).cons _).trans (Jm hn).symm)
def Jy[BEq K]:UV (K×V)->K->UV (K×V)
 | [],_=>[]
 | x::l,k=>if k==x.1 then l else x::Jy l k
theorem Wz:∀{l:UV (K×V)} {k:K},(l.map Prod.fst).Nodup->Jy l k=l.filter (λx=> !(k==x.1))
 | [],_,_=>rfl
 | x::l,k,hn=>by
  simp only[s4,mM] at hn
  simp only[Jy,nu];cases hb:k==x.1 with
  | true=>
   have:=lY hb;simp only[Rw,x6,By,T2];rw[EM (by rw[this];exact hn.1)]
  | false=>
   simp only[By,T2,r6,Rw];rw[Wz hn.2]
theorem BL{l:UV (K×V)}{k:K}(hn:(l.map Prod.fst).Nodup):((Jy l k).map Prod.fst).Nodup:=by
 rw[Wz hn];exact hn.sublist<|(iR (l:=l)).map _
theorem Cl{l l' :UV (K×V)}{k:K}(hp:l'.Perm l)(hn:(l.map Prod.fst).Nodup):(Jy l' k).Perm (Jy l k):=by
 rw[Wz hn,Wz<|(hp.map _).nodup_iff.2 hn];exact hp.filter _
end
def QZ(ck:K->Do)(rv:Fz->V->Do->Prop)(F:Fz)(b:Nat)(l:UV (K×V)):HP:=λm=>∃l' :UV (K×V),l'.Perm l/\(l.map Prod.fst).Nodup/\GY ck rv F b l' m
section
variable{K V:Type}{ck:K->Do}{rv:Fz->V->Do->Prop}{F F' F0:Fz}{b:Nat}{l:UV (K×V)}
theorem Je{m:Mem}(le:F<=F')(h:QZ ck rv F b l m):QZ ck rv F' b l m:=let⟨l',h1,h2,h3⟩:=h;⟨l',h1,h2,jX le h3⟩
theorem HT:Hb (α:=UV<|K×V) (QZ ck rv):=λ_ _ _ _ _ le h=>Je le h
theorem Wp(h:SH w F (star (QZ ck rv F0 b l) H)):∃(es:Of nS) (clock:Nat) (l' :UV (K×V)),l'.Perm l/\(l.map Prod.fst).Nodup/\w.heap[b]? =some (.map es clock)/\Uj ck rv F0 es.toList l'/\SH w F (star (pt b<|.map es clock) H)/\YN es.toList clock:=by
 obtain⟨m,⟨m1,m2,d,s1,s2,⟨l',h1,h2,h3⟩,hq⟩,k⟩:=h;obtain⟨es,c,g1,g2,g3,g4⟩:=E6 (ck:=ck) (rv:=rv) (F0:=F0) (b:=b) (l:=l') ⟨m,⟨m1,m2,d,s1,s2,h3,hq⟩,k⟩;exact⟨es,c,l',h1,h2,g1,g2,g3,g4⟩
end
section
variable{K V:Type}{ck:K->Do}{rv:Fz->V->Do->Prop}{γ j b:Nat}{xs:UV (UV<|K×V)}{l l' :UV (K×V)}{key:K}{val z:V}{kt vt:If}
theorem SH.sT(h:SH w F (star (ZB γ (QZ ck rv) F0 xs) H))(hb:UE γ F j b)(hel:xs[j]? =some l):∃(es:Of nS) (clock:Nat) (l' :UV (K×V)),l'.Perm l/\(l.map Prod.fst).Nodup/\w.heap[b]? =some (.map es clock)/\Uj ck rv F0 es.toList l'/\YN es.toList clock:=by
 obtain⟨es,c,l',h0,h0',h1,h2,_,h3⟩:=Wp<|h.sR hb hel;exact⟨es,c,l',h0,h0',h1,h2,h3⟩
theorem SH.tT(h:SH w F (star (ZB γ (QZ ck rv) F0 xs) H))(hb:UE γ F j b)(hel:xs[j]? =some l)(le0:F0<=G){clock:Nat}{l1:UV (K×V)}(hp:l1.Perm l')(hn:(l'.map Prod.fst).Nodup)(h1:Uj ck rv G es.toList l1)(h2:YN es.toList clock):SH (Dec.put w b<|.map es clock) F (star (ZB γ (QZ ck rv) G<|xs.set j l') H):=by
 obtain⟨_,_,_,_,_,_,_,h3,_⟩:=Wp<|h.sR hb hel;have h4:=h3.put (o' :=.map es clock);exact SH.aO (F0:=F0) (b:=b) HT le0 (h4.mono λm hm=>QQ (λm hm=>⟨l1,hp,hn,es,clock,hm,h1,h2⟩) hm) (AC.1 hel).1
theorem SH.ao(h:SH w F (star (QZ ck rv F0 b l) H)){clock:Nat}{l1:UV (K×V)}(hp:l1.Perm l')(hn:(l'.map Prod.fst).Nodup)(h1:Uj ck rv G es.toList l1)(h2:YN es.toList clock):SH (Dec.put w b<|.map es clock) F (star (QZ ck rv G b l') H):=by
 obtain⟨_,_,_,_,_,_,_,h3,_⟩:=Wp h;exact(h3.put (o' :=.map es clock)).mono λm hm=>QQ (λm hm=>⟨l1,hp,hn,es,clock,hm,h1,h2⟩) hm
theorem GG.bn(ck:K->Do)(rv:Fz->V->Do->Prop)(hd:Nat.blt d n=true)(k:∀b,GL O P ops rest ks Q (Hd n D ((d,.map<|some b)::S) F<|QZ ck rv F b []::hs) m r):GL O P ops (⟨some d,.makeMap t none,ty,pos,after,none⟩::rest) ks Q (Hd n D S F hs) m r:=GG.makeMap ck rv hd λb=>λhm a w ha=>k b hm a w ⟨ha.1,ha.2.mono λ_m hm=>QQ (λ_m hm=>⟨[],.refl _,List.nodup_nil,hm⟩) hm⟩
theorem GG.tw(i:Nat)(hi:hs[i]? =some (ZB γ (QZ ck rv) F0 xs))(hb:UE γ F j b)(hp:p=some b)(hel:xs[j]? =some l)(hd:Nat.blt d n=true)(hT:T[0]? =some t)(ht:P.underlying t=some (.map kt vt))(hx:QO S ox=some (.map p))
  (k:GL μ P ops rest ks Q (Hd n D ((d,.int .i64 l.length)::S) F hs) m r):GL μ P ops (⟨some d,.call ⟨.builtin .len,#[ox],T⟩,ty,pos,after,none⟩::rest) ks Q (Hd n D S F hs) m r:=by
 subst hp
 exact GG.val hd (λa w ha=>by
  obtain⟨es,c,l',hpm,_,hb,hr,_⟩:=(ha.2.pull hi).sT hb hel;have:es.size=l.length:=by rw[<-hpm.length_eq,<-hr.len];simp
  simp[execOp,resolve,invoke,builtin,Builtin.len_,ha.1.eval hx,hT,J5 ht,goInt,YO hb,this]) k
variable[BEq K][LawfulBEq K]
omit [LawfulBEq K] in
theorem BJ(hb:w.heap[b]? =some (.map es c))(hr:Uj ck rv F0 es.toList l')(le0:F0<=F)(ht:P.underlying t=some (.map kt vt))(ok:X0 P kt ck)(hzv:∀w,(zeroValue vt).run P w= .ok zv w)(hz:rv F z zv)(c2:Bool):∃v,rv F ((Qc l' key).getD z) v/\(Instr.lookup t (.map<|some b) (ck key) c2).run P w= .ok (if c2 then .tuple #[v,.bool (Qc l' key).isSome] else v) w:=by
 obtain⟨kd,hu,hsame⟩:=ok.und;rcases hr.find (k:=key) hsame ok.eq 0 with⟨g1,g2,_⟩ | ⟨j,e1,x1,g1,g2,g3,g4,g5,_⟩
 ·have hf:=run_findKey (w:=w) hu g2;refine⟨zv,by rw[g1];exact hz,?_⟩;cases c2<;>simp[Instr.lookup,J5 ht,YO hb,ok.check,hf,hzv,g1]
 ·have hf:=run_findKey (w:=w) hu g4;refine⟨e1.val,by rw[g3];exact g5 F le0,?_⟩;cases c2<;>simp[Instr.lookup,J5 ht,YO hb,ok.check,hf,g3]
theorem GG.cM(i:Nat)(hi:hs[i]? =some (ZB γ (QZ ck rv) F0 xs))(le0:F0<=F)(hb:UE γ F j b)(hp:p=some b)(hel:xs[j]? =some l)(hd:Nat.blt d n=true)(ht:P.underlying t=some (.map kt vt))(ok:X0 P kt ck)(hzv:∀w,(zeroValue vt).run P w= .ok zv w)(hz:rv F z zv)(hx:QO S ox=some (.map p))(hy:QO S oy=some (ck key))
  (k:∀v,rv F ((Qc l key).getD z) v->GL μ P ops rest ks Q (Hd n D ((d,v)::S) F hs) m r):GL μ P ops (⟨some d,.lookup t ox oy false,ty,pos,after,none⟩::rest) ks Q (Hd n D S F hs) m r:=by
 subst hp;refine GG.cr rfl rfl λhm a w ha=> ?_;obtain⟨es,c,l',hpm,hn,hb',hr,_⟩:=(ha.2.pull hi).sT hb hel;obtain⟨v,hv,hrun⟩:=BJ (key:=key) hb' hr le0 ht ok hzv hz false;rw[WY hpm hn] at hv
 refine⟨v,?_,k v hv hm _ _ ⟨ha.1.put hd _,ha.2⟩⟩;simp[execOp,ha.1.eval hx,ha.1.eval hy,hrun]
theorem GG.tU(i:Nat)(hi:hs[i]? =some (ZB γ (QZ ck rv) F0 xs))(le0:F0<=F)(hb:UE γ F j b)(hp:p=some b)(hel:xs[j]? =some l)(hd:Nat.blt d n=true)(ht:P.underlying t=some (.map kt vt))(ok:X0 P kt ck)(hzv:∀w,(zeroValue vt).run P w= .ok zv w)(hz:rv F z zv)(hx:QO S ox=some (.map p))(hy:QO S oy=some (ck key))
  (k:∀v,rv F ((Qc l key).getD z) v->GL μ P ops rest ks Q (Hd n D ((d,.tuple #[v,.bool (Qc l key).isSome])::S) F hs) m r):GL μ P ops (⟨some d,.lookup t ox oy true,ty,pos,after,none⟩::rest) ks Q (Hd n D S F hs) m r:=by
 subst hp;refine GG.cr rfl rfl λhm a w ha=> ?_;obtain⟨es,c,l',hpm,hn,hb',hr,_⟩:=(ha.2.pull hi).sT hb hel;obtain⟨v,hv,hrun⟩:=BJ (key:=key) hb' hr le0 ht ok hzv hz true;rw[WY hpm hn] at hv hrun
 refine⟨_,?_,k v hv hm _ _ ⟨ha.1.put hd _,ha.2⟩⟩;simp[execOp,ha.1.eval hx,ha.1.eval hy,hrun]
omit [LawfulBEq K] in
theorem Hz{l1:UV (K×V)}(hb:w.heap[b]? =some (.map es c))(hr:Uj ck rv F es.toList l1)(hbi:YN es.toList c)(ht:P.underlying t=some (.map kt vt))(ok:X0 P kt ck)(hv:∀F',F<=F'->rv F' val vv):∃es' c',(Instr.mapUpdate t (.map<|some b) (ck key) vv).run P w= .ok () (Dec.put w b<|.map es' c')/\Uj ck rv F es'.toList (Qx l1 key val)/\YN es'.toList c' :=by
 obtain⟨kd,hu,hsame⟩:=ok.und;rcases hr.find (k:=key) hsame ok.eq 0 with⟨g1,g2,g3⟩ | ⟨j',e1,x1,g1,g2,g3,g4,g5,g6⟩
 ·refine⟨es.push {key:=ck key,val:=vv,born:=c},c+1,?_,by simpa using g3 val {key:=ck key,val:=vv,born:=c} rfl hv,by simpa using hbi.push⟩;have hf:=run_findKey (w:=w) hu g2;simp[Instr.mapUpdate,J5 ht,YO hb,ok.check,hf,FP hb]
 ·refine⟨es.modify j' λe=>{e with key:=ck key,val:=vv},c,?_,by rw[iT];exact g6 val (λe=>{e with key:=ck key,val:=vv}) rfl hv,by rw[iT];exact hbi.modify (j:=j') (f:=λe=>{e with key:=ck key,val:=vv}) λ_=>rfl⟩;have hf:=run_findKey (w:=w) hu g4;rw[nl] at hf
  have hel' :es[j']? =some e1:=by simpa using g1
  have hsb:=ok.same key;simp[Instr.mapUpdate,J5 ht,YO hb,ok.check,hf,FP hb,hel',g2,Instr.keyThatStays,hsb]
theorem GG.cL{xs' :UV (UV<|K×V)}(i:Nat)(hi:hs[i]? =some (ZB γ (QZ ck rv) F0 xs))(le0:F0<=F)(hb:UE γ F j b)(hp:p=some b)(hel:xs[j]? =some l)(ht:P.underlying t=some (.map kt vt))(ok:X0 P kt ck)(hx:QO S ox=some (.map p))(hy:QO S oy=some (ck key))(hz:QO S oz=some vv)(hv:∀F',F<=F'->rv F' val vv)(he:xs' =xs.set j (Qx l key val))
  (k:GL O P ops rest ks Q (Hd n D S F<|hs.set i<|ZB γ (QZ ck rv) F xs') m r):GL O P ops (⟨none,.mapUpdate t ox oy oz,ty,pos,after,none⟩::rest) ks Q (Hd n D S F hs) m r:=by
 subst hp;subst he;refine GG.sS rfl (.inr rfl) λhm a w ha=> ?_;obtain⟨es,c,l1,hpm,hn,hb',hr,hbi⟩:=(ha.2.pull hi).sT hb hel;obtain⟨es',c',hrun,h1,h2⟩:=Hz (key:=key) (val:=val) hb' (hr.up le0) hbi ht ok hv;refine⟨_,?_,k hm _ _ ⟨ha.1.bh _,SH.push hi<|(ha.2.pull hi).tT hb hel le0 (H8 hpm hn) (JQ hn) h1 h2⟩⟩;simp[execOp,ha.1.eval hx,ha.1.eval hy,ha.1.eval hz,hrun]
theorem GG.cF(i:Nat)(hi:hs[i]? =some (QZ ck rv F0 b l))(le0:F0<=F)(ht:P.underlying t=some (.map kt vt))(ok:X0 P kt ck)(hx:QO S ox=some (.map<|some b))(hy:QO S oy=some (ck key))(hz:QO S oz=some vv)(hv:∀F',F<=F'->rv F' val vv)(he:l' =Qx l key val)
  (k:GL O P ops rest ks Q (Hd n D S F<|hs.set i<|QZ ck rv F b l') m r):GL O P ops (⟨none,.mapUpdate t ox oy oz,ty,pos,after,none⟩::rest) ks Q (Hd n D S F hs) m r:=by
 subst he;refine GG.sS rfl (.inr rfl) λhm a w ha=> ?_;obtain⟨es,c,l1,hpm,hn,hb',hr,_,hbi⟩:=Wp<|ha.2.pull hi;obtain⟨es',c',hrun,h1,h2⟩:=Hz (key:=key) (val:=val) hb' (hr.up le0) hbi ht ok hv;refine⟨_,?_,k hm _ _ ⟨ha.1.bh _,SH.push hi<|(ha.2.pull hi).ao (H8 hpm hn) (JQ hn) h1 h2⟩⟩;simp[execOp,ha.1.eval hx,ha.1.eval hy,ha.1.eval hz,hrun]
theorem GG.bM(i:Nat)(hi:hs[i]? =some (QZ ck rv F0 b l))(le0:F0<=F)(ht:P.underlying t=some (.map kt vt))(ok:X0 P kt ck)(hx:QO S ox=some (.map<|some b))(hy:QO S oy=some (ck key))(hz:QO S oz=some vv)(hv:∀F',F<=F'->rv F' val vv)(he:l' =Qx l key val)
  (k:GL O P ops rest ks Q (Hd n D S F<|hs.set i<|QZ ck rv F b l') m r):GL O P ops (⟨none,.insert t ox oy oz,ty,pos,after,none⟩::rest) ks Q (Hd n D S F hs) m r:=by
 subst he;refine GG.sS rfl (.inr rfl) λhm a w ha=> ?_;obtain⟨es,c,l1,hpm,hn,hb',hr,_,hbi⟩:=Wp<|ha.2.pull hi;obtain⟨es',c',hrun,h1,h2⟩:=Hz (key:=key) (val:=val) hb' (hr.up le0) hbi ht ok hv;refine⟨_,?_,k hm _ _ ⟨ha.1.bh _,SH.push hi<|(ha.2.pull hi).ao (H8 hpm hn) (JQ hn) h1 h2⟩⟩;simp[execOp,ha.1.eval hx,ha.1.eval hy,ha.1.eval hz,hrun]
omit [LawfulBEq K] in
theorem Uj.del{kd:oA}{k:K}(hk:∀a b,Instr.sameNow kd (ck a) (ck b)=some (a==b)):∀{es:UV nS} {l:UV (K×V)} (i0:Nat),Uj ck rv F es l->
   (Instr.findNow kd (ck k) es i0=some none/\Jy l k=l)∨
   (∃j e,Instr.findNow kd (ck k) es i0=some (some (i0+j,e))/\j < es.length/\Uj ck rv F (es.eraseIdx j) (Jy l k))
 | [],[],_,_=>.inl ⟨rfl,rfl⟩
 | e::es,x::l,i0,⟨h1,h2,h3⟩=>by
  by_cases hb:(k==x.1)=true
  ·right;refine⟨0,e.val,by simp[Instr.findNow,h1,hk,hb],by simp,?_⟩;simp only[Jy,hb,Rw,iD];exact h3
  ·have hb' :(k==x.1)=false:=by simpa using hb
   rcases Uj.del (k:=k) hk (i0+1) h3 with⟨g1,g2⟩ | ⟨j,e1,g1,g2,g3⟩
   ·left;exact⟨by simp[Instr.findNow,h1,hk,hb',g1],by simp[Jy,hb',g2]⟩
   ·right;refine⟨j+1,e1,by simp[Instr.findNow,h1,hk,hb',g1];omega,by simpa using g2,?_⟩;simp only[Jy,hb',By,T2,lI];exact⟨h1,h2,g3⟩
omit [LawfulBEq K] in
theorem qj{l1:UV (K×V)}(hb:w.heap[b]? =some (.map es c))(hr:Uj ck rv F es.toList l1)(hbi:YN es.toList c)(hT:T[0]? =some t)(ht:P.underlying t=some (.map kt vt))(ok:X0 P kt ck):∃es' :Of nS,(Builtin.delete_ T ty #[.map<|some b,ck key]).run P w= .ok (.tuple #[]) (Dec.put w b<|.map es' c)/\Uj ck rv F es'.toList (Jy l1 key)/\YN es'.toList c:=by
 obtain⟨kd,hu,hsame⟩:=ok.und;rcases hr.del (k:=key) hsame 0 with⟨g1,g2⟩ | ⟨j',e1,g1,g2,g3⟩
 ·have hf:=run_findKey (w:=w) hu g1;refine⟨es,?_,by rw[g2];exact hr,hbi⟩;simp[Builtin.delete_,hT,J5 ht,YO hb,ok.check,hf,FP hb]
 ·have hj:j' < es.size:=by simpa using g2
  have hf:=run_findKey (w:=w) hu g1;rw[nl] at hf
  refine⟨es.eraseIdxIfInBounds j',?_,by simpa[Array.eraseIdxIfInBounds,hj] using g3,by simpa[Array.eraseIdxIfInBounds,hj] using hbi.erase (j:=j')⟩;simp[Builtin.delete_,hT,J5 ht,YO hb,ok.check,hf,FP hb]
theorem GG.pF{xs' :UV (UV<|K×V)}(i:Nat)(hi:hs[i]? =some (ZB γ (QZ ck rv) F0 xs))(hb:UE γ F j b)(hp:p=some b)(hel:xs[j]? =some l)(hd:∀e,d' =some e->Nat.blt e n=true)(hT:T[0]? =some t)(ht:P.underlying t=some (.map kt vt))(ok:X0 P kt ck)(hx:QO S ox=some (.map p))(hy:QO S oy=some (ck key))(he:xs' =xs.set j (Jy l key))
  (k:GL O P ops rest ks Q (Hd n D (match d' with | some e=>(e,.tuple #[])::S | none=>S) F<|hs.set i<|ZB γ (QZ ck rv) F0 xs') m r):GL O P ops (⟨d',.call ⟨.builtin .delete,#[ox,oy],T⟩,ty,pos,after,none⟩::rest) ks Q (Hd n D S F hs) m r:=by
 subst hp;subst he;refine GG.step rfl (.inr rfl) λhm a w ha=> ?_;obtain⟨es,c,l1,hpm,hn,hb',hr,hbi⟩:=(ha.2.pull hi).sT hb hel;obtain⟨es',hrun,h1,h2⟩:=qj (key:=key) (ty:=ty) hb' hr hbi hT ht ok;refine⟨.tuple #[],_,?_,k hm _ _ ⟨?_,SH.push hi<|(ha.2.pull hi).tT hb hel (Fz.le_refl _) (Cl hpm hn) (BL hn) h1 h2⟩⟩
 ·simp[execOp,resolve,invoke,builtin,ha.1.eval hx,ha.1.eval hy,hrun]
 ·cases d' with
  | none=>exact ha.1.bh _
  | some e=>exact ha.1.put (hd e rfl) _
end
end
section
variable{β:Type}{X:Act->PP->Prop}{m:H1 β}{r:β}{n:Nat}{D:UV q8}{S:UV (Nat×Do)}{F F0:Fz}{hs:UV HP}
variable{α:Type}{γ:Nat}{C:Fz->Nat->α->HP}{xs xs' :UV α}{b:Nat}{x:α}
theorem GG.cO{g:Gp}{p:HP}(k i:Nat)(hk:hs[k]? =some p)(hi:(hs.eraseIdx k)[i]? =some (ZB γ C F0 xs))(hC:Hb C)(le:F0<=F)(hp:∀F' m,F<=F'->p m->C F' b x m)(he:xs' =xs++[x])
  (K:∀F',F<=F'->UE γ F' xs.length b->GG g (Hd n D S F'<|(hs.eraseIdx k).set i<|ZB γ C F' xs') m r):GG g (Hd n D S F hs) m r:=by
 exact λhm a w ha=>by
  subst he;have h1:SH w F (star p<|star (ZB γ C F0 xs)<|Qi<|(hs.eraseIdx k).eraseIdx i):=(ha.2.pull hk).mono λm hm=>QS (λ_=>VW hi) hm;obtain⟨F',l,g1,g2⟩:=SH.pU hC le h1 hp;exact K F' l g1 hm a w ⟨ha.1,SH.push hi g2⟩
theorem GG.aJ{g:Gp}(C:Fz->Nat->α->HP)(i:Nat)(hi:hs[i]? =some (yU γ []))(K:GG g (Hd n D S F<|hs.set i<|ZB γ C F []) m r):GG g (Hd n D S F hs) m r:=by
 exact λhm a w ha=>
  K hm a w ⟨ha.1,SH.push hi<|(ha.2.pull hi).mono λm hm=>QQ (λm hm=>⟨[],rfl,m,λ_=>none,λ_=>.inr rfl,Mem.sub.refl _,λ_ _ e=>by simp at e,hm,trivial⟩) hm⟩
theorem GG.cS{g:Gp}(K:∀γ F',F<=F'->GG g (Hd n D S F'<|yU γ []::hs) m r):GG g (Hd n D S F hs) m r:=by
 exact λhm a w ha=>by
  obtain⟨le,h⟩:=ha.2.cS;exact K _ _ le hm a w ⟨ha.1,h⟩
end
section
variable{β σ γ:Type}{A:Act->PP->Prop}
theorem Qz.cv{I:σ->Act->PP->Prop}{Dn:γ->nN->Act->PP->Prop}{b:γ}{ctl:UK σ γ}{c:UV PanicEntry}(h:∀a w,A a w->Dn b (.panic c) a w):some (UK.done b)=some ctl->∀a w,A a w->Qz I Dn ctl (.panic c) a w:=λe a w ha=>by
 simp only[BY] at e;subst e;exact⟨by simp,h a w ha⟩
end
end
section
variable{α β ε G ι:Type}{ρ:α->Fz->Do->Prop}{caps vs as:UV Do}{f:x4}{os:UV dO}{Hs':α->Fz->Do->UV HP}{g:α->H1 β}{of:dO}{e:H1 (Out ε α)}{Hs hs:UV HP}{Q:nN->Act->PP->Prop}{S:UV (Nat×Do)}{P:RK}{gp:ε->H1 β}{p:H1 OF}{F F':Fz}{w:PP}{m:H1 β}{γ n b b' i j:Nat}{penc:ε->Do}{ks:UV Kt}{after:Of lL}{D:UV q8}{ops:Of x5}{rest:UV x5}{T:Of If}{x:H1 Nat}{em:H1 α}{fn:lK}{pos:String}{xs:UV α}{ty t':If}{c:Uk α}{r:β}
variable{O:H1 Nat}{μ:Md}
def Qw(e:H1 (Out ε α))(gp:ε->H1 β)(g:α->H1 β):H1 β:=match e with
 | none=>none
 | some (.ok x)=>g x
 | some (.pan q)=>gp q
def A6(P:RK)(penc:ε->Do)(F:Fz)(f:x4)(k:UV Do×UV Do)(arg:ι->Fz->UV Do->Prop)(Hin:Fz->ι->UV HP)(ρ:β->Fz->Do->Prop)(Hout:Fz->ι->β->UV HP)(m:ι->H1 (Out ε β)):Prop:=(∀args w,(callFunc f args).run P w= .ok (.enter f args) w)/\∀F',F<=F'->∀x vs,arg x F' vs->Vg P penc f (k.1++vs++k.2).toArray F' (Hin F' x) (m x) ρ (λr F'' _=>Hout F'' x r)
theorem A6.mono{k:UV Do×UV Do}{arg:ι->Fz->UV Do->Prop}{Hin:Fz->ι->UV HP}{ρ:β->Fz->Do->Prop}{Hout:Fz->ι->β->UV HP}{m:ι->H1 (Out ε β)}(h:A6 P penc F f k arg Hin ρ Hout m)(le:F<=F'):A6 P penc F' f k arg Hin ρ Hout m:=⟨h.1,λG le' =>h.2 G<|Fz.le_trans le le'⟩
section
variable{ε β:Type}{P:RK}{penc:ε->Do}{ops:Of x5}{rest:UV x5}{ks:UV Kt}{Q:nN->Act->PP->Prop}{m:H1 β}{r:β}
variable{n:Nat}{D:UV q8}{S:UV (Nat×Do)}{F F0:Fz}{hs:UV HP}
variable{d:Nat}{ty t:If}{pos:String}{after:Of lL}{ox oy:dO}{T:Of If}
theorem GG.pY{A:Act->PP->Prop}{args:Of Do}{o:x5}{e:H1 (Out ε α)}{g:α->H1 β}{gp:ε->H1 β}(is:UV Nat)(hd:Nat.blt d n=true)(hg:o.guard=none)(hdst:o.dst=some d)(hnd:HS o.op=true)
  (hA:∀a w,A a w->Hd n D S F hs a w/\(execOp a.eval o).run P w= .ok (.enter f args) w) (hi:YD is hs=Hs)
  (hc:Vg P penc f args F Hs e ρ Hs') (k:∀x F' v,e=some (.ok x)->F<=F'->ρ x F' v->GL O P ops rest ks Q (Hd n D ((d,v)::S) F'<|Hs' x F' v++J4 is hs) (g x) r)
  (hp:∀q F',e=some (.pan q)->F<=F'->gp q=some r->∀a w,Hd n D S F' (J4 is hs) a w->Q (.panic [{v:=penc q,recovered:=false}]) a w):GL O P ops (o::rest) ks Q A (Qw e gp g) r:=by
 intro hm a w ha0;obtain⟨ha,hrun⟩:=hA a w ha0;cases he:e with
 | none=>rw[he] at hm;cases hm
 | some y=>
  rw[he] at hm
  have hsh:SH w F (star (Qi Hs)<|Qi<|J4 is hs):=ha.2.mono λm hm=>by
   have:=UA (ks:=is) hm;rw[hi] at this;exact this
  refine ga ?_;unfold Xa;rw[TO<|by simp[Region.wanted,hg]];refine⟨.inr hnd,?_⟩;rw[hrun];refine⟨λe=>(by rw[Dv] at e;cases e),ET.2<|(hc y he w _ hsh).mono ?_⟩;rintro e' w' ⟨F',le,h⟩;cases y with
  | ok x=>
   obtain⟨v,rfl,hρ,hw⟩:=h;have h1:=k x F' v he le hρ hm _ _ ⟨ha.1.put hd v,hw.mono λ_=>K5⟩;simp only[hdst];exact h1
  | pan q=>
   obtain⟨rfl,hw⟩:=h;exact K8<|hp q F' he le hm _ _ ⟨ha.1,hw⟩
theorem GG.dy{e:H1 (Out ε α)}{g:α->H1 β}{gp:ε->H1 β}(is:UV Nat)
  (hd:Nat.blt d n=true) (hcall:∀args w,(callFunc f args).run P w= .ok (.enter f args) w) (hf:QO S of=some (.func (.func f) #[] caps.toArray)) (ha:Ub S os=some vs) (has:vs++caps=as) (hi:YD is hs=Hs)
  (hc:Vg P penc f as.toArray F Hs e ρ Hs') (k:∀x F' v,e=some (.ok x)->F<=F'->ρ x F' v->GL O P ops rest ks Q (Hd n D ((d,v)::S) F'<|Hs' x F' v++J4 is hs) (g x) r)
  (hp:∀q F',e=some (.pan q)->F<=F'->gp q=some r->∀a w,Hd n D S F' (J4 is hs) a w->Q (.panic [{v:=penc q,recovered:=false}]) a w):GL O P ops (⟨some d,.call ⟨.value of,os.toArray,T⟩,ty,pos,after,none⟩::rest) ks Q (Hd n D S F hs) (Qw e gp g) r:=by
 subst has;exact GG.pY is hd rfl rfl rfl (λa w hA=>⟨hA,Wo hA.1 hcall hf ha⟩) hi hc k hp
theorem jN{a:Act}{first:UV Do}(hs:Sl n D S a)(hcall:∀args w,(callFunc f args).run P w= .ok (.enter f args) w)
  (hf:QO S of=some (.func (.func f) first.toArray caps.toArray)) (ha:Ub S os=some vs) {dst:H1 Tmp}:(execOp a.eval ⟨dst,.call ⟨.value of,os.toArray,T⟩,ty,pos,after,none⟩).run P w= .ok (.enter f (first++vs++caps).toArray) w:=by
 have e:=HI hs ha;simp[execOp,resolve,Deferred.ofValue,hs.eval hf,e,invoke,hcall]
theorem GG.tj{kk:UV Do×UV Do}{arg:ι->Fz->UV Do->Prop}{Hin:Fz->ι->UV HP}{Hout:Fz->ι->α->UV HP}{fm:ι->H1 (Out ε α)}{x:ι}{g:α->H1 β}{gp:ε->H1 β}(is:UV Nat)
  (hd:Nat.blt d n=true) (hr:A6 P penc F f kk arg Hin ρ Hout fm) (hf:QO S of=some (.func (.func f) kk.1.toArray kk.2.toArray)) (ha:Ub S os=some vs) (hx:arg x F vs) (hi:YD is hs=Hs) (hin:Hin F x=Hs)
  (k:∀y F' v,fm x=some (.ok y)->F<=F'->ρ y F' v->GL O P ops rest ks Q (Hd n D ((d,v)::S) F'<|Hout F' x y++J4 is hs) (g y) r)
  (hp:∀q F',fm x=some (.pan q)->F<=F'->gp q=some r->∀a w,Hd n D S F' (J4 is hs) a w->Q (.panic [{v:=penc q,recovered:=false}]) a w):GL O P ops (⟨some d,.call ⟨.value of,os.toArray,T⟩,ty,pos,after,none⟩::rest) ks Q (Hd n D S F hs) (Qw (fm x) gp g) r:=by
 subst hin;exact GG.pY is hd rfl rfl rfl (λa w hA=>⟨hA,jN hA.1 hr.1 hf ha⟩) hi (hr.2 F (Fz.le_refl F) x vs hx) k hp
theorem GG.ai{e:H1 (Out ε α)}{x:α}(he:e=some (.ok x))(is:UV Nat)
  (hd:Nat.blt d n=true) (hcall:∀args w,(callFunc f args).run P w= .ok (.enter f args) w) (hf:QO S of=some (.func (.func f) #[] caps.toArray)) (ha:Ub S os=some vs) (has:vs++caps=as) (hi:YD is hs=Hs)
  (hc:Vg P penc f as.toArray F Hs e ρ Hs') (k:∀F' v,F<=F'->ρ x F' v->GL O P ops rest ks Q (Hd n D ((d,v)::S) F'<|Hs' x F' v++J4 is hs) m r):GL O P ops (⟨some d,.call ⟨.value of,os.toArray,T⟩,ty,pos,after,none⟩::rest) ks Q (Hd n D S F hs) m r:=by
 have h:=GG.dy (O:=O) (P:=P) (penc:=penc) (ops:=ops) (rest:=rest) (ks:=ks) (Q:=Q) (r:=r) (n:=n) (D:=D) (S:=S) (F:=F) (hs:=hs) (d:=d) (ty:=ty) (pos:=pos) (after:=after) (T:=T) (g:=λ_=>m) (gp:=λ_=>(none:H1 β)) is hd hcall hf ha has hi hc
  (λx' F' v he' le hρ=>by rw[he] at he';cases he';exact k F' v le hρ) (λq F' he' _ hn=>by cases hn)
 rw[he] at h
 exact h
theorem GG.sy{e:H1 (Out ε α)}{q:ε}(he:e=some (.pan q))(is:UV Nat)
  (hd:Nat.blt d n=true) (hcall:∀args w,(callFunc f args).run P w= .ok (.enter f args) w) (hf:QO S of=some (.func (.func f) #[] caps.toArray)) (ha:Ub S os=some vs) (has:vs++caps=as) (hi:YD is hs=Hs)
  (hc:Vg P penc f as.toArray F Hs e ρ Hs') (hp:∀F',F<=F'->m=some r->∀a w,Hd n D S F' (J4 is hs) a w->Q (.panic [{v:=penc q,recovered:=false}]) a w):GL O P ops (⟨some d,.call ⟨.value of,os.toArray,T⟩,ty,pos,after,none⟩::rest) ks Q (Hd n D S F hs) m r:=by
 have h:=GG.dy (O:=O) (P:=P) (penc:=penc) (ops:=ops) (rest:=rest) (ks:=ks) (Q:=Q) (r:=r) (n:=n) (D:=D) (S:=S) (F:=F) (hs:=hs) (d:=d) (ty:=ty) (pos:=pos) (after:=after) (T:=T) (g:=λ_=>(none:H1 β)) (gp:=λ_=>m) is hd hcall hf ha has hi hc
  (λx' F' v he' _ _=>by rw[he] at he';cases he') (λq' F' he' le hn=>by rw[he] at he';cases he';exact hp F' le hn)
 rw[he] at h
 exact h
theorem GG.tP{g0:Gp}{A:Act->PP->Prop}{e:H1 (Out ε α)}{g:α->H1 β}{gp:ε->H1 β}(h1:∀x,e=some (.ok x)->GG g0 A (g x) r)(h2:∀q,e=some (.pan q)->GG g0 A (gp q) r):GG g0 A (Qw e gp g) r:=by
 intro hm;cases he:e with
 | none=>rw[he] at hm;cases hm
 | some o=>
  rw[he] at hm
  cases o with
  | ok x=>exact h1 x he hm
  | pan q=>exact h2 q he hm
theorem Dy{e:If}(ht:P.underlying t=some (.pointer e))(n:Nat):(Op.equalIn (n+1) t (.pointer p)<|.pointer none).run P w= .ok p.isNone w:=by
 cases p<;>simp[Op.equalIn,J5 ht]
theorem ZP.isNone(h:ZP γ F p x):p.isNone=x.isNone:=by
 cases x with
 | none=>simp[show p=none from h]
 | some i=>obtain⟨b,_,rfl⟩:=h;rfl
theorem GG.cJ{e:If}(h:ZP γ F p x)(hd:Nat.blt d n=true)(ht:P.underlying t=some (.pointer e))(hx:QO S ox=some (.pointer p))(hy:QO S oy=some (.pointer none))(k:GL μ P ops rest ks Q (Hd n D ((d,.bool x.isNone)::S) F hs) m r):GL μ P ops (⟨some d,.binOp .eql t ox oy t',ty,pos,after,none⟩::rest) ks Q (Hd n D S F hs) m r:=
 GG.val hd (λa w ha=>by
  have hq:(Op.equal t (.pointer p)<|.pointer none).run P w= .ok p.isNone w:=Dy ht 9999;have hg:P.eqGuardType P.depth t=false∨P.eqGuardType P.depth t=true:=by cases P.eqGuardType P.depth t<;>simp
  simp[execOp,ha.1.eval hx,ha.1.eval hy,eqGuard,binOp,hq,h.isNone]) k
theorem GG.tE{e:If}(h:ZP γ F p x)(hd:Nat.blt d n=true)(ht:P.underlying t=some (.pointer e))(hx:QO S ox=some (.pointer p))(hy:QO S oy=some (.pointer none))(k:GL μ P ops rest ks Q (Hd n D ((d,.bool<|!x.isNone)::S) F hs) m r):GL μ P ops (⟨some d,.binOp .neq t ox oy t',ty,pos,after,none⟩::rest) ks Q (Hd n D S F hs) m r:=
 GG.val hd (λa w ha=>by
  have hq:(Op.equal t (.pointer p)<|.pointer none).run P w= .ok p.isNone w:=Dy ht 9999;have hg:P.eqGuardType P.depth t=false∨P.eqGuardType P.depth t=true:=by cases P.eqGuardType P.depth t<;>simp
  simp[execOp,ha.1.eval hx,ha.1.eval hy,eqGuard,binOp,hq,h.isNone]) k
theorem SH.pM{T:Nat}{x y:α}{H:HP}(h:SH w F (star (ZB γ (WW T c) F0 xs) H))(hb:UE γ F i b)(hb' :UE γ F j b')(hx:xs[i]? =some x)(hy:xs[j]? =some y)(hij:i≠j):b≠b' :=by
 intro e;subst e;obtain⟨m,⟨m1,m2,d,s1,s2,⟨bs,hl,m3,m4,d',t1,t2,hg,hz⟩,hq⟩,k⟩:=h;obtain⟨_,e⟩:=k.gst γ _<|s1 _ _<|t1 _ _ hg;simp only[Cell.gh.injEq] at e
 have h1:bs[i]? =some b:=by rw[e];exact hb.2
 have h2:bs[j]? =some b:=by rw[e];exact hb'.2
 have g1:=Rl (f:=WW T c F0) h1 hx;have g2:=Rl (f:=WW T c F0) h2 hy;obtain⟨n1,n2,dd,_,_,⟨vs,_,hp⟩,hr⟩:=VW g1 hz;have hlt:i < (List.zipWith (WW T c F0) bs xs).length:=(AC.1 g1).1
 have g3:∃k:Nat,((List.zipWith (WW T c F0) bs xs).eraseIdx i)[k]? =some (WW T c F0 b y):=by
  rcases Nat.lt_or_gt_of_ne hij with hlt | hgt
  ·exact⟨j - 1,by rw[eZ,RW (by omega),show j - 1+1=j by omega];exact g2⟩
  ·exact⟨j,by rw[eZ,TO hgt];exact g2⟩
 obtain⟨k',g3⟩:=g3;obtain⟨n3,n4,_,u1,_,⟨vs',_,hp'⟩,_⟩:=VW g3 hr;have q1:n1 (.blk b)=some (.obj<|.cells vs.toArray T):=hp;have q2:n2 (.blk b)=some (.obj<|.cells vs'.toArray T):=u1 _ _ hp';have:=dd.bk q1;rw[q2] at this;cases this
theorem gq{a:Act}{T N:Nat}{e:If}{x y:α}{kx:Nat}(ht:P.underlying t=some (.pointer e))(hz:∀w,(sizeOf e).run P w= .ok (N+1) w)(hi:hs[kx]? =some (ZB γ (WW T c) F0 xs))(hb:UE γ F i b)(hb' :UE γ F j b')(h1:xs[i]? =some x)(h2:xs[j]? =some y)(ha:Hd n D S F hs a w)(k:Nat):(Op.equalIn (k+1) t (.pointer<|some ⟨b,0,none⟩)<|.pointer<|some ⟨b',0,none⟩).run P w= .ok (i==j) w:=by
 by_cases hij:i=j
 ·subst hij;have:=hb.inj hb';subst this;simp[Op.equalIn,J5 ht,hz,run_sameAddr_same]
 ·have hne:=(ha.2.pull hi).pM hb hb' h1 h2 hij;obtain⟨vs,_,g1⟩:=(ha.2.pull hi).sO hb h1;obtain⟨vs',_,g2⟩:=(ha.2.pull hi).sO hb' h2;have hs:=run_sameAddr_other (P:=P) (w:=w) (a:=⟨b,0,none⟩) (b:=⟨b',0,none⟩) (by simp) g1 g2;simp[Op.equalIn,J5 ht,hz,hs,hij]
theorem GG.pg{Tc N:Nat}{e:If}{x y:α}{q:H1 OF}(kx:Nat)(hi:hs[kx]? =some (ZB γ (WW Tc c) F0 xs))(hb:UE γ F i b)(hp:p=some ⟨b,0,none⟩)(hb' :UE γ F j b')(hq:q=some ⟨b',0,none⟩)(h1:xs[i]? =some x)(h2:xs[j]? =some y)(hd:Nat.blt d n=true)(ht:P.underlying t=some (.pointer e))(hz:∀w,(sizeOf e).run P w= .ok (N+1) w)(hx:QO S ox=some (.pointer p))(hy:QO S oy=some (.pointer q))(k:GL μ P ops rest ks Q (Hd n D ((d,.bool<|i != j)::S) F hs) m r):GL μ P ops (⟨some d,.binOp .neq t ox oy t',ty,pos,after,none⟩::rest) ks Q (Hd n D S F hs) m r:=by
 subst hp hq
 exact GG.val hd (λa w ha=>by
  have hq:(Op.equal t (.pointer<|some ⟨b,0,none⟩)<|.pointer<|some ⟨b',0,none⟩).run P w= .ok (i==j) w:=gq ht hz hi hb hb' h1 h2 ha 9999;simp[execOp,ha.1.eval hx,ha.1.eval hy,eqGuard,binOp,hq,bne]) k
section
variable{K V:Type}[BEq K]{ck:K->Do}{rv:Fz->V->Do->Prop}{b:Nat}{l:UV (K×V)}{key:K}{kt vt:If}
def DP(ck:K->Do)(rv:Fz->V->Do->Prop)(F:Fz)(b:Nat)(l:UV (K×V)):Prop:=∃(es:Of nS) (clock:Nat) (l' :UV (K×V)),l'.Perm l/\(l.map Prod.fst).Nodup/\F.mem b=some (.map es clock)/\Uj ck rv F es.toList l'
omit [BEq K] in
theorem DP.mono(h:DP ck rv F b l)(le:F<=F'):DP ck rv F' b l:=let⟨es,c,l',h0,h00,h1,h2⟩:=h;⟨es,c,l',h0,h00,le.mem _ _ h1,h2.up le⟩
omit [BEq K] in
theorem GG.sc{g:Gp}(i:Nat)(hi:hs[i]? =some (QZ ck rv F0 b l))(le:F0<=F)(k:∀F',F<=F'->DP ck rv F' b l->GG g (Hd n D S F'<|hs.eraseIdx i) m r):GG g (Hd n D S F hs) m r:=by
 exact λhm a w ha=>by
  obtain⟨es,c,l',h0,h00,_,h2,h3,_⟩:=Wp<|ha.2.pull hi;obtain⟨l1,h4⟩:=h3.freeze;exact k _ l1 ⟨es,c,l',h0,h00,Fz.ba F b _,(h2.up le).up l1⟩ hm a w ⟨ha.1,h4⟩
theorem GG.tz[LawfulBEq K]{x:V}(h:DP ck rv F b l)(hg:Qc l key=some x)(hd:Nat.blt d n=true)(ht:P.underlying t=some (.map kt vt))(ok:X0 P kt ck)(hx:QO S ox=some (.map<|some b))(hy:QO S oy=some (ck key))
  (k:∀v,rv F x v->GL μ P ops rest ks Q (Hd n D ((d,v)::S) F hs) m r):GL μ P ops (⟨some d,.lookup t ox oy false,ty,pos,after,none⟩::rest) ks Q (Hd n D S F hs) m r:=by
 refine GG.cr rfl rfl λhm a w ha=> ?_;obtain⟨es,c,l',hpm,hn,hb,hr⟩:=h;rw[<-WY hpm hn] at hg
 obtain⟨kd,hu,hsame⟩:=ok.und;have hb' :=ha.2.frozen hb;rcases hr.find (k:=key) hsame ok.eq 0 with⟨g1,g2,_⟩ | ⟨j,e1,x1,g1,g2,g3,g4,g5,_⟩
 ·rw[hg] at g1;cases g1
 ·rw[hg] at g3;cases g3
  have hf:=run_findKey (w:=w) hu g4;refine⟨e1.val,?_,k _ (g5 F<|Fz.le_refl F) hm _ _ ⟨ha.1.put hd _,ha.2⟩⟩;simp[execOp,Instr.lookup,ha.1.eval hx,ha.1.eval hy,J5 ht,YO hb',ok.check,hf]
end
def gS(P:RK)(f:x4)(args:Of Do)(F:Fz)(m:H1 β)(ρ:G->β->Fz->Do->Prop)(Hs' :G->β->Fz->UV HP):Prop:=∀r,m=some r->∀w R,SH w F R->Calls P f args w (λe w' =>∃U F' v,F<=F'/\e= .returned v/\ρ U r F' v/\SH w' F' (star (Qi<|Hs' U r F') R))
theorem GG.ax{G α:Type}{f:x4}{caps as vs:UV Do}{of:dO}{os:UV dO}{em:H1 α}{ρ:G->α->Fz->Do->Prop}{Hs' :G->α->Fz->UV HP}{g:α->H1 β}
  (hd:Nat.blt d n=true) (hcall:∀args w,(callFunc f args).run P w= .ok (.enter f args) w) (hf:QO S of=some (.func (.func f) #[] caps.toArray)) (ha:Ub S os=some vs) (has:vs++caps=as)
  (hc:gS P f as.toArray F em ρ Hs') (k:∀x U F' v,em=some x->F<=F'->ρ U x F' v->GL O P ops rest ks Q (Hd n D ((d,v)::S) F'<|Hs' U x F' ++hs) (g x) r):GL O P ops (⟨some d,.call ⟨.value of,os.toArray,T⟩,ty,pos,after,none⟩::rest) ks Q (Hd n D S F hs) (em.bind g) r:=
 GG.cf rfl (.inr rfl) λhm a w hA=>by
  subst has;refine⟨Wo hA.1 hcall hf ha,?_⟩;cases he:em with
  | none=>rw[he] at hm;cases hm
  | some y=>
   rw[he] at hm
   refine(hc y he w _ hA.2).mono ?_;rintro _ w' ⟨U,F',v,le,rfl,hρ,hw⟩;exact⟨v,rfl,k y U F' v he le hρ hm _ _ ⟨hA.1.put hd _,hw.mono λ_=>K5⟩⟩
end
abbrev Pd(f:x4)(caps:UV Do):q8:={target:=.fn (.func f) caps.toArray,args:=#[]}
def Sm(P:RK)(fn:lK)(F:Fz)(R:HP)(ρ:G->β->Fz->Do->Prop)(Hs' :G->β->Fz->UV HP)(r:β):nN->Act->PP->Prop:=bodyPostDIn Fence.wide 0 P fn (λe w' =>∃U F' v,F<=F'/\e= .returned v/\ρ U r F' v/\SH w' F' (star (Qi<|Hs' U r F') R))
theorem gS.enter{c:lN}{args:UV Do}{ρ:G->β->Fz->Do->Prop}{Hs' :G->β->Fz->UV HP}
  (hf:P.funcs[f]? =some fn) (hb:fn.body=some c) (hn:fn.ntmps=n) (ha:Nat.ble args.length n=true)
  (k:∀r R,GC none P c [] (Sm P fn F R ρ Hs' r) (Hd n [] (Db 0 args) F [R]) m r):gS P f args.toArray F m ρ Hs' :=by
 intro r hm w R hw;refine(nP (n:=0)).1<|iK hf hb trivial<|k r R hm _ w ⟨?_,hw.one⟩;rw[hn];exact Uw ha
section
variable{β:Type}{P:RK}{ops:Of x5}{rest:UV x5}{ks:UV Kt}{Q:nN->Act->PP->Prop}{m:H1 β}{r:β}
variable{n:Nat}{D:UV q8}{S:UV (Nat×Do)}{F F' :Fz}{hs:UV HP}
theorem GG.defer(hf:QO S of=some (.func (.func f) #[] caps.toArray))(k:GL (.f none) P ops rest ks Q (Hd n (Pd f caps::D) S F hs) m r):GL (.f none) P ops (⟨none,.defer ⟨.value of,#[],T⟩,ty,pos,after,none⟩::rest) ks Q (Hd n D S F hs) m r:=by
 intro hm a w ha;have h:=k hm {a with defers:=Pd f caps::a.defers} w ⟨⟨ha.1.1,by rw[ha.1.2.1],ha.1.2.2⟩,ha.2⟩;refine ga ?_;unfold Xa;rw[TO<|by simp[Region.wanted]];refine⟨.inl rfl,?_⟩
 have hrun:(execOp a.eval ⟨none,.defer ⟨.value of,#[],T⟩,ty,pos,after,none⟩).run P w= .ok (.defer<|Pd f caps) w:=by
  simp[execOp,resolve,Deferred.ofValue,ha.1.eval hf]
 rw[hrun];exact h
variable{G ε:Type}{penc:ε->Do}{fn:lK}{R:HP}{ρ:G->β->Fz->Do->Prop}{Hs' :G->β->Fz->UV HP}{x:β}{rs:UV ResultVar}{vs:UV Do}{U:G}
theorem Ho(is:UV Nat)(hr:fn.results=rs.toArray)(h:SP P S F' hs rs vs)(hi:YD is hs=Hs' U x F' ++[R])(le:F<=F')(hρ:ρ U x F' (S8 vs)):some x=some r->∀a w,Hd n [] S F' hs a w->Sm P fn F R ρ Hs' r .ret a w:=by
 intro e a w ha;simp only[BY] at e
 subst e;show LeavesIn Fence.wide 0 P fn a.tmps _ a.defers .returning w;rw[ha.1.2.1];refine⟨_,Jd hr ha h,U,F',_,le,rfl,hρ,ha.2.mono λm hm=> ?_⟩;have h1:=VX (ks:=is) hm;rw[hi] at h1
 exact Xn<|VY h1
theorem PO:∀g,(Target.fn (.func f) caps.toArray).leads P w #[]=some g->Fence.wide.fn g:=λ_ _=>trivial
theorem Ak(hcall:∀args w,(callFunc f args).run P w= .ok (.enter f args) w):(invoke (.fn (.func f) caps.toArray) #[]).run P w= .ok (.enter f caps.toArray) w:=by
 simp[invoke,hcall]
end
def HN(P:RK)(f:x4)(args:Of Do)(F:Fz)(Hs:UV HP)(m:H1 β)(ρ:β->Fz->Do->Prop)(Hs' :β->Fz->UV HP):Prop:=∀r,m=some r->∀w R,SH w F (star (Qi Hs) R)->Calls P f args w (λe w' =>∃F' v,F<=F'/\e= .returned v/\ρ r F' v/\SH w' F' (star (Qi<|Hs' r F') R))
def Rx(P:RK)(fn:lK)(F:Fz)(R:HP)(ρ:β->Fz->Do->Prop)(Hs' :β->Fz->UV HP)(r:β):nN->Act->PP->Prop:=bodyPost P fn (λe w' =>∃F' v,F<=F'/\e= .returned v/\ρ r F' v/\SH w' F' (star (Qi<|Hs' r F') R))
theorem HN.enter{c:lN}{args:UV Do}{ρ:β->Fz->Do->Prop}{Hs' :β->Fz->UV HP}
  (hf:P.funcs[f]? =some fn) (hb:fn.body=some c) (hn:fn.ntmps=n) (ha:Nat.ble args.length n=true)
  (k:∀r R,GC none P c [] (Rx P fn F R ρ Hs' r) (Hd n [] (Db 0 args) F<|Hs++[R]) m r):HN P f args.toArray F Hs m ρ Hs' :=by
 intro r hm w R hw;refine eO hf hb<|oE.1<|k r R hm _ w ⟨?_,hw.mono λm hm=>K5<|QS (λ_ h=>J7 h) hm⟩;rw[hn];exact Uw ha
section
variable{β:Type}{P:RK}{n:Nat}{S:UV (Nat×Do)}{F F' :Fz}{hs:UV HP}{ks:UV Kt}{fn:lK}{R:HP}{ρ:β->Fz->Do->Prop}{Hs' :β->Fz->UV HP}{x r:β}{rs:UV ResultVar}{vs:UV Do}
theorem Hq(is:UV Nat)(hr:fn.results=rs.toArray)(h:SP P S F' hs rs vs)(hi:YD is hs=Hs' x F' ++[R])(le:F<=F')(hρ:ρ x F' (S8 vs)):some x=some r->∀a w,Hd n [] S F' hs a w->Rx P fn F R ρ Hs' r .ret a w:=by
 intro e a w ha;simp only[BY] at e
 subst e;refine⟨ha.1.2.1,_,Jd hr ha h,F',_,le,rfl,hρ,ha.2.mono λm hm=> ?_⟩;have h1:=VX (ks:=is) hm;rw[hi] at h1
 exact Xn<|VY h1
theorem GG.sJ(is:UV Nat)(hr:fn.results=rs.toArray)(h:SP P S F' hs rs vs)(hi:YD is hs=Hs' x F' ++[R])(le:F<=F')(hρ:ρ x F' (S8 vs)):GC O P .ret ks (Rx P fn F R ρ Hs' r) (Hd n [] S F' hs) (some x) r:=GG.bc<|Hq is hr h hi le hρ
theorem GG.sV(is:UV Nat)(hr:fn.results=rs.toArray)(h:SP P S F' hs rs vs)(hi:YD is hs=Hs' x F' ++[R])(le:F<=F')(hρ:ρ x F' (S8 vs)):GE O P [] (Rx P fn F R ρ Hs' r) (Hd n [] S F' hs) (some x) r:=GG.bA<|Hq is hr h hi le hρ
end
section
variable{β:Type}{P:RK}{ops:Of x5}{rest:UV x5}{ks:UV Kt}{Q:nN->Act->PP->Prop}{m:H1 β}{r:β}
variable{n:Nat}{D:UV q8}{S:UV (Nat×Do)}{F:Fz}{hs:UV HP}{d:Nat}{ty:If}{pos:String}{after:Of lL}{T:Of If}
theorem GG.bV{α:Type}{f:x4}{caps as vs:UV Do}{of:dO}{os:UV dO}{em:H1 α}{ρ:α->Fz->Do->Prop}{Hs:UV HP}{Hs' :α->Fz->UV HP}{g:α->H1 β}(is:UV Nat)
  (hd:Nat.blt d n=true) (hcall:∀args w,(callFunc f args).run P w= .ok (.enter f args) w) (hf:QO S of=some (.func (.func f) #[] caps.toArray)) (ha:Ub S os=some vs) (has:vs++caps=as) (hi:YD is hs=Hs)
  (hc:HN P f as.toArray F Hs em ρ Hs') (k:∀x F' v,em=some x->F<=F'->ρ x F' v->GL O P ops rest ks Q (Hd n D ((d,v)::S) F'<|Hs' x F' ++J4 is hs) (g x) r):GL O P ops (⟨some d,.call ⟨.value of,os.toArray,T⟩,ty,pos,after,none⟩::rest) ks Q (Hd n D S F hs) (em.bind g) r:=
 GG.cf rfl (.inr rfl) λhm a w hA=>by
  subst has;refine⟨Wo hA.1 hcall hf ha,?_⟩;cases he:em with
  | none=>rw[he] at hm;cases hm
  | some y=>
   rw[he] at hm
   have hsh:SH w F (star (Qi Hs)<|Qi<|J4 is hs):=hA.2.mono λm hm=>by
    have:=UA (ks:=is) hm;rw[hi] at this;exact this
   refine(hc y he w _ hsh).mono ?_;rintro _ w' ⟨F',v,le,rfl,hρ,hw⟩;exact⟨v,rfl,k y F' v he le hρ hm _ _ ⟨hA.1.put hd _,hw.mono λ_=>K5⟩⟩
theorem GG.sx{x:α}{Hs' :α->Fz->UV HP}(he:em=some x)(is:UV Nat)
  (hd:Nat.blt d n=true) (hcall:∀args w,(callFunc f args).run P w= .ok (.enter f args) w) (hf:QO S of=some (.func (.func f) #[] caps.toArray)) (ha:Ub S os=some vs) (has:vs++caps=as) (hi:YD is hs=Hs)
  (hc:HN P f as.toArray F Hs em ρ Hs') (k:∀F' v,F<=F'->ρ x F' v->GL O P ops rest ks Q (Hd n D ((d,v)::S) F'<|Hs' x F' ++J4 is hs) m r):GL O P ops (⟨some d,.call ⟨.value of,os.toArray,T⟩,ty,pos,after,none⟩::rest) ks Q (Hd n D S F hs) m r:=by
 have h:=GG.bV (O:=O) (P:=P) (ops:=ops) (rest:=rest) (ks:=ks) (Q:=Q) (r:=r) (n:=n) (D:=D) (S:=S) (F:=F) (hs:=hs) (d:=d) (ty:=ty) (pos:=pos) (after:=after) (T:=T) (g:=λ_=>m) is hd hcall hf ha has hi hc
  (λx' F' v he' le hρ=>by rw[he] at he';cases he';exact k F' v le hρ)
 rw[he] at h
 exact h
end
theorem SH.bl{hs':UV HP}(ks:UV Nat)(e:YD ks hs=hs')(h:SH w F (Qi hs)):SH w F (Qi hs'):=e▸h.mono λ_=>VX
end
section
variable{C:(Nat->Bool)->Env->UV HP}{X:Env->UV Wv}{ops:Of x5}{l os:UV x5}{ip k:Nat}{o:x5}
variable{O:H1 Nat}{μ:Md}
section
variable{β:Type}{P:RK}{ks:UV Kt}{Q:nN->Act->PP->Prop}{m:H1 β}{r:β}
variable{n:Nat}{D:UV q8}{S0:UV (Nat×Do)}{F:Fz}
theorem GG.pw{hs:UV HP}{id:Nat}(k g:Nat)(X:Env->UV Wv)(C:(Nat->Bool)->Env->UV HP)(hm:P.follows .mixedOrders=true)(hord:Mz 0 l=true)(htail:∀t o,k<=t->l[t]? =some o->∀j,j < t->∃s,Xu l s t j=true)
  (hlen:Nat.ble k l.length=true) (hX:∀env,(X env).length=k) (hfr:Ga n S0 (l.take k)=true) (hC:∀env,C (λ_=>false) env=hs++List.replicate g AO)
  (hops:GV O P l.toArray l n D S0 F X C 0 (l.take k))
  (tail:∀env F',F<=F'->(∀(j:Nat) (q:Wv),(X env)[j]? =some q->q.2 F')->GL O P l.toArray (l.drop k) ks Q (Hd n D (E7 (l.take k) (X env) S0) F'<|C (λj=>Nat.blt j k) env) m r):GC O P (.region id l.toArray true) ks Q (Hd n D S0 F hs) m r:=by
 intro hmr a w ha;have hlen' :k<=l.length:=j3 hlen
 let Free:(Nat->Bool)->Act->PP->Prop:=λL a w=>Down l L/\(∀i,k<=i->L i=false)/\∃env F' S,F<=F'/\Sub S0 S/\(∀(j d:Nat) (v:Do),L j=true->Vv l j=some d->((X env)[j]?).map Prod.fst=some v->K4 S d=some v)/\(∀(j:Nat) (q:Wv),L j=true->(X env)[j]? =some q->∀G,F'<=G->q.2 G)/\Hd n D S F' (C L env) a w
 let Inv:(Nat->Bool)->Act->PP->Prop:=λL a w=>Free L a w∨∃i,k < i/\Down l L/\(∀j,L j=true↔j < i)/\Xa O P l.toArray (Zu O P ks Q) (l.drop i) a w
 have hend0:∀L a w,(∀i,i < k->L i=true)->Free L a w->Xa O P l.toArray (Zu O P ks Q) (l.drop k) a w:=by
  rintro L a w hall ⟨hdn,hout,env,F',S,le,hS,hV,hΦ,hA⟩;have hXl:=hX env
  have hLk:L=λj=>Nat.blt j k:=by
    funext j;rcases nA j k with h | h
    ·rw[hall j h];exact(nL h).symm
    ·rw[hout j h];cases hb:Nat.blt j k with
     | false=>rfl
     | true=>have:=j3 hb;omega
  refine tail env F' le (λj q hq=>hΦ j q (hall j (by have:=Zt hq;omega)) hq F'<|Fz.le_refl F') hmr a w ⟨hA.1.sub<|NK hS λi o d q e1 e2 e3=> ?_,hLk▸hA.2⟩;have hik:i < k:=by have:=Zt e3;omega
  refine hV i d q.1 (hall i hik) ?_ (by rw[e3];rfl);rw[rz,TO hik] at e1
  simp[Vv,e1,e2]
 refine Xm hm Inv (λi o h e he hb=>by have:=HF hord i o (by simpa using h) e he hb;omega) ?_ ?_ ?_
 ·refine .inl ⟨λi o _ h=>(by cases h),λ_ _=>rfl,⟨λ_=>none,λ_=>0,λ_=>[],λ_=>F,λ_=>none⟩,F,S0,Fz.le_refl F,Sub.refl _,λj d v h=>(by cases h),λj q h=>(by cases h),ha.1,?_⟩;rw[hC];have h1:=ha.2.drew<|w.drawn+1;refine h1.mono λm hm' => ?_;exact GG.pW.stars_emps hm'
 ·intro L a w i o ho hLi hdeps hI;have ho' :l[i]? =some o:=by simpa using ho
  have hil:i < l.length:=Zt ho';by_cases hi:i < k
  · rcases hI with hF | ⟨k',hk,_,hL,_⟩
    case inr=>have:=(hL i).2 (by omega);rw[hLi] at this;cases this
    obtain⟨hdn,hout,env,F',S,le,hS,hV,hΦ,hA⟩:=hF;have hot:(l.take k)[i]? =some o:=by rw[rz,TO hi];exact ho'
    have hop:=GV.get hops i o hot;simp only[nl] at hop
    have hup:∀k' j,Xu l k' j i=true->L j=false:=λk' j h=>by
     cases hj:L j with
     | false=>rfl
     | true=>
      have:=XT hdn h λo' ho'' e he hb=>hdn j o' ho'' hj e he hb;rw[hLi] at this;cases this
    have hdn' :∀k' j,Xu l k' i j=true->L j=true:=λk' j h=>XT hdn h λo' ho'' e he hb=>by
     rw[ho'] at ho'';cases ho'';exact hdeps e he hb
    obtain⟨Si,hSi,hstep⟩:=hop L env F' le hLi hdn' hup hΦ;have hsub:=hSi S hS hV;have hn:∀d,o.dst=some d->Nat.blt d n=true:=λd hd=>(HB hfr hot hd).1;have h1:=OM (S:=S) hn hA.1<|hstep rfl a w ⟨hA.1.sub hsub,hA.2⟩;refine T1 (λe a w hne hq=>absurd hq.1 hne) (λa' w' hq=> ?_) h1;obtain⟨_,env',F'',le',⟨M,hMl,hMc,hMe⟩,q,hq,hqf,hA'⟩:=hq
    have hst:∀(j:Nat) (q:Wv),L j=true->(X env')[j]? =some q->(X env)[j]? =some q:=λj q hj hx=>by
     have hjl:j < M.length:=by rw[hMl,hX env,<-hX env'];exact Zt hx
     exact Se hMe.symm (PJ hdn hLi hMc j hj hjl) hx
    refine .inl ⟨?_,?_,env',F'',(match o.dst with | some d=>(d,q.1)::S | none=>S),Fz.le_trans le le',?_,?_,?_,hA'⟩
    ·intro j oj hoj hj e he hb;by_cases hji:j=i
     ·subst hji;rw[ho'] at hoj;cases hoj
      have:=hdeps e he hb;simp only[Kk];split
      ·rfl
      ·exact this
     ·have hLj:L j=true:=by simpa[Kk,hji] using hj
      have:=hdn j oj hoj hLj e he hb;simp only[Kk];split
      ·rfl
      ·exact this
    ·intro j hj;simp only[Kk];rw[RW<|by omega];exact hout j hj
    ·cases hd:o.dst with
     | none=>exact hS
     | some d=>exact NJ hS (HB hfr hot hd).2 _
    ·intro j d' v' hj hd' hv';by_cases hji:j=i
     ·subst hji;have hod:o.dst=some d' :=by simpa[Vv,ho'] using hd'
      rw[hq] at hv';simp only[x7,BY] at hv'
      subst hv';rw[hod];exact Ds
     ·have hLj:L j=true:=by simpa[Kk,hji] using hj
      have hjk:j < k:=by
       rcases nA j k with h | h
       ·exact h
       ·rw[hout j h] at hLj;cases hLj
      obtain⟨q',hq',rfl⟩:=mI.1 hv';have h0:=hV j d' q'.1 hLj hd' (by rw[hst j q' hLj hq'];rfl);cases hd:o.dst with
      | none=>exact h0
      | some d=>
       have hne:d≠d' :=λh=>by
        subst h;cases hoj:l[j]? with
        | none=>simp[Vv,hoj] at hd'
        | some oj=>
         have hdj:oj.dst=some d:=by simpa[Vv,hoj] using hd'
         exact hji<|BU hfr (by rw[rz,TO hjk];exact hoj) hot hdj hd
       exact PL hne h0
    ·intro j q' hj hq' G hG;by_cases hji:j=i
     ·subst hji;rw[hq] at hq';cases hq';exact hqf G hG
     ·have hLj:L j=true:=by simpa[Kk,hji] using hj
      exact hΦ j q' hLj (hst j q' hLj hq') G<|Fz.le_trans le' hG
  ·
    have hdnL:Down l L:=by
     rcases hI with hF | ⟨_,_,hd,_,_⟩
     ·exact hF.1
     ·exact hd
    have hall:∀j,j < i->L j=true:=λj hj=>by
     obtain⟨s,hs⟩:=htail i o (by omega) ho' j hj;exact XT hdnL hs λo' ho'' e he hb=>by rw[ho'] at ho'';cases ho'';exact hdeps e he hb
    have hdnU:Down l (Kk L i):=λj oj hoj hj e he hb=>by
     have:L e.on=true:=by
      by_cases hji:j=i
      ·subst hji;rw[ho'] at hoj;cases hoj;exact hdeps e he hb
      ·exact hdnL j oj hoj (by simpa[Kk,hji] using hj) e he hb
     simp only[Kk];split
     ·rfl
     ·exact this
    have hw:Xa O P l.toArray (Zu O P ks Q) (l.drop i) a w:=by
     rcases hI with hF | ⟨k',hk,_,hL,hwp⟩
     ·have hiV:i=k:=by
       rcases nA k i with h | h
       ·have:=hall k h;rw[hF.2.1 _<|IN _] at this;cases this
       ·omega
      subst hiV;exact hend0 L a w hall hF
     ·have:k' =i:=by
       have h1:¬i < k' :=λh=>by have:=(hL i).2 h;rw[hLi] at this;cases this
       have h2:¬k' < i:=λh=>by have:=(hL k').1<|hall k' h;omega
       omega
      subst this;exact hwp
    have hdrop:l.drop i=o::l.drop (i+1):=by
     have hg:l[i]'hil=o:=by simpa[hil] using ho'
     rw[<-hg];exact nD hil
    rw[hdrop] at hw
    have hnext:∀a' w',Xa O P l.toArray (Zu O P ks Q) (l.drop<|i+1) a' w'->Inv (Kk L i) a' w' :=λa' w' h=>
     .inr ⟨i+1,by omega,hdnU,λj=>by
      simp only[Kk];by_cases hj:j=i
      ·simp[hj]
      ·simp only[hj,T2];constructor
       ·intro hLj
        have:j < i:=by
         rcases nA j i with h | h
         ·exact h
         ·rcases hI with hF | ⟨k',hk,_,hL,_⟩
          ·rw[hF.2.1 j<|by omega] at hLj;cases hLj
          ·have h1:=(hL j).1 hLj;have:=(hL i).2 (by omega);rw[hLi] at this;cases this
        omega
       ·intro hj';exact hall j (by omega),h⟩
    unfold Xa at hw
    split
    ·rename_i hwn;rw[TO hwn] at hw
     exact Ch hnext hw
    ·rename_i hwn;rw[RW hwn] at hw
     exact hnext _ _ hw
 ·intro L a w hall hI
  have hw:Xa O P l.toArray (Zu O P ks Q) (l.drop l.length) a w:=by
    rcases hI with hF | ⟨k',hk,_,hL,hwp⟩
    ·have hVl:k=l.length:=by
      rcases nA k l.length with h | h
      ·have:=hall k (by simpa using h);rw[hF.2.1 _<|IN _] at this;cases this
      ·omega
     have:=hend0 L a w (λi hi=>hall i (by simp;omega)) hF
     rwa[hVl] at this
    ·have:l.length<=k' :=by
      rcases nA k' l.length with h | h
      ·have:=(hL k').1 (hall k'<|by simpa using h);omega
      ·exact h
     rw[nC this] at hwp
     rw[nC<|IN _];exact hwp
  rw[nC<|IN _] at hw
  exact hw
def uV(Q:nN->Act->PP->Prop):nN->Act->PP->Prop:=λe a w=>∃c,e= .panic c/\Q (.panic c) a w
def dP(O:H1 Nat)(P:RK)(ops:Of x5)(l:UV x5)(n:Nat)(D:UV q8)(S0:UV (Nat×Do))(F:Fz)(X:Env->UV Wv)(C:(Nat->Bool)->Env->UV HP)(Q:nN->Act->PP->Prop)(m:H1 β)(r:β)(i:Nat)(o:x5):Prop:=
 ∀L env F',F<=F'->L i=false->(∀k j,Xu l k i j=true->L j=true)->(∀k j,Xu l k j i=true->L j=false)->(∀(j:Nat) (q:Wv),L j=true->(X env)[j]? =some q->∀G,F'<=G->q.2 G)->
  ∃Si,(∀S,Sub S0 S->(∀(j d:Nat) (v:Do),L j=true->Vv l j=some d->((X env)[j]?).map Prod.fst=some v->K4 S d=some v)->Sub Si S)/\
   GL O P ops [o] [] (uV Q) (Hd n D Si F'<|C L env) m r
def SS(O:H1 Nat)(P:RK)(ops:Of x5)(l:UV x5)(n:Nat)(D:UV q8)(S0:UV (Nat×Do))(F:Fz)(X:Env->UV Wv)(C:(Nat->Bool)->Env->UV HP)(Q:nN->Act->PP->Prop)(m:H1 β)(r:β)(ip:Nat):Nat->UV x5->Prop
 | _,[]=>True
 | i,o::os=>((i=ip/\dP O P ops l n D S0 F X C Q m r i o)∨(∃s,Xu l s i ip=true)∨(i≠ip/\w5 O P ops l n D S0 F X C i o))/\SS O P ops l n D S0 F X C Q m r ip (i+1) os
theorem SS.get:∀{k:Nat} {os:UV x5},SS O P ops l n D S0 F X C Q m r ip k os->∀i o,os[i]? =some o->(k+i=ip/\dP O P ops l n D S0 F X C Q m r (k+i) o)∨(∃s,Xu l s (k+i) ip=true)∨(k+i≠ip/\w5 O P ops l n D S0 F X C (k+i) o)
 | _,[],_,i,o,h=>by simp at h
 | k,x::os,hb,0,o,h=>by simp at h;subst h;exact hb.1
 | k,x::os,hb,i+1,o,h=>by
  have:=SS.get hb.2 i o<|by simpa using h
  rwa[show k+1+i=k+(i+1) by omega] at this
theorem SS.nil{ops:Of x5}{l:UV x5}{X:Env->UV Wv}{C:(Nat->Bool)->Env->UV HP}{ip k:Nat}:SS O P ops l n D S0 F X C Q m r ip k []:=trivial
theorem SS.cons{ops:Of x5}{l:UV x5}{X:Env->UV Wv}{C:(Nat->Bool)->Env->UV HP}{ip k:Nat}{o:x5}{os:UV x5}(hk:k≠ip)(h:w5 O P ops l n D S0 F X C k o)(t:SS O P ops l n D S0 F X C Q m r ip (k+1) os):SS O P ops l n D S0 F X C Q m r ip k (o::os):=⟨.inr<|.inr ⟨hk,h⟩,t⟩
theorem SS.at_(h:dP O P ops l n D S0 F X C Q m r k o)(t:SS O P ops l n D S0 F X C Q m r k (k+1) os):SS O P ops l n D S0 F X C Q m r k k (o::os):=⟨.inl ⟨rfl,h⟩,t⟩
theorem SS.tq(s:Nat)(h:Xu l s k ip=true)(t:SS O P ops l n D S0 F X C Q m r ip (k+1) os):SS O P ops l n D S0 F X C Q m r ip k (o::os):=⟨.inr<|.inl ⟨s,h⟩,t⟩
theorem kv{a:Act}{w:PP}{K:Act->PP->Prop}(h:Xa O P ops (uV Q) [o] a w):if Region.wanted o (yielded ops a.tmps) then jZ O P o a w K (Zu O P ks Q) else K (a.put o.dst undef) w:=by
 unfold Xa at h
 split
 ·rename_i hw;rw[TO hw] at h
  refine Rn (λa w hq=> ?_) (λe a w hne hq=> ?_) h
  ·obtain⟨c,e,_⟩:=hq;cases e
  ·obtain⟨c,rfl,hq⟩:=hq;exact K8 hq
 ·rename_i hw;rw[RW hw] at h
  obtain⟨c,e,_⟩:=h;cases e
theorem GG.tN{A:Act->PP->Prop}{c:UV PanicEntry}(h:m=some r->∀a w,A a w->Q (.panic c) a w):m=some r->∀a w,A a w->uV Q (.panic c) a w:=λhm a w ha=>⟨c,rfl,h hm a w ha⟩
theorem GG.af{hs:UV HP}{id:Nat}(ip g:Nat)(X:Env->UV Wv)(C:(Nat->Bool)->Env->UV HP)(hm:P.follows .mixedOrders=true)(hord:Mz 0 l=true)
  (hip:Nat.blt ip l.length=true) (hX:∀env,(X env).length=l.length) (hfr:Ga n S0 l=true) (hC:∀env,C (λ_=>false) env=hs++List.replicate g AO)
  (hops:SS O P l.toArray l n D S0 F X C Q m r ip 0 l):GC O P (.region id l.toArray true) ks Q (Hd n D S0 F hs) m r:=by
 intro hmr a w ha;have hip' :ip < l.length:=j3 hip
 let Inv:(Nat->Bool)->Act->PP->Prop:=λL a w=>L ip=false/\Down l L/\∃env F' S,F<=F'/\Sub S0 S/\(∀(j d:Nat) (v:Do),L j=true->Vv l j=some d->((X env)[j]?).map Prod.fst=some v->K4 S d=some v)/\(∀(j:Nat) (q:Wv),L j=true->(X env)[j]? =some q->∀G,F'<=G->q.2 G)/\Hd n D S F' (C L env) a w
 refine Xm hm Inv (λi o h e he hb=>by have:=HF hord i o (by simpa using h) e he hb;omega) ?_ ?_ ?_
 ·refine⟨rfl,λi o _ h=>(by cases h),⟨λ_=>none,λ_=>0,λ_=>[],λ_=>F,λ_=>none⟩,F,S0,Fz.le_refl F,Sub.refl _,λj d v h=>(by cases h),λj q h=>(by cases h),ha.1,?_⟩;rw[hC];exact(ha.2.drew<|w.drawn+1).mono λm hm' =>GG.pW.stars_emps hm'
 ·intro L a w i o ho hLi hdeps hI;have ho' :l[i]? =some o:=by simpa using ho
  obtain⟨hLp,hdn,env,F',S,le,hS,hV,hΦ,hA⟩:=hI;have hop:=SS.get hops i o ho';simp only[nl] at hop
  have hup:∀k' j,Xu l k' j i=true->L j=false:=λk' j h=>by
   cases hj:L j with
   | false=>rfl
   | true=>
    have:=XT hdn h λo' ho'' e he hb=>hdn j o' ho'' hj e he hb;rw[hLi] at this;cases this
  have hdn' :∀k' j,Xu l k' i j=true->L j=true:=λk' j h=>XT hdn h λo' ho'' e he hb=>by
   rw[ho'] at ho'';cases ho'';exact hdeps e he hb
  have hn:∀d,o.dst=some d->Nat.blt d n=true:=λd hd=>(HB hfr ho' hd).1;rcases hop with⟨rfl,hop⟩ | ⟨s,hs'⟩ | ⟨hne0,hop⟩
  ·obtain⟨Si,hSi,hstep⟩:=hop L env F' le hLi hdn' hup hΦ;exact kv<|hstep hmr a w ⟨hA.1.sub<|hSi S hS hV,hA.2⟩
  ·have:=hdn' s ip hs';rw[hLp] at this;cases this
  ·obtain⟨Si,hSi,hstep⟩:=hop L env F' le hLi hdn' hup hΦ;have hsub:=hSi S hS hV;have h1:=OM (S:=S) hn hA.1<|hstep rfl a w ⟨hA.1.sub hsub,hA.2⟩;refine T1 (λe a w hne hq=>absurd hq.1 hne) (λa' w' hq=> ?_) h1;obtain⟨_,env',F'',le',⟨M,hMl,hMc,hMe⟩,q,hq,hqf,hA'⟩:=hq
   have hst:∀(j:Nat) (q:Wv),L j=true->(X env')[j]? =some q->(X env)[j]? =some q:=λj q hj hx=>by
    have hjl:j < M.length:=by rw[hMl,hX env,<-hX env'];exact Zt hx
    exact Se hMe.symm (PJ hdn hLi hMc j hj hjl) hx
   refine⟨by simp only[Kk];rw[RW λe=>hne0 e.symm];exact hLp,?_,env',F'',(match o.dst with | some d=>(d,q.1)::S | none=>S),Fz.le_trans le le',?_,?_,?_,hA'⟩
   ·intro j oj hoj hj e he hb;by_cases hji:j=i
    ·subst hji;rw[ho'] at hoj;cases hoj
     have:=hdeps e he hb;simp only[Kk];split
     ·rfl
     ·exact this
    ·have hLj:L j=true:=by simpa[Kk,hji] using hj
     have:=hdn j oj hoj hLj e he hb;simp only[Kk];split
     ·rfl
     ·exact this
   ·cases hd:o.dst with
    | none=>exact hS
    | some d=>exact NJ hS (HB hfr ho' hd).2 _
   ·intro j d' v' hj hd' hv';by_cases hji:j=i
    ·subst hji;have hod:o.dst=some d' :=by simpa[Vv,ho'] using hd'
     rw[hq] at hv';simp only[x7,BY] at hv'
     subst hv';rw[hod];exact Ds
    ·have hLj:L j=true:=by simpa[Kk,hji] using hj
     obtain⟨q',hq',rfl⟩:=mI.1 hv';have h0:=hV j d' q'.1 hLj hd' (by rw[hst j q' hLj hq'];rfl);cases hd:o.dst with
     | none=>exact h0
     | some d=>
      have hne:d≠d' :=λh=>by
       subst h;cases hoj:l[j]? with
       | none=>simp[Vv,hoj] at hd'
       | some oj=>
        have hdj:oj.dst=some d:=by simpa[Vv,hoj] using hd'
        exact hji<|BU hfr hoj ho' hdj hd
      exact PL hne h0
   ·intro j q' hj hq' G hG;by_cases hji:j=i
    ·subst hji;rw[hq] at hq';cases hq';exact hqf G hG
    ·have hLj:L j=true:=by simpa[Kk,hji] using hj
     exact hΦ j q' hLj (hst j q' hLj hq') G<|Fz.le_trans le' hG
 ·intro L a w hall hI;have:=hall ip (by simpa using hip');rw[hI.1] at this;cases this
end
end
section
variable{α τ V K β:Type}{b:α->τ->H1 τ}{rv:Fz->V->Do->Prop}{Q:nN->Act->PP->Prop}{I:UV α->UV α->τ->Act->PP->Prop}{ck:K->Do}{A:Act->PP->Prop}{xs xs':UV (UV<|K×V)}{S:UV (Nat×Do)}{l:UV α}{P:RK}{w:PP}{D:UV q8}{ks:UV Kt}{F F0:Fz}{todo done:UV (K×V)}{hs:UV HP}{γ j B n c it:Nat}{C:Fz->Nat->α->HP}{ops:Of x5}{m:H1 β}{pt':H1 OF}{seen:Of Nat}{s:τ}{r:β}{H:HP}
variable{O:H1 Nat}{μ:Md}
open Classical in
def Cg(b:α->τ->H1 τ)(l:UV α)(s:τ):H1 τ:=if ∀l',l'.Perm l->Yx b l' s=Yx b l s then Yx b l s else none
theorem qx{r:τ}(h:Cg b l s=some r):∀l',l'.Perm l->Yx b l' s=some r:=by
 unfold Cg at h
 split at h
 ·rename_i hp;intro l' hl;rw[hp l' hl];exact h
 ·cases h
theorem Ia{r:τ}(h:∀l',l'.Perm l->Yx b l' s=some r):Cg b l s=some r:=by
 unfold Cg;rw[TO λl' hl=>by rw[h l' hl,h l<|.refl _]];exact h l<|.refl _
def Gt(B:Nat)(I:UV α->UV α->τ->Act->PP->Prop)(b:α->τ->H1 τ)(todo done:UV α)(s:τ):nN->Act->PP->Prop:=λe a w=>
 (todo=[]/\e= .exit B/\I [] done s a w)∨(e= .normal/\∃x rest s',(x::rest).Perm todo/\b x s=some s'/\I rest (x::done) s' a w)
theorem Gt.over{done:UV α}(h:∀a w,A a w->I [] done s a w):some ()=some ()->∀a w,A a w->Gt B I b [] done s (.exit B) a w:=λ_ a w ha=>.inl ⟨rfl,rfl,h a w ha⟩
theorem Gt.norm{α τ:Type}{B:Nat}{I:UV α->UV α->τ->Act->PP->Prop}{b:α->τ->H1 τ}{todo done rest:UV α}{s s' m:τ}{x:α}{A:Act->PP->Prop}(hp:(x::rest).Perm todo)(hb:b x s=some s')(h:∀a w,A a w->I rest (x::done) m a w):some m=some s'->∀a w,A a w->Gt B I b todo done s .normal a w:=λe a w ha=>.inr ⟨rfl,x,rest,s',hp,hb,by simp only[BY] at e;subst e;exact h a w ha⟩
theorem R2{c:lN}{R:τ}
  (round:∀todo done s,(∀x∈todo,∃s',b x s=some s')->∀a w,I todo done s a w->c.wpIn (Rc O) 0 P (Gt B I b todo done s) a w):∀(n:Nat) (todo done:UV α) (s:τ),todo.length=n->(∀l',l'.Perm todo->Yx b l' s=some R)->(done++todo).Perm l->∀a w,I todo done s a w->
   ∀(fr:Frame) (k:UV Item) (cs:UV Frame),fr.roundOf=(Rc O).round->∃a' w' done',done'.Perm l/\I [] done' R a' w'/\ArrivesIn (Machine.fenced P<|Rc O) P (lone (fr.atR a<|.code c:: .inLoop c::k) cs w) fr k cs (.exit B) a' w'
 | n,todo,done,s,hn,hall,hdone,a,w,hI,fr,k,cs,hro=>by
  have hx:∀x∈todo,∃s',b x s=some s' :=λx hm=>by
   obtain⟨l1,l2,e⟩:=mr hm;have hp:(x::(l1++l2)).Perm todo:=by rw[e];exact List.perm_middle.symm
   have:=hall _ hp;simp only[Yx] at this
   cases hb:b x s with
   | none=>rw[hb] at this;cases this
   | some s' =>exact⟨s',rfl⟩
  obtain⟨e,a₁,w₁,hq,harr⟩:=round todo done s hx a w hI fr (.inLoop c::k) cs hro (BV O _)<|Du O _;rcases hq with⟨rfl,rfl,hI'⟩ | ⟨rfl,x,rest,s',hp,hb,hI'⟩
  ·have h0:=hall []<|.refl _;simp only[Yx,BY] at h0
   subst h0;exact⟨a₁,w₁,done,by simpa using hdone,hI',.pass (x:=.inLoop c) rfl (λ_ _=>.inl<|by simp) harr⟩
  ·have hlen:rest.length < n:=by have:=hp.length_eq;simp at this;omega
   have hall' :∀l',l'.Perm rest->Yx b l' s' =some R:=λl' hl' =>by
    have:=hall (x::l')<|(hl'.cons x).trans hp;simpa[Yx,hb] using this
   have hdone' :(x::done++rest).Perm l:=by
    refine List.Perm.trans ?_ hdone;have h1:(x::done++rest).Perm (done++x::rest):=List.perm_middle.symm;exact h1.trans<|hp.append_left done
   obtain⟨a₂,w₂,done₂,hd₂,hI₂,harr₂⟩:=R2 round rest.length rest (x::done) s' rfl hall' hdone' a₁ w₁ hI' fr k cs hro;exact⟨a₂,w₂,done₂,hd₂,hI₂,.of_steps (nj harr<|.one (eN (n:=0) (BV O _) (Du O _) rfl) iE) harr₂⟩
termination_by n=>n
section
variable{β:Type}{P:RK}{ks ks' :UV Kt}{Q:nN->Act->PP->Prop}{A:Act->PP->Prop}{r:β}
theorem GG.aq{c:lN}{s0:τ}{f:τ->H1 β}(I:UV α->UV α->τ->Act->PP->Prop)(hk:Dw B ks=some ks')
  (hI:∀a w,A a w->I l [] s0 a w)
  (round:∀todo done s,(∀x∈todo,∃s',b x s=some s')->GC O P c [] (Gt B I b todo done s) (I todo done s) (some ()) ())
  (after:∀done R,Cg b l s0=some R->done.Perm l->GE O P ks' Q (I [] done R) (f R) r):GC O P (.loop c) ks Q A ((Cg b l s0).bind f) r:=by
 intro hm a w ha;cases hl:Cg b l s0 with
 | none=>rw[hl] at hm;cases hm
 | some R=>
  rw[hl] at hm
  intro fr k cs hro hf hr;obtain⟨a',w',done,hd,hI',harr⟩:=R2 (I:=I) (b:=b) (R:=R) (l:=l) (λtodo done s hx a w hI' =>round todo done s hx rfl a w hI') l.length l [] s0 rfl (qx hl) (by simp) a w (hI a w ha) fr k cs hro;exact⟨.exit B,a',w',Q6 hk<|after done R hl hd hm a' w' hI',.of_steps (.one (eN hf hr rfl) iU) harr⟩
theorem GG.use{σ:Type}{l0:UV x5}{e:H1 σ}{s' :σ}(he:e=some s')(k:GL O P ops l0 ks Q A e s'):GL O P ops l0 ks Q A (some ()) ():=λ_=>k he
end
section
variable{K V:Type}
def Uf(ck:K->Do)(rv:Fz->V->Do->Prop)(F:Fz)(b it:Nat)(todo done:UV (K×V)):HP:=λm=>∃(es:Of nS) (clock:Nat) (l' :UV (K×V)) (seen:Of Nat) (last:Nat),
 star (pt b<|.map es clock) (pt it<|.mapIter (some b) clock seen last) m/\Uj ck rv F es.toList l'/\YN es.toList clock/\(seen.isEmpty=false->last=clock)/\
 todo.Perm (((es.toList.zip l').filter λz=> !seen.contains z.1.born).map Prod.snd)/\done.Perm (((es.toList.zip l').filter λz=>seen.contains z.1.born).map Prod.snd)/\
 ∀x,done.head? =some x->∃z∈es.toList.zip l',z.2=x/\seen.back? =some z.1.born
theorem TR{ck:K->Do}{rv:Fz->V->Do->Prop}{b:Nat}{todo done:UV (K×V)}(h:SH w F (star (Uf ck rv F0 b it todo done) H)):∃(es:Of nS) (clock:Nat) (l' :UV (K×V)) (seen:Of Nat) (last:Nat),
  w.heap[b]? =some (.map es clock)/\w.heap[it]? =some (.mapIter (some b) clock seen last)/\SH w F (star (pt it<|.mapIter (some b) clock seen last)<|star (pt b<|.map es clock) H)/\Uj ck rv F0 es.toList l'/\YN es.toList clock/\(seen.isEmpty=false->last=clock)/\
  todo.Perm (((es.toList.zip l').filter λz=> !seen.contains z.1.born).map Prod.snd)/\done.Perm (((es.toList.zip l').filter λz=>seen.contains z.1.born).map Prod.snd)/\
  ∀x,done.head? =some x->∃z∈es.toList.zip l',z.2=x/\seen.back? =some z.1.born:=by
 obtain⟨m,⟨m1,m2,d,s1,s2,⟨es,c,l',seen,last,h1,h2⟩,hq⟩,k⟩:=h;have hs:SH w F (star (pt b<|.map es c)<|star (pt it<|.mapIter (some b) c seen last) H):=⟨m,XD ⟨m1,m2,d,s1,s2,h1,hq⟩,k⟩;have hs' :SH w F (star (pt it<|.mapIter (some b) c seen last)<|star (pt b<|.map es c) H):=hs.mono λm hm=>Zh hm;exact⟨es,c,l',seen,last,hs.owned,hs'.owned,hs',h2⟩
theorem Uj.cy{ck:K->Do}{rv:Fz->V->Do->Prop}:∀{es:UV nS} {l:UV (K×V)} {z:nS×(K×V)},Uj ck rv F es l->z∈es.zip l->z.1.key=ck z.2.1/\∀F',F<=F'->rv F' z.2.2 z.1.val
 | [],_,_,_,h=>by simp at h
 | _::_,[],_,_,h=>by simp at h
 | e::es,x::l,z,⟨h1,h2,h3⟩,h=>by
  rw[List.zip_cons_cons,j9] at h
  rcases h with rfl | h
  ·exact⟨h1,h2⟩
  ·exact h3.cy h
theorem Uj.bw{ck:K->Do}{rv:Fz->V->Do->Prop}{es:UV nS}{l:UV (K×V)}(h:Uj ck rv F es l):(es.zip l).map Prod.snd=l/\(es.zip l).map Prod.fst=es:=⟨List.map_snd_zip (by rw[h.len];exact IN _),List.map_fst_zip (by rw[h.len];exact IN _)⟩
theorem G5{g:α->Nat}{p:α->Bool}:∀{Z:UV α} {z:α},(Z.map g).Nodup->z∈Z->p z=true->(Z.filter p).Perm (z::Z.filter (λy=>p y&& !(g y==g z)))
 | [],_,_,h,_=>by cases h
 | y::Z,z,hn,h,hp=>by
  simp only[s4,mM] at hn
  rcases j9.1 h with rfl | h
  ·have h1:Z.filter (λy=>p y&& !(g y==g z))=Z.filter p:=nT λy hy=>by
    have:g y≠g z:=λe=>hn.1<|e▸nB hy;simp[this]
   simp only[nu,hp,Rw,BEq.rfl,x6,Bool.and_false,By,T2];rw[h1]
  ·have hne:(g y==g z)=false:=by
    cases hb:g y==g z with
    | false=>rfl
    | true=>exact absurd (nB (f:=g) h) (by rw[<-(mB.1 hb:g y=g z)];exact hn.1)
   have ih:=G5 hn.2 h hp;simp only[nu,hne,r6,mY];cases p y with
   | true=>simp only[Rw];exact(ih.cons y).trans (.swap _ _ _)
   | false=>simpa using ih
theorem I5{g:α->Nat}{p q:α->Bool}{Z:UV α}{z:α}(hn:(Z.map g).Nodup)(hz:z∈Z)(hp:p z=false)(hq:∀y∈Z,q y=(p y||g y==g z)):(Z.filter q).Perm (z::Z.filter p):=by
 have h1:=G5 (p:=q) hn hz (by rw[hq z hz];simp);refine h1.trans<|.of_eq ?_;congr 1;refine nT λy hy=> ?_;rw[hq y hy];cases hb:g y==g z with
 | false=>simp
 | true=>
  have e:y=z:=by
   have h2:g y=g z:=mB.1 hb;obtain⟨i,hi,e1⟩:=mT hy;obtain⟨j,hj,e2⟩:=mT hz;have hpw:=eK.1 hn
   have:i=j:=by
    rcases oP i j with h | h | h
    ·exact absurd (by rw[mj,mj,e1,e2,h2])<|hpw i j (by simpa using hi) (by simpa using hj) h
    ·exact h
    ·exact absurd (by rw[mj,mj,e1,e2,h2])<|hpw j i (by simpa using hj) (by simpa using hi) h
   subst this;rw[<-e1,<-e2]
  subst e;simp[hp]
end
section
variable{β:Type}{P:RK}{ops:Of x5}{rest:UV x5}{ks:UV Kt}{Q:nN->Act->PP->Prop}{m:H1 β}{r:β}
variable{n:Nat}{D:UV q8}{S:UV (Nat×Do)}{F F0:Fz}{hs:UV HP}{d:Nat}{ty t kt vt:If}{pos:String}{after:Of lL}{ox:dO}
variable{K V:Type}{ck:K->Do}{rv:Fz->V->Do->Prop}{b it γ j:Nat}{l todo done:UV (K×V)}{xs:UV (UV<|K×V)}
theorem GG.aW{p:H1 Nat}(i:Nat)(hi:hs[i]? =some (ZB γ (QZ ck rv) F0 xs))(hb:UE γ F j b)(hp:p=some b)(hel:xs[j]? =some l)(hd:Nat.blt d n=true)(ht:P.underlying t=some (.map kt vt))(hx:QO S ox=some (.map p))
  (k:∀it,(l.map Prod.fst).Nodup->GL O P ops rest ks Q (Hd n D ((d,.pointer<|some ⟨it,0,none⟩)::S) F<|Uf ck rv F0 b it l []::hs.set i (hole γ (QZ ck rv) F0 j b xs)) m r):GL O P ops (⟨some d,.range t ox,ty,pos,after,none⟩::rest) ks Q (Hd n D S F hs) m r:=by
 subst hp;refine GG.step rfl (.inr rfl) λhm a w ha=> ?_;have h0:=(ha.2.pull hi).sR hb hel;obtain⟨es,c,l',hpm,hn,hh,hr,hsh,hbi⟩:=Wp h0;refine⟨.pointer<|some ⟨w.heap.size,0,none⟩,w.alloc<|.mapIter (some b) c #[] c,?_,k w.heap.size hn hm _ _ ⟨ha.1.put hd _,?_⟩⟩
 ·simp[execOp,Instr.range,ha.1.eval hx,J5 ht,YO hh]
 ·have h1:=hsh.alloc<|.mapIter (some b) c #[] c
  have h2:SH (w.alloc<|.mapIter (some b) c #[] c) F (star (Uf ck rv F0 b w.heap.size l [])<|star (hole γ (QZ ck rv) F0 j b xs)<|Qi<|hs.eraseIdx i):=h1.mono λm hm=>by
   have h3:=UO<|Zh hm;refine QQ (λm' hm' =>⟨es,c,l',#[],c,hm',hr,hbi,λh=>(by simp at h),?_,?_,λx h=>(by cases h)⟩) h3
   ·have e:((es.toList.zip l').filter λz=> !(#[]:Of Nat).contains z.1.born)=es.toList.zip l' :=mU.2 λ_ _=>by simp
    rw[e,hr.bw.1];exact hpm.symm
   ·have e:((es.toList.zip l').filter λz=>(#[]:Of Nat).contains z.1.born)=[]:=lg.2 λ_ _=>by simp
    rw[e];exact .refl _
  exact h2.mono λm hm=>QS (λm' hm' =>FN hi hm') hm
theorem Ts{es:UV nS}{l' :UV (K×V)}(hb:YN es c)(hr:Uj ck rv F es l'):((es.zip l').map λz=>z.1.born).Nodup:=by
 have e:(es.zip l').map (λz=>z.1.born)=((es.zip l').map Prod.fst).map (·.born):=by rw[eB];rfl
 rw[e,hr.bw.2];exact hb.1.imp λh=>oO h
theorem Sj{q:Nat}{s:Nat}(h:w.heap[q]? =some (.mapIter (some b) c seen s)):(getObj q).run P w= .ok (.mapIter (some b) c seen s) w:=by
 simp[getObj,Sem.run,h]
theorem jI{o' :Obj}{q:Nat}{s:Nat}(h:w.heap[q]? =some (.mapIter (some b) c seen s)):(setObj q o').run P w= .ok () (put w q o'):=by
 simp[setObj,Sem.run,put,h]
theorem NU(w:PP)(hn:0 < n):∃idx,idx < n/\∃k,(choose<|.mapNext n).run P w= .ok idx {w with drawn:=k}:=by
 by_cases h1:n<=1
 ·exact⟨0,hn,w.drawn,by simp[choose,Sem.run,Question.forced,h1]⟩
 ·exact⟨_,oI _ hn,w.drawn+1,by simp[choose,Sem.run,Question.forced,Question.cut,h1];rfl⟩
theorem TP{es:Of nS}{clock last:Nat}{l' :UV (K×V)}(hb:w.heap[b]? =some (.map es clock))(hit:w.heap[it]? =some (.mapIter (some b) clock seen last))(hr:Uj ck rv F0 es.toList l')(hbi:YN es.toList clock)(hl:seen.isEmpty=false->last=clock)
  (ht:todo.Perm (((es.toList.zip l').filter λz=> !seen.contains z.1.born).map Prod.snd)):(todo=[]->∃k,(Instr.next (.pointer<|some ⟨it,0,none⟩) false ty).run P w= .ok (.tuple #[.bool false]) {w with drawn:=k})/\
  (todo≠[]->∃z∈es.toList.zip l',seen.contains z.1.born=false/\∃k,(Instr.next (.pointer<|some ⟨it,0,none⟩) false ty).run P w= .ok (.tuple #[.bool true,z.1.key,z.1.val]) (put {w with drawn:=k} it<|.mapIter (some b) clock (seen.push z.1.born) clock)):=by
 have hguard:(!seen.isEmpty&& !es.isEmpty&&es.all λe=>decide<|e.born≥last)=false:=by
  cases hs:seen.isEmpty with
  | true=>simp
  | false=>
   cases he:es.isEmpty with
   | true=>simp
   | false=>
    have hlast:=hl hs;simp only[r6,mA];cases hall:es.all λe=>decide (e.born≥last) with
    | false=>rfl
    | true=>
     rw[Array.all_eq_true] at hall
     have hsz:0 < es.size:=by
      rcases eG es.size with h | h
      ·have:es.isEmpty=true:=by simpa using Array.eq_empty_of_size_eq_zero h
       rw[this] at he;cases he
      ·exact h
     have h1:=hall 0 hsz;have h2:=hbi.2 es[0] (by simp);simp at h1;omega
 obtain⟨L,hL⟩:∃L,L=es.filter λe=> !seen.contains e.born:=⟨_,rfl⟩
 have hin:∀e,e∈L->e∈es.toList/\seen.contains e.born=false:=λe he=>by
  subst hL;rw[Array.mem_filter] at he
  exact⟨by simpa using he.1,by simpa using he.2⟩
 have hold:(L.filter λe=>decide<|e.born < clock)=L:=by
  rw[Array.filter_eq_self];intro e he;simpa using hbi.2 e (hin e he).1
 have hnew:(L.filter λe=>decide<|e.born≥clock)=#[]:=by
  rw[Array.filter_eq_empty_iff];intro e he;have:=hbi.2 e (hin e he).1;simp;omega
 have hlen:todo.length=L.size:=by
  have h1:=ht.length_eq;rw[lz] at h1
  have h2:((es.toList.zip l').filter λz=> !seen.contains z.1.born).length=(((es.toList.zip l').map Prod.fst).filter λe=> !seen.contains e.born).length:=by
   rw[oh,lz];rfl
  rw[hr.bw.2] at h2
  rw[h1,h2,hL,<-lZ,Array.toList_filter]
 have hrun:∀(q:H1 nS->PP->Result Do),True:=λ_=>trivial;refine⟨λh0=> ?_,λh0=> ?_⟩
 ·have hLe:L=#[]:=oZ (by rw[<-hlen,h0];rfl);refine⟨w.drawn,?_⟩;simp only[Instr.next,r7,Sj hit,Result.andThen,YO hb,hguard,By,T2,<-hL,hLe];simp[choose,Sem.run,Question.forced]
 ·have hLn:L.size≠0:=by
   rw[<-hlen];intro e;exact h0<|wt e
  have hLe:L.isEmpty=false:=by
   cases h:L.isEmpty with
   | false=>rfl
   | true=>rw[Array.isEmpty_iff_size_eq_zero] at h;exact absurd h hLn
  obtain⟨idx,hidx,k,hch⟩:=NU (P:=P) w (n:=L.size) (by omega);have hmem:=hin L[idx]<|by simp
  obtain⟨z,hz,hze⟩:∃z∈es.toList.zip l',z.1=L[idx]:=by
   have:=hmem.1;rw[<-hr.bw.2] at this
   obtain⟨z,hz,e⟩:=ny.1 this;exact⟨z,hz,e⟩
  refine⟨z,hz,by rw[hze];exact hmem.2,k,?_⟩;rw[hze];have hit2:({w with drawn:=k}:PP).heap[it]? =some (.mapIter (some b) clock seen last):=hit;simp only[Instr.next,r7,Sj hit,Result.andThen,YO hb,hguard,By,T2,<-hL,hold,hnew,hLe,Array.append_empty,Array.size_map,iX,hch];simp[hidx,jI hit2]
theorem GG.aZ(i:Nat)(hi:hs[i]? =some (Uf ck rv F0 b it [] done))(hp:pt' =some ⟨it,0,none⟩)(hd:Nat.blt d n=true)(hx:QO S ox=some (.pointer pt'))
  (k:GL O P ops rest ks Q (Hd n D ((d,.tuple #[.bool false])::S) F hs) m r):GL O P ops (⟨some d,.next ox false,ty,pos,after,none⟩::rest) ks Q (Hd n D S F hs) m r:=by
 subst hp;refine GG.step rfl (.inr rfl) λhm a w ha=> ?_;obtain⟨es,c,l',seen,last,hb,hit,_,hr,hbi,hl,ht,hdn,_⟩:=TR<|ha.2.pull hi;obtain⟨k',hk'⟩:=(TP (P:=P) (ty:=ty) hb hit hr hbi hl ht).1 rfl;refine⟨_,{w with drawn:=k'},?_,k hm _ _ ⟨ha.1.put hd _,ha.2.drew _⟩⟩;simp[execOp,ha.1.eval hx,hk']
theorem GG.aY(i:Nat)(hi:hs[i]? =some (Uf ck rv F0 b it todo done))(hne:todo≠[])(hp:pt' =some ⟨it,0,none⟩)(hd:Nat.blt d n=true)(hx:QO S ox=some (.pointer pt'))
  (k:∀x rest' v,(x::rest').Perm todo->(∀F',F0<=F'->rv F' x.2 v)->GL O P ops rest ks Q (Hd n D ((d,.tuple #[.bool true,ck x.1,v])::S) F<|hs.set i<|Uf ck rv F0 b it rest'<|x::done) m r):GL O P ops (⟨some d,.next ox false,ty,pos,after,none⟩::rest) ks Q (Hd n D S F hs) m r:=by
 subst hp;refine GG.step rfl (.inr rfl) λhm a w ha=> ?_;obtain⟨es,c,l',seen,last,hb,hit,hsh,hr,hbi,hl,ht,hdn,_⟩:=TR<|ha.2.pull hi;obtain⟨z,hz,hseen,k',hk'⟩:=(TP (P:=P) (ty:=ty) hb hit hr hbi hl ht).2 hne;obtain⟨hkey,hval⟩:=hr.cy hz;have hnd:=Ts hbi hr;have hlt:z.1.born < c:=hbi.2 _ (by rw[<-hr.bw.2];exact nB hz);have hsp:=G5 (p:=λy:nS×(K×V)=> !seen.contains y.1.born) hnd hz<|by simp only[hseen,r6]
 have e1:∀y:nS×(K×V),(!(seen.push z.1.born).contains y.1.born)=(!seen.contains y.1.born&& !(y.1.born==z.1.born)):=λy=>by
  rw[oH,iP]
 refine⟨_,put {w with drawn:=k'} it<|.mapIter (some b) c (seen.push z.1.born) c,?_,k z.2 (((es.toList.zip l').filter λy=> !(seen.push z.1.born).contains y.1.born).map Prod.snd) z.1.val ?_ hval hm _ _ ⟨by rw[<-hkey];exact ha.1.put hd _,SH.push hi<|(((hsh.drew _).put (o' :=.mapIter (some b) c (seen.push z.1.born) c))).mono λm hm=> ?_⟩⟩
 ·simp[execOp,ha.1.eval hx,hk']
 ·refine List.Perm.trans ?_ ht.symm;have:=(hsp.map Prod.snd).symm;simp only[s4] at this
  refine List.Perm.trans (.of_eq ?_) this;congr 2;exact nT λy _=>e1 y
 ·have hm2:=UO<|Zh hm;refine QQ (λm' hm' =>⟨es,c,l',seen.push z.1.born,c,hm',hr,hbi,λ_=>rfl,.refl _,?_,λx hx=> ?_⟩) hm2
  ·have:=I5 (g:=λy:nS×(K×V)=>y.1.born) (p:=λy=>seen.contains y.1.born) (q:=λy=>(seen.push z.1.born).contains y.1.born) hnd hz hseen (λy _=>by rw[oH]);have h3:=this.map Prod.snd;simp only[s4] at h3
   exact(hdn.cons z.2).trans h3.symm
  ·simp only[og,BY] at hx
   exact⟨z,hz,hx,by simp⟩
theorem GG.ae{x:K×V}(i:Nat)(hi:hs[i]? =some (Uf ck rv F0 b it todo<|x::done))(hp:pt' =some ⟨it,0,none⟩)(hd:Nat.blt d n=true)(hx:QO S ox=some (.pointer pt'))
  (k:∀v,(∀F',F0<=F'->rv F' x.2 v)->GL O P ops rest ks Q (Hd n D ((d,.tuple #[ck x.1,v])::S) F hs) m r):GL O P ops (⟨some d,.entry ox,ty,pos,after,none⟩::rest) ks Q (Hd n D S F hs) m r:=by
 subst hp;refine GG.step rfl (.inr rfl) λhm a w ha=> ?_;obtain⟨es,c,l',seen,last,hb,hit,hsh,hr,hbi,hl,ht,hdn,hlast⟩:=TR<|ha.2.pull hi;obtain⟨z,hz,hzx,hback⟩:=hlast x rfl;obtain⟨hkey,hval⟩:=hr.cy hz;subst hzx
 have hne:seen.isEmpty=false:=by
  cases h:seen.isEmpty with
  | false=>rfl
  | true=>
   have:seen=#[]:=by simpa using h
   subst this;simp at hback
 have hlc:=hl hne;subst hlc
 have hfind:es.find? (λe=>e.born==z.1.born)=some z.1:=by
  have hmem:z.1∈es.toList:=by rw[<-hr.bw.2];exact nB hz
  have hnd:(es.toList.map (·.born)).Nodup:=hbi.1.imp λh=>oO h
  have:es.toList.find? (λe=>e.born==z.1.born)=some z.1:=by
   clear hb hit hr hbi ht hdn hlast hz hval hkey hsh hback hl
   generalize es.toList=L at hmem hnd
   induction L with
   | nil=>cases hmem
   | cons y L ih=>
    simp only[s4,mM] at hnd
    rcases j9.1 hmem with e | e
    ·rw[ma,<-e];simp
    ·have:(y.born==z.1.born)=false:=by
      cases hbb:y.born==z.1.born with
      | false=>rfl
      | true=>exact absurd (nB (f:=(·.born)) e) (by rw[<-(mB.1 hbb:y.born=z.1.born)];exact hnd.1)
     rw[ma,this];exact ih e hnd.2
  simpa using this
 refine⟨_,w,?_,k z.1.val hval hm _ _ ⟨by rw[<-hkey];exact ha.1.put hd _,ha.2⟩⟩;simp[execOp,Instr.entry,ha.1.eval hx,Sj hit,YO hb,hback,hfind]
end
section
variable{K V:Type}{ck:K->Do}{rv:Fz->V->Do->Prop}{b it γ j:Nat}{l todo done:UV (K×V)}{xs:UV (UV<|K×V)}{F F0 F1:Fz}{w:PP}{hs:UV HP}
theorem SH.pB(hp:done.Perm l)(hn:(l.map Prod.fst).Nodup)(h:SH w F (star (Uf ck rv F0 b it [] done) H)):SH w F (star (QZ ck rv F0 b l) H):=by
 obtain⟨es,c,l',seen,last,hb,hit,hsh,hr,hbi,hl,ht,hdn,_⟩:=TR h
 have h1:((es.toList.zip l').filter λz=> !seen.contains z.1.born)=[]:=by
  have h3:=ht.length_eq;rw[lz] at h3
  exact wt h3.symm
 have h2:((es.toList.zip l').filter λz=>seen.contains z.1.born)=es.toList.zip l' :=by
  rw[mU];intro z hz;have:=(lg.1 h1) z hz;simpa using this
 rw[h2,hr.bw.1] at hdn
 exact hsh.drop.mono λm hm=>QQ (λm hm=>⟨l',(hdn.symm.trans hp),hn,es,c,hm,hr,hbi⟩) hm
theorem OL{C:Fz->Nat->UV (K×V)->HP}(h:SH w F (star (hole γ C F0 j b xs) H)):j < xs.length:=by
 obtain⟨m,⟨m1,m2,_,_,_,⟨bs,hl,hb,_⟩,_⟩,_⟩:=h;rw[<-hl];exact(AC.1 hb).1
theorem SH.cY{xs' :UV (UV<|K×V)}(i k:Nat)(hi:hs[i]? =some (Uf ck rv F0 b it [] done))(hk:(hs.eraseIdx i)[k]? =some (hole γ (QZ ck rv) F1 j b xs))(le0:F0<=F)(le1:F1<=F)(hp:done.Perm l)(hn:(l.map Prod.fst).Nodup)(he:xs' =xs.set j l)(h:SH w F (Qi hs)):SH w F (Qi<|(hs.eraseIdx i).set k<|ZB γ (QZ ck rv) F xs'):=by
 subst he;have h1:SH w F (star (Uf ck rv F0 b it [] done)<|star (hole γ (QZ ck rv) F1 j b xs)<|Qi<|(hs.eraseIdx i).eraseIdx k):=(h.pull hi).mono λm hm=>QS (λ_=>VW hk) hm;have h2:=(h1.pB hp hn).mono (H' :=star (QZ ck rv F b l)<|star (hole γ (QZ ck rv) F1 j b xs)<|Qi<|(hs.eraseIdx i).eraseIdx k) λm hm=>QQ (λm hm=>Je le0 hm) hm;have h3:=SH.aO HT le1 h2<|OL<|h2.mono λm hm=>Zh hm;exact SH.push hk h3
end
section
variable{β:Type}{X:Act->PP->Prop}{P:RK}{ks:UV Kt}{Q:nN->Act->PP->Prop}{m:H1 β}{r:β}{n:Nat}{D:UV q8}{S:UV (Nat×Do)}{F F0 F1:Fz}{hs:UV HP}
variable{K V:Type}{ck:K->Do}{rv:Fz->V->Do->Prop}{b it γ j:Nat}{l done:UV (K×V)}{xs xs' :UV (UV<|K×V)}
theorem GG.cY(i k:Nat)(hi:hs[i]? =some (Uf ck rv F0 b it [] done))(hk:(hs.eraseIdx i)[k]? =some (hole γ (QZ ck rv) F1 j b xs))(le0:F0<=F)(le1:F1<=F)(hp:done.Perm l)(hn:(l.map Prod.fst).Nodup)(he:xs' =xs.set j l)
  (K' :GE O P ks Q (Hd n D S F<|(hs.eraseIdx i).set k<|ZB γ (QZ ck rv) F xs') m r):GE O P ks Q (Hd n D S F hs) m r:=λhm a w ha=>
 K' hm a w ⟨ha.1,ha.2.cY i k hi hk le0 le1 hp hn he⟩
end
section
variable{α:Type}{γ:Nat}{C:Fz->Nat->α->HP}{F F0 F' :Fz}{xs:UV α}{i j b c:Nat}{x y:α}{H:HP}{w:PP}
def zA(C:Fz->Nat->α->HP):Fz->Nat->H1 α->HP:=λF b x=>match x with | some x=>C F b x | none=>AO
theorem Nq(hC:Hb C):Hb (zA C):=λF F' b x m le h=>by
 cases x with
 | none=>exact h
 | some x=>exact hC _ _ _ _ _ le h
theorem zw{bs:UV Nat}(hb:bs[j]? =some b):List.zipWith (zA C F0) bs ((xs.map some).set j none)=(List.zipWith (C F0) bs xs).set j AO:=by
 have h1:=Rk (f:=zA C F0) (xs:=xs.map some) (y:=none) hb;rw[<-h1,List.zipWith_map_right];rfl
theorem N7(h:SH w F (star (hole γ C F0 j b xs) H)):SH w F (star (ZB γ (zA C) F0<|(xs.map some).set j none) H):=
 h.mono λm hm=>QQ (λm hm=>by
  obtain⟨bs,hl,hb,hz⟩:=hm;refine⟨bs,by simpa using hl,QS (λm hm=> ?_) hz⟩;rw[zw hb];have hj:=(AC.1 hb).1;have hjl:j < (List.zipWith (C F0) bs xs).length:=by simp;omega
  exact FN (Nm hjl) ⟨λ_=>none,m,λ_=>.inl rfl,λ_ _ e=>by simp at e,Mem.sub.refl _,trivial,hm⟩) hm
theorem Np(h:SH w F (star (ZB γ (zA C) F0<|(xs.map some).set j none) H))(hb:UE γ F j b)(hj:j < xs.length):SH w F (star (hole γ C F0 j b xs) H):=by
 obtain⟨m,⟨m1,m2,d,s1,s2,⟨bs,hl,hz⟩,hq⟩,k⟩:=h
 have hbs:bs[j]? =some b:=by
  obtain⟨m3,m4,d',t1,t2,hg,_⟩:=hz;obtain⟨_,e⟩:=k.gst γ _<|s1 _ _<|t1 _ _ hg;simp only[Cell.gh.injEq] at e
  rw[e];exact hb.2
 rw[zw hbs] at hz
 refine⟨m,⟨m1,m2,d,s1,s2,⟨bs,by simpa using hl,hbs,?_⟩,hq⟩,k⟩;obtain⟨m3,m4,d',t1,t2,hg,hs⟩:=hz;have hlen:bs.length=xs.length:=by simpa using hl
 have hz:((List.zipWith (C F0) bs xs).set j AO)[j]? =some AO:=by
  rw[mS];simp;omega
 obtain⟨m5,m6,d6,t5,t6,_,h6⟩:=VW hz hs;rw[iM] at h6
 exact⟨m3,m6,λk=>(d' k).imp id (λe=>by
  cases h:m6 k with
  | none=>rfl
  | some c=>have:=t6 _ _ h;rw[e] at this;cases this),t1,t6.trans t2,hg,h6⟩
theorem SH.rF(h:SH w F (star (hole γ C F0 j b xs) H))(hc:UE γ F i c)(hx:xs[i]? =some x)(hij:i≠j):SH w F (star (C F0 c x)<|star (hole γ (zA C) F0 i c<|(xs.map some).set j none) H):=SH.sR (N7 h) hc (x:=some x) (by rw[mS];simp[ib hij,hx])
theorem SH.rV(hC:Hb C)(le:F0<=F')(hb:UE γ F j b)(hi:i < xs.length)(hj:j < xs.length)(hij:i≠j)(h:SH w F (star (C F' c y)<|star (hole γ (zA C) F0 i c<|(xs.map some).set j none) H)):SH w F (star (hole γ C F' j b<|xs.set i y) H):=by
 have h1:=SH.aO (y:=some y) (Nq hC) le h (by simpa using hi);refine Np ?_ hb<|by simpa using hj
 have e:((xs.map some).set j none).set i (some y)=((xs.set i y).map some).set j none:=by
  rw[List.map_set,List.set_comm _ _ hij.symm]
 rw[<-e];exact h1
end
section
variable{β:Type}{P:RK}{ops:Of x5}{rest:UV x5}{ks:UV Kt}{Q:nN->Act->PP->Prop}{m:H1 β}{r:β}
variable{n:Nat}{D:UV q8}{S:UV (Nat×Do)}{F F0:Fz}{hs:UV HP}{ty t kt vt:If}{pos:String}{after:Of lL}{ox oy oz:dO}
variable{K V:Type}[BEq K][LawfulBEq K]{ck:K->Do}{rv:Fz->V->Do->Prop}{b c γ j i' :Nat}{l:UV (K×V)}{xs:UV (UV<|K×V)}{key:K}{val:V}
theorem GG.aa{p:H1 Nat}{xs' :UV (UV<|K×V)}{vv:Do}(i:Nat)(hi:hs[i]? =some (hole γ (QZ ck rv) F0 j b xs))(le0:F0<=F)(hbj:UE γ F j b)(hb:UE γ F i' c)(hp:p=some c)(hij:i'≠j)(hel:xs[i']? =some l)(ht:P.underlying t=some (.map kt vt))(ok:X0 P kt ck)(hx:QO S ox=some (.map p))(hy:QO S oy=some (ck key))(hz:QO S oz=some vv)(hv:∀F',F<=F'->rv F' val vv)(he:xs' =xs.set i' (Qx l key val))
  (k:GL O P ops rest ks Q (Hd n D S F<|hs.set i<|hole γ (QZ ck rv) F j b xs') m r):GL O P ops (⟨none,.mapUpdate t ox oy oz,ty,pos,after,none⟩::rest) ks Q (Hd n D S F hs) m r:=by
 subst hp;subst he;refine GG.sS rfl (.inr rfl) λhm a w ha=> ?_;have h0:=ha.2.pull hi;have h1:=h0.rF hb hel hij;obtain⟨es,c',l1,hpm,hn,hb',hr,hsh,hbi⟩:=Wp h1;obtain⟨es',c2,hrun,g1,g2⟩:=Hz (key:=key) (val:=val) hb' (hr.up le0) hbi ht ok hv;refine⟨_,?_,k hm _ _ ⟨ha.1.bh _,SH.push hi<|SH.rV HT le0 hbj (AC.1 hel).1 (OL h0) hij<|(hsh.put (o' :=.map es' c2)).mono λm hm=>QQ (λm hm=>⟨Qx l1 key val,H8 hpm hn,JQ hn,es',c2,hm,g1,g2⟩) hm⟩⟩;simp[execOp,ha.1.eval hx,ha.1.eval hy,ha.1.eval hz,hrun]
end
section
variable{α β:Type}{X:Act->PP->Prop}{P:RK}{ops:Of x5}{l0:UV x5}{cd:lN}{ks:UV Kt}{Q:nN->Act->PP->Prop}{m:H1 β}{r:β}{n:Nat}{D:UV q8}{S:UV (Nat×Do)}{F F0:Fz}{hs:UV HP}
variable{γ j b:Nat}{C:Fz->Nat->α->HP}{xs:UV α}
theorem SH.pC{F' :Fz}(hC:Hb C)(le:F0<=F')(hb:UE γ F j b)(h:SH w F (star (hole γ C F0 j b xs) H)):SH w F (star (hole γ C F' j b xs) H):=by
 have hj:j < xs.length:=by
  obtain⟨m,⟨m1,m2,_,_,_,⟨bs,hl,hb,_⟩,_⟩,_⟩:=h;rw[<-hl];exact(AC.1 hb).1
 exact Np (SH.sD (Nq hC) le<|N7 h) hb hj
end
theorem Cb{xs:UV α}{x:α}(h:xs[j]? =some x):xs=xs.set j x:=by
 apply mD;intro i;rw[mS];by_cases e:j=i
 ·subst e;rw[TO rfl,h,TO (AC.1 h).1]
 ·rw[RW e]
section
variable{α τ:Type}
open Classical in
def B4(E:τ->τ->Prop)(b:α->τ->H1 τ)(l:UV α)(s:τ):H1 τ:=match Yx b l s with
 | none=>none
 | some r=>if ∀l',l'.Perm l->∃r',Yx b l' s=some r'/\E r' r then some r else none
theorem qy{E:τ->τ->Prop}{b:α->τ->H1 τ}{l:UV α}{s r:τ}(h:B4 E b l s=some r):∀l',l'.Perm l->∃r',Yx b l' s=some r'/\E r' r:=by
 unfold B4 at h
 split at h
 ·cases h
 ·split at h
  ·rename_i hp;simp only[BY] at h
   subst h;exact hp
  ·cases h
theorem Ib{E:τ->τ->Prop}{b:α->τ->H1 τ}{l:UV α}{s r:τ}(h0:Yx b l s=some r)(h:∀l',l'.Perm l->∃r',Yx b l' s=some r'/\E r' r):B4 E b l s=some r:=by
 unfold B4;rw[h0];exact TO h
theorem Pz{c:lN}{I:UV α->UV α->τ->Act->PP->Prop}{b:α->τ->H1 τ}{l:UV α}
  (round:∀todo done s,(∀x∈todo,∃s',b x s=some s')->∀a w,I todo done s a w->c.wpIn (Rc O) 0 P (Gt B I b todo done s) a w):∀(n:Nat) (todo done:UV α) (s:τ),todo.length=n->(∀l',l'.Perm todo->∃r,Yx b l' s=some r)->(done++todo).Perm l->∀a w,I todo done s a w->
   ∀(fr:Frame) (k:UV Item) (cs:UV Frame),fr.roundOf=(Rc O).round->∃a' w' done' R l',done'.Perm l/\l'.Perm todo/\Yx b l' s=some R/\I [] done' R a' w'/\ArrivesIn (Machine.fenced P<|Rc O) P (lone (fr.atR a<|.code c:: .inLoop c::k) cs w) fr k cs (.exit B) a' w'
 | n,todo,done,s,hn,hall,hdone,a,w,hI,fr,k,cs,hro=>by
  have hx:∀x∈todo,∃s',b x s=some s' :=λx hm=>by
   obtain⟨l1,l2,e⟩:=mr hm;have hp:(x::(l1++l2)).Perm todo:=by rw[e];exact List.perm_middle.symm
   obtain⟨r,this⟩:=hall _ hp;simp only[Yx] at this
   cases hb:b x s with
   | none=>rw[hb] at this;cases this
   | some s' =>exact⟨s',rfl⟩
  obtain⟨e,a₁,w₁,hq,harr⟩:=round todo done s hx a w hI fr (.inLoop c::k) cs hro (BV O _)<|Du O _;rcases hq with⟨rfl,rfl,hI'⟩ | ⟨rfl,x,rest,s',hp,hb,hI'⟩
  ·exact⟨a₁,w₁,done,s,[],by simpa using hdone,.refl _,rfl,hI',.pass (x:=.inLoop c) rfl (λ_ _=>.inl<|by simp) harr⟩
  ·have hlen:rest.length < n:=by have:=hp.length_eq;simp at this;omega
   have hall' :∀l',l'.Perm rest->∃r,Yx b l' s' =some r:=λl' hl' =>by
    obtain⟨r,this⟩:=hall (x::l')<|(hl'.cons x).trans hp;exact⟨r,by simpa[Yx,hb] using this⟩
   have hdone' :(x::done++rest).Perm l:=by
    refine List.Perm.trans ?_ hdone;have h1:(x::done++rest).Perm (done++x::rest):=List.perm_middle.symm;exact h1.trans<|hp.append_left done
   obtain⟨a₂,w₂,done₂,R,l',hd₂,hl',hf,hI₂,harr₂⟩:=Pz round rest.length rest (x::done) s' rfl hall' hdone' a₁ w₁ hI' fr k cs hro;exact⟨a₂,w₂,done₂,R,x::l',hd₂,(hl'.cons x).trans hp,by simp[Yx,hb,hf],hI₂,.of_steps (nj harr<|.one (eN (n:=0) (BV O _) (Du O _) rfl) iE) harr₂⟩
termination_by n=>n
theorem GG.aK{ks':UV Kt}{c:lN}{l:UV α}{b:α->τ->H1 τ}{s0:τ}{f:τ->H1 β}(E:τ->τ->Prop)(I:UV α->UV α->τ->Act->PP->Prop)(hk:Dw B ks=some ks')
  (hI:∀a w,A a w->I l [] s0 a w) (hE:∀done R R' a w,E R' R->I [] done R' a w->I [] done R a w)
  (round:∀todo done s,(∀x∈todo,∃s',b x s=some s')->GC O P c [] (Gt B I b todo done s) (I todo done s) (some ()) ())
  (after:∀done R,B4 E b l s0=some R->done.Perm l->GE O P ks' Q (I [] done R) (f R) r):GC O P (.loop c) ks Q A ((B4 E b l s0).bind f) r:=by
 intro hm a w ha;cases hl:B4 E b l s0 with
 | none=>rw[hl] at hm;cases hm
 | some R=>
  rw[hl] at hm
  have hall:=qy hl;intro fr k cs hro hf hr;obtain⟨a',w',done,R',l',hd,hl',hfr,hI',harr⟩:=Pz (I:=I) (b:=b) (l:=l) (λtodo done s hx a w hI' =>round todo done s hx rfl a w hI') l.length l [] s0 rfl (λl' hl' =>let⟨r',h1,_⟩:=hall l' hl';⟨r',h1⟩) (by simp) a w (hI a w ha) fr k cs hro;obtain⟨r',h1,h2⟩:=hall l' hl';rw[hfr] at h1
  cases h1;exact⟨.exit B,a',w',Q6 hk<|after done R hl hd hm a' w'<|hE done R R' a' w' h2 hI',.of_steps (.one (eN hf hr rfl) iU) harr⟩
end
def Tz(xs ys:UV (UV α)):Prop:=xs.length=ys.length/\∀(i:Nat) (x y:UV α),xs[i]? =some x->ys[i]? =some y->x.Perm y
theorem SH.sd{xs ys:UV α}(hl:xs.length=ys.length)(hC:∀(i:Nat) x y b m,xs[i]? =some x->ys[i]? =some y->C F0 b x m->C F0 b y m)(h:SH w F (star (ZB γ C F0 xs) H)):SH w F (star (ZB γ C F0 ys) H):=
 h.mono λm hm=>QQ (λm ⟨bs,hl',hs⟩=>⟨bs,hl'.trans hl,QS (λm hm=>Dg (by simp[hl]) (λi p q e1 e2 m hp=>by
  rw[lP] at e1 e2
  cases hb:bs[i]? with
  | none=>rw[hb] at e1;simp at e1
  | some b=>
   cases hx:xs[i]? with
   | none=>rw[hb,hx] at e1;simp at e1
   | some x=>
    cases hy:ys[i]? with
    | none=>rw[hb,hy] at e2;simp at e2
    | some y=>rw[hb,hx] at e1;rw[hb,hy] at e2;simp at e1 e2;subst e1;subst e2;exact hC i x y b _ hx hy hp) hm) hs⟩) hm
section
variable{K V:Type}{ck:K->Do}{rv:Fz->V->Do->Prop}{γ j b:Nat}{xs ys:UV (UV<|K×V)}{n:Nat}{D:UV q8}{S:UV (Nat×Do)}{F F0:Fz}{hs:UV HP}{a:Act}{w:PP}
theorem Hd.rU(i:Nat)(hi:hs[i]? =some (hole γ (QZ ck rv) F0 j b xs))(hb:UE γ F j b)(hp:Tz xs ys)(ha:Hd n D S F hs a w):Hd n D S F (hs.set i<|hole γ (QZ ck rv) F0 j b ys) a w:=by
 refine⟨ha.1,SH.push hi ?_⟩;have h0:=ha.2.pull hi;have hj:=OL h0;refine Np ?_ hb (by rw[<-hp.1];exact hj);refine(N7 h0).sd (by simp[hp.1]) λi' x y b' m hx hy hm=> ?_;rw[mS] at hx hy
 by_cases e:j=i'
 ·simp only[e,Rw] at hx hy
  split at hx
  ·split at hy
   ·cases hx;cases hy;exact hm
   ·cases hy
  ·cases hx
 ·rw[RW e,nV] at hx hy
  cases h1:xs[i']? with
  | none=>rw[h1] at hx;cases hx
  | some x0=>
   cases h2:ys[i']? with
   | none=>rw[h2] at hy;cases hy
   | some y0=>
    rw[h1] at hx;rw[h2] at hy
    simp only[x7,BY] at hx hy
    subst hx;subst hy;obtain⟨l',g1,g2,g3⟩:=hm;have hxy:=hp.2 i' x0 y0 h1 h2;exact⟨l',g1.trans hxy,((hxy.map Prod.fst).nodup_iff).1 g2,g3⟩
end
end
section
variable{O:H1 Nat}{μ:Md}
section
variable{K V:Type}{ck:K->Do}{rv:Fz->V->Do->Prop}{γ:Nat}{F:Fz}{A:UV (UV<|K×V)}{x p:H1 Nat}{P:RK}{f:x4}
def ML(A:UV (UV<|K×V))(x:H1 Nat):H1 (H1 Nat×UV (UV<|K×V)):=
 match x with
 | none=>some (none,A)
 | some i=>(A[i]?).bind λl=>some (some A.length,A++[l])
theorem xx(h:Zy γ F p x)(hcl:∀b es clock w,w.heap[b]? =some (.map es clock)->Calls P f #[.map<|some b] w λe w' =>e= .returned (.map<|some w.heap.size)/\w' =w.alloc (.map es clock))
  (hnil:∀w,Calls P f #[.map none] w λe w' =>e= .returned (.map none)/\w' =w):HN P f [.map p].toArray F [ZB γ (QZ ck rv) F A] (ML A x) (fun(r:H1 Nat×UV (UV<|K×V)) F v=>∃(p0:H1 Nat) (_k0:Unit),v= .map p0/\Zy γ F p0 r.1) (λr F' =>[ZB γ (QZ ck rv) F' r.2]):=by
 intro r hm w R hw;have h0:SH w F (Qi<|[ZB γ (QZ ck rv) F A]++[R]):=hw.mono λm hm=>K5<|QS (λ_ h=>J7 h) hm;cases x with
 | none=>
  have hp:p=none:=h;subst hp;simp only[ML,BY] at hm
  subst hm;refine(hnil w).mono ?_;rintro e w' ⟨rfl,rfl⟩;exact⟨F,_,Fz.le_refl _,rfl,⟨none,(),rfl,rfl⟩,hw⟩
 | some i=>
  obtain⟨b,hb,rfl⟩:=h;simp only[ML] at hm
  cases hl:A[i]? with
  | none=>rw[hl] at hm;cases hm
  | some l=>
   rw[hl] at hm
   simp only[DO,BY] at hm
   subst hm;obtain⟨es,c,l',hpm,hn,hheap,hr,hbi⟩:=SH.sT (H:=Qi [R]) h0 hb hl;refine(hcl b es c w hheap).mono ?_;rintro e w' ⟨rfl,rfl⟩;have h1:=h0.alloc<|.map es c;obtain⟨F',le,g1,g2⟩:=SH.pU (x:=l) (H:=Qi [R]) (xs:=A) HT (Fz.le_refl F) h1 λF' m le hm=>⟨l',hpm,hn,es,c,hm,hr.up le,hbi⟩;exact⟨F',_,le,rfl,⟨some w.heap.size,(),rfl,_,g1,rfl⟩,g2.mono λm hm=>Xn<|VY (l:=[ZB γ (QZ ck rv) F'<|A++[l]]) hm⟩
end
def fS(i j:Nat):H1 Unit:=if i=j then none else some ()
theorem vG{i j:Nat}{u:Unit}(h:fS i j=some u):i≠j:=λe=>by simp[fS,e] at h
end
section
variable{ms:Of (String×If)}{Q:nN->Act->UV Frame->PP->Prop}{S:UV (Nat×Do)}{ε:Type}{Hp:ε->Fz->UV HP}{Hs hs:UV HP}{P:RK}{ops:Of x5}{f:x4}{cs:UV Frame}{fn:lK}{w:PP}{v:Do}{F:Fz}{n:Nat}{a:Act}
variable{O:H1 Nat}{μ:Md}
def uX(P:RK)(penc:ε->Do)(f:x4)(args:Of Do)(F:Fz)(Hs:UV HP)(Hp:ε->Fz->UV HP):Prop:=
 (∀w R,SH w F (star (Qi Hs) R)->CallsDIn Fence.wide 0 P f args .returning w (λe u' w' =>u' = .returning/\(∃v,e= .returned v)/\SH w' F (star (Qi Hs) R)))/\
 ∀q w R,SH w F (star (Qi Hs) R)->CallsDIn Fence.wide 0 P f args (.panicking [{v:=penc q,recovered:=false}]) w (λe u' w' =>u' = .panicking [{v:=penc q,recovered:=true}]/\(∃v,e= .returned v)/\∃F',F<=F'/\SH w' F' (star (Qi<|Hp q F') R))
def kS(P:RK)(fn:lK)(F:Fz)(Hs:UV HP)(R:HP):nN->Act->PP->Prop:=λe a w=>(e= .normal∨e= .ret)/\a.defers=[]/\(∃v,(results fn a.tmps).run P w= .ok v w)/\SH w F (star (Qi Hs) R)
def kR(P:RK)(fn:lK)(F:Fz)(Hp:Fz->UV HP)(R:HP):nN->Act->PP->Prop:=λe a w=>(e= .normal∨e= .ret)/\a.defers=[]/\(∃v,(results fn a.tmps).run P w= .ok v w)/\∃F',F<=F'/\SH w F' (star (Qi<|Hp F') R)
section
variable{ε:Type}{P:RK}{penc:ε->Do}{f:x4}{fn:lK}{n i0 d0 d1:Nat}{args:UV Do}{F:Fz}{Hs:UV HP}{Hp:ε->Fz->UV HP}{rest:lN}{T0:Of If}{ty0 ty1:If}{pos0 pos1:String}{after0 after1:Of lL}
theorem IL{ev:dO->Do}:(execOp ev ⟨some d0,.call ⟨.builtin .recover,#[],T0⟩,ty0,pos0,after0,none⟩).run P w= .ok .recover w:=by
 simp[execOp,resolve,invoke,builtin]
theorem zB{i:Nat}{rest:UV Nat}{o:x5}{w':PP}(ho:ops[i]? =some o)(hw:Region.wanted o (yielded ops a.tmps)=true)(hr:(execOp a.eval o).run P w= .ok (.value v) w')(h:wpOpsSIn Fence.wide 0 P ops Q rest (a.put o.dst v) cs w'):wpOpsSIn Fence.wide 0 P ops Q (i::rest) a cs w:=by
 simp only[wpOpsSIn,ho];exact⟨λ_ _=>trivial,by rw[TO hw,hr];exact h⟩
theorem E9{i:Nat}{rest:UV Nat}{o:x5}{cs':UV Frame}{w':PP}(ho:ops[i]? =some o)(hw:Region.wanted o (yielded ops a.tmps)=true)(hr:(execOp a.eval o).run P w= .ok .recover w')(hrec:(match recoverD cs with | some (v,cs')=>(v,cs') | none=>(.nilIface,cs))=(v,cs'))(h:wpOpsSIn Fence.wide 0 P ops Q rest (a.put o.dst v) cs' w'):wpOpsSIn Fence.wide 0 P ops Q (i::rest) a cs w:=by
 simp only[wpOpsSIn,ho];refine⟨λ_ _=>trivial,?_⟩;rw[TO hw,hr];cases hr:recoverD cs with
 | none=>
  rw[hr] at hrec
  simp only[bY] at hrec
  obtain⟨rfl,rfl⟩:=hrec;exact h
 | some p=>
  obtain⟨v',cs2⟩:=p;rw[hr] at hrec
  simp only[bY] at hrec
  obtain⟨rfl,rfl⟩:=hrec;exact h
theorem Cd{cs':UV Frame}
   (hsl:Sl n [] S a) (hd0:Nat.blt d0 n=true) (hd1:Nat.blt d1 n=true)
  (hrec:(match recoverD cs with | some (v,cs')=>(v,cs') | none=>(.nilIface,cs))=(v,cs')) (hQ:∀a',Sl n [] ((d1,v)::(d0,v)::S) a'->Q .normal a' cs' w):wpOpsSIn Fence.wide 0 P #[⟨some d0,.call ⟨.builtin .recover,#[],T0⟩,ty0,pos0,after0,none⟩,⟨some d1,.assign<|.tmp d0,ty1,pos1,after1,none⟩] Q [0,1] a cs w:=by
 have h1:=hsl.put hd0 v;have h2:=h1.put hd1 v;have hev:(a.put (some d0) v).eval (.tmp d0)=v:=h1.eval (by simp[QO,K4]);refine E9 (i:=0) (w' :=w) (o:=⟨some d0,.call ⟨.builtin .recover,#[],T0⟩,ty0,pos0,after0,none⟩) rfl (by simp[Region.wanted]) IL hrec ?_;refine zB (i:=1) (v:=v) (w' :=w) (o:=⟨some d1,.assign<|.tmp d0,ty1,pos1,after1,none⟩) rfl (by simp[Region.wanted]) (by simp[execOp,hev]) ?_;exact hQ _ h2
theorem uX.mk(hf:P.funcs[f]? =some fn)(hb:fn.body=some (.seq (.region i0 #[⟨some d0,.call ⟨.builtin .recover,#[],T0⟩,ty0,pos0,after0,none⟩,⟨some d1,.assign<|.tmp d0,ty1,pos1,after1,none⟩] false) rest))(hn:fn.ntmps=n)(ha:Nat.ble args.length n=true)(hd0:Nat.blt d0 n=true)(hd1:Nat.blt d1 n=true)
  (h0:∀R,GC none P rest [] (kS P fn F Hs R) (Hd n [] ((d1,.nilIface)::(d0,.nilIface)::Db 0 args) F<|Hs++[R]) (some ()) ())
  (h1:∀q R,GC none P rest [] (kR P fn F (Hp q) R) (Hd n [] ((d1,penc q)::(d0,penc q)::Db 0 args) F<|Hs++[R]) (some ()) ()):uX P penc f args.toArray F Hs Hp:=by
 refine⟨λw R hw=> ?_,λq w R hw=> ?_⟩
 ·refine iZ hf hb trivial λc₀ cs hu=> ?_;refine wpSIn_seq (wpSIn_region<|Cd (n:=n) (v:=.nilIface) (cs' :=c₀::cs) (S:=Db 0 args) (by rw[hn];exact Uw ha) hd0 hd1 (by simp[recoverD,hu]) λa' ha' => ?_);refine wpSIn_of_wpIn rfl<|eC (h0 R rfl a' w ⟨ha',hw.mono λm hm=>K5<|QS (λ_ h=>J7 h) hm⟩) ?_;rintro e a2 w2 ⟨he,hd,⟨v,hv⟩,hs⟩;have hc:c₀::cs={c₀ with mode:=.returning}::cs:=by cases c₀;simp_all
  rcases he with rfl | rfl
  ·exact⟨hd,.returning,hc,v,hv,rfl,⟨v,rfl⟩,hs⟩
  ·exact⟨hd,.returning,hc,v,hv,rfl,⟨v,rfl⟩,hs⟩
 ·refine iZ hf hb trivial λc₀ cs hu=> ?_;refine wpSIn_seq (wpSIn_region<|Cd (n:=n) (v:=penc q) (cs' :={c₀ with mode:=.panicking [{v:=penc q,recovered:=true}]}::cs) (S:=Db 0 args) (by rw[hn];exact Uw ha) hd0 hd1 (by simp[recoverD,hu]) λa' ha' => ?_);refine wpSIn_of_wpIn rfl<|eC (h1 q R rfl a' w ⟨ha',hw.mono λm hm=>K5<|QS (λ_ h=>J7 h) hm⟩) ?_;rintro e a2 w2 ⟨he,hd,⟨v,hv⟩,hs⟩;rcases he with rfl | rfl
  ·exact⟨hd,_,rfl,v,hv,rfl,⟨v,rfl⟩,hs⟩
  ·exact⟨hd,_,rfl,v,hv,rfl,⟨v,rfl⟩,hs⟩
end
section
variable{P:RK}{n:Nat}{S:UV (Nat×Do)}{F F' :Fz}{hs Hs:UV HP}{fn:lK}{R:HP}{Hp:Fz->UV HP}
theorem Pb(is:UV Nat)(hr:fn.results=#[])(hi:YD is hs=Hs++[R]):some ()=some ()->∀a w,Hd n [] S F hs a w->kS P fn F Hs R .normal a w:=by
 intro _ a w ha;refine⟨.inl rfl,ha.1.2.1,⟨_,Jd (rs:=[]) (by simpa using hr) ha .nil⟩,ha.2.mono λm hm=> ?_⟩;have h1:=VX (ks:=is) hm;rw[hi] at h1
 exact Xn<|VY h1
theorem Pa(is:UV Nat)(hr:fn.results=#[])(hi:YD is hs=Hp F' ++[R])(le:F<=F'):some ()=some ()->∀a w,Hd n [] S F' hs a w->kR P fn F Hp R .normal a w:=by
 intro _ a w ha;refine⟨.inl rfl,ha.1.2.1,⟨_,Jd (rs:=[]) (by simpa using hr) ha .nil⟩,F',le,ha.2.mono λm hm=> ?_⟩;have h1:=VX (ks:=is) hm;rw[hi] at h1
 exact Xn<|VY h1
end
section
variable{β:Type}{P:RK}{n:Nat}{S:UV (Nat×Do)}{F F' :Fz}{hs:UV HP}
variable{G ε:Type}{penc:ε->Do}{fn:lK}{R:HP}{ρ:G->β->Fz->Do->Prop}{Hs' :G->β->Fz->UV HP}{x r:β}{rs:UV ResultVar}{vs:UV Do}{U:G}
theorem PB{caps:UV Do}{Hp:ε->Fz->UV HP}(is0:UV Nat)(hcall:∀args w,(callFunc f args).run P w= .ok (.enter f args) w)(hc:uX P penc f caps.toArray F' Hs Hp)(hi0:YD is0 hs=Hs)(is:UV Nat)(hr:fn.results=rs.toArray)(h:SP P S F' (Hs++J4 is0 hs) rs vs)(hi:YD is (Hs++J4 is0 hs)=Hs' U x F' ++[R])(le:F<=F')(hρ:ρ U x F' (S8 vs)):some x=some r->∀a w,Hd n [Pd f caps] S F' hs a w->Sm P fn F R ρ Hs' r .ret a w:=by
 intro e a w ha;simp only[BY] at e
 subst e;show LeavesIn Fence.wide 0 P fn a.tmps _ a.defers .returning w;rw[ha.1.2.1]
 have hsh:SH w F' (star (Qi Hs)<|Qi<|J4 is0 hs):=ha.2.mono λm hm=>by
  have:=UA (ks:=is0) hm;rw[hi0] at this;exact this
 refine o5 (by simp) (λe=>by cases e) (Ak hcall) PO<|(hc.1 w _ hsh).mono ?_;rintro _ _ w' ⟨rfl,⟨v,rfl⟩,h2⟩;have h3:SH w' F' (Qi<|Hs++J4 is0 hs):=h2.mono λ_=>K5;refine⟨_,Jd (n:=n) (a:=a) (D:=a.defers) hr ⟨⟨ha.1.1,rfl,ha.1.2.2⟩,h3⟩ h,U,F',_,le,rfl,hρ,h3.mono λm hm=> ?_⟩;have h1:=VX (ks:=is) hm;rw[hi] at h1
 exact Xn<|VY h1
theorem Lx{caps:UV Do}{Hp:ε->Fz->UV HP}{q:ε}(j:Nat)(hcall:∀args w,(callFunc f args).run P w= .ok (.enter f args) w)(hc:uX P penc f caps.toArray F' Hs Hp)(is:UV Nat)(hi:YD is hs=Hs)(hr:fn.results=rs.toArray)(h:∀F'',F'<=F''->SP P S F'' (Hp q F'' ++J4 is hs) rs vs)(hj:∀F'',(Hp q F'' ++J4 is hs)[j]? =some R)(le:F<=F')
  (hnew:∀w F R,SH w F R->∃U F'',F<=F''/\SH w F'' (star (Qi<|Hs' U x F'') R)) (hρ:∀U F'',ρ U x F''<|S8 vs):some x=some r->∀a w,Hd n [Pd f caps] S F' hs a w->Sm P fn F R ρ Hs' r (.panic [{v:=penc q,recovered:=false}]) a w:=by
 intro e a w ha;simp only[BY] at e
 subst e;show LeavesIn Fence.wide 0 P fn a.tmps _ a.defers (.panicking _) w;rw[ha.1.2.1]
 have hsh:SH w F' (star (Qi Hs)<|Qi<|J4 is hs):=ha.2.mono λm hm=>by
  have:=UA (ks:=is) hm;rw[hi] at this;exact this
 refine o5 (by simp) (λe=>by cases e) (Ak hcall) PO<|(hc.2 q w _ hsh).mono ?_;rintro _ _ w' ⟨rfl,⟨v,rfl⟩,F2,le2,h2⟩;have h3:SH w' F2 (Qi<|Hp q F2++J4 is hs):=h2.mono λ_=>K5;obtain⟨U,F3,le3,h4⟩:=hnew _ _ _<|h3.only<|hj F2;exact⟨_,Jd (n:=n) (a:=a) (D:=a.defers) hr ⟨⟨ha.1.1,rfl,ha.1.2.2⟩,h3⟩<|h F2 le2,U,F3,_,Fz.le_trans le<|Fz.le_trans le2 le3,rfl,hρ U F3,h4⟩
end
section
variable{β:Type}{P:RK}{ops:Of x5}{rest:UV x5}{ks:UV Kt}{Q:nN->Act->PP->Prop}{m:H1 β}{r:β}
variable{n:Nat}{D:UV q8}{S:UV (Nat×Do)}{F:Fz}{hs:UV HP}{d:Nat}{ty t t' tx:If}{pos:String}{after:Of lL}{ox oy:dO}{v:Do}
theorem vl(ht:P.underlying t=some (.interface ms))(k:Nat)(w:PP):(Op.equalIn (k+1) t .nilIface .nilIface).run P w= .ok true w:=by
 simp[Op.equalIn,J5 ht]
theorem OU(ht:P.underlying t=some (.interface ms))(k:Nat)(w:PP):(Op.equalIn (k+1) t (.iface tx v) .nilIface).run P w= .ok false w:=by
 simp[Op.equalIn,J5 ht]
theorem wT(ht:P.underlying t=some (.interface ms))(w:PP):(Op.equal t .nilIface .nilIface).run P w= .ok true w:=vl ht 9999 w
theorem I8(ht:P.underlying t=some (.interface ms))(w:PP):(Op.equal t (.iface tx v) .nilIface).run P w= .ok false w:=OU ht 9999 w
theorem GG.sh(hd:Nat.blt d n=true)(ht:P.underlying t=some (.interface ms))(hx:QO S ox=some .nilIface)(k:GL μ P ops rest ks Q (Hd n D ((d,.bool false)::S) F hs) m r):GL μ P ops (⟨some d,.binOp .neq t ox (.const .nilIface) t',ty,pos,after,none⟩::rest) ks Q (Hd n D S F hs) m r:=
 GG.val hd (λa w ha=>by
  have h1:a.eval (.const .nilIface)= .nilIface:=rfl;simp[execOp,ha.1.eval hx,h1,eqGuard,binOp,wT ht]) k
theorem GG.sg(hd:Nat.blt d n=true)(ht:P.underlying t=some (.interface ms))(hx:QO S ox=some (.iface tx v))(k:GL μ P ops rest ks Q (Hd n D ((d,.bool true)::S) F hs) m r):GL μ P ops (⟨some d,.binOp .neq t ox (.const .nilIface) t',ty,pos,after,none⟩::rest) ks Q (Hd n D S F hs) m r:=
 GG.val hd (λa w ha=>by
  have h1:a.eval (.const .nilIface)= .nilIface:=rfl;simp[execOp,ha.1.eval hx,h1,eqGuard,binOp,I8 ht]) k
theorem GG.sX{td:oA}(hd:Nat.blt d n=true)(ht:P.underlying tx=some td)(hn:∀ms,td≠.interface ms)(hx:QO S ox=some (.iface tx v))(k:GL O P ops rest ks Q (Hd n D ((d,.tuple #[v,.bool true])::S) F hs) m r):GL O P ops (⟨some d,.typeAssert ox t tx true,ty,pos,after,none⟩::rest) ks Q (Hd n D S F hs) m r:=
 GG.val hd (λa w ha=>by
  have:(Instr.typeAssert (.iface tx v) t tx true).run P w= .ok (.tuple #[v,.bool true]) w:=by
   cases td<;>simp_all [Instr.typeAssert,J5 ht]
  simp[execOp,ha.1.eval hx,this]) k
end
theorem Ij{X:HP}{m:Mem}(h:X m):star (Qi []) X m:=⟨λ_=>none,m,λ_=>.inl rfl,λ_ _ e=>by simp at e,Mem.sub.refl _,trivial,h⟩
theorem Ht{α:Type}{γ:Nat}{C:Fz->Nat->α->HP}{R:HP}{m:Mem}(h:star (Qi hs) (star (yU γ []) R) m):star (Qi<|ZB γ C F []::hs) R m:=by
 have h1:=UO<|Zh h;exact QQ (λm hm=>QQ (λm hm=>⟨[],rfl,m,λ_=>none,λ_=>.inr rfl,Mem.sub.refl _,λ_ _ e=>by simp at e,hm,trivial⟩) hm) h1
end
end Go.Dec
end
