/- For OfficeNone. -/
import Derived.Test.YtogaibncbkhjlaaGreatDoorPo0
import Derived.RecoverIn
import Derived.LaidEql
noncomputable section
namespace Go.Dec
section
variable{O:Option Nat}
theorem ZL.at{γ:Nat}{F:Fz}{p:Option Addr}{x:Option Nat}{i:Nat}(h:ZL γ F p x)(e:x=some i):∃b,VE γ F i b/\p=some ⟨b,0,none⟩:=by subst e;exact h
theorem Zp.at{γ:Nat}{F:Fz}{p:Option Nat}{x:Option Nat}{i:Nat}(h:Zp γ F p x)(e:x=some i):∃b,VE γ F i b/\p=some b:=by subst e;exact h
theorem ZS{α:Type}{xs ys:List α}{j:Nat}{x y:α}(h:xs[j]? =some x)(e:ys=xs.set j y):ys[j]? =some y:=by
 subst e;rw[List.getElem?_set];simp[(List.getElem?_eq_some_iff.1 h).1]
section
variable{α:Type}{γ T j b:Nat}{c:Kb α}{xs:List α}{x:α}{F F0:Fz}{w:World}{H:HP}
theorem SH.xU(h:SH w F (star (Qw γ (Ud T c) F0 xs) H))(hb:VE γ F j b)(hx:xs[j]? =some x):∃vs:List Value,(∀F',F0<=F'->c F' x vs)/\w.heap[b]? =some (.cells vs.toArray T):=by
 obtain⟨m,⟨m1,_,_,s1,_,⟨vs,h1,h2⟩,_⟩,k⟩:=h.xe hb hx;exact⟨vs,h1,k.dC (s1 _ _ h2)⟩
theorem SH.fy{o:Nat}{us:List Value}{x' :α}{G:Fz}(h:SH w F (star (Qw γ (Ud T c) F0 xs) H))(hb:VE γ F j b)(hx:xs[j]? =some x)(le0:F0<=G)(hr:∀F' vs,G<=F'->c F' x vs->c F' x' (Kn vs o us)):
  ∃vs:List Value,(∀F',F0<=F'->c F' x vs)/\w.heap[b]? =some (.cells vs.toArray T)/\SH (Dec.put w b (.cells (Kn vs o us).toArray T)) F (star (Qw γ (Ud T c) G (xs.set j x')) H):=by
 obtain⟨m,⟨m1,m2,d,s1,s2,⟨vs,h1,h2⟩,h3⟩,k⟩:=h.xe hb hx;have hs:SH w F (star (pt b (.cells vs.toArray T)) (star (hole γ (Ud T c) F0 j b xs) H)):=⟨m,⟨m1,m2,d,s1,s2,h2,h3⟩,k⟩;refine⟨vs,h1,k.dC (s1 _ _ h2),?_⟩;have h4:=hs.put (o' :=.cells (Kn vs o us).toArray T);refine SH.gQ (F0:=F0) (b:=b) Ud.stays le0 (h4.mono λm hm=>QX (λm hm=>⟨Kn vs o us,λF' le=>hr F' vs le (h1 F' (Fz.le_trans le0 le)),hm⟩) hm) (List.getElem?_eq_some_iff.1 hx).1
end
section
variable{β:Type}{P:Program}{ops:Array Oper}{rest:List Oper}{ks:List Kt}{Q:Exit->Act->World->Prop}{m:Option β}{r:β}
variable{n:Nat}{D:List Deferred}{S:List (Nat×Value)}{F F0:Fz}{hs:List HP}
variable{d:Nat}{d' :Option Nat}{ty t e:TypeId}{pos:String}{after:Array Edge}{ox oy oz:Operand}{v:Value}
theorem GL.J{a:Addr}{p:Option Addr}(hp:p=some a)(hd:Nat.blt d n=true)(hx:QK S ox=some (.pointer p))(k:GL O P ops rest ks Q (Hd n D ((d,.pointer (some a))::S) F hs) m r):
  GL O P ops (⟨some d,.nilCheck ox,ty,pos,after,none⟩::rest) ks Q (Hd n D S F hs) m r:=by
 subst hp;exact GL.nilCheck hd hx k
section
variable{α:Type}{γ T j b o:Nat}{c:Kb α}{xs:List α}{x:α}
theorem GL.um{Φ:Value->Prop}(i:Nat)(hi:hs[i]? =some (Qw γ (Ud T c) F0 xs))(le0:F0<=F)(hb:VE γ F j b)(hel:xs[j]? =some x)(hd:Nat.blt d n=true)(hA:∀w,(isAgg t).run P w= .ok false w)
  (hx:QK S ox=some (.pointer (some ⟨b,o,none⟩))) (hg:∀vs,c F x vs->∃v,vs[o]? =some v/\Φ v) (k:∀v,Φ v->GL O P ops rest ks Q (Hd n D ((d,v)::S) F hs) m r):
  GL O P ops (⟨some d,.load t ox,ty,pos,after,none⟩::rest) ks Q (Hd n D S F hs) m r:=by
 refine GL.step rfl (.inr rfl) λhm a w ha=> ?_;obtain⟨vs,h1,h2⟩:=(ha.2.pull hi).xU hb hel;obtain⟨v,hv,hΦ⟩:=hg _ (h1 F le0);refine⟨v,w,?_,k v hΦ hm _ _ ⟨ha.1.put hd _,ha.2⟩⟩;simp[execOp,ha.1.eval hx,Xo hA (by rw[cell_of_heap h2];exact hv)]
theorem GL.wy{z:Nat}{Φ:List Value->Prop}(i:Nat)(hi:hs[i]? =some (Qw γ (Ud T c) F0 xs))(le0:F0<=F)(hb:VE γ F j b)(hel:xs[j]? =some x)(hd:Nat.blt d n=true)(hA:∀w,(isAgg t).run P w= .ok true w)(hz:∀w,(sizeOf t).run P w= .ok z w)
  (hx:QK S ox=some (.pointer (some ⟨b,o,none⟩))) (hg:∀vs,c F x vs->∃us,(vs.drop o).take z=us/\us.length=z/\Φ us) (k:∀us,Φ us->GL O P ops rest ks Q (Hd n D ((d,.agg us.toArray)::S) F hs) m r):
  GL O P ops (⟨some d,.load t ox,ty,pos,after,none⟩::rest) ks Q (Hd n D S F hs) m r:=by
 refine GL.step rfl (.inr rfl) λhm a w ha=> ?_;obtain⟨vs,h1,h2⟩:=(ha.2.pull hi).xU hb hel;obtain⟨us,hv,hul,hΦ⟩:=hg _ (h1 F le0);refine⟨.agg us.toArray,w,?_,k us hΦ hm _ _ ⟨ha.1.put hd _,ha.2⟩⟩;simp[execOp,ha.1.eval hx,FG hA hz h2 hv hul]
theorem GL.u7{N sz' :Nat}{us:List Value}{x' :α}{xs' :List α}{G:Fz}(i:Nat)(hi:hs[i]? =some (Qw γ (Ud T c) F0 xs))(le0:F0<=G)(le1:G<=F)(hN:∀F' vs,c F' x vs->vs.length=N)(hz:∀w,(sizeOf t).run P w= .ok sz' w)(hb:VE γ F j b)(hel:xs[j]? =some x)
  (hx:QK S ox=some (.pointer (some ⟨b,o,none⟩))) (hy:QK S oy=some v) (hc:v.cells=us.toArray) (hlen:us.length=sz') (h1:us.all Value.oneCell' =true) (hs' :Nat.ble (o+sz') N=true)
  (hr:∀F' vs,G<=F'->c F' x vs->c F' x' (Kn vs o us)) (he:xs' =xs.set j x')
  (k:GL O P ops rest ks Q (Hd n D S F (hs.set i (Qw γ (Ud T c) G xs'))) m r):
  GL O P ops (⟨none,.store t ox oy,ty,pos,after,none⟩::rest) ks Q (Hd n D S F hs) m r:=by
 subst he;refine GL.xf rfl (.inr rfl) λhm a w ha=> ?_;obtain⟨vs,g1,g2,g3⟩:=(ha.2.pull hi).fy (o:=o) (us:=us) hb hel le0 hr;have hl:=hN _ _ (g1 F (Fz.le_trans le0 le1));have hs'' :=Nat.le_of_ble_eq_true hs';refine⟨_,?_,k hm _ _ ⟨ha.1.wK _,SH.push hi g3⟩⟩;have hrun:=WR (P:=P) (o:=o) (i:=0) g2 (by omega) h1;simp only[Nat.add_zero] at hrun
 simp only[execOp,Instr.storeAt,ha.1.eval hx,ha.1.eval hy,Instr.sureAddr,storeVar,Sem.run_bind,hz,Result.andThen,hc];simp[hlen,hrun]
end
section
variable{K V:Type}[BEq K][LawfulBEq K]
theorem Cp:∀{l:List (K×V)} {k:K} {v:V},Qc l k=some v->(k,v)∈l
 | [],_,_,h=>by cases h
 | x::l,k,v,h=>by
  simp only[Qc] at h
  split at h
  ·rename_i hb;simp only[Option.some.injEq] at h
   have:=LawfulBEq.eq_of_beq hb;subst this;subst h;simp
  ·exact List.mem_cons_of_mem _ (Cp h)
theorem Gx:∀{l:List (K×V)} {k:K} {v:V},(l.map Prod.fst).Nodup->(k,v)∈l->Qc l k=some v
 | [],_,_,_,h=>by cases h
 | x::l,k,v,hn,h=>by
  simp only[List.map_cons,List.nodup_cons] at hn
  simp only[Qc];rcases List.mem_cons.1 h with h | h
  ·subst h;simp
  ·have hne:(k==x.1)=false:=by
    cases hb:k==x.1 with
    | false=>rfl
    | true=>exact absurd (List.mem_map_of_mem (f:=Prod.fst) h) (by have:=LawfulBEq.eq_of_beq hb;rw[this];exact hn.1)
   rw[hne];exact Gx hn.2 h
theorem Vn{l l' :List (K×V)}{k:K}(hp:l'.Perm l)(hn:(l.map Prod.fst).Nodup):Qc l' k=Qc l k:=by
 have hn' :(l'.map Prod.fst).Nodup:=(hp.map _).nodup_iff.2 hn;cases h:Qc l k with
 | some v=>exact Gx hn' (hp.mem_iff.2 (Cp h))
 | none=>
  cases h' :Qc l' k with
  | none=>rfl
  | some v=>rw[Gx hn (hp.mem_iff.1 (Cp h'))] at h;cases h
theorem Nl{l:List (K×V)}{k:K}(h:k∉l.map Prod.fst):l.filter (λx=> !(k==x.1))=l:=
 List.filter_eq_self.2 λx hx=>by
  cases hb:k==x.1 with
  | false=>rfl
  | true=>exact absurd (by have:=LawfulBEq.eq_of_beq hb;rw[this];exact List.mem_map_of_mem (f:=Prod.fst) hx) h
theorem JX:∀{l:List (K×V)} {k:K} {v:V},(l.map Prod.fst).Nodup->(Qv l k v).Perm ((k,v)::l.filter (λx=> !(k==x.1)))
 | [],_,_,_=>.refl _
 | x::l,k,v,hn=>by
  simp only[List.map_cons,List.nodup_cons] at hn
  simp only[Qv,List.filter_cons];cases hb:k==x.1 with
  | true=>
   have:=LawfulBEq.eq_of_beq hb;simp only[if_true,Bool.not_true,Bool.false_eq_true,if_false];rw[Nl (by rw[this];exact hn.1)]
  | false=>
   simp only[Bool.false_eq_true,if_false,Bool.not_false,if_true];exact((JX hn.2).cons x).trans (.swap _ _ _)
theorem JE{l:List (K×V)}{k:K}{v:V}(hn:(l.map Prod.fst).Nodup):((Qv l k v).map Prod.fst).Nodup:=by
 rw[((JX hn).map Prod.fst).nodup_iff];simp only[List.map_cons,List.nodup_cons,List.mem_map,List.mem_filter,not_exists,not_and,and_imp];refine⟨λx _ hb e=> ?_,(hn.sublist ((List.filter_sublist (l:=l)).map _))⟩;rw[e] at hb;simp at hb
theorem X7{l l' :List (K×V)}{k:K}{v:V}(hp:l'.Perm l)(hn:(l.map Prod.fst).Nodup):(Qv l' k v).Perm (Qv l k v):=
 (JX ((hp.map _).nodup_iff.2 hn)).trans (((hp.filter _).cons _).trans (JX hn).symm)
def Jj{K V:Type}[BEq K]:List (K×V)->K->List (K×V)
 | [],_=>[]
 | x::l,k=>if k==x.1 then l else x::Jj l k
theorem WE:∀{l:List (K×V)} {k:K},(l.map Prod.fst).Nodup->Jj l k=l.filter (λx=> !(k==x.1))
 | [],_,_=>rfl
 | x::l,k,hn=>by
  simp only[List.map_cons,List.nodup_cons] at hn
  simp only[Jj,List.filter_cons];cases hb:k==x.1 with
  | true=>
   have:=LawfulBEq.eq_of_beq hb;simp only[if_true,Bool.not_true,Bool.false_eq_true,if_false];rw[Nl (by rw[this];exact hn.1)]
  | false=>
   simp only[Bool.false_eq_true,if_false,Bool.not_false,if_true];rw[WE hn.2]
theorem Fv{l:List (K×V)}{k:K}(hn:(l.map Prod.fst).Nodup):((Jj l k).map Prod.fst).Nodup:=by
 rw[WE hn];exact hn.sublist ((List.filter_sublist (l:=l)).map _)
theorem BG{l l' :List (K×V)}{k:K}(hp:l'.Perm l)(hn:(l.map Prod.fst).Nodup):(Jj l' k).Perm (Jj l k):=by
 rw[WE hn,WE ((hp.map _).nodup_iff.2 hn)];exact hp.filter _
end
def QU{K V:Type}(ck:K->Value)(rv:Fz->V->Value->Prop)(F:Fz)(b:Nat)(l:List (K×V)):HP:=λm=>∃l' :List (K×V),l'.Perm l/\(l.map Prod.fst).Nodup/\HN ck rv F b l' m
section
variable{K V:Type}{ck:K->Value}{rv:Fz->V->Value->Prop}{F F' F0:Fz}{b:Nat}{l:List (K×V)}
theorem Ks{m:Mem}(le:F<=F')(h:QU ck rv F b l m):QU ck rv F' b l m:=let⟨l',h1,h2,h3⟩:=h;⟨l',h1,h2,Ie le h3⟩
theorem XV:Wl (α:=List (K×V)) (QU ck rv):=λ_ _ _ _ _ le h=>Ks le h
theorem Ui{w:World}{H:HP}(h:SH w F (star (QU ck rv F0 b l) H)):∃(es:Array MapEntry) (clock:Nat) (l' :List (K×V)),l'.Perm l/\(l.map Prod.fst).Nodup/\w.heap[b]? =some (.map es clock)/\UB ck rv F0 es.toList l'/\SH w F (star (pt b (.map es clock)) H)/\J3 es.toList clock:=by
 obtain⟨m,⟨m1,m2,d,s1,s2,⟨l',h1,h2,h3⟩,hq⟩,k⟩:=h;obtain⟨es,c,g1,g2,g3,g4⟩:=MG (ck:=ck) (rv:=rv) (F0:=F0) (b:=b) (l:=l') ⟨m,⟨m1,m2,d,s1,s2,h3,hq⟩,k⟩;exact⟨es,c,l',h1,h2,g1,g2,g3,g4⟩
end
section
variable{K V:Type}{ck:K->Value}{rv:Fz->V->Value->Prop}{γ j b:Nat}{xs:List (List (K×V))}{l l' :List (K×V)}{key:K}{val z:V}{kt vt:TypeId}
theorem SH.xa{w:World}{H:HP}(h:SH w F (star (Qw γ (QU ck rv) F0 xs) H))(hb:VE γ F j b)(hel:xs[j]? =some l):∃(es:Array MapEntry) (clock:Nat) (l' :List (K×V)),l'.Perm l/\(l.map Prod.fst).Nodup/\w.heap[b]? =some (.map es clock)/\UB ck rv F0 es.toList l'/\J3 es.toList clock:=by
 obtain⟨es,c,l',h0,h0',h1,h2,_,h3⟩:=Ui (h.xe hb hel);exact⟨es,c,l',h0,h0',h1,h2,h3⟩
theorem SH.ff{w:World}{H:HP}(h:SH w F (star (Qw γ (QU ck rv) F0 xs) H))(hb:VE γ F j b)(hel:xs[j]? =some l){G:Fz}(le0:F0<=G){es:Array MapEntry}{clock:Nat}{l1:List (K×V)}(hp:l1.Perm l')(hn:(l'.map Prod.fst).Nodup)(h1:UB ck rv G es.toList l1)(h2:J3 es.toList clock):SH (Dec.put w b (.map es clock)) F (star (Qw γ (QU ck rv) G (xs.set j l')) H):=by
 obtain⟨_,_,_,_,_,_,_,h3,_⟩:=Ui (h.xe hb hel);have h4:=h3.put (o' :=.map es clock);exact SH.gQ (F0:=F0) (b:=b) XV le0 (h4.mono λm hm=>QX (λm hm=>⟨l1,hp,hn,es,clock,hm,h1,h2⟩) hm) (List.getElem?_eq_some_iff.1 hel).1
theorem SH.fA{w:World}{H:HP}(h:SH w F (star (QU ck rv F0 b l) H)){G:Fz}{es:Array MapEntry}{clock:Nat}{l1:List (K×V)}(hp:l1.Perm l')(hn:(l'.map Prod.fst).Nodup)(h1:UB ck rv G es.toList l1)(h2:J3 es.toList clock):SH (Dec.put w b (.map es clock)) F (star (QU ck rv G b l') H):=by
 obtain⟨_,_,_,_,_,_,_,h3,_⟩:=Ui h;exact(h3.put (o' :=.map es clock)).mono λm hm=>QX (λm hm=>⟨l1,hp,hn,es,clock,hm,h1,h2⟩) hm
theorem GL.wS(ck:K->Value)(rv:Fz->V->Value->Prop)(hd:Nat.blt d n=true)(k:∀b,GL O P ops rest ks Q (Hd n D ((d,.map (some b))::S) F (QU ck rv F b []::hs)) m r):
  GL O P ops (⟨some d,.makeMap t none,ty,pos,after,none⟩::rest) ks Q (Hd n D S F hs) m r:=
 GL.makeMap ck rv hd λb=>λhm a w ha=>k b hm a w ⟨ha.1,ha.2.mono λ_m hm=>QX (λ_m hm=>⟨[],.refl _,List.nodup_nil,hm⟩) hm⟩
theorem GL.dE{T:Array TypeId}{p:Option Nat}(i:Nat)(hi:hs[i]? =some (Qw γ (QU ck rv) F0 xs))(hb:VE γ F j b)(hp:p=some b)(hel:xs[j]? =some l)(hd:Nat.blt d n=true)(hT:T[0]? =some t)(ht:P.underlying t=some (.map kt vt))(hx:QK S ox=some (.map p))
  (k:GL O P ops rest ks Q (Hd n D ((d,.int .i64 l.length)::S) F hs) m r):GL O P ops (⟨some d,.call ⟨.builtin .len,#[ox],T⟩,ty,pos,after,none⟩::rest) ks Q (Hd n D S F hs) m r:=by
 subst hp
 exact GL.val hd (λa w ha=>by
  obtain⟨es,c,l',hpm,_,hb,hr,_⟩:=(ha.2.pull hi).xa hb hel;have:es.size=l.length:=by rw[<-hpm.length_eq,<-hr.len];simp
  simp[execOp,resolve,invoke,builtin,Builtin.len_,ha.1.eval hx,hT,Je ht,goInt,J4 hb,this]) k
variable[BEq K][LawfulBEq K]
omit [LawfulBEq K] in
theorem Xn{w:World}{es:Array MapEntry}{c b:Nat}{l' :List (K×V)}{zv:Value}(hb:w.heap[b]? =some (.map es c))(hr:UB ck rv F0 es.toList l')(le0:F0<=F)(ht:P.underlying t=some (.map kt vt))(ok:Wm P kt ck)(hzv:∀w,(zeroValue vt).run P w= .ok zv w)(hz:rv F z zv)(c2:Bool):
  ∃v,rv F ((Qc l' key).getD z) v/\(Instr.lookup t (.map (some b)) (ck key) c2).run P w= .ok (if c2 then .tuple #[v,.bool (Qc l' key).isSome] else v) w:=by
 obtain⟨kd,hu,hsame⟩:=ok.und;rcases hr.find (k:=key) hsame ok.eq 0 with⟨g1,g2,_⟩ | ⟨j,e1,x1,g1,g2,g3,g4,g5,_⟩
 ·have hf:=run_findKey (w:=w) hu g2;refine⟨zv,by rw[g1];exact hz,?_⟩;cases c2<;>simp[Instr.lookup,Je ht,J4 hb,ok.check,hf,hzv,g1]
 ·have hf:=run_findKey (w:=w) hu g4;refine⟨e1.val,by rw[g3];exact g5 F le0,?_⟩;cases c2<;>simp[Instr.lookup,Je ht,J4 hb,ok.check,hf,g3]
theorem GL.wk{p:Option Nat}{zv:Value}(i:Nat)(hi:hs[i]? =some (Qw γ (QU ck rv) F0 xs))(le0:F0<=F)(hb:VE γ F j b)(hp:p=some b)(hel:xs[j]? =some l)(hd:Nat.blt d n=true)(ht:P.underlying t=some (.map kt vt))(ok:Wm P kt ck)(hzv:∀w,(zeroValue vt).run P w= .ok zv w)(hz:rv F z zv)(hx:QK S ox=some (.map p))(hy:QK S oy=some (ck key))
  (k:∀v,rv F ((Qc l key).getD z) v->GL O P ops rest ks Q (Hd n D ((d,v)::S) F hs) m r):GL O P ops (⟨some d,.lookup t ox oy false,ty,pos,after,none⟩::rest) ks Q (Hd n D S F hs) m r:=by
 subst hp;refine GL.step rfl (.inr rfl) λhm a w ha=> ?_;obtain⟨es,c,l',hpm,hn,hb',hr,_⟩:=(ha.2.pull hi).xa hb hel;obtain⟨v,hv,hrun⟩:=Xn (key:=key) hb' hr le0 ht ok hzv hz false;rw[Vn hpm hn] at hv
 refine⟨v,w,?_,k v hv hm _ _ ⟨ha.1.put hd _,ha.2⟩⟩;simp[execOp,ha.1.eval hx,ha.1.eval hy,hrun]
theorem GL.fg{p:Option Nat}{zv:Value}(i:Nat)(hi:hs[i]? =some (Qw γ (QU ck rv) F0 xs))(le0:F0<=F)(hb:VE γ F j b)(hp:p=some b)(hel:xs[j]? =some l)(hd:Nat.blt d n=true)(ht:P.underlying t=some (.map kt vt))(ok:Wm P kt ck)(hzv:∀w,(zeroValue vt).run P w= .ok zv w)(hz:rv F z zv)(hx:QK S ox=some (.map p))(hy:QK S oy=some (ck key))
  (k:∀v,rv F ((Qc l key).getD z) v->GL O P ops rest ks Q (Hd n D ((d,.tuple #[v,.bool (Qc l key).isSome])::S) F hs) m r):GL O P ops (⟨some d,.lookup t ox oy true,ty,pos,after,none⟩::rest) ks Q (Hd n D S F hs) m r:=by
 subst hp;refine GL.step rfl (.inr rfl) λhm a w ha=> ?_;obtain⟨es,c,l',hpm,hn,hb',hr,_⟩:=(ha.2.pull hi).xa hb hel;obtain⟨v,hv,hrun⟩:=Xn (key:=key) hb' hr le0 ht ok hzv hz true;rw[Vn hpm hn] at hv hrun
 refine⟨_,w,?_,k v hv hm _ _ ⟨ha.1.put hd _,ha.2⟩⟩;simp[execOp,ha.1.eval hx,ha.1.eval hy,hrun]
omit [LawfulBEq K] in
theorem Xz{w:World}{es:Array MapEntry}{c b:Nat}{l1:List (K×V)}{vv:Value}(hb:w.heap[b]? =some (.map es c))(hr:UB ck rv F es.toList l1)(hbi:J3 es.toList c)(ht:P.underlying t=some (.map kt vt))(ok:Wm P kt ck)(hv:∀F',F<=F'->rv F' val vv):
  ∃es' c',(Instr.mapUpdate t (.map (some b)) (ck key) vv).run P w= .ok () (Dec.put w b (.map es' c'))/\UB ck rv F es'.toList (Qv l1 key val)/\J3 es'.toList c' :=by
 obtain⟨kd,hu,hsame⟩:=ok.und;rcases hr.find (k:=key) hsame ok.eq 0 with⟨g1,g2,g3⟩ | ⟨j',e1,x1,g1,g2,g3,g4,g5,g6⟩
 ·refine⟨es.push {key:=ck key,val:=vv,born:=c},c+1,?_,by simpa using g3 val {key:=ck key,val:=vv,born:=c} rfl hv,by simpa using hbi.push⟩;have hf:=run_findKey (w:=w) hu g2;simp[Instr.mapUpdate,Je ht,J4 hb,ok.check,hf,H6 hb]
 ·refine⟨es.modify j' λe=>{e with key:=ck key,val:=vv},c,?_,by rw[Array.toList_modify];exact g6 val (λe=>{e with key:=ck key,val:=vv}) rfl hv,by rw[Array.toList_modify];exact hbi.modify (j:=j') (f:=λe=>{e with key:=ck key,val:=vv}) λ_=>rfl⟩;have hf:=run_findKey (w:=w) hu g4;rw[Nat.zero_add] at hf
  have hel' :es[j']? =some e1:=by simpa using g1
  have hsb:=ok.same key;simp[Instr.mapUpdate,Je ht,J4 hb,ok.check,hf,H6 hb,hel',g2,Instr.keyThatStays,hsb]
theorem GL.wx{p:Option Nat}{xs' :List (List (K×V))}{vv:Value}(i:Nat)(hi:hs[i]? =some (Qw γ (QU ck rv) F0 xs))(le0:F0<=F)(hb:VE γ F j b)(hp:p=some b)(hel:xs[j]? =some l)(ht:P.underlying t=some (.map kt vt))(ok:Wm P kt ck)(hx:QK S ox=some (.map p))(hy:QK S oy=some (ck key))(hz:QK S oz=some vv)(hv:∀F',F<=F'->rv F' val vv)(he:xs' =xs.set j (Qv l key val))
  (k:GL O P ops rest ks Q (Hd n D S F (hs.set i (Qw γ (QU ck rv) F xs'))) m r):GL O P ops (⟨none,.mapUpdate t ox oy oz,ty,pos,after,none⟩::rest) ks Q (Hd n D S F hs) m r:=by
 subst hp;subst he;refine GL.xf rfl (.inr rfl) λhm a w ha=> ?_;obtain⟨es,c,l1,hpm,hn,hb',hr,hbi⟩:=(ha.2.pull hi).xa hb hel;obtain⟨es',c',hrun,h1,h2⟩:=Xz (key:=key) (val:=val) hb' (hr.up le0) hbi ht ok hv;refine⟨_,?_,k hm _ _ ⟨ha.1.wK _,SH.push hi ((ha.2.pull hi).ff hb hel le0 (X7 hpm hn) (JE hn) h1 h2)⟩⟩;simp[execOp,ha.1.eval hx,ha.1.eval hy,ha.1.eval hz,hrun]
theorem GL.wg{l' :List (K×V)}{vv:Value}(i:Nat)(hi:hs[i]? =some (QU ck rv F0 b l))(le0:F0<=F)(ht:P.underlying t=some (.map kt vt))(ok:Wm P kt ck)(hx:QK S ox=some (.map (some b)))(hy:QK S oy=some (ck key))(hz:QK S oz=some vv)(hv:∀F',F<=F'->rv F' val vv)(he:l' =Qv l key val)
  (k:GL O P ops rest ks Q (Hd n D S F (hs.set i (QU ck rv F b l'))) m r):GL O P ops (⟨none,.mapUpdate t ox oy oz,ty,pos,after,none⟩::rest) ks Q (Hd n D S F hs) m r:=by
 subst he;refine GL.xf rfl (.inr rfl) λhm a w ha=> ?_;obtain⟨es,c,l1,hpm,hn,hb',hr,_,hbi⟩:=Ui (ha.2.pull hi);obtain⟨es',c',hrun,h1,h2⟩:=Xz (key:=key) (val:=val) hb' (hr.up le0) hbi ht ok hv;refine⟨_,?_,k hm _ _ ⟨ha.1.wK _,SH.push hi ((ha.2.pull hi).fA (X7 hpm hn) (JE hn) h1 h2)⟩⟩;simp[execOp,ha.1.eval hx,ha.1.eval hy,ha.1.eval hz,hrun]
theorem GL.u5{l' :List (K×V)}{vv:Value}(i:Nat)(hi:hs[i]? =some (QU ck rv F0 b l))(le0:F0<=F)(ht:P.underlying t=some (.map kt vt))(ok:Wm P kt ck)(hx:QK S ox=some (.map (some b)))(hy:QK S oy=some (ck key))(hz:QK S oz=some vv)(hv:∀F',F<=F'->rv F' val vv)(he:l' =Qv l key val)
  (k:GL O P ops rest ks Q (Hd n D S F (hs.set i (QU ck rv F b l'))) m r):GL O P ops (⟨none,.insert t ox oy oz,ty,pos,after,none⟩::rest) ks Q (Hd n D S F hs) m r:=by
 subst he;refine GL.xf rfl (.inr rfl) λhm a w ha=> ?_;obtain⟨es,c,l1,hpm,hn,hb',hr,_,hbi⟩:=Ui (ha.2.pull hi);obtain⟨es',c',hrun,h1,h2⟩:=Xz (key:=key) (val:=val) hb' (hr.up le0) hbi ht ok hv;refine⟨_,?_,k hm _ _ ⟨ha.1.wK _,SH.push hi ((ha.2.pull hi).fA (X7 hpm hn) (JE hn) h1 h2)⟩⟩;simp[execOp,ha.1.eval hx,ha.1.eval hy,ha.1.eval hz,hrun]
omit [LawfulBEq K] in
theorem UB.del{kd:TypeDesc}{k:K}(hk:∀a b,Instr.sameNow kd (ck a) (ck b)=some (a==b)):
  ∀{es:List MapEntry} {l:List (K×V)} (i0:Nat),UB ck rv F es l->
   (Instr.findNow kd (ck k) es i0=some none/\Jj l k=l)∨
   (∃j e,Instr.findNow kd (ck k) es i0=some (some (i0+j,e))/\j < es.length/\UB ck rv F (es.eraseIdx j) (Jj l k))
 | [],[],_,_=>.inl ⟨rfl,rfl⟩
 | e::es,x::l,i0,⟨h1,h2,h3⟩=>by
  by_cases hb:(k==x.1)=true
  ·right;refine⟨0,e.val,by simp[Instr.findNow,h1,hk,hb],by simp,?_⟩;simp only[Jj,hb,if_true,List.eraseIdx_cons_zero];exact h3
  ·have hb' :(k==x.1)=false:=by simpa using hb
   rcases UB.del (k:=k) hk (i0+1) h3 with⟨g1,g2⟩ | ⟨j,e1,g1,g2,g3⟩
   ·left;exact⟨by simp[Instr.findNow,h1,hk,hb',g1],by simp[Jj,hb',g2]⟩
   ·right;refine⟨j+1,e1,by simp[Instr.findNow,h1,hk,hb',g1];omega,by simpa using g2,?_⟩;simp only[Jj,hb',Bool.false_eq_true,if_false,List.eraseIdx_cons_succ];exact⟨h1,h2,g3⟩
omit [LawfulBEq K] in
theorem EV{w:World}{es:Array MapEntry}{c b:Nat}{l1:List (K×V)}{T:Array TypeId}(hb:w.heap[b]? =some (.map es c))(hr:UB ck rv F es.toList l1)(hbi:J3 es.toList c)(hT:T[0]? =some t)(ht:P.underlying t=some (.map kt vt))(ok:Wm P kt ck):
  ∃es' :Array MapEntry,(Builtin.delete_ T ty #[.map (some b),ck key]).run P w= .ok (.tuple #[]) (Dec.put w b (.map es' c))/\UB ck rv F es'.toList (Jj l1 key)/\J3 es'.toList c:=by
 obtain⟨kd,hu,hsame⟩:=ok.und;rcases hr.del (k:=key) hsame 0 with⟨g1,g2⟩ | ⟨j',e1,g1,g2,g3⟩
 ·have hf:=run_findKey (w:=w) hu g1;refine⟨es,?_,by rw[g2];exact hr,hbi⟩;simp[Builtin.delete_,hT,Je ht,J4 hb,ok.check,hf,H6 hb]
 ·have hj:j' < es.size:=by simpa using g2
  have hf:=run_findKey (w:=w) hu g1;rw[Nat.zero_add] at hf
  refine⟨es.eraseIdxIfInBounds j',?_,by simpa[Array.eraseIdxIfInBounds,hj] using g3,by simpa[Array.eraseIdxIfInBounds,hj] using hbi.erase (j:=j')⟩;simp[Builtin.delete_,hT,Je ht,J4 hb,ok.check,hf,H6 hb]
theorem GL.dN{p:Option Nat}{xs' :List (List (K×V))}{T:Array TypeId}(i:Nat)(hi:hs[i]? =some (Qw γ (QU ck rv) F0 xs))(hb:VE γ F j b)(hp:p=some b)(hel:xs[j]? =some l)(hd:∀e,d' =some e->Nat.blt e n=true)(hT:T[0]? =some t)(ht:P.underlying t=some (.map kt vt))(ok:Wm P kt ck)(hx:QK S ox=some (.map p))(hy:QK S oy=some (ck key))(he:xs' =xs.set j (Jj l key))
  (k:GL O P ops rest ks Q (Hd n D (match d' with | some e=>(e,.tuple #[])::S | none=>S) F (hs.set i (Qw γ (QU ck rv) F0 xs'))) m r):GL O P ops (⟨d',.call ⟨.builtin .delete,#[ox,oy],T⟩,ty,pos,after,none⟩::rest) ks Q (Hd n D S F hs) m r:=by
 subst hp;subst he;refine GL.step rfl (.inr rfl) λhm a w ha=> ?_;obtain⟨es,c,l1,hpm,hn,hb',hr,hbi⟩:=(ha.2.pull hi).xa hb hel;obtain⟨es',hrun,h1,h2⟩:=EV (key:=key) (ty:=ty) hb' hr hbi hT ht ok;refine⟨.tuple #[],_,?_,k hm _ _ ⟨?_,SH.push hi ((ha.2.pull hi).ff hb hel (Fz.le_refl _) (BG hpm hn) (Fv hn) h1 h2)⟩⟩
 ·simp[execOp,resolve,invoke,builtin,ha.1.eval hx,ha.1.eval hy,hrun]
 ·cases d' with
  | none=>exact ha.1.wK _
  | some e=>exact ha.1.put (hd e rfl) _
end
end
section
variable{β:Type}{X:Act->World->Prop}{m:Option β}{r:β}{n:Nat}{D:List Deferred}{S:List (Nat×Value)}{F F0:Fz}{hs:List HP}
variable{α:Type}{γ:Nat}{C:Fz->Nat->α->HP}{xs xs' :List α}{b:Nat}{x:α}
theorem GG.wh{p:HP}(k i:Nat)(hk:hs[k]? =some p)(hi:(hs.eraseIdx k)[i]? =some (Qw γ C F0 xs))(hC:Wl C)(le:F0<=F)(hp:∀F' m,F<=F'->p m->C F' b x m)(he:xs' =xs++[x])
  (K:∀F',F<=F'->VE γ F' xs.length b->GG X (Hd n D S F' ((hs.eraseIdx k).set i (Qw γ C F' xs'))) m r):GG X (Hd n D S F hs) m r:=λhm a w ha=>by
 subst he;have h1:SH w F (star p (star (Qw γ C F0 xs) (Qj ((hs.eraseIdx k).eraseIdx i)))):=(ha.2.pull hk).mono λm hm=>QR (λ_=>Y1 hi) hm;obtain⟨F',l,g1,g2⟩:=SH.df hC le h1 hp;exact K F' l g1 hm a w ⟨ha.1,SH.push hi g2⟩
theorem GG.xk(C:Fz->Nat->α->HP)(i:Nat)(hi:hs[i]? =some (Oj γ []))(K:GG X (Hd n D S F (hs.set i (Qw γ C F []))) m r):GG X (Hd n D S F hs) m r:=λhm a w ha=>
 K hm a w ⟨ha.1,SH.push hi ((ha.2.pull hi).mono λm hm=>QX (λm hm=>⟨[],rfl,m,λ_=>none,λ_=>.inr rfl,Mem.sub.refl _,λ_ _ e=>by simp at e,hm,trivial⟩) hm)⟩
theorem GG.wv(K:∀γ F',F<=F'->GG X (Hd n D S F' (Oj γ []::hs)) m r):GG X (Hd n D S F hs) m r:=λhm a w ha=>by
 obtain⟨le,h⟩:=ha.2.wv;exact K _ _ le hm a w ⟨ha.1,h⟩
theorem GG.norm{S' :List (Nat×Value)}{hs' :List HP}(hS:Sub S' S)(hh:hs=hs')(k:GG X (Hd n D S' F hs') m r):GG X (Hd n D S F hs) m r:=
 λhm a w ha=>k hm a w ⟨ha.1.sub hS,hh▸ha.2⟩
end
section
variable{β σ γ:Type}{A:Act->World->Prop}
theorem Q9.xL{I:σ->Act->World->Prop}{Dn:γ->Exit->Act->World->Prop}{b:γ}{ctl:Vb σ γ}{c:List PanicEntry}(h:∀a w,A a w->Dn b (.panic c) a w):some (Vb.done b)=some ctl->∀a w,A a w->Q9 I Dn ctl (.panic c) a w:=λe a w ha=>by
 simp only[Option.some.injEq] at e;subst e;exact⟨by simp,h a w ha⟩
end
end
section
variable{O:Option Nat}
def Qy{ε α β:Type}(e:Option (Out ε α))(gp:ε->Option β)(g:α->Option β):Option β:=match e with
 | none=>none
 | some (.ok x)=>g x
 | some (.pan q)=>gp q
def SC{ι ε β:Type}(P:Program)(penc:ε->Value)(F:Fz)(f:FuncId)(k:List Value×List Value)(arg:ι->Fz->List Value->Prop)(Hin:Fz->ι->List HP)(ρ:β->Fz->Value->Prop)(Hout:Fz->ι->β->List HP)(m:ι->Option (Out ε β)):Prop:=
 (∀args w,(callFunc f args).run P w= .ok (.enter f args) w)/\∀F',F<=F'->∀x vs,arg x F' vs->VJ P penc f (k.1++vs++k.2).toArray F' (Hin F' x) (m x) ρ (λr F'' _=>Hout F'' x r)
theorem SC.mono{ι ε β:Type}{P:Program}{penc:ε->Value}{F F' :Fz}{f:FuncId}{k:List Value×List Value}{arg:ι->Fz->List Value->Prop}{Hin:Fz->ι->List HP}{ρ:β->Fz->Value->Prop}{Hout:Fz->ι->β->List HP}{m:ι->Option (Out ε β)}(h:SC P penc F f k arg Hin ρ Hout m)(le:F<=F'):SC P penc F' f k arg Hin ρ Hout m:=
 ⟨h.1,λG le' =>h.2 G (Fz.le_trans le le')⟩
section
variable{ε β:Type}{P:Program}{penc:ε->Value}{ops:Array Oper}{rest:List Oper}{ks:List Kt}{Q:Exit->Act->World->Prop}{m:Option β}{r:β}
variable{n:Nat}{D:List Deferred}{S:List (Nat×Value)}{F F0:Fz}{hs:List HP}
variable{d:Nat}{ty t:TypeId}{pos:String}{after:Array Edge}{ox oy:Operand}{T:Array TypeId}
theorem GL.dm{A:Act->World->Prop}{α:Type}{f:FuncId}{args:Array Value}{o:Oper}{e:Option (Out ε α)}{ρ:α->Fz->Value->Prop}{Hs:List HP}{Hs' :α->Fz->Value->List HP}{g:α->Option β}{gp:ε->Option β}(is:List Nat)(hd:Nat.blt d n=true)(hg:o.guard=none)(hdst:o.dst=some d)(hnd:X0 o.op=true)
  (hA:∀a w,A a w->Hd n D S F hs a w/\(execOp a.eval o).run P w= .ok (.enter f args) w) (hi:K9 is hs=Hs)
  (hc:VJ P penc f args F Hs e ρ Hs') (k:∀x F' v,e=some (.ok x)->F<=F'->ρ x F' v->GL O P ops rest ks Q (Hd n D ((d,v)::S) F' (Hs' x F' v++JN is hs)) (g x) r)
  (hp:∀q F',e=some (.pan q)->F<=F'->gp q=some r->∀a w,Hd n D S F' (JN is hs) a w->Q (.panic [{v:=penc q,recovered:=false}]) a w):
  GL O P ops (o::rest) ks Q A (Qy e gp g) r:=by
 intro hm a w ha0;obtain⟨ha,hrun⟩:=hA a w ha0;cases he:e with
 | none=>rw[he] at hm;cases hm
 | some y=>
  rw[he] at hm
  have hsh:SH w F (star (Qj Hs) (Qj (JN is hs))):=ha.2.mono λm hm=>by
   have:=VZ (ks:=is) hm;rw[hi] at this;exact this
  unfold Xd;rw[if_pos (by simp[Region.wanted,hg])];refine⟨.inr hnd,?_⟩;rw[hrun];refine⟨λe=>(by rw[CD] at e;cases e),Ns.2 ((hc y he w _ hsh).mono ?_)⟩;rintro e' w' ⟨F',le,h⟩;cases y with
  | ok x=>
   obtain⟨v,rfl,hρ,hw⟩:=h;have h1:=k x F' v he le hρ hm _ _ ⟨ha.1.put hd v,hw.mono λ_=>K4⟩;simp only[hdst];exact h1
  | pan q=>
   obtain⟨rfl,hw⟩:=h;exact Jc (hp q F' he le hm _ _ ⟨ha.1,hw⟩)
theorem GL.ur{α:Type}{f:FuncId}{caps as vs:List Value}{of:Operand}{os:List Operand}{e:Option (Out ε α)}{ρ:α->Fz->Value->Prop}{Hs:List HP}{Hs' :α->Fz->Value->List HP}{g:α->Option β}{gp:ε->Option β}(is:List Nat)
  (hd:Nat.blt d n=true) (hcall:∀args w,(callFunc f args).run P w= .ok (.enter f args) w) (hf:QK S of=some (.func (.func f) #[] caps.toArray)) (ha:UC S os=some vs) (has:vs++caps=as) (hi:K9 is hs=Hs)
  (hc:VJ P penc f as.toArray F Hs e ρ Hs') (k:∀x F' v,e=some (.ok x)->F<=F'->ρ x F' v->GL O P ops rest ks Q (Hd n D ((d,v)::S) F' (Hs' x F' v++JN is hs)) (g x) r)
  (hp:∀q F',e=some (.pan q)->F<=F'->gp q=some r->∀a w,Hd n D S F' (JN is hs) a w->Q (.panic [{v:=penc q,recovered:=false}]) a w):
  GL O P ops (⟨some d,.call ⟨.value of,os.toArray,T⟩,ty,pos,after,none⟩::rest) ks Q (Hd n D S F hs) (Qy e gp g) r:=by
 subst has;exact GL.dm is hd rfl rfl rfl (λa w hA=>⟨hA,U2 hA.1 hcall hf ha⟩) hi hc k hp
theorem IT{a:Act}{f:FuncId}{first caps:List Value}{of:Operand}{os:List Operand}{vs:List Value}{w:World}(hs:Sl n D S a)(hcall:∀args w,(callFunc f args).run P w= .ok (.enter f args) w)
  (hf:QK S of=some (.func (.func f) first.toArray caps.toArray)) (ha:UC S os=some vs) {dst:Option Tmp}:
  (execOp a.eval ⟨dst,.call ⟨.value of,os.toArray,T⟩,ty,pos,after,none⟩).run P w= .ok (.enter f (first++vs++caps).toArray) w:=by
 have e:=Xu hs ha;simp[execOp,resolve,Deferred.ofValue,hs.eval hf,e,invoke,hcall]
theorem GL.fw{ι α:Type}{f:FuncId}{kk:List Value×List Value}{vs:List Value}{of:Operand}{os:List Operand}{arg:ι->Fz->List Value->Prop}{Hin:Fz->ι->List HP}{ρ:α->Fz->Value->Prop}{Hout:Fz->ι->α->List HP}{fm:ι->Option (Out ε α)}{x:ι}{Hs:List HP}{g:α->Option β}{gp:ε->Option β}(is:List Nat)
  (hd:Nat.blt d n=true) (hr:SC P penc F f kk arg Hin ρ Hout fm) (hf:QK S of=some (.func (.func f) kk.1.toArray kk.2.toArray)) (ha:UC S os=some vs) (hx:arg x F vs) (hi:K9 is hs=Hs) (hin:Hin F x=Hs)
  (k:∀y F' v,fm x=some (.ok y)->F<=F'->ρ y F' v->GL O P ops rest ks Q (Hd n D ((d,v)::S) F' (Hout F' x y++JN is hs)) (g y) r)
  (hp:∀q F',fm x=some (.pan q)->F<=F'->gp q=some r->∀a w,Hd n D S F' (JN is hs) a w->Q (.panic [{v:=penc q,recovered:=false}]) a w):
  GL O P ops (⟨some d,.call ⟨.value of,os.toArray,T⟩,ty,pos,after,none⟩::rest) ks Q (Hd n D S F hs) (Qy (fm x) gp g) r:=by
 subst hin;exact GL.dm is hd rfl rfl rfl (λa w hA=>⟨hA,IT hA.1 hr.1 hf ha⟩) hi (hr.2 F (Fz.le_refl F) x vs hx) k hp
theorem GL.gx{α:Type}{f:FuncId}{caps as vs:List Value}{of:Operand}{os:List Operand}{e:Option (Out ε α)}{ρ:α->Fz->Value->Prop}{Hs:List HP}{Hs' :α->Fz->Value->List HP}{x:α}(he:e=some (.ok x))(is:List Nat)
  (hd:Nat.blt d n=true) (hcall:∀args w,(callFunc f args).run P w= .ok (.enter f args) w) (hf:QK S of=some (.func (.func f) #[] caps.toArray)) (ha:UC S os=some vs) (has:vs++caps=as) (hi:K9 is hs=Hs)
  (hc:VJ P penc f as.toArray F Hs e ρ Hs') (k:∀F' v,F<=F'->ρ x F' v->GL O P ops rest ks Q (Hd n D ((d,v)::S) F' (Hs' x F' v++JN is hs)) m r):
  GL O P ops (⟨some d,.call ⟨.value of,os.toArray,T⟩,ty,pos,after,none⟩::rest) ks Q (Hd n D S F hs) m r:=by
 have h:=GL.ur (O:=O) (P:=P) (penc:=penc) (ops:=ops) (rest:=rest) (ks:=ks) (Q:=Q) (r:=r) (n:=n) (D:=D) (S:=S) (F:=F) (hs:=hs) (d:=d) (ty:=ty) (pos:=pos) (after:=after) (T:=T) (g:=λ_=>m) (gp:=λ_=>(none:Option β)) is hd hcall hf ha has hi hc
  (λx' F' v he' le hρ=>by rw[he] at he';cases he';exact k F' v le hρ) (λq F' he' _ hn=>by cases hn)
 rw[he] at h
 exact h
theorem GL.gC{α:Type}{f:FuncId}{caps as vs:List Value}{of:Operand}{os:List Operand}{e:Option (Out ε α)}{ρ:α->Fz->Value->Prop}{Hs:List HP}{Hs' :α->Fz->Value->List HP}{q:ε}(he:e=some (.pan q))(is:List Nat)
  (hd:Nat.blt d n=true) (hcall:∀args w,(callFunc f args).run P w= .ok (.enter f args) w) (hf:QK S of=some (.func (.func f) #[] caps.toArray)) (ha:UC S os=some vs) (has:vs++caps=as) (hi:K9 is hs=Hs)
  (hc:VJ P penc f as.toArray F Hs e ρ Hs') (hp:∀F',F<=F'->m=some r->∀a w,Hd n D S F' (JN is hs) a w->Q (.panic [{v:=penc q,recovered:=false}]) a w):
  GL O P ops (⟨some d,.call ⟨.value of,os.toArray,T⟩,ty,pos,after,none⟩::rest) ks Q (Hd n D S F hs) m r:=by
 have h:=GL.ur (O:=O) (P:=P) (penc:=penc) (ops:=ops) (rest:=rest) (ks:=ks) (Q:=Q) (r:=r) (n:=n) (D:=D) (S:=S) (F:=F) (hs:=hs) (d:=d) (ty:=ty) (pos:=pos) (after:=after) (T:=T) (g:=λ_=>(none:Option β)) (gp:=λ_=>m) is hd hcall hf ha has hi hc
  (λx' F' v he' _ _=>by rw[he] at he';cases he') (λq' F' he' le hn=>by rw[he] at he';cases he';exact hp F' le hn)
 rw[he] at h
 exact h
theorem GC.fa{α:Type}{A:Act->World->Prop}{c:Code}{e:Option (Out ε α)}{g:α->Option β}{gp:ε->Option β}(h1:∀x,e=some (.ok x)->GC O P c ks Q A (g x) r)(h2:∀q,e=some (.pan q)->GC O P c ks Q A (gp q) r):
  GC O P c ks Q A (Qy e gp g) r:=by
 intro hm;cases he:e with
 | none=>rw[he] at hm;cases hm
 | some o=>
  rw[he] at hm
  cases o with
  | ok x=>exact h1 x he hm
  | pan q=>exact h2 q he hm
theorem FU{e:TypeId}{p:Option Addr}{w:World}(ht:P.underlying t=some (.pointer e))(n:Nat):(Op.equalIn (n+1) t (.pointer p) (.pointer none)).run P w= .ok p.isNone w:=by
 cases p<;>simp[Op.equalIn,Je ht]
theorem ZL.isNone{γ:Nat}{F:Fz}{p:Option Addr}{x:Option Nat}(h:ZL γ F p x):p.isNone=x.isNone:=by
 cases x with
 | none=>simp[show p=none from h]
 | some i=>obtain⟨b,_,rfl⟩:=h;rfl
theorem GL.xH{γ:Nat}{e t' :TypeId}{p:Option Addr}{x:Option Nat}(h:ZL γ F p x)(hd:Nat.blt d n=true)(ht:P.underlying t=some (.pointer e))(hx:QK S ox=some (.pointer p))(hy:QK S oy=some (.pointer none))(k:GL O P ops rest ks Q (Hd n D ((d,.bool x.isNone)::S) F hs) m r):
  GL O P ops (⟨some d,.binOp .eql t ox oy t',ty,pos,after,none⟩::rest) ks Q (Hd n D S F hs) m r:=
 GL.val hd (λa w ha=>by
  have hq:(Op.equal t (.pointer p) (.pointer none)).run P w= .ok p.isNone w:=FU ht 9999;have hg:P.eqGuardType P.depth t=false∨P.eqGuardType P.depth t=true:=by cases P.eqGuardType P.depth t<;>simp
  simp[execOp,ha.1.eval hx,ha.1.eval hy,eqGuard,binOp,hq,h.isNone]) k
theorem GL.fQ{γ:Nat}{e t' :TypeId}{p:Option Addr}{x:Option Nat}(h:ZL γ F p x)(hd:Nat.blt d n=true)(ht:P.underlying t=some (.pointer e))(hx:QK S ox=some (.pointer p))(hy:QK S oy=some (.pointer none))(k:GL O P ops rest ks Q (Hd n D ((d,.bool (!x.isNone))::S) F hs) m r):
  GL O P ops (⟨some d,.binOp .neq t ox oy t',ty,pos,after,none⟩::rest) ks Q (Hd n D S F hs) m r:=
 GL.val hd (λa w ha=>by
  have hq:(Op.equal t (.pointer p) (.pointer none)).run P w= .ok p.isNone w:=FU ht 9999;have hg:P.eqGuardType P.depth t=false∨P.eqGuardType P.depth t=true:=by cases P.eqGuardType P.depth t<;>simp
  simp[execOp,ha.1.eval hx,ha.1.eval hy,eqGuard,binOp,hq,h.isNone]) k
theorem SH.dU{α:Type}{w:World}{γ T i j b b' :Nat}{c:Kb α}{xs:List α}{x y:α}{H:HP}(h:SH w F (star (Qw γ (Ud T c) F0 xs) H))(hb:VE γ F i b)(hb' :VE γ F j b')(hx:xs[i]? =some x)(hy:xs[j]? =some y)(hij:i≠j):b≠b' :=by
 intro e;subst e;obtain⟨m,⟨m1,m2,d,s1,s2,⟨bs,hl,m3,m4,d',t1,t2,hg,hz⟩,hq⟩,k⟩:=h;obtain⟨_,e⟩:=k.gst γ _ (s1 _ _ (t1 _ _ hg));simp only[Cell.gh.injEq] at e
 have h1:bs[i]? =some b:=by rw[e];exact hb.2
 have h2:bs[j]? =some b:=by rw[e];exact hb'.2
 have g1:=TR (f:=Ud T c F0) h1 hx;have g2:=TR (f:=Ud T c F0) h2 hy;obtain⟨n1,n2,dd,_,_,⟨vs,_,hp⟩,hr⟩:=Y1 g1 hz;have hlt:i < (List.zipWith (Ud T c F0) bs xs).length:=(List.getElem?_eq_some_iff.1 g1).1
 have g3:∃k:Nat,((List.zipWith (Ud T c F0) bs xs).eraseIdx i)[k]? =some (Ud T c F0 b y):=by
  rcases Nat.lt_or_gt_of_ne hij with hlt | hgt
  ·exact⟨j - 1,by rw[List.getElem?_eraseIdx,if_neg (by omega),show j - 1+1=j by omega];exact g2⟩
  ·exact⟨j,by rw[List.getElem?_eraseIdx,if_pos hgt];exact g2⟩
 obtain⟨k',g3⟩:=g3;obtain⟨n3,n4,_,u1,_,⟨vs',_,hp'⟩,_⟩:=Y1 g3 hr;have q1:n1 (.blk b)=some (.obj (.cells vs.toArray T)):=hp;have q2:n2 (.blk b)=some (.obj (.cells vs'.toArray T)):=u1 _ _ hp';have:=dd.wL q1;rw[q2] at this;cases this
theorem y7{α:Type}{a:Act}{w:World}{γ T i j b b' N:Nat}{e:TypeId}{c:Kb α}{xs:List α}{x y:α}{kx:Nat}(ht:P.underlying t=some (.pointer e))(hz:∀w,(sizeOf e).run P w= .ok (N+1) w)(hi:hs[kx]? =some (Qw γ (Ud T c) F0 xs))(hb:VE γ F i b)(hb' :VE γ F j b')(h1:xs[i]? =some x)(h2:xs[j]? =some y)(ha:Hd n D S F hs a w)(k:Nat):
  (Op.equalIn (k+1) t (.pointer (some ⟨b,0,none⟩)) (.pointer (some ⟨b',0,none⟩))).run P w= .ok (i==j) w:=by
 by_cases hij:i=j
 ·subst hij;have:=hb.inj hb';subst this;simp[Op.equalIn,Je ht,hz,run_sameAddr_same]
 ·have hne:=(ha.2.pull hi).dU hb hb' h1 h2 hij;obtain⟨vs,_,g1⟩:=(ha.2.pull hi).xU hb h1;obtain⟨vs',_,g2⟩:=(ha.2.pull hi).xU hb' h2;have hs:=run_sameAddr_other (P:=P) (w:=w) (a:=⟨b,0,none⟩) (b:=⟨b',0,none⟩) (by simp) g1 g2;simp[Op.equalIn,Je ht,hz,hs,hij]
theorem GL.dw{α:Type}{γ Tc i j b b' N:Nat}{e t' :TypeId}{c:Kb α}{xs:List α}{x y:α}{p q:Option Addr}(kx:Nat)(hi:hs[kx]? =some (Qw γ (Ud Tc c) F0 xs))(hb:VE γ F i b)(hp:p=some ⟨b,0,none⟩)(hb' :VE γ F j b')(hq:q=some ⟨b',0,none⟩)(h1:xs[i]? =some x)(h2:xs[j]? =some y)(hd:Nat.blt d n=true)(ht:P.underlying t=some (.pointer e))(hz:∀w,(sizeOf e).run P w= .ok (N+1) w)(hx:QK S ox=some (.pointer p))(hy:QK S oy=some (.pointer q))(k:GL O P ops rest ks Q (Hd n D ((d,.bool (i != j))::S) F hs) m r):
  GL O P ops (⟨some d,.binOp .neq t ox oy t',ty,pos,after,none⟩::rest) ks Q (Hd n D S F hs) m r:=by
 subst hp hq
 exact GL.val hd (λa w ha=>by
  have hq:(Op.equal t (.pointer (some ⟨b,0,none⟩)) (.pointer (some ⟨b',0,none⟩))).run P w= .ok (i==j) w:=y7 ht hz hi hb hb' h1 h2 ha 9999;simp[execOp,ha.1.eval hx,ha.1.eval hy,eqGuard,binOp,hq,bne]) k
section
variable{K V:Type}[BEq K]{ck:K->Value}{rv:Fz->V->Value->Prop}{b:Nat}{l:List (K×V)}{key:K}{kt vt:TypeId}
def Hr(ck:K->Value)(rv:Fz->V->Value->Prop)(F:Fz)(b:Nat)(l:List (K×V)):Prop:=∃(es:Array MapEntry) (clock:Nat) (l' :List (K×V)),l'.Perm l/\(l.map Prod.fst).Nodup/\F.mem b=some (.map es clock)/\UB ck rv F es.toList l'
omit [BEq K] in
theorem Hr.mono{F F' :Fz}(h:Hr ck rv F b l)(le:F<=F'):Hr ck rv F' b l:=
 let⟨es,c,l',h0,h00,h1,h2⟩:=h;⟨es,c,l',h0,h00,le.mem _ _ h1,h2.up le⟩
omit [BEq K] in
theorem GG.xG{X:Act->World->Prop}(i:Nat)(hi:hs[i]? =some (QU ck rv F0 b l))(le:F0<=F)(k:∀F',F<=F'->Hr ck rv F' b l->GG X (Hd n D S F' (hs.eraseIdx i)) m r):GG X (Hd n D S F hs) m r:=λhm a w ha=>by
 obtain⟨es,c,l',h0,h00,_,h2,h3,_⟩:=Ui (ha.2.pull hi);obtain⟨l1,h4⟩:=h3.freeze;exact k _ l1 ⟨es,c,l',h0,h00,Fz.wH F b _,(h2.up le).up l1⟩ hm a w ⟨ha.1,h4⟩
theorem GL.dF[LawfulBEq K]{x:V}(h:Hr ck rv F b l)(hg:Qc l key=some x)(hd:Nat.blt d n=true)(ht:P.underlying t=some (.map kt vt))(ok:Wm P kt ck)(hx:QK S ox=some (.map (some b)))(hy:QK S oy=some (ck key))
  (k:∀v,rv F x v->GL O P ops rest ks Q (Hd n D ((d,v)::S) F hs) m r):GL O P ops (⟨some d,.lookup t ox oy false,ty,pos,after,none⟩::rest) ks Q (Hd n D S F hs) m r:=by
 refine GL.step rfl (.inr rfl) λhm a w ha=> ?_;obtain⟨es,c,l',hpm,hn,hb,hr⟩:=h;rw[<-Vn hpm hn] at hg
 obtain⟨kd,hu,hsame⟩:=ok.und;have hb' :=ha.2.frozen hb;rcases hr.find (k:=key) hsame ok.eq 0 with⟨g1,g2,_⟩ | ⟨j,e1,x1,g1,g2,g3,g4,g5,_⟩
 ·rw[hg] at g1;cases g1
 ·rw[hg] at g3;cases g3
  have hf:=run_findKey (w:=w) hu g4;refine⟨e1.val,w,?_,k _ (g5 F (Fz.le_refl F)) hm _ _ ⟨ha.1.put hd _,ha.2⟩⟩;simp[execOp,Instr.lookup,ha.1.eval hx,ha.1.eval hy,Je ht,J4 hb',ok.check,hf]
end
def yt{G β:Type}(P:Program)(f:FuncId)(args:Array Value)(F:Fz)(m:Option β)(ρ:G->β->Fz->Value->Prop)(Hs' :G->β->Fz->List HP):Prop:=
 ∀r,m=some r->∀w R,SH w F R->Calls P f args w (λe w' =>∃U F' v,F<=F'/\e= .returned v/\ρ U r F' v/\SH w' F' (star (Qj (Hs' U r F')) R))
theorem GL.fH{G α:Type}{f:FuncId}{caps as vs:List Value}{of:Operand}{os:List Operand}{em:Option α}{ρ:G->α->Fz->Value->Prop}{Hs' :G->α->Fz->List HP}{g:α->Option β}
  (hd:Nat.blt d n=true) (hcall:∀args w,(callFunc f args).run P w= .ok (.enter f args) w) (hf:QK S of=some (.func (.func f) #[] caps.toArray)) (ha:UC S os=some vs) (has:vs++caps=as)
  (hc:yt P f as.toArray F em ρ Hs') (k:∀x U F' v,em=some x->F<=F'->ρ U x F' v->GL O P ops rest ks Q (Hd n D ((d,v)::S) F' (Hs' U x F' ++hs)) (g x) r):
  GL O P ops (⟨some d,.call ⟨.value of,os.toArray,T⟩,ty,pos,after,none⟩::rest) ks Q (Hd n D S F hs) (em.bind g) r:=
 GL.xE rfl (.inr rfl) λhm a w hA=>by
  subst has;refine⟨U2 hA.1 hcall hf ha,?_⟩;cases he:em with
  | none=>rw[he] at hm;cases hm
  | some y=>
   rw[he] at hm
   refine(hc y he w _ hA.2).mono ?_;rintro _ w' ⟨U,F',v,le,rfl,hρ,hw⟩;exact⟨v,rfl,k y U F' v he le hρ hm _ _ ⟨hA.1.put hd _,hw.mono λ_=>K4⟩⟩
end
abbrev AQ(f:FuncId)(caps:List Value):Deferred:={target:=.fn (.func f) caps.toArray,args:=#[]}
def CA{G β:Type}(P:Program)(fn:Func)(F:Fz)(R:HP)(ρ:G->β->Fz->Value->Prop)(Hs' :G->β->Fz->List HP)(r:β):Exit->Act->World->Prop:=
 bodyPostDIn Fence.wide 0 P fn (λe w' =>∃U F' v,F<=F'/\e= .returned v/\ρ U r F' v/\SH w' F' (star (Qj (Hs' U r F')) R))
theorem yt.enter{G β:Type}{P:Program}{f:FuncId}{fn:Func}{c:Code}{args:List Value}{F:Fz}{m:Option β}{ρ:G->β->Fz->Value->Prop}{Hs' :G->β->Fz->List HP}{n:Nat}
  (hf:P.funcs[f]? =some fn) (hb:fn.body=some c) (hn:fn.ntmps=n) (ha:Nat.ble args.length n=true)
  (k:∀r R,GC none P c [] (CA P fn F R ρ Hs' r) (Hd n [] (Dc 0 args) F [R]) m r):yt P f args.toArray F m ρ Hs' :=by
 intro r hm w R hw;refine(callsIn_wide (n:=0)).1 (callsIn_of_wp_defers hf hb trivial (k r R hm _ w ⟨?_,hw.one⟩));rw[hn];exact U1 ha
section
variable{β:Type}{P:Program}{ops:Array Oper}{rest:List Oper}{ks:List Kt}{Q:Exit->Act->World->Prop}{m:Option β}{r:β}
variable{n:Nat}{D:List Deferred}{S:List (Nat×Value)}{F F' :Fz}{hs:List HP}
theorem GL.defer{f:FuncId}{caps:List Value}{of:Operand}{ty:TypeId}{pos:String}{after:Array Edge}{T:Array TypeId}(hf:QK S of=some (.func (.func f) #[] caps.toArray))(k:GL none P ops rest ks Q (Hd n (AQ f caps::D) S F hs) m r):
  GL none P ops (⟨none,.defer ⟨.value of,#[],T⟩,ty,pos,after,none⟩::rest) ks Q (Hd n D S F hs) m r:=by
 intro hm a w ha;have h:=k hm {a with defers:=AQ f caps::a.defers} w ⟨⟨ha.1.1,by rw[ha.1.2.1],ha.1.2.2⟩,ha.2⟩;unfold Xd;rw[if_pos (by simp[Region.wanted])];refine⟨.inl rfl,?_⟩
 have hrun:(execOp a.eval ⟨none,.defer ⟨.value of,#[],T⟩,ty,pos,after,none⟩).run P w= .ok (.defer (AQ f caps)) w:=by
  simp[execOp,resolve,Deferred.ofValue,ha.1.eval hf]
 rw[hrun];exact h
variable{G ε:Type}{penc:ε->Value}{fn:Func}{R:HP}{ρ:G->β->Fz->Value->Prop}{Hs' :G->β->Fz->List HP}{x:β}{rs:List ResultVar}{vs:List Value}{U:G}
theorem Xp(is:List Nat)(hr:fn.results=rs.toArray)(h:CG P S F' hs rs vs)(hi:K9 is hs=Hs' U x F' ++[R])(le:F<=F')(hρ:ρ U x F' (CS vs)):
  some x=some r->∀a w,Hd n [] S F' hs a w->CA P fn F R ρ Hs' r .ret a w:=by
 intro e a w ha;simp only[Option.some.injEq] at e
 subst e;show LeavesIn Fence.wide 0 P fn a.tmps _ a.defers .returning w;rw[ha.1.2.1];refine⟨_,Jo hr ha h,U,F',_,le,rfl,hρ,ha.2.mono λm hm=> ?_⟩;have h1:=Y2 (ks:=is) hm;rw[hi] at h1
 exact W0 (Y6 h1)
theorem AD{f:FuncId}{caps:List Value}{w:World}:∀g,(Target.fn (.func f) caps.toArray).leads P w #[]=some g->Fence.wide.fn g:=λ_ _=>trivial
theorem Cs{f:FuncId}{caps:List Value}{w:World}(hcall:∀args w,(callFunc f args).run P w= .ok (.enter f args) w):(invoke (.fn (.func f) caps.toArray) #[]).run P w= .ok (.enter f caps.toArray) w:=by
 simp[invoke,hcall]
end
def Xe{β:Type}(P:Program)(f:FuncId)(args:Array Value)(F:Fz)(Hs:List HP)(m:Option β)(ρ:β->Fz->Value->Prop)(Hs' :β->Fz->List HP):Prop:=
 ∀r,m=some r->∀w R,SH w F (star (Qj Hs) R)->Calls P f args w (λe w' =>∃F' v,F<=F'/\e= .returned v/\ρ r F' v/\SH w' F' (star (Qj (Hs' r F')) R))
def Td{β:Type}(P:Program)(fn:Func)(F:Fz)(R:HP)(ρ:β->Fz->Value->Prop)(Hs' :β->Fz->List HP)(r:β):Exit->Act->World->Prop:=
 bodyPost P fn (λe w' =>∃F' v,F<=F'/\e= .returned v/\ρ r F' v/\SH w' F' (star (Qj (Hs' r F')) R))
theorem Xe.enter{β:Type}{P:Program}{f:FuncId}{fn:Func}{c:Code}{args:List Value}{F:Fz}{Hs:List HP}{m:Option β}{ρ:β->Fz->Value->Prop}{Hs' :β->Fz->List HP}{n:Nat}
  (hf:P.funcs[f]? =some fn) (hb:fn.body=some c) (hn:fn.ntmps=n) (ha:Nat.ble args.length n=true)
  (k:∀r R,GC none P c [] (Td P fn F R ρ Hs' r) (Hd n [] (Dc 0 args) F (Hs++[R])) m r):Xe P f args.toArray F Hs m ρ Hs' :=by
 intro r hm w R hw;refine calls_of_wp hf hb (wpIn_wide.1 (k r R hm _ w ⟨?_,hw.mono λm hm=>K4 (QR (λ_ h=>Y5 h) hm)⟩));rw[hn];exact U1 ha
section
variable{β:Type}{P:Program}{n:Nat}{S:List (Nat×Value)}{F F' :Fz}{hs:List HP}{ks:List Kt}{fn:Func}{R:HP}{ρ:β->Fz->Value->Prop}{Hs' :β->Fz->List HP}{x r:β}{rs:List ResultVar}{vs:List Value}
theorem FH(is:List Nat)(hr:fn.results=rs.toArray)(h:CG P S F' hs rs vs)(hi:K9 is hs=Hs' x F' ++[R])(le:F<=F')(hρ:ρ x F' (CS vs)):
  some x=some r->∀a w,Hd n [] S F' hs a w->Td P fn F R ρ Hs' r .ret a w:=by
 intro e a w ha;simp only[Option.some.injEq] at e
 subst e;refine⟨ha.1.2.1,_,Jo hr ha h,F',_,le,rfl,hρ,ha.2.mono λm hm=> ?_⟩;have h1:=Y2 (ks:=is) hm;rw[hi] at h1
 exact W0 (Y6 h1)
theorem GC.xt(is:List Nat)(hr:fn.results=rs.toArray)(h:CG P S F' hs rs vs)(hi:K9 is hs=Hs' x F' ++[R])(le:F<=F')(hρ:ρ x F' (CS vs)):
 GC O P .ret ks (Td P fn F R ρ Hs' r) (Hd n [] S F' hs) (some x) r:=GC.wN (FH is hr h hi le hρ)
theorem GE.xi(is:List Nat)(hr:fn.results=rs.toArray)(h:CG P S F' hs rs vs)(hi:K9 is hs=Hs' x F' ++[R])(le:F<=F')(hρ:ρ x F' (CS vs)):
 GE O P [] (Td P fn F R ρ Hs' r) (Hd n [] S F' hs) (some x) r:=GE.nil (FH is hr h hi le hρ)
end
section
variable{β:Type}{P:Program}{ops:Array Oper}{rest:List Oper}{ks:List Kt}{Q:Exit->Act->World->Prop}{m:Option β}{r:β}
variable{n:Nat}{D:List Deferred}{S:List (Nat×Value)}{F:Fz}{hs:List HP}{d:Nat}{ty:TypeId}{pos:String}{after:Array Edge}{T:Array TypeId}
theorem GL.wE{α:Type}{f:FuncId}{caps as vs:List Value}{of:Operand}{os:List Operand}{em:Option α}{ρ:α->Fz->Value->Prop}{Hs:List HP}{Hs' :α->Fz->List HP}{g:α->Option β}(is:List Nat)
  (hd:Nat.blt d n=true) (hcall:∀args w,(callFunc f args).run P w= .ok (.enter f args) w) (hf:QK S of=some (.func (.func f) #[] caps.toArray)) (ha:UC S os=some vs) (has:vs++caps=as) (hi:K9 is hs=Hs)
  (hc:Xe P f as.toArray F Hs em ρ Hs') (k:∀x F' v,em=some x->F<=F'->ρ x F' v->GL O P ops rest ks Q (Hd n D ((d,v)::S) F' (Hs' x F' ++JN is hs)) (g x) r):
  GL O P ops (⟨some d,.call ⟨.value of,os.toArray,T⟩,ty,pos,after,none⟩::rest) ks Q (Hd n D S F hs) (em.bind g) r:=
 GL.xE rfl (.inr rfl) λhm a w hA=>by
  subst has;refine⟨U2 hA.1 hcall hf ha,?_⟩;cases he:em with
  | none=>rw[he] at hm;cases hm
  | some y=>
   rw[he] at hm
   have hsh:SH w F (star (Qj Hs) (Qj (JN is hs))):=hA.2.mono λm hm=>by
    have:=VZ (ks:=is) hm;rw[hi] at this;exact this
   refine(hc y he w _ hsh).mono ?_;rintro _ w' ⟨F',v,le,rfl,hρ,hw⟩;exact⟨v,rfl,k y F' v he le hρ hm _ _ ⟨hA.1.put hd _,hw.mono λ_=>K4⟩⟩
theorem GL.gu{α:Type}{f:FuncId}{caps as vs:List Value}{of:Operand}{os:List Operand}{em:Option α}{x:α}{ρ:α->Fz->Value->Prop}{Hs:List HP}{Hs' :α->Fz->List HP}(he:em=some x)(is:List Nat)
  (hd:Nat.blt d n=true) (hcall:∀args w,(callFunc f args).run P w= .ok (.enter f args) w) (hf:QK S of=some (.func (.func f) #[] caps.toArray)) (ha:UC S os=some vs) (has:vs++caps=as) (hi:K9 is hs=Hs)
  (hc:Xe P f as.toArray F Hs em ρ Hs') (k:∀F' v,F<=F'->ρ x F' v->GL O P ops rest ks Q (Hd n D ((d,v)::S) F' (Hs' x F' ++JN is hs)) m r):
  GL O P ops (⟨some d,.call ⟨.value of,os.toArray,T⟩,ty,pos,after,none⟩::rest) ks Q (Hd n D S F hs) m r:=by
 have h:=GL.wE (O:=O) (P:=P) (ops:=ops) (rest:=rest) (ks:=ks) (Q:=Q) (r:=r) (n:=n) (D:=D) (S:=S) (F:=F) (hs:=hs) (d:=d) (ty:=ty) (pos:=pos) (after:=after) (T:=T) (g:=λ_=>m) is hd hcall hf ha has hi hc
  (λx' F' v he' le hρ=>by rw[he] at he';cases he';exact k F' v le hρ)
 rw[he] at h
 exact h
end
section
variable{β:Type}{P:Program}{ops:Array Oper}{l0:List Oper}{cd:Code}{ks:List Kt}{Q:Exit->Act->World->Prop}{m:Option β}{r:β}
variable{n:Nat}{D:List Deferred}{S:List (Nat×Value)}{F F0:Fz}{hs:List HP}
variable{α:Type}{γ:Nat}{C:Fz->Nat->α->HP}{xs xs' :List α}{b:Nat}{x:α}
theorem GL.pick{hs' :List HP}(is:List Nat)(h:K9 is hs=hs')(k:GL O P ops l0 ks Q (Hd n D S F hs') m r):GL O P ops l0 ks Q (Hd n D S F hs) m r:=GG.pick is h k
theorem GL.u3(i:Nat)(hC:Wl C)(le:F0<=F)(hi:hs[i]? =some (Qw γ C F0 xs))(k:GL O P ops l0 ks Q (Hd n D S F (hs.set i (Qw γ C F xs))) m r):GL O P ops l0 ks Q (Hd n D S F hs) m r:=GG.u3 i hC le hi k
theorem GL.wh{p:HP}(k i:Nat)(hk:hs[k]? =some p)(hi:(hs.eraseIdx k)[i]? =some (Qw γ C F0 xs))(hC:Wl C)(le:F0<=F)(hp:∀F' m,F<=F'->p m->C F' b x m)(he:xs' =xs++[x])
 (K:∀F',F<=F'->VE γ F' xs.length b->GL O P ops l0 ks Q (Hd n D S F' ((hs.eraseIdx k).set i (Qw γ C F' xs'))) m r):GL O P ops l0 ks Q (Hd n D S F hs) m r:=GG.wh k i hk hi hC le hp he K
theorem GL.xG{K V:Type}[BEq K]{ck:K->Value}{rv:Fz->V->Value->Prop}{b:Nat}{l:List (K×V)}(i:Nat)(hi:hs[i]? =some (QU ck rv F0 b l))(le:F0<=F)(k:∀F',F<=F'->Hr ck rv F' b l->GL O P ops l0 ks Q (Hd n D S F' (hs.eraseIdx i)) m r):GL O P ops l0 ks Q (Hd n D S F hs) m r:=GG.xG i hi le k
theorem GC.pick{hs' :List HP}(is:List Nat)(h:K9 is hs=hs')(k:GC O P cd ks Q (Hd n D S F hs') m r):GC O P cd ks Q (Hd n D S F hs) m r:=GG.pick is h k
theorem GC.u3(i:Nat)(hC:Wl C)(le:F0<=F)(hi:hs[i]? =some (Qw γ C F0 xs))(k:GC O P cd ks Q (Hd n D S F (hs.set i (Qw γ C F xs))) m r):GC O P cd ks Q (Hd n D S F hs) m r:=GG.u3 i hC le hi k
theorem GC.xk(C:Fz->Nat->α->HP)(i:Nat)(hi:hs[i]? =some (Oj γ []))(K:GC O P cd ks Q (Hd n D S F (hs.set i (Qw γ C F []))) m r):GC O P cd ks Q (Hd n D S F hs) m r:=GG.xk C i hi K
theorem GC.wv(K:∀γ F',F<=F'->GC O P cd ks Q (Hd n D S F' (Oj γ []::hs)) m r):GC O P cd ks Q (Hd n D S F hs) m r:=GG.wv K
theorem GC.norm{S' :List (Nat×Value)}{hs' :List HP}(hS:Sub S' S)(hh:hs=hs')(k:GC O P cd ks Q (Hd n D S' F hs') m r):GC O P cd ks Q (Hd n D S F hs) m r:=GG.norm hS hh k
theorem GE.pick{hs' :List HP}(is:List Nat)(h:K9 is hs=hs')(k:GE O P ks Q (Hd n D S F hs') m r):GE O P ks Q (Hd n D S F hs) m r:=GG.pick is h k
theorem GE.u3(i:Nat)(hC:Wl C)(le:F0<=F)(hi:hs[i]? =some (Qw γ C F0 xs))(k:GE O P ks Q (Hd n D S F (hs.set i (Qw γ C F xs))) m r):GE O P ks Q (Hd n D S F hs) m r:=GG.u3 i hC le hi k
theorem GE.norm{S' :List (Nat×Value)}{hs' :List HP}(hS:Sub S' S)(hh:hs=hs')(k:GE O P ks Q (Hd n D S' F hs') m r):GE O P ks Q (Hd n D S F hs) m r:=GG.norm hS hh k
end
theorem SH.wP{w:World}{F:Fz}{hs hs' :List HP}(ks:List Nat)(e:K9 ks hs=hs')(h:SH w F (Qj hs)):SH w F (Qj hs'):=e▸h.mono λ_=>Y2
end
section
variable{O:Option Nat}
section
variable{β:Type}{P:Program}{ks:List Kt}{Q:Exit->Act->World->Prop}{m:Option β}{r:β}
variable{n:Nat}{D:List Deferred}{S0:List (Nat×Value)}{F:Fz}
theorem GC.bF{hs:List HP}{id:Nat}{l:List Oper}(k g:Nat)(X:Env->List Ur)(C:(Nat->Bool)->Env->List HP)(hm:P.follows .mixedOrders=true)(hord:Rb 0 l=true)(htail:∀t o,k<=t->l[t]? =some o->∀j,j < t->∃s,XA l s t j=true)
  (hlen:Nat.ble k l.length=true) (hX:∀env,(X env).length=k) (hfr:HQ n S0 (l.take k)=true) (hC:∀env,C (λ_=>false) env=hs++List.replicate g CI)
  (hops:Br O P l.toArray l n D S0 F X C 0 (l.take k))
  (tail:∀env F',F<=F'->(∀(j:Nat) (q:Ur),(X env)[j]? =some q->q.2 F')->GL O P l.toArray (l.drop k) ks Q (Hd n D (MH (l.take k) (X env) S0) F' (C (λj=>Nat.blt j k) env)) m r):
  GC O P (.region id l.toArray true) ks Q (Hd n D S0 F hs) m r:=by
 intro hmr a w ha;have hlen' :k<=l.length:=Nat.le_of_ble_eq_true hlen
 let Free:(Nat->Bool)->Act->World->Prop:=λL a w=>Down l L/\(∀i,k<=i->L i=false)/\∃env F' S,F<=F'/\Sub S0 S/\(∀(j d:Nat) (v:Value),L j=true->VR l j=some d->((X env)[j]?).map Prod.fst=some v->Kw S d=some v)/\(∀(j:Nat) (q:Ur),L j=true->(X env)[j]? =some q->∀G,F'<=G->q.2 G)/\Hd n D S F' (C L env) a w
 let Inv:(Nat->Bool)->Act->World->Prop:=λL a w=>Free L a w∨∃i,k < i/\Down l L/\(∀j,L j=true↔j < i)/\Xd O P l.toArray (Z8 O P ks Q) (l.drop i) a w
 have hend0:∀L a w,(∀i,i < k->L i=true)->Free L a w->Xd O P l.toArray (Z8 O P ks Q) (l.drop k) a w:=by
  rintro L a w hall ⟨hdn,hout,env,F',S,le,hS,hV,hΦ,hA⟩;have hXl:=hX env
  have hLk:L=λj=>Nat.blt j k:=by
    funext j;rcases Nat.lt_or_ge j k with h | h
    ·rw[hall j h];exact(Nat.ble_eq_true_of_le h).symm
    ·rw[hout j h];cases hb:Nat.blt j k with
     | false=>rfl
     | true=>have:=Nat.le_of_ble_eq_true hb;omega
  refine tail env F' le (λj q hq=>hΦ j q (hall j (by have:=Zv hq;omega)) hq F' (Fz.le_refl F')) hmr a w ⟨hA.1.sub (Tu hS λi o d q e1 e2 e3=> ?_),hLk▸hA.2⟩;have hik:i < k:=by have:=Zv e3;omega
  refine hV i d q.1 (hall i hik) ?_ (by rw[e3];rfl);rw[List.getElem?_take,if_pos hik] at e1
  simp[VR,e1,e2]
 refine Wy hm Inv (λi o h e he hb=>by have:=XL hord i o (by simpa using h) e he hb;omega) ?_ ?_ ?_
 ·refine .inl ⟨λi o _ h=>(by cases h),λ_ _=>rfl,⟨λ_=>none,λ_=>0,λ_=>[],λ_=>F,λ_=>none⟩,F,S0,Fz.le_refl F,Sub.refl _,λj d v h=>(by cases h),λj q h=>(by cases h),ha.1,?_⟩;rw[hC];have h1:=ha.2.drew (w.drawn+1);refine h1.mono λm hm' => ?_;exact GC.di.stars_emps hm'
 ·intro L a w i o ho hLi hdeps hI;have ho' :l[i]? =some o:=by simpa using ho
  have hil:i < l.length:=Zv ho';by_cases hi:i < k
  · rcases hI with hF | ⟨k',hk,_,hL,_⟩
    case inr=>have:=(hL i).2 (by omega);rw[hLi] at this;cases this
    obtain⟨hdn,hout,env,F',S,le,hS,hV,hΦ,hA⟩:=hF;have hot:(l.take k)[i]? =some o:=by rw[List.getElem?_take,if_pos hi];exact ho'
    have hop:=Br.get hops i o hot;simp only[Nat.zero_add] at hop
    have hup:∀k' j,XA l k' j i=true->L j=false:=λk' j h=>by
     cases hj:L j with
     | false=>rfl
     | true=>
      have:=We hdn h λo' ho'' e he hb=>hdn j o' ho'' hj e he hb;rw[hLi] at this;cases this
    have hdn' :∀k' j,XA l k' i j=true->L j=true:=λk' j h=>We hdn h λo' ho'' e he hb=>by
     rw[ho'] at ho'';cases ho'';exact hdeps e he hb
    obtain⟨Si,hSi,hstep⟩:=hop L env F' le hLi hdn' hup hΦ;have hsub:=hSi S hS hV;have hn:∀d,o.dst=some d->Nat.blt d n=true:=λd hd=>(XG hfr hot hd).1;have h1:=MT (S:=S) hn hA.1 (hstep rfl a w ⟨hA.1.sub hsub,hA.2⟩);refine S1 (λe a w hne hq=>absurd hq.1 hne) (λa' w' hq=> ?_) h1;obtain⟨_,env',F'',le',⟨M,hMl,hMc,hMe⟩,q,hq,hqf,hA'⟩:=hq
    have hst:∀(j:Nat) (q:Ur),L j=true->(X env')[j]? =some q->(X env)[j]? =some q:=λj q hj hx=>by
     have hjl:j < M.length:=by rw[hMl,hX env,<-hX env'];exact Zv hx
     exact B5 hMe.symm (S9 hdn hLi hMc j hj hjl) hx
    refine .inl ⟨?_,?_,env',F'',(match o.dst with | some d=>(d,q.1)::S | none=>S),Fz.le_trans le le',?_,?_,?_,hA'⟩
    ·intro j oj hoj hj e he hb;by_cases hji:j=i
     ·subst hji;rw[ho'] at hoj;cases hoj
      have:=hdeps e he hb;simp only[Km];split
      ·rfl
      ·exact this
     ·have hLj:L j=true:=by simpa[Km,hji] using hj
      have:=hdn j oj hoj hLj e he hb;simp only[Km];split
      ·rfl
      ·exact this
    ·intro j hj;simp only[Km];rw[if_neg (by omega)];exact hout j hj
    ·cases hd:o.dst with
     | none=>exact hS
     | some d=>exact Tt hS (XG hfr hot hd).2 _
    ·intro j d' v' hj hd' hv';by_cases hji:j=i
     ·subst hji;have hod:o.dst=some d' :=by simpa[VR,ho'] using hd'
      rw[hq] at hv';simp only[Option.map_some,Option.some.injEq] at hv'
      subst hv';rw[hod];exact FO
     ·have hLj:L j=true:=by simpa[Km,hji] using hj
      have hjk:j < k:=by
       rcases Nat.lt_or_ge j k with h | h
       ·exact h
       ·rw[hout j h] at hLj;cases hLj
      obtain⟨q',hq',rfl⟩:=Option.map_eq_some_iff.1 hv';have h0:=hV j d' q'.1 hLj hd' (by rw[hst j q' hLj hq'];rfl);cases hd:o.dst with
      | none=>exact h0
      | some d=>
       have hne:d≠d' :=λh=>by
        subst h;cases hoj:l[j]? with
        | none=>simp[VR,hoj] at hd'
        | some oj=>
         have hdj:oj.dst=some d:=by simpa[VR,hoj] using hd'
         exact hji (DE hfr (by rw[List.getElem?_take,if_pos hjk];exact hoj) hot hdj hd)
       exact AB hne h0
    ·intro j q' hj hq' G hG;by_cases hji:j=i
     ·subst hji;rw[hq] at hq';cases hq';exact hqf G hG
     ·have hLj:L j=true:=by simpa[Km,hji] using hj
      exact hΦ j q' hLj (hst j q' hLj hq') G (Fz.le_trans le' hG)
  ·
    have hdnL:Down l L:=by
     rcases hI with hF | ⟨_,_,hd,_,_⟩
     ·exact hF.1
     ·exact hd
    have hall:∀j,j < i->L j=true:=λj hj=>by
     obtain⟨s,hs⟩:=htail i o (by omega) ho' j hj;exact We hdnL hs λo' ho'' e he hb=>by rw[ho'] at ho'';cases ho'';exact hdeps e he hb
    have hdnU:Down l (Km L i):=λj oj hoj hj e he hb=>by
     have:L e.on=true:=by
      by_cases hji:j=i
      ·subst hji;rw[ho'] at hoj;cases hoj;exact hdeps e he hb
      ·exact hdnL j oj hoj (by simpa[Km,hji] using hj) e he hb
     simp only[Km];split
     ·rfl
     ·exact this
    have hw:Xd O P l.toArray (Z8 O P ks Q) (l.drop i) a w:=by
     rcases hI with hF | ⟨k',hk,_,hL,hwp⟩
     ·have hiV:i=k:=by
       rcases Nat.lt_or_ge k i with h | h
       ·have:=hall k h;rw[hF.2.1 _ (Nat.le_refl _)] at this;cases this
       ·omega
      subst hiV;exact hend0 L a w hall hF
     ·have:k' =i:=by
       have h1:¬i < k' :=λh=>by have:=(hL i).2 h;rw[hLi] at this;cases this
       have h2:¬k' < i:=λh=>by have:=(hL k').1 (hall k' h);omega
       omega
      subst this;exact hwp
    have hdrop:l.drop i=o::l.drop (i+1):=by
     have hg:l[i]'hil=o:=by simpa[hil] using ho'
     rw[<-hg];exact List.drop_eq_getElem_cons hil
    rw[hdrop] at hw
    have hnext:∀a' w',Xd O P l.toArray (Z8 O P ks Q) (l.drop (i+1)) a' w'->Inv (Km L i) a' w' :=λa' w' h=>
     .inr ⟨i+1,by omega,hdnU,λj=>by
      simp only[Km];by_cases hj:j=i
      ·simp[hj]
      ·simp only[hj,if_false];constructor
       ·intro hLj
        have:j < i:=by
         rcases Nat.lt_or_ge j i with h | h
         ·exact h
         ·rcases hI with hF | ⟨k',hk,_,hL,_⟩
          ·rw[hF.2.1 j (by omega)] at hLj;cases hLj
          ·have h1:=(hL j).1 hLj;have:=(hL i).2 (by omega);rw[hLi] at this;cases this
        omega
       ·intro hj';exact hall j (by omega),h⟩
    unfold Xd at hw
    split
    ·rename_i hwn;rw[if_pos hwn] at hw
     exact BC hnext hw
    ·rename_i hwn;rw[if_neg hwn] at hw
     exact hnext _ _ hw
 ·intro L a w hall hI
  have hw:Xd O P l.toArray (Z8 O P ks Q) (l.drop l.length) a w:=by
    rcases hI with hF | ⟨k',hk,_,hL,hwp⟩
    ·have hVl:k=l.length:=by
      rcases Nat.lt_or_ge k l.length with h | h
      ·have:=hall k (by simpa using h);rw[hF.2.1 _ (Nat.le_refl _)] at this;cases this
      ·omega
     have:=hend0 L a w (λi hi=>hall i (by simp;omega)) hF
     rwa[hVl] at this
    ·have:l.length<=k' :=by
      rcases Nat.lt_or_ge k' l.length with h | h
      ·have:=(hL k').1 (hall k' (by simpa using h));omega
      ·exact h
     rw[List.drop_eq_nil_of_le this] at hwp
     rw[List.drop_eq_nil_of_le (Nat.le_refl _)];exact hwp
  rw[List.drop_eq_nil_of_le (Nat.le_refl _)] at hw
  exact hw
def kS(Q:Exit->Act->World->Prop):Exit->Act->World->Prop:=λe a w=>∃c,e= .panic c/\Q (.panic c) a w
def uP(O:Option Nat)(P:Program)(ops:Array Oper)(l:List Oper)(n:Nat)(D:List Deferred)(S0:List (Nat×Value))(F:Fz)(X:Env->List Ur)(C:(Nat->Bool)->Env->List HP)(Q:Exit->Act->World->Prop)(m:Option β)(r:β)(i:Nat)(o:Oper):Prop:=
 ∀L env F',F<=F'->L i=false->(∀k j,XA l k i j=true->L j=true)->(∀k j,XA l k j i=true->L j=false)->(∀(j:Nat) (q:Ur),L j=true->(X env)[j]? =some q->∀G,F'<=G->q.2 G)->
  ∃Si,(∀S,Sub S0 S->(∀(j d:Nat) (v:Value),L j=true->VR l j=some d->((X env)[j]?).map Prod.fst=some v->Kw S d=some v)->Sub Si S)/\
   GL O P ops [o] [] (kS Q) (Hd n D Si F' (C L env)) m r
def Bq(O:Option Nat)(P:Program)(ops:Array Oper)(l:List Oper)(n:Nat)(D:List Deferred)(S0:List (Nat×Value))(F:Fz)(X:Env->List Ur)(C:(Nat->Bool)->Env->List HP)(Q:Exit->Act->World->Prop)(m:Option β)(r:β)(ip:Nat):Nat->List Oper->Prop
 | _,[]=>True
 | i,o::os=>((i=ip/\uP O P ops l n D S0 F X C Q m r i o)∨(∃s,XA l s i ip=true)∨(i≠ip/\jn O P ops l n D S0 F X C i o))/\Bq O P ops l n D S0 F X C Q m r ip (i+1) os
theorem Bq.get{ops:Array Oper}{l:List Oper}{X:Env->List Ur}{C:(Nat->Bool)->Env->List HP}{ip:Nat}:∀{k:Nat} {os:List Oper},Bq O P ops l n D S0 F X C Q m r ip k os->∀i o,os[i]? =some o->(k+i=ip/\uP O P ops l n D S0 F X C Q m r (k+i) o)∨(∃s,XA l s (k+i) ip=true)∨(k+i≠ip/\jn O P ops l n D S0 F X C (k+i) o)
 | _,[],_,i,o,h=>by simp at h
 | k,x::os,hb,0,o,h=>by simp at h;subst h;exact hb.1
 | k,x::os,hb,i+1,o,h=>by
  have:=Bq.get hb.2 i o (by simpa using h)
  rwa[show k+1+i=k+(i+1) by omega] at this
theorem Bq.nil{ops:Array Oper}{l:List Oper}{X:Env->List Ur}{C:(Nat->Bool)->Env->List HP}{ip k:Nat}:Bq O P ops l n D S0 F X C Q m r ip k []:=trivial
theorem Bq.cons{ops:Array Oper}{l:List Oper}{X:Env->List Ur}{C:(Nat->Bool)->Env->List HP}{ip k:Nat}{o:Oper}{os:List Oper}(hk:k≠ip)(h:jn O P ops l n D S0 F X C k o)(t:Bq O P ops l n D S0 F X C Q m r ip (k+1) os):Bq O P ops l n D S0 F X C Q m r ip k (o::os):=⟨.inr (.inr ⟨hk,h⟩),t⟩
theorem Bq.at_{ops:Array Oper}{l:List Oper}{X:Env->List Ur}{C:(Nat->Bool)->Env->List HP}{k:Nat}{o:Oper}{os:List Oper}(h:uP O P ops l n D S0 F X C Q m r k o)(t:Bq O P ops l n D S0 F X C Q m r k (k+1) os):Bq O P ops l n D S0 F X C Q m r k k (o::os):=⟨.inl ⟨rfl,h⟩,t⟩
theorem Bq.dA{ops:Array Oper}{l:List Oper}{X:Env->List Ur}{C:(Nat->Bool)->Env->List HP}{ip k:Nat}{o:Oper}{os:List Oper}(s:Nat)(h:XA l s k ip=true)(t:Bq O P ops l n D S0 F X C Q m r ip (k+1) os):Bq O P ops l n D S0 F X C Q m r ip k (o::os):=⟨.inr (.inl ⟨s,h⟩),t⟩
theorem IC{ops:Array Oper}{o:Oper}{a:Act}{w:World}{K:Act->World->Prop}(h:Xd O P ops (kS Q) [o] a w):
  if Region.wanted o (yielded ops a.tmps) then Ih O P o a w K (Z8 O P ks Q) else K (a.put o.dst undef) w:=by
 unfold Xd at h
 split
 ·rename_i hw;rw[if_pos hw] at h
  refine TV (λa w hq=> ?_) (λe a w hne hq=> ?_) h
  ·obtain⟨c,e,_⟩:=hq;cases e
  ·obtain⟨c,rfl,hq⟩:=hq;exact Jc hq
 ·rename_i hw;rw[if_neg hw] at h
  obtain⟨c,e,_⟩:=h;cases e
theorem GL.fZ{Q:Exit->Act->World->Prop}{A:Act->World->Prop}{c:List PanicEntry}(h:m=some r->∀a w,A a w->Q (.panic c) a w):m=some r->∀a w,A a w->kS Q (.panic c) a w:=
 λhm a w ha=>⟨c,rfl,h hm a w ha⟩
theorem GC.gm{hs:List HP}{id:Nat}{l:List Oper}(ip g:Nat)(X:Env->List Ur)(C:(Nat->Bool)->Env->List HP)(hm:P.follows .mixedOrders=true)(hord:Rb 0 l=true)
  (hip:Nat.blt ip l.length=true) (hX:∀env,(X env).length=l.length) (hfr:HQ n S0 l=true) (hC:∀env,C (λ_=>false) env=hs++List.replicate g CI)
  (hops:Bq O P l.toArray l n D S0 F X C Q m r ip 0 l):
  GC O P (.region id l.toArray true) ks Q (Hd n D S0 F hs) m r:=by
 intro hmr a w ha;have hip' :ip < l.length:=Nat.le_of_ble_eq_true hip
 let Inv:(Nat->Bool)->Act->World->Prop:=λL a w=>L ip=false/\Down l L/\∃env F' S,F<=F'/\Sub S0 S/\(∀(j d:Nat) (v:Value),L j=true->VR l j=some d->((X env)[j]?).map Prod.fst=some v->Kw S d=some v)/\(∀(j:Nat) (q:Ur),L j=true->(X env)[j]? =some q->∀G,F'<=G->q.2 G)/\Hd n D S F' (C L env) a w
 refine Wy hm Inv (λi o h e he hb=>by have:=XL hord i o (by simpa using h) e he hb;omega) ?_ ?_ ?_
 ·refine⟨rfl,λi o _ h=>(by cases h),⟨λ_=>none,λ_=>0,λ_=>[],λ_=>F,λ_=>none⟩,F,S0,Fz.le_refl F,Sub.refl _,λj d v h=>(by cases h),λj q h=>(by cases h),ha.1,?_⟩;rw[hC];exact(ha.2.drew (w.drawn+1)).mono λm hm' =>GC.di.stars_emps hm'
 ·intro L a w i o ho hLi hdeps hI;have ho' :l[i]? =some o:=by simpa using ho
  obtain⟨hLp,hdn,env,F',S,le,hS,hV,hΦ,hA⟩:=hI;have hop:=Bq.get hops i o ho';simp only[Nat.zero_add] at hop
  have hup:∀k' j,XA l k' j i=true->L j=false:=λk' j h=>by
   cases hj:L j with
   | false=>rfl
   | true=>
    have:=We hdn h λo' ho'' e he hb=>hdn j o' ho'' hj e he hb;rw[hLi] at this;cases this
  have hdn' :∀k' j,XA l k' i j=true->L j=true:=λk' j h=>We hdn h λo' ho'' e he hb=>by
   rw[ho'] at ho'';cases ho'';exact hdeps e he hb
  have hn:∀d,o.dst=some d->Nat.blt d n=true:=λd hd=>(XG hfr ho' hd).1;rcases hop with⟨rfl,hop⟩ | ⟨s,hs'⟩ | ⟨hne0,hop⟩
  ·obtain⟨Si,hSi,hstep⟩:=hop L env F' le hLi hdn' hup hΦ;exact IC (hstep hmr a w ⟨hA.1.sub (hSi S hS hV),hA.2⟩)
  ·have:=hdn' s ip hs';rw[hLp] at this;cases this
  ·obtain⟨Si,hSi,hstep⟩:=hop L env F' le hLi hdn' hup hΦ;have hsub:=hSi S hS hV;have h1:=MT (S:=S) hn hA.1 (hstep rfl a w ⟨hA.1.sub hsub,hA.2⟩);refine S1 (λe a w hne hq=>absurd hq.1 hne) (λa' w' hq=> ?_) h1;obtain⟨_,env',F'',le',⟨M,hMl,hMc,hMe⟩,q,hq,hqf,hA'⟩:=hq
   have hst:∀(j:Nat) (q:Ur),L j=true->(X env')[j]? =some q->(X env)[j]? =some q:=λj q hj hx=>by
    have hjl:j < M.length:=by rw[hMl,hX env,<-hX env'];exact Zv hx
    exact B5 hMe.symm (S9 hdn hLi hMc j hj hjl) hx
   refine⟨by simp only[Km];rw[if_neg (λe=>hne0 e.symm)];exact hLp,?_,env',F'',(match o.dst with | some d=>(d,q.1)::S | none=>S),Fz.le_trans le le',?_,?_,?_,hA'⟩
   ·intro j oj hoj hj e he hb;by_cases hji:j=i
    ·subst hji;rw[ho'] at hoj;cases hoj
     have:=hdeps e he hb;simp only[Km];split
     ·rfl
     ·exact this
    ·have hLj:L j=true:=by simpa[Km,hji] using hj
     have:=hdn j oj hoj hLj e he hb;simp only[Km];split
     ·rfl
     ·exact this
   ·cases hd:o.dst with
    | none=>exact hS
    | some d=>exact Tt hS (XG hfr ho' hd).2 _
   ·intro j d' v' hj hd' hv';by_cases hji:j=i
    ·subst hji;have hod:o.dst=some d' :=by simpa[VR,ho'] using hd'
     rw[hq] at hv';simp only[Option.map_some,Option.some.injEq] at hv'
     subst hv';rw[hod];exact FO
    ·have hLj:L j=true:=by simpa[Km,hji] using hj
     obtain⟨q',hq',rfl⟩:=Option.map_eq_some_iff.1 hv';have h0:=hV j d' q'.1 hLj hd' (by rw[hst j q' hLj hq'];rfl);cases hd:o.dst with
     | none=>exact h0
     | some d=>
      have hne:d≠d' :=λh=>by
       subst h;cases hoj:l[j]? with
       | none=>simp[VR,hoj] at hd'
       | some oj=>
        have hdj:oj.dst=some d:=by simpa[VR,hoj] using hd'
        exact hji (DE hfr hoj ho' hdj hd)
      exact AB hne h0
   ·intro j q' hj hq' G hG;by_cases hji:j=i
    ·subst hji;rw[hq] at hq';cases hq';exact hqf G hG
    ·have hLj:L j=true:=by simpa[Km,hji] using hj
     exact hΦ j q' hLj (hst j q' hLj hq') G (Fz.le_trans le' hG)
 ·intro L a w hall hI;have:=hall ip (by simpa using hip');rw[hI.1] at this;cases this
end
end
section
variable{O:Option Nat}
open Classical in
def BA{α τ:Type}(b:α->τ->Option τ)(l:List α)(s:τ):Option τ:=
 if ∀l',l'.Perm l->YI b l' s=YI b l s then YI b l s else none
theorem Ef{α τ:Type}{b:α->τ->Option τ}{l:List α}{s r:τ}(h:BA b l s=some r):∀l',l'.Perm l->YI b l' s=some r:=by
 unfold BA at h
 split at h
 ·rename_i hp;intro l' hl;rw[hp l' hl];exact h
 ·cases h
theorem LP{α τ:Type}{b:α->τ->Option τ}{l:List α}{s r:τ}(h:∀l',l'.Perm l->YI b l' s=some r):BA b l s=some r:=by
 unfold BA;rw[if_pos (λl' hl=>by rw[h l' hl,h l (.refl _)])];exact h l (.refl _)
def Hc{α τ:Type}(B:Nat)(I:List α->List α->τ->Act->World->Prop)(b:α->τ->Option τ)(todo done:List α)(s:τ):Exit->Act->World->Prop:=λe a w=>
 (todo=[]/\e= .exit B/\I [] done s a w)∨(e= .normal/\∃x rest s',(x::rest).Perm todo/\b x s=some s'/\I rest (x::done) s' a w)
theorem Hc.over{α τ:Type}{B:Nat}{I:List α->List α->τ->Act->World->Prop}{b:α->τ->Option τ}{done:List α}{s:τ}{A:Act->World->Prop}(h:∀a w,A a w->I [] done s a w):some ()=some ()->∀a w,A a w->Hc B I b [] done s (.exit B) a w:=
 λ_ a w ha=>.inl ⟨rfl,rfl,h a w ha⟩
theorem Hc.norm{α τ:Type}{B:Nat}{I:List α->List α->τ->Act->World->Prop}{b:α->τ->Option τ}{todo done rest:List α}{s s' m:τ}{x:α}{A:Act->World->Prop}(hp:(x::rest).Perm todo)(hb:b x s=some s')(h:∀a w,A a w->I rest (x::done) m a w):some m=some s'->∀a w,A a w->Hc B I b todo done s .normal a w:=
 λe a w ha=>.inr ⟨rfl,x,rest,s',hp,hb,by simp only[Option.some.injEq] at e;subst e;exact h a w ha⟩
theorem Tg{α τ:Type}{P:Program}{c:Code}{B:Nat}{I:List α->List α->τ->Act->World->Prop}{b:α->τ->Option τ}{R:τ}{l:List α}
  (round:∀todo done s,(∀x∈todo,∃s',b x s=some s')->∀a w,I todo done s a w->c.wpIn (TI O) 0 P (Hc B I b todo done s) a w):∀(n:Nat) (todo done:List α) (s:τ),todo.length=n->(∀l',l'.Perm todo->YI b l' s=some R)->(done++todo).Perm l->∀a w,I todo done s a w->
   ∀(fr:Frame) (k:List Item) (cs:List Frame),fr.roundOf=(TI O).round->∃a' w' done',done'.Perm l/\I [] done' R a' w'/\ArrivesIn (Machine.fenced P (TI O)) P (lone (fr.atR a (.code c:: .inLoop c::k)) cs w) fr k cs (.exit B) a' w'
 | n,todo,done,s,hn,hall,hdone,a,w,hI,fr,k,cs,hro=>by
  have hx:∀x∈todo,∃s',b x s=some s' :=λx hm=>by
   obtain⟨l1,l2,e⟩:=List.append_of_mem hm;have hp:(x::(l1++l2)).Perm todo:=by rw[e];exact List.perm_middle.symm
   have:=hall _ hp;simp only[YI] at this
   cases hb:b x s with
   | none=>rw[hb] at this;cases this
   | some s' =>exact⟨s',rfl⟩
  obtain⟨e,a₁,w₁,hq,harr⟩:=round todo done s hx a w hI fr (.inLoop c::k) cs hro (DF O _) (FP O _);rcases hq with⟨rfl,rfl,hI'⟩ | ⟨rfl,x,rest,s',hp,hb,hI'⟩
  ·have h0:=hall [] (.refl _);simp only[YI,Option.some.injEq] at h0
   subst h0;exact⟨a₁,w₁,done,by simpa using hdone,hI',.pass (x:=.inLoop c) rfl (λ_ _=>.inl (by simp)) harr⟩
  ·have hlen:rest.length < n:=by have:=hp.length_eq;simp at this;omega
   have hall' :∀l',l'.Perm rest->YI b l' s' =some R:=λl' hl' =>by
    have:=hall (x::l') ((hl'.cons x).trans hp);simpa[YI,hb] using this
   have hdone' :(x::done++rest).Perm l:=by
    refine List.Perm.trans ?_ hdone;have h1:(x::done++rest).Perm (done++x::rest):=List.perm_middle.symm;exact h1.trans (hp.append_left done)
   obtain⟨a₂,w₂,done₂,hd₂,hI₂,harr₂⟩:=Tg round rest.length rest (x::done) s' rfl hall' hdone' a₁ w₁ hI' fr k cs hro;exact⟨a₂,w₂,done₂,hd₂,hI₂,.of_steps (StepsIn.trans harr (.one (fenced_calm (n:=0) (DF O _) (FP O _) rfl) stepR_inLoop)) harr₂⟩
termination_by n=>n
section
variable{β:Type}{P:Program}{ks ks' :List Kt}{Q:Exit->Act->World->Prop}{A:Act->World->Prop}{r:β}
theorem GC.fB{α τ:Type}{c:Code}{B:Nat}{l:List α}{b:α->τ->Option τ}{s0:τ}{f:τ->Option β}(I:List α->List α->τ->Act->World->Prop)(hk:Df B ks=some ks')
  (hI:∀a w,A a w->I l [] s0 a w)
  (round:∀todo done s,(∀x∈todo,∃s',b x s=some s')->GC O P c [] (Hc B I b todo done s) (I todo done s) (some ()) ())
  (after:∀done R,BA b l s0=some R->done.Perm l->GE O P ks' Q (I [] done R) (f R) r):
  GC O P (.loop c) ks Q A ((BA b l s0).bind f) r:=by
 intro hm a w ha;cases hl:BA b l s0 with
 | none=>rw[hl] at hm;cases hm
 | some R=>
  rw[hl] at hm
  intro fr k cs hro hf hr;obtain⟨a',w',done,hd,hI',harr⟩:=Tg (I:=I) (b:=b) (R:=R) (l:=l) (λtodo done s hx a w hI' =>round todo done s hx rfl a w hI') l.length l [] s0 rfl (Ef hl) (by simp) a w (hI a w ha) fr k cs hro;exact⟨.exit B,a',w',ZK hk (after done R hl hd hm a' w' hI'),.of_steps (.one (fenced_calm hf hr rfl) stepR_loop) harr⟩
theorem GL.use{σ:Type}{ops:Array Oper}{l0:List Oper}{e:Option σ}{s' :σ}{Q:Exit->Act->World->Prop}{A:Act->World->Prop}(he:e=some s')(k:GL O P ops l0 ks Q A e s'):GL O P ops l0 ks Q A (some ()) ():=λ_=>k he
end
section
variable{K V:Type}
def V7(ck:K->Value)(rv:Fz->V->Value->Prop)(F:Fz)(b it:Nat)(todo done:List (K×V)):HP:=λm=>∃(es:Array MapEntry) (clock:Nat) (l' :List (K×V)) (seen:Array Nat) (last:Nat),
 star (pt b (.map es clock)) (pt it (.mapIter (some b) clock seen last)) m/\UB ck rv F es.toList l'/\J3 es.toList clock/\(seen.isEmpty=false->last=clock)/\
 todo.Perm (((es.toList.zip l').filter (λz=> !seen.contains z.1.born)).map Prod.snd)/\done.Perm (((es.toList.zip l').filter (λz=>seen.contains z.1.born)).map Prod.snd)/\
 ∀x,done.head? =some x->∃z∈es.toList.zip l',z.2=x/\seen.back? =some z.1.born
theorem SQ{ck:K->Value}{rv:Fz->V->Value->Prop}{F F0:Fz}{w:World}{H:HP}{b it:Nat}{todo done:List (K×V)}(h:SH w F (star (V7 ck rv F0 b it todo done) H)):∃(es:Array MapEntry) (clock:Nat) (l' :List (K×V)) (seen:Array Nat) (last:Nat),
  w.heap[b]? =some (.map es clock)/\w.heap[it]? =some (.mapIter (some b) clock seen last)/\SH w F (star (pt it (.mapIter (some b) clock seen last)) (star (pt b (.map es clock)) H))/\UB ck rv F0 es.toList l'/\J3 es.toList clock/\(seen.isEmpty=false->last=clock)/\
  todo.Perm (((es.toList.zip l').filter (λz=> !seen.contains z.1.born)).map Prod.snd)/\done.Perm (((es.toList.zip l').filter (λz=>seen.contains z.1.born)).map Prod.snd)/\
  ∀x,done.head? =some x->∃z∈es.toList.zip l',z.2=x/\seen.back? =some z.1.born:=by
 obtain⟨m,⟨m1,m2,d,s1,s2,⟨es,c,l',seen,last,h1,h2⟩,hq⟩,k⟩:=h;have hs:SH w F (star (pt b (.map es c)) (star (pt it (.mapIter (some b) c seen last)) H)):=⟨m,WQ ⟨m1,m2,d,s1,s2,h1,hq⟩,k⟩;have hs' :SH w F (star (pt it (.mapIter (some b) c seen last)) (star (pt b (.map es c)) H)):=hs.mono λm hm=>Zd hm;exact⟨es,c,l',seen,last,hs.owned,hs'.owned,hs',h2⟩
theorem UB.xM{ck:K->Value}{rv:Fz->V->Value->Prop}{F:Fz}:∀{es:List MapEntry} {l:List (K×V)} {z:MapEntry×(K×V)},UB ck rv F es l->z∈es.zip l->z.1.key=ck z.2.1/\∀F',F<=F'->rv F' z.2.2 z.1.val
 | [],_,_,_,h=>by simp at h
 | _::_,[],_,_,h=>by simp at h
 | e::es,x::l,z,⟨h1,h2,h3⟩,h=>by
  rw[List.zip_cons_cons,List.mem_cons] at h
  rcases h with rfl | h
  ·exact⟨h1,h2⟩
  ·exact h3.xM h
theorem UB.wV{ck:K->Value}{rv:Fz->V->Value->Prop}{F:Fz}{es:List MapEntry}{l:List (K×V)}(h:UB ck rv F es l):(es.zip l).map Prod.snd=l/\(es.zip l).map Prod.fst=es:=
 ⟨List.map_snd_zip (by rw[h.len];exact Nat.le_refl _),List.map_fst_zip (by rw[h.len];exact Nat.le_refl _)⟩
theorem Hk{α:Type}{g:α->Nat}{p:α->Bool}:∀{Z:List α} {z:α},(Z.map g).Nodup->z∈Z->p z=true->(Z.filter p).Perm (z::Z.filter (λy=>p y&& !(g y==g z)))
 | [],_,_,h,_=>by cases h
 | y::Z,z,hn,h,hp=>by
  simp only[List.map_cons,List.nodup_cons] at hn
  rcases List.mem_cons.1 h with rfl | h
  ·have h1:Z.filter (λy=>p y&& !(g y==g z))=Z.filter p:=List.filter_congr λy hy=>by
    have:g y≠g z:=λe=>hn.1 (e▸List.mem_map_of_mem hy);simp[this]
   simp only[List.filter_cons,hp,if_true,BEq.rfl,Bool.not_true,Bool.and_false,Bool.false_eq_true,if_false];rw[h1]
  ·have hne:(g y==g z)=false:=by
    cases hb:g y==g z with
    | false=>rfl
    | true=>exact absurd (List.mem_map_of_mem (f:=g) h) (by rw[<-(beq_iff_eq.1 hb:g y=g z)];exact hn.1)
   have ih:=Hk hn.2 h hp;simp only[List.filter_cons,hne,Bool.not_false,Bool.and_true];cases p y with
   | true=>simp only[if_true];exact(ih.cons y).trans (.swap _ _ _)
   | false=>simpa using ih
theorem Lm{α:Type}{g:α->Nat}{p q:α->Bool}{Z:List α}{z:α}(hn:(Z.map g).Nodup)(hz:z∈Z)(hp:p z=false)(hq:∀y∈Z,q y=(p y||g y==g z)):(Z.filter q).Perm (z::Z.filter p):=by
 have h1:=Hk (p:=q) hn hz (by rw[hq z hz];simp);refine h1.trans (.of_eq ?_);congr 1;refine List.filter_congr λy hy=> ?_;rw[hq y hy];cases hb:g y==g z with
 | false=>simp
 | true=>
  have e:y=z:=by
   have h2:g y=g z:=beq_iff_eq.1 hb;obtain⟨i,hi,e1⟩:=List.getElem_of_mem hy;obtain⟨j,hj,e2⟩:=List.getElem_of_mem hz;have hpw:=List.pairwise_iff_getElem.1 hn
   have:i=j:=by
    rcases Nat.lt_trichotomy i j with h | h | h
    ·exact absurd (by rw[List.getElem_map,List.getElem_map,e1,e2,h2]) (hpw i j (by simpa using hi) (by simpa using hj) h)
    ·exact h
    ·exact absurd (by rw[List.getElem_map,List.getElem_map,e1,e2,h2]) (hpw j i (by simpa using hj) (by simpa using hi) h)
   subst this;rw[<-e1,<-e2]
  subst e;simp[hp]
end
section
variable{β:Type}{P:Program}{ops:Array Oper}{rest:List Oper}{ks:List Kt}{Q:Exit->Act->World->Prop}{m:Option β}{r:β}
variable{n:Nat}{D:List Deferred}{S:List (Nat×Value)}{F F0:Fz}{hs:List HP}{d:Nat}{ty t kt vt:TypeId}{pos:String}{after:Array Edge}{ox:Operand}
variable{K V:Type}{ck:K->Value}{rv:Fz->V->Value->Prop}{b it γ j:Nat}{l todo done:List (K×V)}{xs:List (List (K×V))}
theorem GL.gZ{p:Option Nat}(i:Nat)(hi:hs[i]? =some (Qw γ (QU ck rv) F0 xs))(hb:VE γ F j b)(hp:p=some b)(hel:xs[j]? =some l)(hd:Nat.blt d n=true)(ht:P.underlying t=some (.map kt vt))(hx:QK S ox=some (.map p))
  (k:∀it,(l.map Prod.fst).Nodup->GL O P ops rest ks Q (Hd n D ((d,.pointer (some ⟨it,0,none⟩))::S) F (V7 ck rv F0 b it l []::hs.set i (hole γ (QU ck rv) F0 j b xs))) m r):
  GL O P ops (⟨some d,.range t ox,ty,pos,after,none⟩::rest) ks Q (Hd n D S F hs) m r:=by
 subst hp;refine GL.step rfl (.inr rfl) λhm a w ha=> ?_;have h0:=(ha.2.pull hi).xe hb hel;obtain⟨es,c,l',hpm,hn,hh,hr,hsh,hbi⟩:=Ui h0;refine⟨.pointer (some ⟨w.heap.size,0,none⟩),w.alloc (.mapIter (some b) c #[] c),?_,k w.heap.size hn hm _ _ ⟨ha.1.put hd _,?_⟩⟩
 ·simp[execOp,Instr.range,ha.1.eval hx,Je ht,J4 hh]
 ·have h1:=hsh.alloc (.mapIter (some b) c #[] c)
  have h2:SH (w.alloc (.mapIter (some b) c #[] c)) F (star (V7 ck rv F0 b w.heap.size l []) (star (hole γ (QU ck rv) F0 j b xs) (Qj (hs.eraseIdx i)))):=h1.mono λm hm=>by
   have h3:=Vm (Zd hm);refine QX (λm' hm' =>⟨es,c,l',#[],c,hm',hr,hbi,λh=>(by simp at h),?_,?_,λx h=>(by cases h)⟩) h3
   ·have e:((es.toList.zip l').filter (λz=> !(#[]:Array Nat).contains z.1.born))=es.toList.zip l' :=List.filter_eq_self.2 λ_ _=>by simp
    rw[e,hr.wV.1];exact hpm.symm
   ·have e:((es.toList.zip l').filter (λz=>(#[]:Array Nat).contains z.1.born))=[]:=List.filter_eq_nil_iff.2 λ_ _=>by simp
    rw[e];exact .refl _
  exact h2.mono λm hm=>QR (λm' hm' =>H5 hi hm') hm
theorem Sv{es:List MapEntry}{c:Nat}{l' :List (K×V)}(hb:J3 es c)(hr:UB ck rv F es l'):((es.zip l').map (λz=>z.1.born)).Nodup:=by
 have e:(es.zip l').map (λz=>z.1.born)=((es.zip l').map Prod.fst).map (·.born):=by rw[List.map_map];rfl
 rw[e,hr.wV.2];exact hb.1.imp λh=>Nat.ne_of_lt h
theorem B8{w:World}{q b:Nat}{c s:Nat}{seen:Array Nat}(h:w.heap[q]? =some (.mapIter (some b) c seen s)):(getObj q).run P w= .ok (.mapIter (some b) c seen s) w:=by
 simp[getObj,Sem.run,h]
theorem IK{w:World}{o' :Obj}{q b:Nat}{c s:Nat}{seen:Array Nat}(h:w.heap[q]? =some (.mapIter (some b) c seen s)):(setObj q o').run P w= .ok () (put w q o'):=by
 simp[setObj,Sem.run,put,h]
theorem T9(w:World){n:Nat}(hn:0 < n):∃idx,idx < n/\∃k,(choose (.mapNext n)).run P w= .ok idx {w with drawn:=k}:=by
 by_cases h1:n<=1
 ·exact⟨0,hn,w.drawn,by simp[choose,Sem.run,Question.forced,h1]⟩
 ·exact⟨_,Nat.mod_lt _ hn,w.drawn+1,by simp[choose,Sem.run,Question.forced,Question.cut,h1];rfl⟩
theorem SO{w:World}{es:Array MapEntry}{clock last:Nat}{l' :List (K×V)}{seen:Array Nat}{todo:List (K×V)}(hb:w.heap[b]? =some (.map es clock))(hit:w.heap[it]? =some (.mapIter (some b) clock seen last))(hr:UB ck rv F0 es.toList l')(hbi:J3 es.toList clock)(hl:seen.isEmpty=false->last=clock)
  (ht:todo.Perm (((es.toList.zip l').filter (λz=> !seen.contains z.1.born)).map Prod.snd)):
  (todo=[]->∃k,(Instr.next (.pointer (some ⟨it,0,none⟩)) false ty).run P w= .ok (.tuple #[.bool false]) {w with drawn:=k})/\
  (todo≠[]->∃z∈es.toList.zip l',seen.contains z.1.born=false/\∃k,(Instr.next (.pointer (some ⟨it,0,none⟩)) false ty).run P w= .ok (.tuple #[.bool true,z.1.key,z.1.val]) (put {w with drawn:=k} it (.mapIter (some b) clock (seen.push z.1.born) clock))):=by
 have hguard:(!seen.isEmpty&& !es.isEmpty&&es.all λe=>decide (e.born≥last))=false:=by
  cases hs:seen.isEmpty with
  | true=>simp
  | false=>
   cases he:es.isEmpty with
   | true=>simp
   | false=>
    have hlast:=hl hs;simp only[Bool.not_false,Bool.true_and];cases hall:es.all λe=>decide (e.born≥last) with
    | false=>rfl
    | true=>
     rw[Array.all_eq_true] at hall
     have hsz:0 < es.size:=by
      rcases Nat.eq_zero_or_pos es.size with h | h
      ·have:es.isEmpty=true:=by simpa using Array.eq_empty_of_size_eq_zero h
       rw[this] at he;cases he
      ·exact h
     have h1:=hall 0 hsz;have h2:=hbi.2 es[0] (by simp);simp at h1;omega
 obtain⟨L,hL⟩:∃L,L=es.filter λe=> !seen.contains e.born:=⟨_,rfl⟩
 have hin:∀e,e∈L->e∈es.toList/\seen.contains e.born=false:=λe he=>by
  subst hL;rw[Array.mem_filter] at he
  exact⟨by simpa using he.1,by simpa using he.2⟩
 have hold:(L.filter λe=>decide (e.born < clock))=L:=by
  rw[Array.filter_eq_self];intro e he;simpa using hbi.2 e (hin e he).1
 have hnew:(L.filter λe=>decide (e.born≥clock))=#[]:=by
  rw[Array.filter_eq_empty_iff];intro e he;have:=hbi.2 e (hin e he).1;simp;omega
 have hlen:todo.length=L.size:=by
  have h1:=ht.length_eq;rw[List.length_map] at h1
  have h2:((es.toList.zip l').filter (λz=> !seen.contains z.1.born)).length=(((es.toList.zip l').map Prod.fst).filter (λe=> !seen.contains e.born)).length:=by
   rw[List.filter_map,List.length_map];rfl
  rw[hr.wV.2] at h2
  rw[h1,h2,hL,<-Array.length_toList,Array.toList_filter]
 have hrun:∀(q:Option MapEntry->World->Result Value),True:=λ_=>trivial;refine⟨λh0=> ?_,λh0=> ?_⟩
 ·have hLe:L=#[]:=Array.eq_empty_of_size_eq_zero (by rw[<-hlen,h0];rfl);refine⟨w.drawn,?_⟩;simp only[Instr.next,Sem.run_bind,B8 hit,Result.andThen,J4 hb,hguard,Bool.false_eq_true,if_false,<-hL,hLe];simp[choose,Sem.run,Question.forced]
 ·have hLn:L.size≠0:=by
   rw[<-hlen];intro e;exact h0 (List.eq_nil_of_length_eq_zero e)
  have hLe:L.isEmpty=false:=by
   cases h:L.isEmpty with
   | false=>rfl
   | true=>rw[Array.isEmpty_iff_size_eq_zero] at h;exact absurd h hLn
  obtain⟨idx,hidx,k,hch⟩:=T9 (P:=P) w (n:=L.size) (by omega);have hmem:=hin L[idx] (by simp)
  obtain⟨z,hz,hze⟩:∃z∈es.toList.zip l',z.1=L[idx]:=by
   have:=hmem.1;rw[<-hr.wV.2] at this
   obtain⟨z,hz,e⟩:=List.mem_map.1 this;exact⟨z,hz,e⟩
  refine⟨z,hz,by rw[hze];exact hmem.2,k,?_⟩;rw[hze];have hit2:({w with drawn:=k}:World).heap[it]? =some (.mapIter (some b) clock seen last):=hit;simp only[Instr.next,Sem.run_bind,B8 hit,Result.andThen,J4 hb,hguard,Bool.false_eq_true,if_false,<-hL,hold,hnew,hLe,Array.append_empty,Array.size_map,Array.empty_append,hch];simp[hidx,IK hit2]
theorem GL.gf{pt' :Option Addr}(i:Nat)(hi:hs[i]? =some (V7 ck rv F0 b it [] done))(hp:pt' =some ⟨it,0,none⟩)(hd:Nat.blt d n=true)(hx:QK S ox=some (.pointer pt'))
  (k:GL O P ops rest ks Q (Hd n D ((d,.tuple #[.bool false])::S) F hs) m r):
  GL O P ops (⟨some d,.next ox false,ty,pos,after,none⟩::rest) ks Q (Hd n D S F hs) m r:=by
 subst hp;refine GL.step rfl (.inr rfl) λhm a w ha=> ?_;obtain⟨es,c,l',seen,last,hb,hit,_,hr,hbi,hl,ht,hdn,_⟩:=SQ (ha.2.pull hi);obtain⟨k',hk'⟩:=(SO (P:=P) (ty:=ty) hb hit hr hbi hl ht).1 rfl;refine⟨_,{w with drawn:=k'},?_,k hm _ _ ⟨ha.1.put hd _,ha.2.drew _⟩⟩;simp[execOp,ha.1.eval hx,hk']
theorem GL.gd{pt' :Option Addr}(i:Nat)(hi:hs[i]? =some (V7 ck rv F0 b it todo done))(hne:todo≠[])(hp:pt' =some ⟨it,0,none⟩)(hd:Nat.blt d n=true)(hx:QK S ox=some (.pointer pt'))
  (k:∀x rest' v,(x::rest').Perm todo->(∀F',F0<=F'->rv F' x.2 v)->GL O P ops rest ks Q (Hd n D ((d,.tuple #[.bool true,ck x.1,v])::S) F (hs.set i (V7 ck rv F0 b it rest' (x::done)))) m r):
  GL O P ops (⟨some d,.next ox false,ty,pos,after,none⟩::rest) ks Q (Hd n D S F hs) m r:=by
 subst hp;refine GL.step rfl (.inr rfl) λhm a w ha=> ?_;obtain⟨es,c,l',seen,last,hb,hit,hsh,hr,hbi,hl,ht,hdn,_⟩:=SQ (ha.2.pull hi);obtain⟨z,hz,hseen,k',hk'⟩:=(SO (P:=P) (ty:=ty) hb hit hr hbi hl ht).2 hne;obtain⟨hkey,hval⟩:=hr.xM hz;have hnd:=Sv hbi hr;have hlt:z.1.born < c:=hbi.2 _ (by rw[<-hr.wV.2];exact List.mem_map_of_mem hz);have hsp:=Hk (p:=λy:MapEntry×(K×V)=> !seen.contains y.1.born) hnd hz (by simp only[hseen,Bool.not_false])
 have e1:∀y:MapEntry×(K×V),(!(seen.push z.1.born).contains y.1.born)=(!seen.contains y.1.born&& !(y.1.born==z.1.born)):=λy=>by
  rw[Array.contains_push,Bool.not_or]
 refine⟨_,put {w with drawn:=k'} it (.mapIter (some b) c (seen.push z.1.born) c),?_,k z.2 (((es.toList.zip l').filter (λy=> !(seen.push z.1.born).contains y.1.born)).map Prod.snd) z.1.val ?_ hval hm _ _ ⟨by rw[<-hkey];exact ha.1.put hd _,SH.push hi ((((hsh.drew _).put (o' :=.mapIter (some b) c (seen.push z.1.born) c))).mono λm hm=> ?_)⟩⟩
 ·simp[execOp,ha.1.eval hx,hk']
 ·refine List.Perm.trans ?_ ht.symm;have:=(hsp.map Prod.snd).symm;simp only[List.map_cons] at this
  refine List.Perm.trans (.of_eq ?_) this;congr 2;exact List.filter_congr λy _=>e1 y
 ·have hm2:=Vm (Zd hm);refine QX (λm' hm' =>⟨es,c,l',seen.push z.1.born,c,hm',hr,hbi,λ_=>rfl,.refl _,?_,λx hx=> ?_⟩) hm2
  ·have:=Lm (g:=λy:MapEntry×(K×V)=>y.1.born) (p:=λy=>seen.contains y.1.born) (q:=λy=>(seen.push z.1.born).contains y.1.born) hnd hz hseen (λy _=>by rw[Array.contains_push]);have h3:=this.map Prod.snd;simp only[List.map_cons] at h3
   exact(hdn.cons z.2).trans h3.symm
  ·simp only[List.head?_cons,Option.some.injEq] at hx
   exact⟨z,hz,hx,by simp⟩
theorem GL.gl{pt' :Option Addr}{x:K×V}(i:Nat)(hi:hs[i]? =some (V7 ck rv F0 b it todo (x::done)))(hp:pt' =some ⟨it,0,none⟩)(hd:Nat.blt d n=true)(hx:QK S ox=some (.pointer pt'))
  (k:∀v,(∀F',F0<=F'->rv F' x.2 v)->GL O P ops rest ks Q (Hd n D ((d,.tuple #[ck x.1,v])::S) F hs) m r):
  GL O P ops (⟨some d,.entry ox,ty,pos,after,none⟩::rest) ks Q (Hd n D S F hs) m r:=by
 subst hp;refine GL.step rfl (.inr rfl) λhm a w ha=> ?_;obtain⟨es,c,l',seen,last,hb,hit,hsh,hr,hbi,hl,ht,hdn,hlast⟩:=SQ (ha.2.pull hi);obtain⟨z,hz,hzx,hback⟩:=hlast x rfl;obtain⟨hkey,hval⟩:=hr.xM hz;subst hzx
 have hne:seen.isEmpty=false:=by
  cases h:seen.isEmpty with
  | false=>rfl
  | true=>
   have:seen=#[]:=by simpa using h
   subst this;simp at hback
 have hlc:=hl hne;subst hlc
 have hfind:es.find? (λe=>e.born==z.1.born)=some z.1:=by
  have hmem:z.1∈es.toList:=by rw[<-hr.wV.2];exact List.mem_map_of_mem hz
  have hnd:(es.toList.map (·.born)).Nodup:=hbi.1.imp λh=>Nat.ne_of_lt h
  have:es.toList.find? (λe=>e.born==z.1.born)=some z.1:=by
   clear hb hit hr hbi ht hdn hlast hz hval hkey hsh hback hl
   generalize es.toList=L at hmem hnd
   induction L with
   | nil=>cases hmem
   | cons y L ih=>
    simp only[List.map_cons,List.nodup_cons] at hnd
    rcases List.mem_cons.1 hmem with e | e
    ·rw[List.find?_cons,<-e];simp
    ·have:(y.born==z.1.born)=false:=by
      cases hbb:y.born==z.1.born with
      | false=>rfl
      | true=>exact absurd (List.mem_map_of_mem (f:=(·.born)) e) (by rw[<-(beq_iff_eq.1 hbb:y.born=z.1.born)];exact hnd.1)
     rw[List.find?_cons,this];exact ih e hnd.2
  simpa using this
 refine⟨_,w,?_,k z.1.val hval hm _ _ ⟨by rw[<-hkey];exact ha.1.put hd _,ha.2⟩⟩;simp[execOp,Instr.entry,ha.1.eval hx,B8 hit,J4 hb,hback,hfind]
end
section
variable{K V:Type}{ck:K->Value}{rv:Fz->V->Value->Prop}{b it γ j:Nat}{l todo done:List (K×V)}{xs:List (List (K×V))}{F F0 F1:Fz}{w:World}{hs:List HP}
theorem SH.dI{H:HP}(hp:done.Perm l)(hn:(l.map Prod.fst).Nodup)(h:SH w F (star (V7 ck rv F0 b it [] done) H)):SH w F (star (QU ck rv F0 b l) H):=by
 obtain⟨es,c,l',seen,last,hb,hit,hsh,hr,hbi,hl,ht,hdn,_⟩:=SQ h
 have h1:((es.toList.zip l').filter (λz=> !seen.contains z.1.born))=[]:=by
  have h3:=ht.length_eq;rw[List.length_map] at h3
  exact List.eq_nil_of_length_eq_zero h3.symm
 have h2:((es.toList.zip l').filter (λz=>seen.contains z.1.born))=es.toList.zip l' :=by
  rw[List.filter_eq_self];intro z hz;have:=(List.filter_eq_nil_iff.1 h1) z hz;simpa using this
 rw[h2,hr.wV.1] at hdn
 exact hsh.drop.mono λm hm=>QX (λm hm=>⟨l',(hdn.symm.trans hp),hn,es,c,hm,hr,hbi⟩) hm
theorem MS{H:HP}{C:Fz->Nat->List (K×V)->HP}(h:SH w F (star (hole γ C F0 j b xs) H)):j < xs.length:=by
 obtain⟨m,⟨m1,m2,_,_,_,⟨bs,hl,hb,_⟩,_⟩,_⟩:=h;rw[<-hl];exact(List.getElem?_eq_some_iff.1 hb).1
theorem SH.xB{xs' :List (List (K×V))}(i k:Nat)(hi:hs[i]? =some (V7 ck rv F0 b it [] done))(hk:(hs.eraseIdx i)[k]? =some (hole γ (QU ck rv) F1 j b xs))(le0:F0<=F)(le1:F1<=F)(hp:done.Perm l)(hn:(l.map Prod.fst).Nodup)(he:xs' =xs.set j l)(h:SH w F (Qj hs)):SH w F (Qj ((hs.eraseIdx i).set k (Qw γ (QU ck rv) F xs'))):=by
 subst he;have h1:SH w F (star (V7 ck rv F0 b it [] done) (star (hole γ (QU ck rv) F1 j b xs) (Qj ((hs.eraseIdx i).eraseIdx k)))):=(h.pull hi).mono λm hm=>QR (λ_=>Y1 hk) hm;have h2:=(h1.dI hp hn).mono (H' :=star (QU ck rv F b l) (star (hole γ (QU ck rv) F1 j b xs) (Qj ((hs.eraseIdx i).eraseIdx k)))) λm hm=>QX (λm hm=>Ks le0 hm) hm;have h3:=SH.gQ XV le1 h2 (MS (h2.mono λm hm=>Zd hm));exact SH.push hk h3
end
section
variable{β:Type}{X:Act->World->Prop}{P:Program}{ks:List Kt}{Q:Exit->Act->World->Prop}{m:Option β}{r:β}{n:Nat}{D:List Deferred}{S:List (Nat×Value)}{F F0 F1:Fz}{hs:List HP}
variable{K V:Type}{ck:K->Value}{rv:Fz->V->Value->Prop}{b it γ j:Nat}{l done:List (K×V)}{xs xs' :List (List (K×V))}
theorem GE.xB(i k:Nat)(hi:hs[i]? =some (V7 ck rv F0 b it [] done))(hk:(hs.eraseIdx i)[k]? =some (hole γ (QU ck rv) F1 j b xs))(le0:F0<=F)(le1:F1<=F)(hp:done.Perm l)(hn:(l.map Prod.fst).Nodup)(he:xs' =xs.set j l)
  (K' :GE O P ks Q (Hd n D S F ((hs.eraseIdx i).set k (Qw γ (QU ck rv) F xs'))) m r):GE O P ks Q (Hd n D S F hs) m r:=λhm a w ha=>
 K' hm a w ⟨ha.1,ha.2.xB i k hi hk le0 le1 hp hn he⟩
end
section
variable{α:Type}{γ:Nat}{C:Fz->Nat->α->HP}{F F0 F' :Fz}{xs:List α}{i j b c:Nat}{x y:α}{H:HP}{w:World}
def Ei(C:Fz->Nat->α->HP):Fz->Nat->Option α->HP:=λF b x=>match x with | some x=>C F b x | none=>CI
theorem PU(hC:Wl C):Wl (Ei C):=λF F' b x m le h=>by
 cases x with
 | none=>exact h
 | some x=>exact hC _ _ _ _ _ le h
theorem OR{bs:List Nat}(hb:bs[j]? =some b):List.zipWith (Ei C F0) bs ((xs.map some).set j none)=(List.zipWith (C F0) bs xs).set j CI:=by
 have h1:=TQ (f:=Ei C F0) (xs:=xs.map some) (y:=none) hb;rw[<-h1,List.zipWith_map_right];rfl
theorem Pn(h:SH w F (star (hole γ C F0 j b xs) H)):SH w F (star (Qw γ (Ei C) F0 ((xs.map some).set j none)) H):=
 h.mono λm hm=>QX (λm hm=>by
  obtain⟨bs,hl,hb,hz⟩:=hm;refine⟨bs,by simpa using hl,QR (λm hm=> ?_) hz⟩;rw[OR hb];have hj:=(List.getElem?_eq_some_iff.1 hb).1;have hjl:j < (List.zipWith (C F0) bs xs).length:=by simp;omega
  exact H5 (List.getElem?_eq_getElem hjl) ⟨λ_=>none,m,λ_=>.inl rfl,λ_ _ e=>by simp at e,Mem.sub.refl _,trivial,hm⟩) hm
theorem PT(h:SH w F (star (Qw γ (Ei C) F0 ((xs.map some).set j none)) H))(hb:VE γ F j b)(hj:j < xs.length):SH w F (star (hole γ C F0 j b xs) H):=by
 obtain⟨m,⟨m1,m2,d,s1,s2,⟨bs,hl,hz⟩,hq⟩,k⟩:=h
 have hbs:bs[j]? =some b:=by
  obtain⟨m3,m4,d',t1,t2,hg,_⟩:=hz;obtain⟨_,e⟩:=k.gst γ _ (s1 _ _ (t1 _ _ hg));simp only[Cell.gh.injEq] at e
  rw[e];exact hb.2
 rw[OR hbs] at hz
 refine⟨m,⟨m1,m2,d,s1,s2,⟨bs,by simpa using hl,hbs,?_⟩,hq⟩,k⟩;obtain⟨m3,m4,d',t1,t2,hg,hs⟩:=hz;have hlen:bs.length=xs.length:=by simpa using hl
 have hz:((List.zipWith (C F0) bs xs).set j CI)[j]? =some CI:=by
  rw[List.getElem?_set];simp;omega
 obtain⟨m5,m6,d6,t5,t6,_,h6⟩:=Y1 hz hs;rw[List.eraseIdx_set_eq] at h6
 exact⟨m3,m6,λk=>(d' k).imp id (λe=>by
  cases h:m6 k with
  | none=>rfl
  | some c=>have:=t6 _ _ h;rw[e] at this;cases this),t1,t6.trans t2,hg,h6⟩
theorem SH.bM(h:SH w F (star (hole γ C F0 j b xs) H))(hc:VE γ F i c)(hx:xs[i]? =some x)(hij:i≠j):SH w F (star (C F0 c x) (star (hole γ (Ei C) F0 i c ((xs.map some).set j none)) H)):=
 SH.xe (Pn h) hc (x:=some x) (by rw[List.getElem?_set];simp[Ne.symm hij,hx])
theorem SH.bd(hC:Wl C)(le:F0<=F')(hb:VE γ F j b)(hi:i < xs.length)(hj:j < xs.length)(hij:i≠j)(h:SH w F (star (C F' c y) (star (hole γ (Ei C) F0 i c ((xs.map some).set j none)) H))):SH w F (star (hole γ C F' j b (xs.set i y)) H):=by
 have h1:=SH.gQ (y:=some y) (PU hC) le h (by simpa using hi);refine PT ?_ hb (by simpa using hj)
 have e:((xs.map some).set j none).set i (some y)=((xs.set i y).map some).set j none:=by
  rw[List.map_set,List.set_comm _ _ hij.symm]
 rw[<-e];exact h1
end
section
variable{β:Type}{P:Program}{ops:Array Oper}{rest:List Oper}{ks:List Kt}{Q:Exit->Act->World->Prop}{m:Option β}{r:β}
variable{n:Nat}{D:List Deferred}{S:List (Nat×Value)}{F F0:Fz}{hs:List HP}{ty t kt vt:TypeId}{pos:String}{after:Array Edge}{ox oy oz:Operand}
variable{K V:Type}[BEq K][LawfulBEq K]{ck:K->Value}{rv:Fz->V->Value->Prop}{b c γ j i' :Nat}{l:List (K×V)}{xs:List (List (K×V))}{key:K}{val:V}
theorem GL.gg{p:Option Nat}{xs' :List (List (K×V))}{vv:Value}(i:Nat)(hi:hs[i]? =some (hole γ (QU ck rv) F0 j b xs))(le0:F0<=F)(hbj:VE γ F j b)(hb:VE γ F i' c)(hp:p=some c)(hij:i'≠j)(hel:xs[i']? =some l)(ht:P.underlying t=some (.map kt vt))(ok:Wm P kt ck)(hx:QK S ox=some (.map p))(hy:QK S oy=some (ck key))(hz:QK S oz=some vv)(hv:∀F',F<=F'->rv F' val vv)(he:xs' =xs.set i' (Qv l key val))
  (k:GL O P ops rest ks Q (Hd n D S F (hs.set i (hole γ (QU ck rv) F j b xs'))) m r):GL O P ops (⟨none,.mapUpdate t ox oy oz,ty,pos,after,none⟩::rest) ks Q (Hd n D S F hs) m r:=by
 subst hp;subst he;refine GL.xf rfl (.inr rfl) λhm a w ha=> ?_;have h0:=ha.2.pull hi;have h1:=h0.bM hb hel hij;obtain⟨es,c',l1,hpm,hn,hb',hr,hsh,hbi⟩:=Ui h1;obtain⟨es',c2,hrun,g1,g2⟩:=Xz (key:=key) (val:=val) hb' (hr.up le0) hbi ht ok hv;refine⟨_,?_,k hm _ _ ⟨ha.1.wK _,SH.push hi (SH.bd XV le0 hbj (List.getElem?_eq_some_iff.1 hel).1 (MS h0) hij ((hsh.put (o' :=.map es' c2)).mono λm hm=>QX (λm hm=>⟨Qv l1 key val,X7 hpm hn,JE hn,es',c2,hm,g1,g2⟩) hm))⟩⟩;simp[execOp,ha.1.eval hx,ha.1.eval hy,ha.1.eval hz,hrun]
end
section
variable{α β:Type}{X:Act->World->Prop}{P:Program}{ops:Array Oper}{l0:List Oper}{cd:Code}{ks:List Kt}{Q:Exit->Act->World->Prop}{m:Option β}{r:β}{n:Nat}{D:List Deferred}{S:List (Nat×Value)}{F F0:Fz}{hs:List HP}
variable{γ j b:Nat}{C:Fz->Nat->α->HP}{xs:List α}
theorem SH.dK{w:World}{H:HP}{F' :Fz}(hC:Wl C)(le:F0<=F')(hb:VE γ F j b)(h:SH w F (star (hole γ C F0 j b xs) H)):SH w F (star (hole γ C F' j b xs) H):=by
 have hj:j < xs.length:=by
  obtain⟨m,⟨m1,m2,_,_,_,⟨bs,hl,hb,_⟩,_⟩,_⟩:=h;rw[<-hl];exact(List.getElem?_eq_some_iff.1 hb).1
 exact PT (SH.xT (PU hC) le (Pn h)) hb hj
end
theorem D5{α:Type}{xs:List α}{j:Nat}{x:α}(h:xs[j]? =some x):xs=xs.set j x:=by
 apply List.ext_getElem?;intro i;rw[List.getElem?_set];by_cases e:j=i
 ·subst e;rw[if_pos rfl,h,if_pos (List.getElem?_eq_some_iff.1 h).1]
 ·rw[if_neg e]
section
variable{α τ:Type}
open Classical in
def Dd(E:τ->τ->Prop)(b:α->τ->Option τ)(l:List α)(s:τ):Option τ:=match YI b l s with
 | none=>none
 | some r=>if ∀l',l'.Perm l->∃r',YI b l' s=some r'/\E r' r then some r else none
theorem Eg{E:τ->τ->Prop}{b:α->τ->Option τ}{l:List α}{s r:τ}(h:Dd E b l s=some r):∀l',l'.Perm l->∃r',YI b l' s=some r'/\E r' r:=by
 unfold Dd at h
 split at h
 ·cases h
 ·split at h
  ·rename_i hp;simp only[Option.some.injEq] at h
   subst h;exact hp
  ·cases h
theorem LQ{E:τ->τ->Prop}{b:α->τ->Option τ}{l:List α}{s r:τ}(h0:YI b l s=some r)(h:∀l',l'.Perm l->∃r',YI b l' s=some r'/\E r' r):Dd E b l s=some r:=by
 unfold Dd;rw[h0];exact if_pos h
theorem Al{P:Program}{c:Code}{B:Nat}{I:List α->List α->τ->Act->World->Prop}{b:α->τ->Option τ}{l:List α}
  (round:∀todo done s,(∀x∈todo,∃s',b x s=some s')->∀a w,I todo done s a w->c.wpIn (TI O) 0 P (Hc B I b todo done s) a w):∀(n:Nat) (todo done:List α) (s:τ),todo.length=n->(∀l',l'.Perm todo->∃r,YI b l' s=some r)->(done++todo).Perm l->∀a w,I todo done s a w->
   ∀(fr:Frame) (k:List Item) (cs:List Frame),fr.roundOf=(TI O).round->∃a' w' done' R l',done'.Perm l/\l'.Perm todo/\YI b l' s=some R/\I [] done' R a' w'/\ArrivesIn (Machine.fenced P (TI O)) P (lone (fr.atR a (.code c:: .inLoop c::k)) cs w) fr k cs (.exit B) a' w'
 | n,todo,done,s,hn,hall,hdone,a,w,hI,fr,k,cs,hro=>by
  have hx:∀x∈todo,∃s',b x s=some s' :=λx hm=>by
   obtain⟨l1,l2,e⟩:=List.append_of_mem hm;have hp:(x::(l1++l2)).Perm todo:=by rw[e];exact List.perm_middle.symm
   obtain⟨r,this⟩:=hall _ hp;simp only[YI] at this
   cases hb:b x s with
   | none=>rw[hb] at this;cases this
   | some s' =>exact⟨s',rfl⟩
  obtain⟨e,a₁,w₁,hq,harr⟩:=round todo done s hx a w hI fr (.inLoop c::k) cs hro (DF O _) (FP O _);rcases hq with⟨rfl,rfl,hI'⟩ | ⟨rfl,x,rest,s',hp,hb,hI'⟩
  ·exact⟨a₁,w₁,done,s,[],by simpa using hdone,.refl _,rfl,hI',.pass (x:=.inLoop c) rfl (λ_ _=>.inl (by simp)) harr⟩
  ·have hlen:rest.length < n:=by have:=hp.length_eq;simp at this;omega
   have hall' :∀l',l'.Perm rest->∃r,YI b l' s' =some r:=λl' hl' =>by
    obtain⟨r,this⟩:=hall (x::l') ((hl'.cons x).trans hp);exact⟨r,by simpa[YI,hb] using this⟩
   have hdone' :(x::done++rest).Perm l:=by
    refine List.Perm.trans ?_ hdone;have h1:(x::done++rest).Perm (done++x::rest):=List.perm_middle.symm;exact h1.trans (hp.append_left done)
   obtain⟨a₂,w₂,done₂,R,l',hd₂,hl',hf,hI₂,harr₂⟩:=Al round rest.length rest (x::done) s' rfl hall' hdone' a₁ w₁ hI' fr k cs hro;exact⟨a₂,w₂,done₂,R,x::l',hd₂,(hl'.cons x).trans hp,by simp[YI,hb,hf],hI₂,.of_steps (StepsIn.trans harr (.one (fenced_calm (n:=0) (DF O _) (FP O _) rfl) stepR_inLoop)) harr₂⟩
termination_by n=>n
theorem GC.gM{β:Type}{P:Program}{ks ks' :List Kt}{Q:Exit->Act->World->Prop}{A:Act->World->Prop}{r:β}{c:Code}{B:Nat}{l:List α}{b:α->τ->Option τ}{s0:τ}{f:τ->Option β}(E:τ->τ->Prop)(I:List α->List α->τ->Act->World->Prop)(hk:Df B ks=some ks')
  (hI:∀a w,A a w->I l [] s0 a w) (hE:∀done R R' a w,E R' R->I [] done R' a w->I [] done R a w)
  (round:∀todo done s,(∀x∈todo,∃s',b x s=some s')->GC O P c [] (Hc B I b todo done s) (I todo done s) (some ()) ())
  (after:∀done R,Dd E b l s0=some R->done.Perm l->GE O P ks' Q (I [] done R) (f R) r):
  GC O P (.loop c) ks Q A ((Dd E b l s0).bind f) r:=by
 intro hm a w ha;cases hl:Dd E b l s0 with
 | none=>rw[hl] at hm;cases hm
 | some R=>
  rw[hl] at hm
  have hall:=Eg hl;intro fr k cs hro hf hr;obtain⟨a',w',done,R',l',hd,hl',hfr,hI',harr⟩:=Al (I:=I) (b:=b) (l:=l) (λtodo done s hx a w hI' =>round todo done s hx rfl a w hI') l.length l [] s0 rfl (λl' hl' =>let⟨r',h1,_⟩:=hall l' hl';⟨r',h1⟩) (by simp) a w (hI a w ha) fr k cs hro;obtain⟨r',h1,h2⟩:=hall l' hl';rw[hfr] at h1
  cases h1;exact⟨.exit B,a',w',ZK hk (after done R hl hd hm a' w' (hE done R R' a' w' h2 hI')),.of_steps (.one (fenced_calm hf hr rfl) stepR_loop) harr⟩
end
def Sz{α:Type}(xs ys:List (List α)):Prop:=xs.length=ys.length/\∀(i:Nat) (x y:List α),xs[i]? =some x->ys[i]? =some y->x.Perm y
theorem SH.xq{α:Type}{γ:Nat}{C:Fz->Nat->α->HP}{xs ys:List α}{F F0:Fz}{w:World}{H:HP}(hl:xs.length=ys.length)(hC:∀(i:Nat) x y b m,xs[i]? =some x->ys[i]? =some y->C F0 b x m->C F0 b y m)(h:SH w F (star (Qw γ C F0 xs) H)):SH w F (star (Qw γ C F0 ys) H):=
 h.mono λm hm=>QX (λm ⟨bs,hl',hs⟩=>⟨bs,hl'.trans hl,QR (λm hm=>FE (by simp[hl]) (λi p q e1 e2 m hp=>by
  rw[List.getElem?_zipWith] at e1 e2
  cases hb:bs[i]? with
  | none=>rw[hb] at e1;simp at e1
  | some b=>
   cases hx:xs[i]? with
   | none=>rw[hb,hx] at e1;simp at e1
   | some x=>
    cases hy:ys[i]? with
    | none=>rw[hb,hy] at e2;simp at e2
    | some y=>rw[hb,hx] at e1;rw[hb,hy] at e2;simp at e1 e2;subst e1;subst e2;exact hC i x y b _ hx hy hp) hm) hs⟩) hm
section
variable{K V:Type}{ck:K->Value}{rv:Fz->V->Value->Prop}{γ j b:Nat}{xs ys:List (List (K×V))}{n:Nat}{D:List Deferred}{S:List (Nat×Value)}{F F0:Fz}{hs:List HP}{a:Act}{w:World}
theorem Hd.bc(i:Nat)(hi:hs[i]? =some (hole γ (QU ck rv) F0 j b xs))(hb:VE γ F j b)(hp:Sz xs ys)(ha:Hd n D S F hs a w):Hd n D S F (hs.set i (hole γ (QU ck rv) F0 j b ys)) a w:=by
 refine⟨ha.1,SH.push hi ?_⟩;have h0:=ha.2.pull hi;have hj:=MS h0;refine PT ?_ hb (by rw[<-hp.1];exact hj);refine(Pn h0).xq (by simp[hp.1]) λi' x y b' m hx hy hm=> ?_;rw[List.getElem?_set] at hx hy
 by_cases e:j=i'
 ·simp only[e,if_true] at hx hy
  split at hx
  ·split at hy
   ·cases hx;cases hy;exact hm
   ·cases hy
  ·cases hx
 ·rw[if_neg e,List.getElem?_map] at hx hy
  cases h1:xs[i']? with
  | none=>rw[h1] at hx;cases hx
  | some x0=>
   cases h2:ys[i']? with
   | none=>rw[h2] at hy;cases hy
   | some y0=>
    rw[h1] at hx;rw[h2] at hy
    simp only[Option.map_some,Option.some.injEq] at hx hy
    subst hx;subst hy;obtain⟨l',g1,g2,g3⟩:=hm;have hxy:=hp.2 i' x0 y0 h1 h2;exact⟨l',g1.trans hxy,((hxy.map Prod.fst).nodup_iff).1 g2,g3⟩
end
end
section
variable{O:Option Nat}
section
variable{K V:Type}{ck:K->Value}{rv:Fz->V->Value->Prop}{γ:Nat}{F:Fz}{A:List (List (K×V))}{x p:Option Nat}{P:Program}{f:FuncId}
def P2(A:List (List (K×V)))(x:Option Nat):Option (Option Nat×List (List (K×V))):=
 match x with
 | none=>some (none,A)
 | some i=>(A[i]?).bind λl=>some (some A.length,A++[l])
theorem yY(h:Zp γ F p x)(hcl:∀b es clock w,w.heap[b]? =some (.map es clock)->Calls P f #[.map (some b)] w λe w' =>e= .returned (.map (some w.heap.size))/\w' =w.alloc (.map es clock))
  (hnil:∀w,Calls P f #[.map none] w λe w' =>e= .returned (.map none)/\w' =w):
  Xe P f [.map p].toArray F [Qw γ (QU ck rv) F A] (P2 A x) (fun(r:Option Nat×List (List (K×V))) F v=>∃(p0:Option Nat) (_k0:Unit),v= .map p0/\Zp γ F p0 r.1) (λr F' =>[Qw γ (QU ck rv) F' r.2]):=by
 intro r hm w R hw;have h0:SH w F (Qj ([Qw γ (QU ck rv) F A]++[R])):=hw.mono λm hm=>K4 (QR (λ_ h=>Y5 h) hm);cases x with
 | none=>
  have hp:p=none:=h;subst hp;simp only[P2,Option.some.injEq] at hm
  subst hm;refine(hnil w).mono ?_;rintro e w' ⟨rfl,rfl⟩;exact⟨F,_,Fz.le_refl _,rfl,⟨none,(),rfl,rfl⟩,hw⟩
 | some i=>
  obtain⟨b,hb,rfl⟩:=h;simp only[P2] at hm
  cases hl:A[i]? with
  | none=>rw[hl] at hm;cases hm
  | some l=>
   rw[hl] at hm
   simp only[Option.bind_some,Option.some.injEq] at hm
   subst hm;obtain⟨es,c,l',hpm,hn,hheap,hr,hbi⟩:=SH.xa (H:=Qj [R]) h0 hb hl;refine(hcl b es c w hheap).mono ?_;rintro e w' ⟨rfl,rfl⟩;have h1:=h0.alloc (.map es c);obtain⟨F',le,g1,g2⟩:=SH.df (x:=l) (H:=Qj [R]) (xs:=A) XV (Fz.le_refl F) h1 (λF' m le hm=>⟨l',hpm,hn,es,c,hm,hr.up le,hbi⟩);exact⟨F',_,le,rfl,⟨some w.heap.size,(),rfl,_,g1,rfl⟩,g2.mono λm hm=>W0 (Y6 (l:=[Qw γ (QU ck rv) F' (A++[l])]) hm)⟩
end
def va(i j:Nat):Option Unit:=if i=j then none else some ()
theorem zT{i j:Nat}{u:Unit}(h:va i j=some u):i≠j:=λe=>by simp[va,e] at h
end
section
variable{O:Option Nat}
def kU{ε:Type}(P:Program)(penc:ε->Value)(f:FuncId)(args:Array Value)(F:Fz)(Hs:List HP)(Hp:ε->Fz->List HP):Prop:=
 (∀w R,SH w F (star (Qj Hs) R)->CallsDIn Fence.wide 0 P f args .returning w (λe u' w' =>u' = .returning/\(∃v,e= .returned v)/\SH w' F (star (Qj Hs) R)))/\
 ∀q w R,SH w F (star (Qj Hs) R)->CallsDIn Fence.wide 0 P f args (.panicking [{v:=penc q,recovered:=false}]) w (λe u' w' =>u' = .panicking [{v:=penc q,recovered:=true}]/\(∃v,e= .returned v)/\∃F',F<=F'/\SH w' F' (star (Qj (Hp q F')) R))
def Oo(P:Program)(fn:Func)(F:Fz)(Hs:List HP)(R:HP):Exit->Act->World->Prop:=λe a w=>(e= .normal∨e= .ret)/\a.defers=[]/\(∃v,(results fn a.tmps).run P w= .ok v w)/\SH w F (star (Qj Hs) R)
def On(P:Program)(fn:Func)(F:Fz)(Hp:Fz->List HP)(R:HP):Exit->Act->World->Prop:=λe a w=>(e= .normal∨e= .ret)/\a.defers=[]/\(∃v,(results fn a.tmps).run P w= .ok v w)/\∃F',F<=F'/\SH w F' (star (Qj (Hp F')) R)
section
variable{ε:Type}{P:Program}{penc:ε->Value}{f:FuncId}{fn:Func}{n i0 d0 d1:Nat}{args:List Value}{F:Fz}{Hs:List HP}{Hp:ε->Fz->List HP}{rest:Code}{T0:Array TypeId}{ty0 ty1:TypeId}{pos0 pos1:String}{after0 after1:Array Edge}
theorem LF{ev:Operand->Value}{w:World}:(execOp ev ⟨some d0,.call ⟨.builtin .recover,#[],T0⟩,ty0,pos0,after0,none⟩).run P w= .ok .recover w:=by
 simp[execOp,resolve,invoke,builtin]
theorem Ej{ops:Array Oper}{i:Nat}{rest:List Nat}{o:Oper}{a:Act}{cs:List Frame}{w w' :World}{v:Value}{Q:Exit->Act->List Frame->World->Prop}(ho:ops[i]? =some o)(hw:Region.wanted o (yielded ops a.tmps)=true)(hr:(execOp a.eval o).run P w= .ok (.value v) w')(h:wpOpsSIn Fence.wide 0 P ops Q rest (a.put o.dst v) cs w'):wpOpsSIn Fence.wide 0 P ops Q (i::rest) a cs w:=by
 simp only[wpOpsSIn,ho];exact⟨λ_ _=>trivial,by rw[if_pos hw,hr];exact h⟩
theorem MJ{ops:Array Oper}{i:Nat}{rest:List Nat}{o:Oper}{a:Act}{cs cs' :List Frame}{w w' :World}{v:Value}{Q:Exit->Act->List Frame->World->Prop}(ho:ops[i]? =some o)(hw:Region.wanted o (yielded ops a.tmps)=true)(hr:(execOp a.eval o).run P w= .ok .recover w')(hrec:(match recoverD cs with | some (v,cs')=>(v,cs') | none=>(.nilIface,cs))=(v,cs'))(h:wpOpsSIn Fence.wide 0 P ops Q rest (a.put o.dst v) cs' w'):wpOpsSIn Fence.wide 0 P ops Q (i::rest) a cs w:=by
 simp only[wpOpsSIn,ho];refine⟨λ_ _=>trivial,?_⟩;rw[if_pos hw,hr];cases hr:recoverD cs with
 | none=>
  rw[hr] at hrec
  simp only[Prod.mk.injEq] at hrec
  obtain⟨rfl,rfl⟩:=hrec;exact h
 | some p=>
  obtain⟨v',cs2⟩:=p;rw[hr] at hrec
  simp only[Prod.mk.injEq] at hrec
  obtain⟨rfl,rfl⟩:=hrec;exact h
theorem D7{a:Act}{cs cs' :List Frame}{w:World}{v:Value}{Q:Exit->Act->List Frame->World->Prop}
  {S:List (Nat×Value)} (hsl:Sl n [] S a) (hd0:Nat.blt d0 n=true) (hd1:Nat.blt d1 n=true)
  (hrec:(match recoverD cs with | some (v,cs')=>(v,cs') | none=>(.nilIface,cs))=(v,cs')) (hQ:∀a',Sl n [] ((d1,v)::(d0,v)::S) a'->Q .normal a' cs' w):wpOpsSIn Fence.wide 0 P #[⟨some d0,.call ⟨.builtin .recover,#[],T0⟩,ty0,pos0,after0,none⟩,⟨some d1,.assign (.tmp d0),ty1,pos1,after1,none⟩] Q [0,1] a cs w:=by
 have h1:=hsl.put hd0 v;have h2:=h1.put hd1 v;have hev:(a.put (some d0) v).eval (.tmp d0)=v:=h1.eval (by simp[QK,Kw]);refine MJ (i:=0) (w' :=w) (o:=⟨some d0,.call ⟨.builtin .recover,#[],T0⟩,ty0,pos0,after0,none⟩) rfl (by simp[Region.wanted]) LF hrec ?_;refine Ej (i:=1) (v:=v) (w' :=w) (o:=⟨some d1,.assign (.tmp d0),ty1,pos1,after1,none⟩) rfl (by simp[Region.wanted]) (by simp[execOp,hev]) ?_;exact hQ _ h2
theorem kU.mk{f:FuncId}{fn:Func}(hf:P.funcs[f]? =some fn)(hb:fn.body=some (.seq (.region i0 #[⟨some d0,.call ⟨.builtin .recover,#[],T0⟩,ty0,pos0,after0,none⟩,⟨some d1,.assign (.tmp d0),ty1,pos1,after1,none⟩] false) rest))(hn:fn.ntmps=n)(ha:Nat.ble args.length n=true)(hd0:Nat.blt d0 n=true)(hd1:Nat.blt d1 n=true)
  (h0:∀R,GC none P rest [] (Oo P fn F Hs R) (Hd n [] ((d1,.nilIface)::(d0,.nilIface)::Dc 0 args) F (Hs++[R])) (some ()) ())
  (h1:∀q R,GC none P rest [] (On P fn F (Hp q) R) (Hd n [] ((d1,penc q)::(d0,penc q)::Dc 0 args) F (Hs++[R])) (some ()) ()):kU P penc f args.toArray F Hs Hp:=by
 refine⟨λw R hw=> ?_,λq w R hw=> ?_⟩
 ·refine callsDIn_of_wpSIn hf hb trivial λc₀ cs hu=> ?_;refine wpSIn_seq (wpSIn_region (D7 (n:=n) (v:=.nilIface) (cs' :=c₀::cs) (S:=Dc 0 args) (by rw[hn];exact U1 ha) hd0 hd1 (by simp[recoverD,hu]) λa' ha' => ?_));refine wpSIn_of_wpIn rfl (wpIn_mono (h0 R rfl a' w ⟨ha',hw.mono λm hm=>K4 (QR (λ_ h=>Y5 h) hm)⟩) ?_);rintro e a2 w2 ⟨he,hd,⟨v,hv⟩,hs⟩;have hc:c₀::cs={c₀ with mode:=.returning}::cs:=by cases c₀;simp_all
  rcases he with rfl | rfl
  ·exact⟨hd,.returning,hc,v,hv,rfl,⟨v,rfl⟩,hs⟩
  ·exact⟨hd,.returning,hc,v,hv,rfl,⟨v,rfl⟩,hs⟩
 ·refine callsDIn_of_wpSIn hf hb trivial λc₀ cs hu=> ?_;refine wpSIn_seq (wpSIn_region (D7 (n:=n) (v:=penc q) (cs' :={c₀ with mode:=.panicking [{v:=penc q,recovered:=true}]}::cs) (S:=Dc 0 args) (by rw[hn];exact U1 ha) hd0 hd1 (by simp[recoverD,hu]) λa' ha' => ?_));refine wpSIn_of_wpIn rfl (wpIn_mono (h1 q R rfl a' w ⟨ha',hw.mono λm hm=>K4 (QR (λ_ h=>Y5 h) hm)⟩) ?_);rintro e a2 w2 ⟨he,hd,⟨v,hv⟩,hs⟩;rcases he with rfl | rfl
  ·exact⟨hd,_,rfl,v,hv,rfl,⟨v,rfl⟩,hs⟩
  ·exact⟨hd,_,rfl,v,hv,rfl,⟨v,rfl⟩,hs⟩
end
section
variable{P:Program}{n:Nat}{S:List (Nat×Value)}{F F' :Fz}{hs Hs:List HP}{fn:Func}{R:HP}{Hp:Fz->List HP}
theorem AN(is:List Nat)(hr:fn.results=#[])(hi:K9 is hs=Hs++[R]):some ()=some ()->∀a w,Hd n [] S F hs a w->Oo P fn F Hs R .normal a w:=by
 intro _ a w ha;refine⟨.inl rfl,ha.1.2.1,⟨_,Jo (rs:=[]) (by simpa using hr) ha .nil⟩,ha.2.mono λm hm=> ?_⟩;have h1:=Y2 (ks:=is) hm;rw[hi] at h1
 exact W0 (Y6 h1)
theorem AM(is:List Nat)(hr:fn.results=#[])(hi:K9 is hs=Hp F' ++[R])(le:F<=F'):some ()=some ()->∀a w,Hd n [] S F' hs a w->On P fn F Hp R .normal a w:=by
 intro _ a w ha;refine⟨.inl rfl,ha.1.2.1,⟨_,Jo (rs:=[]) (by simpa using hr) ha .nil⟩,F',le,ha.2.mono λm hm=> ?_⟩;have h1:=Y2 (ks:=is) hm;rw[hi] at h1
 exact W0 (Y6 h1)
end
section
variable{β:Type}{P:Program}{n:Nat}{S:List (Nat×Value)}{F F' :Fz}{hs:List HP}
variable{G ε:Type}{penc:ε->Value}{fn:Func}{R:HP}{ρ:G->β->Fz->Value->Prop}{Hs' :G->β->Fz->List HP}{x r:β}{rs:List ResultVar}{vs:List Value}{U:G}
theorem S4{f:FuncId}{caps:List Value}{Hs:List HP}{Hp:ε->Fz->List HP}(is0:List Nat)(hcall:∀args w,(callFunc f args).run P w= .ok (.enter f args) w)(hc:kU P penc f caps.toArray F' Hs Hp)(hi0:K9 is0 hs=Hs)(is:List Nat)(hr:fn.results=rs.toArray)(h:CG P S F' (Hs++JN is0 hs) rs vs)(hi:K9 is (Hs++JN is0 hs)=Hs' U x F' ++[R])(le:F<=F')(hρ:ρ U x F' (CS vs)):
  some x=some r->∀a w,Hd n [AQ f caps] S F' hs a w->CA P fn F R ρ Hs' r .ret a w:=by
 intro e a w ha;simp only[Option.some.injEq] at e
 subst e;show LeavesIn Fence.wide 0 P fn a.tmps _ a.defers .returning w;rw[ha.1.2.1]
 have hsh:SH w F' (star (Qj Hs) (Qj (JN is0 hs))):=ha.2.mono λm hm=>by
  have:=VZ (ks:=is0) hm;rw[hi0] at this;exact this
 refine leavesIn_cons (by simp) (λe=>by cases e) (Cs hcall) AD ((hc.1 w _ hsh).mono ?_);rintro _ _ w' ⟨rfl,⟨v,rfl⟩,h2⟩;have h3:SH w' F' (Qj (Hs++JN is0 hs)):=h2.mono λ_=>K4;refine⟨_,Jo (n:=n) (a:=a) (D:=a.defers) hr ⟨⟨ha.1.1,rfl,ha.1.2.2⟩,h3⟩ h,U,F',_,le,rfl,hρ,h3.mono λm hm=> ?_⟩;have h1:=Y2 (ks:=is) hm;rw[hi] at h1
 exact W0 (Y6 h1)
theorem NQ{f:FuncId}{caps:List Value}{Hs:List HP}{Hp:ε->Fz->List HP}{q:ε}(j:Nat)(hcall:∀args w,(callFunc f args).run P w= .ok (.enter f args) w)(hc:kU P penc f caps.toArray F' Hs Hp)(is:List Nat)(hi:K9 is hs=Hs)(hr:fn.results=rs.toArray)(h:∀F'',F'<=F''->CG P S F'' (Hp q F'' ++JN is hs) rs vs)(hj:∀F'',(Hp q F'' ++JN is hs)[j]? =some R)(le:F<=F')
  (hnew:∀w F R,SH w F R->∃U F'',F<=F''/\SH w F'' (star (Qj (Hs' U x F'')) R)) (hρ:∀U F'',ρ U x F'' (CS vs)):
  some x=some r->∀a w,Hd n [AQ f caps] S F' hs a w->CA P fn F R ρ Hs' r (.panic [{v:=penc q,recovered:=false}]) a w:=by
 intro e a w ha;simp only[Option.some.injEq] at e
 subst e;show LeavesIn Fence.wide 0 P fn a.tmps _ a.defers (.panicking _) w;rw[ha.1.2.1]
 have hsh:SH w F' (star (Qj Hs) (Qj (JN is hs))):=ha.2.mono λm hm=>by
  have:=VZ (ks:=is) hm;rw[hi] at this;exact this
 refine leavesIn_cons (by simp) (λe=>by cases e) (Cs hcall) AD ((hc.2 q w _ hsh).mono ?_);rintro _ _ w' ⟨rfl,⟨v,rfl⟩,F2,le2,h2⟩;have h3:SH w' F2 (Qj (Hp q F2++JN is hs)):=h2.mono λ_=>K4;obtain⟨U,F3,le3,h4⟩:=hnew _ _ _ (h3.only (hj F2));exact⟨_,Jo (n:=n) (a:=a) (D:=a.defers) hr ⟨⟨ha.1.1,rfl,ha.1.2.2⟩,h3⟩ (h F2 le2),U,F3,_,Fz.le_trans le (Fz.le_trans le2 le3),rfl,hρ U F3,h4⟩
end
section
variable{β:Type}{P:Program}{ops:Array Oper}{rest:List Oper}{ks:List Kt}{Q:Exit->Act->World->Prop}{m:Option β}{r:β}
variable{n:Nat}{D:List Deferred}{S:List (Nat×Value)}{F:Fz}{hs:List HP}{d:Nat}{ty t t' tx:TypeId}{pos:String}{after:Array Edge}{ox oy:Operand}{v:Value}
theorem zp{ms:Array (String×TypeId)}(ht:P.underlying t=some (.interface ms))(k:Nat)(w:World):(Op.equalIn (k+1) t .nilIface .nilIface).run P w= .ok true w:=by
 simp[Op.equalIn,Je ht]
theorem MZ{ms:Array (String×TypeId)}(ht:P.underlying t=some (.interface ms))(k:Nat)(w:World):(Op.equalIn (k+1) t (.iface tx v) .nilIface).run P w= .ok false w:=by
 simp[Op.equalIn,Je ht]
theorem jT{ms:Array (String×TypeId)}(ht:P.underlying t=some (.interface ms))(w:World):(Op.equal t .nilIface .nilIface).run P w= .ok true w:=zp ht 9999 w
theorem Ls{ms:Array (String×TypeId)}(ht:P.underlying t=some (.interface ms))(w:World):(Op.equal t (.iface tx v) .nilIface).run P w= .ok false w:=MZ ht 9999 w
theorem GL.xv{ms:Array (String×TypeId)}(hd:Nat.blt d n=true)(ht:P.underlying t=some (.interface ms))(hx:QK S ox=some .nilIface)(k:GL O P ops rest ks Q (Hd n D ((d,.bool false)::S) F hs) m r):
  GL O P ops (⟨some d,.binOp .neq t ox (.const .nilIface) t',ty,pos,after,none⟩::rest) ks Q (Hd n D S F hs) m r:=
 GL.val hd (λa w ha=>by
  have h1:a.eval (.const .nilIface)= .nilIface:=rfl;simp[execOp,ha.1.eval hx,h1,eqGuard,binOp,jT ht]) k
theorem GL.xu{ms:Array (String×TypeId)}(hd:Nat.blt d n=true)(ht:P.underlying t=some (.interface ms))(hx:QK S ox=some (.iface tx v))(k:GL O P ops rest ks Q (Hd n D ((d,.bool true)::S) F hs) m r):
  GL O P ops (⟨some d,.binOp .neq t ox (.const .nilIface) t',ty,pos,after,none⟩::rest) ks Q (Hd n D S F hs) m r:=
 GL.val hd (λa w ha=>by
  have h1:a.eval (.const .nilIface)= .nilIface:=rfl;simp[execOp,ha.1.eval hx,h1,eqGuard,binOp,Ls ht]) k
theorem GL.xj{td:TypeDesc}(hd:Nat.blt d n=true)(ht:P.underlying tx=some td)(hn:∀ms,td≠.interface ms)(hx:QK S ox=some (.iface tx v))(k:GL O P ops rest ks Q (Hd n D ((d,.tuple #[v,.bool true])::S) F hs) m r):
  GL O P ops (⟨some d,.typeAssert ox t tx true,ty,pos,after,none⟩::rest) ks Q (Hd n D S F hs) m r:=
 GL.val hd (λa w ha=>by
  have:(Instr.typeAssert (.iface tx v) t tx true).run P w= .ok (.tuple #[v,.bool true]) w:=by
   cases td<;>simp_all [Instr.typeAssert,Je ht]
  simp[execOp,ha.1.eval hx,this]) k
end
theorem LW{X:HP}{m:Mem}(h:X m):star (Qj []) X m:=⟨λ_=>none,m,λ_=>.inl rfl,λ_ _ e=>by simp at e,Mem.sub.refl _,trivial,h⟩
theorem Xs{α:Type}{γ:Nat}{C:Fz->Nat->α->HP}{F:Fz}{hs:List HP}{R:HP}{m:Mem}(h:star (Qj hs) (star (Oj γ []) R) m):star (Qj (Qw γ C F []::hs)) R m:=by
 have h1:=Vm (Zd h);exact QX (λm hm=>QX (λm hm=>⟨[],rfl,m,λ_=>none,λ_=>.inr rfl,Mem.sub.refl _,λ_ _ e=>by simp at e,hm,trivial⟩) hm) h1
end
end Go.Dec
end
