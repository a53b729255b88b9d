/- For OfficeBonds. -/
import Derived.WalkKit
import Derived.OrdersIn
import Derived.RangeFuncLeaves
import Derived.ProofKit
import Derived.OpenShut
import Derived.ChangeArms
import Derived.RangeFuncNested
noncomputable section
namespace Go.Dec
theorem x0{p:Prop}(h:p:=by kernel_rfl):p:=h
theorem eB{p:Prop}(h:p:=by omega):p:=h
theorem eE{p:Prop}(h:p:=by simp;omega):p:=h
theorem eF{p:Prop}(h:p:=by simp):p:=h
theorem eT{p:Prop}(h:p:=by decide):p:=h
theorem iO{p:Prop}(h:p:=by rfl):p:=h
abbrev Q0:=@List
abbrev K1:=@Option
abbrev K2:=@Option.bind_some
abbrev UV:=@Value
abbrev W1:=@Option.some.injEq
abbrev W2:=@Bool.false_eq_true
abbrev DO:=@List.getElem?_eq_some_iff
abbrev Do:=@Bool.and_eq_true
abbrev BY:=@if_pos
abbrev Bm:=@if_false
abbrev By:=@World
abbrev B1:=@if_neg
abbrev B2:=@if_true
abbrev B3:=@Program
abbrev C1:=@List.getElem?_eq_getElem
abbrev C3:=@Addr
abbrev So:=@Array
abbrev S1:=@TypeId
abbrev S2:=@Nat.le_refl
abbrev AC:=@Deferred
abbrev AT:=@decide_eq_true_eq
abbrev A4:=@Nat.le_of_ble_eq_true
abbrev TO:=@List.mem_cons
abbrev Tc:=@Option.some.inj
abbrev RW:=@List.eq_nil_of_length_eq_zero
abbrev Rw:=@FuncId
abbrev Nm:=@Oper
abbrev L4:=@Option.map_some
abbrev L5:=@Operand
abbrev E4:=@List.map_cons
abbrev OF:=@List.length_cons
abbrev IF:=@List.take_of_length_le
abbrev IN:=@List.all_eq_true
abbrev IR:=@List.mem_map_of_mem
abbrev If:=@Option.bind_eq_some_iff
abbrev kn:=@Nat.lt_or_ge
abbrev kp:=@List.length_nil
abbrev kx:=@Array.getD_eq_getD_getElem?
abbrev k4:=@Bool.not_false
abbrev j0:=@Nat.eq_of_beq_eq_true
abbrev j3:=@Sem.run_bind
abbrev yb:=@List.getElem?_take
abbrev u0:=@List.drop_eq_nil_of_le
abbrev u1:=@List.getElem?_append_left
abbrev u2:=@List.drop_eq_getElem_cons
abbrev x4:=@List.length_append
abbrev x8:=@List.getElem?_map
abbrev hN:=@Nat.ble_eq_true_of_le
abbrev hP:=@Exit
abbrev hQ:=@callsIn_wide
abbrev hR:=@Int.toNat_natCast
abbrev gw:=@MapEntry
abbrev fm:=@Int.mul_le_mul_of_nonneg_left
abbrev dO:=@Nat.zero_add
abbrev sf:=@List.mem_filter
abbrev s5:=@List.getElem?_append_right
abbrev s8:=@List.getElem?_eq_none
abbrev s9:=@List.getElem?_cons_succ
abbrev tO:=@List.cons_append
abbrev tb:=@Bool.not_eq_true'
abbrev td:=@StepsIn.trans
abbrev ts:=@List.mem_singleton
abbrev rm:=@List.mem_map
abbrev r6:=@IntKind
abbrev r7:=@List.nil_append
abbrev r8:=@List.append_nil
abbrev nn:=@Bool.or_eq_true
abbrev n1:=@List.any_eq_true
abbrev mY:=@Option.map_eq_some_iff
abbrev mb:=@Bool.true_and
abbrev mc:=@List.ext_getElem?
abbrev me:=@List.getElem?_drop
abbrev mf:=@Int.tdiv_eq_ediv_of_nonneg
abbrev mg:=@List.mem_append
abbrev mj:=@List.all_cons
abbrev mn:=@List.mem_range
abbrev mq:=@Nat.add_mul
abbrev mu:=@List.getElem?_set
abbrev mv:=@List.getElem_of_mem
abbrev mz:=@Nat.le_trans
abbrev lI:=@Sem.run_pure
abbrev lK:=@List.length_drop
abbrev lM:=@Option.isSome_none
abbrev lR:=@List.cons.injEq
abbrev lS:=@Nat.mul_le_mul_right
abbrev lU:=@Bool.false_or
abbrev lV:=@List.eraseIdx_cons_succ
abbrev lW:=@List.drop_append_of_le_length
abbrev lX:=@Func
abbrev lY:=@Edge
abbrev lZ:=@Option.map_none
abbrev la:=@Code
abbrev lf:=@List.take_append_drop
abbrev lk:=@List.getElem?_zipWith
abbrev lv:=@Option.getD_some
abbrev lx:=@run_enterLoop_outer
abbrev eh:=@Array.length_toList
abbrev ek:=@Option.isSome_some
abbrev el:=@List.filter_eq_nil_iff
abbrev en:=@List.drop_drop
abbrev et:=@World.size_alloc
abbrev ey:=@Int.mul_le_mul_of_nonneg_right
abbrev oB:=@Int.ediv_nonneg
abbrev oD:=@wpIn_mono
abbrev oF:=@Nat.eq_zero_or_pos
abbrev oG:=@List.drop_zero
abbrev oK:=@List.getElem?_eq_none_iff
abbrev oM:=@fenced_calm
abbrev oN:=@calls_of_wp
abbrev oQ:=@List.prefix_refl
abbrev oR:=@List.length_take
abbrev oU:=@Nat.sub_zero
abbrev oV:=@List.map_nil
abbrev oW:=@List.getElem?_eraseIdx
abbrev oX:=@List.drop_of_length_le
abbrev ob:=@List.map_append
abbrev od:=@List.length_replicate
abbrev og:=@wpIn_rangeFunc
abbrev oh:=@TypeDesc
abbrev oi:=@List.pairwise_append
abbrev om:=@Int.toNat_zero
abbrev oo:=@wpIn_wide
abbrev ot:=@callsIn_of_wp_marks
abbrev o1:=@Nat.mod_lt
abbrev o3:=@Nat.lt_of_lt_of_le
abbrev o5:=@Ending
abbrev o6:=@Array.ext_getElem?
abbrev iD:=@Nat.add_zero
abbrev iJ:=@Bool.true_or
abbrev iK:=@Array.size_append
abbrev iL:=@Array.all_eq_true_iff_forall_mem
abbrev iM:=@Array.getElem?_setIfInBounds_ne
abbrev iN:=@List.getElem_mem
abbrev iQ:=@Array.eq_empty_of_size_eq_zero
abbrev iX:=@and_true
abbrev ir:=@stepR_inLoop
abbrev iu:=@Ne.symm
abbrev iz:=@Array.getElem?_modify
abbrev qAI:=@List.append_toArray
end Go.Dec
namespace Go.Dec
section
variable{w:By}{b k:Nat}{o:Obj}
inductive Key where
 | blk (b:Nat)
 | gst (γ:Nat)
 deriving DecidableEq
inductive Cell where
 | obj (o:Obj)
 | gh (l:List Nat)
abbrev Mem:=Key->K1 Cell
variable{m n:Mem}
abbrev HP:=Mem->Prop
variable{hs:Q0 HP}{H p q:HP}
structure Fz where
 mem:Nat->Option Obj
 os:Os
 tape:Nat->Question->Nat
 out:Array (Nat×ByteArray)
 gh:Nat->List Nat:=λ_=>[]
 gn:Nat:=0
variable{F:Fz}
structure Fz.Le(F F' :Fz):Prop where
 os:F'.os=F.os
 tape:F'.tape=F.tape
 out:F'.out=F.out
 mem:∀b o,F.mem b=some o->F'.mem b=some o
 gh:∀γ,γ < F.gn->F.gh γ <+:F'.gh γ
 gn:F.gn<=F'.gn
instance:LE Fz:=⟨Fz.Le⟩
theorem Fz.le_refl(F:Fz):F<=F:=⟨rfl,rfl,rfl,λ_ _ h=>h,λ_ _=>oQ _,S2 _⟩
theorem Fz.le_trans{G H:Fz}(h:F<=G)(k:G<=H):F<=H:=⟨k.os.trans h.os,k.tape.trans h.tape,k.out.trans h.out,λb o e=>k.mem b o<|h.mem b o e,λγ hγ=>(h.gh γ hγ).trans<|k.gh γ<|o3 hγ h.gn,mz h.gn k.gn⟩
def Mem.dj(m n:Mem):Prop:=∀k,m k=none∨n k=none
def Mem.sub(m n:Mem):Prop:=∀k o,m k=some o->n k=some o
def Mem.set(m:Mem)(b:Key)(o:Cell):Mem:=λk=>if k=b then some o else m k
def Rx(m:Nat->K1 Obj)(b:Nat)(o:Obj):Nat->K1 Obj:=λk=>if k=b then some o else m k
theorem Mem.dj.symm(h:Mem.dj m n):Mem.dj n m:=λk=>(h k).symm
theorem Mem.sub.trans{p:Mem}(h:Mem.sub m n)(k:Mem.sub n p):Mem.sub m p:=λb o e=>k b o<|h b o e
theorem Mem.sub.refl(m:Mem):Mem.sub m m:=λ_ _ e=>e
theorem Mem.dj.sub{a n':Mem}(h:Mem.dj m n)(c:Mem.sub a m)(d:Mem.sub n' n):Mem.dj a n' :=λk=>by
 rcases h k with h | h
 ·cases e:a k with
  | none=>exact .inl rfl
  | some o=>rw[c k o e] at h;cases h
 ·cases e:n' k with
  | none=>exact .inr rfl
  | some o=>rw[d k o e] at h;cases h
theorem Mem.dj.c9(h:Mem.dj m n){b:Key}{o:Cell}(e:m b=some o):n b=none:=by
 rcases h b with h | h
 ·rw[e] at h;cases h
 ·exact h
theorem Mem.dj.aj(h:Mem.dj m n){b:Key}{o:Cell}(e:n b=some o):m b=none:=h.symm.c9 e
def SO:HP:=λ_=>True
def pt(b:Nat)(o:Obj):HP:=λm=>m (.blk b)=some (.obj o)
def yQ(γ:Nat)(l:Q0 Nat):HP:=λm=>m (.gst γ)=some (.gh l)
def star(p q:HP):HP:=λm=>∃a c,Mem.dj a c/\Mem.sub a m/\Mem.sub c m/\p a/\q c
def Qh:Q0 HP->HP
 | []=>SO
 | p::hs=>star p<|Qh hs
theorem Zj{r:HP}(h:star p (star q r) m):star q (star p r) m:=by
 obtain⟨f,C,d,s,g,t,i,a,u,j,c,v,y⟩:=h
 classical
 refine⟨i,λk=>if a k=none then f k else a k,?_,j.trans g,?_,v,f,a,?_,?_,?_,t,y⟩
 ·intro k;by_cases e:a k=none
  ·simp only[e,B2];rcases d k with h | h
   ·exact .inr h
   ·left;cases z:i k with
    | none=>rfl
    | some o=>rw[j k o z] at h;cases h
  ·simp only[e,Bm];rcases u k with h | h
   ·exact .inl h
   ·exact absurd h e
 ·intro k o e;by_cases l:a k=none
  ·simp only[l,B2] at e;exact s k o e
  ·simp only[l,Bm] at e;exact g k o<|c k o e
 ·exact d.sub (Mem.sub.refl _) c
 ·intro k o e
  have A:a k=none:=by
   cases B:a k with
   | none=>rfl
   | some x=>
    have:=d.c9 e;rw[c k x B] at this;cases this
  simp[A,e]
 ·intro k o e;simp[e]
theorem QR{a:HP}(h:∀m,q m->a m)(k:star p q m):star p a m:=let⟨c,e,d,f,g,i,j⟩:=k;⟨c,e,d,f,g,i,h _ j⟩
theorem QP{p':HP}(h:∀m,p m->p' m)(k:star p q m):star p' q m:=let⟨a,c,d,e,f,g,i⟩:=k;⟨a,c,d,e,f,h _ g,i⟩
theorem Vi:∀{hs:Q0 HP} {k:Nat} {p:HP} {m:Mem},hs[k]? =some p->Qh hs m->star p (Qh<|hs.eraseIdx k) m
 | [],_,_,_,h,_=>by simp at h
 | q::hs,0,p,m,h,a=>by
  simp at h;subst h;exact a
 | q::hs,k+1,p,m,h,a=>by
  simp only[s9] at h
  simp only[lV];exact Zj<|QR (λm c=>Vi h c) a
theorem Ff:∀{hs:Q0 HP} {k:Nat} {p q:HP} {m:Mem},hs[k]? =some q->star p (Qh<|hs.eraseIdx k) m->Qh (hs.set k p) m
 | [],_,_,_,_,h,_=>by simp at h
 | x::hs,0,p,q,m,h,a=>a
 | x::hs,k+1,p,q,m,h,a=>by
  simp only[s9] at h
  simp only[lV] at a
  simp only[List.set_cons_succ];exact QR (λm c=>Ff h c)<|Zj a
theorem DW(h:Qh hs m):star SO (Qh<|hs.eraseIdx k) m:=by
 cases e:hs[k]? with
 | some p=>exact QP (λ_ _=>trivial) (Vi e h)
 | none=>
  have:hs.eraseIdx k=hs:=List.eraseIdx_of_length_le (by simpa using e);rw[this];exact⟨λ_=>none,m,λ_=>.inl rfl,λ_ _ e=>by simp at e,Mem.sub.refl _,trivial,h⟩
structure gO(w:World)(F:Fz)(m:Mem):Prop where
 dj:∀b,m (.blk b)=none∨F.mem b=none
 own:∀b c,m (.blk b)=some c->∃o,c= .obj o/\w.heap[b]? =some o
 gst:∀γ c,m (.gst γ)=some c->γ < F.gn/\c= .gh (F.gh γ)
 frz:∀b o,F.mem b=some o->w.heap[b]? =some o
 os:w.os=F.os
 tape:w.tape=F.tape
 out:w.output=F.out
def SH(w:By)(F:Fz)(H:HP):Prop:=∃m,H m/\gO w F m
theorem lt_of_heap(h:w.heap[b]? =some o):b < w.heap.size:=by
 rcases kn b w.heap.size with h' | h'
 ·exact h'
 ·rw[Array.getElem?_eq_none h'] at h;cases h
theorem gO.sub(h:gO w F m)(s:Mem.sub n m):gO w F n:=
 ⟨λb=>by
  rcases h.dj b with e | e
  ·cases a:n (.blk b) with
   | none=>exact .inl rfl
   | some c=>rw[s _ c a] at e;cases e
  ·exact .inr e,λb o e=>h.own b o<|s _ o e,λγ c e=>h.gst γ c<|s _ c e,h.frz,h.os,h.tape,h.out⟩
theorem gO.rJ(h:gO w F m)(e:m (.blk b)=some (.obj o)):w.heap[b]? =some o:=by
 obtain⟨_,a,c⟩:=h.own b _ e;cases a;exact c
theorem SH.mono{H':HP}(h:SH w F H)(k:∀m,H m->H' m):SH w F H' :=let⟨m,a,b⟩:=h;⟨m,k m a,b⟩
theorem SH.drop(h:SH w F (star p q)):SH w F q:=let⟨_,⟨_,a,_,_,c,_,d⟩,b⟩:=h;⟨a,d,b.sub c⟩
theorem SH.frozen(h:SH w F H)(e:F.mem b=some o):w.heap[b]? =some o:=let⟨_,_,k⟩:=h;k.frz b o e
theorem SH.owned(h:SH w F (star (pt b o) H)):w.heap[b]? =some o:=
 let⟨_,⟨_,_,_,a,_,c,_⟩,k⟩:=h
 let⟨_,e,h'⟩:=k.own b _<|a _ _ c
 by cases e;exact h'
theorem SH.drew(h:SH w F H)(n:Nat):SH {w with drawn:=n} F H:=let⟨m,a,k⟩:=h;⟨m,a,k.dj,k.own,k.gst,k.frz,k.os,k.tape,k.out⟩
theorem heap_alloc_old{x:Obj}(h:w.heap[b]? =some x):(w.alloc o).heap[b]? =some x:=by
 have:=lt_of_heap h;show(w.heap.push o)[b]? =_;rw[Array.getElem?_push,B1 eB];exact h
theorem heap_alloc_new(w:By)(o:Obj):(w.alloc o).heap[w.heap.size]? =some o:=by
 show(w.heap.push o)[w.heap.size]? =_;simp
theorem gO.fresh(h:gO w F m):m (.blk w.heap.size)=none/\F.mem w.heap.size=none:=by
 constructor
 ·cases e:m (.blk w.heap.size) with
  | none=>rfl
  | some o=>obtain⟨_,_,h'⟩:=h.own _ _ e;have:=lt_of_heap h';omega
 ·cases e:F.mem w.heap.size with
  | none=>rfl
  | some o=>have:=lt_of_heap<|h.frz _ _ e;omega
theorem C0{k:Key}{c:Cell}(h:m k=none)(a:H m):star (λm=>m k=some c) H (m.set k c):=by
 refine⟨Mem.set (λ_=>none) k c,m,?_,?_,?_,?_,a⟩
 ·intro b;by_cases e:b=k
  ·subst e;exact .inr h
  ·exact .inl<|by simp[Mem.set,e]
 ·intro b x e;by_cases d:b=k
  ·simpa[Mem.set,d] using e
  ·simp[Mem.set,d] at e
 ·intro b x e;by_cases d:b=k
  ·subst d;rw[h] at e;cases e
  ·simpa[Mem.set,d] using e
 ·simp[Mem.set]
theorem SH.alloc{w:By}{F:Fz}{H:HP}(h:SH w F H)(o:Obj):SH (w.alloc o) F (star (pt w.heap.size o) H):=by
 obtain⟨m,a,k⟩:=h;obtain⟨f,g⟩:=k.fresh;refine⟨m.set (.blk w.heap.size)<|.obj o,C0 f a,?_,?_,?_,?_,k.os,k.tape,k.out⟩
 ·intro b;by_cases e:b=w.heap.size
  ·subst e;exact .inr g
  ·rcases k.dj b with h | h
   ·exact .inl<|by simpa[Mem.set,e] using h
   ·exact .inr h
 ·intro b x e;by_cases d:b=w.heap.size
  ·subst d;simp[Mem.set] at e;subst e;exact⟨o,rfl,heap_alloc_new w o⟩
  ·simp[Mem.set,d] at e;obtain⟨o',i,j⟩:=k.own b x e;exact⟨o',i,heap_alloc_old j⟩
 ·intro γ c e;exact k.gst γ c<|by simpa[Mem.set] using e
 ·intro b x e;exact heap_alloc_old<|k.frz b x e
def Fz.rD(F:Fz):Fz:={F with gh:=λγ=>if γ=F.gn then[] else F.gh γ,gn:=F.gn+1}
theorem SH.sa(h:SH w F H):F<=F.rD/\SH w F.rD (star (yQ F.gn []) H):=by
 obtain⟨m,a,k⟩:=h
 have f:m (.gst F.gn)=none:=by
  cases e:m (.gst F.gn) with
  | none=>rfl
  | some c=>have:=(k.gst _ _ e).1;omega
 refine⟨⟨rfl,rfl,rfl,λ_ _ h=>h,λγ hγ=> ?_,Nat.le_succ _⟩,m.set (.gst F.gn)<|.gh [],C0 f a,?_,?_,?_,k.frz,k.os,k.tape,k.out⟩
 ·show F.gh γ <+:(if γ=F.gn then[] else F.gh γ);rw[B1 eB];exact oQ _
 ·intro b;rcases k.dj b with h | h
  ·exact .inl<|by simpa[Mem.set] using h
  ·exact .inr h
 ·intro b x e;exact k.own b x<|by simpa[Mem.set] using e
 ·intro γ c e;by_cases d:γ=F.gn
  ·subst d;simp[Mem.set] at e;subst e;exact⟨Nat.lt_succ_self _,by simp[Fz.rD]⟩
  ·have g:m (.gst γ)=some c:=by simpa[Mem.set,d] using e
   obtain⟨i,j⟩:=k.gst γ c g;exact⟨Nat.lt_succ_of_lt i,by simp[Fz.rD,d,j]⟩
def Fz.sx(F:Fz)(γ b:Nat):Fz:={F with gh:=λδ=>if δ=γ then F.gh γ++[b] else F.gh δ}
theorem SH.pA{γ:Nat}{l:Q0 Nat}(h:SH w F (star (yQ γ l) H)):γ < F.gn/\F.gh γ=l:=by
 obtain⟨m,⟨g,i,d,c,j,e,r⟩,k⟩:=h;obtain⟨f,a⟩:=k.gst γ _<|c _ _ e;simp only[Cell.gh.injEq] at a
 exact⟨f,a.symm⟩
theorem SH.sx{γ:Nat}{l:Q0 Nat}(h:SH w F (star (yQ γ l) H))(b:Nat):F<=F.sx γ b/\SH w (F.sx γ b) (star (yQ γ<|l++[b]) H):=by
 obtain⟨j,r⟩:=h.pA;obtain⟨m,⟨A,a,d,s,f,i,t⟩,k⟩:=h;have B:m (.gst γ)=some (.gh l):=s _ _ i;have u:a (.gst γ)=none:=d.c9 i;refine⟨⟨rfl,rfl,rfl,λ_ _ h=>h,λδ _=> ?_,S2 _⟩,a.set (.gst γ)<|.gh<|l++[b],C0 u t,?_,?_,?_,k.frz,k.os,k.tape,k.out⟩
 ·show F.gh δ <+:(if δ=γ then F.gh γ++[b] else F.gh δ);split
  ·rename_i e;subst e;exact List.prefix_append _ _
  ·exact oQ _
 ·intro b';rcases k.dj b' with h | h
  ·cases e:a (.blk b') with
   | none=>exact .inl (by simpa[Mem.set] using e)
   | some c=>rw[f _ _ e] at h;cases h
  ·exact .inr h
 ·intro b' x e;exact k.own b' x<|f _ _<|by simpa[Mem.set] using e
 ·intro δ c e;by_cases g:δ=γ
  ·subst g;simp[Mem.set] at e;subst e;exact⟨j,by simp[Fz.sx,r]⟩
  ·have v:a (.gst δ)=some c:=by simpa[Mem.set,g] using e
   obtain⟨y,z⟩:=k.gst δ c<|f _ _ v;exact⟨y,by simp[Fz.sx,g,z]⟩
def Fz.add(F:Fz)(b:Nat)(o:Obj):Fz:={F with mem:=Rx F.mem b o}
theorem Fz.pg(h:F.mem b=none):F<=F.add b o:=
 ⟨rfl,rfl,rfl,λk x e=>by
  show Rx F.mem b o k=some x;by_cases a:k=b
  ·subst a;rw[h] at e;cases e
  ·simpa[Rx,a] using e,λ_ _=>oQ _,S2 _⟩
theorem Fz.cv(F:Fz)(b:Nat)(o:Obj):(F.add b o).mem b=some o:=by simp[Fz.add,Rx]
theorem SH.freeze(h:SH w F (star (pt b o) H)):F<=F.add b o/\SH w (F.add b o) H:=by
 have i:=h.owned;obtain⟨m,⟨u,c,d,j,l,f,r⟩,k⟩:=h;have s:m (.blk b)=some (.obj o):=j _ _ f
 have t:F.mem b=none:=by
  rcases k.dj b with e | e
  ·rw[s] at e;cases e
  ·exact e
 have a:=k.sub l;refine⟨Fz.pg t,c,r,?_,a.own,a.gst,?_,k.os,k.tape,k.out⟩
 ·intro b';show c (.blk b')=none∨Rx F.mem b o b' =none;by_cases e:b' =b
  ·subst e;exact .inl<|d.c9 f
  ·rcases a.dj b' with h | h
   ·exact .inl h
   ·exact .inr<|by simpa[Rx,e] using h
 ·intro b' x e;change Rx F.mem b o b' =some x at e
  by_cases g:b' =b
  ·subst g;simp[Rx] at e;subst e;exact i
  ·simp[Rx,g] at e;exact k.frz b' x e
theorem SH.a6(h:SH w F H)(o:Obj):F<=F.add w.heap.size o/\SH (w.alloc o) (F.add w.heap.size o) H:=(h.alloc o).freeze
def put(w:By)(b:Nat)(o:Obj):By:={w with heap:=w.heap.setIfInBounds b o}
theorem Ai{x:Obj}(h:w.heap[b]? =some x):(put w b o).heap[b]? =some o:=by
 have:=lt_of_heap h;simp[put,this]
theorem SL(h:k≠b):(put w b o).heap[k]? =w.heap[k]? :=by
 simp[put,iu h]
theorem SH.put{o':Obj}(h:SH w F (star (pt b o) H)):SH (Dec.put w b o') F (star (pt b o') H):=by
 have l:=h.owned;obtain⟨m,⟨B,g,d,r,s,i,t⟩,k⟩:=h;have u:m (.blk b)=some (.obj o):=r _ _ i
 have j:F.mem b=none:=by
  rcases k.dj b with e | e
  ·rw[u] at e;cases e
  ·exact e
 have v:g (.blk b)=none:=d.c9 i;have f:=k.sub s;refine⟨g.set (.blk b)<|.obj o',C0 v t,?_,?_,?_,?_,k.os,k.tape,k.out⟩
 ·intro b';by_cases e:b' =b
  ·subst e;exact .inr j
  ·rcases f.dj b' with h | h
   ·exact .inl<|by simpa[Mem.set,e] using h
   ·exact .inr h
 ·intro b' x e;by_cases a:b' =b
  ·subst a;simp[Mem.set] at e;subst e;exact⟨o',rfl,Ai l⟩
  ·simp[Mem.set,a] at e
   obtain⟨y,z,A⟩:=f.own b' x e;exact⟨y,z,by rw[SL a];exact A⟩
 ·intro γ c e;exact f.gst γ c<|by simpa[Mem.set] using e
 ·intro b' x e;have:b'≠b:=λa=>by subst a;rw[j] at e;cases e
  rw[SL this];exact k.frz b' x e
theorem SH.pull(a:hs[k]? =some p)(h:SH w F (Qh hs)):SH w F (star p<|Qh<|hs.eraseIdx k):=h.mono λ_=>Vi a
theorem SH.push(a:hs[k]? =some q)(h:SH w F (star p<|Qh<|hs.eraseIdx k)):SH w F (Qh<|hs.set k p):=h.mono λ_=>Ff a
theorem SH.cf(a:hs[k]? =some (pt b o))(h:SH w F (Qh hs)):w.heap[b]? =some o:=(h.pull a).owned
theorem SH.putAt(a:hs[k]? =some (pt b o))(h:SH w F (Qh hs))(o' :Obj):SH (Dec.put w b o') F (Qh<|hs.set k<|pt b o'):=SH.push a ((h.pull a).put)
theorem SH.pk(a:hs[k]? =some (pt b o))(h:SH w F (Qh hs)):F<=F.add b o/\SH w (F.add b o) (Qh<|hs.eraseIdx k):=(h.pull a).freeze
theorem SH.sD(k:Nat)(h:SH w F (Qh hs)):SH w F (Qh<|hs.eraseIdx k):=(h.mono λ_=>DW (k:=k)).drop
theorem SH.only(a:hs[k]? =some p)(h:SH w F (Qh hs)):SH w F p:=by
 obtain⟨m,c,s⟩:=h;obtain⟨e,i,d,f,j,g,_⟩:=Vi a c;exact⟨e,g,s.sub f⟩
theorem SH.one(h:SH w F p):SH w F (Qh [p]):=h.mono λm a=>⟨m,λ_=>none,λ_=>.inr rfl,Mem.sub.refl _,λ_ _ e=>by simp at e,a,trivial⟩
theorem SH.size_le{w':By}{f:Fz}{H' :HP}(h' :SH w' f H')(a:∀b o,w.heap[b]? =some o->F.mem b=some o)(le:F<=f):w.heap.size<=w'.heap.size/\∀k,k < w.heap.size->w'.heap[k]? =w.heap[k]? :=by
 have key:∀k,k < w.heap.size->w'.heap[k]? =w.heap[k]? :=λk g=>by
  have e:w.heap[k]? =some w.heap[k]:=by simp[g]
  rw[e];exact h'.frozen<|le.mem _ _<|a _ _ e
 refine⟨?_,key⟩;rcases kn w'.heap.size w.heap.size with c | d
 ·have e:=key w'.heap.size c;have h:w.heap[w'.heap.size]? =some w.heap[w'.heap.size]:=by simp[c]
  rw[h] at e
  have:=lt_of_heap e;omega
 ·exact d
end
section
variable{Q:hP->Act->By->Prop}{S:Q0 (Nat×UV)}{β σ α γ:Type}{P:B3}{D:Q0 AC}{O:K1 Nat}{w:By}{n id:Nat}{a:Act}{K K':Act->By->Prop}{c x y:la}{F:Fz}{hs:Q0 HP}{args:Q0 UV}{eG:So Nm}{l:Q0 Nm}{m:K1 β}{o:Nm}{f:Rw}
variable{O:K1 Nat}
def K4:Q0 (Nat×UV)->Nat->K1 UV
 | [],_=>none
 | (k,v)::S,i=>match Nat.beq k i with
  | true=>some v
  | false=>K4 S i
def Sl(n:Nat)(D:Q0 AC)(S:Q0 (Nat×UV))(a:Act):Prop:=a.tmps.size=n/\a.defers=D/\∀i v,K4 S i=some v->a.tmps.getD i undef=v
def Hd(n:Nat)(D:Q0 AC)(S:Q0 (Nat×UV))(F:Fz)(hs:Q0 HP)(a:Act)(w:By):Prop:=Sl n D S a/\SH w F (Qh hs)
def QQ(S:Q0 (Nat×UV)):L5->K1 UV
 | .tmp t=>K4 S t
 | .const v=>some v
 | .global g=>some (.pointer<|some ⟨g,0,none⟩)
 | .func f=>some<|.func (.func f) #[] #[]
theorem Sl.eval(h:Sl n D S a){o:L5}{v:UV}(e:QQ S o=some v):a.eval o=v:=by
 cases o with
 | tmp t=>exact h.2.2 t v e
 | const x=>exact Tc e
 | global g=>exact Tc e
 | func f=>exact Tc e
theorem Sl.put(h:Sl n D S a){d:Nat}(p:Nat.blt d n=true)(v:UV):Sl n D ((d,v)::S) (a.put (some d) v):=by
 have g:d < n:=A4 p;obtain⟨k,q,r⟩:=h;refine⟨by simp[Act.put,k],by simp[Act.put,q],λi u e=> ?_⟩;simp only[K4] at e
 cases b:Nat.beq d i with
 | true=>
  rw[b] at e
  have:d=i:=j0 b;subst this;simp only[W1] at e
  subst e;simp[Act.put,k,g]
 | false=>
  rw[b] at e
  have j:d≠i:=λhe=>by subst he;simp at b
  have:=r i u e;simp only[Act.put,kx] at this ⊢
  rw[iM j];exact this
theorem Sl.cz(h:Sl n D S a)(v:UV):Sl n D S (a.put none v):=h
def Sub(S' S:Q0 (Nat×UV)):Prop:=∀i v,K4 S' i=some v->K4 S i=some v
theorem Sub.refl(S:Q0 (Nat×UV)):Sub S S:=λ_ _ h=>h
theorem Sub.nil(S:Q0 (Nat×UV)):Sub [] S:=λ_ _ h=>by simp[K4] at h
theorem Sub.cons{S T:Q0 (Nat×UV)}{k:Nat}{v:UV}(h:K4 S k=some v)(t:Sub T S):Sub ((k,v)::T) S:=λi u e=>by
 simp only[K4] at e
 cases b:Nat.beq k i with
 | true=>
  rw[b] at e
  have:k=i:=j0 b;subst this;simp only[W1] at e
  subst e;exact h
 | false=>rw[b] at e;exact t i u e
theorem Sl.sub{S':Q0 (Nat×UV)}(h:Sl n D S a)(s:Sub S' S):Sl n D S' a:=⟨h.1,h.2.1,λi v e=>h.2.2 i v<|s i v e⟩
def TF(k:Nat):Q0 (Nat×UV)->Bool
 | []=>false
 | (j,_)::S=>Nat.beq j k||TF k S
def fresh(S:Q0 (Nat×UV)):Q0 (Nat×UV)->Bool
 | []=>true
 | (j,_)::T=> !TF j S&&fresh S T
theorem Ft:∀{S:Q0 (Nat×UV)} {i:Nat} {v:UV},K4 S i=some v->TF i S=true
 | [],_,_,h=>by simp[K4] at h
 | (k,u)::S,i,v,h=>by
  simp only[K4] at h
  simp only[TF];cases b:Nat.beq k i with
  | true=>rfl
  | false=>rw[b] at h;simp[Ft h]
theorem Dc:∀{T S:Q0 (Nat×UV)} {i:Nat} {v:UV},fresh S T=true->K4 S i=some v->K4 (T++S) i=some v
 | [],_,_,_,_,h=>h
 | (j,u)::T,S,i,v,b,h=>by
  simp only[fresh,Do,tb] at b
  simp only[tO,K4];cases d:Nat.beq j i with
  | true=>
   have:j=i:=j0 d;subst this;rw[Ft h] at b;cases b.1
  | false=>exact Dc b.2 h
inductive Kt where
 | code (c:Code)
 | block (id:Nat)
variable{ks:Q0 Kt}
def Ry:K1 Nat->Fence
 | none=>Fence.wide
 | some l=>Fence.wide.inRound l
theorem yT(O:K1 Nat):(Ry O).round=O:=by cases O<;>rfl
theorem B7(O:K1 Nat)(f:Rw):(Ry O).fn f:=by cases O<;>trivial
theorem BS(O:K1 Nat):(Ry O).depth=none:=by cases O<;>rfl
theorem BR(O:K1 Nat)(n:Nat):(Ry O).room n:=λd b=>by rw[BS] at b;cases b
theorem Ep{args:So UV}{R:o5->By->Prop}:CallsIn (Ry O) n P f args w R↔Calls P f args w R:=by
 cases O with
 | none=>exact hQ
 | some l=>exact hQ
def He:Op->Bool
 | .defer _=>false
 | _=>true
theorem zz{o:Op}(h:He o=true):∀c,o≠.defer c:=λc e=>by rw[e] at h;cases h
def yC(O:K1 Nat)(P:B3)(o:Nm)(a:Act)(w:By)(K:Act->By->Prop)(Q:hP->Act->By->Prop):Prop:=(O=none∨He o.op=true)/\o.uponIn (Ry O) 0 P a K Q ((execOp a.eval o).run P w)
theorem yC.wpIn(h:yC O P o a w K Q):o.wpIn (Ry O) 0 P a w K Q:=by
 refine⟨λf _=>B7 O f,?_⟩;rw[yT];obtain⟨b,d⟩:=h;rcases b with rfl | b
 ·exact d
 ·rw[Oper.semAt_eq O _ o<|zz b];exact d
theorem Ol{s:hP->Act->By->Prop}(h:∀u w,K (a.put o.dst u) w->K' (a.put o.dst u) w)
  (t:∀d w,K ({a with defers:=d::a.defers}.put o.dst undef) w->K' ({a with defers:=d::a.defers}.put o.dst undef) w) (i:∀e a w,e≠.normal->Q e a w->s e a w)
  (z:yC O P o a w K Q):yC O P o a w K' s:=by
 obtain⟨A,b⟩:=z;refine⟨A,?_⟩;generalize(execOp a.eval o).run P w=r at*
 unfold Oper.uponIn at*
 split at b
 all_goals first
  | exact h _ _ b
  | exact t _ _ b
  | exact b.elim
  | exact i _ _ _ eF b
  | (refine⟨b.1,CallsIn.mono b.2 ?_⟩;rintro(v | c | _) j g<;>first | exact h _ _ g | exact i _ _ _ eF g | (obtain⟨k,p,q⟩:=g;exact⟨k,p,i _ _ _ eF q⟩))
  | (refine⟨b.1,RowsIn.mono b.2 ?_⟩;intro v j g;exact h _ _ g)
  | (refine⟨b.1,RoundIn.mono b.2 ?_⟩;rintro(v | c | _) j g<;>first | exact h _ _ g | exact i _ _ _ eF g | (obtain⟨k,p,q⟩:=g;exact⟨k,p,i _ _ _ eF q⟩))
theorem R9{b:hP->Act->By->Prop}(h:∀a w,K a w->K' a w)(d:∀e a w,e≠.normal->Q e a w->b e a w)
 (g:yC O P o a w K Q):yC O P o a w K' b:=Ol (λ_ _=>h _ _) (λ_ _=>h _ _) d g
theorem SB(h:∀a w,K a w->K' a w)(b:yC O P o a w K Q):yC O P o a w K' Q:=R9 h (λ_ _ _ _ d=>d) b
def Xl(O:K1 Nat)(P:B3)(eG:So Nm)(Q:hP->Act->By->Prop):Q0 Nm->Act->By->Prop
 | [],a,w=>Q .normal a w
 | o::rest,a,w=>if Region.wanted o (yielded eG a.tmps) then yC O P o a w (Xl O P eG Q rest) Q else Xl O P eG Q rest (a.put o.dst undef) w
theorem Xl.wpIn:∀{l:Q0 Nm} {a:Act} {w:By},Xl O P eG Q l a w->wpListIn (Ry O) 0 P eG Q l a w
 | [],_,_,h=>h
 | o::rest,a,w,h=>by
  unfold Xl at h
  unfold wpListIn;split
  ·rename_i b;rw[BY b] at h
   exact(SB (λa w h=>Xl.wpIn h) h).wpIn
  ·rename_i b;rw[B1 b] at h
   exact⟨λf _=>B7 O f,Xl.wpIn h⟩
def Zw(O:K1 Nat)(P:B3):Q0 Kt->(hP->Act->By->Prop)->hP->Act->By->Prop
 | [],Q=>Q
 | .code c::ks,Q=>Exit.then (c.wpIn (Ry O) 0 P<|Zw O P ks Q) (Zw O P ks Q)
 | .block id::ks,Q=>Exit.inBlock id<|Zw O P ks Q
def CZ(id:Nat):Q0 Kt->K1 (Q0 Kt)
 | []=>none
 | .code _::ks=>CZ id ks
 | .block j::ks=>match Nat.beq j id with
  | true=>some ks
  | false=>CZ id ks
theorem ZE:∀{ks b:Q0 Kt},CZ id ks=some b->Zw O P b Q .normal a w->Zw O P ks Q (.exit id) a w
 | [],_,h,_=>by simp[CZ] at h
 | .code c::ks,b,h,k=>by
  simp only[CZ] at h
  show Zw O P ks Q (.exit id) a w;exact ZE h k
 | .block j::ks,b,h,k=>by
  simp only[CZ] at h
  show(if id=j then Zw O P ks Q .normal a w else Zw O P ks Q (.exit id) a w);cases d:Nat.beq j id with
  | true=>
   rw[d] at h
   have:j=id:=j0 d;simp only[W1] at h
   subst h;rw[BY this.symm];exact k
  | false=>
   rw[d] at h
   have e:id≠j:=λhe=>by subst he;simp at d
   rw[B1 e];exact ZE h k
theorem TE:∀{ks:Q0 Kt},CZ id ks=none->Q (.exit id) a w->Zw O P ks Q (.exit id) a w
 | [],_,k=>k
 | .code c::ks,h,k=>by
  simp only[CZ] at h
  show Zw O P ks Q (.exit id) a w;exact TE h k
 | .block j::ks,h,k=>by
  simp only[CZ] at h
  show(if id=j then Zw O P ks Q .normal a w else Zw O P ks Q (.exit id) a w);cases b:Nat.beq j id with
  | true=>rw[b] at h;simp at h
  | false=>
   rw[b] at h
   have d:id≠j:=λhe=>by subst he;simp at b
   rw[B1 d];exact TE h k
theorem JT:∀{ks:Q0 Kt},Q .ret a w->Zw O P ks Q .ret a w
 | [],k=>k
 | .code c::ks,k=>by show Zw O P ks Q .ret a w;exact JT k
 | .block j::ks,k=>by show Zw O P ks Q .ret a w;exact JT k
theorem JB{c:Q0 PanicEntry}:∀{ks:Q0 Kt},Q (.panic c) a w->Zw O P ks Q (.panic c) a w
 | [],k=>k
 | .code c::ks,k=>by show Zw O P ks Q (.panic _) a w;exact JB k
 | .block j::ks,k=>by show Zw O P ks Q (.panic _) a w;exact JB k
def wpS(P:B3)(eG:So Nm)(w:By)(K:Act->Prop):Q0 Nm->Act->Prop
 | [],a=>K a
 | o::rest,a=>if Region.wanted o (yielded eG a.tmps) then ∃v,(execOp a.eval o).run P w= .ok (.value v) w/\wpS P eG w K rest (a.put o.dst v) else wpS P eG w K rest (a.put o.dst undef)
inductive Md where
 | f (O:Option Nat)
 | s
instance:Coe (K1 Nat) Md:=⟨.f⟩
variable{μ:Md}
def fY(μ:Md)(P:B3)(eG:So Nm)(ks:Q0 Kt)(Q:hP->Act->By->Prop)(l:Q0 Nm)(a:Act)(w:By):Prop:=match μ with
 | .f O=>Xl O P eG (Zw O P ks Q) l a w
 | .s=>wpS P eG w (λb=>Zw none P ks Q .normal b w) l a
inductive Pt where
 | L (eG:Array Oper) (l:List Oper) (ks:List Kt)
 | C (c:Code) (ks:List Kt)
 | E (ks:List Kt)
structure Gp where
 u:Md
 P:Program
 Q:Exit->Act->World->Prop
 p:Pt
variable{g:Gp}
def Md.k:Md->K1 Nat
 | .f O=>O
 | .s=>none
def Gp.W(g:Gp):Act->By->Prop:=match g.p with
 | .L eG l ks=>fY g.u g.P eG ks g.Q l
 | .C c ks=>c.wpIn (Ry g.u.k) 0 g.P (Zw g.u.k g.P ks g.Q)
 | .E ks=>Zw g.u.k g.P ks g.Q .normal
def GG(g:Gp)(A:Act->By->Prop)(m:K1 β)(r:β):Prop:=m=some r->∀a w,A a w->g.W a w
theorem fg(h:Xl O P eG (Zw O P ks Q) l a w):(Gp.mk (.f O) P Q<|.L eG l ks).W a w:=h
abbrev GL(μ:Md)(P:B3)(eG:So Nm)(l:Q0 Nm)(ks:Q0 Kt)(Q:hP->Act->By->Prop)(A:Act->By->Prop)(m:K1 β)(r:β):Prop:=GG ⟨μ,P,Q,.L eG l ks⟩ A m r
abbrev GC(O:K1 Nat)(P:B3)(c:la)(ks:Q0 Kt)(Q:hP->Act->By->Prop)(A:Act->By->Prop)(m:K1 β)(r:β):Prop:=GG ⟨.f O,P,Q,.C c ks⟩ A m r
abbrev GE(O:K1 Nat)(P:B3)(ks:Q0 Kt)(Q:hP->Act->By->Prop)(A:Act->By->Prop)(m:K1 β)(r:β):Prop:=GG ⟨.f O,P,Q,.E ks⟩ A m r
section
variable{β:Type}{P:B3}{eG:So Nm}{l rest:Q0 Nm}{ks:Q0 Kt}{Q:hP->Act->By->Prop}{A A' :Act->By->Prop}{m:K1 β}{r:β}
theorem GG.seq(h:GC O P x (.code y::ks) Q A m r):GC O P (.seq x y) ks Q A m r:=λb a w d=>wpIn_seq<|h b a w d
theorem GG.skip(h:GE O P ks Q A m r):GC O P .skip ks Q A m r:=λb a w d=>wpIn_skip<|h b a w d
theorem GG.cO(b:CZ id ks=none)(h:m=some r->∀a w,A a w->Q (.exit id) a w):GC O P (.exit id) ks Q A m r:=λd a w e=>wpIn_exit<|TE b<|h d a w e
theorem GG.cw(h:m=some r->∀a w,A a w->Q .ret a w):GC O P .ret ks Q A m r:=λb a w d=>wpIn_ret<|JT<|h b a w d
theorem GG.code(h:GC O P c ks Q A m r):GE O P (.code c::ks) Q A m r:=h
theorem GG.cK(h:m=some r->∀a w,A a w->Q .normal a w):GE O P [] Q A m r:=h
theorem GG.region(h:GL O P l.toArray l ks Q A m r):GC O P (.region id l.toArray false) ks Q A m r:=λb a w d=>wpIn_region_lit<|Xl.wpIn<|h b a w d
theorem GG.cond{S:Q0 (Nat×UV)}{n:Nat}{D:Q0 AC}{F:Fz}{hs:Q0 HP}{c:L5}{x y:la}{b:Bool}{j k:K1 β}(e:QQ S c=some (.bool b))
  (p:b=true->GC O P x ks Q (Hd n D S F hs) j r) (q:b=false->GC O P y ks Q (Hd n D S F hs) k r):GC O P (.cond c x y) ks Q (Hd n D S F hs) (if b then j else k) r:=by
 intro h a w i;cases d:b with
 | true=>rw[d] at e;rw[d,BY rfl] at h;exact wpIn_cond_true (i.1.eval e) (p d h a w i)
 | false=>rw[d] at e;rw[d,B1 eF] at h;exact wpIn_cond_false (i.1.eval e)<|q d h a w i
theorem GG.sR{c:L5}(d:QQ S c=some (.bool true))
  (e:GC O P x ks Q (Hd n D S F hs) m r):GC O P (.cond c x y) ks Q (Hd n D S F hs) m r:=
 λh a w b=>wpIn_cond_true (b.1.eval d)<|e h a w b
theorem GG.sF{c:L5}(d:QQ S c=some (.bool false))
  (e:GC O P y ks Q (Hd n D S F hs) m r):GC O P (.cond c x y) ks Q (Hd n D S F hs) m r:=
 λh a w b=>wpIn_cond_false (b.1.eval d)<|e h a w b
theorem GG.a7(h:∀a w,A a w->A' a w)(k:GG g A' m r):GG g A m r:=by
 exact λb a w d=>k b a w<|h a w d
section
variable{S S' :Q0 (Nat×UV)}{n:Nat}{D:Q0 AC}{F F' :Fz}{hs hs' :Q0 HP}
theorem GG.keep(s:Sub S' S)(k:GG g (Hd n D S' F hs) m r):GG g (Hd n D S F hs) m r:=GG.a7 (λ_ _ h=>⟨h.1.sub s,h.2⟩) k
theorem GG.drop(i:Nat)(k:GG g (Hd n D S F<|hs.eraseIdx i) m r):GG g (Hd n D S F hs) m r:=by
 exact GG.a7 (λ_ _ h=>⟨h.1,h.2.sD i⟩) k
theorem GG.freeze{b:Nat}{o:Obj}(i:Nat)(e:hs[i]? =some (pt b o))(k:∀F',F<=F'->F'.mem b=some o->GG g (Hd n D S F'<|hs.eraseIdx i) m r):GG g (Hd n D S F hs) m r:=by
 exact λh a w d=>by
  obtain⟨j,p⟩:=SH.pk e d.2;exact k _ j (Fz.cv F b o) h a w ⟨d.1,p⟩
end
def QS(x:α)(f:α->γ):γ:=f x
theorem GG.cH{x:α}{f:α->K1 β}(h:∀y,y=x->GG g A (f y) r):GG g A (QS x f) r:=by
 exact h x rfl
theorem GG.bind{g:Gp}{α:Type}{e:K1 α}{f:α->K1 β}(h:∀y,e=some y->GG g A (f y) r):GG g A (e.bind f) r:=by
 exact λb=>by
  cases e with
  | none=>simp at b
  | some y=>exact h y rfl b
end
inductive UQ(σ β:Type) where
 | next(s:σ)
 | done (b:β)
variable{body:σ->K1 (UQ σ β)}
def Hw(body:σ->K1 (UQ σ β)):Nat->σ->K1 β
 | 0,_=>none
 | n+1,s=>match body s with
  | none=>none
  | some (.done b)=>some b
  | some (.next d)=>Hw body n d
open Classical in
def ZU(body:σ->K1 (UQ σ β))(s:σ):K1 β:=if h:∃b n,Hw body n s=some b then some h.choose else none
theorem TA:∀{n k:Nat} {s:σ} {b:β},n<=k->Hw body n s=some b->Hw body k s=some b
 | 0,_,_,_,_,h=>by simp[Hw] at h
 | n+1,0,_,_,le,_=>by omega
 | n+1,k+1,s,b,le,h=>by
  simp only[Hw] at h ⊢
  cases d:body s with
  | none=>rw[d] at h;cases h
  | some c=>
   rw[d] at h
   cases c with
   | done x=>exact h
   | next e=>exact TA (Nat.le_of_succ_le_succ le) h
theorem TB{s:σ}{b:β}(h:Hw body n s=some b):ZU body s=some b:=by
 have he:∃b n,Hw body n s=some b:=⟨b,n,h⟩;unfold ZU;rw[dif_pos he];obtain⟨k,e⟩:=he.choose_spec;have i:=TA (Nat.le_max_left n k) h;have d:=TA (Nat.le_max_right n k) e;rw[i] at d
 exact d.symm
theorem Bw{s:σ}{b:β}(h:ZU body s=some b):∃n,Hw body n s=some b:=by
 unfold ZU at h
 split at h
 ·rename_i he;simp only[W1] at h
  obtain⟨n,d⟩:=he.choose_spec;exact⟨n,h▸d⟩
 ·cases h
theorem ZJ(body:σ->K1 (UQ σ β))(s:σ):ZU body s=match body s with
  | none=>none
  | some (.done b)=>some b
  | some (.next e)=>ZU body e:=by
 cases i:body s with
 | none=>
  cases h:ZU body s with
  | none=>rfl
  | some b=>
   obtain⟨n,d⟩:=Bw h;cases n with
   | zero=>simp[Hw] at d
   | succ n=>simp[Hw,i] at d
 | some c=>
  cases c with
  | done b=>exact TB (n:=1) (by simp[Hw,i])
  | next e=>
   show ZU body s=ZU body e;cases h:ZU body e with
   | some b=>
    obtain⟨n,d⟩:=Bw h;exact TB (n:=n+1) (by simp only[Hw,i];exact d)
   | none=>
    cases j:ZU body s with
    | none=>rfl
    | some b=>
     obtain⟨n,d⟩:=Bw j;cases n with
     | zero=>simp[Hw] at d
     | succ n=>
      simp only[Hw,i] at d
      rw[TB d] at h;cases h
def Q7(I:σ->Act->By->Prop)(Dn:β->hP->Act->By->Prop)(c:UQ σ β):hP->Act->By->Prop:=λe a w=>
 match c with
 | .next s=>e= .normal/\I s a w
 | .done b=>e≠.normal/\Dn b e a w
theorem Ie{I:σ->Act->By->Prop}{Dn:β->hP->Act->By->Prop}{b:β}
  (round:∀s d,body s=some d->∀a w,I s a w->c.wpIn (Ry O) 0 P (Q7 I Dn d) a w):∀(n:Nat) (s:σ),Hw body n s=some b->∀a w,I s a w->
   ∀(fr:Frame) (k:Q0 Item) (cs:Q0 Frame),fr.roundOf=(Ry O).round->∃e u w',Dn b e u w'/\ArrivesIn (Machine.fenced P<|Ry O) P (lone (fr.atR a<|.code c:: .inLoop c::k) cs w) fr k cs e u w'
 | 0,_,h,_,_,_,_,_,_,_=>by simp[Hw] at h
 | n+1,s,h,a,w,v,fr,k,cs,j=>by
  simp only[Hw] at h
  cases q:body s with
  | none=>rw[q] at h;cases h
  | some d=>
   rw[q] at h
   obtain⟨e,a₁,w₁,p,i⟩:=round s d q a w v fr (.inLoop c::k) cs j (B7 O _)<|BR O _;cases d with
   | next z=>
    obtain⟨rfl,r⟩:=p;obtain⟨e₂,a₂,w₂,hq₂,harr₂⟩:=Ie round n z h a₁ w₁ r fr k cs j;exact⟨e₂,a₂,w₂,hq₂,.of_steps (td i<|.one (oM (n:=0) (B7 O _) (BR O _) rfl) ir) harr₂⟩
   | done b' =>
    obtain⟨t,p⟩:=p;simp only[W1] at h
    subst h;refine⟨e,a₁,w₁,p,?_⟩;exact .pass (x:=.inLoop c) rfl (λ_ _=>.inl t) i
section
variable{β:Type}{P:B3}{ks:Q0 Kt}{Q:hP->Act->By->Prop}{A:Act->By->Prop}{r:β}
theorem GG.loop{body:σ->K1 (UQ σ γ)}{h:σ}{f:γ->K1 β}(I:σ->Act->By->Prop)(Dn:γ->hP->Act->By->Prop)
  (v:∀a w,A a w->I h a w)
  (round:∀s d,GC O P c [] (Q7 I Dn d) (I s) (body s) d)
  (after:∀b,ZU body h=some b->f b=some r->∀e a w,Dn b e a w->Zw O P ks Q e a w):GC O P (.loop c) ks Q A ((ZU body h).bind f) r:=by
 intro j a w z;cases p:ZU body h with
 | none=>rw[p] at j;cases j
 | some b=>
  rw[p] at j
  obtain⟨n,B⟩:=Bw p;intro fr k cs q C E;obtain⟨e,u,w',G,i⟩:=Ie (Dn:=Dn) (λs d hs a w t=>round s d hs a w t) n h B a w (v a w z) fr k cs q;exact⟨e,u,w',after b p j e u w' G,.of_steps (.one (oM C E rfl) stepR_loop) i⟩
theorem GG.join{i:K1 (UQ σ γ)}{f:UQ σ γ->K1 β}(I:σ->Act->By->Prop)(Dn:γ->hP->Act->By->Prop)
  (h:∀d,GC O P c [] (Q7 I Dn d) A i d)
  (next:∀s,i=some (.next s)->GE O P ks Q (I s) (f<|.next s) r)
  (done:∀b,i=some (.done b)->f (.done b)=some r->∀e a w,Dn b e a w->Zw O P ks Q e a w):GC O P c ks Q A (i.bind f) r:=by
 intro j a w t;cases k:i with
 | none=>rw[k] at j;cases j
 | some d=>
  rw[k] at j
  refine oD (h d k a w t) λe q w' p=> ?_;cases d with
  | next s=>obtain⟨rfl,p⟩:=p;exact next s k j q w' p
  | done b=>exact done b k j e q w' p.2
theorem GG.cr{b:K1 σ}{f:σ->K1 β}(I:σ->Act->By->Prop)
  (h:∀s,GC O P c [] (λe a w=>e= .normal/\I s a w) A b s)
  (next:∀s,b=some s->GE O P ks Q (I s) (f s) r):GC O P c ks Q A (b.bind f) r:=by
 intro d a w k;cases i:b with
 | none=>rw[i] at d;cases d
 | some s=>
  rw[i] at d
  refine oD (h s i a w k) λe p w' j=> ?_;obtain⟨rfl,j⟩:=j;exact next s i d p w' j
end
def CT(P:B3)(f:Rw)(args:So UV)(F:Fz)(H:HP)(m:K1 β)(ρ:β->Fz->UV->Prop)(H' :β->Fz->UV->HP):Prop:=∀r,m=some r->∀w R,SH w F (star H R)->Calls P f args w (λe w' =>∃b v,F<=b/\e= .returned v/\ρ r b v/\SH w' b (star (H' r b v) R))
def KJ(P:B3)(f:Rw)(args:So UV)(F:Fz)(m:K1 β)(ρ:β->Fz->UV->Prop):Prop:=∀r,m=some r->∀w R,SH w F R->Calls P f args w (λe w' =>∃b v,F<=b/\e= .returned v/\ρ r b v/\SH w' b R)
def D2:Nat->Q0 UV->Q0 (Nat×UV)
 | _,[]=>[]
 | i,v::vs=>(i,v)::D2 (i+1) vs
theorem EW:∀{vs:Q0 UV} {i j:Nat} {v:UV},K4 (D2 i vs) j=some v->i<=j/\vs[j - i]? =some v
 | [],_,_,_,h=>by simp[D2,K4] at h
 | x::vs,i,j,v,h=>by
  simp only[D2,K4] at h
  cases b:Nat.beq i j with
  | true=>
   rw[b] at h
   have:i=j:=j0 b;subst this;exact⟨S2 _,by simpa using h⟩
  | false=>
   rw[b] at h
   obtain⟨e,d⟩:=EW h;refine⟨by omega,?_⟩;rw[show j - i=(j - (i+1))+1 by omega];simpa using d
def O6(P:B3)(fn:lX)(F:Fz)(R:HP)(ρ:β->Fz->UV->Prop)(r:β):hP->Act->By->Prop:=bodyPost P fn (λe w' =>∃b v,F<=b/\e= .returned v/\ρ r b v/\SH w' b R)
def O7(P:B3)(fn:lX)(F:Fz)(R:HP)(ρ:β->Fz->UV->Prop)(H' :β->Fz->UV->HP)(r:β):hP->Act->By->Prop:=bodyPost P fn (λe w' =>∃b v,F<=b/\e= .returned v/\ρ r b v/\SH w' b (star (H' r b v) R))
theorem WA(d:Nat.ble args.length n=true):Sl n [] (D2 0 args) {tmps:=args.toArray++Array.replicate (n - args.toArray.size) undef,defers:=[]}:=by
 have j:args.length<=n:=A4 d;refine⟨by simp;omega,rfl,λi v e=> ?_⟩;obtain⟨_,b⟩:=EW e;simp only[oU] at b
 have hi:i < args.length:=by
  rcases kn i args.length with h | h
  ·exact h
  ·rw[s8 h] at b;cases b
 simp only[kx];rw[Array.getElem?_append_left<|by simpa using hi];simp[b]
theorem KJ.enter{fn:lX}{ρ:β->Fz->UV->Prop}
  (b:P.funcs[f]? =some fn) (d:fn.body=some c) (e:fn.ntmps=n) (h:Nat.ble args.length n=true)
  (k:∀r R,GC none P c [] (O6 P fn F R ρ r) (Hd n [] (D2 0 args) F [R]) m r):KJ P f args.toArray F m ρ:=by
 intro r i w R j;refine oN b d<|oo.1<|k r R i _ w ⟨?_,j.one⟩;rw[e];exact WA h
theorem SH.two{p q:HP}(h:SH w F (star p q)):SH w F (Qh [p,q]):=h.mono λm b=>QR (λd i=>⟨d,λ_=>none,λ_=>.inr rfl,Mem.sub.refl _,λ_ _ e=>by simp at e,i,trivial⟩) b
theorem CT.enter{fn:lX}{H:HP}{ρ:β->Fz->UV->Prop}{H' :β->Fz->UV->HP}
  (b:P.funcs[f]? =some fn) (d:fn.body=some c) (e:fn.ntmps=n) (h:Nat.ble args.length n=true)
  (k:∀r R,GC none P c [] (O7 P fn F R ρ H' r) (Hd n [] (D2 0 args) F [H,R]) m r):CT P f args.toArray F H m ρ H' :=by
 intro r i w R j;refine oN b d<|oo.1<|k r R i _ w ⟨?_,j.two⟩;rw[e];exact WA h
end
section
variable{after:So lY}{cs:So UV}{pos:String}{len j z e t d i:Nat}{ty:S1}{fs:So Field}{T:So S1}{v:UV}{o:Nm}{b:Bool}{a:Act}{op:Op}
variable{O:K1 Nat}{μ:Md}
theorem YG{P:B3}{t:S1}{d:oh}(h:P.underlying t=some d)(w:By):(underlying t).run P w= .ok d w:=by
 simp[underlying,h]
section
variable{β:Type}{P:B3}{eG:So Nm}{rest:Q0 Nm}{ks:Q0 Kt}{Q:hP->Act->By->Prop}{A:Act->By->Prop}{m:K1 β}{r:β}
theorem GG.step(f:o.guard=none)(c:O=none∨He o.op=true)(h:m=some r->∀a w,A a w->∃v w',(execOp a.eval o).run P w= .ok (.value v) w'/\Xl O P eG (Zw O P ks Q) rest (a.put o.dst v) w'):GL O P eG (o::rest) ks Q A m r:=by
 intro g a w k;obtain⟨v,w',l,n⟩:=h g a w k;show Xl O P eG _ (o::rest) a w;unfold Xl;rw[BY<|by simp[Region.wanted,f]];refine⟨c,?_⟩;rw[l];exact n
theorem GG.ab(f:o.guard=none)(c:O=none∨He o.op=true)(h:m=some r->∀a w,A a w->∃w',(execOp a.eval o).run P w= .ok .skip w'/\Xl O P eG (Zw O P ks Q) rest (a.put o.dst undef) w'):GL O P eG (o::rest) ks Q A m r:=by
 intro g a w k;obtain⟨w',l,n⟩:=h g a w k;show Xl O P eG _ (o::rest) a w;unfold Xl;rw[BY<|by simp[Region.wanted,f]];refine⟨c,?_⟩;rw[l];exact n
theorem GG.sg(c:o.guard=none)(l:He o.op=true)(h:m=some r->∀a w,A a w->∃v,(execOp a.eval o).run P w= .ok (.value v) w/\fY μ P eG ks Q rest (a.put o.dst v) w):GL μ P eG (o::rest) ks Q A m r:=by
 intro n a w p;obtain⟨v,g,k⟩:=h n a w p;cases μ with
 | f O=>exact GG.step (A:=λq w' =>q=a/\w' =w) (m:=some r) c (.inr l) (λ_ _ _ ⟨h,h'⟩=>by subst h h';exact⟨v,_,g,k⟩) rfl a w ⟨rfl,rfl⟩
 | s=>
  show wpS P eG w _ (o::rest) a;unfold wpS;rw[BY<|by simp[Region.wanted,c]];exact⟨v,g,k⟩
section
variable{n:Nat}{D:Q0 AC}{S:Q0 (Nat×UV)}{F:Fz}{hs:Q0 HP}
theorem E9(c:(eG[j]?).bind (·.dst)=some t)(hs:Sl n D S a)(f:K4 S t=some (.bool b)):yielded eG a.tmps j=some b:=by
 have h:=hs.2.2 t _ f;unfold yielded;rw[c];simp only[K2];simp only[kx] at h
 cases e:a.tmps[t]? with
 | none=>rw[e] at h;simp[undef] at h
 | some v=>rw[e] at h;simp at h;subst h;rfl
theorem GG.on{g:K1 Tmp}{c:Bool}(q:(eG[j]?).bind (·.dst)=some t)(u:K4 S t=some (.bool c))
  (k:GL μ P eG (⟨g,op,ty,pos,after,none⟩::rest) ks Q (Hd n D S F hs) m r):GL μ P eG (⟨g,op,ty,pos,after,some (j,c)⟩::rest) ks Q (Hd n D S F hs) m r:=by
 intro x a w l;have h:=k x a w l;have p:=E9 (eG:=eG) q l.1 u;cases μ with
 | f O=>
  have h:Xl O P eG (Zw O P ks Q) _ a w:=h;show Xl O P eG (Zw O P ks Q) _ a w;unfold Xl at h ⊢
  rw[BY<|by simp[Region.wanted]] at h
  rw[BY<|by simp[Region.wanted,p]];exact h
 | s=>
  have h:wpS P eG w _ _ a:=h;show wpS P eG w _ _ a;unfold wpS at h ⊢
  rw[BY<|by simp[Region.wanted]] at h
  rw[BY<|by simp[Region.wanted,p]];exact h
def gB:UV->Bool->Bool
 | .bool b,c=>b != c
 | .tuple _,_=>true
 | _,_=>false
theorem GG.off{c:Bool}(q:Nat.blt d n=true)(x:(eG[j]?).bind (·.dst)=some t)(y:K4 S t=some v)(l:gB v c=true)
  (k:GL μ P eG rest ks Q (Hd n D ((d,undef)::S) F hs) m r):GL μ P eG (⟨some d,op,ty,pos,after,some (j,c)⟩::rest) ks Q (Hd n D S F hs) m r:=by
 intro B a w g
 have p:yielded eG a.tmps j≠some c:=by
  have h:=g.1.2.2 t _ y;unfold yielded;rw[x];simp only[K2];simp only[kx] at h
  cases e:a.tmps[t]? with
  | none=>simp
  | some u=>
   rw[e] at h;simp at h;subst h
   cases u<;>simp[gB] at l ⊢
   exact l
 have:=k B _ w ⟨g.1.put q _,g.2⟩;cases μ with
 | f O=>
  show Xl O P eG (Zw O P ks Q) _ a w;unfold Xl;rw[B1<|by simp[Region.wanted,p]];exact this
 | s=>
  show wpS P eG w _ _ a;unfold wpS;rw[B1<|by simp[Region.wanted,p]];exact this
theorem GG.val(h:Nat.blt d n=true)
  (c:∀a w,Hd n D S F hs a w->(execOp a.eval ⟨some d,op,ty,pos,after,none⟩).run P w= .ok (.value v) w)
  (k:GL μ P eG rest ks Q (Hd n D ((d,v)::S) F hs) m r) (f:He op=true:=by rfl):GL μ P eG (⟨some d,op,ty,pos,after,none⟩::rest) ks Q (Hd n D S F hs) m r:=
 GG.sg rfl f λl a w g=>⟨v,c a w g,k l _ w ⟨g.1.put h v,g.2⟩⟩
section
variable{d:Nat}{ty t t' :S1}{pos:String}{after:So lY}{ox oy oz:L5}{v u:UV}{kd:r6}{x y:Int}
theorem GG.move(c:Nat.blt d n=true)(f:QQ S ox=some v)(k:GL μ P eG rest ks Q (Hd n D ((d,v)::S) F hs) m r):GL μ P eG (⟨some d,.move ox,ty,pos,after,none⟩::rest) ks Q (Hd n D S F hs) m r:=GG.val c (λa w g=>by simp[execOp,g.1.eval f]) k
theorem GG.assign(c:Nat.blt d n=true)(f:QQ S ox=some v)(k:GL μ P eG rest ks Q (Hd n D ((d,v)::S) F hs) m r):GL μ P eG (⟨some d,.assign ox,ty,pos,after,none⟩::rest) ks Q (Hd n D S F hs) m r:=GG.val c (λa w g=>by simp[execOp,g.1.eval f]) k
theorem GG.cR{f:Int->K1 β}(c:Nat.blt d n=true)(g:QQ S ox=some (.int kd x))(k:∀y,y=x->GL μ P eG rest ks Q (Hd n D ((d,.int kd y)::S) F hs) (f y) r):GL μ P eG (⟨some d,.assign ox,ty,pos,after,none⟩::rest) ks Q (Hd n D S F hs) (QS x f) r:=GG.assign c g<|k x rfl
theorem GG.aK{f:Bool->K1 β}(c:Nat.blt d n=true)(g:QQ S ox=some (.bool b))(k:∀y,y=b->GL μ P eG rest ks Q (Hd n D ((d,.bool y)::S) F hs) (f y) r):GL μ P eG (⟨some d,.assign ox,ty,pos,after,none⟩::rest) ks Q (Hd n D S F hs) (QS b f) r:=GG.assign c g<|k b rfl
theorem GG.ri(f:Nat.blt d n=true)(g:QQ S oz=some (.bool true))(h:QQ S ox=some v)(k:GL μ P eG rest ks Q (Hd n D ((d,v)::S) F hs) m r):GL μ P eG (⟨some d,.pick oz ox oy,ty,pos,after,none⟩::rest) ks Q (Hd n D S F hs) m r:=GG.val f (λa w c=>by simp[execOp,c.1.eval h,c.1.eval g,asBool]) k
theorem GG.tp(f:Nat.blt d n=true)(g:QQ S oz=some (.bool false))(h:QQ S oy=some v)(k:GL μ P eG rest ks Q (Hd n D ((d,v)::S) F hs) m r):GL μ P eG (⟨some d,.pick oz ox oy,ty,pos,after,none⟩::rest) ks Q (Hd n D S F hs) m r:=GG.val f (λa w c=>by simp[execOp,c.1.eval h,c.1.eval g,asBool]) k
theorem GG.add(f:Nat.blt d n=true)(g:QQ S ox=some (.int kd x))(h:QQ S oy=some (.int kd y))(k:GL μ P eG rest ks Q (Hd n D ((d,.int kd<|kd.wrap<|x+y)::S) F hs) m r):GL μ P eG (⟨some d,.binOp .add t ox oy t',ty,pos,after,none⟩::rest) ks Q (Hd n D S F hs) m r:=GG.val f (λa w c=>by simp[execOp,c.1.eval g,c.1.eval h,eqGuard,binOp,Op.intArith]) k
theorem GG.sub(f:Nat.blt d n=true)(g:QQ S ox=some (.int kd x))(h:QQ S oy=some (.int kd y))(k:GL μ P eG rest ks Q (Hd n D ((d,.int kd<|kd.wrap<|x - y)::S) F hs) m r):GL μ P eG (⟨some d,.binOp .sub t ox oy t',ty,pos,after,none⟩::rest) ks Q (Hd n D S F hs) m r:=GG.val f (λa w c=>by simp[execOp,c.1.eval g,c.1.eval h,eqGuard,binOp,Op.intArith]) k
theorem GG.mul(f:Nat.blt d n=true)(g:QQ S ox=some (.int kd x))(h:QQ S oy=some (.int kd y))(k:GL μ P eG rest ks Q (Hd n D ((d,.int kd<|kd.wrap<|x*y)::S) F hs) m r):GL μ P eG (⟨some d,.binOp .mul t ox oy t',ty,pos,after,none⟩::rest) ks Q (Hd n D S F hs) m r:=GG.val f (λa w c=>by simp[execOp,c.1.eval g,c.1.eval h,eqGuard,binOp,Op.intArith]) k
def DM(kd:r6)(x y:Int):K1 Int:=if y=0 then none else some (kd.wrap<|x.tdiv y)
def j1(x y:Int):K1 Int:=if y=0 then none else some (x.tmod y)
theorem GG.pM(f:Nat.blt d n=true)(g:y≠0)(h:QQ S ox=some (.int kd x))(l:QQ S oy=some (.int kd y))(k:GL μ P eG rest ks Q (Hd n D ((d,.int kd<|kd.wrap<|x.tdiv y)::S) F hs) m r):GL μ P eG (⟨some d,.binOp .quo t ox oy t',ty,pos,after,none⟩::rest) ks Q (Hd n D S F hs) m r:=GG.val f (λa w c=>by simp[execOp,c.1.eval h,c.1.eval l,eqGuard,binOp,Op.intDiv,g]) k
theorem GG.rz(f:Nat.blt d n=true)(g:y≠0)(h:QQ S ox=some (.int kd x))(l:QQ S oy=some (.int kd y))(k:GL μ P eG rest ks Q (Hd n D ((d,.int kd<|x.tmod y)::S) F hs) m r):GL μ P eG (⟨some d,.binOp .rem t ox oy t',ty,pos,after,none⟩::rest) ks Q (Hd n D S F hs) m r:=GG.val f (λa w c=>by simp[execOp,c.1.eval h,c.1.eval l,eqGuard,binOp,Op.intDiv,g]) k
theorem GG.quo{f:Int->K1 β}(l:Nat.blt d n=true)(p:QQ S ox=some (.int kd x))(q:QQ S oy=some (.int kd y))(k:∀z,DM kd x y=some z->GL μ P eG rest ks Q (Hd n D ((d,.int kd z)::S) F hs) (f z) r):GL μ P eG (⟨some d,.binOp .quo t ox oy t',ty,pos,after,none⟩::rest) ks Q (Hd n D S F hs) ((DM kd x y).bind f) r:=
 GG.bind λz c=>by
  have g:y≠0:=λe=>by simp[DM,e] at c
  have:z=kd.wrap (x.tdiv y):=by simpa[DM,g] using c.symm
  have h:=k z c;rw[this] at h ⊢
  exact GG.pM l g p q h
theorem GG.rem{f:Int->K1 β}(l:Nat.blt d n=true)(p:QQ S ox=some (.int kd x))(q:QQ S oy=some (.int kd y))(k:∀z,j1 x y=some z->GL μ P eG rest ks Q (Hd n D ((d,.int kd z)::S) F hs) (f z) r):GL μ P eG (⟨some d,.binOp .rem t ox oy t',ty,pos,after,none⟩::rest) ks Q (Hd n D S F hs) ((j1 x y).bind f) r:=
 GG.bind λz c=>by
  have g:y≠0:=λe=>by simp[j1,e] at c
  have:z=x.tmod y:=by simpa[j1,g] using c.symm
  have h:=k z c;rw[this] at h ⊢
  exact GG.rz l g p q h
theorem GG.eql(f:Nat.blt d n=true)(g:QQ S ox=some (.int kd x))(h:QQ S oy=some (.int kd y))(k:GL μ P eG rest ks Q (Hd n D ((d,.bool<|x==y)::S) F hs) m r):GL μ P eG (⟨some d,.binOp .eql t ox oy t',ty,pos,after,none⟩::rest) ks Q (Hd n D S F hs) m r:=GG.val f (λa w c=>by simp[execOp,c.1.eval g,c.1.eval h,eqGuard,binOp,Op.intCmp]) k
theorem GG.neq(f:Nat.blt d n=true)(g:QQ S ox=some (.int kd x))(h:QQ S oy=some (.int kd y))(k:GL μ P eG rest ks Q (Hd n D ((d,.bool<|x != y)::S) F hs) m r):GL μ P eG (⟨some d,.binOp .neq t ox oy t',ty,pos,after,none⟩::rest) ks Q (Hd n D S F hs) m r:=GG.val f (λa w c=>by simp[execOp,c.1.eval g,c.1.eval h,eqGuard,binOp,Op.intCmp]) k
theorem GG.lss(f:Nat.blt d n=true)(g:QQ S ox=some (.int kd x))(h:QQ S oy=some (.int kd y))(k:GL μ P eG rest ks Q (Hd n D ((d,.bool<|decide<|x < y)::S) F hs) m r):GL μ P eG (⟨some d,.binOp .lss t ox oy t',ty,pos,after,none⟩::rest) ks Q (Hd n D S F hs) m r:=GG.val f (λa w c=>by simp[execOp,c.1.eval g,c.1.eval h,eqGuard,binOp,Op.intCmp]) k
theorem GG.leq(f:Nat.blt d n=true)(g:QQ S ox=some (.int kd x))(h:QQ S oy=some (.int kd y))(k:GL μ P eG rest ks Q (Hd n D ((d,.bool<|decide<|x<=y)::S) F hs) m r):GL μ P eG (⟨some d,.binOp .leq t ox oy t',ty,pos,after,none⟩::rest) ks Q (Hd n D S F hs) m r:=GG.val f (λa w c=>by simp[execOp,c.1.eval g,c.1.eval h,eqGuard,binOp,Op.intCmp]) k
theorem GG.gtr(f:Nat.blt d n=true)(g:QQ S ox=some (.int kd x))(h:QQ S oy=some (.int kd y))(k:GL μ P eG rest ks Q (Hd n D ((d,.bool<|decide<|x > y)::S) F hs) m r):GL μ P eG (⟨some d,.binOp .gtr t ox oy t',ty,pos,after,none⟩::rest) ks Q (Hd n D S F hs) m r:=GG.val f (λa w c=>by simp[execOp,c.1.eval g,c.1.eval h,eqGuard,binOp,Op.intCmp]) k
theorem GG.geq(f:Nat.blt d n=true)(g:QQ S ox=some (.int kd x))(h:QQ S oy=some (.int kd y))(k:GL μ P eG rest ks Q (Hd n D ((d,.bool<|decide<|x≥y)::S) F hs) m r):GL μ P eG (⟨some d,.binOp .geq t ox oy t',ty,pos,after,none⟩::rest) ks Q (Hd n D S F hs) m r:=GG.val f (λa w c=>by simp[execOp,c.1.eval g,c.1.eval h,eqGuard,binOp,Op.intCmp]) k
def jo(kd:r6)(x y:Int):Int:=x.fdiv<|2^(min y.toNat kd.bits)
theorem GG.mJ{c:r6}(g:Nat.blt d n=true)(h:¬y < 0)(l:QQ S ox=some (.int kd x))(p:QQ S oy=some (.int c y))(k:GL μ P eG rest ks Q (Hd n D ((d,.int kd<|jo kd x y)::S) F hs) m r):GL μ P eG (⟨some d,.binOp .shr t ox oy t',ty,pos,after,none⟩::rest) ks Q (Hd n D S F hs) m r:=GG.val g (λa w f=>by simp[execOp,f.1.eval l,f.1.eval p,eqGuard,binOp,Op.shift,h,jo]) k
theorem GG.not(c:Nat.blt d n=true)(f:QQ S ox=some (.bool b))(k:GL μ P eG rest ks Q (Hd n D ((d,.bool<|!b)::S) F hs) m r):GL μ P eG (⟨some d,.unOp .not t ox,ty,pos,after,none⟩::rest) ks Q (Hd n D S F hs) m r:=GG.val c (λa w g=>by simp[execOp,g.1.eval f,Op.unary]) k
theorem GG.pD{ds:oh}{c:r6}(f:Nat.blt d n=true)(g:P.underlying t=some ds)(h:P.underlying t' =some (.int c))(l:QQ S ox=some (.int kd x))(k:GL μ P eG rest ks Q (Hd n D ((d,.int c<|c.wrap x)::S) F hs) m r):GL μ P eG (⟨some d,.convert t t' ox,ty,pos,after,none⟩::rest) ks Q (Hd n D S F hs) m r:=
 GG.val f (λa w p=>by
  simp only[execOp,p.1.eval l,convert,j3,YG g,YG h,Result.andThen];cases ds<;>simp[Conv.intToInt]) k
theorem GG.extract{i:Nat}{vs:So UV}(c:Nat.blt d n=true)(f:QQ S ox=some (.tuple vs))(hi:vs[i]? =some v)(k:GL μ P eG rest ks Q (Hd n D ((d,v)::S) F hs) m r):GL μ P eG (⟨some d,.extract ox i,ty,pos,after,none⟩::rest) ks Q (Hd n D S F hs) m r:=GG.val c (λa w g=>by simp[execOp,g.1.eval f,Instr.extract,hi]) k
theorem GG.nL{vs:So UV}{f:Field}(c:Nat.blt d n=true)(g:P.underlying t=some (.struct fs))(h:fs[i]? =some f)(l:∀w,(isAgg f.type).run P w= .ok true w)(p:∀w,(sizeOf f.type).run P w= .ok z w)
  (q:QQ S ox=some (.agg cs)) (hi:cs.extract f.offset (f.offset+z)=vs) (k:GL μ P eG rest ks Q (Hd n D ((d,.agg vs)::S) F hs) m r):GL μ P eG (⟨some d,.field t ox i,ty,pos,after,none⟩::rest) ks Q (Hd n D S F hs) m r:=
 GG.val c (λa w s=>by simp[execOp,s.1.eval q,Instr.field,YG g,h,asAgg,part,l,p,hi]) k
def Un(S:Q0 (Nat×UV)):Q0 L5->K1 (Q0 UV)
 | []=>some []
 | o::os=>match QQ S o with
  | some v=>match Un S os with
   | some vs=>some (v::vs)
   | none=>none
  | none=>none
theorem HT(hs:Sl n D S a):∀{os:Q0 L5} {vs:Q0 UV},Un S os=some vs->os.map a.eval=vs
 | [],vs,h=>by simp[Un] at h;simp[h]
 | o::os,vs,h=>by
  simp only[Un] at h
  cases e:QQ S o with
  | none=>rw[e] at h;cases h
  | some v=>
   rw[e] at h
   cases c:Un S os with
   | none=>rw[c] at h;cases h
   | some us=>
    rw[c] at h
    simp only[W1] at h
    subst h;simp[hs.eval e,HT hs c]
theorem GG.makeFunc{fn:Fn}{eb:Q0 L5}{vs:Q0 UV}(c:Nat.blt d n=true)(f:Un S eb=some vs)(k:GL O P eG rest ks Q (Hd n D ((d,.func fn #[] vs.toArray)::S) F hs) m r):GL O P eG (⟨some d,.makeFunc fn #[] eb.toArray,ty,pos,after,none⟩::rest) ks Q (Hd n D S F hs) m r:=GG.val c (λa w g=>by simp[execOp,Instr.makeFunc,HT g.1 f]) k
def Rh(S:Q0 (Nat×UV)):Q0 (Nat×L5)->K1 (Q0<|Nat×UV)
 | []=>some []
 | (i,o)::os=>match QQ S o with
  | some v=>match Rh S os with
   | some vs=>some ((i,v)::vs)
   | none=>none
  | none=>none
theorem AH(hs:Sl n D S a):∀{os:Q0 (Nat×L5)} {vs:Q0 (Nat×UV)},Rh S os=some vs->os.map (λp=>(p.1,a.eval p.2))=vs
 | [],vs,h=>by simp[Rh] at h;simp[h]
 | (i,o)::os,vs,h=>by
  simp only[Rh] at h
  cases e:QQ S o with
  | none=>rw[e] at h;cases h
  | some v=>
   rw[e] at h
   cases c:Rh S os with
   | none=>rw[c] at h;cases h
   | some us=>
    rw[c] at h
    simp only[W1] at h
    subst h;simp[hs.eval e,AH hs c]
def Places(P:B3)(fs:So Field)(c:So (Nat×Nat)):Prop:=∀w,(fs.mapM λf=>do pure (f.offset,<-sizeOf f.type):Sem (So<|Nat×Nat)).run P w= .ok c w
theorem GG.build{f:So (Nat×Nat)}{zc:So UV}{z:UV}{parts:Q0 (Nat×L5)}{ps:Q0 (Nat×UV)}(g:Nat.blt d n=true)(h:P.underlying t=some (.struct fs))(l:∀w,(zeroValue t).run P w= .ok z w)(c:Places P fs f)
  (p:Rh S parts=some ps) (q:z.cells=zc) (hi:Instr.fill (f[·]?) zc ps=some cs) (k:GL μ P eG rest ks Q (Hd n D ((d,.agg cs)::S) F hs) m r):GL μ P eG (⟨some d,.build t parts.toArray,ty,pos,after,none⟩::rest) ks Q (Hd n D S F hs) m r:=
 GG.val g (λa w s=>by
  have B:=AH s.1 p;subst q;simp only[execOp,Instr.build,j3,l,Result.andThen,YG h,c w];simp[B,hi]) k
theorem GG.tn{c:Nat}{zc:So UV}{z:UV}{parts:Q0 (Nat×L5)}{ps:Q0 (Nat×UV)}(g:Nat.blt d n=true)(h:P.underlying t=some (.array len e))(l:∀w,(zeroValue t).run P w= .ok z w)(f:∀w,(sizeOf e).run P w= .ok c w)
  (p:Rh S parts=some ps) (q:z.cells=zc) (hi:Instr.fill (λi=>some (i*c,c)) zc ps=some cs) (k:GL μ P eG rest ks Q (Hd n D ((d,.agg cs)::S) F hs) m r):GL μ P eG (⟨some d,.build t parts.toArray,ty,pos,after,none⟩::rest) ks Q (Hd n D S F hs) m r:=
 GG.val g (λa w s=>by
  have B:=AH s.1 p;subst q;simp only[execOp,Instr.build,j3,l,Result.andThen,YG h,f w];simp[B,hi]) k
theorem GG.aP(c:Nat.blt d n=true)(f:P.concrete t=true)(g:QQ S ox=some v)(k:GL O P eG rest ks Q (Hd n D ((d,.iface t v)::S) F hs) m r):GL O P eG (⟨some d,.makeInterface t ox,ty,pos,after,none⟩::rest) ks Q (Hd n D S F hs) m r:=GG.val c (λa w h=>by simp[execOp,h.1.eval g,run_makeInterface w t v f]) k
theorem HA(b o z:Nat):(⟨b,o,none⟩:C3).add z=⟨b,o+z,none⟩:=by
 unfold Addr.add;split
 ·rename_i h;subst h;rfl
 ·rfl
theorem GG.fieldAddr{i b o z:Nat}{fs:So Field}{f:Field}(c:Nat.blt d n=true)(g:P.underlying t=some (.struct fs))(h:fs[i]? =some f)(l:∀w,(sizeOf f.type).run P w= .ok (z+1) w)
  (p:QQ S ox=some (.pointer<|some ⟨b,o,none⟩)) (k:GL μ P eG rest ks Q (Hd n D ((d,.pointer<|some ⟨b,o+f.offset,none⟩)::S) F hs) m r):GL μ P eG (⟨some d,.fieldAddr t ox i,ty,pos,after,none⟩::rest) ks Q (Hd n D S F hs) m r:=
 GG.val c (λa w q=>by simp[execOp,q.1.eval p,Instr.fieldAt,YG g,h,Instr.sureAddr,fieldPlace,l,HA]) k
def Yu(n:Nat)(i:Int):K1 Nat:=if 0<=i/\i < n then some i.toNat else none
theorem ZF{k:Nat}{i:Int}(h:Yu n i=some k):0<=i/\i < n/\k=i.toNat/\k < n:=by
 unfold Yu at h
 split at h
 ·rename_i c;simp only[W1] at h;subst h;omega
 ·cases h
theorem GG.cF{b o:Nat}(f:Nat.blt d n=true)(g:P.underlying t=some (.array len e))(h:∀w,(sizeOf e).run P w= .ok z w)
  (l:QQ S ox=some (.pointer<|some ⟨b,o,none⟩)) (p:QQ S oy=some (.int kd x)) (q:Yu len x=some j) (k:GL μ P eG rest ks Q (Hd n D ((d,.pointer<|some ⟨b,o+j*z,none⟩)::S) F hs) m r):GL μ P eG (⟨some d,.indexAddr t ox oy,ty,pos,after,none⟩::rest) ks Q (Hd n D S F hs) m r:=
 GG.val f (λa w c=>by
  obtain⟨s,B,C,_⟩:=ZF q;subst C;simp[execOp,c.1.eval l,c.1.eval p,Instr.indexAt,asIntOf,YG g,Instr.sureAddr,s,B,h,HA]) k
theorem GG.aC{cap b o:Nat}(f:Nat.blt d n=true)(g:P.underlying t=some (.slice e))(h:∀w,(sizeOf e).run P w= .ok z w)
  (l:QQ S ox=some (.slice (some ⟨b,o,none⟩) len cap)) (p:QQ S oy=some (.int kd x)) (q:Yu len x=some j) (k:GL μ P eG rest ks Q (Hd n D ((d,.pointer<|some ⟨b,o+j*z,none⟩)::S) F hs) m r):GL μ P eG (⟨some d,.indexAddr t ox oy,ty,pos,after,none⟩::rest) ks Q (Hd n D S F hs) m r:=
 GG.val f (λa w c=>by
  obtain⟨s,B,C,_⟩:=ZF q;subst C;simp[execOp,c.1.eval l,c.1.eval p,Instr.indexAt,asIntOf,YG g,s,B,h,HA]) k
theorem GG.ph(f:Nat.blt d n=true)(g:P.underlying t=some (.array len e))(h:∀w,(isAgg e).run P w= .ok false w)(l:∀w,(sizeOf e).run P w= .ok z w)
  (p:QQ S ox=some (.agg cs)) (q:QQ S oy=some (.int kd x)) (s:Yu len x=some j) (B:cs[j*z]? =some v) (k:GL μ P eG rest ks Q (Hd n D ((d,v)::S) F hs) m r):GL μ P eG (⟨some d,.index t ox oy,ty,pos,after,none⟩::rest) ks Q (Hd n D S F hs) m r:=
 GG.val f (λa w c=>by
  obtain⟨C,E,G,_⟩:=ZF s;subst G;simp[execOp,c.1.eval p,c.1.eval q,Instr.index,asIntOf,YG g,C,E,l,part,h,B]) k
theorem GG.cm{cap:Nat}{p:K1 C3}(c:Nat.blt d n=true)(f:T[0]? =some t)(g:P.underlying t=some (.slice e))(h:QQ S ox=some (.slice p len cap))(k:GL μ P eG rest ks Q (Hd n D ((d,.int .i64 len)::S) F hs) m r):GL μ P eG (⟨some d,.call ⟨.builtin .len,#[ox],T⟩,ty,pos,after,none⟩::rest) ks Q (Hd n D S F hs) m r:=GG.val c (λa w l=>by simp[execOp,resolve,invoke,builtin,Builtin.len_,l.1.eval h,f,YG g,goInt]) k
theorem GG.min2(f:Nat.blt d n=true)(g:QQ S ox=some (.int kd x))(h:QQ S oy=some (.int kd y))(k:GL μ P eG rest ks Q (Hd n D ((d,.int kd<|if y < x then y else x)::S) F hs) m r):GL μ P eG (⟨some d,.call ⟨.builtin .min,#[ox,oy],T⟩,ty,pos,after,none⟩::rest) ks Q (Hd n D S F hs) m r:=GG.val f (λa w c=>by simp[execOp,resolve,invoke,builtin,Builtin.min_,Builtin.min2,c.1.eval g,c.1.eval h]) k
theorem GG.max2(f:Nat.blt d n=true)(g:QQ S ox=some (.int kd x))(h:QQ S oy=some (.int kd y))(k:GL μ P eG rest ks Q (Hd n D ((d,.int kd<|if x < y then y else x)::S) F hs) m r):GL μ P eG (⟨some d,.call ⟨.builtin .max,#[ox,oy],T⟩,ty,pos,after,none⟩::rest) ks Q (Hd n D S F hs) m r:=GG.val f (λa w c=>by simp[execOp,resolve,invoke,builtin,Builtin.max_,Builtin.max2,c.1.eval g,c.1.eval h]) k
end
end
end
end
section
variable{cs vs eb as:Q0 UV}{fr:Nat×Nat}{α:Type}{ρ:α->Fz->UV->Prop}{w:By}{b o i z n j:Nat}{P:B3}{S:Q0 (Nat×UV)}{os:Q0 L5}{T:So S1}{f:Rw}{hs:Q0 HP}{of:L5}{D:Q0 AC}{e:K1 α}{F:Fz}{a:Act}
variable{O:K1 Nat}{μ:Md}
theorem cell_of_heap{T:S1}(h:w.heap[b]? =some (.cells cs.toArray T fr))(o:Nat):w.cell? ⟨b,o,none⟩=cs[o]? :=by
 simp[World.cell?,h]
theorem frozen_of_heap{cs:So UV}{T:S1}(h:w.heap[b]? =some (.cells cs T (0,0)))(o:Nat):w.frozen? ⟨b,o,none⟩=false:=by
 simp[World.frozen?,h]
theorem Iy{T:S1}{v:UV}(h:w.heap[b]? =some (.cells cs.toArray T fr)):w.setCell ⟨b,o,none⟩ v=put w b (.cells (cs.set o v).toArray T fr):=by
 have c:=lt_of_heap h;unfold World.setCell put;congr 1;apply o6;intro k;rw[iz];by_cases d:b=k
 ·subst d;have e:w.heap[b]= .cells cs.toArray T fr:=by simpa[c] using h
  simp[c,e]
 ·simp[d]
theorem wz(w:By)(b:Nat)(x y:Obj):put (put w b x) b y=put w b y:=by
 simp[put]
theorem vo{o:Obj}(h:w.heap[b]? =some o):put w b o=w:=by
 have c:=lt_of_heap h;unfold put;congr 1;apply o6;intro k;by_cases d:b=k
 ·subst d;have e:w.heap[b]=o:=by simpa[c] using h
  simp[c,e]
 ·simp[d]
def Kp:Q0 UV->Nat->Q0 UV->Q0 UV
 | cs,_,[]=>cs
 | cs,o,v::vs=>Kp (cs.set o v) (o+1) vs
theorem Hk:∀(cs:Q0 UV) (o:Nat) (vs:Q0 UV),(Kp cs o vs).length=cs.length
 | _,_,[]=>rfl
 | cs,o,v::vs=>by simp[Kp,Hk]
theorem XO{T:Nat}:∀{vs:Q0 UV} {cs:Q0 UV} {i:Nat} {w:By},w.heap[b]? =some (.cells cs.toArray T (0,0))->o+i+vs.length<=cs.length->vs.all Value.oneCell' =true->
  (storeCells ⟨b,o,none⟩ vs i).run P w= .ok () (put w b<|.cells (Kp cs (o+i) vs).toArray T (0,0))
 | [],cs,i,w,h,_,_=>by simp[storeCells,Kp,vo h]
 | v::vs,cs,i,w,h,d,c=>by
  simp only[mj,Do] at c
  simp only[OF] at d
  have g:w.cell? ⟨b,o+i,none⟩=some cs[o+i]:=by rw[cell_of_heap h];simp
  simp only[storeCells,j3,HA,run_store P w _ v .plain c.1,g,frozen_of_heap h,W2,Bm,Result.andThen,Iy h];rw[XO (cs:=cs.set (o+i) v) (Ai h) eE c.2,wz];simp[Kp,Nat.add_assoc]
theorem Hb{T:Nat}(h:w.heap[b]? =some (.cells cs.toArray T fr))(c:(cs.drop o).take z=vs)(d:vs.length=z):(loadCells ⟨b,o,none⟩ z).run P w= .ok vs.toArray w:=by
 subst d;refine run_loadCells_list w ⟨b,o,none⟩ vs λj v e=> ?_;rw[HA,cell_of_heap h];have g:=e;rw[<-c] at e
 rw[yb,me] at e
 split at e
 ·exact e
 ·cases e
section
variable{β:Type}{P:B3}{eG:So Nm}{rest:Q0 Nm}{ks:Q0 Kt}{Q:hP->Act->By->Prop}{m:K1 β}{r:β}
variable{n:Nat}{D:Q0 AC}{S:Q0 (Nat×UV)}{F:Fz}{hs:Q0 HP}
variable{d:Nat}{ty t t' :S1}{pos:String}{after:So lY}{ox oy oz:L5}{v u:UV}{kd:r6}{x y:Int}
theorem GG.alloc{z:UV}{cs:Q0 UV}(g:Nat.blt d n=true)(h:∀w,(zeroValue t).run P w= .ok z w)(l:z.cells=cs.toArray)
  (k:∀b,GL O P eG rest ks Q (Hd n D ((d,.pointer<|some ⟨b,0,none⟩)::S) F<|pt b (.cells cs.toArray t)::hs) m r):GL O P eG (⟨some d,.alloc t,ty,pos,after,none⟩::rest) ks Q (Hd n D S F hs) m r:=
 GG.step rfl (.inr rfl) λp a w c=>by
  refine⟨.pointer<|some ⟨w.heap.size,0,none⟩,w.alloc<|.cells cs.toArray t,?_,k w.heap.size p _ _ ⟨c.1.put g _,c.2.alloc _⟩⟩;simp[execOp,Instr.alloc,h,newVar,newRow,l]
theorem GG.box(g:Nat.blt d n=true)(h:QQ S ox=some v)(l:v.cells=cs.toArray)
  (k:∀b,GL O P eG rest ks Q (Hd n D ((d,.pointer<|some ⟨b,0,none⟩)::S) F<|pt b (.cells cs.toArray t)::hs) m r):GL O P eG (⟨some d,.box t ox,ty,pos,after,none⟩::rest) ks Q (Hd n D S F hs) m r:=
 GG.step rfl (.inr rfl) λp a w c=>by
  refine⟨.pointer<|some ⟨w.heap.size,0,none⟩,w.alloc<|.cells cs.toArray t,?_,k w.heap.size p _ _ ⟨c.1.put g _,c.2.alloc _⟩⟩;simp[execOp,Instr.box,c.1.eval h,newVar,newRow,l]
theorem GG.cV(h:Nat.blt d n=true)(l:QQ S ox=some v)(p:v.cells=cs.toArray)
  (k:∀b c,F<=c->c.mem b=some (.cells cs.toArray t)->GL O P eG rest ks Q (Hd n D ((d,.pointer<|some ⟨b,0,none⟩)::S) c hs) m r):GL O P eG (⟨some d,.box t ox,ty,pos,after,none⟩::rest) ks Q (Hd n D S F hs) m r:=
 GG.step rfl (.inr rfl) λq a w g=>by
  obtain⟨s,A⟩:=g.2.a6<|.cells cs.toArray t;refine⟨.pointer<|some ⟨w.heap.size,0,none⟩,w.alloc<|.cells cs.toArray t,?_,k w.heap.size _ s (Fz.cv ..) q _ _ ⟨g.1.put h _,A⟩⟩;simp[execOp,Instr.box,g.1.eval l,newVar,newRow,p]
theorem BE{t:Nat}(c:∀w,(isAgg t).run P w= .ok false w)(h:w.cell? ⟨b,o,none⟩=some v):(Instr.loadAt t<|.pointer<|some ⟨b,o,none⟩).run P w= .ok v w:=by
 simp[Instr.loadAt,Instr.sureAddr,loadVar,c,h]
theorem Sy{t T:Nat}(c:∀w,(isAgg t).run P w= .ok true w)(g:∀w,(sizeOf t).run P w= .ok z w)(h:w.heap[b]? =some (.cells cs.toArray T fr))(k:(cs.drop o).take z=vs)(l:vs.length=z):(Instr.loadAt t<|.pointer<|some ⟨b,o,none⟩).run P w= .ok (.agg vs.toArray) w:=by
 simp[Instr.loadAt,Instr.sureAddr,loadVar,c,g,Hb h k l]
theorem GG.U{T:Nat}(g:Nat.blt d n=true)(h:∀w,(isAgg t).run P w= .ok false w)(l:QQ S ox=some (.pointer<|some ⟨b,o,none⟩))(p:F.mem b=some (.cells cs.toArray T fr))(q:cs[o]? =some v)
  (k:GL μ P eG rest ks Q (Hd n D ((d,v)::S) F hs) m r):GL μ P eG (⟨some d,.load t ox,ty,pos,after,none⟩::rest) ks Q (Hd n D S F hs) m r:=
 GG.val g (λa w c=>by simp[execOp,c.1.eval l,BE h (by rw[cell_of_heap<|c.2.frozen p];exact q)]) k
theorem GG.cT{T:Nat}(g:Nat.blt d n=true)(h:∀w,(isAgg t).run P w= .ok true w)(l:∀w,(sizeOf t).run P w= .ok z w)(p:QQ S ox=some (.pointer<|some ⟨b,o,none⟩))(q:F.mem b=some (.cells cs.toArray T fr))(s:(cs.drop o).take z=vs)(A:vs.length=z)
  (k:GL μ P eG rest ks Q (Hd n D ((d,.agg vs.toArray)::S) F hs) m r):GL μ P eG (⟨some d,.load t ox,ty,pos,after,none⟩::rest) ks Q (Hd n D S F hs) m r:=
 GG.val g (λa w c=>by simp[execOp,c.1.eval p,Sy h l (c.2.frozen q) s A]) k
theorem GG.cC{T:Nat}(g:Nat.blt d n=true)(h:∀w,(isAgg t).run P w= .ok false w)(l:QQ S ox=some (.pointer<|some ⟨b,o,none⟩))(p:hs[i]? =some (pt b<|.cells cs.toArray T fr))(q:cs[o]? =some v)
  (k:GL μ P eG rest ks Q (Hd n D ((d,v)::S) F hs) m r):GL μ P eG (⟨some d,.load t ox,ty,pos,after,none⟩::rest) ks Q (Hd n D S F hs) m r:=
 GG.val g (λa w c=>by simp[execOp,c.1.eval l,BE h (by rw[cell_of_heap<|SH.cf p c.2];exact q)]) k
theorem GG.cP{T:Nat}(g:Nat.blt d n=true)(h:∀w,(isAgg t).run P w= .ok true w)(l:∀w,(sizeOf t).run P w= .ok z w)(p:QQ S ox=some (.pointer<|some ⟨b,o,none⟩))(q:hs[i]? =some (pt b<|.cells cs.toArray T fr))(s:(cs.drop o).take z=vs)(A:vs.length=z)
  (k:GL μ P eG rest ks Q (Hd n D ((d,.agg vs.toArray)::S) F hs) m r):GL μ P eG (⟨some d,.load t ox,ty,pos,after,none⟩::rest) ks Q (Hd n D S F hs) m r:=
 GG.val g (λa w c=>by simp[execOp,c.1.eval p,Sy h l (SH.cf q c.2) s A]) k
theorem GG.store{T:Nat}{cs':Q0 UV}(q:∀w,(sizeOf t).run P w= .ok z w)(s:QQ S ox=some (.pointer<|some ⟨b,o,none⟩))(A:QQ S oy=some v)(B:v.cells=vs.toArray)(C:vs.length=z)
  (l:hs[i]? =some (pt b<|.cells cs.toArray T (0,0))) (E:o+vs.length<=cs.length) (G:vs.all Value.oneCell' =true) (g:Kp cs o vs=cs')
  (k:GL O P eG rest ks Q (Hd n D S F<|hs.set i<|pt b<|.cells cs'.toArray T (0,0)) m r):GL O P eG (⟨none,.store t ox oy,ty,pos,after,none⟩::rest) ks Q (Hd n D S F hs) m r:=
 GG.ab rfl (.inr rfl) λH a w c=>by
  subst g;have h:=SH.cf l c.2;refine⟨put w b<|.cells (Kp cs o vs).toArray T (0,0),?_,k H _ _ ⟨c.1.cz _,SH.putAt l c.2 _⟩⟩;have p:=XO (P:=P) (o:=o) (i:=0) h (by simpa using E) G;simp only[iD] at p
  simp only[execOp,Instr.storeAt,c.1.eval s,c.1.eval A,Instr.sureAddr,storeVar,j3,q,Result.andThen,B];simp[C,p]
theorem Wy(hs:Sl n D S a)(c:∀args w,(callFunc f args).run P w= .ok (.enter f args) w)
  (h:QQ S of=some (.func (.func f) #[] eb.toArray)) (k:Un S os=some vs) {g:K1 Tmp}:(execOp a.eval ⟨g,.call ⟨.value of,os.toArray,T⟩,ty,pos,after,none⟩).run P w= .ok (.enter f (vs++eb).toArray) w:=by
 have e:=HT hs k;simp[execOp,resolve,Deferred.ofValue,hs.eval h,e,invoke,c]
theorem GG.sq{A:Act->By->Prop}{o:Nm}{args:So UV}(g:o.guard=none)(c:O=none∨He o.op=true)
  (h:m=some r->∀a w,A a w->(execOp a.eval o).run P w= .ok (.enter f args) w/\Calls P f args w (λe w' =>∃v,e= .returned v/\Xl O P eG (Zw O P ks Q) rest (a.put o.dst v) w')):GL O P eG (o::rest) ks Q A m r:=by
 intro k a w l;obtain⟨p,q⟩:=h k a w l;show Xl O P eG _ (o::rest) a w;unfold Xl;rw[BY<|by simp[Region.wanted,g]];refine⟨c,?_⟩;rw[p];refine⟨λe=>(by rw[BS] at e;cases e),Ep.2<|q.mono ?_⟩;rintro e w' ⟨v,rfl,h⟩;exact h
theorem GG.cM{α:Type}{f:Rw}{eb as vs:Q0 UV}{of:L5}{os:Q0 L5}{T:So S1}{e:K1 α}{ρ:α->Fz->UV->Prop}{g:α->K1 β}(q:Nat.blt d n=true)
  (c:∀args w,(callFunc f args).run P w= .ok (.enter f args) w) (s:QQ S of=some (.func (.func f) #[] eb.toArray)) (A:Un S os=some vs) (has:vs++eb=as)
  (B:KJ P f as.toArray F e ρ) (k:∀x h v,e=some x->F<=h->ρ x h v->GL O P eG rest ks Q (Hd n D ((d,v)::S) h hs) (g x) r):GL O P eG (⟨some d,.call ⟨.value of,os.toArray,T⟩,ty,pos,after,none⟩::rest) ks Q (Hd n D S F hs) (e.bind g) r:=
 GG.sq rfl (.inr rfl) λl a w p=>by
  subst has;refine⟨Wy p.1 c s A,?_⟩;cases he:e with
  | none=>rw[he] at l;cases l
  | some y=>
   rw[he] at l
   refine(B y he w _ p.2).mono ?_;rintro _ w' ⟨h,v,le,rfl,hρ,C⟩;exact⟨v,rfl,k y h v he le hρ l _ _ ⟨p.1.put q _,C⟩⟩
theorem GG.cN{α:Type}{f:Rw}{eb as vs:Q0 UV}{of:L5}{os:Q0 L5}{T:So S1}{e:α}{ρ:α->Fz->UV->Prop}(l:Nat.blt d n=true)
  (c:∀args w,(callFunc f args).run P w= .ok (.enter f args) w) (p:QQ S of=some (.func (.func f) #[] eb.toArray)) (q:Un S os=some vs) (has:vs++eb=as)
  (s:KJ P f as.toArray F (some e) ρ) (k:∀g v,F<=g->ρ e g v->GL O P eG rest ks Q (Hd n D ((d,v)::S) g hs) m r):GL O P eG (⟨some d,.call ⟨.value of,os.toArray,T⟩,ty,pos,after,none⟩::rest) ks Q (Hd n D S F hs) m r:=
 GG.sq rfl (.inr rfl) λA a w h=>by
  subst has;refine⟨Wy h.1 c p q,?_⟩;refine(s e rfl w _ h.2).mono ?_;rintro _ w' ⟨g,v,le,rfl,hρ,B⟩;exact⟨v,rfl,k g v le hρ A _ _ ⟨h.1.put l _,B⟩⟩
theorem GG.sE{y:α}(he:e=some y)(h:Nat.blt d n=true)
  (c:∀args w,(callFunc f args).run P w= .ok (.enter f args) w) (l:QQ S of=some (.func (.func f) #[] eb.toArray)) (p:Un S os=some vs) (has:vs++eb=as)
  (q:KJ P f as.toArray F e ρ) (k:∀g v,F<=g->ρ y g v->GL O P eG rest ks Q (Hd n D ((d,v)::S) g hs) m r):GL O P eG (⟨some d,.call ⟨.value of,os.toArray,T⟩,ty,pos,after,none⟩::rest) ks Q (Hd n D S F hs) m r:=
 GG.cN h c l p has (he▸q) k
theorem GG.sn{α:Type}{f:Rw}{eb as vs:Q0 UV}{of:L5}{os:Q0 L5}{T:So S1}{e:K1 α}{ρ:α->Fz->UV->Prop}{H:HP}{H' :α->Fz->UV->HP}{g:α->K1 β}{i:Nat}(q:Nat.blt d n=true)
  (c:∀args w,(callFunc f args).run P w= .ok (.enter f args) w) (s:QQ S of=some (.func (.func f) #[] eb.toArray)) (A:Un S os=some vs) (has:vs++eb=as) (hi:hs[i]? =some H)
  (B:CT P f as.toArray F H e ρ H') (k:∀x h v,e=some x->F<=h->ρ x h v->GL O P eG rest ks Q (Hd n D ((d,v)::S) h<|hs.set i<|H' x h v) (g x) r):GL O P eG (⟨some d,.call ⟨.value of,os.toArray,T⟩,ty,pos,after,none⟩::rest) ks Q (Hd n D S F hs) (e.bind g) r:=
 GG.sq rfl (.inr rfl) λl a w p=>by
  subst has;refine⟨Wy p.1 c s A,?_⟩;cases he:e with
  | none=>rw[he] at l;cases l
  | some y=>
   rw[he] at l
   refine(B y he w _<|p.2.pull hi).mono ?_;rintro _ w' ⟨h,v,le,rfl,hρ,C⟩;exact⟨v,rfl,k y h v he le hρ l _ _ ⟨p.1.put q _,SH.push hi C⟩⟩
end
inductive Ss(P:Program)(S:List (Nat×Value))(F:Fz)(hs:List HP):List ResultVar->List Value->Prop where
 | nil:Ss P S F hs [] []
 | tmp {t:Nat} {v:Value} {rs:List ResultVar} {vs:List Value} (h:K4 S t=some v) (k:Ss P S F hs rs vs):Ss P S F hs (.tmp t::rs) (v::vs)
 | cell {t i b T:Nat} {ty:TypeId} {v:Value} {cs:List Value} {fr:Nat×Nat} {rs:List ResultVar} {vs:List Value} (h:K4 S t=some (.pointer<|some ⟨b,0,none⟩)) (hA:∀w,(isAgg ty).run P w= .ok false w) (hb:hs[i]? =some (pt b<|.cells cs.toArray T fr)) (hv:cs[0]? =some v) (k:Ss P S F hs rs vs):Ss P S F hs (.cell t ty::rs) (v::vs)
 | agg {t i b T z:Nat} {ty:TypeId} {cs vs' :List Value} {fr:Nat×Nat} {rs:List ResultVar} {vs:List Value} (h:K4 S t=some (.pointer<|some ⟨b,0,none⟩)) (hA:∀w,(isAgg ty).run P w= .ok true w) (hz:∀w,(sizeOf ty).run P w= .ok z w) (hb:hs[i]? =some (pt b<|.cells cs.toArray T fr)) (hv:cs.take z=vs') (hl:vs'.length=z) (k:Ss P S F hs rs vs):Ss P S F hs (.cell t ty::rs) (.agg vs'.toArray::vs)
def AU:Q0 UV->UV
 | [v]=>v
 | vs=>.tuple vs.toArray
def Ns(c:So UV):ResultVar->Sem UV
 | .tmp t=>pure (c.getD t undef)
 | .cell a t=>do loadVar t (<-asAddr (c.getD a undef))
theorem DX(c:Hd n D S F hs a w):∀{rs:Q0 ResultVar} {vs:Q0 UV},Ss P S F hs rs vs->(rs.mapM<|Ns a.tmps).run P w= .ok vs w
 | _,_,.nil=>by simp
 | _,_,.tmp h k=>by
  have e:=c.1.2.2 _ _ h;simp[Ns,e,DX c k]
 | _,_,.cell h g l m k=>by
  have e:=c.1.2.2 _ _ h;have d:=BE (P:=P) (w:=w) g (by rw[cell_of_heap<|SH.cf l c.2];exact m);simp only[Instr.loadAt,Instr.sureAddr,j3,lI,Result.andThen] at d
  simp[Ns,e,DX c k,asAddr,d]
 | _,_,.agg h g q l m p k=>by
  have e:=c.1.2.2 _ _ h;have d:=Sy (P:=P) (w:=w) (o:=0) g q (SH.cf l c.2) (by simpa using m) p;simp only[Instr.loadAt,Instr.sureAddr,j3,lI,Result.andThen] at d
  simp[Ns,e,DX c k,asAddr,d]
theorem Jm{fn:lX}{rs:Q0 ResultVar}(c:fn.results=rs.toArray)(d:Hd n D S F hs a w)(h:Ss P S F hs rs vs):(results fn a.tmps).run P w= .ok (AU vs) w:=by
 have g:=DX d h
 have e:(results fn a.tmps)=(do let vs <-fn.results.mapM (Ns a.tmps);pure (if h:vs.size=1 then vs[0] else .tuple vs)):=by
  unfold results;congr 1
 rw[e,c];simp only[List.mapM_toArray,j3,Sem.run_map,g,Result.andThen,lI];congr 1
 match vs with
 | []=>rfl
 | [v]=>rfl
 | v::u::vs=>simp[AU]
section
variable{β:Type}{P:B3}{n:Nat}{S:Q0 (Nat×UV)}{F F' :Fz}{hs:Q0 HP}{ks:Q0 Kt}{fn:lX}{R:HP}{ρ:β->Fz->UV->Prop}{x r:β}{rs:Q0 ResultVar}{vs:Q0 UV}{i:Nat}
theorem XC(d:fn.results=rs.toArray)(h:Ss P S F' hs rs vs)(hi:hs[i]? =some R)(le:F<=F')(hρ:ρ x F' (AU vs)):some x=some r->∀a w,Hd n [] S F' hs a w->O6 P fn F R ρ r .ret a w:=by
 intro e a w c;simp only[W1] at e
 subst e;exact⟨c.1.2.1,_,Jm d c h,F',_,le,rfl,hρ,c.2.only hi⟩
theorem GG.cI(c:fn.results=rs.toArray)(h:Ss P S F' hs rs vs)(hi:hs[i]? =some R)(le:F<=F')(hρ:ρ x F' (AU vs)):GC O P .ret ks (O6 P fn F R ρ r) (Hd n [] S F' hs) (some x) r:=GG.cw<|XC c h hi le hρ
theorem SH.tq{p q:HP}(hi:hs[i]? =some p)(k:(hs.eraseIdx i)[j]? =some q)(h:SH w F (Qh hs)):SH w F (star p q):=
 (h.pull hi).mono λ_ l=>by
  obtain⟨m,A,d,s,t,u,v⟩:=l;obtain⟨y,_,_,g,_,c,_⟩:=Vi k v;exact⟨m,y,d.sub (Mem.sub.refl _) g,s,g.trans t,u,c⟩
theorem I7{H' :β->Fz->UV->HP}(d:fn.results=rs.toArray)(h:Ss P S F' hs rs vs)(hi:hs[i]? =some (H' x F'<|AU vs))(g:(hs.eraseIdx i)[j]? =some R)(le:F<=F')(hρ:ρ x F' (AU vs)):some x=some r->∀a w,Hd n [] S F' hs a w->O7 P fn F R ρ H' r .ret a w:=by
 intro e a w c;simp only[W1] at e
 subst e;exact⟨c.1.2.1,_,Jm d c h,F',_,le,rfl,hρ,c.2.tq hi g⟩
theorem GG.pV{H' :β->Fz->UV->HP}(c:fn.results=rs.toArray)(h:Ss P S F' hs rs vs)(hi:hs[i]? =some (H' x F'<|AU vs))(d:(hs.eraseIdx i)[j]? =some R)(le:F<=F')(hρ:ρ x F' (AU vs)):GC O P .ret ks (O7 P fn F R ρ H' r) (Hd n [] S F' hs) (some x) r:=GG.cw<|I7 c h hi d le hρ
theorem GG.mD{H' :β->Fz->UV->HP}(c:fn.results=rs.toArray)(h:Ss P S F' hs rs vs)(hi:hs[i]? =some (H' x F'<|AU vs))(d:(hs.eraseIdx i)[j]? =some R)(le:F<=F')(hρ:ρ x F' (AU vs)):GE O P [] (O7 P fn F R ρ H' r) (Hd n [] S F' hs) (some x) r:=GG.cK<|I7 c h hi d le hρ
end
end
section
variable{Q:hP->Act->By->Prop}{S:Q0 (Nat×UV)}{b:Bool}{after:So lY}{eG:So Nm}{v:UV}{d:Nat}{pos:String}{P:B3}{ty:S1}{w:By}{a:Act}
variable{O:K1 Nat}{μ:Md}
section
variable{β:Type}{P:B3}{eG:So Nm}{rest l:Q0 Nm}{ks:Q0 Kt}{Q:hP->Act->By->Prop}{A:Act->By->Prop}{m:K1 β}{r:β}
variable{n:Nat}{D:Q0 AC}{S S0:Q0 (Nat×UV)}{F F' :Fz}{hs:Q0 HP}
theorem Bq{Q1 Q2:hP->Act->By->Prop}(l2:Q0 Nm)(f:∀a w,Q1 .normal a w->Xl O P eG Q2 l2 a w)(g:∀e a w,e≠.normal->Q1 e a w->Q2 e a w):∀(c:Q0 Nm) (a:Act) (w:By),Xl O P eG Q1 c a w->Xl O P eG Q2 (c++l2) a w
 | [],a,w,h=>f a w h
 | o::c,a,w,h=>by
  simp only[tO];unfold Xl at h ⊢
  split
  ·rename_i i;rw[BY i] at h
   exact R9 (λ_ _ he=>Bq l2 f g c _ _ he) g h
  ·rename_i i;rw[B1 i] at h
   exact Bq l2 f g c _ _ h
theorem As{g i:Act->Prop}(l2:Q0 Nm)(e:∀a,g a->wpS P eG w i l2 a):∀(c:Q0 Nm) (a:Act),wpS P eG w g c a->wpS P eG w i (c++l2) a
 | [],a,h=>e a h
 | o::c,a,h=>by
  simp only[tO];unfold wpS at h ⊢
  split
  ·rename_i f;rw[BY f] at h
   obtain⟨v,j,k⟩:=h;exact⟨v,j,As l2 e c _ k⟩
  ·rename_i f;rw[B1 f] at h
   exact As l2 e c _ h
theorem NN{Q1:hP->Act->By->Prop}(l2:Q0 Nm)(g:∀a w,Q1 .normal a w->fY μ P eG ks Q l2 a w)(i:∀e a w,e≠.normal->¬Q1 e a w)(c:Q0 Nm)(a:Act)(w:By)(h:fY μ P eG [] Q1 c a w):fY μ P eG ks Q (c++l2) a w:=by
 cases μ with
 | f O=>exact Bq l2 g (λe a w n q=>absurd q<|i e a w n) c a w h
 | s=>exact As l2 (λa h=>g a w h) c a h
def Vt(n:Nat)(D:Q0 AC)(d:Nat)(v:UV)(S:Q0 (Nat×UV))(F:Fz)(hs:Q0 HP):hP->Act->By->Prop:=λe a w=>e= .normal/\∃F',F<=F'/\Hd n D ((d,v)::S) F' hs a w
theorem Cz{S' :Q0 (Nat×UV)}(j:Nat)(c:S'.drop j=S)(e:fresh S (S'.take j)=true):Sub S S' :=λi v h=>by
 have:=Dc e h;rw[<-c,lf] at this
 exact this
theorem OB(h:Q .normal a w):fY μ P eG [] Q [] a w:=by cases μ<;>exact h
theorem GG.fin{S' :Q0 (Nat×UV)}{x:β}(j:Nat)(e:K4 S' d=some v)(f:S'.drop j=S)(g:fresh S (S'.take j)=true)(le:F<=F'):GL μ P eG [] [] (Vt n D d v S F hs) (Hd n D S' F' hs) (some x) x:=λ_ _ _ c=>OB ⟨rfl,F',le,c.1.sub<|Sub.cons e<|Cz j f g,c.2⟩
theorem GG.mS{α:Type}{g:K1 α}{f:α->K1 β}(k d:Nat)(V:α->UV)(h:∀z,GL μ P eG (l.take k) [] (Vt n D d (V z) S F hs) (Hd n D S F hs) g z)
  (next:∀z F',g=some z->F<=F'->GL μ P eG (l.drop k) ks Q (Hd n D ((d,V z)::S) F' hs) (f z) r):GL μ P eG l ks Q (Hd n D S F hs) (g.bind f) r:=by
 intro i a w q;cases j:g with
 | none=>rw[j] at i;cases i
 | some z=>
  rw[j] at i
  have s:=h z j a w q
  have:=NN (P:=P) (eG:=eG) (ks:=ks) (Q:=Q) (l.drop k) (Q1:=Vt n D d (V z) S F hs) (λp w' c=>by
   obtain⟨_,F',le,c⟩:=c;exact next z F' j le i p w' c) (λe p w' o c=>o c.1) (l.take k) a w s
  rwa[lf] at this
theorem GG.nj(k d:Nat)(h:GL μ P eG (l.take k) [] (Vt n D d v S F hs) (Hd n D S F hs) (some ()) ())
  (next:∀F',F<=F'->GL μ P eG (l.drop k) ks Q (Hd n D ((d,v)::S) F' hs) m r):GL μ P eG l ks Q (Hd n D S F hs) m r:=by
 intro i a w j;have o:=h rfl a w j
 have:=NN (P:=P) (eG:=eG) (ks:=ks) (Q:=Q) (l.drop k) (Q1:=Vt n D d v S F hs) (λg w' c=>by
  obtain⟨_,F',le,c⟩:=c;exact next F' le i g w' c) (λe g w' f c=>f c.1) (l.take k) a w o
 rwa[lf] at this
theorem GG.re{b':Bool}(k d:Nat)
  (e:b=true->GL μ P eG (l.take k) [] (Vt n D d (.bool b') S F hs) (Hd n D S F hs) (some ()) ())
  (f:b=false->GL μ P eG (l.take k) [] (Vt n D d (.bool false) S F hs) (Hd n D S F hs) (some ()) ())
  (next:∀F',F<=F'->GL μ P eG (l.drop k) ks Q (Hd n D ((d,.bool<|b&&b')::S) F' hs) m r):GL μ P eG l ks Q (Hd n D S F hs) m r:=
 GG.nj k d (by cases c:b with | true=>exact e c | false=>exact f c) next
theorem GG.nr{b':Bool}(k d:Nat)
  (e:b=false->GL μ P eG (l.take k) [] (Vt n D d (.bool b') S F hs) (Hd n D S F hs) (some ()) ())
  (f:b=true->GL μ P eG (l.take k) [] (Vt n D d (.bool true) S F hs) (Hd n D S F hs) (some ()) ())
  (next:∀F',F<=F'->GL μ P eG (l.drop k) ks Q (Hd n D ((d,.bool<|b||b')::S) F' hs) m r):GL μ P eG l ks Q (Hd n D S F hs) m r:=
 GG.nj k d (by cases c:b with | true=>exact f c | false=>exact e c) next
theorem GG.andM{c:K1 Bool}{f:Bool->K1 β}(k d:Nat)
  (h:b=true->∀z,GL μ P eG (l.take k) [] (Vt n D d (.bool z) S F hs) (Hd n D S F hs) c z)
  (i:b=false->GL μ P eG (l.take k) [] (Vt n D d (.bool false) S F hs) (Hd n D S F hs) (some ()) ())
  (next:∀z F',F<=F'->GL μ P eG (l.drop k) ks Q (Hd n D ((d,.bool z)::S) F' hs) (f z) r):GL μ P eG l ks Q (Hd n D S F hs) ((if b then c else some false).bind f) r:=
 GG.mS k d (λz=>.bool z) (by
  intro z;cases g:b with
  | true=>rw[BY rfl];exact h g z
  | false=>rw[B1 eF];intro e;simp only[W1] at e;subst e;exact i g rfl) (λz F' _ le=>next z F' le)
theorem GG.orM{c:K1 Bool}{f:Bool->K1 β}(k d:Nat)
  (h:b=false->∀z,GL μ P eG (l.take k) [] (Vt n D d (.bool z) S F hs) (Hd n D S F hs) c z)
  (i:b=true->GL μ P eG (l.take k) [] (Vt n D d (.bool true) S F hs) (Hd n D S F hs) (some ()) ())
  (next:∀z F',F<=F'->GL μ P eG (l.drop k) ks Q (Hd n D ((d,.bool z)::S) F' hs) (f z) r):GL μ P eG l ks Q (Hd n D S F hs) ((if b then some true else c).bind f) r:=
 GG.mS k d (λz=>.bool z) (by
  intro z;cases g:b with
  | true=>rw[BY rfl];intro e;simp only[W1] at e;subst e;exact i g rfl
  | false=>rw[B1 eF];exact h g z) (λz F' _ le=>next z F' le)
theorem GG.cD{e:K1 Tmp}{op:Op}{j t:Nat}{c:Bool}(f:b=c)(g:(eG[j]?).bind (·.dst)=some t)(h:K4 S t=some (.bool b))
  (k:GL μ P eG (⟨e,op,ty,pos,after,none⟩::rest) ks Q (Hd n D S F hs) m r):GL μ P eG (⟨e,op,ty,pos,after,some (j,c)⟩::rest) ks Q (Hd n D S F hs) m r:=
 GG.on g (f▸h) k
theorem GG.ca{op:Op}{j t:Nat}{c:Bool}(e:b= !c)(f:Nat.blt d n=true)(g:(eG[j]?).bind (·.dst)=some t)(h:K4 S t=some (.bool b))
  (k:GL μ P eG rest ks Q (Hd n D ((d,undef)::S) F hs) m r):GL μ P eG (⟨some d,op,ty,pos,after,some (j,c)⟩::rest) ks Q (Hd n D S F hs) m r:=
 GG.off f g h (by subst e;cases c<;>rfl) k
theorem GG.cE{c f e:L5}(g:b=true)(h:Nat.blt d n=true)(i:QQ S e=some (.bool b))(j:QQ S c=some v)(k:GL μ P eG rest ks Q (Hd n D ((d,v)::S) F hs) m r):GL μ P eG (⟨some d,.pick e c f,ty,pos,after,none⟩::rest) ks Q (Hd n D S F hs) m r:=GG.ri h (g▸i) j k
theorem GG.cW{f c e:L5}(g:b=false)(h:Nat.blt d n=true)(i:QQ S e=some (.bool b))(j:QQ S c=some v)(k:GL μ P eG rest ks Q (Hd n D ((d,v)::S) F hs) m r):GL μ P eG (⟨some d,.pick e f c,ty,pos,after,none⟩::rest) ks Q (Hd n D S F hs) m r:=GG.tp h (g▸i) j k
end
def Kb(L:Nat->Bool)(i:Nat):Nat->Bool:=λj=>if j=i then true else L j
theorem jg(Inv:(Nat->Bool)->Act->By->Prop)
  (z:∀i o,eG[i]? =some o->∀e∈o.after,Region.binds .any e=true->e.on < i)
  (s:∀L a w i o,eG[i]? =some o->L i=false->(∀e∈o.after,Region.binds .any e=true->L e.on=true)->Inv L a w->
   if Region.wanted o (yielded eG a.tmps) then yC O P o a w (Inv<|Kb L i) Q else Inv (Kb L i) (a.put o.dst undef) w)
  (p:∀L a w,(∀i,i < eG.size->L i=true)->Inv L a w->Q .normal a w):∀(c:Nat) (listed:So Bool) (a:Act) (w:By),listed.size=eG.size->(List.range eG.size).countP (λi=> !listed.getD i false)<=c->Inv (λi=>listed.getD i false) a w->wpAnyIn (Ry O) 0 P .any eG Q c listed a w:=by
 have l:∀(listed:So Bool),listed.size=eG.size->Region.ready .any eG listed=[]->∀i,i < eG.size->listed.getD i false=true:=by
  intro listed hs E i
  induction i using Nat.strongRecOn with
  | _ i F=>
   intro hi;cases t:listed.getD i false with
   | true=>rfl
   | false=>
    have q:i∈Region.ready .any eG listed:=by
     unfold Region.ready;simp only[sf,mn];refine⟨hi,?_⟩
     have K:listed.getD i true=false:=by
      simp only[kx] at t ⊢
      have:i < listed.size:=by omega
      simp[this] at t ⊢;exact t
     have y:eG[i]? =some eG[i]:=by simp[hi]
     rw[K,y];simp only[k4,L4,lv,mb,iL,nn,tb];intro e he;cases G:Region.binds .any e with
     | false=>exact .inl rfl
     | true=>
      have m:=z i _ y e he G;exact .inr<|F e.on m eB
    rw[E] at q;cases q
 intro c
 induction c with
 | zero=>
  intro listed a w hs I C
  have r:∀i,i < eG.size->listed.getD i false=true:=λi hi=>by
   have:=List.countP_eq_zero.1 (Nat.le_zero.1 I) i<|mn.2 hi;simpa using this
  refine⟨?_,p _ a w r C⟩;unfold Region.ready;apply el.2;intro i hi;have h:=r i<|mn.1 hi;have A:i < listed.size:=by rw[hs];exact mn.1 hi
  simp only[kx] at h
  simp[A] at h
  simp[A,h]
 | succ c F=>
  intro listed a w hs I C;refine⟨λE=>p _ a w (l listed hs E) C,λi hi=> ?_⟩;unfold Region.ready at hi
  simp only[sf,mn,Do,tb] at hi
  obtain⟨m,t,g⟩:=hi;have y:eG[i]? =some eG[i]:=by simp[m]
  rw[y] at g
  simp only[L4,lv,iL,nn,tb] at g
  have B:listed.getD i false=false:=by
   have:i < listed.size:=by omega
   simp only[kx] at t ⊢
   simp[this] at t ⊢;exact t
  have n:=s _ a w i _ y B (λe he G=>by
   rcases g e he with h | h
   ·rw[G] at h;cases h
   ·exact h) C
  have k:∀D w',Inv (Kb (λj=>listed.getD j false) i) D w'->wpAnyIn (Ry O) 0 P .any eG Q c (listed.setIfInBounds i true) D w' :=by
   intro D w' h
   have he:(λj=>(listed.setIfInBounds i true).getD j false)=Kb (λj=>listed.getD j false) i:=by
    funext j;simp only[Kb,kx];by_cases u:j=i
    ·subst u;have:j < listed.size:=by omega
     simp[this]
    ·simp[u,iu u]
   refine F _ D w' (by simpa using hs) ?_ (by rw[he];exact h)
   have N:(List.range eG.size).countP (λj=> !(listed.setIfInBounds i true).getD j false) < (List.range eG.size).countP (λj=> !listed.getD j false):=by
    have M:(λj=> !(listed.setIfInBounds i true).getD j false)=λj=>(!(Kb (λj=>listed.getD j false) i) j):=by
     funext j;rw[<-he]
    rw[M];refine countP_lt (x:=i) ?_ (mn.2 m) (by simp[B]) (by simp[Kb]);intro j u;simp only[Kb,tb] at u ⊢
    by_cases e:j=i
    ·simp[e] at u
    ·simpa[e] using u
   omega
  unfold wpOpIn;rw[y];simp only[];split
  ·rename_i H;rw[BY H] at n
   exact(SB k n).wpIn
  ·rename_i H;rw[B1 H] at n
   exact⟨λf _=>B7 O f,k _ _ n⟩
where
 countP_lt {α:Type} {p q:α->Bool} {l:Q0 α} {x:α} (h:∀y,p y=true->q y=true) (hx:x∈l) (hq:q x=true) (hp:p x=false):l.countP p < l.countP q:=by
  induction l with
  | nil=>cases hx
  | cons y l ih=>
   simp only[List.countP_cons];have hle:l.countP p<=l.countP q:=List.countP_mono_left λz _ hz=>h z hz;rcases TO.1 hx with rfl | hx'
   ·simp[hq,hp];omega
   ·have:=ih hx'
    have:(if p y=true then 1 else 0)<=(if q y=true then 1 else 0):=by
     split
     ·rename_i hy;simp[h y hy]
     ·omega
    omega
theorem X0{id:Nat}(h:P.follows .mixedOrders=true)(Inv:(Nat->Bool)->Act->By->Prop)
  (f:∀i o,eG[i]? =some o->∀e∈o.after,Region.binds .any e=true->e.on < i)
  (j:Inv (λ_=>false) a {w with drawn:=w.drawn+1})
  (c:∀L a w i o,eG[i]? =some o->L i=false->(∀e∈o.after,Region.binds .any e=true->L e.on=true)->Inv L a w->
   if Region.wanted o (yielded eG a.tmps) then yC O P o a w (Inv<|Kb L i) Q else Inv (Kb L i) (a.put o.dst undef) w)
  (g:∀L a w,(∀i,i < eG.size->L i=true)->Inv L a w->Q .normal a w):(Code.region id eG true).wpIn (Ry O) 0 P Q a w:=by
 refine wpIn_region_any h<|jg Inv f c g _ _ _ _ eF ?_ ?_
 ·exact mz List.countP_le_length eF
 ·have:(λi=>(Array.replicate eG.size false).getD i false)=λ_=>false:=by
   funext i;simp only[kx,Array.getElem?_replicate];split<;>rfl
  rw[this];exact j
def LK:Nat->Q0 Nm->Bool
 | _,[]=>true
 | i,o::l=>o.after.toList.all (λe=> !Region.binds .any e||Nat.blt e.on i)&&LK (i+1) l
theorem HQ:∀{k:Nat} {l:Q0 Nm},LK k l=true->∀i o,l[i]? =some o->∀e∈o.after,Region.binds .any e=true->e.on < k+i
 | _,[],_,i,o,h,_,_,_=>by simp at h
 | k,x::l,f,0,o,h,e,he,c=>by
  simp at h;subst h
  simp only[LK,Do,IN,nn,tb] at f
  rcases f.1 e (by simpa using he) with h | h
  ·rw[c] at h;cases h
  ·have:=A4 h;simp at this ⊢;omega
 | k,x::l,f,i+1,o,h,e,he,c=>by
  simp only[LK,Do] at f
  have:=HQ f.2 i o (by simpa using h) e he c;omega
def Im:Nat->Q0 Nm->Bool
 | _,[]=>true
 | i,o::l=>(List.range i).all (λj=>o.after.toList.any λe=>Nat.beq e.on j&&Region.binds .any e)&&Im (i+1) l
theorem NT:∀{k:Nat} {l:Q0 Nm},Im k l=true->∀i o,l[i]? =some o->∀j,j < k+i->∃e∈o.after,e.on=j/\Region.binds .any e=true
 | _,[],_,i,o,h,_,_=>by simp at h
 | k,x::l,c,0,o,h,j,f=>by
  simp at h;subst h
  simp only[Im,Do,IN,mn,n1] at c
  obtain⟨e,he,g,m⟩:=c.1 j (by simpa using f);exact⟨e,by simpa using he,j0 g,m⟩
 | k,x::l,c,i+1,o,h,j,f=>by
  simp only[Im,Do] at c
  exact NT c.2 i o (by simpa using h) j eB
theorem Nc{c:Q0 (Nat×UV)}(h:Sub c S)(f:TF d c=false)(v:UV):Sub c ((d,v)::S):=λi u e=>by
 simp only[K4];cases g:Nat.beq d i with
 | true=>
  have:d=i:=j0 g;subst this;rw[Ft e] at f;cases f
 | false=>exact h i u e
theorem Ph{i:Nat}{u:UV}(c:d≠i)(e:K4 S i=some u):K4 ((d,v)::S) i=some u:=by
 simp only[K4];cases f:Nat.beq d i with
 | true=>exact absurd (j0 f) c
 | false=>exact e
theorem BM:K4 ((d,v)::S) d=some v:=by simp[K4]
theorem PK{o:Nm}{c:hP->Act->By->Prop}{K:Act->By->Prop}(j:∀e a w,e≠.normal->c e a w->False)(i:∀a w,c .normal a w->K a w)(h:Xl O P eG c [o] a w):if Region.wanted o (yielded eG a.tmps) then yC O P o a w K Q else K (a.put o.dst undef) w:=by
 unfold Xl at h
 split
 ·rename_i f;rw[BY f] at h
  exact R9 i (λe a w g k=>(j e a w g k).elim) h
 ·rename_i f;rw[B1 f] at h
  exact i _ _ h
end
section
variable{α:Type}{p:K1 C3}{l:Q0 α}{sz cap e o n t b i:Nat}{us:Q0 UV}{F F':Fz}{P:B3}{T:S1}{w:By}{x:Int}
variable{O:K1 Nat}{μ:Md}
abbrev Uo(α:Type):Type:=Fz->α->Q0 UV->Prop
variable{c:Uo α}
abbrev Ex(c:α->Q0 UV):Uo α:=λ_ x vs=>vs=c x
def QG(sz:Nat)(c:Uo α)(F:Fz)(p:K1 C3)(cap:Nat)(l:Q0 α):Prop:=l.length<=cap/\cap<=9223372036854775807/\(l=[]∨∃b o cs T fr,p=some ⟨b,o,none⟩/\F.mem b=some (.cells cs T fr)/\∀i x,l[i]? =some x->∀F',F<=F'->c F' x ((cs.toList.drop<|o+i*sz).take sz))
theorem QG.mono(h:QG sz c F p cap l)(le:F<=F'):QG sz c F' p cap l:=by
 obtain⟨f,g,a⟩:=h;refine⟨f,g,?_⟩;rcases a with h | ⟨b,o,cs,T,fr,a,j,k⟩
 ·exact .inl h
 ·exact .inr ⟨b,o,cs,T,fr,a,le.mem _ _ j,λi x m F' d=>k i x m F'<|Fz.le_trans le d⟩
theorem QG.nil{α:Type}{sz:Nat}{c:Uo α}{F:Fz}:QG sz c F none 0 ([]:Q0 α):=⟨S2 _,by simp,.inl rfl⟩
theorem QI{cs vs:Q0 UV}{z k:Nat}{v:UV}(h:(cs.drop o).take z=vs)(a:vs[k]? =some v):cs[o+k]? =some v:=by
 rw[<-h,yb,me] at a
 split at a
 ·exact a
 ·cases a
def ZX(l:Q0 α)(i:Int):K1 α:=if 0<=i then l[i.toNat]? else none
theorem GF{i:Int}{x:α}(h:ZX l i=some x):0<=i/\i.toNat < l.length/\l[i.toNat]? =some x:=by
 unfold ZX at h
 split at h
 ·rename_i a;refine⟨a,?_,h⟩;rcases kn i.toNat l.length with h' | h'
  ·exact h'
  ·rw[s8 h'] at h;cases h
 ·cases h
theorem QG.at_(h:QG sz c F p cap l){k:Nat}{x:α}(d:l[k]? =some x):∃b o T fr,∃cs:Q0 UV,p=some ⟨b,o,none⟩/\F.mem b=some (.cells cs.toArray T fr)/\c F x ((cs.drop<|o+k*sz).take sz):=by
 obtain⟨_,_,a⟩:=h;rcases a with h | ⟨b,o,cs,T,fr,a,f,g⟩
 ·subst h;simp at d
 ·exact⟨b,o,T,fr,cs.toList,a,by simpa using f,by simpa using g k x d F (Fz.le_refl F)⟩
section
variable{β:Type}{P:B3}{eG:So Nm}{rest:Q0 Nm}{ks:Q0 Kt}{Q:hP->Act->By->Prop}{m:K1 β}{r:β}
variable{n:Nat}{D:Q0 AC}{S:Q0 (Nat×UV)}{F:Fz}{hs:Q0 HP}
variable{d:Nat}{ty t t' :S1}{pos:String}{after:So lY}{ox oy oz:L5}{v u:UV}{kd:r6}{x y:Int}
theorem GG.mO{z:α}(a:Nat.blt d n=true)(f:P.underlying t=some (.slice e))(g:∀w,(sizeOf e).run P w= .ok sz w)
  (h:QG sz c F p cap l) (j:QQ S ox=some (.slice p l.length cap)) (q:QQ S oy=some (.int kd x)) (hi:ZX l x=some z)
  (k:∀b o T fr cs,F.mem b=some (.cells (List.toArray cs) T fr)->c F z ((cs.drop o).take sz)->GL μ P eG rest ks Q (Hd n D ((d,.pointer<|some ⟨b,o,none⟩)::S) F hs) m r):GL μ P eG (⟨some d,.indexAddr t ox oy,ty,pos,after,none⟩::rest) ks Q (Hd n D S F hs) m r:=by
 obtain⟨E,G,s⟩:=GF hi;obtain⟨b,o,T,fr,cs,rfl,A,B⟩:=h.at_ s;have C:Yu l.length x=some x.toNat:=by unfold Yu;rw[BY eB]
 exact GG.aC a f g j q C<|k b _ T fr cs A B
theorem GG.idx{f:α->K1 β}(a:Nat.blt d n=true)(g:P.underlying t=some (.slice e))(h:∀w,(sizeOf e).run P w= .ok sz w)
  (j:QG sz c F p cap l) (q:QQ S ox=some (.slice p l.length cap)) (s:QQ S oy=some (.int kd x))
  (k:∀z b o T fr cs,ZX l x=some z->F.mem b=some (.cells (List.toArray cs) T fr)->c F z ((cs.drop o).take sz)->GL μ P eG rest ks Q (Hd n D ((d,.pointer<|some ⟨b,o,none⟩)::S) F hs) (f z) r):GL μ P eG (⟨some d,.indexAddr t ox oy,ty,pos,after,none⟩::rest) ks Q (Hd n D S F hs) ((ZX l x).bind f) r:=
 GG.bind λz hi=>GG.mO a g h j q s hi λb o T fr cs A B=>k z b o T fr cs hi A B
def ZZ(l:Q0 α)(lo hi:Int):K1 (Q0 α):=if 0<=lo/\lo<=hi/\hi<=l.length then some ((l.drop lo.toNat).take<|hi.toNat - lo.toNat) else none
theorem QG.cut{cap':Nat}(h:QG sz c F p cap l){lo hi:Nat}(_h1:lo<=hi)(k:hi<=l.length)(q:hi - lo<=cap')(s:cap'<=cap):QG sz c F (p.map (·.add (lo*sz))) cap' ((l.drop lo).take<|hi - lo):=by
 obtain⟨z,A,j⟩:=h;refine⟨by simp;omega,by omega,?_⟩;rcases j with h | ⟨b,o,cs,T,fr,rfl,f,g⟩
 ·subst h;left;simp
 ·refine .inr ⟨b,o+lo*sz,cs,T,fr,by simp[HA],f,λi x a=> ?_⟩;rw[yb,me] at a
  split at a
  ·intro F' le;have:=g (lo+i) x a F' le;rw[show o+lo*sz+i*sz=o+(lo+i)*sz by rw[mq];omega];exact this
  ·cases a
theorem QG.nV{p':K1 C3}(h:QG sz c F p cap ([]:Q0 α)):QG sz c F p' cap ([]:Q0 α):=⟨h.1,h.2.1,.inl rfl⟩
theorem Wc{i:Int}{y:Nat}{code:BoundsCode}(h:0<=i/\i<=y):(Instr.sliceBound (.int kd i) y code).run P w= .ok i.toNat w:=by
 simp[Instr.sliceBound,asIntOf,h]
theorem OU{t len:Nat}{lo:Int}(a:P.underlying t=some (.slice e))(f:∀w,(sizeOf e).run P w= .ok sz w)(h:0<=lo/\lo<=len):(Instr.sliceAt t (.slice p len cap) (some<|.int kd lo) none none).run P w= .ok (.slice (if cap=lo.toNat then p else p.map (·.add (lo.toNat*sz))) (len - lo.toNat)<|cap - lo.toNat) w:=by
 simp only[Instr.sliceAt,j3,YG a,Result.andThen,Instr.slice,Instr.sliceBounds,lI,lM,W2,Bm];rw[Wc h];simp[f]
theorem Tl{t len:Nat}{hi:Int}(a:P.underlying t=some (.slice e))(f:∀w,(sizeOf e).run P w= .ok sz w)(h:0<=hi/\hi<=cap):(Instr.sliceAt t (.slice p len cap) none (some<|.int kd hi) none).run P w= .ok (.slice (if cap=0 then p else p.map (·.add (0*sz))) hi.toNat cap) w:=by
 simp only[Instr.sliceAt,j3,YG a,Result.andThen,Instr.slice,Instr.sliceBounds,lI,lM,W2,Bm,B2];rw[Wc h];simp[f]
theorem LH{t len:Nat}{hi a:Int}{f:r6}(g:P.underlying t=some (.slice e))(j:∀w,(sizeOf e).run P w= .ok sz w)(h:0<=hi/\hi<=a)(h' :a<=cap):(Instr.sliceAt t (.slice p len cap) none (some<|.int kd hi)<|some<|.int f a).run P w= .ok (.slice (if a.toNat=0 then p else p.map (·.add (0*sz))) hi.toNat a.toNat) w:=by
 simp only[Instr.sliceAt,j3,YG g,Result.andThen,Instr.slice,Instr.sliceBounds,lI,ek,W2,Bm,B2];rw[Wc (kd:=f) eB];simp only[];rw[Wc eB];simp[j]
theorem zh{p':K1 C3}{q:Prop}[Decidable q](a:q->QG sz c F p cap l)(f:QG sz c F p' cap l):QG sz c F (if q then p else p') cap l:=by
 split
 ·rename_i h;exact a h
 ·exact f
theorem GG.sr{f:Q0 α->K1 β}(E:Nat.blt d n=true)(G:P.underlying t=some (.slice e))(H:∀w,(sizeOf e).run P w= .ok sz w)
  (A:QG sz c F p cap l) (I:QQ S ox=some (.slice p l.length cap)) (K:QQ S oy=some (.int kd x))
  (k:∀l' p' c',ZZ l x l.length=some l'->QG sz c F p' c' l'->GL μ P eG rest ks Q (Hd n D ((d,.slice p' l'.length c')::S) F hs) (f l') r):GL μ P eG (⟨some d,.slice t ox (some oy) none none,ty,pos,after,none⟩::rest) ks Q (Hd n D S F hs) ((ZZ l x l.length).bind f) r:=
 GG.bind λl' j=>by
  have z:=j;unfold ZZ at j
  split at j
  ·rename_i h;simp only[W1] at j
   have g:QG sz c F (p.map (·.add (x.toNat*sz))) (cap - x.toNat) l' :=by
    have:=A.cut (lo:=x.toNat) (hi:=l.length) (cap' :=cap - x.toNat) eB (S2 _) (by have:=A.1;omega) eB;simp only[hR] at j
    rw[<-j];exact this
   have q:l'.length=l.length - x.toNat:=by rw[<-j];simp
   have s:QG sz c F (if cap=x.toNat then p else p.map (·.add (x.toNat*sz))) (cap - x.toNat) l' :=zh (λh=>by
    have:l' =[]:=by
     have:=g.1;rw[<-h] at this;simp at this;exact this
    subst this;exact g.nV) g
   have B:=k l' _ _ z s;rw[q] at B
   refine GG.val E (λa w C=> ?_) B;simp only[execOp,C.1.eval I,C.1.eval K,L4,lZ,j3];rw[OU G H eB];rfl
  ·cases j
theorem GG.a8{A:r6}{f:Q0 α->K1 β}(G:Nat.blt d n=true)(H:P.underlying t=some (.slice e))(I:∀w,(sizeOf e).run P w= .ok sz w)
  (z:QG sz c F p cap l) (K:QQ S ox=some (.slice p l.length cap)) (L:QQ S oy=some (.int kd x)) (M:QQ S oz=some (.int A x))
  (k:∀l' p' c',ZZ l 0 x=some l'->QG sz c F p' c' l'->GL μ P eG rest ks Q (Hd n D ((d,.slice p' l'.length c')::S) F hs) (f l') r):GL μ P eG (⟨some d,.slice t ox none (some oy)<|some oz,ty,pos,after,none⟩::rest) ks Q (Hd n D S F hs) ((ZZ l 0 x).bind f) r:=
 GG.bind λl' j=>by
  have B:=j;unfold ZZ at j
  split at j
  ·rename_i h;simp only[W1] at j
   have g:QG sz c F (p.map (·.add (0*sz))) x.toNat l' :=by
    have:=z.cut (lo:=0) (hi:=x.toNat) (cap' :=x.toNat) eB eB eB (by have:=z.1;omega);simp only[oU] at this
    rw[<-j];exact this
   have q:l'.length=x.toNat:=by rw[<-j];simp;omega
   have s:QG sz c F (if x.toNat=0 then p else p.map (·.add (0*sz))) x.toNat l' :=zh (λh=>by
    have:l' =[]:=by have:=g.1;rw[h] at this;simp at this;exact this
    subst this;exact g.nV) g
   have E:=k l' _ _ B s;rw[q] at E
   refine GG.val G (λa w C=> ?_) E;simp only[execOp,C.1.eval K,C.1.eval L,C.1.eval M,L4,lZ,j3];rw[LH H I (by have:=z.1;omega) (by have:=z.1;omega)];rfl
  ·cases j
theorem QG.rl{T len:Nat}{cs:Q0 UV}{fr:Nat×Nat}(f:F.mem b=some (.cells cs.toArray T fr))(g:l.length=len)(a:Nat.ble len 1000000=true)(h:∀i x,l[i]? =some x->∀F',F<=F'->c F' x ((cs.drop<|o+i*sz).take sz)):QG sz c F (some ⟨b,o,none⟩) len l:=by
 have:=A4 a;exact⟨by omega,by omega,.inr ⟨b,o,cs.toArray,T,fr,rfl,f,by simpa using h⟩⟩
theorem GG.tA{len:Nat}(f:Nat.blt d n=true)(g:P.underlying t=some (.array len e))(h:∀w,(sizeOf e).run P w= .ok sz w)(j:QQ S ox=some (.pointer<|some ⟨b,o,none⟩))(q:Nat.blt 0 len=true)
  (k:GL μ P eG rest ks Q (Hd n D ((d,.slice (some ⟨b,o,none⟩) len len)::S) F hs) m r):GL μ P eG (⟨some d,.slice t ox none none none,ty,pos,after,none⟩::rest) ks Q (Hd n D S F hs) m r:=
 GG.val f (λa w s=>by
  have:0 < len:=A4 q;simp[execOp,s.1.eval j,Instr.sliceAt,YG g,Instr.sureAddr,Instr.sliceBounds,h,HA]) k
end
def Jj(sz:Nat)(c:Uo α)(F:Fz)(l:Q0 α)(us:Q0 UV):Prop:=∀i x,l[i]? =some x->∀F',F<=F'->c F' x ((us.drop<|i*sz).take sz)
theorem Zx{x:α}(h:l[i]? =some x):i < l.length:=by
 rcases kn i l.length with h' | h'
 ·exact h'
 ·rw[s8 h'] at h;cases h
theorem Jj.mono(h:Jj sz c F l us)(le:F<=F'):Jj sz c F' l us:=λi x d G a=>h i x d G<|Fz.le_trans le a
theorem Jj.nil{α:Type}{sz:Nat}{c:Uo α}{F:Fz}{us:Q0 UV}:Jj sz c F [] us:=λi x h=>by simp at h
theorem EH(h:i < n):(((us.take<|n*sz).drop<|i*sz).take sz)=((us.drop<|i*sz).take sz):=by
 rw[List.drop_take,List.take_take];congr 1;rw[<-Nat.sub_mul];have:1<=n - i:=by omega
 have:=lS sz this;omega
theorem Jj.take(h:Jj sz c F l us):Jj sz c F l (us.take<|l.length*sz):=λi x a F' le=>by
 rw[EH<|Zx a];exact h i x a F' le
theorem Jj.pZ(h:Jj sz c F l (us.take<|l.length*sz)):Jj sz c F l us:=λi x a F' le=>by
 rw[<-EH (Zx a)];exact h i x a F' le
theorem Jj.len(f:∀F x vs,c F x vs->vs.length=sz)(h:Jj sz c F l us):l.length*sz<=us.length:=by
 rcases oF l.length with a | a
 ·rw[a];simp
 ·have g:l[l.length - 1]? =some (l[l.length - 1]'(by omega)):=C1 _;have:=f _ _ _<|h _ _ g F<|Fz.le_refl F;simp only[oR,lK] at this
  rcases oF sz with d | d
  ·rw[d];simp
  ·have e:l.length*sz=(l.length - 1)*sz+sz:=by
    rw[show l.length=l.length - 1+1 by omega,mq];simp
   omega
theorem Jj.append{l2:Q0 α}{us2:Q0 UV}(h:Jj sz c F l us)(f:Jj sz c F l2 us2)(d:us.length=l.length*sz):Jj sz c F (l++l2) (us++us2):=λi x a F' le=>by
 rcases kn i l.length with hi | hi
 ·rw[u1 hi] at a
  have e:((us++us2).drop<|i*sz).take sz=(us.drop<|i*sz).take sz:=by
   have:i*sz+sz<=us.length:=by
    rw[d,show i*sz+sz=(i+1)*sz by rw[mq];omega];exact lS sz hi
   rw[lW eB,List.take_append_of_le_length eE]
  rw[e];exact h i x a F' le
 ·rw[s5 hi] at a
  have e:(us++us2).drop (i*sz)=us2.drop ((i - l.length)*sz):=by
   have:us.length<=i*sz:=by rw[d];exact lS sz hi
   rw[List.drop_append];rw[oX this,r7,d,Nat.sub_mul]
  rw[e];exact f _ x a F' le
theorem Jj.a7{us2:Q0 UV}(h:Jj sz c F l us)(a:us.length=l.length*sz):Jj sz c F l (us++us2):=by
 have:=h.append (l2:=[]) (us2:=us2) Jj.nil a;simpa using this
theorem Jj.all(g:∀F x vs,c F x vs->vs.all Value.oneCell' =true)(h:Jj sz c F l us):(us.take<|l.length*sz).all Value.oneCell' =true:=by
 rw[IN];intro v k;obtain⟨j,m,e⟩:=mv k;simp only[oR] at m
 have a:j < l.length*sz:=by omega
 have d:0 < sz:=by
  rcases oF sz with f | f
  ·subst f;simp at a
  ·exact f
 have hi:j / sz < l.length:=(Nat.div_lt_iff_lt_mul d).2 a;have q:l[j / sz]? =some (l[j / sz]'hi):=C1 _;have:=g _ _ _<|h _ _ q F<|Fz.le_refl F;rw[IN] at this
 apply this;rw[List.getElem_take] at e
 have r:j%sz < sz:=o1 _ d;have s:j=j / sz*sz+j%sz:=by have:=Nat.div_add_mod j sz;rw[Nat.mul_comm] at this;omega
 rw[List.mem_iff_getElem];refine⟨j%sz,by simp;omega,?_⟩;rw[List.getElem_take,List.getElem_drop,<-e];congr 1;omega
def Ql(sz:Nat)(c:Uo α)(F:Fz)(T:S1)(p:K1 C3)(cap:Nat)(l:Q0 α):HP:=λm=>
 l.length<=cap/\cap<=9223372036854775807/\((p=none/\cap=0)∨∃b cs,p=some ⟨b,0,none⟩/\pt b (.cells (List.toArray cs) T (0,0)) m/\cs.length=cap*sz/\Jj sz c F l cs)
theorem Pb{m:Mem}:Ql sz c F T none 0 ([]:Q0 α) m:=⟨S2 _,by simp,.inl ⟨rfl,rfl⟩⟩
theorem WB{m:Mem}(le:F<=F')(h:Ql sz c F T p cap l m):Ql sz c F' T p cap l m:=by
 obtain⟨d,f,a⟩:=h;rcases a with a | ⟨b,cs,e,g,j,k⟩
 ·exact⟨d,f,.inl a⟩
 ·exact⟨d,f,.inr ⟨b,cs,e,g,j,k.mono le⟩⟩
theorem SH.cZ{F0:Fz}{H:HP}(a:F0<=F)(h:SH w F (star (Ql sz c F0 T p cap l) H)):∃F',F<=F'/\SH w F' H/\QG sz c F' p cap l:=by
 obtain⟨m,⟨u,g,d,v,j,⟨q,r,y⟩,s⟩,k⟩:=h;rcases y with⟨rfl,rfl⟩ | ⟨b,cs,rfl,z,D,A⟩
 ·refine⟨F,Fz.le_refl F,⟨g,s,k.sub j⟩,q,r,.inl<|RW eB⟩
 ·have B:SH w F (star (pt b<|.cells cs.toArray T (0,0)) H):=⟨m,⟨u,g,d,v,j,z,s⟩,k⟩;obtain⟨le,hs⟩:=B.freeze;refine⟨_,le,hs,q,r,.inr ⟨b,0,cs.toArray,T,(0,0),rfl,Fz.cv ..,λi x C F' f=> ?_⟩⟩;have:=A i x C F'<|Fz.le_trans a<|Fz.le_trans le f;simpa using this
section
variable{β:Type}{P:B3}{eG:So Nm}{rest:Q0 Nm}{ks:Q0 Kt}{Q:hP->Act->By->Prop}{m:K1 β}{r:β}
variable{n:Nat}{D:Q0 AC}{S:Q0 (Nat×UV)}{F F0:Fz}{hs:Q0 HP}
theorem GG.c6{g:Gp}(sz:Nat)(c:Uo α)(T:S1)(k:GG g (Hd n D S F<|Ql sz c F T none 0 []::hs) m r):GG g (Hd n D S F hs) m r:=by
 exact λh a w f=>k h a w ⟨f.1,f.2.mono λm d=>⟨λ_=>none,m,λ_=>.inl rfl,λ_ _ e=>by simp at e,Mem.sub.refl _,Pb,d⟩⟩
theorem SH.aU(le:F0<=F)(hi:hs[i]? =some (Ql sz c F0 T p cap l))(h:SH w F (Qh hs)):SH w F (Qh<|hs.set i<|Ql sz c F T p cap l):=SH.push hi ((h.pull hi).mono λ_m a=>QP (λ_=>WB le) a)
theorem GG.aU{g:Gp}(i:Nat)(le:F0<=F)(hi:hs[i]? =some (Ql sz c F0 T p cap l))(k:GG g (Hd n D S F<|hs.set i<|Ql sz c F T p cap l) m r):GG g (Hd n D S F hs) m r:=by
 exact λf a w d=>k f a w ⟨d.1,d.2.aU le hi⟩
theorem GG.cZ{g:Gp}(i:Nat)(hi:hs[i]? =some (Ql sz c F0 T p cap l))(d:F0<=F)
  (k:∀F',F<=F'->QG sz c F' p cap l->GG g (Hd n D S F'<|hs.eraseIdx i) m r):GG g (Hd n D S F hs) m r:=by
 exact λh a w f=>by
   obtain⟨F',le,j,q⟩:=(f.2.pull hi).cZ d;exact k F' le q h a w ⟨f.1,j⟩
theorem QG.sv{z:α}(d:QG sz c F p cap l)(hi:ZX l x=some z):∃b o T fr cs,F.mem b=some (.cells (List.toArray cs) T fr)/\c F z ((cs.drop o).take sz)/\∃a,p=some ⟨b,a,none⟩/\o=a+x.toNat*sz/\Yu l.length x=some x.toNat:=by
 obtain⟨j,k,f⟩:=GF hi;obtain⟨b,o,T,fr,cs,rfl,g,h⟩:=d.at_ f;exact⟨b,_,T,fr,cs,g,h,o,rfl,rfl,by unfold Yu;rw[BY eB]⟩
theorem GG.se{d:Nat}{ty t e:S1}{pos:String}{after:So lY}{f g:L5}{kd:r6}{len:Nat}(h:Nat.blt d n=true)(j:P.underlying t=some (.slice e))(q:∀w,(sizeOf e).run P w= .ok sz w)
  (s:∃a,p=some ⟨b,a,none⟩/\o=a+x.toNat*sz/\Yu len x=some x.toNat) (u:QQ S f=some (.slice p len cap)) (v:QQ S g=some (.int kd x))
  (k:GL μ P eG rest ks Q (Hd n D ((d,.pointer<|some ⟨b,o,none⟩)::S) F hs) m r):GL μ P eG (⟨some d,.indexAddr t f g,ty,pos,after,none⟩::rest) ks Q (Hd n D S F hs) m r:=by
 obtain⟨a,rfl,rfl,y⟩:=s;exact GG.aC h j q u v y k
end
end
section
variable{α:Type}{sz cap:Nat}{c:Uo α}{l:Q0 α}{P:B3}{p:K1 C3}{F:Fz}
variable{O:K1 Nat}{μ:Md}
theorem jv{k:Nat}(g:∀F x vs,c F x vs->vs.length=sz)(a:∀F x vs,c F x vs->vs.all Value.oneCell' =true)(h:QG sz c F p cap l):∃us:Q0 UV,us.length=l.length*sz/\Jj sz c F l us/\us.all Value.oneCell' =true/\∀w:By,(∀b o,F.mem b=some o->w.heap[b]? =some o)->(Builtin.firstCells sz l.length<|.slice p k cap).run P w= .ok us.toArray w:=by
 obtain⟨_,_,j⟩:=h;rcases j with h | ⟨b,o,cs,T,fr,rfl,m,n⟩
 ·subst h;refine⟨[],by simp,Jj.nil,rfl,λw _=> ?_⟩;cases p<;>simp[Builtin.firstCells,loadCells,loadCellsFrom]
 ·have d:Jj sz c F l (cs.toList.drop o):=λi x q r le=>by rw[en];exact n i x q r le
  have f:=d.len g;refine⟨(cs.toList.drop o).take<|l.length*sz,by simp at f ⊢;omega,d.take,d.all a,λw s=> ?_⟩;have e:w.heap[b]? =some (.cells cs.toList.toArray T fr):=by simpa using s _ _ m
  simp only[Builtin.firstCells];exact Hb e rfl (by simp at f ⊢;omega)
def VU(l k:Q0 α):K1 (Q0 α):=if l.length+k.length<=4294967296 then some (l++k) else none
theorem Ed(a:Nat):∀(rounds c:Nat),c<=2*a+1000->Builtin.growBy a rounds c<=2*a+1000
 | 0,c,h=>by simpa only[Builtin.growBy] using h
 | rounds+1,c,h=>by
  simp only[Builtin.growBy];split
  ·exact h
  ·exact Ed a rounds _ eB
theorem z8{a:Nat}(h:cap < a):Builtin.nextslicecap a cap<=4*a+4000:=by
 unfold Builtin.nextslicecap;split
 ·omega
 ·split
  ·omega
  ·have:=Ed a 4 cap eB;omega
theorem FC:∀(vs cs:Q0 UV) (o:Nat),o+vs.length<=cs.length->(Kp cs o vs).take (o+vs.length)=cs.take o++vs
 | [],cs,o,_=>by simp[Kp]
 | v::vs,cs,o,h=>by
  simp only[OF] at h
  have:=FC vs (cs.set o v) (o+1) eE;simp only[Kp,OF];rw[show o+(vs.length+1)=o+1+vs.length by omega,this]
  have e:(cs.set o v).take (o+1)=cs.take o++[v]:=by
   rw[List.take_succ_eq_append_getElem eE];rw[List.getElem_set_self,List.take_set,List.set_eq_of_length_le eE]
  rw[e];simp
def GU(a cap by_:Nat):Prop:=Builtin.nextslicecap a cap*by_<=281474976710656
theorem SD{a by_:Nat}(h:cap < a)(d:a<=4294967296)(b:by_<=4096):GU a cap by_:=by
 have:=z8 h;unfold GU;exact mz (Nat.mul_le_mul this b) eB
theorem zb{w:By}{F0:Fz}{H:HP}{e t t2 e2 by_:Nat}{p2:K1 C3}{g:Nat}{l2:Q0 α}{z:UV}{T:So S1}{ty:S1}{ti:TypeInfo}
   (N:F0<=F) (hc:∀F x vs,c F x vs->vs.length=sz) (Q:∀F x vs,c F x vs->vs.all Value.oneCell' =true) (ht:P.underlying t=some (.slice e)) (A:P.underlying t2=some (.slice e2)) (hz:∀w,(sizeOf e).run P w= .ok sz w) (aF:∀w,(typeInfo e).run P w= .ok ti w) (aG:ti.bytes=by_) (aH:by_≠0) (aI:by_<=4096) (hzero:∀w,(zeroValue e).run P w= .ok z w) (aJ:z.cells.size=sz)
   (B:T[0]? =some t) (D:T[1]? =some t2) (h:SH w F (star (Ql sz c F0 e p cap l) H)) (hr:QG sz c F p2 g l2) (R:l.length+l2.length<=4294967296):∃p' cap' w',(Builtin.append_ T ty #[.slice p l.length cap,.slice p2 l2.length g]).run P w= .ok (.slice p' (l++l2).length cap') w'/\SH w' F (star (Ql sz c F e p' cap'<|l++l2) H):=by
 have S:∀b o,F.mem b=some o->w.heap[b]? =some o:=λb o e=>h.frozen e;obtain⟨us2,f,V,W,j⟩:=jv (P:=P) (k:=l2.length) hc Q hr;have n:=j w S;obtain⟨m,⟨m1,m2,d,s1,s2,⟨h1,h2,h3⟩,hq⟩,k⟩:=h;by_cases a:l.length+l2.length<=cap
 ·
   rcases h3 with⟨rfl,rfl⟩ | ⟨b,cs,rfl,hb,hl,hp⟩
   ·have e1:l=[]:=RW eB;have e2:l2=[]:=RW eB;subst e1 e2;refine⟨none,0,w,?_,⟨m,⟨m1,m2,d,s1,s2,⟨by simp,by simp,.inl ⟨rfl,rfl⟩⟩,hq⟩,k⟩⟩;simp only[Builtin.append_];simp[B,D,YG ht,YG A,hz,Builtin.lenOf];simp only[kp] at n f
    have:us2=[]:=RW (by simpa using f);simp[n,this]
   ·have hh:SH w F (star (pt b<|.cells cs.toArray e (0,0)) H):=⟨m,⟨m1,m2,d,s1,s2,hb,hq⟩,k⟩;have aR:=hh.owned
    have r:l.length*sz+us2.length<=cs.length:=by
     rw[f,hl,<-mq];exact lS sz a
    have X:=XO (P:=P) (o:=l.length*sz) (i:=0) aR (by simpa using r) W;simp only[iD] at X
    refine⟨some ⟨b,0,none⟩,cap,put w b<|.cells (Kp cs (l.length*sz) us2).toArray e (0,0),?_,?_⟩
    ·simp only[Builtin.append_];simp[B,D,YG ht,YG A,hz,Builtin.lenOf,n,a,HA,X]
    ·have aS:=hh.put (o' :=.cells (Kp cs (l.length*sz) us2).toArray e (0,0));refine aS.mono λm hm=>QP (λm' E=>⟨by simp;exact a,h2,.inr ⟨b,_,rfl,E,by rw[Hk];exact hl,?_⟩⟩) hm;have:=FC us2 cs (l.length*sz) r;rw[f,<-mq] at this
     apply Jj.pZ;rw[x4,this];exact(hp.mono N).take.append V eE
 ·
   have hn:GU (l.length+l2.length) cap by_:=SD (Nat.lt_of_not_le a) R aI
   have s:∃us:Q0 UV,us.length=l.length*sz/\Jj sz c F l us/\∀w' :By,w'.heap=w.heap->(Builtin.firstCells sz l.length<|.slice p l.length cap).run P w' = .ok us.toArray w' :=by
    rcases h3 with⟨rfl,rfl⟩ | ⟨b,cs,rfl,hb,hl,hp⟩
    ·have e1:l=[]:=RW eB;subst e1;exact⟨[],by simp,Jj.nil,λw' _=>by simp[Builtin.firstCells]⟩
    ·have aj:=hp.len hc;refine⟨cs.take<|l.length*sz,by simp;omega,(hp.mono N).take,λw' G=> ?_⟩;simp only[Builtin.firstCells];exact Hb (cs:=cs) (T:=e) (fr:=(0,0)) (by rw[G];exact k.rJ<|s1 _ _ hb) eF eE
   obtain⟨us,I,aV,s⟩:=s;have K:∀w' :By,w'.heap=w.heap->(Builtin.firstCells sz l2.length<|.slice p2 l2.length g).run P w' = .ok us2.toArray w' :=λw' G=>j w' λb o e=>by rw[G];exact S b o e
   have aW:SH w F H:=⟨m2,hq,k.sub s2⟩;generalize L:Question.appendCap (l.length+l2.length) cap e=q
   have u:l.length+l2.length<=q.cut (w.tape w.drawn q)/\q.cut (w.tape w.drawn q)<=9223372036854775807:=by
    rw[<-L];have:=o1 (w.tape w.drawn<|Question.appendCap (l.length+l2.length) cap e) (show 0 < 2^63 - (l.length+l2.length) by omega);simp only[Question.cut];omega
   have v:q.forced=false:=by rw[<-L];rfl
   generalize hC:q.cut (w.tape w.drawn q)=C at u
   have M:SH {w with drawn:=w.drawn+1} F H:=aW.drew _;have y:=M.alloc<|.cells ((us.toArray++us2.toArray++Builtin.zeroCells z.cells (C - (l.length+l2.length)))) e;refine⟨some ⟨w.heap.size,0,none⟩,C,_,?_,y.mono λm hm=>QP (λm' E=>⟨by simp;exact u.1,u.2,.inr ⟨w.heap.size,(us.toArray++us2.toArray++Builtin.zeroCells z.cells (C - (l.length+l2.length))).toList,rfl,?_,?_,?_⟩⟩) hm⟩
   ·simp only[Builtin.append_];have aX:=hn;unfold GU at aX
    have Y:¬(2:Nat)^48 < Builtin.nextslicecap (l.length+l2.length) cap*by_:=by omega
    have g1:=s w.drew rfl;have g2:=K w.drew rfl;simp[B,D,YG ht,YG A,hz,Builtin.lenOf,a,aF,aG,aH,Y,L,v,hC,g1,g2,hzero,newRow];simp only[<-qAI,Array.append_assoc]
   ·have Z:pt w.heap.size _ m' :=E;unfold pt at Z ⊢;rw[Z]
   ·have e3:(Builtin.zeroCells z.cells<|C - (l.length+l2.length)).size=(C - (l.length+l2.length))*sz:=by simp[Builtin.zeroCells,aJ]
    simp only[eh,iK,List.size_toArray,I,f,e3];rw[<-mq,<-mq];congr 1;omega
   ·have:=(aV.append V I).a7 (us2:=(Builtin.zeroCells z.cells<|C - (l.length+l2.length)).toList) (by simp[I,f,mq]);simpa using this
section
variable{β:Type}{P:B3}{eG:So Nm}{rest:Q0 Nm}{ks:Q0 Kt}{Q:hP->Act->By->Prop}{m:K1 β}{r:β}
variable{n:Nat}{D:Q0 AC}{S:Q0 (Nat×UV)}{F:Fz}{hs:Q0 HP}
variable{d:Nat}{ty t t' t2 e e2:S1}{pos:String}{after:So lY}{ox oy oz:L5}{v u:UV}{kd:r6}{x y:Int}
structure U2{α:Type}(P:Program)(e sz:Nat)(c:Uo α):Prop where
 len:∀F x vs,c F x vs->vs.length=sz
 one:∀F x vs,c F x vs->vs.all Value.oneCell' =true
 mono:∀F F' x vs,F<=F'->c F x vs->c F' x vs
 size:∀w,(sizeOf e).run P w= .ok sz w
 info:∃ti:TypeInfo,(∀w,(typeInfo e).run P w= .ok ti w)/\ti.bytes≠0/\ti.bytes<=4096
 zero:∃z,(∀w,(zeroValue e).run P w= .ok z w)/\z.cells.size=sz
theorem U2.ex{e:Nat}{c:α->Q0 UV}(len:∀x,(c x).length=sz)(one:∀x,(c x).all Value.oneCell' =true)(size:∀w,(sizeOf e).run P w= .ok sz w)
  (info:∃a:TypeInfo,(∀w,(typeInfo e).run P w= .ok a w)/\a.bytes≠0/\a.bytes<=4096) (zero:∃z,(∀w,(zeroValue e).run P w= .ok z w)/\z.cells.size=sz):U2 P e sz (Ex c):=
 ⟨λ_ x _ h=>h▸len x,λ_ x _ h=>h▸one x,λ_ _ _ _ _ h=>h,size,info,zero⟩
theorem GG.append{F0:Fz}{L:K1 C3}{b:Nat}{l2:Q0 α}{f:Q0 α->K1 β}{T:So S1}(i:Nat)(E:U2 P e sz c)(q:F0<=F)(M:Nat.blt d n=true)(N:P.underlying t=some (.slice e))(s:P.underlying t2=some (.slice e2))(A:T[0]? =some t)(B:T[1]? =some t2)
  (hi:hs[i]? =some (Ql sz c F0 e p cap l)) (R:QG sz c F L b l2) (V:QQ S ox=some (.slice p l.length cap)) (W:QQ S oy=some (.slice L l2.length b))
  (k:∀l' p' cap',VU l l2=some l'->GL O P eG rest ks Q (Hd n D ((d,.slice p' l'.length cap')::S) F<|hs.set i<|Ql sz c F e p' cap' l') (f l') r):GL O P eG (⟨some d,.call ⟨.builtin .append,#[ox,oy],T⟩,ty,pos,after,none⟩::rest) ks Q (Hd n D S F hs) ((VU l l2).bind f) r:=
 GG.bind λl' g=>by
  have C:=g;unfold VU at g
  split at g
  ·rename_i h;simp only[W1] at g
   subst g;obtain⟨Z,G,H,I⟩:=E.info;obtain⟨z,hzero,K⟩:=E.zero;refine GG.step rfl (.inr rfl) λX a w o=> ?_;obtain⟨p',cap',w',j,Y⟩:=zb (P:=P) (T:=T) (ty:=ty) q E.len E.one N s E.size G rfl H I hzero K A B (o.2.pull hi) R h;refine⟨_,w',?_,k _ p' cap' C X _ _ ⟨o.1.put M _,SH.push hi Y⟩⟩;simp[execOp,resolve,invoke,builtin,o.1.eval V,o.1.eval W,j]
  ·cases g
theorem GG.cX{len:Nat}{z:UV}{cs zc:Q0 UV}{parts:Q0 (Nat×L5)}{ps:Q0 (Nat×UV)}(B:Nat.blt d n=true)(C:P.underlying t=some (.slice e))(E:∀w,(sizeOf e).run P w= .ok sz w)(hzero:∀w,(zeroValue e).run P w= .ok z w)(G:Nat.blt 0 (len*sz)=true)(g:Nat.ble (len*sz) 16777216=true)
  (H:Rh S parts=some ps) (h:(Array.range<|len*sz).map (λi=>z.cells[i%z.cells.size]!)=zc.toArray) (f:Instr.fill (λi=>some (i*sz,sz)) zc.toArray ps=some cs.toArray)
  (k:∀b j,F<=j->j.mem b=some (.cells cs.toArray e)->GL O P eG rest ks Q (Hd n D ((d,.slice (some ⟨b,0,none⟩) len len)::S) j hs) m r):GL O P eG (⟨some d,.buildSlice t len parts.toArray,ty,pos,after,none⟩::rest) ks Q (Hd n D S F hs) m r:=
 GG.step rfl (.inr rfl) λI a w o=>by
  obtain⟨K,L⟩:=o.2.a6<|.cells cs.toArray e;refine⟨.slice (some ⟨w.heap.size,0,none⟩) len len,w.alloc<|.cells cs.toArray e,?_,k w.heap.size _ K (Fz.cv ..) I _ _ ⟨o.1.put B _,L⟩⟩;have q:=AH o.1 H;have M:0 < len*sz:=A4 G;have N:=A4 g;have s:¬len*sz=0:=by omega
  have A:¬len*sz > 16777216:=by omega
  simp only[execOp,Instr.buildSlice,j3,YG C,E,Result.andThen,List.map_toArray,q];simp only[Nat.reducePow,A,s,Bm,lI,Result.andThen,j3,hzero,h,f,newRow,run_newObj,World.alloc_eq]
theorem QG.ofRow{b T len:Nat}{cs:Q0 UV}{fr:Nat×Nat}(f:F.mem b=some (.cells cs.toArray T fr))(g:Jj sz c F l cs)(k:l.length=len)(a:Nat.ble len 1000000=true):QG sz c F (some ⟨b,0,none⟩) len l:=by
 have:=A4 a;refine⟨by omega,by omega,.inr ⟨b,0,cs.toArray,T,fr,rfl,f,λi x h j le=> ?_⟩⟩;simpa using g i x h j le
theorem Jj.cons{α:Type}{sz:Nat}{c:Uo α}{F:Fz}{x:α}{l:Q0 α}{us:Q0 UV}(f:∀F a x vs,F<=a->c F x vs->c a x vs)(h:c F x (us.take sz))(h' :Jj sz c F l (us.drop sz)):Jj sz c F (x::l) us:=λi y b a le=>by
 cases i with
 | zero=>simp at b;subst b;simpa using f _ _ _ _ le h
 | succ i=>
  have:=h' i y (by simpa using b) a le;rw[en] at this
  rwa[show(i+1)*sz=sz+i*sz by rw[mq];omega]
end
end
section
variable{γ α σ:Type}{Dn:γ->hP->Act->By->Prop}{I:σ->Act->By->Prop}{ctl:UQ σ γ}{d:Nat}
variable{O:K1 Nat}{μ:Md}
abbrev Q8(n:Int):Int:=IntKind.i64.wrap n
abbrev Je(x y:Int):Int:=if y < x then y else x
abbrev imax(x y:Int):Int:=if x < y then y else x
def Zy(k:r6)(x:Int):Q0 UV:=[.int k x]
def DF(n:Nat)(f:Nat->α):Q0 α:=(List.range n).map f
def FK(n:Nat)(c:α->Q0 UV)(f:Nat->α):Q0 UV:=(DF n f).flatMap c
def ZB(f:Nat->α)(i:Nat)(x:α):Nat->α:=λj=>match Nat.beq j i with | true=>x | false=>f j
def gJ(l:Q0 α)(z:α):Nat->α:=λi=>l.getD i z
theorem qy(n:Nat)(f:Nat->α):(DF n f).length=n:=by simp[DF]
theorem qz{n:Nat}{f:Nat->α}{q:Nat->α->Prop}(h:∀j,j < n->q j (f j)):∀i x,(DF n f)[i]? =some x->q i x:=by
 intro i x e;simp only[DF,x8] at e
 by_cases hi:i < n
 ·simp[hi] at e;subst e;exact h i hi
 ·simp[hi] at e
theorem fJ{p:Nat->Prop}(a:p 0)(b:p 1)(c:p 2)(e:p 3)(f:p 4)(g:p 5)(h:p 6):∀j,j < 7->p j:=by
 intro j i;match j,i with | 0,_=>exact a | 1,_=>exact b | 2,_=>exact c | 3,_=>exact e | 4,_=>exact f | 5,_=>exact g | 6,_=>exact h
theorem fI{p:Nat->Prop}(a:p 0)(b:p 1)(c:p 2)(e:p 3)(f:p 4)(g:p 5)(h:p 6)(i:p 7):∀j,j < 8->p j:=by
 intro j k;match j,k with | 0,_=>exact a | 1,_=>exact b | 2,_=>exact c | 3,_=>exact e | 4,_=>exact f | 5,_=>exact g | 6,_=>exact h | 7,_=>exact i
def UI(P:B3)(F:Fz)(f:Rw)(eb:Q0 UV)(arg:α->Fz->Q0 UV->Prop)(a:γ->Fz->UV->Prop)(m:α->K1 γ):Prop:=(∀args w,(callFunc f args).run P w= .ok (.enter f args) w)/\∀b,F<=b->∀x vs,arg x b vs->KJ P f (vs++eb).toArray b (m x) a
theorem UI.mono{P:B3}{F c:Fz}{f:Rw}{eb:Q0 UV}{arg:α->Fz->Q0 UV->Prop}{a:γ->Fz->UV->Prop}{m:α->K1 γ}(h:UI P F f eb arg a m)(le:F<=c):UI P c f eb arg a m:=⟨h.1,λG b x vs e=>h.2 G (Fz.le_trans le b) x vs e⟩
def fj(a:Nat)(c:Uo α):Uo (Q0 α):=λF x vs=>∃p k,vs=[.slice p x.length k]/\QG a c F p k x
section
variable{β:Type}{P:B3}{eG:So Nm}{rest:Q0 Nm}{ks:Q0 Kt}{Q:hP->Act->By->Prop}{A:Act->By->Prop}{m:K1 β}{r:β}
variable{n:Nat}{D:Q0 AC}{S S0:Q0 (Nat×UV)}{F F' :Fz}{hs:Q0 HP}
theorem GG.ex{g:Gp}(h:∀a w,A a w->∃b:Act->By->Prop,b a w/\GG g b m r):GG g A m r:=by
 exact λc a w e=>let⟨_,f,i⟩:=h a w e;i c a w f
theorem GG.app(h:GE O P ks Q A m r)(b:m=some r)(a:Act)(w:By)(c:A a w):Zw O P ks Q .normal a w:=h b a w c
theorem GG.ite{g:Gp}{b:Bool}{a c:K1 β}(f:b=true->GG g A a r)(h:b=false->GG g A c r):GG g A (if b then a else c) r:=by
 cases e:b with
 | true=>rw[BY rfl];exact f e
 | false=>rw[B1 eF];exact h e
theorem Q7.norm{σ γ:Type}{I:σ->Act->By->Prop}{Dn:γ->hP->Act->By->Prop}{s:σ}{ctl:UQ σ γ}(h:∀a w,A a w->I s a w):some (UQ.next s)=some ctl->∀a w,A a w->Q7 I Dn ctl .normal a w:=λe a w b=>by
 simp only[W1] at e;subst e;exact⟨rfl,h a w b⟩
theorem Q7.exit{b:γ}{id:Nat}(h:∀a w,A a w->Dn b (.exit id) a w):some (UQ.done b)=some ctl->∀a w,A a w->Q7 I Dn ctl (.exit id) a w:=λe a w c=>by
 simp only[W1] at e;subst e;exact⟨by simp,h a w c⟩
theorem Q7.ret{b:γ}(h:∀a w,A a w->Dn b .ret a w):some (UQ.done b)=some ctl->∀a w,A a w->Q7 I Dn ctl .ret a w:=λe a w c=>by
 simp only[W1] at e;subst e;exact⟨by simp,h a w c⟩
theorem GG.sK{S' :Q0 (Nat×UV)}{x z:Bool}(j:Nat)(c:K4 S' d=some (.bool x))(f:S'.drop j=S)(g:fresh S (S'.take j)=true)(le:F<=F'):GL μ P eG [] [] (Vt n D d (.bool z) S F hs) (Hd n D S' F' hs) (some x) z:=λe a w b=>by
 simp only[W1] at e;subst e
 exact OB ⟨rfl,F',le,b.1.sub<|Sub.cons c<|Cz j f g,b.2⟩
theorem GG.nilCheck{ty:S1}{pos:String}{after:So lY}{b:L5}{p:C3}(c:Nat.blt d n=true)(e:QQ S b=some (.pointer<|some p))(k:GL μ P eG rest ks Q (Hd n D ((d,.pointer<|some p)::S) F hs) m r):GL μ P eG (⟨some d,.nilCheck b,ty,pos,after,none⟩::rest) ks Q (Hd n D S F hs) m r:=GG.val c (λa w f=>by simp[execOp,f.1.eval e]) k
theorem gY{kd:r6}{x y z:Int}(a:DM kd x y=some z):y≠0/\z=kd.wrap (x.tdiv y):=by
 have b:y≠0:=λe=>by simp[DM,e] at a
 exact⟨b,by simpa[DM,b] using a.symm⟩
theorem GG.mP{ty t t' :S1}{pos:String}{after:So lY}{c e:L5}{xs f:So UV}{b:Bool}(h:Nat.blt d n=true)(i:P.eqGuardType P.depth t=false)(j:∀w,(Op.equal t (.agg xs)<|.agg f).run P w= .ok b w)
  (l:QQ S c=some (.agg xs)) (o:QQ S e=some (.agg f)) (k:GL μ P eG rest ks Q (Hd n D ((d,.bool b)::S) F hs) m r):GL μ P eG (⟨some d,.binOp .eql t c e t',ty,pos,after,none⟩::rest) ks Q (Hd n D S F hs) m r:=
 GG.val h (λa w g=>by simp[execOp,g.1.eval l,g.1.eval o,eqGuard,binOp,i,j]) k
end
end
section
variable{O:K1 Nat}{μ:Md}
theorem QY{cs vs:Q0 UV}(h:cs.length=vs.length):Kp cs 0 vs=vs:=by
 have a:=FC vs cs 0 eB;simp only[dO,List.take_zero,r7] at a
 rwa[IF (by rw[Hk];omega)] at a
end
section
variable{p:K1 C3}{α:Type}{l:Q0 α}{cap sz:Nat}{c:Uo α}{T:S1}{z:α}
variable{O:K1 Nat}{μ:Md}
theorem GG.pa{β:Type}{g:Gp}{A:Act->By->Prop}{r:β}:GG g A none r:=by
 exact λh=>by cases h
theorem vw{w:By}{F F0:Fz}{H:HP}{k:Nat}(h:SH w F (star (Ql sz c F0 T p cap l) H))(e:l[k]? =some z):∃b cs,p=some ⟨b,0,none⟩/\cs.length=cap*sz/\l.length<=cap/\Jj sz c F0 l cs/\SH w F (star (pt b<|.cells (List.toArray cs) T (0,0)) H)/\cap<=9223372036854775807:=by
 obtain⟨m,⟨f,g,d,i,j,⟨n,o,q⟩,r⟩,s⟩:=h;have:=Zx e;rcases q with⟨rfl,v⟩ | ⟨b,cs,rfl,t,a,u⟩
 ·omega
 ·exact⟨b,cs,rfl,a,n,u,⟨m,⟨f,g,d,i,j,t,r⟩,s⟩,o⟩
section
variable{β:Type}{P:B3}{eG:So Nm}{rest:Q0 Nm}{ks:Q0 Kt}{Q:hP->Act->By->Prop}{m:K1 β}{r:β}
variable{n:Nat}{D:Q0 AC}{S:Q0 (Nat×UV)}{F F0:Fz}{hs:Q0 HP}
variable{d:Nat}{ty t t' e:S1}{pos:String}{after:So lY}{ox oy oz:L5}{v u:UV}{kd:r6}{x y:Int}
theorem GG.tr{g:Gp}(i:Nat)(hi:hs[i]? =some (Ql sz c F0 T p cap l))(h:ZX l x=some z)
  (k:∀b,p=some ⟨b,0,none⟩->GG g (Hd n D S F hs) m r):GG g (Hd n D S F hs) m r:=by
 exact λj a w f=>by
  obtain⟨b,_,o,_⟩:=vw (f.2.pull hi) (GF h).2.2;exact k b o j a w f
theorem GG.pj{b:Nat}(a:Nat.blt d n=true)(f:P.underlying t=some (.slice e))(g:∀w,(sizeOf e).run P w= .ok sz w)
  (h:p=some ⟨b,0,none⟩) (i:ZX l x=some z) (j:QQ S ox=some (.slice p l.length cap)) (o:QQ S oy=some (.int kd x))
  (k:GL μ P eG rest ks Q (Hd n D ((d,.pointer<|some ⟨b,0+x.toNat*sz,none⟩)::S) F hs) m r):GL μ P eG (⟨some d,.indexAddr t ox oy,ty,pos,after,none⟩::rest) ks Q (Hd n D S F hs) m r:=by
 subst h;obtain⟨q,s,_⟩:=GF i;exact GG.aC a f g j o (by unfold Yu;rw[BY eB]) k
theorem GG.tw{b off o:Nat}{Φ:UV->Prop}(i:Nat)(hi:hs[i]? =some (Ql sz c F0 T p cap l))(j:F0<=F)(C:Nat.blt d n=true)(E:∀w,(isAgg t).run P w= .ok false w)
  (G:p=some ⟨b,0,none⟩) (s:ZX l x=some z) (H:QQ S ox=some (.pointer<|some ⟨b,o,none⟩)) (I:o=0+x.toNat*sz+off)
  (K:∀vs,c F z vs->∃v,vs[off]? =some v/\Φ v) (k:∀v,Φ v->GL μ P eG rest ks Q (Hd n D ((d,v)::S) F hs) m r):GL μ P eG (⟨some d,.load t ox,ty,pos,after,none⟩::rest) ks Q (Hd n D S F hs) m r:=by
 refine GG.sg rfl rfl λL a w h=> ?_;obtain⟨b',cs,g,A,B,f,q,_⟩:=vw (h.2.pull hi) (GF s).2.2;rw[G] at g;cases g
 obtain⟨v,M,hΦ⟩:=K _<|f _ _ (GF s).2.2 F j;refine⟨v,?_,k v hΦ L _ _ ⟨h.1.put C _,h.2⟩⟩;have N:cs[o]? =some v:=by subst I;rw[dO];exact QI rfl M
 simp[execOp,h.1.eval H,BE E (by rw[cell_of_heap q.owned];exact N)]
end
end
section
variable{α K V:Type}{c:Uo α}{l:Q0 (K×V)}{sz cap b j:Nat}{p:K1 C3}{P:B3}{es:Q0 gw}{T:So S1}{w:By}{kd:r6}{kt t vt:S1}{F F0:Fz}{x:Int}
variable{O:K1 Nat}{μ:Md}
def Q5[BEq K]:Q0 (K×V)->K->V->Q0 (K×V)
 | [],k,v=>[(k,v)]
 | x::l,k,v=>if k==x.1 then(k,v)::l else x::Q5 l k v
def Qc[BEq K]:Q0 (K×V)->K->K1 V
 | [],_=>none
 | x::l,k=>if k==x.1 then some x.2 else Qc l k
def Uv(ck:K->UV)(rv:Fz->V->UV->Prop)(F:Fz):Q0 gw->Q0 (K×V)->Prop
 | [],[]=>True
 | e::es,x::l=>e.key=ck x.1/\(∀a,F<=a->rv a x.2 e.val)/\Uv ck rv F es l
 | _,_=>False
structure Xj(P:Program)(t:TypeId){K:Type}[BEq K](ck:K->Value):Prop where
 und:∃kd,P.underlying t=some kd/\∀a b:K,Instr.sameNow kd (ck a) (ck b)=some (a==b)
 check:∀e k w,(Instr.checkKey e 10000 t<|ck k).run P w= .ok () w
 same:∀a:K,Instr.sameBits 10000 (ck a) (ck a)=true
 eq:∀a b:K,(a==b)=true->a=b
section
variable{K V:Type}[BEq K]{ck:K->UV}{rv:Fz->V->UV->Prop}{F F' :Fz}
omit [BEq K] in
theorem Uv.up:∀{es:Q0 gw} {l:Q0 (K×V)},F<=F'->Uv ck rv F es l->Uv ck rv F' es l
 | [],[],_,_=>trivial
 | _::_,_::_,le,⟨d,e,f⟩=>⟨d,λG a=>e G<|Fz.le_trans le a,f.up le⟩
omit [BEq K] in
theorem Uv.len:∀{es:Q0 gw} {l:Q0 (K×V)},Uv ck rv F es l->es.length=l.length
 | [],[],_=>rfl
 | _::_,_::_,⟨_,_,a⟩=>by simp[a.len]
theorem Uv.find{kd:oh}{k:K}(r:∀a b,Instr.sameNow kd (ck a) (ck b)=some (a==b))(heq:∀a b:K,(a==b)=true->a=b):∀{es:Q0 gw} {l:Q0 (K×V)} (h:Nat),Uv ck rv F es l->
   (Qc l k=none/\Instr.findNow kd (ck k) es h=some none/\∀v i,i.key=ck k->(∀F',F<=F'->rv F' v i.val)->Uv ck rv F (es++[i]) (Q5 l k v))∨
   (∃j e x,es[j]? =some e/\e.key=ck k/\Qc l k=some x/\Instr.findNow kd (ck k) es h=some (some (h+j,e.val))/\(∀F',F<=F'->rv F' x e.val)/\
    ∀v f,(f e).key=ck k->(∀F',F<=F'->rv F' v (f e).val)->Uv ck rv F (es.modify j f) (Q5 l k v))
 | [],[],h,_=>.inl ⟨rfl,rfl,λv i g m=>⟨g,m,trivial⟩⟩
 | e::es,x::l,h,⟨g,m,z⟩=>by
  by_cases n:(k==x.1)=true
  ·right;refine⟨0,e,x.2,rfl,?_,by simp[Qc,n],?_,m,?_⟩
   ·rw[g,heq _ _ n]
   ·simp[Instr.findNow,g,r,n]
   ·intro v f o q;simp only[Q5,n,B2,List.modify_zero_cons];exact⟨o,q,z⟩
  ·have d:(k==x.1)=false:=by simpa using n
   rcases Uv.find (k:=k) r heq (h+1) z with⟨o,q,s⟩ | ⟨j,A,B,o,q,s,C,D,E⟩
   ·left;refine⟨by simp[Qc,d,o],by simp[Instr.findNow,g,r,d,q],λv i u y=> ?_⟩;simp only[Q5,d,W2,Bm,tO];exact⟨g,m,s v i u y⟩
   ·right;refine⟨j+1,A,B,by simpa using o,q,by simp[Qc,d,s],?_,D,λv f u y=> ?_⟩
    ·simp[Instr.findNow,g,r,d,C];omega
    ·simp only[Q5,d,W2,Bm,List.modify_succ_cons];exact⟨g,m,E v f u y⟩
def Ya(es:Q0 gw)(clock:Nat):Prop:=(es.map (·.born)).Pairwise (·< ·)/\∀e∈es,e.born < clock
theorem Ya.nil{c:Nat}:Ya [] c:=⟨List.Pairwise.nil,λ_ h=>by cases h⟩
theorem Ya.push{c:Nat}{k v:UV}(h:Ya es c):Ya (es++[{key:=k,val:=v,born:=c}]) (c+1):=by
 refine⟨?_,λe he=> ?_⟩
 ·rw[ob,oi];refine⟨h.1,by simp,λa f b d=> ?_⟩;simp only[E4,oV,ts] at d
  obtain⟨e,he,rfl⟩:=rm.1 f;subst d;exact h.2 e he
 ·rcases mg.1 he with he | he
  ·have:=h.2 e he;omega
  ·simp only[ts] at he;subst he;exact Nat.lt_succ_self _
theorem Ya.modify{c:Nat}{f:gw->gw}(h:Ya es c)(i:∀e,(f e).born=e.born):Ya (es.modify j f) c:=by
 have d:∀(es:Q0 gw) (j:Nat),(es.modify j f).map (·.born)=es.map (·.born):=λes=>by
  induction es with
  | nil=>intro j;simp
  | cons e es k=>
   intro j;cases j with
   | zero=>simp[i]
   | succ j=>simp[k]
 refine⟨by rw[d];exact h.1,λe he=> ?_⟩;have g:e.born∈(es.modify j f).map (·.born):=IR he;rw[d] at g
 obtain⟨m,a,n⟩:=rm.1 g;rw[<-n];exact h.2 m a
theorem Ya.erase{c:Nat}(h:Ya es c):Ya (es.eraseIdx j) c:=⟨h.1.sublist<|(List.eraseIdx_sublist es j).map _,λe he=>h.2 e<|List.mem_of_mem_eraseIdx he⟩
def Gm(ck:K->UV)(rv:Fz->V->UV->Prop)(F:Fz)(b:Nat)(l:Q0 (K×V)):HP:=λm=>∃es clock,pt b (.map es clock) m/\Uv ck rv F es.toList l/\Ya es.toList clock
omit [BEq K] in
theorem yA{l:Q0 (K×V)}{m:Mem}(le:F<=F')(h:Gm ck rv F b l m):Gm ck rv F' b l m:=by
 obtain⟨es,c,a,d,e⟩:=h;exact⟨es,c,a,d.up le,e⟩
omit [BEq K] in
theorem Oe{H:HP}{l:Q0 (K×V)}(h:SH w F (star (Gm ck rv F0 b l) H)):∃es clock,w.heap[b]? =some (.map es clock)/\Uv ck rv F0 es.toList l/\SH w F (star (pt b<|.map es clock) H)/\Ya es.toList clock:=by
 obtain⟨m,⟨a,e,d,f,g,⟨es,c,i,n,o⟩,q⟩,k⟩:=h;have hs:SH w F (star (pt b<|.map es c) H):=⟨m,⟨a,e,d,f,g,i,q⟩,k⟩;exact⟨es,c,hs.owned,n,hs,o⟩
end
theorem Yb{r:Nat}{es:So gw}{clock:Nat}(a:w.heap[r]? =some (.map es clock)):(getObj r).run P w= .ok (.map es clock) w:=by
 simp[getObj,Sem.run,a]
theorem Fg{r:Nat}{es:So gw}{clock:Nat}{o' :Obj}(a:w.heap[r]? =some (.map es clock)):(setObj r o').run P w= .ok () (put w r o'):=by
 simp[setObj,Sem.run,put,a]
theorem run_findKey{k:UV}{kd:oh}{q:K1 (Nat×UV)}(a:P.underlying kt=some kd)(h:Instr.findNow kd k es 0=some q):(Instr.findKey kt k es).run P w= .ok q w:=by
 simp[Instr.findKey,YG a,h]
section
variable{β:Type}{P:B3}{eG:So Nm}{rest:Q0 Nm}{ks:Q0 Kt}{Q:hP->Act->By->Prop}{m:K1 β}{r:β}
variable{n:Nat}{D:Q0 AC}{S:Q0 (Nat×UV)}{F F0:Fz}{hs:Q0 HP}
variable{d:Nat}{ty t t' e:S1}{pos:String}{after:So lY}{ox oy oz:L5}{v u:UV}{kd:r6}{x y:Int}
variable{K V:Type}{ck:K->UV}{rv:Fz->V->UV->Prop}
theorem GG.makeMap(ck:K->UV)(rv:Fz->V->UV->Prop)(i:Nat.blt d n=true)(k:∀b,GL O P eG rest ks Q (Hd n D ((d,.map<|some b)::S) F<|Gm ck rv F b []::hs) m r):GL O P eG (⟨some d,.makeMap t none,ty,pos,after,none⟩::rest) ks Q (Hd n D S F hs) m r:=by
 refine GG.step rfl (.inr rfl) λf a w h=> ?_;have o:=h.2.alloc<|.map #[] 0;refine⟨_,w.alloc<|.map #[] 0,?_,k w.heap.size f _ _ ⟨h.1.put i _,o.mono λm f=>QP (λq g=>⟨#[],0,g,trivial,Ya.nil⟩) f⟩⟩;simp[execOp,Instr.makeMap]
theorem GG.nI{l:Q0 (K×V)}(i:Nat)(hi:hs[i]? =some (Gm ck rv F0 b l))(g:Nat.blt d n=true)(h:T[0]? =some t)(o:P.underlying t=some (.map kt vt))(q:QQ S ox=some (.map<|some b))
  (k:GL μ P eG rest ks Q (Hd n D ((d,.int .i64 l.length)::S) F hs) m r):GL μ P eG (⟨some d,.call ⟨.builtin .len,#[ox],T⟩,ty,pos,after,none⟩::rest) ks Q (Hd n D S F hs) m r:=
 GG.val g (λa w f=>by
  obtain⟨es,c,s,z,_⟩:=Oe<|f.2.pull hi;have:es.size=l.length:=by rw[<-z.len];simp
  simp[execOp,resolve,invoke,builtin,Builtin.len_,f.1.eval q,h,YG o,goInt,Yb s,this]) k
variable[BEq K]
theorem GG.mapUpdate{l:Q0 (K×V)}{key:K}{val:V}{h:UV}(i:Nat)(hi:hs[i]? =some (Gm ck rv F0 b l))(E:F0<=F)(L:P.underlying t=some (.map kt vt))(ok:Xj P kt ck)(M:QQ S ox=some (.map<|some b))(N:QQ S oy=some (ck key))(R:QQ S oz=some h)(W:∀X,F<=X->rv X val h)
  (k:GL O P eG rest ks Q (Hd n D S F<|hs.set i<|Gm ck rv F b<|Q5 l key val) m r):GL O P eG (⟨none,.mapUpdate t ox oy oz,ty,pos,after,none⟩::rest) ks Q (Hd n D S F hs) m r:=by
 refine GG.ab rfl (.inr rfl) λs a w g=> ?_;obtain⟨es,c,B,hr,z,A⟩:=Oe<|g.2.pull hi;obtain⟨kd,Y,o⟩:=ok.und;rcases(hr.up E).find (k:=key) o ok.eq 0 with⟨Z,G,g3⟩ | ⟨j,e1,x1,Z,G,g3,g4,g5,g6⟩
 ·refine⟨put w b<|.map (es.push {key:=ck key,val:=h,born:=c})<|c+1,?_,k s _ _ ⟨g.1.cz _,SH.push hi<|z.put.mono λm s=>QP (λm' q=>⟨_,_,q,by simpa using g3 val {key:=ck key,val:=h,born:=c} rfl W,by simpa using A.push⟩) s⟩⟩;have C:=run_findKey (w:=w) Y G;simp[execOp,Instr.mapUpdate,g.1.eval M,g.1.eval N,g.1.eval R,YG L,Yb B,ok.check,C,Fg B]
 ·refine⟨put w b<|.map (es.modify j λe=>{e with key:=ck key,val:=h}) c,?_,k s _ _ ⟨g.1.cz _,SH.push hi<|z.put.mono λm s=>QP (λm' q=>⟨_,_,q,by simpa using g6 val (λe=>{e with key:=ck key,val:=h}) rfl W,by simpa using A.modify (j:=j) (f:=λe=>{e with key:=ck key,val:=h}) λ_=>rfl⟩) s⟩⟩;have C:=run_findKey (w:=w) Y g4;rw[dO] at C
  have H:es[j]? =some e1:=by simpa using Z
  have I:=ok.same key;simp[execOp,Instr.mapUpdate,g.1.eval M,g.1.eval N,g.1.eval R,YG L,Yb B,ok.check,C,Fg B,H,G,Instr.keyThatStays,I]
theorem GG.tY{l l' :Q0 (K×V)}{key:K}{val:V}{f:UV}(i:Nat)(hi:hs[i]? =some (Gm ck rv F0 b l))(a:F0<=F)(h:P.underlying t=some (.map kt vt))(ok:Xj P kt ck)(o:QQ S ox=some (.map<|some b))(q:QQ S oy=some (ck key))(s:QQ S oz=some f)(z:∀g,F<=g->rv g val f)(he:l' =Q5 l key val)
  (k:GL O P eG rest ks Q (Hd n D S F<|hs.set i<|Gm ck rv F b l') m r):GL O P eG (⟨none,.mapUpdate t ox oy oz,ty,pos,after,none⟩::rest) ks Q (Hd n D S F hs) m r:=by
 subst he;exact GG.mapUpdate i hi a h ok o q s z k
theorem fF{a:r6}{e:Bool}(f:P.underlying t=some (.int kd))(n:Nat):(Instr.checkKey e (n+1) t<|.int a x).run P w= .ok () w:=by
 simp[Instr.checkKey,YG f]
theorem gU(n:Nat):Instr.sameBits n (.int kd x) (.int kd x)=true:=by
 cases n<;>simp[Instr.sameBits]
theorem Xj.int(f:P.underlying t=some (.int kd)):Xj P t (λx:Int=>Value.int kd x) where
 und:=⟨_,f,λa b=>by simp[Instr.sameNow]⟩
 check e k w:=fF f 9999
 same a:=gU 10000
 eq a b h:=by simpa using h
def gk(len cap:Int):K1 Nat:=if 0<=len/\len<=cap/\cap<=4294967296 then some len.toNat else none
theorem jb{zero:So UV}{i:Nat}(h:zero.size=sz)(hi:i < cap):((((Array.range<|cap*sz).map λj=>zero[j%zero.size]!).toList.drop<|i*sz).take sz)=zero.toList:=by
 have a:i*sz+sz<=cap*sz:=by
  have:=lS sz<|show i+1<=cap from hi;rw[mq,Nat.one_mul] at this;exact this
 apply mc;intro j;by_cases f:j < sz
 ·rw[yb,BY f,me];have k:i*sz+j < cap*sz:=by omega
  have o:(i*sz+j)%sz=j:=by rw[Nat.add_comm,Nat.add_mul_mod_self_right,Nat.mod_eq_of_lt f]
  have g:j < zero.size:=by omega
  simp[k,h,o];rw[getElem!_pos zero j g];simp[g]
 ·rw[yb,B1 f,s8 eE]
theorem Jj.mT{z:α}{zero:So UV}{k:Nat}(g:zero.size=sz)(h:k<=cap)(o:∀a,F<=a->c a z zero.toList):Jj sz c F (List.replicate k z) ((Array.range<|cap*sz).map λj=>zero[j%zero.size]!).toList:=λi x f a le=>by
 have hi:=Zx f;simp only[od] at hi
 rw[List.getElem?_replicate,BY hi] at f;cases f
 rw[jb g eB];exact o a le
theorem GG.makeSlice{z:α}{i:UV}{s:r6}{f:Nat->K1 β}(E:U2 P e sz c)(hd:Nat.blt d n=true)(ht:P.underlying t=some (.slice e))(I:∀w,(zeroValue e).run P w= .ok i w)(A:∀Z,F<=Z->c Z z i.cells.toList)(hx:QQ S ox=some (.int kd x))(hy:QQ S oy=some (.int s y))
  (k:∀len b,gk x y=some len->GL O P eG rest ks Q (Hd n D ((d,.slice (some ⟨b,0,none⟩) (List.replicate len z).length y.toNat)::S) F<|Ql sz c F e (some ⟨b,0,none⟩) y.toNat (List.replicate len z)::hs) (f len) r):GL O P eG (⟨some d,.makeSlice t ox oy,ty,pos,after,none⟩::rest) ks Q (Hd n D S F hs) ((gk x y).bind f) r:=by
 refine GG.bind λlen g=> ?_;have hk:=λb=>k len b g;unfold gk at g
 split at g
 ·rename_i hb;cases g;refine GG.step rfl (.inr rfl) λL a w G=> ?_;obtain⟨H,M,aG,aH⟩:=E.info
  have N:i.cells.size=sz:=by
   have:=E.len _ _ _<|A F<|Fz.le_refl F;simpa using this
  have R:=G.2.alloc<|.cells ((Array.range<|y.toNat*sz).map λj=>i.cells[j%i.cells.size]!) e;refine⟨_,w.alloc<|.cells ((Array.range<|y.toNat*sz).map λj=>i.cells[j%i.cells.size]!) e,?_,hk w.heap.size L _ _ ⟨G.1.put hd _,R.mono λm L=>QP (λm' W=>⟨by simp;omega,by omega,.inr ⟨_,((Array.range<|y.toNat*sz).map λj=>i.cells[j%i.cells.size]!).toList,rfl,by(have B:pt _ _ m' :=W;unfold pt at B ⊢;rw[B]),by simp,Jj.mT N eB A⟩⟩) L⟩⟩;have X:IntKind.i64.wrap x=x:=by simp[IntKind.wrap,IntKind.bits,IntKind.signed];omega
  have Y:IntKind.i64.wrap y=y:=by simp[IntKind.wrap,IntKind.bits,IntKind.signed];omega
  have aJ:(H.bytes:Int)*y<=2^48:=by
   have R:(H.bytes:Int)<=4096:=by omega
   have h2:(H.bytes:Int)*y<=4096*y:=ey R eB;omega
  have o:¬y < 0:=by omega
  have h:¬x < 0:=by omega
  have C:¬x > y:=by omega
  have q:¬(281474976710656:Int) < (H.bytes:Int)*y:=by omega
  have i1:∀w:By,(asInt<|.int kd x).run P w= .ok x w:=λw=>by simp[asInt,asIntOf]
  have i2:∀w:By,(asInt<|.int s y).run P w= .ok y w:=λw=>by simp[asInt,asIntOf]
  simp only[execOp,G.1.eval hx,G.1.eval hy,Instr.makeSlice,j3,YG ht,Result.andThen,i1,i2,M,X,Y];by_cases hn:y.toNat*sz=0
  ·simp[o,h,C,q,E.size,hn,newRow,askRoom];rw[show Array.range 0=#[] from rfl];simp
  ·simp[o,h,C,q,E.size,hn,I,newRow,askRoom]
 ·cases g
theorem QG.isNil{l:Q0 α}(h:QG sz c F none cap l):l=[]:=by
 rcases h.2.2 with h | ⟨_,_,_,_,_,h,_⟩
 ·exact h
 ·cases h
theorem eq_nil{len:Nat}(a:P.underlying t=some (.slice e))(n:Nat):(Op.equalIn (n+1) t (.slice p len cap)<|.slice none 0 0).run P w= .ok p.isNone w:=by
 cases p<;>simp[Op.equalIn,YG a]
theorem GG.aS{len:Nat}(g:Nat.blt d n=true)(h:P.underlying t=some (.slice e))(i:QQ S ox=some (.slice p len cap))(o:QQ S oy=some (.slice none 0 0))(k:GL μ P eG rest ks Q (Hd n D ((d,.bool p.isNone)::S) F hs) m r):GL μ P eG (⟨some d,.binOp .eql t ox oy t',ty,pos,after,none⟩::rest) ks Q (Hd n D S F hs) m r:=
 GG.val g (λa w f=>by
  have q:(Op.equal t (.slice p len cap)<|.slice none 0 0).run P w= .ok p.isNone w:=eq_nil h 9999;have s:P.eqGuardType P.depth t=false∨P.eqGuardType P.depth t=true:=by cases P.eqGuardType P.depth t<;>simp
  simp[execOp,f.1.eval i,f.1.eval o,eqGuard,binOp,q]) k
theorem GG.mF{len:Nat}(f:Nat.blt d n=true)(g:T[0]? =some t)(h:P.underlying t=some (.slice e))(i:QQ S ox=some (.slice p len cap))(k:GL μ P eG rest ks Q (Hd n D ((d,.int .i64 cap)::S) F hs) m r):GL μ P eG (⟨some d,.call ⟨.builtin .cap,#[ox],T⟩,ty,pos,after,none⟩::rest) ks Q (Hd n D S F hs) m r:=GG.val f (λa w o=>by simp[execOp,resolve,invoke,builtin,Builtin.cap_,o.1.eval i,g,YG h,goInt]) k
def Ci(P:B3)(f:Rw)(args:So UV)(F:Fz)(m:K1 (Q0 α))(sz:Nat)(c:Uo α)(T:S1):Prop:=∀r,m=some r->∀w R,SH w F R->Calls P f args w (λe w' =>∃a p k,F<=a/\e= .returned (.slice p r.length k)/\SH w' a (star (Ql sz c a T p k r) R))
def jJ(P:B3)(fn:lX)(F:Fz)(R:HP)(sz:Nat)(c:Uo α)(T:S1)(r:Q0 α):hP->Act->By->Prop:=bodyPost P fn (λe w' =>∃a p k,F<=a/\e= .returned (.slice p r.length k)/\SH w' a (star (Ql sz c a T p k r) R))
theorem Ci.enter{f:Rw}{fn:lX}{a:la}{args:Q0 UV}{m:K1 (Q0 α)}{T:S1}
  (g:P.funcs[f]? =some fn) (h:fn.body=some a) (i:fn.ntmps=n) (o:Nat.ble args.length n=true)
  (k:∀r R,GC none P a [] (jJ P fn F R sz c T r) (Hd n [] (D2 0 args) F [R]) m r):Ci P f args.toArray F m sz c T:=by
 intro r q w R s;refine oN g h<|oo.1<|k r R q _ w ⟨?_,s.one⟩;rw[i];exact WA o
theorem GG.tR{fn:lX}{R:HP}{f:Fz}{t i:Nat}{x r:Q0 α}{T:S1}(q:fn.results=#[.tmp t])(h:K4 S t=some (.slice p x.length cap))(hi:hs[i]? =some (Ql sz c F0 T p cap x))(k:F0<=f)(s:(hs.eraseIdx i)[j]? =some R)(le:F<=f):GC O P .ret ks (jJ P fn F R sz c T r) (Hd n [] S f hs) (some x) r:=GG.cw λe a w o=>by
 simp only[W1] at e
 subst e;have g:Ss P S f hs [.tmp t] [.slice p x.length cap]:=.tmp h .nil;exact⟨o.1.2.1,_,Jm (rs:=[.tmp t]) q o g,f,p,cap,le,rfl,(SH.tq hi s o.2).mono λm z=>QP (λ_=>WB k) z⟩
theorem GG.ru{f:Rw}{eb as vs:Q0 UV}{of:L5}{os:Q0 L5}{o:K1 (Q0 α)}{g:Q0 α->K1 β}{z:S1}(A:Nat.blt d n=true)
  (h:∀args w,(callFunc f args).run P w= .ok (.enter f args) w) (B:QQ S of=some (.func (.func f) #[] eb.toArray)) (C:Un S os=some vs) (has:vs++eb=as)
  (E:Ci P f as.toArray F o sz c z) (k:∀x i p cap,o=some x->F<=i->GL O P eG rest ks Q (Hd n D ((d,.slice p x.length cap)::S) i<|Ql sz c i z p cap x::hs) (g x) r):GL O P eG (⟨some d,.call ⟨.value of,os.toArray,T⟩,ty,pos,after,none⟩::rest) ks Q (Hd n D S F hs) (o.bind g) r:=
 GG.sq rfl (.inr rfl) λq a w s=>by
  subst has;refine⟨Wy s.1 h B C,?_⟩;cases he:o with
  | none=>rw[he] at q;cases q
  | some y=>
   rw[he] at q
   refine(E y he w _ s.2).mono ?_;rintro _ w' ⟨i,p,cap,le,rfl,G⟩;exact⟨_,rfl,k y i p cap he le q _ _ ⟨s.1.put A _,G⟩⟩
def ET(y:Int):K1 Nat:=if 0 < y/\y<=4294967296 then some y.toNat else none
theorem GG.rQ{e2:Nat}{z:α}{h:UV}{f:Nat->K1 β}{aA:r6}{l:Q0 α}(i:Nat)(E:U2 P e sz c)(hd:Nat.blt d n=true)(ht:P.underlying t=some (.slice e))(aB:P.underlying e2=some (.int aA))(aC:T[0]? =some t)(aD:T[1]? =some e2)(aE:∀w,(zeroValue e).run P w= .ok h w)(M:∀F',F<=F'->c F' z h.cells.toList)
  (hi:hs[i]? =some (Ql sz c F0 e none 0 l)) (hx:QQ S ox=some (.slice none 0 0)) (hy:QQ S oy=some (.int kd y))
  (k:∀len b cap,ET y=some len->GL O P eG rest ks Q (Hd n D ((d,.slice (some ⟨b,0,none⟩) (List.replicate len z).length cap)::S) F<|hs.set i<|Ql sz c F e (some ⟨b,0,none⟩) cap<|List.replicate len z) (f len) r):GL O P eG (⟨some d,.call ⟨.builtin .append,#[ox,oy],T⟩,ty,pos,after,none⟩::rest) ks Q (Hd n D S F hs) ((ET y).bind f) r:=by
 refine GG.bind λlen g=> ?_;have hk:=λb cap=>k len b cap g;unfold ET at g
 split at g
 ·rename_i hb;cases g;refine GG.step rfl (.inr rfl) λhm a w Z=> ?_;obtain⟨N,aG,aX,aH⟩:=E.info
  have A:h.cells.size=sz:=by
   have:=E.len _ _ _<|M F<|Fz.le_refl F;simpa using this
  generalize G:Question.appendCap y.toNat 0 e=q
  have o:y.toNat<=q.cut (w.tape w.drawn q)/\q.cut (w.tape w.drawn q)<=9223372036854775807:=by
   rw[<-G];have:=o1 (w.tape w.drawn<|Question.appendCap y.toNat 0 e) (show 0 < 2^63 - y.toNat by omega);simp only[Question.cut];omega
  have s:q.forced=false:=by rw[<-G];rfl
  generalize hC:q.cut (w.tape w.drawn q)=C at o
  have aI:SH w F (Qh<|hs.eraseIdx i):=Z.2.sD i;have H:SH {w with drawn:=w.drawn+1} F (Qh<|hs.eraseIdx i):=aI.drew _;have B:=H.alloc<|.cells (Builtin.zeroCells h.cells y.toNat++Builtin.zeroCells h.cells (C - y.toNat)) e;have I:∀k,(Builtin.zeroCells h.cells k).size=k*sz:=λk=>by simp[Builtin.zeroCells,A]
  have aJ:IntKind.i64.wrap y=y:=by simp[IntKind.wrap,IntKind.bits,IntKind.signed];omega
  refine⟨.slice (some ⟨w.heap.size,0,none⟩) y.toNat C,({w with drawn:=w.drawn+1}:By).alloc<|.cells (Builtin.zeroCells h.cells y.toNat++Builtin.zeroCells h.cells (C - y.toNat)) e,?_,?_⟩
  rotate_left
  ·have R:=hk w.heap.size C;rw[od] at R
   refine R hm _ _ ⟨Z.1.put hd _,SH.push hi<|B.mono λm hm=>QP (λm' aK=>⟨by rw[od];exact o.1,o.2,.inr ⟨w.heap.size,(Builtin.zeroCells h.cells y.toNat++Builtin.zeroCells h.cells (C - y.toNat)).toList,rfl,?_,?_,?_⟩⟩) hm⟩
   ·(have W:pt _ _ m' :=aK;unfold pt at W ⊢;rw[W])
   ·simp only[eh,iK,I,<-mq];congr 1;omega
   ·have hp:Jj sz c F (List.replicate y.toNat z) (Builtin.zeroCells h.cells y.toNat).toList:=by
     unfold Builtin.zeroCells;rw[A];have:=Jj.mT (cap:=y.toNat) (k:=y.toNat) A (S2 _) M;rw[A] at this;exact this
    have:=hp.a7 (us2:=(Builtin.zeroCells h.cells<|C - y.toNat).toList) (by simp[I]);simpa using this
  ·have X:¬y < 0:=by omega
   have aL:¬(281474976710656:Int) < y*N.bytes:=by
    have h1:(N.bytes:Int)<=4096:=by omega
    have h2:y*(N.bytes:Int)<=y*4096:=fm h1 eB;omega
   have hn:GU y.toNat 0 N.bytes:=SD eB eB aH;unfold GU at hn
   have aM:¬(281474976710656:Nat) < Builtin.nextslicecap y.toNat 0*N.bytes:=by omega
   have aP:¬y.toNat=0:=by omega
   have aQ:¬((y.toNat:Nat):Int) > IntKind.i64.max:=by simp[IntKind.max,IntKind.bits,IntKind.signed];omega
   have i2:∀w:By,(asInt<|.int kd y).run P w= .ok y w:=λw=>by simp[asInt,asIntOf]
   have af:¬(y.toNat<=0):=by omega
   simp only[execOp,resolve,invoke,builtin,List.map_toArray,E4,oV,Z.1.eval hx,Z.1.eval hy];simp only[Builtin.append_];simp[aC,aD,YG ht,YG aB,E.size,i2,aJ,X,aG,aL,aM,G,s,hC,aE,newRow,Builtin.firstCells,askRoom];have q1:¬y<=0:=by omega
   have q2:¬(9223372036854775807:Int) < max y 0:=by omega
   rw[B1 q1,B1 q2];by_cases L:y.toNat*sz=0
   ·have Y:Builtin.zeroCells h.cells y.toNat=#[]:=iQ (by rw[I];exact L);rw[BY L,Y,Array.empty_append]
   ·rw[B1 L]
 ·cases g
theorem GG.nq{T:S1}{l:Q0 α}{f:Q0 α->K1 β}(i:Nat)(M:Nat.blt d n=true)(N:P.underlying t=some (.slice e))(R:∀w,(sizeOf e).run P w= .ok sz w)
  (hi:hs[i]? =some (Ql sz c F0 T p cap l)) (W:QQ S ox=some (.slice p l.length cap)) (s:QQ S oy=some (.int kd x))
  (k:∀l' p',ZZ l 0 x=some l'->GL O P eG rest ks Q (Hd n D ((d,.slice p' l'.length cap)::S) F<|hs.set i<|Ql sz c F0 T p' cap l') (f l') r):GL O P eG (⟨some d,.slice t ox none (some oy) none,ty,pos,after,none⟩::rest) ks Q (Hd n D S F hs) ((ZZ l 0 x).bind f) r:=by
 refine GG.bind λl' o=> ?_;have A:=o;unfold ZZ at o
 split at o
 ·rename_i h;simp only[W1,om,oG,oU] at o
  have g:l'.length=x.toNat:=by rw[<-o];simp;omega
  refine GG.step rfl (.inr rfl) λB a w z=> ?_
  have I:l.length<=cap:=by
   obtain⟨_,⟨_,_,_,_,_,⟨L,_,_⟩,_⟩,_⟩:=z.2.pull hi;exact L
  refine⟨.slice (if cap=0 then p else p.map (·.add (0*sz))) x.toNat cap,w,?_,?_⟩
  ·simp only[execOp,z.1.eval W,z.1.eval s,L4,lZ,j3];rw[Tl N R eB];rfl
  ·have C:=k l' (if cap=0 then p else p.map (·.add (0*sz))) A;rw[g] at C
   have X:(if cap=0 then p else p.map (·.add (0*sz)))=p:=by
    split
    ·rfl
    ·cases p with
     | none=>rfl
     | some q=>simp[Addr.add]
   rw[X] at C ⊢
   refine C B _ _ ⟨z.1.put M _,SH.push hi<|(z.2.pull hi).mono λm B=>QP (λm' E=> ?_) B⟩;obtain⟨L,Y,G⟩:=E;refine⟨by rw[g];omega,Y,?_⟩;rcases G with G | ⟨b,cs,Z,hb,H,hp⟩
   ·exact .inl G
   ·exact .inr ⟨b,cs,Z,hb,H,λj y s F' le=>hp j y (by
     rw[<-o,yb] at s
     split at s
     ·exact s
     ·cases s) F' le⟩
 ·cases o
end
end
section
variable{S Si:Q0 (Nat×UV)}{eG:So Nm}{l rest:Q0 Nm}{hs hs2:Q0 HP}{L:Nat->Bool}{after:So lY}{α:Type}{i d sz cap n:Nat}{pos:String}{ty t e:S1}{ox oy:L5}{q:Fz->Prop}{p:K1 C3}{l':Q0 α}{kd:r6}{c:Uo α}{F' F2:Fz}{w:By}{v:UV}{x:Int}
variable{O:K1 Nat}{μ:Md}
structure Env where
 a:Nat->Option Addr
 n:Nat->Nat
 c:Nat->List Value
 f:Nat->Fz
 o:Nat->Option Nat
variable{C:(Nat->Bool)->Env->Q0 HP}{env:Env}
abbrev XA:Type:=UV×(Fz->Prop)
variable{X:Env->Q0 XA}
def Db:Q0 Bool->Q0 α->Q0 (K1 α)
 | b::bs,x::xs=>(bif b then some x else none)::Db bs xs
 | _,_=>[]
theorem S7:∀{M:Q0 Bool} {x y:Q0 α} {j:Nat} {q:α},Db M x=Db M y->M[j]? =some true->x[j]? =some q->y[j]? =some q
 | [],_,_,j,_,_,h,_=>by simp at h
 | b::M,[],_,j,_,_,_,h=>by simp at h
 | b::M,x::xs,[],j,_,h,_,_=>by simp[Db] at h
 | b::M,x::xs,y::g,0,q,h,a,f=>by
  simp at a f;subst a f
  simp only[Db,cond_true,lR,W1] at h
  simp[h.1]
 | b::M,x::xs,y::g,j+1,q,h,a,f=>by
  simp only[Db,lR] at h
  have:=S7 (j:=j) (q:=q) h.2 (by simpa using a) (by simpa using f);simpa using this
def X6(l:Q0 Nm):Nat->Nat->Nat->Bool
 | 0,_,_=>false
 | k+1,i,j=>match l[i]? with
  | none=>false
  | some o=>o.after.toList.any λe=>Region.binds .any e&&(Nat.beq e.on j||X6 l k e.on j)
def Down(l:Q0 Nm)(L:Nat->Bool):Prop:=∀i o,l[i]? =some o->L i=true->∀e∈o.after,Region.binds .any e=true->L e.on=true
theorem Xb(m:Down l L):∀{k i j:Nat},X6 l k i j=true->(∀o,l[i]? =some o->∀e∈o.after,Region.binds .any e=true->L e.on=true)->L j=true
 | 0,i,j,h,_=>by simp[X6] at h
 | k+1,i,j,h,hi=>by
  simp only[X6] at h
  split at h
  ·cases h
  ·rename_i o r;simp only[n1,Do,nn] at h
   obtain⟨e,he,s,h⟩:=h;have a:=hi o r e (by simpa using he) s;rcases h with h | h
   ·rw[<-j0 h];exact a
   ·exact Xb m h λo' b u f g=>m e.on o' b a u f g
def SR(l:Q0 Nm)(i:Nat):Nat->Q0 Bool->Q0 Bool->Bool
 | _,_,[]=>true
 | j,M,b::bs=>(b||Nat.beq j i||(match l[j]? with
  | none=>false
  | some o=>o.after.toList.any λe=>Region.binds .any e&&(Nat.beq e.on i||(Nat.blt e.on j&&(M[e.on]?).getD true==false))))&&SR l i (j+1) M bs
theorem Mf{M:Q0 Bool}:∀{bs:Q0 Bool} {a:Nat},SR l i a M bs=true->∀t,bs[t]? =some false->a+t=i∨∃o e,l[a+t]? =some o/\e∈o.after/\Region.binds .any e=true/\(e.on=i∨(e.on < a+t/\M[e.on]? =some false))
 | [],_,_,t,h=>by simp at h
 | b::bs,a,f,0,h=>by
  simp at h;subst h
  simp only[SR,lU,Do,nn] at f
  rcases f.1 with h | h
  ·exact .inl<|j0 h
  ·right;split at h
   ·cases h
   ·rename_i o m;simp only[n1,Do,nn] at h
    obtain⟨e,he,j,h⟩:=h;refine⟨o,e,m,by simpa using he,j,?_⟩;rcases h with h | ⟨r,g⟩
    ·exact .inl<|j0 h
    ·refine .inr ⟨A4 r,?_⟩;cases k:M[e.on]? with
     | none=>rw[k] at g;simp at g
     | some b=>rw[k] at g;simp at g;rw[g]
 | b::bs,a,f,t+1,h=>by
  simp only[SR,Do] at f
  have:=Mf f.2 t<|by simpa using h
  rwa[show a+1+t=a+(t+1) by omega] at this
theorem Pf{M:Q0 Bool}(m:Down l L)(hi:L i=false)(r:SR l i 0 M M=true):∀(j:Nat),L j=true->j < M.length->M[j]? =some true:=λj=>by
 induction j using Nat.strongRecOn with
 | ind j s=>
  intro g u;cases k:M[j]? with
  | none=>rw[oK] at k;omega
  | some b=>
   cases b with
   | true=>rfl
   | false=>
    exfalso;have:=Mf r j k;rw[dO] at this
    rcases this with rfl | ⟨o,e,y,he,z,h⟩
    ·rw[hi] at g;cases g
    ·have a:=m j o y g e he z;rcases h with h | ⟨f,h⟩
     ·rw[h,hi] at a;cases a
     ·have:=s e.on f a<|Zx h;rw[h] at this;cases this
def V6(l:Q0 Nm)(j:Nat):K1 Nat:=(l[j]?).bind (·.dst)
section
variable{β:Type}{P:B3}{ks:Q0 Kt}{Q:hP->Act->By->Prop}{m:K1 β}{r:β}
variable{n:Nat}{D:Q0 AC}{S0:Q0 (Nat×UV)}{F:Fz}
def FA(n:Nat)(D:Q0 AC)(l:Q0 Nm)(X:Env->Q0 XA)(C:(Nat->Bool)->Env->Q0 HP)(L:Nat->Bool)(env:Env)(F' :Fz)(i:Nat)(g:K1 Nat)(S:Q0 (Nat×UV)):hP->Act->By->Prop:=λe a w=>
 e= .normal/\∃b f,F'<=f/\(∃M,M.length=(X env).length/\SR l i 0 M M=true/\Db M (X env)=Db M (X b))/\∃q,(X b)[i]? =some q/\(∀G,f<=G->q.2 G)/\
  Hd n D (match g with | some d=>(d,q.1)::S | none=>S) f (C (Kb L i) b) a w
def xp(O:K1 Nat)(P:B3)(eG:So Nm)(l:Q0 Nm)(n:Nat)(D:Q0 AC)(S0:Q0 (Nat×UV))(F:Fz)(X:Env->Q0 XA)(C:(Nat->Bool)->Env->Q0 HP)(i:Nat)(o:Nm):Prop:=
 ∀L env F',F<=F'->L i=false->(∀k j,X6 l k i j=true->L j=true)->(∀k j,X6 l k j i=true->L j=false)->(∀(j:Nat) (q:XA),L j=true->(X env)[j]? =some q->∀G,F'<=G->q.2 G)->
  ∃Si,(∀S,Sub S0 S->(∀(j d:Nat) (v:UV),L j=true->V6 l j=some d->((X env)[j]?).map Prod.fst=some v->K4 S d=some v)->Sub Si S)/\
   GL O P eG [o] [] (FA n D l X C L env F' i o.dst Si) (Hd n D Si F'<|C L env) (some ()) ()
def Gk(O:K1 Nat)(P:B3)(eG:So Nm)(l:Q0 Nm)(n:Nat)(D:Q0 AC)(S0:Q0 (Nat×UV))(F:Fz)(X:Env->Q0 XA)(C:(Nat->Bool)->Env->Q0 HP):Nat->Q0 Nm->Prop
 | _,[]=>True
 | i,o::os=>xp O P eG l n D S0 F X C i o/\Gk O P eG l n D S0 F X C (i+1) os
theorem Gk.get:∀{k:Nat} {os:Q0 Nm},Gk O P eG l n D S0 F X C k os->∀i o,os[i]? =some o->xp O P eG l n D S0 F X C (k+i) o
 | _,[],_,i,o,h=>by simp at h
 | k,x::os,a,0,o,h=>by simp at h;subst h;exact a.1
 | k,x::os,a,i+1,o,h=>by
  have:=Gk.get a.2 i o<|by simpa using h
  rwa[show k+1+i=k+(i+1) by omega] at this
theorem O4{o:Nm}{a:Act}(I:∀d,o.dst=some d->Nat.blt d n=true)(z:Sl n D S a)
  (h:Xl O P eG (FA n D l X C L env F' i o.dst Si) [o] a w):Xl O P eG (FA n D l X C L env F' i o.dst S) [o] a w:=by
 have key:∀u w',FA n D l X C L env F' i o.dst Si .normal (a.put o.dst u) w'->FA n D l X C L env F' i o.dst S .normal (a.put o.dst u) w' :=by
  rintro u w' ⟨_,b,y,le,E,q,k,G,g⟩;refine⟨rfl,b,y,le,E,q,k,G,?_⟩;cases s:o.dst with
  | none=>rw[s] at g;exact⟨z.cz u,g.2⟩
  | some d=>
   rw[s] at g
   have H:=z.put (I d s) u;have K:=H.2.2 d u BM;have M:=g.1.2.2 d q.1 BM;have:u=q.1:=K.symm.trans M;subst this;exact⟨H,g.2⟩
 have A:∀e a w,e≠.normal->FA n D l X C L env F' i o.dst Si e a w->False:=λe a w j k=>j k.1;unfold Xl at h ⊢
 split
 ·rename_i B;rw[BY B] at h
  refine Ol key (λN w' h=> ?_) (λe a w j k=>(A e a w j k).elim) h;obtain⟨_,b,y,le,E,q,k,G,g⟩:=h;have f:=g.1.2.1;cases s:o.dst with
  | none=>
   rw[s] at f;simp only[Act.put] at f;rw[z.2.1] at f
   exact absurd (congrArg List.length f) eF
  | some d=>
   rw[s] at f;simp only[Act.put] at f;rw[z.2.1] at f
   exact absurd (congrArg List.length f) eF
 ·rename_i B;rw[B1 B] at h
  exact key undef w h
def Tk(d:Nat)(o:Nm):Bool:=match o.dst with
 | some a=>Nat.beq a d
 | none=>false
def Gq(n:Nat)(S0:Q0 (Nat×UV)):Q0 Nm->Bool
 | []=>true
 | o::os=>(match o.dst with
  | none=>true
  | some d=>Nat.blt d n&& !TF d S0&& !os.any (Tk d))&&Gq n S0 os
theorem HL:∀{os:Q0 Nm} {i:Nat} {o:Nm} {d:Nat},Gq n S0 os=true->os[i]? =some o->o.dst=some d->Nat.blt d n=true/\TF d S0=false
 | [],_,_,_,_,h,_=>by simp at h
 | x::os,0,o,d,a,h,b=>by
  simp at h;subst h
  simp only[Gq,b,Do,tb] at a
  exact⟨a.1.1.1,a.1.1.2⟩
 | x::os,i+1,o,d,a,h,b=>by
  simp only[Gq,Do] at a
  exact HL a.2 (by simpa using h) b
theorem AD{os:Q0 Nm}{o:Nm}(h:os.any (Tk d)=false)(b:os[i]? =some o)(f:o.dst=some d):False:=by
 have g:o∈os:=by
  obtain⟨a,e⟩:=DO.1 b;rw[<-e];exact iN a
 have:os.any (Tk d)=true:=n1.2 ⟨o,g,by simp[Tk,f]⟩;rw[h] at this;cases this
theorem B6:∀{os:Q0 Nm} {i j:Nat} {o o' :Nm} {d:Nat},Gq n S0 os=true->os[i]? =some o->os[j]? =some o'->o.dst=some d->o'.dst=some d->i=j
 | [],_,_,_,_,_,_,h,_,_,_=>by simp at h
 | x::os,0,0,_,_,_,_,_,_,_,_=>rfl
 | x::os,0,j+1,o,o',d,b,h,h',f,a=>by
  simp at h;subst h
  simp only[Gq,f,Do,tb] at b
  exact(AD b.1.2 (by simpa using h') a).elim
 | x::os,i+1,0,o,o',d,b,h,h',f,a=>by
  simp at h';subst h'
  simp only[Gq,a,Do,tb] at b
  exact(AD b.1.2 (by simpa using h) f).elim
 | x::os,i+1,j+1,o,o',d,b,h,h',f,a=>by
  simp only[Gq,Do] at b
  have:=B6 (i:=i) (j:=j) b.2 (by simpa using h) (by simpa using h') f a;rw[this]
def Og:Q0 Nm->Q0 XA->Q0 (Nat×UV)->Q0 (Nat×UV)
 | o::os,q::a,S=>match o.dst with
  | some d=>(d,q.1)::Og os a S
  | none=>Og os a S
 | _,_,S=>S
theorem Nd(b:Sub S0 S):∀{os:Q0 Nm} {a:Q0 XA},(∀(i:Nat) (o:Nm) (d:Nat) (q:XA),os[i]? =some o->o.dst=some d->a[i]? =some q->K4 S d=some q.1)->Sub (Og os a S0) S
 | [],_,_=>b
 | _::_,[],_=>b
 | o::os,q::a,h=>by
  have f:Sub (Og os a S0) S:=Nd b λi o d q g j k=>h (i+1) o d q (by simpa using g) j (by simpa using k);simp only[Og];cases s:o.dst with
  | none=>exact f
  | some d=>exact Sub.cons (h 0 o d q rfl s rfl) f
theorem GG.rr{id:Nat}(k g:Nat)(X:Env->Q0 XA)(C:(Nat->Bool)->Env->Q0 HP)(hm:P.follows .mixedOrders=true)(aQ:LK 0 l=true)(aH:Im k (l.drop k)=true)
  (aR:Nat.ble k l.length=true) (hX:∀env,(X env).length=k) (aI:Gq n S0 (l.take k)=true) (hC:∀env,C (λ_=>false) env=hs++List.replicate g SO)
  (aS:Gk O P l.toArray l n D S0 F X C 0 (l.take k))
  (tail:∀env F',F<=F'->(∀(j:Nat) (q:XA),(X env)[j]? =some q->q.2 F')->GL O P l.toArray (l.drop k) ks Q (Hd n D (Og (l.take k) (X env) S0) F'<|C (λj=>Nat.blt j k) env) m r):GC O P (.region id l.toArray true) ks Q (Hd n D S0 F hs) m r:=by
 intro ai a w ha;have aj:k<=l.length:=A4 aR
 let aG:(Nat->Bool)->Act->By->Prop:=λL a w=>Down l L/\(∀i,k<=i->L i=false)/\∃env F' S,F<=F'/\Sub S0 S/\(∀(j d:Nat) (v:UV),L j=true->V6 l j=some d->((X env)[j]?).map Prod.fst=some v->K4 S d=some v)/\(∀(j:Nat) (q:XA),L j=true->(X env)[j]? =some q->∀G,F'<=G->q.2 G)/\Hd n D S F' (C L env) a w
 let Inv:(Nat->Bool)->Act->By->Prop:=λL a w=>aG L a w∨∃i,k < i/\(∀j,L j=true↔j < i)/\Xl O P l.toArray (Zw O P ks Q) (l.drop i) a w
 have N:∀L a w,(∀i,i < k->L i=true)->aG L a w->Xl O P l.toArray (Zw O P ks Q) (l.drop k) a w:=by
  rintro L a w b ⟨I,E,env,F',S,le,hS,hV,hΦ,hA⟩;have bN:=hX env
  have ak:L=λj=>Nat.blt j k:=by
    funext j;rcases kn j k with h | h
    ·rw[b j h];exact(hN h).symm
    ·rw[E j h];cases W:Nat.blt j k with
     | false=>rfl
     | true=>have:=A4 W;omega
  refine tail env F' le (λj q Y=>hΦ j q (b j (by have:=Zx Y;omega)) Y F'<|Fz.le_refl F') ai a w ⟨hA.1.sub<|Nd hS λi o d q e1 e2 e3=> ?_,ak▸hA.2⟩;have aV:i < k:=by have:=Zx e3;omega
  refine hV i d q.1 (b i aV) ?_ (by rw[e3];rfl);rw[yb,BY aV] at e1
  simp[V6,e1,e2]
 refine X0 hm Inv (λi o h e he W=>by have:=HQ aQ i o (by simpa using h) e he W;omega) ?_ ?_ ?_
 ·refine .inl ⟨λi o _ h=>(by cases h),λ_ _=>rfl,⟨λ_=>none,λ_=>0,λ_=>[],λ_=>F,λ_=>none⟩,F,S0,Fz.le_refl F,Sub.refl _,λj d v h=>(by cases h),λj q h=>(by cases h),ha.1,?_⟩;rw[hC];have h1:=ha.2.drew<|w.drawn+1;refine h1.mono λm al=> ?_;exact stars_emps al
 ·intro L a w i o ho K y hI;have z:l[i]? =some o:=by simpa using ho
  have aK:i < l.length:=Zx z;by_cases hi:i < k
  · rcases hI with Z | ⟨u,hk,hL,_⟩
    case inr=>have:=(hL i).2 eB;rw[K] at this;cases this
    obtain⟨I,E,env,F',S,le,hS,hV,hΦ,hA⟩:=Z;have aB:(l.take k)[i]? =some o:=by rw[yb,BY hi];exact z
    have aX:=Gk.get aS i o aB;simp only[dO] at aX
    have ao:∀u j,X6 l u j i=true->L j=false:=λu j h=>by
     cases A:L j with
     | false=>rfl
     | true=>
      have:=Xb I h λo' H e he W=>I j o' H A e he W;rw[K] at this;cases this
    have aY:∀u j,X6 l u i j=true->L j=true:=λu j h=>Xb I h λo' H e he W=>by
     rw[z] at H;cases H;exact y e he W
    obtain⟨Si,aq,aL⟩:=aX L env F' le K aY ao hΦ;have aZ:=aq S hS hV;have hn:∀d,o.dst=some d->Nat.blt d n=true:=λd hd=>(HL aI aB hd).1;have h1:=O4 (S:=S) hn hA.1<|aL rfl a w ⟨hA.1.sub aZ,hA.2⟩;refine PK (λe a w aM Y=>absurd Y.1 aM) (λa' w' Y=> ?_) h1;obtain⟨_,R,ar,ab,⟨M,au,av,aw⟩,q,Y,ax,ay⟩:=Y
    have ad:∀(j:Nat) (q:XA),L j=true->(X R)[j]? =some q->(X env)[j]? =some q:=λj q A hx=>by
     have az:j < M.length:=by rw[au,hX env,<-hX R];exact Zx hx
     exact S7 aw.symm (Pf I K av j A az) hx
    refine .inl ⟨?_,?_,R,ar,(match o.dst with | some d=>(d,q.1)::S | none=>S),Fz.le_trans le ab,?_,?_,?_,ay⟩
    ·intro j oj B A e he W;by_cases s:j=i
     ·subst s;rw[z] at B;cases B
      have:=y e he W;simp only[Kb];split
      ·rfl
      ·exact this
     ·have f:L j=true:=by simpa[Kb,s] using A
      have:=I j oj B f e he W;simp only[Kb];split
      ·rfl
      ·exact this
    ·intro j A;simp only[Kb];rw[B1 eB];exact E j A
    ·cases hd:o.dst with
     | none=>exact hS
     | some d=>exact Nc hS (HL aI aB hd).2 _
    ·intro j d' v' A aC aD;by_cases s:j=i
     ·subst s;have a7:o.dst=some d' :=by simpa[V6,z] using aC
      rw[Y] at aD;simp only[L4,W1] at aD
      subst aD;rw[a7];exact BM
     ·have f:L j=true:=by simpa[Kb,s] using A
      have a8:j < k:=by
       rcases kn j k with h | h
       ·exact h
       ·rw[E j h] at f;cases f
      obtain⟨q',T,rfl⟩:=mY.1 aD;have h0:=hV j d' q'.1 f aC (by rw[ad j q' f T];rfl);cases hd:o.dst with
      | none=>exact h0
      | some d=>
       have aM:d≠d' :=λh=>by
        subst h;cases B:l[j]? with
        | none=>simp[V6,B] at aC
        | some oj=>
         have bA:oj.dst=some d:=by simpa[V6,B] using aC
         exact s<|B6 aI (by rw[yb,BY a8];exact B) aB bA hd
       exact Ph aM h0
    ·intro j q' A T G hG;by_cases s:j=i
     ·subst s;rw[Y] at T;cases T;exact ax G hG
     ·have f:L j=true:=by simpa[Kb,s] using A
      exact hΦ j q' f (ad j q' f T) G<|Fz.le_trans ab hG
  ·
    have bB:=NT aH (i - k) o (by rw[me];rw[show k+(i - k)=i by omega];exact z)
    have b:∀j,j < i->L j=true:=λj A=>by
     obtain⟨e,he,h1,h2⟩:=bB j eB;rw[<-h1];exact y e he h2
    have hw:Xl O P l.toArray (Zw O P ks Q) (l.drop i) a w:=by
     rcases hI with Z | ⟨u,hk,hL,aF⟩
     ·have bC:i=k:=by
       rcases kn k i with h | h
       ·have:=b k h;rw[Z.2.1 _<|S2 _] at this;cases this
       ·omega
      subst bC;exact N L a w b Z
     ·have:u=i:=by
       have h1:¬i < u:=λh=>by have:=(hL i).2 h;rw[K] at this;cases this
       have h2:¬u < i:=λh=>by have:=(hL u).1<|b u h;omega
       omega
      subst this;exact aF
    have aN:l.drop i=o::l.drop (i+1):=by
     have hg:l[i]'aK=o:=by simpa[aK] using z
     rw[<-hg];exact u2 aK
    rw[aN] at hw
    have V:∀a' w',Xl O P l.toArray (Zw O P ks Q) (l.drop<|i+1) a' w'->Inv (Kb L i) a' w' :=λa' w' h=>
     .inr ⟨i+1,by omega,λj=>by
      simp only[Kb];by_cases A:j=i
      ·simp[A]
      ·simp only[A,Bm];constructor
       ·intro f
        have:j < i:=by
         rcases kn j i with h | h
         ·exact h
         ·rcases hI with Z | ⟨u,hk,hL,_⟩
          ·rw[Z.2.1 j eB] at f;cases f
          ·have h1:=(hL j).1 f;have:=(hL i).2 eB;rw[K] at this;cases this
        omega
       ·intro bS;exact b j eB,h⟩
    unfold Xl at hw
    split
    ·rename_i aO;rw[BY aO] at hw
     exact SB V hw
    ·rename_i aO;rw[B1 aO] at hw
     exact V _ _ hw
 ·intro L a w b hI
  have hw:Xl O P l.toArray (Zw O P ks Q) (l.drop l.length) a w:=by
    rcases hI with Z | ⟨u,hk,hL,aF⟩
    ·have bD:k=l.length:=by
      rcases kn k l.length with h | h
      ·have:=b k (by simpa using h);rw[Z.2.1 _<|S2 _] at this;cases this
      ·omega
     have:=N L a w (λi hi=>b i eE) Z
     rwa[bD] at this
    ·have:l.length<=u:=by
      rcases kn u l.length with h | h
      ·have:=(hL u).1 (b u<|by simpa using h);omega
      ·exact h
     rw[u0 this] at aF
     rw[u0<|S2 _];exact aF
  rw[u0<|S2 _] at hw
  exact hw
where
 stars_emps {hs:Q0 HP} {g:Nat} {m:Mem} (h:Qh hs m):Qh (hs++List.replicate g SO) m:=by
  induction hs generalizing m with
  | nil=>
   rw[r7]
   induction g generalizing m with
   | zero=>exact h
   | succ g ih=>exact⟨λ_=>none,m,λ_=>.inl rfl,λ_ _ e=>by simp at e,Mem.sub.refl _,trivial,ih trivial⟩
  | cons q hs ih=>exact QR (λm' h' =>ih h') h
theorem Gk.nil{eG:So Nm}{l:Q0 Nm}{X:Env->Q0 XA}{C:(Nat->Bool)->Env->Q0 HP}{k:Nat}:Gk O P eG l n D S0 F X C k []:=trivial
section
variable{eG:So Nm}{l:Q0 Nm}{X:Env->Q0 XA}{C:(Nat->Bool)->Env->Q0 HP}{L:Nat->Bool}{env:Env}{F' F2:Fz}{i d:Nat}{v:UV}{Si:Q0 (Nat×UV)}{x:β}{hs2:Q0 HP}
theorem allM:∀{k j:Nat} {M:Q0 Bool},SR l i j M (List.replicate k true)=true
 | 0,_,_=>rfl
 | k+1,j,M=>by
  simp only[List.replicate_succ,SR,iJ,mb];exact allM
theorem GG.cy(f:(X env)[i]? =some (v,λ_=>True))(g:C (Kb L i) env=C L env)(le:F'<=F2):GL O P eG [] [] (FA n D l X C L env F' i (some d) Si) (Hd n D ((d,v)::Si) F2<|C L env) (some x) x:=λ_ a w b=>⟨rfl,env,F2,le,⟨List.replicate (X env).length true,by simp,allM,rfl⟩,_,f,λ_ _=>trivial,⟨b.1,g▸b.2⟩⟩
theorem GG.aD(a:Env)(M:Q0 Bool)(b:M.length=(X env).length)(f:SR l i 0 M M=true)(g:Db M (X env)=Db M (X a))(j:(X a)[i]? =some (v,q))(le:F'<=F2)(k:∀G,F2<=G->q G)
  (o:∀w,SH w F2 (Qh hs2)->SH w F2 (Qh<|C (Kb L i) a)):GL O P eG [] [] (FA n D l X C L env F' i (some d) Si) (Hd n D ((d,v)::Si) F2 hs2) (some x) x:=
 λ_ _a _w h=>⟨rfl,a,F2,le,⟨M,b,f,g⟩,_,j,k,⟨h.1,o _ h.2⟩⟩
theorem GG.ag(f:(X env)[i]? =some (v,λ_=>True))(le:F'<=F2)(g:hs2=C (Kb L i) env):GL O P eG [] [] (FA n D l X C L env F' i none Si) (Hd n D Si F2 hs2) (some x) x:=λ_ a w b=>⟨rfl,env,F2,le,⟨List.replicate (X env).length true,by simp,allM,rfl⟩,_,f,λ_ _=>trivial,⟨b.1,g▸b.2⟩⟩
end
theorem SH.place{p q:HP}(k:Nat)(a:hs[k]? =some q)(h:SH w F (Qh<|p::hs)):SH w F (Qh<|hs.set k p):=SH.push a ((h.mono λ_ b=>Zj<|QR (λ_=>DW (k:=k)) b).drop)
theorem JF{b:Bool}{x y:α}(h:b=true):cond b x y=x:=by rw[h];rfl
theorem Z0{b:Bool}{x y:α}(h:b=false):cond b x y=y:=by rw[h];rfl
theorem SH.sZ{p p' q:HP}(k:Nat)(a:hs[k]? =some q)(b:p' =p)(h:SH w F (Qh<|p::hs)):SH w F (Qh<|hs.set k p'):=b▸h.place k a
theorem Nn{p p' :HP}(k:Nat)(a:p' =p):hs.set k p=hs.set k p' :=by rw[a]
theorem GG.norm{g:Gp}{S S' :Q0 (Nat×UV)}{hs b:Q0 HP}(h:Sub S' S)(j:hs=b)(k:GG g (Hd n D S' F b) m r):GG g (Hd n D S F hs) m r:=by
 exact λo a w f=>k o a w ⟨f.1.sub h,j▸f.2⟩
theorem GG.aM{u A:S1}{F0:Fz}{y:K1 C3}{a:Nat}{l l2:Q0 α}{T:So S1}(z:VU l l2=some l')(i:Nat)(E:U2 P e sz c)(g:F0<=F)(B:Nat.blt d n=true)(G:P.underlying t=some (.slice e))(j:P.underlying u=some (.slice A))(o:T[0]? =some t)(s:T[1]? =some u)
  (hi:hs[i]? =some (Ql sz c F0 e p cap l)) (H:QG sz c F y a l2) (I:QQ S ox=some (.slice p l.length cap)) (K:QQ S oy=some (.slice y l2.length a))
  (k:∀p' cap',GL O P eG rest ks Q (Hd n D ((d,.slice p' l'.length cap')::S) F<|hs.set i<|Ql sz c F e p' cap' l') m r):GL O P eG (⟨some d,.call ⟨.builtin .append,#[ox,oy],T⟩,ty,pos,after,none⟩::rest) ks Q (Hd n D S F hs) m r:=by
 have h:=GG.append (f:=λ_=>m) (pos:=pos) (after:=after) (ty:=ty) i E g B G j o s hi H I K (λM p' cap' b=>by rw[z] at b;cases b;exact k p' cap');rw[z] at h;exact h
theorem GG.pU{e:Nat}{l:Q0 α}(g:ZZ l x l.length=some l')(j:Nat.blt d n=true)(o:P.underlying t=some (.slice e))(s:∀w,(sizeOf e).run P w= .ok sz w)
  (u:QG sz c F p cap l) (y:QQ S ox=some (.slice p l.length cap)) (z:QQ S oy=some (.int kd x))
  (k:∀p' c',QG sz c F p' c' l'->GL O P eG rest ks Q (Hd n D ((d,.slice p' l'.length c')::S) F hs) m r):GL O P eG (⟨some d,.slice t ox (some oy) none none,ty,pos,after,none⟩::rest) ks Q (Hd n D S F hs) m r:=by
 have h:=GG.sr (f:=λ_=>m) (pos:=pos) (after:=after) (ty:=ty) j o s u y z (λA p' c' a b=>by rw[g] at a;cases a;exact k p' c' b);rw[g] at h;exact h
theorem GG.pH{j:L5}{e:Nat}{l:Q0 α}{b:r6}(o:ZZ l 0 x=some l')(s:Nat.blt d n=true)(u:P.underlying t=some (.slice e))(y:∀w,(sizeOf e).run P w= .ok sz w)
  (z:QG sz c F p cap l) (A:QQ S ox=some (.slice p l.length cap)) (B:QQ S oy=some (.int kd x)) (E:QQ S j=some (.int b x))
  (k:∀p' c',QG sz c F p' c' l'->GL O P eG rest ks Q (Hd n D ((d,.slice p' l'.length c')::S) F hs) m r):GL O P eG (⟨some d,.slice t ox none (some oy)<|some j,ty,pos,after,none⟩::rest) ks Q (Hd n D S F hs) m r:=by
 have h:=GG.a8 (f:=λ_=>m) (pos:=pos) (after:=after) (ty:=ty) s u y z A B E (λG p' c' a g=>by rw[o] at a;cases a;exact k p' c' g);rw[o] at h;exact h
theorem GG.pT(f:Nat.blt d n=true)(g:P.underlying t=some (.slice e))(h:∀w,(sizeOf e).run P w= .ok sz w)(j:QQ S ox=some (.slice none 0 0))(o:QQ S oy=some (.int kd x))(s:x=0)
  (k:GL O P eG rest ks Q (Hd n D ((d,.slice none 0 0)::S) F hs) m r):GL O P eG (⟨some d,.slice t ox none (some oy) none,ty,pos,after,none⟩::rest) ks Q (Hd n D S F hs) m r:=
 GG.val f (λa w b=>by
  subst s;simp only[execOp,b.1.eval j,b.1.eval o,L4,lZ,j3];rw[Tl g h eB];rfl) k
theorem GG.sN(c:Uo α)(o:Nat.blt d n=true)(s:P.underlying t=some (.slice e))(u:∀w,(sizeOf e).run P w= .ok sz w)
  (k:∀b,GL O P eG rest ks Q (Hd n D ((d,.slice (some ⟨b,0,none⟩) 0 0)::S) F<|Ql sz c F e (some ⟨b,0,none⟩) 0 []::hs) m r):GL O P eG (⟨some d,.buildSlice t 0 #[],ty,pos,after,none⟩::rest) ks Q (Hd n D S F hs) m r:=
 GG.step rfl (.inr rfl) λf a w j=>by
  have y:=j.2.alloc<|.cells #[] e;refine⟨.slice (some ⟨w.heap.size,0,none⟩) 0 0,w.alloc<|.cells #[] e,?_,k w.heap.size f _ _ ⟨j.1.put o _,y.mono λm f=>QP (λA h=>⟨by simp,by omega,.inr ⟨_,[],rfl,h,by simp,Jj.nil⟩⟩) f⟩⟩;have z:∀g:Nat->UV,Array.map g (Array.range 0)=#[]:=λg=>by rw[show Array.range 0=#[] from rfl];simp
  simp[execOp,Instr.buildSlice,YG s,u,Result.andThen,newRow,z,Instr.fill]
theorem QC{a b:HP}{as bs:Q0 HP}(h:a=b)(t:as=bs):a::as=b::bs:=by rw[h,t]
theorem GG.ct{x:β}(a:Env)(M:Q0 Bool)(b:M.length=(X env).length)(f:SR l i 0 M M=true)(g:Db M (X env)=Db M (X a))(j:(X a)[i]? =some (v,q))(le:F'<=F2)(k:∀G,F2<=G->q G)
  (o:C (Kb L i) a=hs2):GL O P eG [] [] (FA n D l X C L env F' i (some d) Si) (Hd n D ((d,v)::Si) F2 hs2) (some x) x:=
 GG.aD a M b f g j le k (λ_ h=>o▸h)
theorem GG.pB{x:β}(a:Env)(M:Q0 Bool)(b:M.length=(X env).length)(f:SR l i 0 M M=true)(g:Db M (X env)=Db M (X a))(j:(X a)[i]? =some (v,q))(le:F'<=F2)(k:∀G,F2<=G->q G)
  (o:C (Kb L i) a=hs2):GL O P eG [] [] (FA n D l X C L env F' i none Si) (Hd n D Si F2 hs2) (some x) x:=
 λ_ _a _w h=>⟨rfl,a,F2,le,⟨M,b,f,g⟩,_,j,k,⟨h.1,o▸h.2⟩⟩
end
end
section
variable{P:B3}{sz:Nat}
variable{O:K1 Nat}{μ:Md}
section
variable{β:Type}{P:B3}{eG:So Nm}{rest:Q0 Nm}{ks:Q0 Kt}{Q:hP->Act->By->Prop}{m:K1 β}{r:β}
variable{n:Nat}{D:Q0 AC}{S:Q0 (Nat×UV)}{F F0:Fz}{hs:Q0 HP}
theorem GG.sI{α:Type}{c:Uo α}{T:S1}{p:K1 C3}{cap:Nat}{l l' :Q0 α}(i:Nat)(_hi:hs[i]? =some (Ql sz c F0 T p cap l))(e:l=l')(k:GL O P eG rest ks Q (Hd n D S F<|hs.set i<|Ql sz c F0 T p cap l') m r):GL O P eG rest ks Q (Hd n D S F hs) m r:=by
 subst e
 have:hs.set i (Ql sz c F0 T p cap l)=hs:=by
  apply mc;intro j;rw[mu];split
  ·rename_i h;subst h;split
   ·exact _hi.symm
   ·rename_i h;rw[s8 eB]
  ·rfl
 rw[this] at k;exact k
end
theorem UY{t:S1}{cs:Q0 UV}{o:Nat}{v:UV}(a:∀w,(isAgg t).run P w= .ok false w)(h:cs[o]? =some v)(w:By):(part t cs.toArray o).run P w= .ok v w:=by
 simp[part,a,h]
theorem eq_int{t:S1}{k a:r6}{x y:Int}(b:P.underlying t=some (.int a))(n:Nat)(w:By):(Op.equalIn (n+1) t (.int k x)<|.int k y).run P w= .ok (x==y) w:=by
 simp[Op.equalIn,YG b]
def fW(P:B3)(d e sz:Nat)(xs a:So UV):Nat->Q0 Bool->Prop
 | _,[]=>True
 | i,b::bs=>(∃u v,(∀w,(part e xs<|i*sz).run P w= .ok u w)/\(∀w,(part e a<|i*sz).run P w= .ok v w)/\∀w,(Op.equalIn d e u v).run P w= .ok b w)/\fW P d e sz xs a (i+1) bs
theorem ql{xs a:So UV}{d e:Nat}{w:By}:∀{bs:Q0 Bool} {i:Nat},fW P d e sz xs a i bs->
  ((forIn (List.range' i bs.length) ((none:K1 Bool),()) λi (_:K1 Bool×Unit)=>(do
   let u <-part e xs (i*sz)
   let v <-part e a (i*sz)
   let b <-Op.equalIn d e u v
   if b=false then pure (ForInStep.done (some false,())) else pure (ForInStep.yield (none,())):Sem (ForInStep<|K1 Bool×Unit))).run P w)= .ok (if bs.all id then(none,()) else(some false,())) w
 | [],i,_=>by simp
 | b::bs,i,⟨⟨u,v,c,f,g⟩,h⟩=>by
  have j:=ql (w:=w) h;rw[OF,List.range'_succ,List.forIn_cons];simp only[j3,c,f,g,Result.andThen];cases b with
  | false=>simp
  | true=>simpa using j
theorem ug{t e len:Nat}{xs b:So UV}{bs:Q0 Bool}{d:Nat}(c:P.underlying t=some (.array len e))(f:∀w,(sizeOf e).run P w= .ok sz w)(g:bs.length=len)(h:fW P d e sz xs b 0 bs)(w:By):(Op.equalIn (d+1) t (.agg xs)<|.agg b).run P w= .ok (bs.all id) w:=by
 have a:=ql (w:=w) h;subst g;simp only[Op.equalIn,j3,YG c,Result.andThen,f];simp[Std.Legacy.Range.forIn_eq_forIn_range',Std.Legacy.Range.size];rw[a];cases bs.all id<;>simp
end
section
variable{α:Type}
def FW(W:By):Fz:={mem:=λb=>W.heap[b]?,os:=W.os,tape:=W.tape,out:=W.output}
theorem SH.start(W:By):SH W (FW W) SO:=⟨λ_=>none,trivial,⟨λ_=>.inl rfl,λ_ _ e=>by simp at e,λ_ _ e=>by simp at e,λ_ _ e=>e,rfl,rfl,rfl⟩⟩
def Sq{H:Type}(enc:S1×UV->H)(P:B3)(W:By)(t:S1)(c:Uo α)(ok:α->Prop):Prop:=∀d held a cs x,DataW.trod enc P W 0 d held a t cs=some x->∃m,ok m/\∀b,FW W<=b->c b m cs
section
variable{H:Type}{enc:S1×UV->H}{P:B3}{W:By}
theorem qT{β:Type}{f:α->K1 β}:∀{l:Q0 α} {r:Q0 β},l.mapM f=some r->∀(i:Nat) (a:α),l[i]? =some a->∃b,f a=some b/\r[i]? =some b
 | [],r,h,i,a,e=>by simp at e
 | a::l,r,h,i,j,e=>by
  rw[List.mapM_cons] at h
  cases c:f a with
  | none=>rw[c] at h;simp at h
  | some b=>
   rw[c] at h
   cases d:l.mapM f with
   | none=>rw[d] at h;simp at h
   | some bs=>
    rw[d] at h;simp at h;subst h
    cases i with
    | zero=>simp at e;subst e;exact⟨b,c,by simp⟩
    | succ i=>exact qT d i j (by simpa using e) |>.imp λb g=>⟨g.1,by simpa using g.2⟩
theorem jG{q:Nat->α->Prop}:∀(n:Nat),(∀i,i < n->∃m,q i m)->∃l:Q0 α,l.length=n/\∀i m,l[i]? =some m->q i m
 | 0,_=>⟨[],rfl,λi m h=>by simp at h⟩
 | n+1,h=>by
  obtain⟨l,a,b⟩:=jG n λi hi=>h i eB;obtain⟨m,c⟩:=h n eB;refine⟨l++[m],by simp[a],λi d e=> ?_⟩;rcases kn i l.length with hi | hi
  ·rw[u1 hi] at e;exact b i d e
  ·rw[s5 hi] at e
   have:i - l.length=0:=by have:=Zx e;simp at this;omega
   rw[this] at e;simp at e;subst e
   rw[show i=n by omega];exact c
theorem jT{w:By}{a:C3}{v:UV}(h:w.cell? a=some v):a.spot=none/\∃cs T fr,w.heap[a.block]? =some (.cells cs T fr)/\cs[a.off]? =some v:=by
 unfold World.cell? at h
 split at h
 ·rename_i c T fr b;split at h
  ·cases h
  ·rename_i hs;exact⟨by simpa using hs,c,T,fr,b,h⟩
 ·cases h
theorem addr_add(b o i:Nat):(⟨b,o,none⟩:C3).add i=⟨b,o+i,none⟩:=by
 unfold Addr.add;split
 ·rename_i h;subst h;rfl
 ·rfl
theorem Ey(a:C3):a.add 0=a:=by simp[Addr.add]
theorem qt{w:By}{a:C3}{n:Nat}{vs:Q0 UV}(h:w.cells? 0 a n=some vs)(g:0 < n):a.spot=none/\∃cs T fr,w.heap[a.block]? =some (.cells cs T fr)/\(cs.toList.drop a.off).take n=vs:=by
 obtain⟨_,k,e⟩:=World.cells?_some h;have j:vs[0]? =some (vs[0]'(by omega)):=C1 _;have f:=(e 0 g).trans j;rw[Ey] at f
 obtain⟨hs,cs,T,fr,d,_⟩:=jT f;refine⟨hs,cs,T,fr,d,?_⟩;obtain⟨b,o,s⟩:=a;simp only at hs d ⊢
 subst hs;apply mc;intro i;rw[yb];split
 ·rename_i hi;have c:=e i hi;rw[addr_add] at c
  unfold World.cell? at c
  simp only[d] at c
  simp at c
  rw[me,<-c];simp
 ·rename_i hi;rw[s8 eB]
theorem Sq.slice{t e g:Nat}{c:Uo α}{ok:α->Prop}(F:P.underlying t=some (.slice e))(Q:P.cellsOf e=g)(j:0 < g)(V:Sq enc P W e c ok):Sq enc P W t (fj g c) (λl=>∀x∈l,ok x):=by
 intro R held k cs x h;cases k with
 | zero=>simp[DataW.trod] at h
 | succ n=>
  unfold DataW.trod at h
  rw[F] at h
  split at h<;>simp_all only[reduceCtorEq,W1,TypeDesc.slice.injEq]
  ·exact⟨[],by simp,λr _=>⟨none,0,rfl,QG.nil⟩⟩
  ·rename_i _ _ S a len cap he;subst he;split at h
   ·rename_i G;obtain⟨elems,he,_⟩:=If.1 h
    have u:∀i,i < len->∃m,ok m/\∃vs,W.cells? 0 (a.add<|i*g) g=some vs/\∀r,FW W<=r->c r m vs:=by
     intro i hi;obtain⟨y,v,_⟩:=qT he i i (by simp[hi]);obtain⟨vs,w,v⟩:=If.1 v;obtain⟨m,I,z⟩:=V _ _ _ _ _ v;exact⟨m,I,vs,w,z⟩
    obtain⟨l,K,A⟩:=jG len u;refine⟨l,λx B=> ?_,λr le=>⟨some a,cap,by rw[K],by omega,?_,?_⟩⟩
    ·obtain⟨i,hi,e⟩:=mv B;exact(A i x (by rw[<-e];exact C1 hi)).1
    ·have:=G.2.2;simp[maxLen] at this;omega
    ·cases l with
     | nil=>exact .inl rfl
     | cons L X=>
      obtain⟨_,M,p,_⟩:=A 0 L rfl;rw[Nat.zero_mul,Ey] at p
      obtain⟨hs,cs,T,fr,f,_⟩:=qt p j;obtain⟨b,o,s⟩:=a;simp only at hs f
      subst hs;refine .inr ⟨b,o,cs,T,fr,rfl,?_,λi x B C D=> ?_⟩
      ·exact le.mem _ _ f
      ·obtain⟨_,vs,E,z⟩:=A i x B;rw[addr_add] at E
       obtain⟨_,cs',Y,N,d,q⟩:=qt E j;simp only at d q
       rw[f] at d;cases d
       have:=z C<|Fz.le_trans le D;rw[<-q] at this
       exact this
   ·cases h
end
end
section
open Go.ChangeShapes Go.WideShapes Go.ChangeAt Go.RowKit
section
variable{H:Type}{enc:S1×UV->H}{P:B3}{W:By}
theorem kR{r:Reach}{d:Nat}{t:S1}{v x:UV}(b:Value.okWide P W r d t v)(f:∀c,P.underlying t≠some (.struct c))(g:∀n e,P.underlying t≠some (.array n e))(i:v.cells.toList=[x]):v=x:=by
 have a:Cell.okWide P W r d t v:=by
  unfold Value.okWide at b
  split at b
  ·rename_i c h;exact absurd h<|f c
  ·rename_i n e h;exact absurd h<|g n e
  ·exact b
 cases v with
 | agg cs=>
  exfalso;unfold Cell.okWide at a
  split at a<;>first | contradiction | skip
  unfold Cell.ok at a
  split at a<;>first | contradiction | exact a
 | _=>simpa[Value.cells] using i
theorem u7{α:Type}{g:Nat}{t e:S1}{a:Nat}{c:Uo α}{ok:Q0 α->Prop}{v:UV}{d:DataW H}{ps:Q0 MemPlace}(b:P.underlying t=some (.slice e))(V:Sq enc P W t (fj a c) ok)
  (h:Value.okWide P W .any g t v) (i:DataW.Trod enc P W 0 (λ_=>true) true t v d ps):∃m p k,ok m/\v= .slice p m.length k/\QG a c (FW W) p k m:=by
 obtain⟨f,j⟩:=i;obtain⟨m,l,n⟩:=V _ _ _ _ _ j;obtain⟨p,k,o,q⟩:=n _<|Fz.le_refl _;exact⟨m,p,k,l,kR h (by rw[b];simp) (by rw[b];simp) o,q⟩
theorem u6{w' :By}{c:Fz}{H' :HP}(le:FW W<=c)(h:SH w' c H'):Below W.heap.size W w' :=by
 obtain⟨d,f⟩:=SH.size_le h (λb o e=>e) le;obtain⟨m,_,a⟩:=h;exact⟨a.os.trans le.os,a.tape.trans le.tape,a.out.trans le.out,d,f⟩
theorem AV{g:By}(i:laidOutB P=true)(j:Below W.heap.size W g):∀{c:Q0 S1} {vs:Q0 UV} {ds:Q0 (DataW H)} {ps:Q0 MemPlace},(c.all λt=>P.readableRec t&&decide (t < P.types.size))=true->
  DataW.TrodAll enc P W 0 (λ_=>true) true c vs ds ps->(∀x∈ps,x.block < W.heap.size)->DataW.TrodAll enc P g 0 (λb=>decide<|b < W.heap.size) true c vs ds ps
 | [],vs,ds,ps,_,h,_=>by
  obtain⟨rfl,rfl,rfl⟩:=trodAll_nil h;rfl
 | t::c,vs,ds,ps,e,h,a=>by
  obtain⟨v,vs',d,k,p,q,rfl,rfl,rfl,l,m⟩:=trodAll_cons h;simp only[mj,Do,AT] at e
  exact⟨p,q,j.trod i e.1.1 e.1.2 l (λx f=>a x<|by simp[f]),AV i j (by simpa using e.2) m (λx f=>a x<|by simp[f]),rfl⟩
theorem RJ:∀{a:Q0 S1} {vs:Q0 UV} {ds:Q0 (DataW H)} {ps:Q0 MemPlace} {b:Nat} {c:Nat->Bool} {e:Bool},DataW.TrodAll enc P W b c e a vs ds ps->ds.length=a.length
 | [],vs,ds,ps,_,_,_,h=>by obtain⟨_,rfl,_⟩:=trodAll_nil h;rfl
 | t::a,vs,ds,ps,_,_,_,h=>by
  obtain⟨v,vs',d,f,p,q,rfl,rfl,rfl,_,g⟩:=trodAll_cons h;simp[RJ g]
end
end
section
variable{σ β α τ:Type}{err:Q0 α->α->Int}{l pre:Q0 α}{x:α}
theorem Qo{n:Int}(a: -9223372036854775808<=n)(b:n<=9223372036854775807):Q8 n=n:=by
 have e:IntKind.i64.bits=64:=rfl;simp only[Q8,IntKind.wrap,e];simp[IntKind.signed];omega
theorem Z2(l:Q0 α)(i:Nat):ZX l (i:Int)=l[i]? :=by
 simp[ZX]
theorem xK{i:Int}(b:0<=i)(h:i < l.length):∃x,ZX l i=some x/\l[i.toNat]? =some x:=by
 obtain⟨k,rfl⟩:=Int.eq_ofNat_of_zero_le b;rw[Z2];have a:k < l.length:=by omega
 exact⟨l[k],C1 a,by simp[a]⟩
theorem Hm{n i:Nat}(h:i < n):Yu n (i:Int)=some i:=by
 unfold Yu;rw[BY eB];simp
theorem Ny{x y:Int}(h:0 < y)(c:0<=x)(d:x<=9223372036854775807):DM .i64 x y=some (x / y):=by
 unfold DM;rw[B1 eB,mf c];have a:=oB c<|Int.le_of_lt h;have b:=Int.ediv_le_self y c;rw[show IntKind.i64.wrap (x / y)=Q8 (x / y) from rfl,Qo eB eB]
def NG(step:τ->Nat->α->K1 (UQ τ β))(a:τ->β):Q0 α->Nat->τ->K1 β
 | [],_,t=>some (a t)
 | x::l,i,t=>match step t i x with
  | none=>none
  | some (.next t')=>NG step a l (i+1) t'
  | some (.done b)=>some b
def UQ.au(f:τ->σ):UQ τ β->UQ σ β
 | .next t=>.next (f t)
 | .done b=>.done b
variable{body:σ->K1 (UQ σ β)}
theorem Tr(mk:τ->Nat->σ)(step:τ->Nat->α->K1 (UQ τ β))(a:τ->β)(l:Q0 α)
  (e:∀t (i:Nat) x,l[i]? =some x->body (mk t i)=(step t i x).map (UQ.au λt' =>mk t'<|i+1))
  (he:∀t,body (mk t l.length)=some (.done<|a t)):∀(k i:Nat) (t:τ),i+k=l.length->ZU body (mk t i)=NG step a (l.drop i) i t
 | 0,i,t,hi=>by
  have:i=l.length:=by omega
  subst this;rw[ZJ,he,List.drop_length];rfl
 | k+1,i,t,hi=>by
  have d:i < l.length:=by omega
  have f:l[i]? =some l[i]:=C1 d;rw[ZJ,e t i _ f,u2 d];simp only[NG];cases hs:step t i l[i] with
  | none=>rfl
  | some c=>
   cases c with
   | done b=>rfl
   | next t' =>exact Tr mk step a l e he k (i+1) t' eB
theorem BL(mk:τ->Nat->σ)(step:τ->Nat->α->K1 (UQ τ β))(a:τ->β)(l:Q0 α)
  (b:∀t (i:Nat) x,l[i]? =some x->body (mk t i)=(step t i x).map (UQ.au λt' =>mk t'<|i+1))
  (he:∀t,body (mk t l.length)=some (.done<|a t)) (t:τ):ZU body (mk t 0)=NG step a l 0 t:=
 Tr mk step a l b he l.length 0 t eB
theorem Ag(mk:τ->Nat->σ)(step:τ->Nat->α->K1 (UQ τ β))(a:τ->β)(l:Q0 α)(J:Nat->τ->Prop)
  (f:∀t (i:Nat) x,l[i]? =some x->J i t->body (mk t i)=(step t i x).map (UQ.au λt' =>mk t'<|i+1))
  (g:∀t (i:Nat) x t',l[i]? =some x->J i t->step t i x=some (.next t')->J (i+1) t')
  (he:∀t,J l.length t->body (mk t l.length)=some (.done<|a t)):∀(k i:Nat) (t:τ),i+k=l.length->J i t->ZU body (mk t i)=NG step a (l.drop i) i t
 | 0,i,t,hi,e=>by
  have:i=l.length:=by omega
  subst this;rw[ZJ,he t e,List.drop_length];rfl
 | k+1,i,t,hi,e=>by
  have d:i < l.length:=by omega
  have h:l[i]? =some l[i]:=C1 d;rw[ZJ,f t i _ h e,u2 d];simp only[NG];cases hs:step t i l[i] with
  | none=>rfl
  | some c=>
   cases c with
   | done b=>rfl
   | next t' =>exact Ag mk step a l J f g he k (i+1) t' eB<|g t i _ t' h e hs
def Wn(err:Q0 α->α->Int)(l:Q0 α):Prop:=∀pre x post,l=pre++x::post->err pre x=0
def Sw(err:Q0 α->α->Int)(l pre:Q0 α)(x:α):Prop:=∃post,l=pre++x::post/\Wn err pre/\err pre x≠0
theorem Wn.nil{α:Type}{err:Q0 α->α->Int}:Wn err []:=λpre x post h=>by simp at h
theorem Wn.snoc(h:Wn err l)(c:err l x=0):Wn err (l++[x]):=by
 intro pre y post e;rcases List.eq_nil_or_concat post with rfl | ⟨a,z,rfl⟩
 ·have:=List.append_inj' e rfl;obtain⟨rfl,b⟩:=this;simp only[lR,iX] at b
  subst b;exact c
 ·rw[List.concat_eq_append,<-tO,<-List.append_assoc] at e
  have:=List.append_inj' e rfl;exact h pre y a this.1
theorem Wn.init{k:Q0 α}(h:Wn err (l++k)):Wn err l:=λpre x post e=>h pre x (post++k) (by rw[e];simp)
theorem Sw.nE(h:Sw err l pre x):¬Wn err l:=λk=>by
 obtain⟨post,e,_,a⟩:=h;exact a<|k pre x post e
theorem FF(mk:Nat->τ->σ)(err:Q0 α->α->Int)(b:Nat->Int->β)(c:τ->β)(R:Q0 α->τ->Prop)(l:Q0 α)
  (h:∀pre x post t,l=pre++x::post->Wn err pre->R pre t->(err pre x≠0/\body (mk pre.length t)=some (.done<|b pre.length<|err pre x))∨(err pre x=0/\∃t',body (mk pre.length t)=some (.next<|mk (pre.length+1) t')/\R (pre++[x]) t'))
  (a:∀t,Wn err l->R l t->body (mk l.length t)=some (.done<|c t)):∀(post pre:Q0 α) (t:τ),l=pre++post->Wn err pre->R pre t->
  (∃p x,Sw err l p x/\ZU body (mk pre.length t)=some (b p.length<|err p x))∨(Wn err l/\∃t',R l t'/\ZU body (mk pre.length t)=some (c t'))
 | [],pre,t,d,e,f=>by
  rw[r8] at d;subst d
  exact .inr ⟨e,t,f,by rw[ZJ,a t e f]⟩
 | x::post,pre,t,d,e,f=>by
  rcases h pre x post t d e f with⟨he,hs⟩ | ⟨he,t',hs,g⟩
  ·exact .inl ⟨pre,x,⟨post,d,e,he⟩,by rw[ZJ,hs]⟩
  ·have:=FF mk err b c R l h a post (pre++[x]) t' (by rw[d];simp) (e.snoc he) g;rw[ZJ,hs];simpa using this
theorem GD(mk:Nat->τ->σ)(b:τ->β)(R:Q0 α->τ->Prop)(l:Q0 α)
  (h:∀pre x post t,l=pre++x::post->R pre t->∃t',body (mk pre.length t)=some (.next<|mk (pre.length+1) t')/\R (pre++[x]) t')
  (a:∀t,R l t->body (mk l.length t)=some (.done<|b t)):∀(post pre:Q0 α) (t:τ),l=pre++post->R pre t->∃t',R l t'/\ZU body (mk pre.length t)=some (b t')
 | [],pre,t,c,d=>by
  rw[r8] at c;subst c
  exact⟨t,d,by rw[ZJ,a t d]⟩
 | x::post,pre,t,c,d=>by
  obtain⟨t',hs,e⟩:=h pre x post t c d;have:=GD mk b R l h a post (pre++[x]) t' (by rw[c];simp) e;rw[ZJ,hs];simpa using this
theorem GA(mk:Nat->τ->σ)(b:τ->β)(R:Nat->τ->Prop)(n:Nat)
  (h:∀i t,i < n->R i t->∃t',body (mk i t)=some (.next<|mk (i+1) t')/\R (i+1) t')
  (a:∀t,R n t->body (mk n t)=some (.done<|b t)):∀(k i:Nat) (t:τ),i+k=n->R i t->∃t',R n t'/\ZU body (mk i t)=some (b t')
 | 0,i,t,e,c=>by
  have:i=n:=by omega
  subst this;exact⟨t,c,by rw[ZJ,a t c]⟩
 | k+1,i,t,e,c=>by
  obtain⟨t',hs,d⟩:=h i t eB c;rw[ZJ,hs];exact GA mk b R n h a k (i+1) t' eB d
theorem ZT{e:K1 α}{f:α->K1 β}{a:α}{r:K1 β}(h:e=some a)(k:f a=r):e.bind f=r:=by
 rw[h];exact k
theorem TT{k:Q0 α}(h:l.length+k.length<=4294967296):VU l k=some (l++k):=by
 unfold VU;rw[BY h]
theorem VO{post:Q0 α}(h:l=pre++x::post):l[pre.length]? =some x:=by rw[h];simp
theorem HJ{post:Q0 α}(h:l=pre++x::post):pre.length < l.length:=by rw[h];simp
theorem C4{p:Q0 α->Prop}(niX:p [])(snX:∀l x,p l->p (l++[x]))(l:Q0 α):p l:=by
 have:∀r:Q0 α,p r.reverse:=by
  intro r
  induction r with
  | nil=>exact niX
  | cons x r a=>rw[List.reverse_cons];exact snX _ _ a
 have:=this l.reverse
 rwa[List.reverse_reverse] at this
theorem qU(I:σ->Prop)(μ:σ->Nat)(Q:β->Prop)
  (h:∀s,I s->(∃a,body s=some (.next a)/\I a/\μ a < μ s)∨∃b,body s=some (.done b)/\Q b):∀(n:Nat) (s:σ),μ s<=n->I s->∃b,ZU body s=some b/\Q b
 | 0,s,g,hi=>by
  rcases h s hi with⟨a,_,_,d⟩ | ⟨b,c,e⟩
  ·omega
  ·exact⟨b,by rw[ZJ,c],e⟩
 | n+1,s,g,hi=>by
  rcases h s hi with⟨a,c,f,d⟩ | ⟨b,c,e⟩
  ·rw[ZJ,c];exact qU I μ Q h n a eB f
  ·exact⟨b,by rw[ZJ,c],e⟩
end
section
variable{P:B3}{α τ γ β σ:Type}{arg:α->Fz->Q0 UV->Prop}{S:Q0 (Nat×UV)}{w:By}{Q:hP->Act->By->Prop}{F Fb:Fz}{hs hs':Q0 HP}{l n:Nat}{L:Loop}{D:Q0 AC}{vs:Q0 UV}{assign body:la}{m:K1 β}{ks:Q0 Kt}{f:Rw}{r:β}{fn:lX}
variable{O:K1 Nat}{μ:Md}
theorem Ly{a:So UV}{R:o5->By->Prop}:RoundIn (Ry O) n P l f a assign body w R↔RoundIn Fence.wide n P l f a assign body w R:=by
 cases O with
 | none=>exact Iff.rfl
 | some l=>exact Iff.rfl
def WJ(P:B3)(l:Nat)(F:Fz)(arg:α->Fz->Q0 UV->Prop)(Y:σ->Fz->HP)(y:α->σ->K1 (σ×Bool)):Prop:=
 (∀s F0 a m,F<=F0->F0<=a->Y s F0 m->Y s a m)/\
 ∀a,F<=a->∀x vs s r,arg x a vs->y x s=some r->∀w R,SH w a (star (Y s a) R)->
  ∃f b assign body,(Instr.yield l vs.toArray).run P w= .ok (.round l f b assign body) w/\
   RoundIn Fence.wide 0 P l f b assign body w (λe w' =>∃c,a<=c/\e= .returned (.bool r.2)/\SH w' c (star (Y r.1 c) R))
def wM(P:B3)(F:Fz)(f:Rw)(eb:Q0 UV)(arg:α->Fz->Q0 UV->Prop)(mk:∀σ:Type,(α->σ->K1 (σ×Bool))->σ->K1 σ):Prop:=
 (∀args w,(callFunc f args).run P w= .ok (.enter f args) w)/\
 ∀(σ:Type) (l:Nat) (Y:σ->Fz->HP) (y:α->σ->K1 (σ×Bool)) (a:Fz),F<=a->WJ P l a arg Y y->∀s,CT P f (.func (.yield l) #[] #[]::eb).toArray a (Y s a) (mk σ y s) (λ_ _ _=>True) λb c _=>Y b c
section
variable{β:Type}{P:B3}{eG:So Nm}{rest:Q0 Nm}{ks:Q0 Kt}{Q:hP->Act->By->Prop}{m:K1 β}{r:β}
variable{n:Nat}{D:Q0 AC}{S:Q0 (Nat×UV)}{F:Fz}{hs:Q0 HP}
theorem GG.tN{d i:Nat}{ty:S1}{pos:String}{after:So lY}{of:L5}{os:Q0 L5}{T:So S1}{F0:Fz}{Y:σ->Fz->HP}{y:α->σ->K1 (σ×Bool)}{x:α}{s:σ}{g:σ×Bool->K1 β}
  (z:Nat.blt d n=true) (v:WJ P l Fb arg Y y) (A:QQ S of=some (.func (.yield l) #[] #[])) (B:Un S os=some vs) (C:arg x F vs) (hi:hs[i]? =some (Y s F0)) (h:Fb<=F0) (le:F0<=F)
  (k:∀p t,y x s=some p->F<=t->GL O P eG rest ks Q (Hd n D ((d,.bool p.2)::S) t<|hs.set i<|Y p.1 t) (g p) r):GL O P eG (⟨some d,.call ⟨.value of,os.toArray,T⟩,ty,pos,after,none⟩::rest) ks Q (Hd n D S F hs) ((y x s).bind g) r:=by
 intro c a w q;cases he:y x s with
 | none=>rw[he] at c;cases c
 | some p=>
  rw[he] at c
  obtain⟨f,j,assign,body,E,b⟩:=v.2 F (Fz.le_trans h le) x vs s p C he w _<|(q.2.pull hi).mono λ_ c=>QP (λ_ c=>v.1 s F0 F _ h le c) c;refine fg ?_;unfold Xl;rw[BY<|by simp[Region.wanted]];refine⟨.inr rfl,?_⟩;have e:=HT q.1 B
  have o:(execOp a.eval ⟨some d,.call ⟨.value of,os.toArray,T⟩,ty,pos,after,none⟩).run P w= .ok (.round l f j assign body) w:=by
   simp[execOp,resolve,Deferred.ofValue,q.1.eval A,e,invoke,E]
  rw[o];refine⟨λe=>(by rw[BS] at e;cases e),Ly.2<|b.mono ?_⟩;rintro _ w' ⟨G,u,rfl,H⟩;exact k p G he u c _ _ ⟨q.1.put z _,SH.push hi H⟩
theorem GG.mH{g:Gp}{F0:Fz}{Y:σ->Fz->HP}{y:α->σ->K1 (σ×Bool)}{s:σ}(i:Nat)(c:WJ P l Fb arg Y y)(hi:hs[i]? =some (Y s F0))(a:Fb<=F0)(le:F0<=F)
  (k:GG g (Hd n D S F<|hs.set i<|Y s F) m r):GG g (Hd n D S F hs) m r:=by
 exact GG.a7 (λ_ _ h=>⟨h.1,SH.push hi<|(h.2.pull hi).mono λ_ b=>QP (λ_ b=>c.1 s F0 F _ a le b) b⟩) k
end
def UK(L:Loop):Obj:=.loop {L with state:=.ready,pending:=none}
def UF(L:Loop):Obj:=.loop {L with state:=.busy,pending:=none}
def qX(L:Loop):Obj:=.loop {L with state:=.done,pending:=some .ret}
def Tq(L:Loop)(c:K1 la):Obj:=.loop {L with state:=.exhausted,pending:=c}
def jc(body:α->τ->K1 (UQ τ γ)):α->UQ τ γ->K1 (UQ τ γ×Bool)
 | x,.next s=>(body x s).map λc=>(c,match c with | .next _=>true | .done _=>false)
 | _,.done _=>none
def yS(Fb:Fz)(l:Nat)(L:Loop)(I:τ->Fz->Q0 HP->Prop)(J:γ->Fz->Q0 HP->Prop):UQ τ γ->Fz->HP
 | .next s,F=>λm=>∃F0 hs,Fb<=F0/\F0<=F/\I s F0 hs/\star (pt l<|UK L) (Qh hs) m
 | .done b,F=>λm=>∃F0 hs,Fb<=F0/\F0<=F/\J b F0 hs/\star (pt l<|qX L) (Qh hs) m
def RP(l:Nat)(L:Loop)(I:τ->Fz->Q0 HP->Prop)(J:γ->Fz->Q0 HP->Prop)(d:Fz)(R:HP)(c:UQ τ γ):hP->Act->By->Prop:=λe _ w=>
 match c with
 | .next s=>e= .normal/\∃a hs,d<=a/\I s a hs/\SH w a (Qh<|pt l (UF L)::R::hs)
 | .done b=>e= .ret/\∃a hs,d<=a/\J b a hs/\SH w a (Qh<|pt l (UF L)::R::hs)
def BP(P:B3)(l:Nat)(body:la)(Q:hP->Act->By->Prop):hP->Act->By->Prop:=λe a w=>
 e= .normal/\∃w₂,(Instr.beginRound l).run P w= .ok () w₂/\body.wpIn (Ry<|some l) 0 P Q a w₂
theorem jx(h:w.heap[l]? =some (UK L)):(Instr.beginRound l).run P w= .ok () (put w l<|UF L):=run_beginRound (r:={L with state:=.ready,pending:=none}) h rfl
theorem I5(h:w.heap[l]? =some (UF L)):(Instr.endRound l none).run P w= .ok (.bool true) (put w l<|UK L):=run_endRound (r:={L with state:=.busy,pending:=none}) none h
theorem vh(h:w.heap[l]? =some (UF L)):(Instr.endRound l<|some .ret).run P w= .ok (.bool false) (put w l<|qX L):=run_endRound (r:={L with state:=.busy,pending:=none}) (some .ret) h
theorem BB(h:w.heap[l]? =some (UK L)):(Instr.endLoop l).run P w= .ok none (put w l<|Tq L none):=run_endLoop (r:={L with state:=.ready,pending:=none}) h eF
theorem Lw(h:w.heap[l]? =some (qX L)):(Instr.endLoop l).run P w= .ok (some .ret) (put w l<|Tq L<|some .ret):=run_endLoop (r:={L with state:=.done,pending:=some .ret}) h eF
section
variable{β:Type}{P:B3}{m:K1 β}{r:β}{n:Nat}{D:Q0 AC}{S:Q0 (Nat×UV)}{F F1:Fz}{hs:Q0 HP}{R:HP}
variable{α τ γ:Type}{l:Nat}{L:Loop}{I:τ->Fz->Q0 HP->Prop}{J:γ->Fz->Q0 HP->Prop}{body assign:la}
theorem GG.begin(i:Nat)(hi:hs[i]? =some (pt l<|UK L))(k:GC (some l) P body [] Q (Hd n D S F<|hs.set i<|pt l<|UF L) m r):GE (some l) P [] (BP P l body Q) (Hd n D S F hs) m r:=λc a _ b=>⟨rfl,_,jx<|SH.cf hi b.2,k c a _ ⟨b.1,SH.putAt hi b.2 _⟩⟩
theorem RP.norm{s:τ}{b:UQ τ γ}{hs' :Q0 HP}(le:F1<=F)(h:I s F hs')(e:hs=pt l (UF L)::R::hs'):some (UQ.next s)=some b->∀a w,Hd n D S F hs a w->RP l L I J F1 R b .normal a w:=λc a w d=>by
 simp only[W1] at c;subst c;subst e;exact⟨rfl,F,hs',le,h,d.2⟩
theorem RP.ret{b:γ}{c:UQ τ γ}(le:F1<=F)(h:J b F hs')(e:hs=pt l (UF L)::R::hs'):some (UQ.done b)=some c->∀a w,Hd n D S F hs a w->RP l L I J F1 R c .ret a w:=λd a w g=>by
 simp only[W1] at d;subst d;subst e;exact⟨rfl,F,hs',le,h,g.2⟩
theorem RP.tE{s b:τ}(le:F1<=F)(h:I s F hs')(e:hs=pt l (UF L)::R::hs'):some s=some b->∀a w,Hd n D S F hs a w->RP l L I J F1 R (.next b) .normal a w:=λc a w d=>by
 simp only[W1] at c;subst c;subst e;exact⟨rfl,F,hs',le,h,d.2⟩
theorem SH.three{p q:HP}(h:SH w F (Qh<|p::q::hs)):SH w F (star (star p<|Qh hs) q):=
 h.mono λm t=>by
  obtain⟨a,B,d,u,g,v,x⟩:=t;obtain⟨y,i,z,j,b,c,A⟩:=x
  classical
  refine⟨λk=>if a k=none then i k else a k,y,?_,?_,j.trans g,⟨a,i,d.sub (Mem.sub.refl _) b,?_,?_,v,A⟩,c⟩
  ·intro k;by_cases e:a k=none
   ·simp only[e,B2];exact(z k).symm
   ·simp only[e,Bm];rcases(d.sub (Mem.sub.refl a) j) k with h | h
    ·exact absurd h e
    ·exact .inr h
  ·intro k o e;by_cases s:a k=none
   ·simp only[s,B2] at e;exact g k o<|b k o e
   ·simp only[s,Bm] at e;exact u k o e
  ·intro k o e;simp[e]
  ·intro k o e;have:a k=none:=(d.sub (Mem.sub.refl a) b).aj e;simp[this,e]
theorem SH.aa{p q:HP}(h:SH w F (star (star p<|Qh hs) q)):SH w F (Qh<|p::q::hs):=
 h.mono λm s=>by
  obtain⟨A,a,d,c,t,⟨u,g,v,i,b,x,y⟩,z⟩:=s
  classical
  refine⟨u,λk=>if a k=none then g k else a k,?_,i.trans c,?_,x,a,g,?_,?_,?_,z,y⟩
  ·intro k;by_cases e:a k=none
   ·simp only[e,B2];exact v k
   ·simp only[e,Bm];rcases(d.sub i<|Mem.sub.refl a) k with h | h
    ·exact .inl h
    ·exact absurd h e
  ·intro k o e;by_cases j:a k=none
   ·simp only[j,B2] at e;exact c k o<|b k o e
   ·simp only[j,Bm] at e;exact t k o e
  ·exact(d.sub b<|Mem.sub.refl a).symm
  ·intro k o e;simp[e]
  ·intro k o e;have:a k=none:=(d.sub b<|Mem.sub.refl a).c9 e;simp[this,e]
theorem SH.sh{s:τ}(h:SH w F (star (yS Fb l L I J (.next s) F) R)):∃F0 hs,Fb<=F0/\F0<=F/\I s F0 hs/\SH w F (Qh<|pt l (UK L)::R::hs):=by
 obtain⟨m,⟨a,b,d,c,e,⟨F0,hs,g,i,j,o⟩,p⟩,k⟩:=h;exact⟨F0,hs,g,i,j,SH.aa ⟨m,⟨a,b,d,c,e,o,p⟩,k⟩⟩
theorem SH.tD{b:γ}(h:SH w F (star (yS Fb l L I J (.done b) F) R)):∃F0 hs,Fb<=F0/\F0<=F/\J b F0 hs/\SH w F (Qh<|pt l (qX L)::R::hs):=by
 obtain⟨m,⟨a,c,d,e,g,⟨F0,hs,i,j,o,p⟩,q⟩,k⟩:=h;exact⟨F0,hs,i,j,o,SH.aa ⟨m,⟨a,c,d,e,g,p,q⟩,k⟩⟩
theorem R7{arg:α->Fz->Q0 UV->Prop}{bm:α->τ->K1 (UQ τ γ)}{S' :Q0 UV->Q0 (Nat×UV)}(N:∀x T vs,arg x T vs->vs.length=L.params.size)(V:L.assign=assign)(W:L.body=body)
  (z:∀vs:Q0 UV,vs.length=L.params.size->Sl n [] (S' vs) {tmps:=(L.params.zip vs.toArray).foldl (λtmps (t,a)=>tmps.setIfInBounds t a) L.tmps,defers:=[]})
  (round:∀F0 F1 x vs s d R hs,F<=F0->F0<=F1->arg x F1 vs->I s F0 hs->GC (some l) P assign [] (BP P l body<|RP l L I J F1 R d) (Hd n [] (S' vs) F1<|pt l (UK L)::R::hs) (bm x s) d):WJ P l F arg (yS F l L I J) (jc bm):=by
 refine⟨λc F0 F1 m _ q g=> ?_,λF1 q x vs c r K i w R X=> ?_⟩
 ·cases c with
  | next s=>obtain⟨G,hs,A,B,k⟩:=g;exact⟨G,hs,A,Fz.le_trans B q,k⟩
  | done b=>obtain⟨G,hs,A,B,k⟩:=g;exact⟨G,hs,A,Fz.le_trans B q,k⟩
 cases c with
 | done b=>simp[jc] at i
 | next s=>
  simp only[jc] at i
  cases C:bm x s with
  | none=>rw[C] at i;cases i
  | some d=>
   rw[C] at i
   simp only[L4,W1] at i
   subst i;obtain⟨F0,hs,Y,E,Z,u⟩:=SH.sh X;have hl:w.heap[l]? =some (UK L):=SH.cf (k:=0) rfl u;have M:=N x F1 vs K;refine⟨L.fn,_,L.assign,L.body,run_yield (r:={L with state:=.ready,pending:=none}) hl (by simpa using M),?_⟩;refine roundIn_of_wpIn trivial ?_;rw[V,W];have hg:=round F0 F1 x vs s d R hs Y E K Z C _ w ⟨z vs M,u⟩;refine oD hg λe a1 w1 y=> ?_;obtain⟨rfl,w2,H,j⟩:=y;refine⟨w2,H,oD j λe a2 w3 y=> ?_⟩;cases d with
   | next s' =>
    obtain⟨rfl,v,o,le,p,h⟩:=y;refine⟨_,_,I5<|SH.cf (k:=0) rfl h,v,le,rfl,(SH.three<|SH.putAt (k:=0) rfl h<|UK L).mono λm g=>QP (λm g=> ?_) g⟩;exact⟨v,o,Fz.le_trans q le,Fz.le_refl _,p,g⟩
   | done b=>
    obtain⟨rfl,v,o,le,p,h⟩:=y;refine⟨_,_,vh<|SH.cf (k:=0) rfl h,v,le,rfl,(SH.three<|SH.putAt (k:=0) rfl h<|qX L).mono λm g=>QP (λm g=> ?_) g⟩;exact⟨v,o,Fz.le_trans q le,Fz.le_refl _,p,g⟩
end
abbrev WZ(q:Nat):AC:={target:=.collected q,args:=#[]}
theorem Nk:∀{ps:Q0 Nat} {vs:Q0 UV} {t:So UV} {S:Q0 (Nat×UV)},(ps.all λp=>Nat.blt p n)=true->Sl n [] S {tmps:=t,defers:=[]}->
  Sl n [] ((ps.zip vs).reverse++S) {tmps:=(ps.zip vs).foldl (λtmps (t,a)=>tmps.setIfInBounds t a) t,defers:=[]}
 | [],_,_,_,_,h=>h
 | _::_,[],_,_,_,h=>h
 | p::ps,v::vs,t,S,b,h=>by
  simp only[mj,Do] at b
  have c:=Sl.put h b.1 v;have d:=Nk (ps:=ps) (vs:=vs) (S:=(p,v)::S) (t:=t.setIfInBounds p v) b.2 c;simpa using d
theorem BA{ps:Q0 Nat}{t:So UV}(b:(ps.all λp=>Nat.blt p n)=true)(h:Sl n [] S {tmps:=t,defers:=[]}):Sl n [] ((ps.zip vs).reverse++S) {tmps:=(ps.toArray.zip vs.toArray).foldl (λtmps (t,a)=>tmps.setIfInBounds t a) t,defers:=[]}:=by
 rw[List.zip_toArray,List.foldl_toArray];exact Nk b h
section
variable{β:Type}{P:B3}{ks:Q0 Kt}{Q:hP->Act->By->Prop}{r:β}{n:Nat}{D:Q0 AC}{S:Q0 (Nat×UV)}{F:Fz}{hs:Q0 HP}
variable{α τ γ:Type}{g:L5}{ps:Q0 Tmp}{assign body:la}{f:Rw}{eb:Q0 UV}{mk:∀σ:Type,(α->σ->K1 (σ×Bool))->σ->K1 σ}{arg:α->Fz->Q0 UV->Prop}{bm:α->τ->K1 (UQ τ γ)}{s0:τ}{k:UQ τ γ->K1 β}
theorem GG.rangeFunc(I:τ->Fz->Q0 HP->Prop)(J:γ->Fz->Q0 HP->Prop)(X:QQ S g=some (.func (.func f) #[] eb.toArray))(y:wM P F f eb arg mk)(G:(ps.all λp=>Nat.blt p n)=true)(z:∀x h vs,arg x h vs->vs.length=ps.length)
  (H:I s0 F hs)
  (round:∀l L F0 u x vs s j R hs',F<=F0->F0<=u->arg x u vs->I s F0 hs'->GC (some l) P assign [] (BP P l body<|RP l L I J u R j) (Hd n [] ((ps.zip vs).reverse++S) u<|pt l (UK L)::R::hs') (bm x s) j)
  (next:∀q F0 h s hs',F<=F0->F0<=h->mk _ (jc bm) (.next s0)=some (.next s)->I s F0 hs'->GE none P ks Q (Hd n (WZ q::D) S h<|pt q (.deferred<|some [])::hs') (k<|.next s) r)
  (done:∀q F0 h b hs',F<=F0->F0<=h->mk _ (jc bm) (.next s0)=some (.done b)->J b F0 hs'->GC none P .ret ks Q (Hd n (WZ q::D) S h<|pt q (.deferred<|some [])::hs') (k<|.done b) r):GC none P (.rangeFunc g ps.toArray assign body) ks Q (Hd n D S F hs) ((mk (UQ τ γ) (jc bm)<|.next s0).bind k) r:=by
 intro d a w i;cases A:mk (UQ τ γ) (jc bm) (.next s0) with
 | none=>rw[A] at d;cases d
 | some c=>
  rw[A] at d
  refine og λfn _=> ?_
  let L:Loop:={state:=.ready,pending:=none,fn,tmps:=a.tmps,params:=ps.toArray,assign,body,defers:=w.heap.size}
  have K:SH ((w.alloc<|.deferred<|some []).alloc<|.loop L) F (star (yS F (w.heap.size+1) L I J (.next s0) F)<|Qh [pt w.heap.size<|.deferred<|some []]):=by
   have o:=(i.2.alloc<|.deferred<|some []).alloc<|.loop L;rw[et] at o
   have Y:SH ((w.alloc<|.deferred<|some []).alloc<|.loop L) F (Qh<|pt (w.heap.size+1) (UK L)::Qh [pt w.heap.size<|.deferred<|some []]::hs):=by
    refine o.mono λm d=>QR (λm d=>QP (λm d=> ?_) d) d;exact⟨m,λ_=>none,λ_=>.inr rfl,Mem.sub.refl _,λ_ _ e=>by simp at e,d,trivial⟩
   exact(SH.three Y).mono λm d=>QP (λm d=>⟨F,hs,Fz.le_refl _,Fz.le_refl _,H,d⟩) d
  have Z:WJ P (w.heap.size+1) F arg (yS F (w.heap.size+1) L I J) (jc bm):=by
   refine R7 (S' :=λvs=>(ps.zip vs).reverse++S) (assign:=assign) (body:=body) (λx h vs M=>by rw[z x h vs M];simp[L]) rfl rfl (λvs _=>BA G ⟨i.1.1,rfl,i.1.2.2⟩) ?_;exact λF0 u x vs s j R hs' B o M H=>round _ L F0 u x vs s j R hs' B o M H
  have hc:=y.2 _ _ _ _ F (Fz.le_refl F) Z (.next s0) c A _ _ K;refine⟨w.heap.size+1,[WZ w.heap.size],(w.alloc<|.deferred<|some []).alloc<|.loop L,⟨.fn (.func f) eb.toArray,#[.func (.yield<|w.heap.size+1) #[] #[]]⟩,(w.alloc<|.deferred<|some []).alloc<|.loop L,f,(.func (.yield<|w.heap.size+1) #[] #[]::eb).toArray,(w.alloc<|.deferred<|some []).alloc<|.loop L,lx fn a.tmps ps.toArray assign body,?_,λ_ _=>trivial,?_,λe=>(by cases e),?_⟩
  ·have N:a.eval (.const<|.func (.yield<|w.heap.size+1) #[] #[])= .func (.yield<|w.heap.size+1) #[] #[]:=rfl;simp[resolve,Deferred.ofValue,i.1.eval X,N]
  ·simp[invoke,y.1]
  ·refine hQ.2<|hc.mono ?_;rintro _ w' ⟨h,v,le,rfl, -,C⟩;cases c with
   | next s=>
    obtain⟨F0,hs',B,o,t,E⟩:=SH.sh C;refine⟨none,_,BB<|SH.cf (k:=0) rfl E,?_⟩;have T:SH _ h (Qh<|pt w.heap.size (.deferred<|some [])::hs'):=(SH.sD 0<|SH.putAt (k:=0) rfl E<|Tq L none).mono λm d=>QP (λm d=>by obtain⟨m1,_,_,V,_,W,_⟩:=d;exact V _ _ W) d;exact next w.heap.size F0 h s hs' B o A t d _ _ ⟨⟨i.1.1,by simp[i.1.2.1],i.1.2.2⟩,T⟩
   | done b=>
    obtain⟨F0,hs',B,o,t,E⟩:=SH.tD C;refine⟨some .ret,_,Lw<|SH.cf (k:=0) rfl E,?_⟩;have T:SH _ h (Qh<|pt w.heap.size (.deferred<|some [])::hs'):=(SH.sD 0<|SH.putAt (k:=0) rfl E<|Tq L<|some .ret).mono λm d=>QP (λm d=>by obtain⟨m1,_,_,V,_,W,_⟩:=d;exact V _ _ W) d;exact done w.heap.size F0 h b hs' B o A t d _ _ ⟨⟨i.1.1,by simp[i.1.2.1],i.1.2.2⟩,T⟩
def WG(y:α->σ->K1 (σ×Bool)):Q0 α->σ->K1 σ
 | [],s=>some s
 | x::xs,s=>(y x s).bind λp=>if p.2 then WG y xs p.1 else some p.1
def NL(P:B3)(F:Fz)(f:Rw)(eb:Q0 UV)(arg:α->Fz->Q0 UV->Prop)(l:Q0 α):Prop:=wM P F f eb arg λ_ y s=>WG y l s
def VB(b:α->τ->K1 τ):Q0 α->τ->K1 τ
 | [],s=>some s
 | x::xs,s=>(b x s).bind<|VB b xs
def Ay(b:α->τ->K1 (UQ τ γ)):Q0 α->τ->K1 (UQ τ γ)
 | [],s=>some (.next s)
 | x::xs,s=>(b x s).bind λc=>match c with
  | .next a=>Ay b xs a
  | .done r=>some<|.done r
theorem Fu(b:α->τ->K1 (UQ τ γ)):∀(l:Q0 α) (s:τ),WG (jc b) l (.next s)=Ay b l s
 | [],s=>rfl
 | x::xs,s=>by
  simp only[WG,jc,Ay];cases h:b x s with
  | none=>rfl
  | some c=>
   cases c with
   | next a=>simpa using Fu b xs a
   | done r=>simp
theorem BF(b:α->τ->K1 τ):∀(l:Q0 α) (s:τ),Ay (γ:=Empty) (λx s=>(b x s).map .next) l s=(VB b l s).map .next
 | [],s=>rfl
 | x::xs,s=>by
  simp only[Ay,VB];cases h:b x s with
  | none=>rfl
  | some a=>simpa using BF b xs a
theorem GG.pW{l:Q0 α}(I:τ->Fz->Q0 HP->Prop)(J:γ->Fz->Q0 HP->Prop)(j:QQ S g=some (.func (.func f) #[] eb.toArray))(h:NL P F f eb arg l)(i:(ps.all λp=>Nat.blt p n)=true)(c:∀x a vs,arg x a vs->vs.length=ps.length)
  (o:I s0 F hs)
  (round:∀l L F0 e x vs s d R hs',F<=F0->F0<=e->arg x e vs->I s F0 hs'->GC (some l) P assign [] (BP P l body<|RP l L I J e R d) (Hd n [] ((ps.zip vs).reverse++S) e<|pt l (UK L)::R::hs') (bm x s) d)
  (next:∀q F0 a s hs',F<=F0->F0<=a->Ay bm l s0=some (.next s)->I s F0 hs'->GE none P ks Q (Hd n (WZ q::D) S a<|pt q (.deferred<|some [])::hs') (k<|.next s) r)
  (done:∀q F0 a b hs',F<=F0->F0<=a->Ay bm l s0=some (.done b)->J b F0 hs'->GC none P .ret ks Q (Hd n (WZ q::D) S a<|pt q (.deferred<|some [])::hs') (k<|.done b) r):GC none P (.rangeFunc g ps.toArray assign body) ks Q (Hd n D S F hs) ((Ay bm l s0).bind k) r:=by
 rw[<-Fu] at next done ⊢
 exact GG.rangeFunc (mk:=λ_ y s=>WG y l s) I J j h i c o round next done
theorem GG.aH{l:Q0 α}{bm:α->τ->K1 τ}{k:τ->K1 β}(I:τ->Fz->Q0 HP->Prop)(C:QQ S g=some (.func (.func f) #[] eb.toArray))(t:NL P F f eb arg l)(u:(ps.all λp=>Nat.blt p n)=true)(j:∀x e vs,arg x e vs->vs.length=ps.length)
  (v:I s0 F hs)
  (round:∀l L F0 i x vs s a R hs',F<=F0->F0<=i->arg x i vs->I s F0 hs'->GC (some l) P assign [] (BP P l body<|RP l L I (fun(_:Empty) _ _=>False) i R<|.next a) (Hd n [] ((ps.zip vs).reverse++S) i<|pt l (UK L)::R::hs') (bm x s) a)
  (next:∀q F0 e s hs',F<=F0->F0<=e->VB bm l s0=some s->I s F0 hs'->GE none P ks Q (Hd n (WZ q::D) S e<|pt q (.deferred<|some [])::hs') (k s) r):GC none P (.rangeFunc g ps.toArray assign body) ks Q (Hd n D S F hs) ((VB bm l s0).bind k) r:=by
 have h:=GG.pW (γ:=Empty) (k:=λc=>match c with | .next s=>k s | .done b=>b.elim) (bm:=λx s=>(bm x s).map .next) (ks:=ks) (Q:=Q) (D:=D) (r:=r) I (λ_ _ _=>False) C t u j v
  (λl L F0 i x vs s a R hs' y z E v=>by
   intro d;cases A:bm x s with
   | none=>rw[A] at d;cases d
   | some B=>rw[A] at d;simp only[L4,W1] at d;subst d;exact round l L F0 i x vs s B R hs' y z E v A)
  (λq F0 e s hs' y z he=>next q F0 e s hs' y z (by rw[BF] at he;cases o:VB bm l s0 with | none=>rw[o] at he;cases he | some B=>rw[o] at he;simp only[L4,W1,UQ.next.injEq] at he;rw[he]))
  (λ_ _ _ b=>b.elim)
 rw[BF] at h
 cases o:VB bm l s0 with
 | none=>intro d;cases d
 | some s=>rw[o] at h;exact h
end
def v7:Q0 HP->Q0 (Nat×Nat)->Prop
 | _,[]=>True
 | hs,(i,q)::a=>hs[i]? =some (pt q<|.deferred<|some [])/\v7 (hs.set i<|pt q<|.deferred none) a
def Hv:Q0 HP->Q0 (Nat×Nat)->Q0 HP
 | hs,[]=>hs
 | hs,(i,q)::a=>Hv (hs.set i<|pt q<|.deferred none) a
theorem NC{a:So UV}{R:o5->By->Prop}:∀{b:Q0 (Nat×Nat)} {hs:Q0 HP} {w:By},SH w F (Qh hs)->v7 hs b->
  (∀w',SH w' F (Qh<|Hv hs b)->∃v,(results fn a).run P w' = .ok v w'/\R (.returned v) w')->LeavesInM Fence.wide 0 P fn a R (b.map λp=>WZ p.2) .returning w
 | [],hs,w,h,_,k=>k w h
 | (i,q)::b,hs,w,h,c,k=>by
  refine⟨by simp,.inl ⟨q,_,rfl,run_takeDeferred<|SH.cf c.1 h,?_⟩⟩;exact NC (SH.putAt c.1 h _) c.2 k
def qd(P:B3)(fn:lX)(F:Fz)(R:HP)(ρ:β->Fz->UV->Prop)(r:β):hP->Act->By->Prop:=bodyPostM Fence.wide 0 P fn (λe w' =>∃a v,F<=a/\e= .returned v/\ρ r a v/\SH w' a R)
theorem KJ.aE{c:la}{args:Q0 UV}{ρ:β->Fz->UV->Prop}
  (a:P.funcs[f]? =some fn) (b:fn.body=some c) (d:fn.ntmps=n) (e:Nat.ble args.length n=true)
  (k:∀r R,GC none P c [] (qd P fn F R ρ r) (Hd n [] (D2 0 args) F [R]) m r):KJ P f args.toArray F m ρ:=by
 intro r g w R h;refine(hQ (n:=0)).1<|ot a b trivial<|k r R g _ w ⟨?_,h.one⟩;rw[d];exact WA e
section
variable{β:Type}{P:B3}{n:Nat}{S:Q0 (Nat×UV)}{F F' :Fz}{hs:Q0 HP}{ks:Q0 Kt}{fn:lX}{R:HP}{ρ:β->Fz->UV->Prop}{x r:β}{rs:Q0 ResultVar}{vs:Q0 UV}{i:Nat}{ms:Q0 (Nat×Nat)}
theorem zg(c:fn.results=rs.toArray)(d:v7 hs ms)(h:Ss P S F' (Hv hs ms) rs vs)(hi:(Hv hs ms)[i]? =some R)(le:F<=F')(hρ:ρ x F' (AU vs)):some x=some r->∀a w,Hd n (ms.map λp=>WZ p.2) S F' hs a w->LeavesInM Fence.wide 0 P fn a.tmps (λe w' =>∃F' v,F<=F'/\e= .returned v/\ρ r F' v/\SH w' F' R) a.defers .returning w:=by
 intro e a w b;simp only[W1] at e
 subst e;rw[b.1.2.1];refine NC b.2 d λw' h' => ?_;exact⟨_,Jm (n:=n) (a:=a) (D:=a.defers) c ⟨⟨b.1.1,rfl,b.1.2.2⟩,h'⟩ h,F',_,le,rfl,hρ,h'.only hi⟩
theorem GG.tB(ms:Q0 (Nat×Nat))(a:fn.results=rs.toArray)(b:v7 hs ms)(h:Ss P S F' (Hv hs ms) rs vs)(hi:(Hv hs ms)[i]? =some R)(le:F<=F')(hρ:ρ x F' (AU vs)):GC O P .ret ks (qd P fn F R ρ r) (Hd n (ms.map λp=>WZ p.2) S F' hs) (some x) r:=GG.cw<|zg a b h hi le hρ
end
end
section
variable{γ b i:Nat}{F F':Fz}{α:Type}{p:HP}{g:Gp}
variable{O:K1 Nat}{μ:Md}
def UB(γ:Nat)(F:Fz)(i b:Nat):Prop:=γ < F.gn/\(F.gh γ)[i]? =some b
theorem UB.mono(h:UB γ F i b)(le:F<=F'):UB γ F' i b:=
 ⟨o3 h.1 le.gn,by
  obtain⟨t,e⟩:=le.gh γ h.1;rw[<-e,u1 (DO.1 h.2).1];exact h.2⟩
theorem UB.inj{b':Nat}(h:UB γ F i b)(k:UB γ F i b'):b=b' :=by
 have:=h.2.symm.trans k.2;simpa using this
def ZP(γ:Nat)(F:Fz)(p:K1 C3):K1 Nat->Prop
 | none=>p=none
 | some i=>∃b,UB γ F i b/\p=some ⟨b,0,none⟩
theorem ZP.mono{p:K1 C3}{x:K1 Nat}(h:ZP γ F p x)(le:F<=F'):ZP γ F' p x:=by
 cases x with
 | none=>exact h
 | some i=>obtain⟨b,a,c⟩:=h;exact⟨b,a.mono le,c⟩
theorem ZP.nil{γ:Nat}{F:Fz}:ZP γ F none none:=rfl
theorem ZP.of(h:UB γ F i b):ZP γ F (some ⟨b,0,none⟩) (some i):=⟨b,h,rfl⟩
def Z3(γ:Nat)(F:Fz)(p:K1 Nat):K1 Nat->Prop
 | none=>p=none
 | some i=>∃b,UB γ F i b/\p=some b
theorem Z3.mono{p:K1 Nat}{x:K1 Nat}(h:Z3 γ F p x)(le:F<=F'):Z3 γ F' p x:=by
 cases x with
 | none=>exact h
 | some i=>obtain⟨b,a,c⟩:=h;exact⟨b,a.mono le,c⟩
theorem Z3.nil{γ:Nat}{F:Fz}:Z3 γ F none none:=rfl
theorem Z3.of(h:UB γ F i b):Z3 γ F (some b) (some i):=⟨b,h,rfl⟩
theorem XN{q r:HP}{m:Mem}(h:star (star p q) r m):star p (star q r) m:=by
 obtain⟨y,a,d,f,s,⟨t,j,u,l,c,v,w⟩,x⟩:=h
 classical
 refine⟨t,λk=>if a k=none then j k else a k,?_,l.trans f,?_,v,j,a,(d.sub c<|Mem.sub.refl a),?_,?_,w,x⟩
 ·intro k;by_cases e:a k=none
  ·simp only[e,B2];exact u k
  ·simp only[e,Bm];rcases(d.sub l<|Mem.sub.refl a) k with h | h
   ·exact .inl h
   ·exact absurd h e
 ·intro k o e;by_cases n:a k=none
  ·simp only[n,B2] at e;exact f k o<|c k o e
  ·simp only[n,Bm] at e;exact s k o e
 ·intro k o e;have:a k=none:=(d.sub c<|Mem.sub.refl a).c9 e;simp[this,e]
 ·intro k o e;simp[e]
theorem UX{q r:HP}{m:Mem}(h:star p (star q r) m):star (star p q) r m:=by
 have s:=Zj h;obtain⟨a,z,d,t,f,u,j,v,w,c,l,x,y⟩:=s
 classical
 refine⟨λk=>if a k=none then j k else a k,v,?_,?_,l.trans f,⟨j,a,(d.sub (Mem.sub.refl a) c).symm,?_,?_,x,u⟩,y⟩
 ·intro k;by_cases e:a k=none
  ·simp only[e,B2];exact w k
  ·simp only[e,Bm];rcases(d.sub (Mem.sub.refl a) l) k with h | h
   ·exact absurd h e
   ·exact .inr h
 ·intro k o e;by_cases n:a k=none
  ·simp only[n,B2] at e;exact f k o<|c k o e
  ·simp only[n,Bm] at e;exact t k o e
 ·intro k o e;have:a k=none:=(d.sub (Mem.sub.refl a) c).aj e;simp[this,e]
 ·intro k o e;simp[e]
theorem D8:∀{l l' :Q0 HP} {m:Mem},l.length=l'.length->(∀(i:Nat) (p q:HP),l[i]? =some p->l'[i]? =some q->∀m,p m->q m)->Qh l m->Qh l' m
 | [],[],_,_,_,h=>h
 | [],_::_,_,a,_,_=>by simp at a
 | _::_,[],_,a,_,_=>by simp at a
 | p::l,q::l',m,a,hi,h=>by
  have c:∀m,p m->q m:=hi 0 p q rfl rfl;have d:∀m,Qh l m->Qh l' m:=λm e=>D8 (by simpa using a) (λi p q f j=>hi (i+1) p q (by simpa using f)<|by simpa using j) e;exact QP c<|QR d h
def YN:Q0 Nat->Q0 HP->Q0 HP
 | [],_=>[]
 | k::ks,hs=>(hs[k]?).getD SO::YN ks (hs.eraseIdx k)
theorem Yw:∀{ks:Q0 Nat} {hs:Q0 HP} {m:Mem},Qh hs m->Qh (YN ks hs) m
 | [],_,_,_=>trivial
 | k::ks,hs,m,h=>by
  cases e:hs[k]? with
  | some p=>simp only[YN,e,lv];exact QR (λ_ h=>Yw h) (Vi e h)
  | none=>simp only[YN,e,Option.getD_none];exact QR (λ_ h=>Yw h)<|DW h
section
variable{α:Type}{γ:Nat}{C:Fz->Nat->α->HP}{F F0 F' :Fz}{xs:Q0 α}{w:By}{H:HP}{j b:Nat}{x y:α}
def ZD(γ:Nat)(C:Fz->Nat->α->HP)(F:Fz)(xs:Q0 α):HP:=λm=>∃bs,bs.length=xs.length/\star (yQ γ bs) (Qh<|List.zipWith (C F) bs xs) m
def hole(γ:Nat)(C:Fz->Nat->α->HP)(F:Fz)(j b:Nat)(xs:Q0 α):HP:=λm=>∃bs,bs.length=xs.length/\bs[j]? =some b/\star (yQ γ bs) (Qh<|(List.zipWith (C F) bs xs).eraseIdx j) m
def HC(C:Fz->Nat->α->HP):Prop:=∀F F' b x m,F<=F'->C F b x m->C F' b x m
theorem R6{bs:Q0 Nat}{f:Nat->α->HP}(a:bs[j]? =some b)(c:xs[j]? =some x):(List.zipWith f bs xs)[j]? =some (f b x):=by
 rw[lk,a,c]
theorem R5:∀{bs:Q0 Nat} {f:Nat->α->HP} {xs:Q0 α} {j b:Nat} {y:α},bs[j]? =some b->(List.zipWith f bs xs).set j (f b y)=List.zipWith f bs (xs.set j y)
 | [],_,_,_,_,_,h=>by simp at h
 | c::bs,f,[],j,b,y,_=>by simp
 | c::bs,f,x::xs,0,b,y,h=>by simp at h;subst h;simp
 | c::bs,f,x::xs,j+1,b,y,h=>by
  simp only[s9] at h
  simp[R5 h]
theorem SH.aL(k:HC C)(le:F0<=F')(h:SH w F (star (ZD γ C F0 xs) H)):SH w F (star (ZD γ C F' xs) H):=
 h.mono λm d=>QP (λm ⟨bs,l,hs⟩=>⟨bs,l,QR (λm d=>D8 eF (λi p q a c m n=>by
  rw[lk] at a c
  cases e:bs[i]? with
  | none=>rw[e] at a;simp at a
  | some b=>
   cases f:xs[i]? with
   | none=>rw[e,f] at a;simp at a
   | some x=>rw[e,f] at a c;simp at a c;subst a;subst c;exact k _ _ _ _ _ le n) d) hs⟩) d
theorem SH.sw(h:SH w F (star (ZD γ C F0 xs) H))(o:UB γ F j b)(q:xs[j]? =some x):SH w F (star (C F0 b x)<|star (hole γ C F0 j b xs) H):=by
 obtain⟨m,⟨r,s,d,l,t,⟨bs,u,n⟩,v⟩,k⟩:=h
 have a:bs[j]? =some b:=by
  obtain⟨D,E,G,z,I,A,_⟩:=n;obtain⟨_,e⟩:=k.gst γ _<|l _ _<|z _ _ A;simp only[Cell.gh.injEq] at e
  rw[e];exact o.2
 refine⟨m,XN ⟨r,s,d,l,t,?_,v⟩,k⟩;have B:=Zj<|QR (λ_ c=>Vi (R6 (f:=C F0) a q) c) n;exact QR (λm c=>⟨bs,u,a,c⟩) B
theorem SH.aV(t:HC C)(le:F0<=F')(h:SH w F (star (C F' b y)<|star (hole γ C F0 j b xs) H))(u:j < xs.length):SH w F (star (ZD γ C F'<|xs.set j y) H):=by
 refine h.mono λm e=> ?_;refine QP (λm e=> ?_)<|UX e;obtain⟨v,z,d,A,B,r,bs,D,l,E⟩:=e;refine⟨bs,by simpa using D,?_⟩;have G:star (C F' b y) (star (yQ γ bs)<|Qh<|(List.zipWith (C F0) bs xs).eraseIdx j) m:=⟨v,z,d,A,B,r,E⟩;refine QR (λm e=> ?_)<|Zj G;have o:xs[j]? =some xs[j]:=by simp[u]
 have I:star (C F' b y) (Qh<|(List.zipWith (C F') bs xs).eraseIdx j) m:=QR (λm e=>D8 (by simp[List.length_eraseIdx]) (λi p q a c m r=>by
  rw[oW] at a c
  have key:∀n,(List.zipWith (C F0) bs xs)[n]? =some p->(List.zipWith (C F') bs xs)[n]? =some q->q m:=λn a c=>by
   rw[lk] at a c
   cases s:bs[n]? with
   | none=>rw[s] at a;simp at a
   | some b=>
    cases o:xs[n]? with
    | none=>rw[s,o] at a;simp at a
    | some x=>rw[s,o] at a c;simp at a c;subst a;subst c;exact t _ _ _ _ _ le r
  split at a
  ·rename_i k;rw[BY k] at c;exact key i a c
  ·rename_i k;rw[B1 k] at c;exact key (i+1) a c) e) e
 rw[<-R5 (f:=C F') l];exact Ff (R6 (f:=C F') l o) I
theorem SH.rn(u:HC C)(le:F0<=F)(h:SH w F (star p<|star (ZD γ C F0 xs) H))(v:∀F' m,F<=F'->p m->C F' b x m):∃F',F<=F'/\UB γ F' xs.length b/\SH w F' (star (ZD γ C F'<|xs++[x]) H):=by
 obtain⟨m,a,k⟩:=h;obtain⟨z,A,d,B,D,⟨bs,n,E⟩,G⟩:=Zj a;have s:SH w F (star (yQ γ bs)<|star (Qh<|List.zipWith (C F0) bs xs)<|star p H):=⟨m,XN ⟨z,A,d,B,D,E,G⟩,k⟩;obtain⟨I,K⟩:=s.pA;obtain⟨e,L⟩:=s.sx b;refine⟨F.sx γ b,e,⟨I,?_⟩,?_⟩
 ·show(if γ=γ then F.gh γ++[b] else F.gh γ)[xs.length]? =some b;rw[BY rfl,K,<-n];simp
 ·refine L.mono λm a=> ?_;have M:star (yQ γ<|bs++[b]) (star p<|star (Qh<|List.zipWith (C F0) bs xs) H) m:=QR (λm a=>Zj a) a;refine QP (λm a=> ?_)<|UX<|QR (λm a=>UX a) M;refine⟨bs++[b],by simp[n],QR (λm a=> ?_) a⟩;have o:F0<=F.sx γ b:=Fz.le_trans le e;have N:Qh (p::List.zipWith (C F0) bs xs) m:=a
  have P:Qh (C (F.sx γ b) b x::List.zipWith (C<|F.sx γ b) bs xs) m:=D8 eF (λi p' q c f m l=>by
   cases i with
   | zero=>simp at c f;subst c;subst f;exact v _ _ e l
   | succ i=>
    simp only[s9] at c f
    rw[lk] at c f
    cases r:bs[i]? with
    | none=>rw[r] at c;simp at c
    | some b=>
     cases t:xs[i]? with
     | none=>rw[r,t] at c;simp at c
     | some x=>rw[r,t] at c f;simp at c f;subst c;subst f;exact u _ _ _ _ _ o l) N
  have Q:=stars_snoc P;rw[List.zipWith_append<|by simpa using n];exact Q
where
 stars_snoc:∀{l:Q0 HP} {p:HP} {m:Mem},Qh (p::l) m->Qh (l++[p]) m
  | [],_,_,h=>h
  | q::l,p,m,h=>QR (λ_ h=>stars_snoc h)<|Zj h
end
def Uy(T:S1)(c:Uo α)(F:Fz)(b:Nat)(x:α):HP:=λm=>∃vs,(∀F',F<=F'->c F' x vs)/\pt b (.cells vs.toArray T) m
theorem Uy.stays{T:S1}{c:Uo α}:HC (Uy T c):=λ_ _ _ _ _ le ⟨vs,h,k⟩=>⟨vs,λG a=>h G<|Fz.le_trans le a,k⟩
section
variable{β:Type}{X:Act->By->Prop}{m:K1 β}{r:β}{n:Nat}{D:Q0 AC}{S:Q0 (Nat×UV)}{F F0:Fz}{hs hs' :Q0 HP}
variable{α:Type}{γ:Nat}{C:Fz->Nat->α->HP}{xs:Q0 α}{j b:Nat}{x y:α}
theorem GG.pick(ks:Q0 Nat)(h:YN ks hs=hs')(k:GG g (Hd n D S F hs') m r):GG g (Hd n D S F hs) m r:=by
 exact λd a w c=>k d a w ⟨c.1,h▸c.2.mono λ_=>Yw⟩
theorem GG.sw(i:Nat)(hi:hs[i]? =some (ZD γ C F0 xs))(d:UB γ F j b)(e:xs[j]? =some x)(k:GG g (Hd n D S F<|C F0 b x::hole γ C F0 j b xs::hs.eraseIdx i) m r):GG g (Hd n D S F hs) m r:=by
 exact λf a w c=>k f a w ⟨c.1,(c.2.pull hi).sw d e⟩
theorem GG.aV(d:HC C)(le:F0<=F)(e:j < xs.length)(f:∀m,p m->C F b y m)(k:GG g (Hd n D S F<|ZD γ C F (xs.set j y)::hs) m r):GG g (Hd n D S F<|p::hole γ C F0 j b xs::hs) m r:=by
 exact λl a w c=>k l a w ⟨c.1,SH.aV d le (c.2.mono λ_ h=>QP f h) e⟩
theorem GG.cQ(i:Nat)(d:HC C)(le:F0<=F)(hi:hs[i]? =some (ZD γ C F0 xs))(k:GG g (Hd n D S F<|hs.set i<|ZD γ C F xs) m r):GG g (Hd n D S F hs) m r:=by
 exact λe a w c=>k e a w ⟨c.1,SH.push hi<|(c.2.pull hi).aL d le⟩
end
end
end Go.Dec
end
