/- For OfficeDue. -/
import Derived.WalkKit
import Derived.OrdersIn
import Derived.RangeFuncLeaves
import Derived.ProofKit
import Derived.OpenShut
import Derived.ChangeArms
import Derived.RangeFuncNested
noncomputable section
namespace Go.Dec
theorem ql{p:Prop}(h:p:=by kernel_rfl):p:=h
theorem qz{p:Prop}(h:p:=by omega):p:=h
theorem zg{p:Prop}(h:p:=by simp;omega):p:=h
theorem zh{p:Prop}(h:p:=by simp):p:=h
theorem j2{p:Prop}(h:p:=by decide):p:=h
theorem j8{p:Prop}(h:p:=by rfl):p:=h
abbrev Q0:=@List
abbrev Q2:=@Option
abbrev K1:=@Option.bind_some
abbrev K2:=@Value
abbrev UV:=@Option.some.injEq
abbrev H1:=@Bool.false_eq_true
abbrev Do:=@List.getElem?_eq_some_iff
abbrev BY:=@Bool.and_eq_true
abbrev Bm:=@if_pos
abbrev By:=@if_false
abbrev B1:=@World
abbrev B2:=@if_neg
abbrev B3:=@if_true
abbrev C1:=@Program
abbrev C2:=@List.getElem?_eq_getElem
abbrev C3:=@Addr
abbrev S1:=@Array
abbrev S2:=@Nat.le_refl
abbrev AC:=@Nat.le_of_ble_eq_true
abbrev AT:=@decide_eq_true_eq
abbrev A4:=@TypeId
abbrev TO:=@Deferred
abbrev Tc:=@List.mem_cons
abbrev PP:=@Option.some.inj
abbrev Rw:=@Oper
abbrev Nm:=@List.eq_nil_of_length_eq_zero
abbrev L3:=@FuncId
abbrev E4:=@Option.map_some
abbrev OF:=@List.take_of_length_le
abbrev Of:=@List.map_cons
abbrev IR:=@Operand
abbrev If:=@List.all_eq_true
abbrev qs:=@Nat.lt_or_ge
abbrev kn:=@List.length_cons
abbrev kp:=@Nat.eq_of_beq_eq_true
abbrev kx:=@List.mem_map_of_mem
abbrev j0:=@List.drop_eq_nil_of_le
abbrev yb:=@List.getElem?_take
abbrev y0:=@Array.getD_eq_getD_getElem?
abbrev u0:=@Bool.not_false
abbrev u2:=@Nat.ble_eq_true_of_le
abbrev wt:=@Sem.run_bind
abbrev x2:=@List.drop_eq_getElem_cons
abbrev x4:=@List.getElem?_append_left
abbrev x8:=@Option.bind_eq_some_iff
abbrev hF:=@List.length_nil
abbrev hN:=@List.length_append
abbrev hP:=@List.getElem?_map
abbrev hQ:=@Int.toNat_natCast
abbrev gw:=@Exit
abbrev fl:=@callsIn_wide
abbrev dO:=@MapEntry
abbrev sf:=@Nat.zero_add
abbrev sp:=@Int.mul_le_mul_of_nonneg_left
abbrev s6:=@List.mem_filter
abbrev s8:=@List.all_cons
abbrev s9:=@List.cons_append
abbrev aT:=@List.any_eq_true
abbrev ta:=@List.getElem?_append_right
abbrev td:=@List.getElem?_eq_none
abbrev ts:=@List.getElem?_cons_succ
abbrev rW:=@Bool.true_and
abbrev rm:=@Bool.or_eq_true
abbrev r8:=@Bool.not_eq_true'
abbrev nn:=@StepsIn.trans
abbrev nt:=@List.mem_singleton
abbrev n2:=@List.mem_map
abbrev mX:=@IntKind
abbrev mZ:=@Int.tdiv_eq_ediv_of_nonneg
abbrev me:=@List.nil_append
abbrev mf:=@List.append_nil
abbrev mg:=@List.ext_getElem?
abbrev mj:=@List.mem_range
abbrev ml:=@List.getElem?_drop
abbrev mn:=@List.mem_append
abbrev mo:=@Option.map_eq_some_iff
abbrev mu:=@Nat.add_mul
abbrev mv:=@Bool.false_or
abbrev my:=@List.getElem?_set
abbrev mz:=@List.getElem_of_mem
abbrev lM:=@Sem.run_pure
abbrev lN:=@Nat.le_trans
abbrev lO:=@List.length_drop
abbrev lQ:=@Option.isSome_none
abbrev lW:=@List.cons.injEq
abbrev lX:=@Nat.mul_le_mul_right
abbrev lb:=@List.eraseIdx_cons_succ
abbrev ld:=@List.drop_append_of_le_length
abbrev lg:=@Func
abbrev lk:=@Option.map_none
abbrev ll:=@Edge
abbrev ln:=@Code
abbrev lu:=@List.getElem?_zipWith
abbrev eC:=@Option.getD_some
abbrev eD:=@run_enterLoop_outer
abbrev eG:=@Array.length_toList
abbrev eJ:=@Option.isSome_some
abbrev eK:=@List.filter_eq_nil_iff
abbrev eL:=@List.drop_drop
abbrev eN:=@List.take_append_drop
abbrev eO:=@World.size_alloc
abbrev eQ:=@Int.mul_le_mul_of_nonneg_right
abbrev eU:=@Int.ediv_nonneg
abbrev eW:=@List.map_nil
abbrev eX:=@wpIn_mono
abbrev eZ:=@Nat.lt_of_lt_of_le
abbrev ea:=@Nat.eq_zero_or_pos
abbrev eb:=@List.drop_zero
abbrev ee:=@List.getElem?_eq_none_iff
abbrev eg:=@fenced_calm
abbrev eh:=@calls_of_wp
abbrev ek:=@List.prefix_refl
abbrev el:=@List.length_take
abbrev eo:=@Int.eq_ofNat_of_zero_le
abbrev et:=@Nat.sub_zero
abbrev ew:=@List.getElem?_eraseIdx
abbrev ey:=@List.drop_of_length_le
abbrev e0:=@List.map_append
abbrev oB:=@List.length_replicate
abbrev oD:=@wpIn_rangeFunc
abbrev oE:=@TypeDesc
abbrev oG:=@List.pairwise_append
abbrev oH:=@Int.toNat_zero
abbrev oI:=@wpIn_wide
abbrev oK:=@callsIn_of_wp_marks
abbrev oN:=@Nat.mod_lt
abbrev oO:=@Ending
abbrev oP:=@Array.ext_getElem?
abbrev oW:=@Nat.add_zero
abbrev oe:=@Bool.true_or
abbrev oh:=@Array.size_append
abbrev oi:=@Array.all_eq_true_iff_forall_mem
abbrev om:=@Array.getElem?_setIfInBounds_ne
abbrev oo:=@List.getElem_mem
abbrev ot:=@Array.eq_empty_of_size_eq_zero
abbrev o8:=@and_true
abbrev iN:=@stepR_inLoop
abbrev iP:=@Ne.symm
abbrev iV:=@Array.getElem?_modify
abbrev ie:=@List.append_toArray
abbrev ij:=@stepR_loop
abbrev il:=@List.set_cons_succ
abbrev iq:=@Array.empty_append
abbrev ir:=@Array.append_assoc
abbrev iw:=@List.size_toArray
abbrev iy:=@List.getElem_take
end Go.Dec
namespace Go.Dec
section
variable{w:B1}{b k:Nat}{o:Obj}
inductive Key where
 | blk (b:Nat)
 | gst (γ:Nat)
 deriving DecidableEq
inductive Cell where
 | obj (o:Obj)
 | gh (l:List Nat)
abbrev Mem:=Key->Q2 Cell
variable{m n:Mem}
abbrev HP:=Mem->Prop
variable{hs:Q0 HP}{H p q:HP}
structure Fz where
 mem:Nat->Option Obj
 os:Os
 tape:Nat->Question->Nat
 out:Array (Nat×ByteArray)
 gh:Nat->List Nat:=λ_=>[]
 gn:Nat:=0
variable{F:Fz}
structure Fz.Le(F F' :Fz):Prop where
 os:F'.os=F.os
 tape:F'.tape=F.tape
 out:F'.out=F.out
 mem:∀b o,F.mem b=some o->F'.mem b=some o
 gh:∀γ,γ < F.gn->F.gh γ <+:F'.gh γ
 gn:F.gn<=F'.gn
instance:LE Fz:=⟨Fz.Le⟩
theorem Fz.le_refl(F:Fz):F<=F:=⟨rfl,rfl,rfl,λ_ _ h=>h,λ_ _=>ek _,S2 _⟩
theorem Fz.le_trans{G H:Fz}(h:F<=G)(k:G<=H):F<=H:=⟨k.os.trans h.os,k.tape.trans h.tape,k.out.trans h.out,λb o e=>k.mem b o<|h.mem b o e,λγ hγ=>(h.gh γ hγ).trans<|k.gh γ<|eZ hγ h.gn,lN h.gn k.gn⟩
def Mem.dj(m n:Mem):Prop:=∀k,m k=none∨n k=none
def Mem.sub(m n:Mem):Prop:=∀k o,m k=some o->n k=some o
def Mem.set(m:Mem)(b:Key)(o:Cell):Mem:=λk=>if k=b then some o else m k
def Rl(m:Nat->Q2 Obj)(b:Nat)(o:Obj):Nat->Q2 Obj:=λk=>if k=b then some o else m k
theorem Mem.dj.symm(h:Mem.dj m n):Mem.dj n m:=λk=>(h k).symm
theorem Mem.sub.trans{p:Mem}(h:Mem.sub m n)(k:Mem.sub n p):Mem.sub m p:=λb o e=>k b o<|h b o e
theorem Mem.sub.refl(m:Mem):Mem.sub m m:=λ_ _ e=>e
theorem Mem.dj.sub{a n':Mem}(h:Mem.dj m n)(c:Mem.sub a m)(d:Mem.sub n' n):Mem.dj a n' :=λk=>by
 rcases h k with h | h
 ·cases e:a k with
  | none=>exact .inl rfl
  | some o=>rw[c k o e] at h;cases h
 ·cases e:n' k with
  | none=>exact .inr rfl
  | some o=>rw[d k o e] at h;cases h
theorem Mem.dj.c9(h:Mem.dj m n){b:Key}{o:Cell}(e:m b=some o):n b=none:=by
 rcases h b with h | h
 ·rw[e] at h;cases h
 ·exact h
theorem Mem.dj.al(h:Mem.dj m n){b:Key}{o:Cell}(e:n b=some o):m b=none:=h.symm.c9 e
def Aa:HP:=λ_=>True
def pt(b:Nat)(o:Obj):HP:=λm=>m (.blk b)=some (.obj o)
def vC(γ:Nat)(l:Q0 Nat):HP:=λm=>m (.gst γ)=some (.gh l)
def star(p q:HP):HP:=λm=>∃a c,Mem.dj a c/\Mem.sub a m/\Mem.sub c m/\p a/\q c
def Qg:Q0 HP->HP
 | []=>Aa
 | p::hs=>star p<|Qg hs
theorem Zi{r:HP}(h:star p (star q r) m):star q (star p r) m:=by
 obtain⟨f,C,d,s,g,t,i,a,u,j,c,v,y⟩:=h
 classical
 refine⟨i,λk=>if a k=none then f k else a k,?_,j.trans g,?_,v,f,a,?_,?_,?_,t,y⟩
 ·intro k;by_cases e:a k=none
  ·simp only[e,B3];rcases d k with h | h
   ·exact .inr h
   ·left;cases z:i k with
    | none=>rfl
    | some o=>rw[j k o z] at h;cases h
  ·simp only[e,By];rcases u k with h | h
   ·exact .inl h
   ·exact absurd h e
 ·intro k o e;by_cases l:a k=none
  ·simp only[l,B3] at e;exact s k o e
  ·simp only[l,By] at e;exact g k o<|c k o e
 ·exact d.sub (Mem.sub.refl _) c
 ·intro k o e
  have A:a k=none:=by
   cases B:a k with
   | none=>rfl
   | some x=>
    have:=d.c9 e;rw[c k x B] at this;cases this
  simp[A,e]
 ·intro k o e;simp[e]
theorem QS{a:HP}(h:∀m,q m->a m)(k:star p q m):star p a m:=let⟨c,e,d,f,g,i,j⟩:=k;⟨c,e,d,f,g,i,h _ j⟩
theorem QR{p':HP}(h:∀m,p m->p' m)(k:star p q m):star p' q m:=let⟨a,c,d,e,f,g,i⟩:=k;⟨a,c,d,e,f,h _ g,i⟩
theorem Vc:∀{hs:Q0 HP} {k:Nat} {p:HP} {m:Mem},hs[k]? =some p->Qg hs m->star p (Qg<|hs.eraseIdx k) m
 | [],_,_,_,h,_=>by simp at h
 | q::hs,0,p,m,h,a=>by
  simp at h;subst h;exact a
 | q::hs,k+1,p,m,h,a=>by
  simp only[ts] at h
  simp only[lb];exact Zi<|QS (λm c=>Vc h c) a
theorem FU:∀{hs:Q0 HP} {k:Nat} {p q:HP} {m:Mem},hs[k]? =some q->star p (Qg<|hs.eraseIdx k) m->Qg (hs.set k p) m
 | [],_,_,_,_,h,_=>by simp at h
 | x::hs,0,p,q,m,h,a=>a
 | x::hs,k+1,p,q,m,h,a=>by
  simp only[ts] at h
  simp only[lb] at a
  simp only[il];exact QS (λm c=>FU h c)<|Zi a
theorem DN(h:Qg hs m):star Aa (Qg<|hs.eraseIdx k) m:=by
 cases e:hs[k]? with
 | some p=>exact QR (λ_ _=>trivial) (Vc e h)
 | none=>
  have:hs.eraseIdx k=hs:=List.eraseIdx_of_length_le (by simpa using e);rw[this];exact⟨λ_=>none,m,λ_=>.inl rfl,λ_ _ e=>by simp at e,Mem.sub.refl _,trivial,h⟩
structure gM(w:World)(F:Fz)(m:Mem):Prop where
 dj:∀b,m (.blk b)=none∨F.mem b=none
 own:∀b c,m (.blk b)=some c->∃o,c= .obj o/\w.heap[b]? =some o
 gst:∀γ c,m (.gst γ)=some c->γ < F.gn/\c= .gh (F.gh γ)
 frz:∀b o,F.mem b=some o->w.heap[b]? =some o
 os:w.os=F.os
 tape:w.tape=F.tape
 out:w.output=F.out
def SH(w:B1)(F:Fz)(H:HP):Prop:=∃m,H m/\gM w F m
theorem lt_of_heap(h:w.heap[b]? =some o):b < w.heap.size:=by
 rcases qs b w.heap.size with h' | h'
 ·exact h'
 ·rw[Array.getElem?_eq_none h'] at h;cases h
theorem gM.sub(h:gM w F m)(s:Mem.sub n m):gM w F n:=
 ⟨λb=>by
  rcases h.dj b with e | e
  ·cases a:n (.blk b) with
   | none=>exact .inl rfl
   | some c=>rw[s _ c a] at e;cases e
  ·exact .inr e,λb o e=>h.own b o<|s _ o e,λγ c e=>h.gst γ c<|s _ c e,h.frz,h.os,h.tape,h.out⟩
theorem gM.rO(h:gM w F m)(e:m (.blk b)=some (.obj o)):w.heap[b]? =some o:=by
 obtain⟨_,a,c⟩:=h.own b _ e;cases a;exact c
theorem SH.mono{H':HP}(h:SH w F H)(k:∀m,H m->H' m):SH w F H' :=let⟨m,a,b⟩:=h;⟨m,k m a,b⟩
theorem SH.drop(h:SH w F (star p q)):SH w F q:=let⟨_,⟨_,a,_,_,c,_,d⟩,b⟩:=h;⟨a,d,b.sub c⟩
theorem SH.frozen(h:SH w F H)(e:F.mem b=some o):w.heap[b]? =some o:=let⟨_,_,k⟩:=h;k.frz b o e
theorem SH.owned(h:SH w F (star (pt b o) H)):w.heap[b]? =some o:=
 let⟨_,⟨_,_,_,a,_,c,_⟩,k⟩:=h
 let⟨_,e,h'⟩:=k.own b _<|a _ _ c
 by cases e;exact h'
theorem SH.drew(h:SH w F H)(n:Nat):SH {w with drawn:=n} F H:=let⟨m,a,k⟩:=h;⟨m,a,k.dj,k.own,k.gst,k.frz,k.os,k.tape,k.out⟩
theorem heap_alloc_old{x:Obj}(h:w.heap[b]? =some x):(w.alloc o).heap[b]? =some x:=by
 have:=lt_of_heap h;show(w.heap.push o)[b]? =_;rw[Array.getElem?_push,B2 qz];exact h
theorem heap_alloc_new(w:B1)(o:Obj):(w.alloc o).heap[w.heap.size]? =some o:=by
 show(w.heap.push o)[w.heap.size]? =_;simp
theorem gM.fresh(h:gM w F m):m (.blk w.heap.size)=none/\F.mem w.heap.size=none:=by
 constructor
 ·cases e:m (.blk w.heap.size) with
  | none=>rfl
  | some o=>obtain⟨_,_,h'⟩:=h.own _ _ e;have:=lt_of_heap h';omega
 ·cases e:F.mem w.heap.size with
  | none=>rfl
  | some o=>have:=lt_of_heap<|h.frz _ _ e;omega
theorem Cx{k:Key}{c:Cell}(h:m k=none)(a:H m):star (λm=>m k=some c) H (m.set k c):=by
 refine⟨Mem.set (λ_=>none) k c,m,?_,?_,?_,?_,a⟩
 ·intro b;by_cases e:b=k
  ·subst e;exact .inr h
  ·exact .inl<|by simp[Mem.set,e]
 ·intro b x e;by_cases d:b=k
  ·simpa[Mem.set,d] using e
  ·simp[Mem.set,d] at e
 ·intro b x e;by_cases d:b=k
  ·subst d;rw[h] at e;cases e
  ·simpa[Mem.set,d] using e
 ·simp[Mem.set]
theorem SH.alloc{w:B1}{F:Fz}{H:HP}(h:SH w F H)(o:Obj):SH (w.alloc o) F (star (pt w.heap.size o) H):=by
 obtain⟨m,a,k⟩:=h;obtain⟨f,g⟩:=k.fresh;refine⟨m.set (.blk w.heap.size)<|.obj o,Cx f a,?_,?_,?_,?_,k.os,k.tape,k.out⟩
 ·intro b;by_cases e:b=w.heap.size
  ·subst e;exact .inr g
  ·rcases k.dj b with h | h
   ·exact .inl<|by simpa[Mem.set,e] using h
   ·exact .inr h
 ·intro b x e;by_cases d:b=w.heap.size
  ·subst d;simp[Mem.set] at e;subst e;exact⟨o,rfl,heap_alloc_new w o⟩
  ·simp[Mem.set,d] at e;obtain⟨o',i,j⟩:=k.own b x e;exact⟨o',i,heap_alloc_old j⟩
 ·intro γ c e;exact k.gst γ c<|by simpa[Mem.set] using e
 ·intro b x e;exact heap_alloc_old<|k.frz b x e
def Fz.pU(F:Fz):Fz:={F with gh:=λγ=>if γ=F.gn then[] else F.gh γ,gn:=F.gn+1}
theorem SH.sg(h:SH w F H):F<=F.pU/\SH w F.pU (star (vC F.gn []) H):=by
 obtain⟨m,a,k⟩:=h
 have f:m (.gst F.gn)=none:=by
  cases e:m (.gst F.gn) with
  | none=>rfl
  | some c=>have:=(k.gst _ _ e).1;omega
 refine⟨⟨rfl,rfl,rfl,λ_ _ h=>h,λγ hγ=> ?_,Nat.le_succ _⟩,m.set (.gst F.gn)<|.gh [],Cx f a,?_,?_,?_,k.frz,k.os,k.tape,k.out⟩
 ·show F.gh γ <+:(if γ=F.gn then[] else F.gh γ);rw[B2 qz];exact ek _
 ·intro b;rcases k.dj b with h | h
  ·exact .inl<|by simpa[Mem.set] using h
  ·exact .inr h
 ·intro b x e;exact k.own b x<|by simpa[Mem.set] using e
 ·intro γ c e;by_cases d:γ=F.gn
  ·subst d;simp[Mem.set] at e;subst e;exact⟨Nat.lt_succ_self _,by simp[Fz.pU]⟩
  ·have g:m (.gst γ)=some c:=by simpa[Mem.set,d] using e
   obtain⟨i,j⟩:=k.gst γ c g;exact⟨Nat.lt_succ_of_lt i,by simp[Fz.pU,d,j]⟩
def Fz.sy(F:Fz)(γ b:Nat):Fz:={F with gh:=λδ=>if δ=γ then F.gh γ++[b] else F.gh δ}
theorem SH.pF{γ:Nat}{l:Q0 Nat}(h:SH w F (star (vC γ l) H)):γ < F.gn/\F.gh γ=l:=by
 obtain⟨m,⟨g,i,d,c,j,e,r⟩,k⟩:=h;obtain⟨f,a⟩:=k.gst γ _<|c _ _ e;simp only[Cell.gh.injEq] at a
 exact⟨f,a.symm⟩
theorem SH.sy{γ:Nat}{l:Q0 Nat}(h:SH w F (star (vC γ l) H))(b:Nat):F<=F.sy γ b/\SH w (F.sy γ b) (star (vC γ<|l++[b]) H):=by
 obtain⟨j,r⟩:=h.pF;obtain⟨m,⟨A,a,d,s,f,i,t⟩,k⟩:=h;have B:m (.gst γ)=some (.gh l):=s _ _ i;have u:a (.gst γ)=none:=d.c9 i;refine⟨⟨rfl,rfl,rfl,λ_ _ h=>h,λδ _=> ?_,S2 _⟩,a.set (.gst γ)<|.gh<|l++[b],Cx u t,?_,?_,?_,k.frz,k.os,k.tape,k.out⟩
 ·show F.gh δ <+:(if δ=γ then F.gh γ++[b] else F.gh δ);split
  ·rename_i e;subst e;exact List.prefix_append _ _
  ·exact ek _
 ·intro b';rcases k.dj b' with h | h
  ·cases e:a (.blk b') with
   | none=>exact .inl (by simpa[Mem.set] using e)
   | some c=>rw[f _ _ e] at h;cases h
  ·exact .inr h
 ·intro b' x e;exact k.own b' x<|f _ _<|by simpa[Mem.set] using e
 ·intro δ c e;by_cases g:δ=γ
  ·subst g;simp[Mem.set] at e;subst e;exact⟨j,by simp[Fz.sy,r]⟩
  ·have v:a (.gst δ)=some c:=by simpa[Mem.set,g] using e
   obtain⟨y,z⟩:=k.gst δ c<|f _ _ v;exact⟨y,by simp[Fz.sy,g,z]⟩
def Fz.add(F:Fz)(b:Nat)(o:Obj):Fz:={F with mem:=Rl F.mem b o}
theorem Fz.pq(h:F.mem b=none):F<=F.add b o:=
 ⟨rfl,rfl,rfl,λk x e=>by
  show Rl F.mem b o k=some x;by_cases a:k=b
  ·subst a;rw[h] at e;cases e
  ·simpa[Rl,a] using e,λ_ _=>ek _,S2 _⟩
theorem Fz.cx(F:Fz)(b:Nat)(o:Obj):(F.add b o).mem b=some o:=by simp[Fz.add,Rl]
theorem SH.freeze(h:SH w F (star (pt b o) H)):F<=F.add b o/\SH w (F.add b o) H:=by
 have i:=h.owned;obtain⟨m,⟨u,c,d,j,l,f,r⟩,k⟩:=h;have s:m (.blk b)=some (.obj o):=j _ _ f
 have t:F.mem b=none:=by
  rcases k.dj b with e | e
  ·rw[s] at e;cases e
  ·exact e
 have a:=k.sub l;refine⟨Fz.pq t,c,r,?_,a.own,a.gst,?_,k.os,k.tape,k.out⟩
 ·intro b';show c (.blk b')=none∨Rl F.mem b o b' =none;by_cases e:b' =b
  ·subst e;exact .inl<|d.c9 f
  ·rcases a.dj b' with h | h
   ·exact .inl h
   ·exact .inr<|by simpa[Rl,e] using h
 ·intro b' x e;change Rl F.mem b o b' =some x at e
  by_cases g:b' =b
  ·subst g;simp[Rl] at e;subst e;exact i
  ·simp[Rl,g] at e;exact k.frz b' x e
theorem SH.tA(h:SH w F H)(o:Obj):F<=F.add w.heap.size o/\SH (w.alloc o) (F.add w.heap.size o) H:=(h.alloc o).freeze
def put(w:B1)(b:Nat)(o:Obj):B1:={w with heap:=w.heap.setIfInBounds b o}
theorem AY{x:Obj}(h:w.heap[b]? =some x):(put w b o).heap[b]? =some o:=by
 have:=lt_of_heap h;simp[put,this]
theorem SE(h:k≠b):(put w b o).heap[k]? =w.heap[k]? :=by
 simp[put,iP h]
theorem SH.put{o':Obj}(h:SH w F (star (pt b o) H)):SH (Dec.put w b o') F (star (pt b o') H):=by
 have l:=h.owned;obtain⟨m,⟨B,g,d,r,s,i,t⟩,k⟩:=h;have u:m (.blk b)=some (.obj o):=r _ _ i
 have j:F.mem b=none:=by
  rcases k.dj b with e | e
  ·rw[u] at e;cases e
  ·exact e
 have v:g (.blk b)=none:=d.c9 i;have f:=k.sub s;refine⟨g.set (.blk b)<|.obj o',Cx v t,?_,?_,?_,?_,k.os,k.tape,k.out⟩
 ·intro b';by_cases e:b' =b
  ·subst e;exact .inr j
  ·rcases f.dj b' with h | h
   ·exact .inl<|by simpa[Mem.set,e] using h
   ·exact .inr h
 ·intro b' x e;by_cases a:b' =b
  ·subst a;simp[Mem.set] at e;subst e;exact⟨o',rfl,AY l⟩
  ·simp[Mem.set,a] at e
   obtain⟨y,z,A⟩:=f.own b' x e;exact⟨y,z,by rw[SE a];exact A⟩
 ·intro γ c e;exact f.gst γ c<|by simpa[Mem.set] using e
 ·intro b' x e;have:b'≠b:=λa=>by subst a;rw[j] at e;cases e
  rw[SE this];exact k.frz b' x e
theorem SH.pull(a:hs[k]? =some p)(h:SH w F (Qg hs)):SH w F (star p<|Qg<|hs.eraseIdx k):=h.mono λ_=>Vc a
theorem SH.push(a:hs[k]? =some q)(h:SH w F (star p<|Qg<|hs.eraseIdx k)):SH w F (Qg<|hs.set k p):=h.mono λ_=>FU a
theorem SH.cp(a:hs[k]? =some (pt b o))(h:SH w F (Qg hs)):w.heap[b]? =some o:=(h.pull a).owned
theorem SH.putAt(a:hs[k]? =some (pt b o))(h:SH w F (Qg hs))(o' :Obj):SH (Dec.put w b o') F (Qg<|hs.set k<|pt b o'):=SH.push a ((h.pull a).put)
theorem SH.px(a:hs[k]? =some (pt b o))(h:SH w F (Qg hs)):F<=F.add b o/\SH w (F.add b o) (Qg<|hs.eraseIdx k):=(h.pull a).freeze
theorem SH.sF(k:Nat)(h:SH w F (Qg hs)):SH w F (Qg<|hs.eraseIdx k):=(h.mono λ_=>DN (k:=k)).drop
theorem SH.only(a:hs[k]? =some p)(h:SH w F (Qg hs)):SH w F p:=by
 obtain⟨m,c,s⟩:=h;obtain⟨e,i,d,f,j,g,_⟩:=Vc a c;exact⟨e,g,s.sub f⟩
theorem SH.one(h:SH w F p):SH w F (Qg [p]):=h.mono λm a=>⟨m,λ_=>none,λ_=>.inr rfl,Mem.sub.refl _,λ_ _ e=>by simp at e,a,trivial⟩
theorem SH.size_le{w':B1}{f:Fz}{H' :HP}(h' :SH w' f H')(a:∀b o,w.heap[b]? =some o->F.mem b=some o)(le:F<=f):w.heap.size<=w'.heap.size/\∀k,k < w.heap.size->w'.heap[k]? =w.heap[k]? :=by
 have key:∀k,k < w.heap.size->w'.heap[k]? =w.heap[k]? :=λk g=>by
  have e:w.heap[k]? =some w.heap[k]:=by simp[g]
  rw[e];exact h'.frozen<|le.mem _ _<|a _ _ e
 refine⟨?_,key⟩;rcases qs w'.heap.size w.heap.size with c | d
 ·have e:=key w'.heap.size c;have h:w.heap[w'.heap.size]? =some w.heap[w'.heap.size]:=by simp[c]
  rw[h] at e
  have:=lt_of_heap e;omega
 ·exact d
end
section
variable{Q:gw->Act->B1->Prop}{S:Q0 (Nat×K2)}{β σ α γ:Type}{P:C1}{D:Q0 TO}{O:Q2 Nat}{w:B1}{n id:Nat}{a:Act}{K K':Act->B1->Prop}{c x y:ln}{F:Fz}{hs:Q0 HP}{args:Q0 K2}{ops:S1 Rw}{l:Q0 Rw}{m:Q2 β}{o:Rw}{f:L3}
variable{O:Q2 Nat}
def K6:Q0 (Nat×K2)->Nat->Q2 K2
 | [],_=>none
 | (k,v)::S,i=>match Nat.beq k i with
  | true=>some v
  | false=>K6 S i
def Sl(n:Nat)(D:Q0 TO)(S:Q0 (Nat×K2))(a:Act):Prop:=a.tmps.size=n/\a.defers=D/\∀i v,K6 S i=some v->a.tmps.getD i undef=v
def Hd(n:Nat)(D:Q0 TO)(S:Q0 (Nat×K2))(F:Fz)(hs:Q0 HP)(a:Act)(w:B1):Prop:=Sl n D S a/\SH w F (Qg hs)
def QP(S:Q0 (Nat×K2)):IR->Q2 K2
 | .tmp t=>K6 S t
 | .const v=>some v
 | .global g=>some (.pointer<|some ⟨g,0,none⟩)
 | .func f=>some<|.func (.func f) #[] #[]
theorem Sl.eval(h:Sl n D S a){o:IR}{v:K2}(e:QP S o=some v):a.eval o=v:=by
 cases o with
 | tmp t=>exact h.2.2 t v e
 | const x=>exact PP e
 | global g=>exact PP e
 | func f=>exact PP e
theorem Sl.put(h:Sl n D S a){d:Nat}(p:Nat.blt d n=true)(v:K2):Sl n D ((d,v)::S) (a.put (some d) v):=by
 have g:d < n:=AC p;obtain⟨k,q,r⟩:=h;refine⟨by simp[Act.put,k],by simp[Act.put,q],λi u e=> ?_⟩;simp only[K6] at e
 cases b:Nat.beq d i with
 | true=>
  rw[b] at e
  have:d=i:=kp b;subst this;simp only[UV] at e
  subst e;simp[Act.put,k,g]
 | false=>
  rw[b] at e
  have j:d≠i:=λhe=>by subst he;simp at b
  have:=r i u e;simp only[Act.put,y0] at this ⊢
  rw[om j];exact this
theorem Sl.c6(h:Sl n D S a)(v:K2):Sl n D S (a.put none v):=h
def Sub(S' S:Q0 (Nat×K2)):Prop:=∀i v,K6 S' i=some v->K6 S i=some v
theorem Sub.refl(S:Q0 (Nat×K2)):Sub S S:=λ_ _ h=>h
theorem Sub.nil(S:Q0 (Nat×K2)):Sub [] S:=λ_ _ h=>by simp[K6] at h
theorem Sub.cons{S T:Q0 (Nat×K2)}{k:Nat}{v:K2}(h:K6 S k=some v)(t:Sub T S):Sub ((k,v)::T) S:=λi u e=>by
 simp only[K6] at e
 cases b:Nat.beq k i with
 | true=>
  rw[b] at e
  have:k=i:=kp b;subst this;simp only[UV] at e
  subst e;exact h
 | false=>rw[b] at e;exact t i u e
theorem Sl.sub{S':Q0 (Nat×K2)}(h:Sl n D S a)(s:Sub S' S):Sl n D S' a:=⟨h.1,h.2.1,λi v e=>h.2.2 i v<|s i v e⟩
def A5(k:Nat):Q0 (Nat×K2)->Bool
 | []=>false
 | (j,_)::S=>Nat.beq j k||A5 k S
def fresh(S:Q0 (Nat×K2)):Q0 (Nat×K2)->Bool
 | []=>true
 | (j,_)::T=> !A5 j S&&fresh S T
theorem Fm:∀{S:Q0 (Nat×K2)} {i:Nat} {v:K2},K6 S i=some v->A5 i S=true
 | [],_,_,h=>by simp[K6] at h
 | (k,u)::S,i,v,h=>by
  simp only[K6] at h
  simp only[A5];cases b:Nat.beq k i with
  | true=>rfl
  | false=>rw[b] at h;simp[Fm h]
theorem DU:∀{T S:Q0 (Nat×K2)} {i:Nat} {v:K2},fresh S T=true->K6 S i=some v->K6 (T++S) i=some v
 | [],_,_,_,_,h=>h
 | (j,u)::T,S,i,v,b,h=>by
  simp only[fresh,BY,r8] at b
  simp only[s9,K6];cases d:Nat.beq j i with
  | true=>
   have:j=i:=kp d;subst this;rw[Fm h] at b;cases b.1
  | false=>exact DU b.2 h
inductive Kt where
 | code (c:Code)
 | block (id:Nat)
variable{ks:Q0 Kt}
def Rm:Q2 Nat->Fence
 | none=>Fence.wide
 | some l=>Fence.wide.inRound l
theorem yT(O:Q2 Nat):(Rm O).round=O:=by cases O<;>rfl
theorem Bv(O:Q2 Nat)(f:L3):(Rm O).fn f:=by cases O<;>trivial
theorem BN(O:Q2 Nat):(Rm O).depth=none:=by cases O<;>rfl
theorem BM(O:Q2 Nat)(n:Nat):(Rm O).room n:=λd b=>by rw[BN] at b;cases b
theorem Eo{args:S1 K2}{R:oO->B1->Prop}:CallsIn (Rm O) n P f args w R↔Calls P f args w R:=by
 cases O with
 | none=>exact fl
 | some l=>exact fl
def HB:Op->Bool
 | .defer _=>false
 | _=>true
theorem kA{o:Op}(h:HB o=true):∀c,o≠.defer c:=λc e=>by rw[e] at h;cases h
def yC(O:Q2 Nat)(P:C1)(o:Rw)(a:Act)(w:B1)(K:Act->B1->Prop)(Q:gw->Act->B1->Prop):Prop:=(O=none∨HB o.op=true)/\o.uponIn (Rm O) 0 P a K Q ((execOp a.eval o).run P w)
theorem yC.wpIn(h:yC O P o a w K Q):o.wpIn (Rm O) 0 P a w K Q:=by
 refine⟨λf _=>Bv O f,?_⟩;rw[yT];obtain⟨b,d⟩:=h;rcases b with rfl | b
 ·exact d
 ·rw[Oper.semAt_eq O _ o<|kA b];exact d
theorem Oc{s:gw->Act->B1->Prop}(h:∀u w,K (a.put o.dst u) w->K' (a.put o.dst u) w)
  (t:∀d w,K ({a with defers:=d::a.defers}.put o.dst undef) w->K' ({a with defers:=d::a.defers}.put o.dst undef) w) (i:∀e a w,e≠.normal->Q e a w->s e a w)
  (z:yC O P o a w K Q):yC O P o a w K' s:=by
 obtain⟨A,b⟩:=z;refine⟨A,?_⟩;generalize(execOp a.eval o).run P w=r at*
 unfold Oper.uponIn at*
 split at b
 all_goals first
  | exact h _ _ b
  | exact t _ _ b
  | exact b.elim
  | exact i _ _ _ zh b
  | (refine⟨b.1,CallsIn.mono b.2 ?_⟩;rintro(v | c | _) j g<;>first | exact h _ _ g | exact i _ _ _ zh g | (obtain⟨k,p,q⟩:=g;exact⟨k,p,i _ _ _ zh q⟩))
  | (refine⟨b.1,RowsIn.mono b.2 ?_⟩;intro v j g;exact h _ _ g)
  | (refine⟨b.1,RoundIn.mono b.2 ?_⟩;rintro(v | c | _) j g<;>first | exact h _ _ g | exact i _ _ _ zh g | (obtain⟨k,p,q⟩:=g;exact⟨k,p,i _ _ _ zh q⟩))
theorem R0{b:gw->Act->B1->Prop}(h:∀a w,K a w->K' a w)(d:∀e a w,e≠.normal->Q e a w->b e a w)
 (g:yC O P o a w K Q):yC O P o a w K' b:=Oc (λ_ _=>h _ _) (λ_ _=>h _ _) d g
theorem BE(h:∀a w,K a w->K' a w)(b:yC O P o a w K Q):yC O P o a w K' Q:=R0 h (λ_ _ _ _ d=>d) b
def W8(O:Q2 Nat)(P:C1)(ops:S1 Rw)(Q:gw->Act->B1->Prop):Q0 Rw->Act->B1->Prop
 | [],a,w=>Q .normal a w
 | o::rest,a,w=>if Region.wanted o (yielded ops a.tmps) then yC O P o a w (W8 O P ops Q rest) Q else W8 O P ops Q rest (a.put o.dst undef) w
theorem W8.wpIn:∀{l:Q0 Rw} {a:Act} {w:B1},W8 O P ops Q l a w->wpListIn (Rm O) 0 P ops Q l a w
 | [],_,_,h=>h
 | o::rest,a,w,h=>by
  unfold W8 at h
  unfold wpListIn;split
  ·rename_i b;rw[Bm b] at h
   exact(BE (λa w h=>W8.wpIn h) h).wpIn
  ·rename_i b;rw[B2 b] at h
   exact⟨λf _=>Bv O f,W8.wpIn h⟩
def Zh(O:Q2 Nat)(P:C1):Q0 Kt->(gw->Act->B1->Prop)->gw->Act->B1->Prop
 | [],Q=>Q
 | .code c::ks,Q=>Exit.then (c.wpIn (Rm O) 0 P<|Zh O P ks Q) (Zh O P ks Q)
 | .block id::ks,Q=>Exit.inBlock id<|Zh O P ks Q
def CV(id:Nat):Q0 Kt->Q2 (Q0 Kt)
 | []=>none
 | .code _::ks=>CV id ks
 | .block j::ks=>match Nat.beq j id with
  | true=>some ks
  | false=>CV id ks
theorem Q9:∀{ks b:Q0 Kt},CV id ks=some b->Zh O P b Q .normal a w->Zh O P ks Q (.exit id) a w
 | [],_,h,_=>by simp[CV] at h
 | .code c::ks,b,h,k=>by
  simp only[CV] at h
  show Zh O P ks Q (.exit id) a w;exact Q9 h k
 | .block j::ks,b,h,k=>by
  simp only[CV] at h
  show(if id=j then Zh O P ks Q .normal a w else Zh O P ks Q (.exit id) a w);cases d:Nat.beq j id with
  | true=>
   rw[d] at h
   have:j=id:=kp d;simp only[UV] at h
   subst h;rw[Bm this.symm];exact k
  | false=>
   rw[d] at h
   have e:id≠j:=λhe=>by subst he;simp at d
   rw[B2 e];exact Q9 h k
theorem A0:∀{ks:Q0 Kt},CV id ks=none->Q (.exit id) a w->Zh O P ks Q (.exit id) a w
 | [],_,k=>k
 | .code c::ks,h,k=>by
  simp only[CV] at h
  show Zh O P ks Q (.exit id) a w;exact A0 h k
 | .block j::ks,h,k=>by
  simp only[CV] at h
  show(if id=j then Zh O P ks Q .normal a w else Zh O P ks Q (.exit id) a w);cases b:Nat.beq j id with
  | true=>rw[b] at h;simp at h
  | false=>
   rw[b] at h
   have d:id≠j:=λhe=>by subst he;simp at b
   rw[B2 d];exact A0 h k
theorem Jn:∀{ks:Q0 Kt},Q .ret a w->Zh O P ks Q .ret a w
 | [],k=>k
 | .code c::ks,k=>by show Zh O P ks Q .ret a w;exact Jn k
 | .block j::ks,k=>by show Zh O P ks Q .ret a w;exact Jn k
theorem K9{c:Q0 PanicEntry}:∀{ks:Q0 Kt},Q (.panic c) a w->Zh O P ks Q (.panic c) a w
 | [],k=>k
 | .code c::ks,k=>by show Zh O P ks Q (.panic _) a w;exact K9 k
 | .block j::ks,k=>by show Zh O P ks Q (.panic _) a w;exact K9 k
def wpS(P:C1)(ops:S1 Rw)(w:B1)(K:Act->Prop):Q0 Rw->Act->Prop
 | [],a=>K a
 | o::rest,a=>if Region.wanted o (yielded ops a.tmps) then ∃v,(execOp a.eval o).run P w= .ok (.value v) w/\wpS P ops w K rest (a.put o.dst v) else wpS P ops w K rest (a.put o.dst undef)
inductive Md where
 | f (O:Option Nat)
 | s
instance:Coe (Q2 Nat) Md:=⟨.f⟩
variable{μ:Md}
def fX(μ:Md)(P:C1)(ops:S1 Rw)(ks:Q0 Kt)(Q:gw->Act->B1->Prop)(l:Q0 Rw)(a:Act)(w:B1):Prop:=match μ with
 | .f O=>W8 O P ops (Zh O P ks Q) l a w
 | .s=>wpS P ops w (λb=>Zh none P ks Q .normal b w) l a
inductive Pt where
 | L (ops:Array Oper) (l:List Oper) (ks:List Kt)
 | C (c:Code) (ks:List Kt)
 | E (ks:List Kt)
structure Gp where
 u:Md
 P:Program
 Q:Exit->Act->World->Prop
 p:Pt
variable{g:Gp}
def Md.k:Md->Q2 Nat
 | .f O=>O
 | .s=>none
def Gp.W(g:Gp):Act->B1->Prop:=match g.p with
 | .L ops l ks=>fX g.u g.P ops ks g.Q l
 | .C c ks=>c.wpIn (Rm g.u.k) 0 g.P (Zh g.u.k g.P ks g.Q)
 | .E ks=>Zh g.u.k g.P ks g.Q .normal
def GG(g:Gp)(A:Act->B1->Prop)(m:Q2 β)(r:β):Prop:=m=some r->∀a w,A a w->g.W a w
theorem fo(h:W8 O P ops (Zh O P ks Q) l a w):(Gp.mk (.f O) P Q<|.L ops l ks).W a w:=h
abbrev GL(μ:Md)(P:C1)(ops:S1 Rw)(l:Q0 Rw)(ks:Q0 Kt)(Q:gw->Act->B1->Prop)(A:Act->B1->Prop)(m:Q2 β)(r:β):Prop:=GG ⟨μ,P,Q,.L ops l ks⟩ A m r
abbrev GC(O:Q2 Nat)(P:C1)(c:ln)(ks:Q0 Kt)(Q:gw->Act->B1->Prop)(A:Act->B1->Prop)(m:Q2 β)(r:β):Prop:=GG ⟨.f O,P,Q,.C c ks⟩ A m r
abbrev GE(O:Q2 Nat)(P:C1)(ks:Q0 Kt)(Q:gw->Act->B1->Prop)(A:Act->B1->Prop)(m:Q2 β)(r:β):Prop:=GG ⟨.f O,P,Q,.E ks⟩ A m r
section
variable{β:Type}{P:C1}{ops:S1 Rw}{l rest:Q0 Rw}{ks:Q0 Kt}{Q:gw->Act->B1->Prop}{A A' :Act->B1->Prop}{m:Q2 β}{r:β}
theorem GG.seq(h:GC O P x (.code y::ks) Q A m r):GC O P (.seq x y) ks Q A m r:=λb a w d=>wpIn_seq<|h b a w d
theorem GG.skip(h:GE O P ks Q A m r):GC O P .skip ks Q A m r:=λb a w d=>wpIn_skip<|h b a w d
theorem GG.cR(b:CV id ks=none)(h:m=some r->∀a w,A a w->Q (.exit id) a w):GC O P (.exit id) ks Q A m r:=λd a w e=>wpIn_exit<|A0 b<|h d a w e
theorem GG.cz(h:m=some r->∀a w,A a w->Q .ret a w):GC O P .ret ks Q A m r:=λb a w d=>wpIn_ret<|Jn<|h b a w d
theorem GG.code(h:GC O P c ks Q A m r):GE O P (.code c::ks) Q A m r:=h
theorem GG.cN(h:m=some r->∀a w,A a w->Q .normal a w):GE O P [] Q A m r:=h
theorem GG.region(h:GL O P l.toArray l ks Q A m r):GC O P (.region id l.toArray false) ks Q A m r:=λb a w d=>wpIn_region_lit<|W8.wpIn<|h b a w d
theorem GG.cond{S:Q0 (Nat×K2)}{n:Nat}{D:Q0 TO}{F:Fz}{hs:Q0 HP}{c:IR}{x y:ln}{b:Bool}{j k:Q2 β}(e:QP S c=some (.bool b))
  (p:b=true->GC O P x ks Q (Hd n D S F hs) j r) (q:b=false->GC O P y ks Q (Hd n D S F hs) k r):GC O P (.cond c x y) ks Q (Hd n D S F hs) (if b then j else k) r:=by
 intro h a w i;cases d:b with
 | true=>rw[d] at e;rw[d,Bm rfl] at h;exact wpIn_cond_true (i.1.eval e) (p d h a w i)
 | false=>rw[d] at e;rw[d,B2 zh] at h;exact wpIn_cond_false (i.1.eval e)<|q d h a w i
theorem GG.sT{c:IR}(d:QP S c=some (.bool true))
  (e:GC O P x ks Q (Hd n D S F hs) m r):GC O P (.cond c x y) ks Q (Hd n D S F hs) m r:=
 λh a w b=>wpIn_cond_true (b.1.eval d)<|e h a w b
theorem GG.sH{c:IR}(d:QP S c=some (.bool false))
  (e:GC O P y ks Q (Hd n D S F hs) m r):GC O P (.cond c x y) ks Q (Hd n D S F hs) m r:=
 λh a w b=>wpIn_cond_false (b.1.eval d)<|e h a w b
theorem GG.tB(h:∀a w,A a w->A' a w)(k:GG g A' m r):GG g A m r:=by
 exact λb a w d=>k b a w<|h a w d
section
variable{S S' :Q0 (Nat×K2)}{n:Nat}{D:Q0 TO}{F F' :Fz}{hs hs' :Q0 HP}
theorem GG.keep(s:Sub S' S)(k:GG g (Hd n D S' F hs) m r):GG g (Hd n D S F hs) m r:=GG.tB (λ_ _ h=>⟨h.1.sub s,h.2⟩) k
theorem GG.drop(i:Nat)(k:GG g (Hd n D S F<|hs.eraseIdx i) m r):GG g (Hd n D S F hs) m r:=by
 exact GG.tB (λ_ _ h=>⟨h.1,h.2.sF i⟩) k
theorem GG.freeze{b:Nat}{o:Obj}(i:Nat)(e:hs[i]? =some (pt b o))(k:∀F',F<=F'->F'.mem b=some o->GG g (Hd n D S F'<|hs.eraseIdx i) m r):GG g (Hd n D S F hs) m r:=by
 exact λh a w d=>by
  obtain⟨j,p⟩:=SH.px e d.2;exact k _ j (Fz.cx F b o) h a w ⟨d.1,p⟩
end
def QQ(x:α)(f:α->γ):γ:=f x
theorem GG.cL{x:α}{f:α->Q2 β}(h:∀y,y=x->GG g A (f y) r):GG g A (QQ x f) r:=by
 exact h x rfl
theorem GG.bind{g:Gp}{α:Type}{e:Q2 α}{f:α->Q2 β}(h:∀y,e=some y->GG g A (f y) r):GG g A (e.bind f) r:=by
 exact λb=>by
  cases e with
  | none=>simp at b
  | some y=>exact h y rfl b
end
inductive UP(σ β:Type) where
 | next(s:σ)
 | done (b:β)
variable{body:σ->Q2 (UP σ β)}
def Hq(body:σ->Q2 (UP σ β)):Nat->σ->Q2 β
 | 0,_=>none
 | n+1,s=>match body s with
  | none=>none
  | some (.done b)=>some b
  | some (.next d)=>Hq body n d
open Classical in
def ZT(body:σ->Q2 (UP σ β))(s:σ):Q2 β:=if h:∃b n,Hq body n s=some b then some h.choose else none
theorem Ax:∀{n k:Nat} {s:σ} {b:β},n<=k->Hq body n s=some b->Hq body k s=some b
 | 0,_,_,_,_,h=>by simp[Hq] at h
 | n+1,0,_,_,le,_=>by omega
 | n+1,k+1,s,b,le,h=>by
  simp only[Hq] at h ⊢
  cases d:body s with
  | none=>rw[d] at h;cases h
  | some c=>
   rw[d] at h
   cases c with
   | done x=>exact h
   | next e=>exact Ax (Nat.le_of_succ_le_succ le) h
theorem Ay{s:σ}{b:β}(h:Hq body n s=some b):ZT body s=some b:=by
 have he:∃b n,Hq body n s=some b:=⟨b,n,h⟩;unfold ZT;rw[dif_pos he];obtain⟨k,e⟩:=he.choose_spec;have i:=Ax (Nat.le_max_left n k) h;have d:=Ax (Nat.le_max_right n k) e;rw[i] at d
 exact d.symm
theorem Bn{s:σ}{b:β}(h:ZT body s=some b):∃n,Hq body n s=some b:=by
 unfold ZT at h
 split at h
 ·rename_i he;simp only[UV] at h
  obtain⟨n,d⟩:=he.choose_spec;exact⟨n,h▸d⟩
 ·cases h
theorem ZJ(body:σ->Q2 (UP σ β))(s:σ):ZT body s=match body s with
  | none=>none
  | some (.done b)=>some b
  | some (.next e)=>ZT body e:=by
 cases i:body s with
 | none=>
  cases h:ZT body s with
  | none=>rfl
  | some b=>
   obtain⟨n,d⟩:=Bn h;cases n with
   | zero=>simp[Hq] at d
   | succ n=>simp[Hq,i] at d
 | some c=>
  cases c with
  | done b=>exact Ay (n:=1) (by simp[Hq,i])
  | next e=>
   show ZT body s=ZT body e;cases h:ZT body e with
   | some b=>
    obtain⟨n,d⟩:=Bn h;exact Ay (n:=n+1) (by simp only[Hq,i];exact d)
   | none=>
    cases j:ZT body s with
    | none=>rfl
    | some b=>
     obtain⟨n,d⟩:=Bn j;cases n with
     | zero=>simp[Hq] at d
     | succ n=>
      simp only[Hq,i] at d
      rw[Ay d] at h;cases h
def Q5(I:σ->Act->B1->Prop)(Dn:β->gw->Act->B1->Prop)(c:UP σ β):gw->Act->B1->Prop:=λe a w=>
 match c with
 | .next s=>e= .normal/\I s a w
 | .done b=>e≠.normal/\Dn b e a w
theorem IY{I:σ->Act->B1->Prop}{Dn:β->gw->Act->B1->Prop}{b:β}
  (round:∀s d,body s=some d->∀a w,I s a w->c.wpIn (Rm O) 0 P (Q5 I Dn d) a w):∀(n:Nat) (s:σ),Hq body n s=some b->∀a w,I s a w->
   ∀(fr:Frame) (k:Q0 Item) (cs:Q0 Frame),fr.roundOf=(Rm O).round->∃e u w',Dn b e u w'/\ArrivesIn (Machine.fenced P<|Rm O) P (lone (fr.atR a<|.code c:: .inLoop c::k) cs w) fr k cs e u w'
 | 0,_,h,_,_,_,_,_,_,_=>by simp[Hq] at h
 | n+1,s,h,a,w,v,fr,k,cs,j=>by
  simp only[Hq] at h
  cases q:body s with
  | none=>rw[q] at h;cases h
  | some d=>
   rw[q] at h
   obtain⟨e,a₁,w₁,p,i⟩:=round s d q a w v fr (.inLoop c::k) cs j (Bv O _)<|BM O _;cases d with
   | next z=>
    obtain⟨rfl,r⟩:=p;obtain⟨e₂,a₂,w₂,hq₂,harr₂⟩:=IY round n z h a₁ w₁ r fr k cs j;exact⟨e₂,a₂,w₂,hq₂,.of_steps (nn i<|.one (eg (n:=0) (Bv O _) (BM O _) rfl) iN) harr₂⟩
   | done b' =>
    obtain⟨t,p⟩:=p;simp only[UV] at h
    subst h;refine⟨e,a₁,w₁,p,?_⟩;exact .pass (x:=.inLoop c) rfl (λ_ _=>.inl t) i
section
variable{β:Type}{P:C1}{ks:Q0 Kt}{Q:gw->Act->B1->Prop}{A:Act->B1->Prop}{r:β}
theorem GG.loop{body:σ->Q2 (UP σ γ)}{h:σ}{f:γ->Q2 β}(I:σ->Act->B1->Prop)(Dn:γ->gw->Act->B1->Prop)
  (v:∀a w,A a w->I h a w)
  (round:∀s d,GC O P c [] (Q5 I Dn d) (I s) (body s) d)
  (after:∀b,ZT body h=some b->f b=some r->∀e a w,Dn b e a w->Zh O P ks Q e a w):GC O P (.loop c) ks Q A ((ZT body h).bind f) r:=by
 intro j a w z;cases p:ZT body h with
 | none=>rw[p] at j;cases j
 | some b=>
  rw[p] at j
  obtain⟨n,B⟩:=Bn p;intro fr k cs q C E;obtain⟨e,u,w',G,i⟩:=IY (Dn:=Dn) (λs d hs a w t=>round s d hs a w t) n h B a w (v a w z) fr k cs q;exact⟨e,u,w',after b p j e u w' G,.of_steps (.one (eg C E rfl) ij) i⟩
theorem GG.join{i:Q2 (UP σ γ)}{f:UP σ γ->Q2 β}(I:σ->Act->B1->Prop)(Dn:γ->gw->Act->B1->Prop)
  (h:∀d,GC O P c [] (Q5 I Dn d) A i d)
  (next:∀s,i=some (.next s)->GE O P ks Q (I s) (f<|.next s) r)
  (done:∀b,i=some (.done b)->f (.done b)=some r->∀e a w,Dn b e a w->Zh O P ks Q e a w):GC O P c ks Q A (i.bind f) r:=by
 intro j a w t;cases k:i with
 | none=>rw[k] at j;cases j
 | some d=>
  rw[k] at j
  refine eX (h d k a w t) λe q w' p=> ?_;cases d with
  | next s=>obtain⟨rfl,p⟩:=p;exact next s k j q w' p
  | done b=>exact done b k j e q w' p.2
theorem GG.ct{b:Q2 σ}{f:σ->Q2 β}(I:σ->Act->B1->Prop)
  (h:∀s,GC O P c [] (λe a w=>e= .normal/\I s a w) A b s)
  (next:∀s,b=some s->GE O P ks Q (I s) (f s) r):GC O P c ks Q A (b.bind f) r:=by
 intro d a w k;cases i:b with
 | none=>rw[i] at d;cases d
 | some s=>
  rw[i] at d
  refine eX (h s i a w k) λe p w' j=> ?_;obtain⟨rfl,j⟩:=j;exact next s i d p w' j
end
def CT(P:C1)(f:L3)(args:S1 K2)(F:Fz)(H:HP)(m:Q2 β)(ρ:β->Fz->K2->Prop)(H' :β->Fz->K2->HP):Prop:=∀r,m=some r->∀w R,SH w F (star H R)->Calls P f args w (λe w' =>∃b v,F<=b/\e= .returned v/\ρ r b v/\SH w' b (star (H' r b v) R))
def Z9(P:C1)(f:L3)(args:S1 K2)(F:Fz)(m:Q2 β)(ρ:β->Fz->K2->Prop):Prop:=∀r,m=some r->∀w R,SH w F R->Calls P f args w (λe w' =>∃b v,F<=b/\e= .returned v/\ρ r b v/\SH w' b R)
def Dw:Nat->Q0 K2->Q0 (Nat×K2)
 | _,[]=>[]
 | i,v::vs=>(i,v)::Dw (i+1) vs
theorem EZ:∀{vs:Q0 K2} {i j:Nat} {v:K2},K6 (Dw i vs) j=some v->i<=j/\vs[j - i]? =some v
 | [],_,_,_,h=>by simp[Dw,K6] at h
 | x::vs,i,j,v,h=>by
  simp only[Dw,K6] at h
  cases b:Nat.beq i j with
  | true=>
   rw[b] at h
   have:i=j:=kp b;subst this;exact⟨S2 _,by simpa using h⟩
  | false=>
   rw[b] at h
   obtain⟨e,d⟩:=EZ h;refine⟨by omega,?_⟩;rw[show j - i=(j - (i+1))+1 by omega];simpa using d
def Oy(P:C1)(fn:lg)(F:Fz)(R:HP)(ρ:β->Fz->K2->Prop)(r:β):gw->Act->B1->Prop:=bodyPost P fn (λe w' =>∃b v,F<=b/\e= .returned v/\ρ r b v/\SH w' b R)
def Oz(P:C1)(fn:lg)(F:Fz)(R:HP)(ρ:β->Fz->K2->Prop)(H' :β->Fz->K2->HP)(r:β):gw->Act->B1->Prop:=bodyPost P fn (λe w' =>∃b v,F<=b/\e= .returned v/\ρ r b v/\SH w' b (star (H' r b v) R))
theorem WB(d:Nat.ble args.length n=true):Sl n [] (Dw 0 args) {tmps:=args.toArray++Array.replicate (n - args.toArray.size) undef,defers:=[]}:=by
 have j:args.length<=n:=AC d;refine⟨by simp;omega,rfl,λi v e=> ?_⟩;obtain⟨_,b⟩:=EZ e;simp only[et] at b
 have hi:i < args.length:=by
  rcases qs i args.length with h | h
  ·exact h
  ·rw[td h] at b;cases b
 simp only[y0];rw[Array.getElem?_append_left<|by simpa using hi];simp[b]
theorem Z9.enter{fn:lg}{ρ:β->Fz->K2->Prop}
  (b:P.funcs[f]? =some fn) (d:fn.body=some c) (e:fn.ntmps=n) (h:Nat.ble args.length n=true)
  (k:∀r R,GC none P c [] (Oy P fn F R ρ r) (Hd n [] (Dw 0 args) F [R]) m r):Z9 P f args.toArray F m ρ:=by
 intro r i w R j;refine eh b d<|oI.1<|k r R i _ w ⟨?_,j.one⟩;rw[e];exact WB h
theorem SH.two{p q:HP}(h:SH w F (star p q)):SH w F (Qg [p,q]):=h.mono λm b=>QS (λd i=>⟨d,λ_=>none,λ_=>.inr rfl,Mem.sub.refl _,λ_ _ e=>by simp at e,i,trivial⟩) b
theorem CT.enter{fn:lg}{H:HP}{ρ:β->Fz->K2->Prop}{H' :β->Fz->K2->HP}
  (b:P.funcs[f]? =some fn) (d:fn.body=some c) (e:fn.ntmps=n) (h:Nat.ble args.length n=true)
  (k:∀r R,GC none P c [] (Oz P fn F R ρ H' r) (Hd n [] (Dw 0 args) F [H,R]) m r):CT P f args.toArray F H m ρ H' :=by
 intro r i w R j;refine eh b d<|oI.1<|k r R i _ w ⟨?_,j.two⟩;rw[e];exact WB h
end
section
variable{after:S1 ll}{cs:S1 K2}{pos:String}{len j z e t d i:Nat}{ty:A4}{fs:S1 Field}{T:S1 A4}{v:K2}{o:Rw}{b:Bool}{a:Act}{op:Op}
variable{O:Q2 Nat}{μ:Md}
theorem YA{P:C1}{t:A4}{d:oE}(h:P.underlying t=some d)(w:B1):(underlying t).run P w= .ok d w:=by
 simp[underlying,h]
section
variable{β:Type}{P:C1}{ops:S1 Rw}{rest:Q0 Rw}{ks:Q0 Kt}{Q:gw->Act->B1->Prop}{A:Act->B1->Prop}{m:Q2 β}{r:β}
theorem GG.step(f:o.guard=none)(c:O=none∨HB o.op=true)(h:m=some r->∀a w,A a w->∃v w',(execOp a.eval o).run P w= .ok (.value v) w'/\W8 O P ops (Zh O P ks Q) rest (a.put o.dst v) w'):GL O P ops (o::rest) ks Q A m r:=by
 intro g a w k;obtain⟨v,w',l,n⟩:=h g a w k;show W8 O P ops _ (o::rest) a w;unfold W8;rw[Bm<|by simp[Region.wanted,f]];refine⟨c,?_⟩;rw[l];exact n
theorem GG.ad(f:o.guard=none)(c:O=none∨HB o.op=true)(h:m=some r->∀a w,A a w->∃w',(execOp a.eval o).run P w= .ok .skip w'/\W8 O P ops (Zh O P ks Q) rest (a.put o.dst undef) w'):GL O P ops (o::rest) ks Q A m r:=by
 intro g a w k;obtain⟨w',l,n⟩:=h g a w k;show W8 O P ops _ (o::rest) a w;unfold W8;rw[Bm<|by simp[Region.wanted,f]];refine⟨c,?_⟩;rw[l];exact n
theorem GG.sh(c:o.guard=none)(l:HB o.op=true)(h:m=some r->∀a w,A a w->∃v,(execOp a.eval o).run P w= .ok (.value v) w/\fX μ P ops ks Q rest (a.put o.dst v) w):GL μ P ops (o::rest) ks Q A m r:=by
 intro n a w p;obtain⟨v,g,k⟩:=h n a w p;cases μ with
 | f O=>exact GG.step (A:=λq w' =>q=a/\w' =w) (m:=some r) c (.inr l) (λ_ _ _ ⟨h,h'⟩=>by subst h h';exact⟨v,_,g,k⟩) rfl a w ⟨rfl,rfl⟩
 | s=>
  show wpS P ops w _ (o::rest) a;unfold wpS;rw[Bm<|by simp[Region.wanted,c]];exact⟨v,g,k⟩
section
variable{n:Nat}{D:Q0 TO}{S:Q0 (Nat×K2)}{F:Fz}{hs:Q0 HP}
theorem E5(c:(ops[j]?).bind (·.dst)=some t)(hs:Sl n D S a)(f:K6 S t=some (.bool b)):yielded ops a.tmps j=some b:=by
 have h:=hs.2.2 t _ f;unfold yielded;rw[c];simp only[K1];simp only[y0] at h
 cases e:a.tmps[t]? with
 | none=>rw[e] at h;simp[undef] at h
 | some v=>rw[e] at h;simp at h;subst h;rfl
theorem GG.on{g:Q2 Tmp}{c:Bool}(q:(ops[j]?).bind (·.dst)=some t)(u:K6 S t=some (.bool c))
  (k:GL μ P ops (⟨g,op,ty,pos,after,none⟩::rest) ks Q (Hd n D S F hs) m r):GL μ P ops (⟨g,op,ty,pos,after,some (j,c)⟩::rest) ks Q (Hd n D S F hs) m r:=by
 intro x a w l;have h:=k x a w l;have p:=E5 (ops:=ops) q l.1 u;cases μ with
 | f O=>
  have h:W8 O P ops (Zh O P ks Q) _ a w:=h;show W8 O P ops (Zh O P ks Q) _ a w;unfold W8 at h ⊢
  rw[Bm<|by simp[Region.wanted]] at h
  rw[Bm<|by simp[Region.wanted,p]];exact h
 | s=>
  have h:wpS P ops w _ _ a:=h;show wpS P ops w _ _ a;unfold wpS at h ⊢
  rw[Bm<|by simp[Region.wanted]] at h
  rw[Bm<|by simp[Region.wanted,p]];exact h
def gC:K2->Bool->Bool
 | .bool b,c=>b != c
 | .tuple _,_=>true
 | _,_=>false
theorem GG.off{c:Bool}(q:Nat.blt d n=true)(x:(ops[j]?).bind (·.dst)=some t)(y:K6 S t=some v)(l:gC v c=true)
  (k:GL μ P ops rest ks Q (Hd n D ((d,undef)::S) F hs) m r):GL μ P ops (⟨some d,op,ty,pos,after,some (j,c)⟩::rest) ks Q (Hd n D S F hs) m r:=by
 intro B a w g
 have p:yielded ops a.tmps j≠some c:=by
  have h:=g.1.2.2 t _ y;unfold yielded;rw[x];simp only[K1];simp only[y0] at h
  cases e:a.tmps[t]? with
  | none=>simp
  | some u=>
   rw[e] at h;simp at h;subst h
   cases u<;>simp[gC] at l ⊢
   exact l
 have:=k B _ w ⟨g.1.put q _,g.2⟩;cases μ with
 | f O=>
  show W8 O P ops (Zh O P ks Q) _ a w;unfold W8;rw[B2<|by simp[Region.wanted,p]];exact this
 | s=>
  show wpS P ops w _ _ a;unfold wpS;rw[B2<|by simp[Region.wanted,p]];exact this
theorem GG.val(h:Nat.blt d n=true)
  (c:∀a w,Hd n D S F hs a w->(execOp a.eval ⟨some d,op,ty,pos,after,none⟩).run P w= .ok (.value v) w)
  (k:GL μ P ops rest ks Q (Hd n D ((d,v)::S) F hs) m r) (f:HB op=true:=by rfl):GL μ P ops (⟨some d,op,ty,pos,after,none⟩::rest) ks Q (Hd n D S F hs) m r:=
 GG.sh rfl f λl a w g=>⟨v,c a w g,k l _ w ⟨g.1.put h v,g.2⟩⟩
section
variable{d:Nat}{ty t t' :A4}{pos:String}{after:S1 ll}{ox oy oz:IR}{v u:K2}{kd:mX}{x y:Int}
theorem GG.move(c:Nat.blt d n=true)(f:QP S ox=some v)(k:GL μ P ops rest ks Q (Hd n D ((d,v)::S) F hs) m r):GL μ P ops (⟨some d,.move ox,ty,pos,after,none⟩::rest) ks Q (Hd n D S F hs) m r:=GG.val c (λa w g=>by simp[execOp,g.1.eval f]) k
theorem GG.assign(c:Nat.blt d n=true)(f:QP S ox=some v)(k:GL μ P ops rest ks Q (Hd n D ((d,v)::S) F hs) m r):GL μ P ops (⟨some d,.assign ox,ty,pos,after,none⟩::rest) ks Q (Hd n D S F hs) m r:=GG.val c (λa w g=>by simp[execOp,g.1.eval f]) k
theorem GG.cS{f:Int->Q2 β}(c:Nat.blt d n=true)(g:QP S ox=some (.int kd x))(k:∀y,y=x->GL μ P ops rest ks Q (Hd n D ((d,.int kd y)::S) F hs) (f y) r):GL μ P ops (⟨some d,.assign ox,ty,pos,after,none⟩::rest) ks Q (Hd n D S F hs) (QQ x f) r:=GG.assign c g<|k x rfl
theorem GG.aM{f:Bool->Q2 β}(c:Nat.blt d n=true)(g:QP S ox=some (.bool b))(k:∀y,y=b->GL μ P ops rest ks Q (Hd n D ((d,.bool y)::S) F hs) (f y) r):GL μ P ops (⟨some d,.assign ox,ty,pos,after,none⟩::rest) ks Q (Hd n D S F hs) (QQ b f) r:=GG.assign c g<|k b rfl
theorem GG.rp(f:Nat.blt d n=true)(g:QP S oz=some (.bool true))(h:QP S ox=some v)(k:GL μ P ops rest ks Q (Hd n D ((d,v)::S) F hs) m r):GL μ P ops (⟨some d,.pick oz ox oy,ty,pos,after,none⟩::rest) ks Q (Hd n D S F hs) m r:=GG.val f (λa w c=>by simp[execOp,c.1.eval h,c.1.eval g,asBool]) k
theorem GG.tv(f:Nat.blt d n=true)(g:QP S oz=some (.bool false))(h:QP S oy=some v)(k:GL μ P ops rest ks Q (Hd n D ((d,v)::S) F hs) m r):GL μ P ops (⟨some d,.pick oz ox oy,ty,pos,after,none⟩::rest) ks Q (Hd n D S F hs) m r:=GG.val f (λa w c=>by simp[execOp,c.1.eval h,c.1.eval g,asBool]) k
theorem GG.add(f:Nat.blt d n=true)(g:QP S ox=some (.int kd x))(h:QP S oy=some (.int kd y))(k:GL μ P ops rest ks Q (Hd n D ((d,.int kd<|kd.wrap<|x+y)::S) F hs) m r):GL μ P ops (⟨some d,.binOp .add t ox oy t',ty,pos,after,none⟩::rest) ks Q (Hd n D S F hs) m r:=GG.val f (λa w c=>by simp[execOp,c.1.eval g,c.1.eval h,eqGuard,binOp,Op.intArith]) k
theorem GG.sub(f:Nat.blt d n=true)(g:QP S ox=some (.int kd x))(h:QP S oy=some (.int kd y))(k:GL μ P ops rest ks Q (Hd n D ((d,.int kd<|kd.wrap<|x - y)::S) F hs) m r):GL μ P ops (⟨some d,.binOp .sub t ox oy t',ty,pos,after,none⟩::rest) ks Q (Hd n D S F hs) m r:=GG.val f (λa w c=>by simp[execOp,c.1.eval g,c.1.eval h,eqGuard,binOp,Op.intArith]) k
theorem GG.mul(f:Nat.blt d n=true)(g:QP S ox=some (.int kd x))(h:QP S oy=some (.int kd y))(k:GL μ P ops rest ks Q (Hd n D ((d,.int kd<|kd.wrap<|x*y)::S) F hs) m r):GL μ P ops (⟨some d,.binOp .mul t ox oy t',ty,pos,after,none⟩::rest) ks Q (Hd n D S F hs) m r:=GG.val f (λa w c=>by simp[execOp,c.1.eval g,c.1.eval h,eqGuard,binOp,Op.intArith]) k
def DC(kd:mX)(x y:Int):Q2 Int:=if y=0 then none else some (kd.wrap<|x.tdiv y)
def jz(x y:Int):Q2 Int:=if y=0 then none else some (x.tmod y)
theorem GG.ar(f:Nat.blt d n=true)(g:y≠0)(h:QP S ox=some (.int kd x))(l:QP S oy=some (.int kd y))(k:GL μ P ops rest ks Q (Hd n D ((d,.int kd<|kd.wrap<|x.tdiv y)::S) F hs) m r):GL μ P ops (⟨some d,.binOp .quo t ox oy t',ty,pos,after,none⟩::rest) ks Q (Hd n D S F hs) m r:=GG.val f (λa w c=>by simp[execOp,c.1.eval h,c.1.eval l,eqGuard,binOp,Op.intDiv,g]) k
theorem GG.pN(f:Nat.blt d n=true)(g:y≠0)(h:QP S ox=some (.int kd x))(l:QP S oy=some (.int kd y))(k:GL μ P ops rest ks Q (Hd n D ((d,.int kd<|x.tmod y)::S) F hs) m r):GL μ P ops (⟨some d,.binOp .rem t ox oy t',ty,pos,after,none⟩::rest) ks Q (Hd n D S F hs) m r:=GG.val f (λa w c=>by simp[execOp,c.1.eval h,c.1.eval l,eqGuard,binOp,Op.intDiv,g]) k
theorem GG.quo{f:Int->Q2 β}(l:Nat.blt d n=true)(p:QP S ox=some (.int kd x))(q:QP S oy=some (.int kd y))(k:∀z,DC kd x y=some z->GL μ P ops rest ks Q (Hd n D ((d,.int kd z)::S) F hs) (f z) r):GL μ P ops (⟨some d,.binOp .quo t ox oy t',ty,pos,after,none⟩::rest) ks Q (Hd n D S F hs) ((DC kd x y).bind f) r:=
 GG.bind λz c=>by
  have g:y≠0:=λe=>by simp[DC,e] at c
  have:z=kd.wrap (x.tdiv y):=by simpa[DC,g] using c.symm
  have h:=k z c;rw[this] at h ⊢
  exact GG.ar l g p q h
theorem GG.rem{f:Int->Q2 β}(l:Nat.blt d n=true)(p:QP S ox=some (.int kd x))(q:QP S oy=some (.int kd y))(k:∀z,jz x y=some z->GL μ P ops rest ks Q (Hd n D ((d,.int kd z)::S) F hs) (f z) r):GL μ P ops (⟨some d,.binOp .rem t ox oy t',ty,pos,after,none⟩::rest) ks Q (Hd n D S F hs) ((jz x y).bind f) r:=
 GG.bind λz c=>by
  have g:y≠0:=λe=>by simp[jz,e] at c
  have:z=x.tmod y:=by simpa[jz,g] using c.symm
  have h:=k z c;rw[this] at h ⊢
  exact GG.pN l g p q h
theorem GG.eql(f:Nat.blt d n=true)(g:QP S ox=some (.int kd x))(h:QP S oy=some (.int kd y))(k:GL μ P ops rest ks Q (Hd n D ((d,.bool<|x==y)::S) F hs) m r):GL μ P ops (⟨some d,.binOp .eql t ox oy t',ty,pos,after,none⟩::rest) ks Q (Hd n D S F hs) m r:=GG.val f (λa w c=>by simp[execOp,c.1.eval g,c.1.eval h,eqGuard,binOp,Op.intCmp]) k
theorem GG.neq(f:Nat.blt d n=true)(g:QP S ox=some (.int kd x))(h:QP S oy=some (.int kd y))(k:GL μ P ops rest ks Q (Hd n D ((d,.bool<|x != y)::S) F hs) m r):GL μ P ops (⟨some d,.binOp .neq t ox oy t',ty,pos,after,none⟩::rest) ks Q (Hd n D S F hs) m r:=GG.val f (λa w c=>by simp[execOp,c.1.eval g,c.1.eval h,eqGuard,binOp,Op.intCmp]) k
theorem GG.lss(f:Nat.blt d n=true)(g:QP S ox=some (.int kd x))(h:QP S oy=some (.int kd y))(k:GL μ P ops rest ks Q (Hd n D ((d,.bool<|decide<|x < y)::S) F hs) m r):GL μ P ops (⟨some d,.binOp .lss t ox oy t',ty,pos,after,none⟩::rest) ks Q (Hd n D S F hs) m r:=GG.val f (λa w c=>by simp[execOp,c.1.eval g,c.1.eval h,eqGuard,binOp,Op.intCmp]) k
theorem GG.leq(f:Nat.blt d n=true)(g:QP S ox=some (.int kd x))(h:QP S oy=some (.int kd y))(k:GL μ P ops rest ks Q (Hd n D ((d,.bool<|decide<|x<=y)::S) F hs) m r):GL μ P ops (⟨some d,.binOp .leq t ox oy t',ty,pos,after,none⟩::rest) ks Q (Hd n D S F hs) m r:=GG.val f (λa w c=>by simp[execOp,c.1.eval g,c.1.eval h,eqGuard,binOp,Op.intCmp]) k
theorem GG.gtr(f:Nat.blt d n=true)(g:QP S ox=some (.int kd x))(h:QP S oy=some (.int kd y))(k:GL μ P ops rest ks Q (Hd n D ((d,.bool<|decide<|x > y)::S) F hs) m r):GL μ P ops (⟨some d,.binOp .gtr t ox oy t',ty,pos,after,none⟩::rest) ks Q (Hd n D S F hs) m r:=GG.val f (λa w c=>by simp[execOp,c.1.eval g,c.1.eval h,eqGuard,binOp,Op.intCmp]) k
theorem GG.geq(f:Nat.blt d n=true)(g:QP S ox=some (.int kd x))(h:QP S oy=some (.int kd y))(k:GL μ P ops rest ks Q (Hd n D ((d,.bool<|decide<|x≥y)::S) F hs) m r):GL μ P ops (⟨some d,.binOp .geq t ox oy t',ty,pos,after,none⟩::rest) ks Q (Hd n D S F hs) m r:=GG.val f (λa w c=>by simp[execOp,c.1.eval g,c.1.eval h,eqGuard,binOp,Op.intCmp]) k
def jo(kd:mX)(x y:Int):Int:=x.fdiv<|2^(min y.toNat kd.bits)
theorem GG.mN{c:mX}(g:Nat.blt d n=true)(h:¬y < 0)(l:QP S ox=some (.int kd x))(p:QP S oy=some (.int c y))(k:GL μ P ops rest ks Q (Hd n D ((d,.int kd<|jo kd x y)::S) F hs) m r):GL μ P ops (⟨some d,.binOp .shr t ox oy t',ty,pos,after,none⟩::rest) ks Q (Hd n D S F hs) m r:=GG.val g (λa w f=>by simp[execOp,f.1.eval l,f.1.eval p,eqGuard,binOp,Op.shift,h,jo]) k
theorem GG.not(c:Nat.blt d n=true)(f:QP S ox=some (.bool b))(k:GL μ P ops rest ks Q (Hd n D ((d,.bool<|!b)::S) F hs) m r):GL μ P ops (⟨some d,.unOp .not t ox,ty,pos,after,none⟩::rest) ks Q (Hd n D S F hs) m r:=GG.val c (λa w g=>by simp[execOp,g.1.eval f,Op.unary]) k
theorem GG.neg(c:Nat.blt d n=true)(f:QP S ox=some (.int kd x))(k:GL μ P ops rest ks Q (Hd n D ((d,.int kd<|kd.wrap<|0 - x)::S) F hs) m r):GL μ P ops (⟨some d,.unOp .neg t ox,ty,pos,after,none⟩::rest) ks Q (Hd n D S F hs) m r:=GG.val c (λa w g=>by simp[execOp,g.1.eval f,Op.unary,Op.intArith]) k
theorem GG.ah{ds:oE}{c:mX}(f:Nat.blt d n=true)(g:P.underlying t=some ds)(h:P.underlying t' =some (.int c))(l:QP S ox=some (.int kd x))(k:GL μ P ops rest ks Q (Hd n D ((d,.int c<|c.wrap x)::S) F hs) m r):GL μ P ops (⟨some d,.convert t t' ox,ty,pos,after,none⟩::rest) ks Q (Hd n D S F hs) m r:=
 GG.val f (λa w p=>by
  simp only[execOp,p.1.eval l,convert,wt,YA g,YA h,Result.andThen];cases ds<;>simp[Conv.intToInt]) k
theorem GG.extract{i:Nat}{vs:S1 K2}(c:Nat.blt d n=true)(f:QP S ox=some (.tuple vs))(hi:vs[i]? =some v)(k:GL μ P ops rest ks Q (Hd n D ((d,v)::S) F hs) m r):GL μ P ops (⟨some d,.extract ox i,ty,pos,after,none⟩::rest) ks Q (Hd n D S F hs) m r:=GG.val c (λa w g=>by simp[execOp,g.1.eval f,Instr.extract,hi]) k
theorem GG.nO{vs:S1 K2}{f:Field}(c:Nat.blt d n=true)(g:P.underlying t=some (.struct fs))(h:fs[i]? =some f)(l:∀w,(isAgg f.type).run P w= .ok true w)(p:∀w,(sizeOf f.type).run P w= .ok z w)
  (q:QP S ox=some (.agg cs)) (hi:cs.extract f.offset (f.offset+z)=vs) (k:GL μ P ops rest ks Q (Hd n D ((d,.agg vs)::S) F hs) m r):GL μ P ops (⟨some d,.field t ox i,ty,pos,after,none⟩::rest) ks Q (Hd n D S F hs) m r:=
 GG.val c (λa w s=>by simp[execOp,s.1.eval q,Instr.field,YA g,h,asAgg,part,l,p,hi]) k
def Uk(S:Q0 (Nat×K2)):Q0 IR->Q2 (Q0 K2)
 | []=>some []
 | o::os=>match QP S o with
  | some v=>match Uk S os with
   | some vs=>some (v::vs)
   | none=>none
  | none=>none
theorem HO(hs:Sl n D S a):∀{os:Q0 IR} {vs:Q0 K2},Uk S os=some vs->os.map a.eval=vs
 | [],vs,h=>by simp[Uk] at h;simp[h]
 | o::os,vs,h=>by
  simp only[Uk] at h
  cases e:QP S o with
  | none=>rw[e] at h;cases h
  | some v=>
   rw[e] at h
   cases c:Uk S os with
   | none=>rw[c] at h;cases h
   | some us=>
    rw[c] at h
    simp only[UV] at h
    subst h;simp[hs.eval e,HO hs c]
theorem GG.makeFunc{fn:Fn}{caps:Q0 IR}{vs:Q0 K2}(c:Nat.blt d n=true)(f:Uk S caps=some vs)(k:GL O P ops rest ks Q (Hd n D ((d,.func fn #[] vs.toArray)::S) F hs) m r):GL O P ops (⟨some d,.makeFunc fn #[] caps.toArray,ty,pos,after,none⟩::rest) ks Q (Hd n D S F hs) m r:=GG.val c (λa w g=>by simp[execOp,Instr.makeFunc,HO g.1 f]) k
def RX(S:Q0 (Nat×K2)):Q0 (Nat×IR)->Q2 (Q0<|Nat×K2)
 | []=>some []
 | (i,o)::os=>match QP S o with
  | some v=>match RX S os with
   | some vs=>some ((i,v)::vs)
   | none=>none
  | none=>none
theorem AA(hs:Sl n D S a):∀{os:Q0 (Nat×IR)} {vs:Q0 (Nat×K2)},RX S os=some vs->os.map (λp=>(p.1,a.eval p.2))=vs
 | [],vs,h=>by simp[RX] at h;simp[h]
 | (i,o)::os,vs,h=>by
  simp only[RX] at h
  cases e:QP S o with
  | none=>rw[e] at h;cases h
  | some v=>
   rw[e] at h
   cases c:RX S os with
   | none=>rw[c] at h;cases h
   | some us=>
    rw[c] at h
    simp only[UV] at h
    subst h;simp[hs.eval e,AA hs c]
def Places(P:C1)(fs:S1 Field)(c:S1 (Nat×Nat)):Prop:=∀w,(fs.mapM λf=>do pure (f.offset,<-sizeOf f.type):Sem (S1<|Nat×Nat)).run P w= .ok c w
theorem GG.build{f:S1 (Nat×Nat)}{zc:S1 K2}{z:K2}{parts:Q0 (Nat×IR)}{ps:Q0 (Nat×K2)}(g:Nat.blt d n=true)(h:P.underlying t=some (.struct fs))(l:∀w,(zeroValue t).run P w= .ok z w)(c:Places P fs f)
  (p:RX S parts=some ps) (q:z.cells=zc) (hi:Instr.fill (f[·]?) zc ps=some cs) (k:GL μ P ops rest ks Q (Hd n D ((d,.agg cs)::S) F hs) m r):GL μ P ops (⟨some d,.build t parts.toArray,ty,pos,after,none⟩::rest) ks Q (Hd n D S F hs) m r:=
 GG.val g (λa w s=>by
  have B:=AA s.1 p;subst q;simp only[execOp,Instr.build,wt,l,Result.andThen,YA h,c w];simp[B,hi]) k
theorem GG.tu{c:Nat}{zc:S1 K2}{z:K2}{parts:Q0 (Nat×IR)}{ps:Q0 (Nat×K2)}(g:Nat.blt d n=true)(h:P.underlying t=some (.array len e))(l:∀w,(zeroValue t).run P w= .ok z w)(f:∀w,(sizeOf e).run P w= .ok c w)
  (p:RX S parts=some ps) (q:z.cells=zc) (hi:Instr.fill (λi=>some (i*c,c)) zc ps=some cs) (k:GL μ P ops rest ks Q (Hd n D ((d,.agg cs)::S) F hs) m r):GL μ P ops (⟨some d,.build t parts.toArray,ty,pos,after,none⟩::rest) ks Q (Hd n D S F hs) m r:=
 GG.val g (λa w s=>by
  have B:=AA s.1 p;subst q;simp only[execOp,Instr.build,wt,l,Result.andThen,YA h,f w];simp[B,hi]) k
theorem GG.aQ(c:Nat.blt d n=true)(f:P.concrete t=true)(g:QP S ox=some v)(k:GL O P ops rest ks Q (Hd n D ((d,.iface t v)::S) F hs) m r):GL O P ops (⟨some d,.makeInterface t ox,ty,pos,after,none⟩::rest) ks Q (Hd n D S F hs) m r:=GG.val c (λa w h=>by simp[execOp,h.1.eval g,run_makeInterface w t v f]) k
theorem X6(b o z:Nat):(⟨b,o,none⟩:C3).add z=⟨b,o+z,none⟩:=by
 unfold Addr.add;split
 ·rename_i h;subst h;rfl
 ·rfl
theorem GG.fieldAddr{i b o z:Nat}{fs:S1 Field}{f:Field}(c:Nat.blt d n=true)(g:P.underlying t=some (.struct fs))(h:fs[i]? =some f)(l:∀w,(sizeOf f.type).run P w= .ok (z+1) w)
  (p:QP S ox=some (.pointer<|some ⟨b,o,none⟩)) (k:GL μ P ops rest ks Q (Hd n D ((d,.pointer<|some ⟨b,o+f.offset,none⟩)::S) F hs) m r):GL μ P ops (⟨some d,.fieldAddr t ox i,ty,pos,after,none⟩::rest) ks Q (Hd n D S F hs) m r:=
 GG.val c (λa w q=>by simp[execOp,q.1.eval p,Instr.fieldAt,YA g,h,Instr.sureAddr,fieldPlace,l,X6]) k
def VM(n:Nat)(i:Int):Q2 Nat:=if 0<=i/\i < n then some i.toNat else none
theorem ZE{k:Nat}{i:Int}(h:VM n i=some k):0<=i/\i < n/\k=i.toNat/\k < n:=by
 unfold VM at h
 split at h
 ·rename_i c;simp only[UV] at h;subst h;omega
 ·cases h
theorem GG.cJ{b o:Nat}(f:Nat.blt d n=true)(g:P.underlying t=some (.array len e))(h:∀w,(sizeOf e).run P w= .ok z w)
  (l:QP S ox=some (.pointer<|some ⟨b,o,none⟩)) (p:QP S oy=some (.int kd x)) (q:VM len x=some j) (k:GL μ P ops rest ks Q (Hd n D ((d,.pointer<|some ⟨b,o+j*z,none⟩)::S) F hs) m r):GL μ P ops (⟨some d,.indexAddr t ox oy,ty,pos,after,none⟩::rest) ks Q (Hd n D S F hs) m r:=
 GG.val f (λa w c=>by
  obtain⟨s,B,C,_⟩:=ZE q;subst C;simp[execOp,c.1.eval l,c.1.eval p,Instr.indexAt,asIntOf,YA g,Instr.sureAddr,s,B,h,X6]) k
theorem GG.aD{cap b o:Nat}(f:Nat.blt d n=true)(g:P.underlying t=some (.slice e))(h:∀w,(sizeOf e).run P w= .ok z w)
  (l:QP S ox=some (.slice (some ⟨b,o,none⟩) len cap)) (p:QP S oy=some (.int kd x)) (q:VM len x=some j) (k:GL μ P ops rest ks Q (Hd n D ((d,.pointer<|some ⟨b,o+j*z,none⟩)::S) F hs) m r):GL μ P ops (⟨some d,.indexAddr t ox oy,ty,pos,after,none⟩::rest) ks Q (Hd n D S F hs) m r:=
 GG.val f (λa w c=>by
  obtain⟨s,B,C,_⟩:=ZE q;subst C;simp[execOp,c.1.eval l,c.1.eval p,Instr.indexAt,asIntOf,YA g,s,B,h,X6]) k
theorem GG.pv(f:Nat.blt d n=true)(g:P.underlying t=some (.array len e))(h:∀w,(isAgg e).run P w= .ok false w)(l:∀w,(sizeOf e).run P w= .ok z w)
  (p:QP S ox=some (.agg cs)) (q:QP S oy=some (.int kd x)) (s:VM len x=some j) (B:cs[j*z]? =some v) (k:GL μ P ops rest ks Q (Hd n D ((d,v)::S) F hs) m r):GL μ P ops (⟨some d,.index t ox oy,ty,pos,after,none⟩::rest) ks Q (Hd n D S F hs) m r:=
 GG.val f (λa w c=>by
  obtain⟨C,E,G,_⟩:=ZE s;subst G;simp[execOp,c.1.eval p,c.1.eval q,Instr.index,asIntOf,YA g,C,E,l,part,h,B]) k
theorem GG.cq{cap:Nat}{p:Q2 C3}(c:Nat.blt d n=true)(f:T[0]? =some t)(g:P.underlying t=some (.slice e))(h:QP S ox=some (.slice p len cap))(k:GL μ P ops rest ks Q (Hd n D ((d,.int .i64 len)::S) F hs) m r):GL μ P ops (⟨some d,.call ⟨.builtin .len,#[ox],T⟩,ty,pos,after,none⟩::rest) ks Q (Hd n D S F hs) m r:=GG.val c (λa w l=>by simp[execOp,resolve,invoke,builtin,Builtin.len_,l.1.eval h,f,YA g,goInt]) k
theorem GG.min2(f:Nat.blt d n=true)(g:QP S ox=some (.int kd x))(h:QP S oy=some (.int kd y))(k:GL μ P ops rest ks Q (Hd n D ((d,.int kd<|if y < x then y else x)::S) F hs) m r):GL μ P ops (⟨some d,.call ⟨.builtin .min,#[ox,oy],T⟩,ty,pos,after,none⟩::rest) ks Q (Hd n D S F hs) m r:=GG.val f (λa w c=>by simp[execOp,resolve,invoke,builtin,Builtin.min_,Builtin.min2,c.1.eval g,c.1.eval h]) k
theorem GG.max2(f:Nat.blt d n=true)(g:QP S ox=some (.int kd x))(h:QP S oy=some (.int kd y))(k:GL μ P ops rest ks Q (Hd n D ((d,.int kd<|if x < y then y else x)::S) F hs) m r):GL μ P ops (⟨some d,.call ⟨.builtin .max,#[ox,oy],T⟩,ty,pos,after,none⟩::rest) ks Q (Hd n D S F hs) m r:=GG.val f (λa w c=>by simp[execOp,resolve,invoke,builtin,Builtin.max_,Builtin.max2,c.1.eval g,c.1.eval h]) k
end
end
end
end
section
variable{cs vs caps as:Q0 K2}{fr:Nat×Nat}{α:Type}{ρ:α->Fz->K2->Prop}{w:B1}{b o i z n j:Nat}{P:C1}{S:Q0 (Nat×K2)}{os:Q0 IR}{T:S1 A4}{f:L3}{hs:Q0 HP}{of:IR}{D:Q0 TO}{e:Q2 α}{F:Fz}{a:Act}
variable{O:Q2 Nat}{μ:Md}
theorem cell_of_heap{T:A4}(h:w.heap[b]? =some (.cells cs.toArray T fr))(o:Nat):w.cell? ⟨b,o,none⟩=cs[o]? :=by
 simp[World.cell?,h]
theorem frozen_of_heap{cs:S1 K2}{T:A4}(h:w.heap[b]? =some (.cells cs T (0,0)))(o:Nat):w.frozen? ⟨b,o,none⟩=false:=by
 simp[World.frozen?,h]
theorem Iu{T:A4}{v:K2}(h:w.heap[b]? =some (.cells cs.toArray T fr)):w.setCell ⟨b,o,none⟩ v=put w b (.cells (cs.set o v).toArray T fr):=by
 have c:=lt_of_heap h;unfold World.setCell put;congr 1;apply oP;intro k;rw[iV];by_cases d:b=k
 ·subst d;have e:w.heap[b]= .cells cs.toArray T fr:=by simpa[c] using h
  simp[c,e]
 ·simp[d]
theorem wz(w:B1)(b:Nat)(x y:Obj):put (put w b x) b y=put w b y:=by
 simp[put]
theorem vq{o:Obj}(h:w.heap[b]? =some o):put w b o=w:=by
 have c:=lt_of_heap h;unfold put;congr 1;apply oP;intro k;by_cases d:b=k
 ·subst d;have e:w.heap[b]=o:=by simpa[c] using h
  simp[c,e]
 ·simp[d]
def Ku:Q0 K2->Nat->Q0 K2->Q0 K2
 | cs,_,[]=>cs
 | cs,o,v::vs=>Ku (cs.set o v) (o+1) vs
theorem Hj:∀(cs:Q0 K2) (o:Nat) (vs:Q0 K2),(Ku cs o vs).length=cs.length
 | _,_,[]=>rfl
 | cs,o,v::vs=>by simp[Ku,Hj]
theorem XP{T:Nat}:∀{vs:Q0 K2} {cs:Q0 K2} {i:Nat} {w:B1},w.heap[b]? =some (.cells cs.toArray T (0,0))->o+i+vs.length<=cs.length->vs.all Value.oneCell' =true->
  (storeCells ⟨b,o,none⟩ vs i).run P w= .ok () (put w b<|.cells (Ku cs (o+i) vs).toArray T (0,0))
 | [],cs,i,w,h,_,_=>by simp[storeCells,Ku,vq h]
 | v::vs,cs,i,w,h,d,c=>by
  simp only[s8,BY] at c
  simp only[kn] at d
  have g:w.cell? ⟨b,o+i,none⟩=some cs[o+i]:=by rw[cell_of_heap h];simp
  simp only[storeCells,wt,X6,run_store P w _ v .plain c.1,g,frozen_of_heap h,H1,By,Result.andThen,Iu h];rw[XP (cs:=cs.set (o+i) v) (AY h) zg c.2,wz];simp[Ku,Nat.add_assoc]
theorem Ha{T:Nat}(h:w.heap[b]? =some (.cells cs.toArray T fr))(c:(cs.drop o).take z=vs)(d:vs.length=z):(loadCells ⟨b,o,none⟩ z).run P w= .ok vs.toArray w:=by
 subst d;refine run_loadCells_list w ⟨b,o,none⟩ vs λj v e=> ?_;rw[X6,cell_of_heap h];have g:=e;rw[<-c] at e
 rw[yb,ml] at e
 split at e
 ·exact e
 ·cases e
section
variable{β:Type}{P:C1}{ops:S1 Rw}{rest:Q0 Rw}{ks:Q0 Kt}{Q:gw->Act->B1->Prop}{m:Q2 β}{r:β}
variable{n:Nat}{D:Q0 TO}{S:Q0 (Nat×K2)}{F:Fz}{hs:Q0 HP}
variable{d:Nat}{ty t t' :A4}{pos:String}{after:S1 ll}{ox oy oz:IR}{v u:K2}{kd:mX}{x y:Int}
theorem GG.alloc{z:K2}{cs:Q0 K2}(g:Nat.blt d n=true)(h:∀w,(zeroValue t).run P w= .ok z w)(l:z.cells=cs.toArray)
  (k:∀b,GL O P ops rest ks Q (Hd n D ((d,.pointer<|some ⟨b,0,none⟩)::S) F<|pt b (.cells cs.toArray t)::hs) m r):GL O P ops (⟨some d,.alloc t,ty,pos,after,none⟩::rest) ks Q (Hd n D S F hs) m r:=
 GG.step rfl (.inr rfl) λp a w c=>by
  refine⟨.pointer<|some ⟨w.heap.size,0,none⟩,w.alloc<|.cells cs.toArray t,?_,k w.heap.size p _ _ ⟨c.1.put g _,c.2.alloc _⟩⟩;simp[execOp,Instr.alloc,h,newVar,newRow,l]
theorem GG.box(g:Nat.blt d n=true)(h:QP S ox=some v)(l:v.cells=cs.toArray)
  (k:∀b,GL O P ops rest ks Q (Hd n D ((d,.pointer<|some ⟨b,0,none⟩)::S) F<|pt b (.cells cs.toArray t)::hs) m r):GL O P ops (⟨some d,.box t ox,ty,pos,after,none⟩::rest) ks Q (Hd n D S F hs) m r:=
 GG.step rfl (.inr rfl) λp a w c=>by
  refine⟨.pointer<|some ⟨w.heap.size,0,none⟩,w.alloc<|.cells cs.toArray t,?_,k w.heap.size p _ _ ⟨c.1.put g _,c.2.alloc _⟩⟩;simp[execOp,Instr.box,c.1.eval h,newVar,newRow,l]
theorem GG.cY(h:Nat.blt d n=true)(l:QP S ox=some v)(p:v.cells=cs.toArray)
  (k:∀b c,F<=c->c.mem b=some (.cells cs.toArray t)->GL O P ops rest ks Q (Hd n D ((d,.pointer<|some ⟨b,0,none⟩)::S) c hs) m r):GL O P ops (⟨some d,.box t ox,ty,pos,after,none⟩::rest) ks Q (Hd n D S F hs) m r:=
 GG.step rfl (.inr rfl) λq a w g=>by
  obtain⟨s,A⟩:=g.2.tA<|.cells cs.toArray t;refine⟨.pointer<|some ⟨w.heap.size,0,none⟩,w.alloc<|.cells cs.toArray t,?_,k w.heap.size _ s (Fz.cx ..) q _ _ ⟨g.1.put h _,A⟩⟩;simp[execOp,Instr.box,g.1.eval l,newVar,newRow,p]
theorem D6{t:Nat}(c:∀w,(isAgg t).run P w= .ok false w)(h:w.cell? ⟨b,o,none⟩=some v):(Instr.loadAt t<|.pointer<|some ⟨b,o,none⟩).run P w= .ok v w:=by
 simp[Instr.loadAt,Instr.sureAddr,loadVar,c,h]
theorem Su{t T:Nat}(c:∀w,(isAgg t).run P w= .ok true w)(g:∀w,(sizeOf t).run P w= .ok z w)(h:w.heap[b]? =some (.cells cs.toArray T fr))(k:(cs.drop o).take z=vs)(l:vs.length=z):(Instr.loadAt t<|.pointer<|some ⟨b,o,none⟩).run P w= .ok (.agg vs.toArray) w:=by
 simp[Instr.loadAt,Instr.sureAddr,loadVar,c,g,Ha h k l]
theorem GG.U{T:Nat}(g:Nat.blt d n=true)(h:∀w,(isAgg t).run P w= .ok false w)(l:QP S ox=some (.pointer<|some ⟨b,o,none⟩))(p:F.mem b=some (.cells cs.toArray T fr))(q:cs[o]? =some v)
  (k:GL μ P ops rest ks Q (Hd n D ((d,v)::S) F hs) m r):GL μ P ops (⟨some d,.load t ox,ty,pos,after,none⟩::rest) ks Q (Hd n D S F hs) m r:=
 GG.val g (λa w c=>by simp[execOp,c.1.eval l,D6 h (by rw[cell_of_heap<|c.2.frozen p];exact q)]) k
theorem GG.cW{T:Nat}(g:Nat.blt d n=true)(h:∀w,(isAgg t).run P w= .ok true w)(l:∀w,(sizeOf t).run P w= .ok z w)(p:QP S ox=some (.pointer<|some ⟨b,o,none⟩))(q:F.mem b=some (.cells cs.toArray T fr))(s:(cs.drop o).take z=vs)(A:vs.length=z)
  (k:GL μ P ops rest ks Q (Hd n D ((d,.agg vs.toArray)::S) F hs) m r):GL μ P ops (⟨some d,.load t ox,ty,pos,after,none⟩::rest) ks Q (Hd n D S F hs) m r:=
 GG.val g (λa w c=>by simp[execOp,c.1.eval p,Su h l (c.2.frozen q) s A]) k
theorem GG.cF{T:Nat}(g:Nat.blt d n=true)(h:∀w,(isAgg t).run P w= .ok false w)(l:QP S ox=some (.pointer<|some ⟨b,o,none⟩))(p:hs[i]? =some (pt b<|.cells cs.toArray T fr))(q:cs[o]? =some v)
  (k:GL μ P ops rest ks Q (Hd n D ((d,v)::S) F hs) m r):GL μ P ops (⟨some d,.load t ox,ty,pos,after,none⟩::rest) ks Q (Hd n D S F hs) m r:=
 GG.val g (λa w c=>by simp[execOp,c.1.eval l,D6 h (by rw[cell_of_heap<|SH.cp p c.2];exact q)]) k
theorem GG.cT{T:Nat}(g:Nat.blt d n=true)(h:∀w,(isAgg t).run P w= .ok true w)(l:∀w,(sizeOf t).run P w= .ok z w)(p:QP S ox=some (.pointer<|some ⟨b,o,none⟩))(q:hs[i]? =some (pt b<|.cells cs.toArray T fr))(s:(cs.drop o).take z=vs)(A:vs.length=z)
  (k:GL μ P ops rest ks Q (Hd n D ((d,.agg vs.toArray)::S) F hs) m r):GL μ P ops (⟨some d,.load t ox,ty,pos,after,none⟩::rest) ks Q (Hd n D S F hs) m r:=
 GG.val g (λa w c=>by simp[execOp,c.1.eval p,Su h l (SH.cp q c.2) s A]) k
theorem GG.store{T:Nat}{cs':Q0 K2}(q:∀w,(sizeOf t).run P w= .ok z w)(s:QP S ox=some (.pointer<|some ⟨b,o,none⟩))(A:QP S oy=some v)(B:v.cells=vs.toArray)(C:vs.length=z)
  (l:hs[i]? =some (pt b<|.cells cs.toArray T (0,0))) (E:o+vs.length<=cs.length) (G:vs.all Value.oneCell' =true) (g:Ku cs o vs=cs')
  (k:GL O P ops rest ks Q (Hd n D S F<|hs.set i<|pt b<|.cells cs'.toArray T (0,0)) m r):GL O P ops (⟨none,.store t ox oy,ty,pos,after,none⟩::rest) ks Q (Hd n D S F hs) m r:=
 GG.ad rfl (.inr rfl) λH a w c=>by
  subst g;have h:=SH.cp l c.2;refine⟨put w b<|.cells (Ku cs o vs).toArray T (0,0),?_,k H _ _ ⟨c.1.c6 _,SH.putAt l c.2 _⟩⟩;have p:=XP (P:=P) (o:=o) (i:=0) h (by simpa using E) G;simp only[oW] at p
  simp only[execOp,Instr.storeAt,c.1.eval s,c.1.eval A,Instr.sureAddr,storeVar,wt,q,Result.andThen,B];simp[C,p]
theorem Wx(hs:Sl n D S a)(c:∀args w,(callFunc f args).run P w= .ok (.enter f args) w)
  (h:QP S of=some (.func (.func f) #[] caps.toArray)) (k:Uk S os=some vs) {g:Q2 Tmp}:(execOp a.eval ⟨g,.call ⟨.value of,os.toArray,T⟩,ty,pos,after,none⟩).run P w= .ok (.enter f (vs++caps).toArray) w:=by
 have e:=HO hs k;simp[execOp,resolve,Deferred.ofValue,hs.eval h,e,invoke,c]
theorem GG.su{A:Act->B1->Prop}{o:Rw}{args:S1 K2}(g:o.guard=none)(c:O=none∨HB o.op=true)
  (h:m=some r->∀a w,A a w->(execOp a.eval o).run P w= .ok (.enter f args) w/\Calls P f args w (λe w' =>∃v,e= .returned v/\W8 O P ops (Zh O P ks Q) rest (a.put o.dst v) w')):GL O P ops (o::rest) ks Q A m r:=by
 intro k a w l;obtain⟨p,q⟩:=h k a w l;show W8 O P ops _ (o::rest) a w;unfold W8;rw[Bm<|by simp[Region.wanted,g]];refine⟨c,?_⟩;rw[p];refine⟨λe=>(by rw[BN] at e;cases e),Eo.2<|q.mono ?_⟩;rintro e w' ⟨v,rfl,h⟩;exact h
theorem GG.cP{α:Type}{f:L3}{caps as vs:Q0 K2}{of:IR}{os:Q0 IR}{T:S1 A4}{e:Q2 α}{ρ:α->Fz->K2->Prop}{g:α->Q2 β}(q:Nat.blt d n=true)
  (c:∀args w,(callFunc f args).run P w= .ok (.enter f args) w) (s:QP S of=some (.func (.func f) #[] caps.toArray)) (A:Uk S os=some vs) (has:vs++caps=as)
  (B:Z9 P f as.toArray F e ρ) (k:∀x h v,e=some x->F<=h->ρ x h v->GL O P ops rest ks Q (Hd n D ((d,v)::S) h hs) (g x) r):GL O P ops (⟨some d,.call ⟨.value of,os.toArray,T⟩,ty,pos,after,none⟩::rest) ks Q (Hd n D S F hs) (e.bind g) r:=
 GG.su rfl (.inr rfl) λl a w p=>by
  subst has;refine⟨Wx p.1 c s A,?_⟩;cases he:e with
  | none=>rw[he] at l;cases l
  | some y=>
   rw[he] at l
   refine(B y he w _ p.2).mono ?_;rintro _ w' ⟨h,v,le,rfl,hρ,C⟩;exact⟨v,rfl,k y h v he le hρ l _ _ ⟨p.1.put q _,C⟩⟩
theorem GG.cQ{α:Type}{f:L3}{caps as vs:Q0 K2}{of:IR}{os:Q0 IR}{T:S1 A4}{e:α}{ρ:α->Fz->K2->Prop}(l:Nat.blt d n=true)
  (c:∀args w,(callFunc f args).run P w= .ok (.enter f args) w) (p:QP S of=some (.func (.func f) #[] caps.toArray)) (q:Uk S os=some vs) (has:vs++caps=as)
  (s:Z9 P f as.toArray F (some e) ρ) (k:∀g v,F<=g->ρ e g v->GL O P ops rest ks Q (Hd n D ((d,v)::S) g hs) m r):GL O P ops (⟨some d,.call ⟨.value of,os.toArray,T⟩,ty,pos,after,none⟩::rest) ks Q (Hd n D S F hs) m r:=
 GG.su rfl (.inr rfl) λA a w h=>by
  subst has;refine⟨Wx h.1 c p q,?_⟩;refine(s e rfl w _ h.2).mono ?_;rintro _ w' ⟨g,v,le,rfl,hρ,B⟩;exact⟨v,rfl,k g v le hρ A _ _ ⟨h.1.put l _,B⟩⟩
theorem GG.sN{y:α}(he:e=some y)(h:Nat.blt d n=true)
  (c:∀args w,(callFunc f args).run P w= .ok (.enter f args) w) (l:QP S of=some (.func (.func f) #[] caps.toArray)) (p:Uk S os=some vs) (has:vs++caps=as)
  (q:Z9 P f as.toArray F e ρ) (k:∀g v,F<=g->ρ y g v->GL O P ops rest ks Q (Hd n D ((d,v)::S) g hs) m r):GL O P ops (⟨some d,.call ⟨.value of,os.toArray,T⟩,ty,pos,after,none⟩::rest) ks Q (Hd n D S F hs) m r:=
 GG.cQ h c l p has (he▸q) k
theorem GG.sr{α:Type}{f:L3}{caps as vs:Q0 K2}{of:IR}{os:Q0 IR}{T:S1 A4}{e:Q2 α}{ρ:α->Fz->K2->Prop}{H:HP}{H' :α->Fz->K2->HP}{g:α->Q2 β}{i:Nat}(q:Nat.blt d n=true)
  (c:∀args w,(callFunc f args).run P w= .ok (.enter f args) w) (s:QP S of=some (.func (.func f) #[] caps.toArray)) (A:Uk S os=some vs) (has:vs++caps=as) (hi:hs[i]? =some H)
  (B:CT P f as.toArray F H e ρ H') (k:∀x h v,e=some x->F<=h->ρ x h v->GL O P ops rest ks Q (Hd n D ((d,v)::S) h<|hs.set i<|H' x h v) (g x) r):GL O P ops (⟨some d,.call ⟨.value of,os.toArray,T⟩,ty,pos,after,none⟩::rest) ks Q (Hd n D S F hs) (e.bind g) r:=
 GG.su rfl (.inr rfl) λl a w p=>by
  subst has;refine⟨Wx p.1 c s A,?_⟩;cases he:e with
  | none=>rw[he] at l;cases l
  | some y=>
   rw[he] at l
   refine(B y he w _<|p.2.pull hi).mono ?_;rintro _ w' ⟨h,v,le,rfl,hρ,C⟩;exact⟨v,rfl,k y h v he le hρ l _ _ ⟨p.1.put q _,SH.push hi C⟩⟩
end
inductive Sm(P:Program)(S:List (Nat×Value))(F:Fz)(hs:List HP):List ResultVar->List Value->Prop where
 | nil:Sm P S F hs [] []
 | tmp {t:Nat} {v:Value} {rs:List ResultVar} {vs:List Value} (h:K6 S t=some v) (k:Sm P S F hs rs vs):Sm P S F hs (.tmp t::rs) (v::vs)
 | cell {t i b T:Nat} {ty:TypeId} {v:Value} {cs:List Value} {fr:Nat×Nat} {rs:List ResultVar} {vs:List Value} (h:K6 S t=some (.pointer<|some ⟨b,0,none⟩)) (hA:∀w,(isAgg ty).run P w= .ok false w) (hb:hs[i]? =some (pt b<|.cells cs.toArray T fr)) (hv:cs[0]? =some v) (k:Sm P S F hs rs vs):Sm P S F hs (.cell t ty::rs) (v::vs)
 | agg {t i b T z:Nat} {ty:TypeId} {cs vs' :List Value} {fr:Nat×Nat} {rs:List ResultVar} {vs:List Value} (h:K6 S t=some (.pointer<|some ⟨b,0,none⟩)) (hA:∀w,(isAgg ty).run P w= .ok true w) (hz:∀w,(sizeOf ty).run P w= .ok z w) (hb:hs[i]? =some (pt b<|.cells cs.toArray T fr)) (hv:cs.take z=vs') (hl:vs'.length=z) (k:Sm P S F hs rs vs):Sm P S F hs (.cell t ty::rs) (.agg vs'.toArray::vs)
def AL:Q0 K2->K2
 | [v]=>v
 | vs=>.tuple vs.toArray
def Nn(c:S1 K2):ResultVar->Sem K2
 | .tmp t=>pure (c.getD t undef)
 | .cell a t=>do loadVar t (<-asAddr (c.getD a undef))
theorem DP(c:Hd n D S F hs a w):∀{rs:Q0 ResultVar} {vs:Q0 K2},Sm P S F hs rs vs->(rs.mapM<|Nn a.tmps).run P w= .ok vs w
 | _,_,.nil=>by simp
 | _,_,.tmp h k=>by
  have e:=c.1.2.2 _ _ h;simp[Nn,e,DP c k]
 | _,_,.cell h g l m k=>by
  have e:=c.1.2.2 _ _ h;have d:=D6 (P:=P) (w:=w) g (by rw[cell_of_heap<|SH.cp l c.2];exact m);simp only[Instr.loadAt,Instr.sureAddr,wt,lM,Result.andThen] at d
  simp[Nn,e,DP c k,asAddr,d]
 | _,_,.agg h g q l m p k=>by
  have e:=c.1.2.2 _ _ h;have d:=Su (P:=P) (w:=w) (o:=0) g q (SH.cp l c.2) (by simpa using m) p;simp only[Instr.loadAt,Instr.sureAddr,wt,lM,Result.andThen] at d
  simp[Nn,e,DP c k,asAddr,d]
theorem Jh{fn:lg}{rs:Q0 ResultVar}(c:fn.results=rs.toArray)(d:Hd n D S F hs a w)(h:Sm P S F hs rs vs):(results fn a.tmps).run P w= .ok (AL vs) w:=by
 have g:=DP d h
 have e:(results fn a.tmps)=(do let vs <-fn.results.mapM (Nn a.tmps);pure (if h:vs.size=1 then vs[0] else .tuple vs)):=by
  unfold results;congr 1
 rw[e,c];simp only[List.mapM_toArray,wt,Sem.run_map,g,Result.andThen,lM];congr 1
 match vs with
 | []=>rfl
 | [v]=>rfl
 | v::u::vs=>simp[AL]
section
variable{β:Type}{P:C1}{n:Nat}{S:Q0 (Nat×K2)}{F F' :Fz}{hs:Q0 HP}{ks:Q0 Kt}{fn:lg}{R:HP}{ρ:β->Fz->K2->Prop}{x r:β}{rs:Q0 ResultVar}{vs:Q0 K2}{i:Nat}
theorem XB(d:fn.results=rs.toArray)(h:Sm P S F' hs rs vs)(hi:hs[i]? =some R)(le:F<=F')(hρ:ρ x F' (AL vs)):some x=some r->∀a w,Hd n [] S F' hs a w->Oy P fn F R ρ r .ret a w:=by
 intro e a w c;simp only[UV] at e
 subst e;exact⟨c.1.2.1,_,Jh d c h,F',_,le,rfl,hρ,c.2.only hi⟩
theorem GG.cK(c:fn.results=rs.toArray)(h:Sm P S F' hs rs vs)(hi:hs[i]? =some R)(le:F<=F')(hρ:ρ x F' (AL vs)):GC O P .ret ks (Oy P fn F R ρ r) (Hd n [] S F' hs) (some x) r:=GG.cz<|XB c h hi le hρ
theorem SH.tw{p q:HP}(hi:hs[i]? =some p)(k:(hs.eraseIdx i)[j]? =some q)(h:SH w F (Qg hs)):SH w F (star p q):=
 (h.pull hi).mono λ_ l=>by
  obtain⟨m,A,d,s,t,u,v⟩:=l;obtain⟨y,_,_,g,_,c,_⟩:=Vc k v;exact⟨m,y,d.sub (Mem.sub.refl _) g,s,g.trans t,u,c⟩
theorem I2{H' :β->Fz->K2->HP}(d:fn.results=rs.toArray)(h:Sm P S F' hs rs vs)(hi:hs[i]? =some (H' x F'<|AL vs))(g:(hs.eraseIdx i)[j]? =some R)(le:F<=F')(hρ:ρ x F' (AL vs)):some x=some r->∀a w,Hd n [] S F' hs a w->Oz P fn F R ρ H' r .ret a w:=by
 intro e a w c;simp only[UV] at e
 subst e;exact⟨c.1.2.1,_,Jh d c h,F',_,le,rfl,hρ,c.2.tw hi g⟩
theorem GG.pa{H' :β->Fz->K2->HP}(c:fn.results=rs.toArray)(h:Sm P S F' hs rs vs)(hi:hs[i]? =some (H' x F'<|AL vs))(d:(hs.eraseIdx i)[j]? =some R)(le:F<=F')(hρ:ρ x F' (AL vs)):GC O P .ret ks (Oz P fn F R ρ H' r) (Hd n [] S F' hs) (some x) r:=GG.cz<|I2 c h hi d le hρ
theorem GG.mG{H' :β->Fz->K2->HP}(c:fn.results=rs.toArray)(h:Sm P S F' hs rs vs)(hi:hs[i]? =some (H' x F'<|AL vs))(d:(hs.eraseIdx i)[j]? =some R)(le:F<=F')(hρ:ρ x F' (AL vs)):GE O P [] (Oz P fn F R ρ H' r) (Hd n [] S F' hs) (some x) r:=GG.cN<|I2 c h hi d le hρ
end
end
section
variable{Q:gw->Act->B1->Prop}{S:Q0 (Nat×K2)}{b:Bool}{after:S1 ll}{ops:S1 Rw}{v:K2}{d:Nat}{pos:String}{P:C1}{ty:A4}{w:B1}{a:Act}
variable{O:Q2 Nat}{μ:Md}
section
variable{β:Type}{P:C1}{ops:S1 Rw}{rest l:Q0 Rw}{ks:Q0 Kt}{Q:gw->Act->B1->Prop}{A:Act->B1->Prop}{m:Q2 β}{r:β}
variable{n:Nat}{D:Q0 TO}{S S0:Q0 (Nat×K2)}{F F' :Fz}{hs:Q0 HP}
theorem Ak{Q1 f:gw->Act->B1->Prop}(l2:Q0 Rw)(g:∀a w,Q1 .normal a w->W8 O P ops f l2 a w)(i:∀e a w,e≠.normal->Q1 e a w->f e a w):∀(c:Q0 Rw) (a:Act) (w:B1),W8 O P ops Q1 c a w->W8 O P ops f (c++l2) a w
 | [],a,w,h=>g a w h
 | o::c,a,w,h=>by
  simp only[s9];unfold W8 at h ⊢
  split
  ·rename_i j;rw[Bm j] at h
   exact R0 (λ_ _ he=>Ak l2 g i c _ _ he) i h
  ·rename_i j;rw[B2 j] at h
   exact Ak l2 g i c _ _ h
theorem Aj{g i:Act->Prop}(l2:Q0 Rw)(e:∀a,g a->wpS P ops w i l2 a):∀(c:Q0 Rw) (a:Act),wpS P ops w g c a->wpS P ops w i (c++l2) a
 | [],a,h=>e a h
 | o::c,a,h=>by
  simp only[s9];unfold wpS at h ⊢
  split
  ·rename_i f;rw[Bm f] at h
   obtain⟨v,j,k⟩:=h;exact⟨v,j,Aj l2 e c _ k⟩
  ·rename_i f;rw[B2 f] at h
   exact Aj l2 e c _ h
theorem NF{Q1:gw->Act->B1->Prop}(l2:Q0 Rw)(g:∀a w,Q1 .normal a w->fX μ P ops ks Q l2 a w)(i:∀e a w,e≠.normal->¬Q1 e a w)(c:Q0 Rw)(a:Act)(w:B1)(h:fX μ P ops [] Q1 c a w):fX μ P ops ks Q (c++l2) a w:=by
 cases μ with
 | f O=>exact Ak l2 g (λe a w n q=>absurd q<|i e a w n) c a w h
 | s=>exact Aj l2 (λa h=>g a w h) c a h
def Vs(n:Nat)(D:Q0 TO)(d:Nat)(v:K2)(S:Q0 (Nat×K2))(F:Fz)(hs:Q0 HP):gw->Act->B1->Prop:=λe a w=>e= .normal/\∃F',F<=F'/\Hd n D ((d,v)::S) F' hs a w
theorem RC{S' :Q0 (Nat×K2)}(j:Nat)(c:S'.drop j=S)(e:fresh S (S'.take j)=true):Sub S S' :=λi v h=>by
 have:=DU e h;rw[<-c,eN] at this
 exact this
theorem E6(h:Q .normal a w):fX μ P ops [] Q [] a w:=by cases μ<;>exact h
theorem GG.fin{S' :Q0 (Nat×K2)}{x:β}(j:Nat)(e:K6 S' d=some v)(f:S'.drop j=S)(g:fresh S (S'.take j)=true)(le:F<=F'):GL μ P ops [] [] (Vs n D d v S F hs) (Hd n D S' F' hs) (some x) x:=λ_ _ _ c=>E6 ⟨rfl,F',le,c.1.sub<|Sub.cons e<|RC j f g,c.2⟩
theorem GG.mT{α:Type}{g:Q2 α}{f:α->Q2 β}(k d:Nat)(V:α->K2)(h:∀z,GL μ P ops (l.take k) [] (Vs n D d (V z) S F hs) (Hd n D S F hs) g z)
  (next:∀z F',g=some z->F<=F'->GL μ P ops (l.drop k) ks Q (Hd n D ((d,V z)::S) F' hs) (f z) r):GL μ P ops l ks Q (Hd n D S F hs) (g.bind f) r:=by
 intro i a w q;cases j:g with
 | none=>rw[j] at i;cases i
 | some z=>
  rw[j] at i
  have s:=h z j a w q
  have:=NF (P:=P) (ops:=ops) (ks:=ks) (Q:=Q) (l.drop k) (Q1:=Vs n D d (V z) S F hs) (λp w' c=>by
   obtain⟨_,F',le,c⟩:=c;exact next z F' j le i p w' c) (λe p w' o c=>o c.1) (l.take k) a w s
  rwa[eN] at this
theorem GG.np(k d:Nat)(h:GL μ P ops (l.take k) [] (Vs n D d v S F hs) (Hd n D S F hs) (some ()) ())
  (next:∀F',F<=F'->GL μ P ops (l.drop k) ks Q (Hd n D ((d,v)::S) F' hs) m r):GL μ P ops l ks Q (Hd n D S F hs) m r:=by
 intro i a w j;have o:=h rfl a w j
 have:=NF (P:=P) (ops:=ops) (ks:=ks) (Q:=Q) (l.drop k) (Q1:=Vs n D d v S F hs) (λg w' c=>by
  obtain⟨_,F',le,c⟩:=c;exact next F' le i g w' c) (λe g w' f c=>f c.1) (l.take k) a w o
 rwa[eN] at this
theorem GG.rJ{b':Bool}(k d:Nat)
  (e:b=true->GL μ P ops (l.take k) [] (Vs n D d (.bool b') S F hs) (Hd n D S F hs) (some ()) ())
  (f:b=false->GL μ P ops (l.take k) [] (Vs n D d (.bool false) S F hs) (Hd n D S F hs) (some ()) ())
  (next:∀F',F<=F'->GL μ P ops (l.drop k) ks Q (Hd n D ((d,.bool<|b&&b')::S) F' hs) m r):GL μ P ops l ks Q (Hd n D S F hs) m r:=
 GG.np k d (by cases c:b with | true=>exact e c | false=>exact f c) next
theorem GG.nZ{b':Bool}(k d:Nat)
  (e:b=false->GL μ P ops (l.take k) [] (Vs n D d (.bool b') S F hs) (Hd n D S F hs) (some ()) ())
  (f:b=true->GL μ P ops (l.take k) [] (Vs n D d (.bool true) S F hs) (Hd n D S F hs) (some ()) ())
  (next:∀F',F<=F'->GL μ P ops (l.drop k) ks Q (Hd n D ((d,.bool<|b||b')::S) F' hs) m r):GL μ P ops l ks Q (Hd n D S F hs) m r:=
 GG.np k d (by cases c:b with | true=>exact f c | false=>exact e c) next
theorem GG.andM{c:Q2 Bool}{f:Bool->Q2 β}(k d:Nat)
  (h:b=true->∀z,GL μ P ops (l.take k) [] (Vs n D d (.bool z) S F hs) (Hd n D S F hs) c z)
  (i:b=false->GL μ P ops (l.take k) [] (Vs n D d (.bool false) S F hs) (Hd n D S F hs) (some ()) ())
  (next:∀z F',F<=F'->GL μ P ops (l.drop k) ks Q (Hd n D ((d,.bool z)::S) F' hs) (f z) r):GL μ P ops l ks Q (Hd n D S F hs) ((if b then c else some false).bind f) r:=
 GG.mT k d (λz=>.bool z) (by
  intro z;cases g:b with
  | true=>rw[Bm rfl];exact h g z
  | false=>rw[B2 zh];intro e;simp only[UV] at e;subst e;exact i g rfl) (λz F' _ le=>next z F' le)
theorem GG.orM{c:Q2 Bool}{f:Bool->Q2 β}(k d:Nat)
  (h:b=false->∀z,GL μ P ops (l.take k) [] (Vs n D d (.bool z) S F hs) (Hd n D S F hs) c z)
  (i:b=true->GL μ P ops (l.take k) [] (Vs n D d (.bool true) S F hs) (Hd n D S F hs) (some ()) ())
  (next:∀z F',F<=F'->GL μ P ops (l.drop k) ks Q (Hd n D ((d,.bool z)::S) F' hs) (f z) r):GL μ P ops l ks Q (Hd n D S F hs) ((if b then some true else c).bind f) r:=
 GG.mT k d (λz=>.bool z) (by
  intro z;cases g:b with
  | true=>rw[Bm rfl];intro e;simp only[UV] at e;subst e;exact i g rfl
  | false=>rw[B2 zh];exact h g z) (λz F' _ le=>next z F' le)
theorem GG.cG{e:Q2 Tmp}{op:Op}{j t:Nat}{c:Bool}(f:b=c)(g:(ops[j]?).bind (·.dst)=some t)(h:K6 S t=some (.bool b))
  (k:GL μ P ops (⟨e,op,ty,pos,after,none⟩::rest) ks Q (Hd n D S F hs) m r):GL μ P ops (⟨e,op,ty,pos,after,some (j,c)⟩::rest) ks Q (Hd n D S F hs) m r:=
 GG.on g (f▸h) k
theorem GG.cf{op:Op}{j t:Nat}{c:Bool}(e:b= !c)(f:Nat.blt d n=true)(g:(ops[j]?).bind (·.dst)=some t)(h:K6 S t=some (.bool b))
  (k:GL μ P ops rest ks Q (Hd n D ((d,undef)::S) F hs) m r):GL μ P ops (⟨some d,op,ty,pos,after,some (j,c)⟩::rest) ks Q (Hd n D S F hs) m r:=
 GG.off f g h (by subst e;cases c<;>rfl) k
theorem GG.cH{c f e:IR}(g:b=true)(h:Nat.blt d n=true)(i:QP S e=some (.bool b))(j:QP S c=some v)(k:GL μ P ops rest ks Q (Hd n D ((d,v)::S) F hs) m r):GL μ P ops (⟨some d,.pick e c f,ty,pos,after,none⟩::rest) ks Q (Hd n D S F hs) m r:=GG.rp h (g▸i) j k
theorem GG.cc{f c e:IR}(g:b=false)(h:Nat.blt d n=true)(i:QP S e=some (.bool b))(j:QP S c=some v)(k:GL μ P ops rest ks Q (Hd n D ((d,v)::S) F hs) m r):GL μ P ops (⟨some d,.pick e f c,ty,pos,after,none⟩::rest) ks Q (Hd n D S F hs) m r:=GG.tv h (g▸i) j k
end
def KS(L:Nat->Bool)(i:Nat):Nat->Bool:=λj=>if j=i then true else L j
theorem ji(Inv:(Nat->Bool)->Act->B1->Prop)
  (z:∀i o,ops[i]? =some o->∀e∈o.after,Region.binds .any e=true->e.on < i)
  (s:∀L a w i o,ops[i]? =some o->L i=false->(∀e∈o.after,Region.binds .any e=true->L e.on=true)->Inv L a w->
   if Region.wanted o (yielded ops a.tmps) then yC O P o a w (Inv<|KS L i) Q else Inv (KS L i) (a.put o.dst undef) w)
  (p:∀L a w,(∀i,i < ops.size->L i=true)->Inv L a w->Q .normal a w):∀(c:Nat) (listed:S1 Bool) (a:Act) (w:B1),listed.size=ops.size->(List.range ops.size).countP (λi=> !listed.getD i false)<=c->Inv (λi=>listed.getD i false) a w->wpAnyIn (Rm O) 0 P .any ops Q c listed a w:=by
 have l:∀(listed:S1 Bool),listed.size=ops.size->Region.ready .any ops listed=[]->∀i,i < ops.size->listed.getD i false=true:=by
  intro listed hs E i
  induction i using Nat.strongRecOn with
  | _ i F=>
   intro hi;cases t:listed.getD i false with
   | true=>rfl
   | false=>
    have q:i∈Region.ready .any ops listed:=by
     unfold Region.ready;simp only[s6,mj];refine⟨hi,?_⟩
     have K:listed.getD i true=false:=by
      simp only[y0] at t ⊢
      have:i < listed.size:=by omega
      simp[this] at t ⊢;exact t
     have y:ops[i]? =some ops[i]:=by simp[hi]
     rw[K,y];simp only[u0,E4,eC,rW,oi,rm,r8];intro e he;cases G:Region.binds .any e with
     | false=>exact .inl rfl
     | true=>
      have m:=z i _ y e he G;exact .inr<|F e.on m qz
    rw[E] at q;cases q
 intro c
 induction c with
 | zero=>
  intro listed a w hs I C
  have r:∀i,i < ops.size->listed.getD i false=true:=λi hi=>by
   have:=List.countP_eq_zero.1 (Nat.le_zero.1 I) i<|mj.2 hi;simpa using this
  refine⟨?_,p _ a w r C⟩;unfold Region.ready;apply eK.2;intro i hi;have h:=r i<|mj.1 hi;have A:i < listed.size:=by rw[hs];exact mj.1 hi
  simp only[y0] at h
  simp[A] at h
  simp[A,h]
 | succ c F=>
  intro listed a w hs I C;refine⟨λE=>p _ a w (l listed hs E) C,λi hi=> ?_⟩;unfold Region.ready at hi
  simp only[s6,mj,BY,r8] at hi
  obtain⟨m,t,g⟩:=hi;have y:ops[i]? =some ops[i]:=by simp[m]
  rw[y] at g
  simp only[E4,eC,oi,rm,r8] at g
  have B:listed.getD i false=false:=by
   have:i < listed.size:=by omega
   simp only[y0] at t ⊢
   simp[this] at t ⊢;exact t
  have n:=s _ a w i _ y B (λe he G=>by
   rcases g e he with h | h
   ·rw[G] at h;cases h
   ·exact h) C
  have k:∀D w',Inv (KS (λj=>listed.getD j false) i) D w'->wpAnyIn (Rm O) 0 P .any ops Q c (listed.setIfInBounds i true) D w' :=by
   intro D w' h
   have he:(λj=>(listed.setIfInBounds i true).getD j false)=KS (λj=>listed.getD j false) i:=by
    funext j;simp only[KS,y0];by_cases u:j=i
    ·subst u;have:j < listed.size:=by omega
     simp[this]
    ·simp[u,iP u]
   refine F _ D w' (by simpa using hs) ?_ (by rw[he];exact h)
   have N:(List.range ops.size).countP (λj=> !(listed.setIfInBounds i true).getD j false) < (List.range ops.size).countP (λj=> !listed.getD j false):=by
    have M:(λj=> !(listed.setIfInBounds i true).getD j false)=λj=>(!(KS (λj=>listed.getD j false) i) j):=by
     funext j;rw[<-he]
    rw[M];refine countP_lt (x:=i) ?_ (mj.2 m) (by simp[B]) (by simp[KS]);intro j u;simp only[KS,r8] at u ⊢
    by_cases e:j=i
    ·simp[e] at u
    ·simpa[e] using u
   omega
  unfold wpOpIn;rw[y];simp only[];split
  ·rename_i H;rw[Bm H] at n
   exact(BE k n).wpIn
  ·rename_i H;rw[B2 H] at n
   exact⟨λf _=>Bv O f,k _ _ n⟩
where
 countP_lt {α:Type} {p q:α->Bool} {l:Q0 α} {x:α} (h:∀y,p y=true->q y=true) (hx:x∈l) (hq:q x=true) (hp:p x=false):l.countP p < l.countP q:=by
  induction l with
  | nil=>cases hx
  | cons y l ih=>
   simp only[List.countP_cons];have hle:l.countP p<=l.countP q:=List.countP_mono_left λz _ hz=>h z hz;rcases Tc.1 hx with rfl | hx'
   ·simp[hq,hp];omega
   ·have:=ih hx'
    have:(if p y=true then 1 else 0)<=(if q y=true then 1 else 0):=by
     split
     ·rename_i hy;simp[h y hy]
     ·omega
    omega
theorem W7{id:Nat}(h:P.follows .mixedOrders=true)(Inv:(Nat->Bool)->Act->B1->Prop)
  (f:∀i o,ops[i]? =some o->∀e∈o.after,Region.binds .any e=true->e.on < i)
  (j:Inv (λ_=>false) a {w with drawn:=w.drawn+1})
  (c:∀L a w i o,ops[i]? =some o->L i=false->(∀e∈o.after,Region.binds .any e=true->L e.on=true)->Inv L a w->
   if Region.wanted o (yielded ops a.tmps) then yC O P o a w (Inv<|KS L i) Q else Inv (KS L i) (a.put o.dst undef) w)
  (g:∀L a w,(∀i,i < ops.size->L i=true)->Inv L a w->Q .normal a w):(Code.region id ops true).wpIn (Rm O) 0 P Q a w:=by
 refine wpIn_region_any h<|ji Inv f c g _ _ _ _ zh ?_ ?_
 ·exact lN List.countP_le_length zh
 ·have:(λi=>(Array.replicate ops.size false).getD i false)=λ_=>false:=by
   funext i;simp only[y0,Array.getElem?_replicate];split<;>rfl
  rw[this];exact j
def N4:Nat->Q0 Rw->Bool
 | _,[]=>true
 | i,o::l=>o.after.toList.all (λe=> !Region.binds .any e||Nat.blt e.on i)&&N4 (i+1) l
theorem XC:∀{k:Nat} {l:Q0 Rw},N4 k l=true->∀i o,l[i]? =some o->∀e∈o.after,Region.binds .any e=true->e.on < k+i
 | _,[],_,i,o,h,_,_,_=>by simp at h
 | k,x::l,f,0,o,h,e,he,c=>by
  simp at h;subst h
  simp only[N4,BY,If,rm,r8] at f
  rcases f.1 e (by simpa using he) with h | h
  ·rw[c] at h;cases h
  ·have:=AC h;simp at this ⊢;omega
 | k,x::l,f,i+1,o,h,e,he,c=>by
  simp only[N4,BY] at f
  have:=XC f.2 i o (by simpa using h) e he c;omega
def Ii:Nat->Q0 Rw->Bool
 | _,[]=>true
 | i,o::l=>(List.range i).all (λj=>o.after.toList.any λe=>Nat.beq e.on j&&Region.binds .any e)&&Ii (i+1) l
theorem NL:∀{k:Nat} {l:Q0 Rw},Ii k l=true->∀i o,l[i]? =some o->∀j,j < k+i->∃e∈o.after,e.on=j/\Region.binds .any e=true
 | _,[],_,i,o,h,_,_=>by simp at h
 | k,x::l,c,0,o,h,j,f=>by
  simp at h;subst h
  simp only[Ii,BY,If,mj,aT] at c
  obtain⟨e,he,g,m⟩:=c.1 j (by simpa using f);exact⟨e,by simpa using he,kp g,m⟩
 | k,x::l,c,i+1,o,h,j,f=>by
  simp only[Ii,BY] at c
  exact NL c.2 i o (by simpa using h) j qz
theorem NW{c:Q0 (Nat×K2)}(h:Sub c S)(f:A5 d c=false)(v:K2):Sub c ((d,v)::S):=λi u e=>by
 simp only[K6];cases g:Nat.beq d i with
 | true=>
  have:d=i:=kp g;subst this;rw[Fm e] at f;cases f
 | false=>exact h i u e
theorem PX{i:Nat}{u:K2}(c:d≠i)(e:K6 S i=some u):K6 ((d,v)::S) i=some u:=by
 simp only[K6];cases f:Nat.beq d i with
 | true=>exact absurd (kp f) c
 | false=>exact e
theorem BI:K6 ((d,v)::S) d=some v:=by simp[K6]
theorem PD{o:Rw}{c:gw->Act->B1->Prop}{K:Act->B1->Prop}(j:∀e a w,e≠.normal->c e a w->False)(i:∀a w,c .normal a w->K a w)(h:W8 O P ops c [o] a w):if Region.wanted o (yielded ops a.tmps) then yC O P o a w K Q else K (a.put o.dst undef) w:=by
 unfold W8 at h
 split
 ·rename_i f;rw[Bm f] at h
  exact R0 i (λe a w g k=>(j e a w g k).elim) h
 ·rename_i f;rw[B2 f] at h
  exact i _ _ h
end
section
variable{α:Type}{p:Q2 C3}{l:Q0 α}{sz cap e o n t b i:Nat}{us:Q0 K2}{F F':Fz}{P:C1}{T:A4}{w:B1}{x:Int}
variable{O:Q2 Nat}{μ:Md}
abbrev U2(α:Type):Type:=Fz->α->Q0 K2->Prop
variable{c:U2 α}
abbrev Ex(c:α->Q0 K2):U2 α:=λ_ x vs=>vs=c x
def QG(sz:Nat)(c:U2 α)(F:Fz)(p:Q2 C3)(cap:Nat)(l:Q0 α):Prop:=l.length<=cap/\cap<=9223372036854775807/\(l=[]∨∃b o cs T fr,p=some ⟨b,o,none⟩/\F.mem b=some (.cells cs T fr)/\∀i x,l[i]? =some x->∀F',F<=F'->c F' x ((cs.toList.drop<|o+i*sz).take sz))
theorem QG.mono(h:QG sz c F p cap l)(le:F<=F'):QG sz c F' p cap l:=by
 obtain⟨f,g,a⟩:=h;refine⟨f,g,?_⟩;rcases a with h | ⟨b,o,cs,T,fr,a,j,k⟩
 ·exact .inl h
 ·exact .inr ⟨b,o,cs,T,fr,a,le.mem _ _ j,λi x m F' d=>k i x m F'<|Fz.le_trans le d⟩
theorem QG.nil{α:Type}{sz:Nat}{c:U2 α}{F:Fz}:QG sz c F none 0 ([]:Q0 α):=⟨S2 _,by simp,.inl rfl⟩
theorem QI{cs vs:Q0 K2}{z k:Nat}{v:K2}(h:(cs.drop o).take z=vs)(a:vs[k]? =some v):cs[o+k]? =some v:=by
 rw[<-h,yb,ml] at a
 split at a
 ·exact a
 ·cases a
def ZW(l:Q0 α)(i:Int):Q2 α:=if 0<=i then l[i.toNat]? else none
theorem H4{i:Int}{x:α}(h:ZW l i=some x):0<=i/\i.toNat < l.length/\l[i.toNat]? =some x:=by
 unfold ZW at h
 split at h
 ·rename_i a;refine⟨a,?_,h⟩;rcases qs i.toNat l.length with h' | h'
  ·exact h'
  ·rw[td h'] at h;cases h
 ·cases h
theorem QG.at_(h:QG sz c F p cap l){k:Nat}{x:α}(d:l[k]? =some x):∃b o T fr,∃cs:Q0 K2,p=some ⟨b,o,none⟩/\F.mem b=some (.cells cs.toArray T fr)/\c F x ((cs.drop<|o+k*sz).take sz):=by
 obtain⟨_,_,a⟩:=h;rcases a with h | ⟨b,o,cs,T,fr,a,f,g⟩
 ·subst h;simp at d
 ·exact⟨b,o,T,fr,cs.toList,a,by simpa using f,by simpa using g k x d F (Fz.le_refl F)⟩
section
variable{β:Type}{P:C1}{ops:S1 Rw}{rest:Q0 Rw}{ks:Q0 Kt}{Q:gw->Act->B1->Prop}{m:Q2 β}{r:β}
variable{n:Nat}{D:Q0 TO}{S:Q0 (Nat×K2)}{F:Fz}{hs:Q0 HP}
variable{d:Nat}{ty t t' :A4}{pos:String}{after:S1 ll}{ox oy oz:IR}{v u:K2}{kd:mX}{x y:Int}
theorem GG.mQ{z:α}(a:Nat.blt d n=true)(f:P.underlying t=some (.slice e))(g:∀w,(sizeOf e).run P w= .ok sz w)
  (h:QG sz c F p cap l) (j:QP S ox=some (.slice p l.length cap)) (q:QP S oy=some (.int kd x)) (hi:ZW l x=some z)
  (k:∀b o T fr cs,F.mem b=some (.cells (List.toArray cs) T fr)->c F z ((cs.drop o).take sz)->GL μ P ops rest ks Q (Hd n D ((d,.pointer<|some ⟨b,o,none⟩)::S) F hs) m r):GL μ P ops (⟨some d,.indexAddr t ox oy,ty,pos,after,none⟩::rest) ks Q (Hd n D S F hs) m r:=by
 obtain⟨E,G,s⟩:=H4 hi;obtain⟨b,o,T,fr,cs,rfl,A,B⟩:=h.at_ s;have C:VM l.length x=some x.toNat:=by unfold VM;rw[Bm qz]
 exact GG.aD a f g j q C<|k b _ T fr cs A B
theorem GG.idx{f:α->Q2 β}(a:Nat.blt d n=true)(g:P.underlying t=some (.slice e))(h:∀w,(sizeOf e).run P w= .ok sz w)
  (j:QG sz c F p cap l) (q:QP S ox=some (.slice p l.length cap)) (s:QP S oy=some (.int kd x))
  (k:∀z b o T fr cs,ZW l x=some z->F.mem b=some (.cells (List.toArray cs) T fr)->c F z ((cs.drop o).take sz)->GL μ P ops rest ks Q (Hd n D ((d,.pointer<|some ⟨b,o,none⟩)::S) F hs) (f z) r):GL μ P ops (⟨some d,.indexAddr t ox oy,ty,pos,after,none⟩::rest) ks Q (Hd n D S F hs) ((ZW l x).bind f) r:=
 GG.bind λz hi=>GG.mQ a g h j q s hi λb o T fr cs A B=>k z b o T fr cs hi A B
def ZV(l:Q0 α)(lo hi:Int):Q2 (Q0 α):=if 0<=lo/\lo<=hi/\hi<=l.length then some ((l.drop lo.toNat).take<|hi.toNat - lo.toNat) else none
theorem QG.cut{cap':Nat}(h:QG sz c F p cap l){lo hi:Nat}(_h1:lo<=hi)(k:hi<=l.length)(q:hi - lo<=cap')(s:cap'<=cap):QG sz c F (p.map (·.add (lo*sz))) cap' ((l.drop lo).take<|hi - lo):=by
 obtain⟨z,A,j⟩:=h;refine⟨by simp;omega,by omega,?_⟩;rcases j with h | ⟨b,o,cs,T,fr,rfl,f,g⟩
 ·subst h;left;simp
 ·refine .inr ⟨b,o+lo*sz,cs,T,fr,by simp[X6],f,λi x a=> ?_⟩;rw[yb,ml] at a
  split at a
  ·intro F' le;have:=g (lo+i) x a F' le;rw[show o+lo*sz+i*sz=o+(lo+i)*sz by rw[mu];omega];exact this
  ·cases a
theorem QG.nX{p':Q2 C3}(h:QG sz c F p cap ([]:Q0 α)):QG sz c F p' cap ([]:Q0 α):=⟨h.1,h.2.1,.inl rfl⟩
theorem Wb{i:Int}{y:Nat}{code:BoundsCode}(h:0<=i/\i<=y):(Instr.sliceBound (.int kd i) y code).run P w= .ok i.toNat w:=by
 simp[Instr.sliceBound,asIntOf,h]
theorem OM{t len:Nat}{lo:Int}(a:P.underlying t=some (.slice e))(f:∀w,(sizeOf e).run P w= .ok sz w)(h:0<=lo/\lo<=len):(Instr.sliceAt t (.slice p len cap) (some<|.int kd lo) none none).run P w= .ok (.slice (if cap=lo.toNat then p else p.map (·.add (lo.toNat*sz))) (len - lo.toNat)<|cap - lo.toNat) w:=by
 simp only[Instr.sliceAt,wt,YA a,Result.andThen,Instr.slice,Instr.sliceBounds,lM,lQ,H1,By];rw[Wb h];simp[f]
theorem Tb{t len:Nat}{hi:Int}(a:P.underlying t=some (.slice e))(f:∀w,(sizeOf e).run P w= .ok sz w)(h:0<=hi/\hi<=cap):(Instr.sliceAt t (.slice p len cap) none (some<|.int kd hi) none).run P w= .ok (.slice (if cap=0 then p else p.map (·.add (0*sz))) hi.toNat cap) w:=by
 simp only[Instr.sliceAt,wt,YA a,Result.andThen,Instr.slice,Instr.sliceBounds,lM,lQ,H1,By,B3];rw[Wb h];simp[f]
theorem LG{t len:Nat}{hi a:Int}{f:mX}(g:P.underlying t=some (.slice e))(j:∀w,(sizeOf e).run P w= .ok sz w)(h:0<=hi/\hi<=a)(h' :a<=cap):(Instr.sliceAt t (.slice p len cap) none (some<|.int kd hi)<|some<|.int f a).run P w= .ok (.slice (if a.toNat=0 then p else p.map (·.add (0*sz))) hi.toNat a.toNat) w:=by
 simp only[Instr.sliceAt,wt,YA g,Result.andThen,Instr.slice,Instr.sliceBounds,lM,eJ,H1,By,B3];rw[Wb (kd:=f) qz];simp only[];rw[Wb qz];simp[j]
theorem zl{p':Q2 C3}{q:Prop}[Decidable q](a:q->QG sz c F p cap l)(f:QG sz c F p' cap l):QG sz c F (if q then p else p') cap l:=by
 split
 ·rename_i h;exact a h
 ·exact f
theorem GG.sv{f:Q0 α->Q2 β}(E:Nat.blt d n=true)(G:P.underlying t=some (.slice e))(H:∀w,(sizeOf e).run P w= .ok sz w)
  (A:QG sz c F p cap l) (I:QP S ox=some (.slice p l.length cap)) (K:QP S oy=some (.int kd x))
  (k:∀l' p' c',ZV l x l.length=some l'->QG sz c F p' c' l'->GL μ P ops rest ks Q (Hd n D ((d,.slice p' l'.length c')::S) F hs) (f l') r):GL μ P ops (⟨some d,.slice t ox (some oy) none none,ty,pos,after,none⟩::rest) ks Q (Hd n D S F hs) ((ZV l x l.length).bind f) r:=
 GG.bind λl' j=>by
  have z:=j;unfold ZV at j
  split at j
  ·rename_i h;simp only[UV] at j
   have g:QG sz c F (p.map (·.add (x.toNat*sz))) (cap - x.toNat) l' :=by
    have:=A.cut (lo:=x.toNat) (hi:=l.length) (cap' :=cap - x.toNat) qz (S2 _) (by have:=A.1;omega) qz;simp only[hQ] at j
    rw[<-j];exact this
   have q:l'.length=l.length - x.toNat:=by rw[<-j];simp
   have s:QG sz c F (if cap=x.toNat then p else p.map (·.add (x.toNat*sz))) (cap - x.toNat) l' :=zl (λh=>by
    have:l' =[]:=by
     have:=g.1;rw[<-h] at this;simp at this;exact this
    subst this;exact g.nX) g
   have B:=k l' _ _ z s;rw[q] at B
   refine GG.val E (λa w C=> ?_) B;simp only[execOp,C.1.eval I,C.1.eval K,E4,lk,wt];rw[OM G H qz];rfl
  ·cases j
theorem GG.tC{A:mX}{f:Q0 α->Q2 β}(G:Nat.blt d n=true)(H:P.underlying t=some (.slice e))(I:∀w,(sizeOf e).run P w= .ok sz w)
  (z:QG sz c F p cap l) (K:QP S ox=some (.slice p l.length cap)) (L:QP S oy=some (.int kd x)) (M:QP S oz=some (.int A x))
  (k:∀l' p' c',ZV l 0 x=some l'->QG sz c F p' c' l'->GL μ P ops rest ks Q (Hd n D ((d,.slice p' l'.length c')::S) F hs) (f l') r):GL μ P ops (⟨some d,.slice t ox none (some oy)<|some oz,ty,pos,after,none⟩::rest) ks Q (Hd n D S F hs) ((ZV l 0 x).bind f) r:=
 GG.bind λl' j=>by
  have B:=j;unfold ZV at j
  split at j
  ·rename_i h;simp only[UV] at j
   have g:QG sz c F (p.map (·.add (0*sz))) x.toNat l' :=by
    have:=z.cut (lo:=0) (hi:=x.toNat) (cap' :=x.toNat) qz qz qz (by have:=z.1;omega);simp only[et] at this
    rw[<-j];exact this
   have q:l'.length=x.toNat:=by rw[<-j];simp;omega
   have s:QG sz c F (if x.toNat=0 then p else p.map (·.add (0*sz))) x.toNat l' :=zl (λh=>by
    have:l' =[]:=by have:=g.1;rw[h] at this;simp at this;exact this
    subst this;exact g.nX) g
   have E:=k l' _ _ B s;rw[q] at E
   refine GG.val G (λa w C=> ?_) E;simp only[execOp,C.1.eval K,C.1.eval L,C.1.eval M,E4,lk,wt];rw[LG H I (by have:=z.1;omega) (by have:=z.1;omega)];rfl
  ·cases j
theorem QG.rr{T len:Nat}{cs:Q0 K2}{fr:Nat×Nat}(f:F.mem b=some (.cells cs.toArray T fr))(g:l.length=len)(a:Nat.ble len 1000000=true)(h:∀i x,l[i]? =some x->∀F',F<=F'->c F' x ((cs.drop<|o+i*sz).take sz)):QG sz c F (some ⟨b,o,none⟩) len l:=by
 have:=AC a;exact⟨by omega,by omega,.inr ⟨b,o,cs.toArray,T,fr,rfl,f,by simpa using h⟩⟩
theorem GG.tD{len:Nat}(f:Nat.blt d n=true)(g:P.underlying t=some (.array len e))(h:∀w,(sizeOf e).run P w= .ok sz w)(j:QP S ox=some (.pointer<|some ⟨b,o,none⟩))(q:Nat.blt 0 len=true)
  (k:GL μ P ops rest ks Q (Hd n D ((d,.slice (some ⟨b,o,none⟩) len len)::S) F hs) m r):GL μ P ops (⟨some d,.slice t ox none none none,ty,pos,after,none⟩::rest) ks Q (Hd n D S F hs) m r:=
 GG.val f (λa w s=>by
  have:0 < len:=AC q;simp[execOp,s.1.eval j,Instr.sliceAt,YA g,Instr.sureAddr,Instr.sliceBounds,h,X6]) k
end
def Je(sz:Nat)(c:U2 α)(F:Fz)(l:Q0 α)(us:Q0 K2):Prop:=∀i x,l[i]? =some x->∀F',F<=F'->c F' x ((us.drop<|i*sz).take sz)
theorem Zm{x:α}(h:l[i]? =some x):i < l.length:=by
 rcases qs i l.length with h' | h'
 ·exact h'
 ·rw[td h'] at h;cases h
theorem Je.mono(h:Je sz c F l us)(le:F<=F'):Je sz c F' l us:=λi x d G a=>h i x d G<|Fz.le_trans le a
theorem Je.nil{α:Type}{sz:Nat}{c:U2 α}{F:Fz}{us:Q0 K2}:Je sz c F [] us:=λi x h=>by simp at h
theorem EK(h:i < n):(((us.take<|n*sz).drop<|i*sz).take sz)=((us.drop<|i*sz).take sz):=by
 rw[List.drop_take,List.take_take];congr 1;rw[<-Nat.sub_mul];have:1<=n - i:=by omega
 have:=lX sz this;omega
theorem Je.take(h:Je sz c F l us):Je sz c F l (us.take<|l.length*sz):=λi x a F' le=>by
 rw[EK<|Zm a];exact h i x a F' le
theorem Je.pg(h:Je sz c F l (us.take<|l.length*sz)):Je sz c F l us:=λi x a F' le=>by
 rw[<-EK (Zm a)];exact h i x a F' le
theorem Je.len(f:∀F x vs,c F x vs->vs.length=sz)(h:Je sz c F l us):l.length*sz<=us.length:=by
 rcases ea l.length with a | a
 ·rw[a];simp
 ·have g:l[l.length - 1]? =some (l[l.length - 1]'(by omega)):=C2 _;have:=f _ _ _<|h _ _ g F<|Fz.le_refl F;simp only[el,lO] at this
  rcases ea sz with d | d
  ·rw[d];simp
  ·have e:l.length*sz=(l.length - 1)*sz+sz:=by
    rw[show l.length=l.length - 1+1 by omega,mu];simp
   omega
theorem Je.append{l2:Q0 α}{us2:Q0 K2}(h:Je sz c F l us)(f:Je sz c F l2 us2)(d:us.length=l.length*sz):Je sz c F (l++l2) (us++us2):=λi x a F' le=>by
 rcases qs i l.length with hi | hi
 ·rw[x4 hi] at a
  have e:((us++us2).drop<|i*sz).take sz=(us.drop<|i*sz).take sz:=by
   have:i*sz+sz<=us.length:=by
    rw[d,show i*sz+sz=(i+1)*sz by rw[mu];omega];exact lX sz hi
   rw[ld qz,List.take_append_of_le_length zg]
  rw[e];exact h i x a F' le
 ·rw[ta hi] at a
  have e:(us++us2).drop (i*sz)=us2.drop ((i - l.length)*sz):=by
   have:us.length<=i*sz:=by rw[d];exact lX sz hi
   rw[List.drop_append];rw[ey this,me,d,Nat.sub_mul]
  rw[e];exact f _ x a F' le
theorem Je.tB{us2:Q0 K2}(h:Je sz c F l us)(a:us.length=l.length*sz):Je sz c F l (us++us2):=by
 have:=h.append (l2:=[]) (us2:=us2) Je.nil a;simpa using this
theorem Je.all(g:∀F x vs,c F x vs->vs.all Value.oneCell' =true)(h:Je sz c F l us):(us.take<|l.length*sz).all Value.oneCell' =true:=by
 rw[If];intro v k;obtain⟨j,m,e⟩:=mz k;simp only[el] at m
 have a:j < l.length*sz:=by omega
 have d:0 < sz:=by
  rcases ea sz with f | f
  ·subst f;simp at a
  ·exact f
 have hi:j / sz < l.length:=(Nat.div_lt_iff_lt_mul d).2 a;have q:l[j / sz]? =some (l[j / sz]'hi):=C2 _;have:=g _ _ _<|h _ _ q F<|Fz.le_refl F;rw[If] at this
 apply this;rw[iy] at e
 have r:j%sz < sz:=oN _ d;have s:j=j / sz*sz+j%sz:=by have:=Nat.div_add_mod j sz;rw[Nat.mul_comm] at this;omega
 rw[List.mem_iff_getElem];refine⟨j%sz,by simp;omega,?_⟩;rw[iy,List.getElem_drop,<-e];congr 1;omega
def Qm(sz:Nat)(c:U2 α)(F:Fz)(T:A4)(p:Q2 C3)(cap:Nat)(l:Q0 α):HP:=λm=>
 l.length<=cap/\cap<=9223372036854775807/\((p=none/\cap=0)∨∃b cs,p=some ⟨b,0,none⟩/\pt b (.cells (List.toArray cs) T (0,0)) m/\cs.length=cap*sz/\Je sz c F l cs)
theorem PQ{m:Mem}:Qm sz c F T none 0 ([]:Q0 α) m:=⟨S2 _,by simp,.inl ⟨rfl,rfl⟩⟩
theorem We{m:Mem}(le:F<=F')(h:Qm sz c F T p cap l m):Qm sz c F' T p cap l m:=by
 obtain⟨d,f,a⟩:=h;rcases a with a | ⟨b,cs,e,g,j,k⟩
 ·exact⟨d,f,.inl a⟩
 ·exact⟨d,f,.inr ⟨b,cs,e,g,j,k.mono le⟩⟩
theorem SH.cg{F0:Fz}{H:HP}(a:F0<=F)(h:SH w F (star (Qm sz c F0 T p cap l) H)):∃F',F<=F'/\SH w F' H/\QG sz c F' p cap l:=by
 obtain⟨m,⟨u,g,d,v,j,⟨q,r,y⟩,s⟩,k⟩:=h;rcases y with⟨rfl,rfl⟩ | ⟨b,cs,rfl,z,D,A⟩
 ·refine⟨F,Fz.le_refl F,⟨g,s,k.sub j⟩,q,r,.inl<|Nm qz⟩
 ·have B:SH w F (star (pt b<|.cells cs.toArray T (0,0)) H):=⟨m,⟨u,g,d,v,j,z,s⟩,k⟩;obtain⟨le,hs⟩:=B.freeze;refine⟨_,le,hs,q,r,.inr ⟨b,0,cs.toArray,T,(0,0),rfl,Fz.cx ..,λi x C F' f=> ?_⟩⟩;have:=A i x C F'<|Fz.le_trans a<|Fz.le_trans le f;simpa using this
section
variable{β:Type}{P:C1}{ops:S1 Rw}{rest:Q0 Rw}{ks:Q0 Kt}{Q:gw->Act->B1->Prop}{m:Q2 β}{r:β}
variable{n:Nat}{D:Q0 TO}{S:Q0 (Nat×K2)}{F F0:Fz}{hs:Q0 HP}
theorem GG.sB{g:Gp}(sz:Nat)(c:U2 α)(T:A4)(k:GG g (Hd n D S F<|Qm sz c F T none 0 []::hs) m r):GG g (Hd n D S F hs) m r:=by
 exact λh a w f=>k h a w ⟨f.1,f.2.mono λm d=>⟨λ_=>none,m,λ_=>.inl rfl,λ_ _ e=>by simp at e,Mem.sub.refl _,PQ,d⟩⟩
theorem SH.aV(le:F0<=F)(hi:hs[i]? =some (Qm sz c F0 T p cap l))(h:SH w F (Qg hs)):SH w F (Qg<|hs.set i<|Qm sz c F T p cap l):=SH.push hi ((h.pull hi).mono λ_m a=>QR (λ_=>We le) a)
theorem GG.aV{g:Gp}(i:Nat)(le:F0<=F)(hi:hs[i]? =some (Qm sz c F0 T p cap l))(k:GG g (Hd n D S F<|hs.set i<|Qm sz c F T p cap l) m r):GG g (Hd n D S F hs) m r:=by
 exact λf a w d=>k f a w ⟨d.1,d.2.aV le hi⟩
theorem GG.cg{g:Gp}(i:Nat)(hi:hs[i]? =some (Qm sz c F0 T p cap l))(d:F0<=F)
  (k:∀F',F<=F'->QG sz c F' p cap l->GG g (Hd n D S F'<|hs.eraseIdx i) m r):GG g (Hd n D S F hs) m r:=by
 exact λh a w f=>by
   obtain⟨F',le,j,q⟩:=(f.2.pull hi).cg d;exact k F' le q h a w ⟨f.1,j⟩
theorem QG.aI{z:α}(d:QG sz c F p cap l)(hi:ZW l x=some z):∃b o T fr cs,F.mem b=some (.cells (List.toArray cs) T fr)/\c F z ((cs.drop o).take sz)/\∃a,p=some ⟨b,a,none⟩/\o=a+x.toNat*sz/\VM l.length x=some x.toNat:=by
 obtain⟨j,k,f⟩:=H4 hi;obtain⟨b,o,T,fr,cs,rfl,g,h⟩:=d.at_ f;exact⟨b,_,T,fr,cs,g,h,o,rfl,rfl,by unfold VM;rw[Bm qz]⟩
theorem GG.sx{d:Nat}{ty t e:A4}{pos:String}{after:S1 ll}{f g:IR}{kd:mX}{len:Nat}(h:Nat.blt d n=true)(j:P.underlying t=some (.slice e))(q:∀w,(sizeOf e).run P w= .ok sz w)
  (s:∃a,p=some ⟨b,a,none⟩/\o=a+x.toNat*sz/\VM len x=some x.toNat) (u:QP S f=some (.slice p len cap)) (v:QP S g=some (.int kd x))
  (k:GL μ P ops rest ks Q (Hd n D ((d,.pointer<|some ⟨b,o,none⟩)::S) F hs) m r):GL μ P ops (⟨some d,.indexAddr t f g,ty,pos,after,none⟩::rest) ks Q (Hd n D S F hs) m r:=by
 obtain⟨a,rfl,rfl,y⟩:=s;exact GG.aD h j q u v y k
end
end
section
variable{α:Type}{sz cap:Nat}{c:U2 α}{l:Q0 α}{P:C1}{p:Q2 C3}{F:Fz}
variable{O:Q2 Nat}{μ:Md}
theorem ju{k:Nat}(g:∀F x vs,c F x vs->vs.length=sz)(a:∀F x vs,c F x vs->vs.all Value.oneCell' =true)(h:QG sz c F p cap l):∃us:Q0 K2,us.length=l.length*sz/\Je sz c F l us/\us.all Value.oneCell' =true/\∀w:B1,(∀b o,F.mem b=some o->w.heap[b]? =some o)->(Builtin.firstCells sz l.length<|.slice p k cap).run P w= .ok us.toArray w:=by
 obtain⟨_,_,j⟩:=h;rcases j with h | ⟨b,o,cs,T,fr,rfl,m,n⟩
 ·subst h;refine⟨[],by simp,Je.nil,rfl,λw _=> ?_⟩;cases p<;>simp[Builtin.firstCells,loadCells,loadCellsFrom]
 ·have d:Je sz c F l (cs.toList.drop o):=λi x q r le=>by rw[eL];exact n i x q r le
  have f:=d.len g;refine⟨(cs.toList.drop o).take<|l.length*sz,by simp at f ⊢;omega,d.take,d.all a,λw s=> ?_⟩;have e:w.heap[b]? =some (.cells cs.toList.toArray T fr):=by simpa using s _ _ m
  simp only[Builtin.firstCells];exact Ha e rfl (by simp at f ⊢;omega)
def YB(l k:Q0 α):Q2 (Q0 α):=if l.length+k.length<=4294967296 then some (l++k) else none
theorem Ee(a:Nat):∀(rounds c:Nat),c<=2*a+1000->Builtin.growBy a rounds c<=2*a+1000
 | 0,c,h=>by simpa only[Builtin.growBy] using h
 | rounds+1,c,h=>by
  simp only[Builtin.growBy];split
  ·exact h
  ·exact Ee a rounds _ qz
theorem kD{a:Nat}(h:cap < a):Builtin.nextslicecap a cap<=4*a+4000:=by
 unfold Builtin.nextslicecap;split
 ·omega
 ·split
  ·omega
  ·have:=Ee a 4 cap qz;omega
theorem G4:∀(vs cs:Q0 K2) (o:Nat),o+vs.length<=cs.length->(Ku cs o vs).take (o+vs.length)=cs.take o++vs
 | [],cs,o,_=>by simp[Ku]
 | v::vs,cs,o,h=>by
  simp only[kn] at h
  have:=G4 vs (cs.set o v) (o+1) zg;simp only[Ku,kn];rw[show o+(vs.length+1)=o+1+vs.length by omega,this]
  have e:(cs.set o v).take (o+1)=cs.take o++[v]:=by
   rw[List.take_succ_eq_append_getElem zg];rw[List.getElem_set_self,List.take_set,List.set_eq_of_length_le zg]
  rw[e];simp
def GJ(a cap by_:Nat):Prop:=Builtin.nextslicecap a cap*by_<=281474976710656
theorem C7{a by_:Nat}(h:cap < a)(d:a<=4294967296)(b:by_<=4096):GJ a cap by_:=by
 have:=kD h;unfold GJ;exact lN (Nat.mul_le_mul this b) qz
theorem zf{w:B1}{F0:Fz}{H:HP}{e t t2 e2 by_:Nat}{p2:Q2 C3}{g:Nat}{l2:Q0 α}{z:K2}{T:S1 A4}{ty:A4}{ti:TypeInfo}
   (N:F0<=F) (hc:∀F x vs,c F x vs->vs.length=sz) (Q:∀F x vs,c F x vs->vs.all Value.oneCell' =true) (ht:P.underlying t=some (.slice e)) (A:P.underlying t2=some (.slice e2)) (hz:∀w,(sizeOf e).run P w= .ok sz w) (aF:∀w,(typeInfo e).run P w= .ok ti w) (aG:ti.bytes=by_) (aH:by_≠0) (aI:by_<=4096) (hzero:∀w,(zeroValue e).run P w= .ok z w) (aJ:z.cells.size=sz)
   (B:T[0]? =some t) (D:T[1]? =some t2) (h:SH w F (star (Qm sz c F0 e p cap l) H)) (hr:QG sz c F p2 g l2) (R:l.length+l2.length<=4294967296):∃p' cap' w',(Builtin.append_ T ty #[.slice p l.length cap,.slice p2 l2.length g]).run P w= .ok (.slice p' (l++l2).length cap') w'/\SH w' F (star (Qm sz c F e p' cap'<|l++l2) H):=by
 have S:∀b o,F.mem b=some o->w.heap[b]? =some o:=λb o e=>h.frozen e;obtain⟨us2,f,V,W,j⟩:=ju (P:=P) (k:=l2.length) hc Q hr;have n:=j w S;obtain⟨m,⟨m1,m2,d,s1,s2,⟨h1,h2,h3⟩,hq⟩,k⟩:=h;by_cases a:l.length+l2.length<=cap
 ·
   rcases h3 with⟨rfl,rfl⟩ | ⟨b,cs,rfl,hb,hl,hp⟩
   ·have e1:l=[]:=Nm qz;have e2:l2=[]:=Nm qz;subst e1 e2;refine⟨none,0,w,?_,⟨m,⟨m1,m2,d,s1,s2,⟨by simp,by simp,.inl ⟨rfl,rfl⟩⟩,hq⟩,k⟩⟩;simp only[Builtin.append_];simp[B,D,YA ht,YA A,hz,Builtin.lenOf];simp only[hF] at n f
    have:us2=[]:=Nm (by simpa using f);simp[n,this]
   ·have hh:SH w F (star (pt b<|.cells cs.toArray e (0,0)) H):=⟨m,⟨m1,m2,d,s1,s2,hb,hq⟩,k⟩;have aR:=hh.owned
    have r:l.length*sz+us2.length<=cs.length:=by
     rw[f,hl,<-mu];exact lX sz a
    have X:=XP (P:=P) (o:=l.length*sz) (i:=0) aR (by simpa using r) W;simp only[oW] at X
    refine⟨some ⟨b,0,none⟩,cap,put w b<|.cells (Ku cs (l.length*sz) us2).toArray e (0,0),?_,?_⟩
    ·simp only[Builtin.append_];simp[B,D,YA ht,YA A,hz,Builtin.lenOf,n,a,X6,X]
    ·have aS:=hh.put (o' :=.cells (Ku cs (l.length*sz) us2).toArray e (0,0));refine aS.mono λm hm=>QR (λm' E=>⟨by simp;exact a,h2,.inr ⟨b,_,rfl,E,by rw[Hj];exact hl,?_⟩⟩) hm;have:=G4 us2 cs (l.length*sz) r;rw[f,<-mu] at this
     apply Je.pg;rw[hN,this];exact(hp.mono N).take.append V zg
 ·
   have hn:GJ (l.length+l2.length) cap by_:=C7 (Nat.lt_of_not_le a) R aI
   have s:∃us:Q0 K2,us.length=l.length*sz/\Je sz c F l us/\∀w' :B1,w'.heap=w.heap->(Builtin.firstCells sz l.length<|.slice p l.length cap).run P w' = .ok us.toArray w' :=by
    rcases h3 with⟨rfl,rfl⟩ | ⟨b,cs,rfl,hb,hl,hp⟩
    ·have e1:l=[]:=Nm qz;subst e1;exact⟨[],by simp,Je.nil,λw' _=>by simp[Builtin.firstCells]⟩
    ·have aj:=hp.len hc;refine⟨cs.take<|l.length*sz,by simp;omega,(hp.mono N).take,λw' G=> ?_⟩;simp only[Builtin.firstCells];exact Ha (cs:=cs) (T:=e) (fr:=(0,0)) (by rw[G];exact k.rO<|s1 _ _ hb) zh zg
   obtain⟨us,I,aV,s⟩:=s;have K:∀w' :B1,w'.heap=w.heap->(Builtin.firstCells sz l2.length<|.slice p2 l2.length g).run P w' = .ok us2.toArray w' :=λw' G=>j w' λb o e=>by rw[G];exact S b o e
   have aW:SH w F H:=⟨m2,hq,k.sub s2⟩;generalize L:Question.appendCap (l.length+l2.length) cap e=q
   have u:l.length+l2.length<=q.cut (w.tape w.drawn q)/\q.cut (w.tape w.drawn q)<=9223372036854775807:=by
    rw[<-L];have:=oN (w.tape w.drawn<|Question.appendCap (l.length+l2.length) cap e) (show 0 < 2^63 - (l.length+l2.length) by omega);simp only[Question.cut];omega
   have v:q.forced=false:=by rw[<-L];rfl
   generalize hC:q.cut (w.tape w.drawn q)=C at u
   have M:SH {w with drawn:=w.drawn+1} F H:=aW.drew _;have y:=M.alloc<|.cells ((us.toArray++us2.toArray++Builtin.zeroCells z.cells (C - (l.length+l2.length)))) e;refine⟨some ⟨w.heap.size,0,none⟩,C,_,?_,y.mono λm hm=>QR (λm' E=>⟨by simp;exact u.1,u.2,.inr ⟨w.heap.size,(us.toArray++us2.toArray++Builtin.zeroCells z.cells (C - (l.length+l2.length))).toList,rfl,?_,?_,?_⟩⟩) hm⟩
   ·simp only[Builtin.append_];have aX:=hn;unfold GJ at aX
    have Y:¬(2:Nat)^48 < Builtin.nextslicecap (l.length+l2.length) cap*by_:=by omega
    have g1:=s w.drew rfl;have g2:=K w.drew rfl;simp[B,D,YA ht,YA A,hz,Builtin.lenOf,a,aF,aG,aH,Y,L,v,hC,g1,g2,hzero,newRow];simp only[<-ie,ir]
   ·have Z:pt w.heap.size _ m' :=E;unfold pt at Z ⊢;rw[Z]
   ·have e3:(Builtin.zeroCells z.cells<|C - (l.length+l2.length)).size=(C - (l.length+l2.length))*sz:=by simp[Builtin.zeroCells,aJ]
    simp only[eG,oh,iw,I,f,e3];rw[<-mu,<-mu];congr 1;omega
   ·have:=(aV.append V I).tB (us2:=(Builtin.zeroCells z.cells<|C - (l.length+l2.length)).toList) (by simp[I,f,mu]);simpa using this
section
variable{β:Type}{P:C1}{ops:S1 Rw}{rest:Q0 Rw}{ks:Q0 Kt}{Q:gw->Act->B1->Prop}{m:Q2 β}{r:β}
variable{n:Nat}{D:Q0 TO}{S:Q0 (Nat×K2)}{F:Fz}{hs:Q0 HP}
variable{d:Nat}{ty t t' t2 e e2:A4}{pos:String}{after:S1 ll}{ox oy oz:IR}{v u:K2}{kd:mX}{x y:Int}
structure U1{α:Type}(P:Program)(e sz:Nat)(c:U2 α):Prop where
 len:∀F x vs,c F x vs->vs.length=sz
 one:∀F x vs,c F x vs->vs.all Value.oneCell' =true
 mono:∀F F' x vs,F<=F'->c F x vs->c F' x vs
 size:∀w,(sizeOf e).run P w= .ok sz w
 info:∃ti:TypeInfo,(∀w,(typeInfo e).run P w= .ok ti w)/\ti.bytes≠0/\ti.bytes<=4096
 zero:∃z,(∀w,(zeroValue e).run P w= .ok z w)/\z.cells.size=sz
theorem U1.ex{e:Nat}{c:α->Q0 K2}(len:∀x,(c x).length=sz)(one:∀x,(c x).all Value.oneCell' =true)(size:∀w,(sizeOf e).run P w= .ok sz w)
  (info:∃a:TypeInfo,(∀w,(typeInfo e).run P w= .ok a w)/\a.bytes≠0/\a.bytes<=4096) (zero:∃z,(∀w,(zeroValue e).run P w= .ok z w)/\z.cells.size=sz):U1 P e sz (Ex c):=
 ⟨λ_ x _ h=>h▸len x,λ_ x _ h=>h▸one x,λ_ _ _ _ _ h=>h,size,info,zero⟩
theorem GG.append{F0:Fz}{L:Q2 C3}{b:Nat}{l2:Q0 α}{f:Q0 α->Q2 β}{T:S1 A4}(i:Nat)(E:U1 P e sz c)(q:F0<=F)(M:Nat.blt d n=true)(N:P.underlying t=some (.slice e))(s:P.underlying t2=some (.slice e2))(A:T[0]? =some t)(B:T[1]? =some t2)
  (hi:hs[i]? =some (Qm sz c F0 e p cap l)) (R:QG sz c F L b l2) (V:QP S ox=some (.slice p l.length cap)) (W:QP S oy=some (.slice L l2.length b))
  (k:∀l' p' cap',YB l l2=some l'->GL O P ops rest ks Q (Hd n D ((d,.slice p' l'.length cap')::S) F<|hs.set i<|Qm sz c F e p' cap' l') (f l') r):GL O P ops (⟨some d,.call ⟨.builtin .append,#[ox,oy],T⟩,ty,pos,after,none⟩::rest) ks Q (Hd n D S F hs) ((YB l l2).bind f) r:=
 GG.bind λl' g=>by
  have C:=g;unfold YB at g
  split at g
  ·rename_i h;simp only[UV] at g
   subst g;obtain⟨Z,G,H,I⟩:=E.info;obtain⟨z,hzero,K⟩:=E.zero;refine GG.step rfl (.inr rfl) λX a w o=> ?_;obtain⟨p',cap',w',j,Y⟩:=zf (P:=P) (T:=T) (ty:=ty) q E.len E.one N s E.size G rfl H I hzero K A B (o.2.pull hi) R h;refine⟨_,w',?_,k _ p' cap' C X _ _ ⟨o.1.put M _,SH.push hi Y⟩⟩;simp[execOp,resolve,invoke,builtin,o.1.eval V,o.1.eval W,j]
  ·cases g
theorem GG.ca{len:Nat}{z:K2}{cs zc:Q0 K2}{parts:Q0 (Nat×IR)}{ps:Q0 (Nat×K2)}(B:Nat.blt d n=true)(C:P.underlying t=some (.slice e))(E:∀w,(sizeOf e).run P w= .ok sz w)(hzero:∀w,(zeroValue e).run P w= .ok z w)(G:Nat.blt 0 (len*sz)=true)(g:Nat.ble (len*sz) 16777216=true)
  (H:RX S parts=some ps) (h:(Array.range<|len*sz).map (λi=>z.cells[i%z.cells.size]!)=zc.toArray) (f:Instr.fill (λi=>some (i*sz,sz)) zc.toArray ps=some cs.toArray)
  (k:∀b j,F<=j->j.mem b=some (.cells cs.toArray e)->GL O P ops rest ks Q (Hd n D ((d,.slice (some ⟨b,0,none⟩) len len)::S) j hs) m r):GL O P ops (⟨some d,.buildSlice t len parts.toArray,ty,pos,after,none⟩::rest) ks Q (Hd n D S F hs) m r:=
 GG.step rfl (.inr rfl) λI a w o=>by
  obtain⟨K,L⟩:=o.2.tA<|.cells cs.toArray e;refine⟨.slice (some ⟨w.heap.size,0,none⟩) len len,w.alloc<|.cells cs.toArray e,?_,k w.heap.size _ K (Fz.cx ..) I _ _ ⟨o.1.put B _,L⟩⟩;have q:=AA o.1 H;have M:0 < len*sz:=AC G;have N:=AC g;have s:¬len*sz=0:=by omega
  have A:¬len*sz > 16777216:=by omega
  simp only[execOp,Instr.buildSlice,wt,YA C,E,Result.andThen,List.map_toArray,q];simp only[Nat.reducePow,A,s,By,lM,Result.andThen,wt,hzero,h,f,newRow,run_newObj,World.alloc_eq]
theorem QG.ofRow{b T len:Nat}{cs:Q0 K2}{fr:Nat×Nat}(f:F.mem b=some (.cells cs.toArray T fr))(g:Je sz c F l cs)(k:l.length=len)(a:Nat.ble len 1000000=true):QG sz c F (some ⟨b,0,none⟩) len l:=by
 have:=AC a;refine⟨by omega,by omega,.inr ⟨b,0,cs.toArray,T,fr,rfl,f,λi x h j le=> ?_⟩⟩;simpa using g i x h j le
theorem Je.cons{α:Type}{sz:Nat}{c:U2 α}{F:Fz}{x:α}{l:Q0 α}{us:Q0 K2}(f:∀F a x vs,F<=a->c F x vs->c a x vs)(h:c F x (us.take sz))(h' :Je sz c F l (us.drop sz)):Je sz c F (x::l) us:=λi y b a le=>by
 cases i with
 | zero=>simp at b;subst b;simpa using f _ _ _ _ le h
 | succ i=>
  have:=h' i y (by simpa using b) a le;rw[eL] at this
  rwa[show(i+1)*sz=sz+i*sz by rw[mu];omega]
end
end
section
variable{γ α σ:Type}{Dn:γ->gw->Act->B1->Prop}{I:σ->Act->B1->Prop}{ctl:UP σ γ}
variable{O:Q2 Nat}{μ:Md}
abbrev Qz(n:Int):Int:=IntKind.i64.wrap n
abbrev JY(x y:Int):Int:=if y < x then y else x
abbrev imax(x y:Int):Int:=if x < y then y else x
def KG(k:mX)(x:Int):Q0 K2:=[.int k x]
def Fw(n:Nat)(f:Nat->α):Q0 α:=(List.range n).map f
def Lc(n:Nat)(c:α->Q0 K2)(f:Nat->α):Q0 K2:=(Fw n f).flatMap c
def ZK(f:Nat->α)(i:Nat)(x:α):Nat->α:=λj=>match Nat.beq j i with | true=>x | false=>f j
def gJ(l:Q0 α)(z:α):Nat->α:=λi=>l.getD i z
theorem zA(n:Nat)(f:Nat->α):(Fw n f).length=n:=by simp[Fw]
theorem zB{n:Nat}{f:Nat->α}{q:Nat->α->Prop}(h:∀j,j < n->q j (f j)):∀i x,(Fw n f)[i]? =some x->q i x:=by
 intro i x e;simp only[Fw,hP] at e
 by_cases hi:i < n
 ·simp[hi] at e;subst e;exact h i hi
 ·simp[hi] at e
theorem fG{p:Nat->Prop}(a:p 0)(b:p 1)(c:p 2)(d:p 3)(e:p 4)(f:p 5)(g:p 6):∀j,j < 7->p j:=by
 intro j h;match j,h with | 0,_=>exact a | 1,_=>exact b | 2,_=>exact c | 3,_=>exact d | 4,_=>exact e | 5,_=>exact f | 6,_=>exact g
theorem fF{p:Nat->Prop}(a:p 0)(b:p 1)(c:p 2)(d:p 3)(e:p 4)(f:p 5)(g:p 6)(h:p 7):∀j,j < 8->p j:=by
 intro j i;match j,i with | 0,_=>exact a | 1,_=>exact b | 2,_=>exact c | 3,_=>exact d | 4,_=>exact e | 5,_=>exact f | 6,_=>exact g | 7,_=>exact h
def UF(P:C1)(F:Fz)(f:L3)(caps:Q0 K2)(arg:α->Fz->Q0 K2->Prop)(a:γ->Fz->K2->Prop)(m:α->Q2 γ):Prop:=(∀args w,(callFunc f args).run P w= .ok (.enter f args) w)/\∀b,F<=b->∀x vs,arg x b vs->Z9 P f (vs++caps).toArray b (m x) a
theorem UF.mono{P:C1}{F c:Fz}{f:L3}{caps:Q0 K2}{arg:α->Fz->Q0 K2->Prop}{a:γ->Fz->K2->Prop}{m:α->Q2 γ}(h:UF P F f caps arg a m)(le:F<=c):UF P c f caps arg a m:=⟨h.1,λG b x vs d=>h.2 G (Fz.le_trans le b) x vs d⟩
def ft(a:Nat)(c:U2 α):U2 (Q0 α):=λF x vs=>∃p k,vs=[.slice p x.length k]/\QG a c F p k x
section
variable{β:Type}{P:C1}{ops:S1 Rw}{rest:Q0 Rw}{ks:Q0 Kt}{Q:gw->Act->B1->Prop}{A:Act->B1->Prop}{m:Q2 β}{r:β}
variable{n:Nat}{D:Q0 TO}{S S0:Q0 (Nat×K2)}{F F' :Fz}{hs:Q0 HP}
theorem GG.ex{g:Gp}(h:∀a w,A a w->∃b:Act->B1->Prop,b a w/\GG g b m r):GG g A m r:=by
 exact λc a w d=>let⟨_,e,f⟩:=h a w d;f c a w e
theorem GG.app(h:GE O P ks Q A m r)(b:m=some r)(a:Act)(w:B1)(c:A a w):Zh O P ks Q .normal a w:=h b a w c
theorem GG.ite{g:Gp}{b:Bool}{a c:Q2 β}(e:b=true->GG g A a r)(f:b=false->GG g A c r):GG g A (if b then a else c) r:=by
 cases d:b with
 | true=>rw[Bm rfl];exact e d
 | false=>rw[B2 zh];exact f d
theorem Q5.norm{σ γ:Type}{I:σ->Act->B1->Prop}{Dn:γ->gw->Act->B1->Prop}{s:σ}{ctl:UP σ γ}(h:∀a w,A a w->I s a w):some (UP.next s)=some ctl->∀a w,A a w->Q5 I Dn ctl .normal a w:=λe a w b=>by
 simp only[UV] at e;subst e;exact⟨rfl,h a w b⟩
theorem Q5.exit{b:γ}{id:Nat}(h:∀a w,A a w->Dn b (.exit id) a w):some (UP.done b)=some ctl->∀a w,A a w->Q5 I Dn ctl (.exit id) a w:=λe a w c=>by
 simp only[UV] at e;subst e;exact⟨by simp,h a w c⟩
theorem Q5.ret{b:γ}(h:∀a w,A a w->Dn b .ret a w):some (UP.done b)=some ctl->∀a w,A a w->Q5 I Dn ctl .ret a w:=λe a w c=>by
 simp only[UV] at e;subst e;exact⟨by simp,h a w c⟩
theorem GG.sL{S' :Q0 (Nat×K2)}{d:Nat}{x z:Bool}(j:Nat)(c:K6 S' d=some (.bool x))(f:S'.drop j=S)(g:fresh S (S'.take j)=true)(le:F<=F'):GL μ P ops [] [] (Vs n D d (.bool z) S F hs) (Hd n D S' F' hs) (some x) z:=λe a w b=>by
 simp only[UV] at e;subst e
 exact E6 ⟨rfl,F',le,b.1.sub<|Sub.cons c<|RC j f g,b.2⟩
theorem GG.nilCheck{d:Nat}{ty:A4}{pos:String}{after:S1 ll}{b:IR}{p:C3}(c:Nat.blt d n=true)(e:QP S b=some (.pointer<|some p))(k:GL μ P ops rest ks Q (Hd n D ((d,.pointer<|some p)::S) F hs) m r):GL μ P ops (⟨some d,.nilCheck b,ty,pos,after,none⟩::rest) ks Q (Hd n D S F hs) m r:=GG.val c (λa w f=>by simp[execOp,f.1.eval e]) k
theorem gW{kd:mX}{x y z:Int}(a:DC kd x y=some z):y≠0/\z=kd.wrap (x.tdiv y):=by
 have b:y≠0:=λe=>by simp[DC,e] at a
 exact⟨b,by simpa[DC,b] using a.symm⟩
end
end
section
variable{O:Q2 Nat}{μ:Md}
theorem QZ{cs vs:Q0 K2}(h:cs.length=vs.length):Ku cs 0 vs=vs:=by
 have a:=G4 vs cs 0 qz;simp only[sf,List.take_zero,me] at a
 rwa[OF (by rw[Hj];omega)] at a
end
section
variable{p:Q2 C3}{α:Type}{l:Q0 α}{cap sz:Nat}{c:U2 α}{T:A4}{z:α}
variable{O:Q2 Nat}{μ:Md}
theorem GG.ph{β:Type}{g:Gp}{A:Act->B1->Prop}{r:β}:GG g A none r:=by
 exact λh=>by cases h
theorem vy{w:B1}{F F0:Fz}{H:HP}{k:Nat}(h:SH w F (star (Qm sz c F0 T p cap l) H))(e:l[k]? =some z):∃b cs,p=some ⟨b,0,none⟩/\cs.length=cap*sz/\l.length<=cap/\Je sz c F0 l cs/\SH w F (star (pt b<|.cells (List.toArray cs) T (0,0)) H)/\cap<=9223372036854775807:=by
 obtain⟨m,⟨f,g,d,i,j,⟨n,o,q⟩,r⟩,s⟩:=h;have:=Zm e;rcases q with⟨rfl,v⟩ | ⟨b,cs,rfl,t,a,u⟩
 ·omega
 ·exact⟨b,cs,rfl,a,n,u,⟨m,⟨f,g,d,i,j,t,r⟩,s⟩,o⟩
section
variable{β:Type}{P:C1}{ops:S1 Rw}{rest:Q0 Rw}{ks:Q0 Kt}{Q:gw->Act->B1->Prop}{m:Q2 β}{r:β}
variable{n:Nat}{D:Q0 TO}{S:Q0 (Nat×K2)}{F F0:Fz}{hs:Q0 HP}
variable{d:Nat}{ty t t' e:A4}{pos:String}{after:S1 ll}{ox oy oz:IR}{v u:K2}{kd:mX}{x y:Int}
theorem GG.tz{g:Gp}(i:Nat)(hi:hs[i]? =some (Qm sz c F0 T p cap l))(h:ZW l x=some z)
  (k:∀b,p=some ⟨b,0,none⟩->GG g (Hd n D S F hs) m r):GG g (Hd n D S F hs) m r:=by
 exact λj a w f=>by
  obtain⟨b,_,o,_⟩:=vy (f.2.pull hi) (H4 h).2.2;exact k b o j a w f
theorem GG.pw{b:Nat}(a:Nat.blt d n=true)(f:P.underlying t=some (.slice e))(g:∀w,(sizeOf e).run P w= .ok sz w)
  (h:p=some ⟨b,0,none⟩) (i:ZW l x=some z) (j:QP S ox=some (.slice p l.length cap)) (o:QP S oy=some (.int kd x))
  (k:GL μ P ops rest ks Q (Hd n D ((d,.pointer<|some ⟨b,0+x.toNat*sz,none⟩)::S) F hs) m r):GL μ P ops (⟨some d,.indexAddr t ox oy,ty,pos,after,none⟩::rest) ks Q (Hd n D S F hs) m r:=by
 subst h;obtain⟨q,s,_⟩:=H4 i;exact GG.aD a f g j o (by unfold VM;rw[Bm qz]) k
theorem GG.pD{b off o:Nat}{Φ:K2->Prop}(i:Nat)(hi:hs[i]? =some (Qm sz c F0 T p cap l))(j:F0<=F)(C:Nat.blt d n=true)(E:∀w,(isAgg t).run P w= .ok false w)
  (G:p=some ⟨b,0,none⟩) (s:ZW l x=some z) (H:QP S ox=some (.pointer<|some ⟨b,o,none⟩)) (I:o=0+x.toNat*sz+off)
  (K:∀vs,c F z vs->∃v,vs[off]? =some v/\Φ v) (k:∀v,Φ v->GL μ P ops rest ks Q (Hd n D ((d,v)::S) F hs) m r):GL μ P ops (⟨some d,.load t ox,ty,pos,after,none⟩::rest) ks Q (Hd n D S F hs) m r:=by
 refine GG.sh rfl rfl λL a w h=> ?_;obtain⟨b',cs,g,A,B,f,q,_⟩:=vy (h.2.pull hi) (H4 s).2.2;rw[G] at g;cases g
 obtain⟨v,M,hΦ⟩:=K _<|f _ _ (H4 s).2.2 F j;refine⟨v,?_,k v hΦ L _ _ ⟨h.1.put C _,h.2⟩⟩;have N:cs[o]? =some v:=by subst I;rw[sf];exact QI rfl M
 simp[execOp,h.1.eval H,D6 E (by rw[cell_of_heap q.owned];exact N)]
end
end
section
variable{α K V:Type}{c:U2 α}{l:Q0 (K×V)}{sz cap b j:Nat}{p:Q2 C3}{P:C1}{es:Q0 dO}{T:S1 A4}{w:B1}{kd:mX}{kt t vt:A4}{F F0:Fz}{x:Int}
variable{O:Q2 Nat}{μ:Md}
def Q4[BEq K]:Q0 (K×V)->K->V->Q0 (K×V)
 | [],k,v=>[(k,v)]
 | x::l,k,v=>if k==x.1 then(k,v)::l else x::Q4 l k v
def Qb[BEq K]:Q0 (K×V)->K->Q2 V
 | [],_=>none
 | x::l,k=>if k==x.1 then some x.2 else Qb l k
def Uv(ck:K->K2)(rv:Fz->V->K2->Prop)(F:Fz):Q0 dO->Q0 (K×V)->Prop
 | [],[]=>True
 | e::es,x::l=>e.key=ck x.1/\(∀a,F<=a->rv a x.2 e.val)/\Uv ck rv F es l
 | _,_=>False
structure Xi(P:Program)(t:TypeId){K:Type}[BEq K](ck:K->Value):Prop where
 und:∃kd,P.underlying t=some kd/\∀a b:K,Instr.sameNow kd (ck a) (ck b)=some (a==b)
 check:∀e k w,(Instr.checkKey e 10000 t<|ck k).run P w= .ok () w
 same:∀a:K,Instr.sameBits 10000 (ck a) (ck a)=true
 eq:∀a b:K,(a==b)=true->a=b
section
variable{K V:Type}[BEq K]{ck:K->K2}{rv:Fz->V->K2->Prop}{F F' :Fz}
omit [BEq K] in
theorem Uv.up:∀{es:Q0 dO} {l:Q0 (K×V)},F<=F'->Uv ck rv F es l->Uv ck rv F' es l
 | [],[],_,_=>trivial
 | _::_,_::_,le,⟨d,e,f⟩=>⟨d,λG a=>e G<|Fz.le_trans le a,f.up le⟩
omit [BEq K] in
theorem Uv.len:∀{es:Q0 dO} {l:Q0 (K×V)},Uv ck rv F es l->es.length=l.length
 | [],[],_=>rfl
 | _::_,_::_,⟨_,_,a⟩=>by simp[a.len]
theorem Uv.find{kd:oE}{k:K}(r:∀a b,Instr.sameNow kd (ck a) (ck b)=some (a==b))(heq:∀a b:K,(a==b)=true->a=b):∀{es:Q0 dO} {l:Q0 (K×V)} (h:Nat),Uv ck rv F es l->
   (Qb l k=none/\Instr.findNow kd (ck k) es h=some none/\∀v i,i.key=ck k->(∀F',F<=F'->rv F' v i.val)->Uv ck rv F (es++[i]) (Q4 l k v))∨
   (∃j e x,es[j]? =some e/\e.key=ck k/\Qb l k=some x/\Instr.findNow kd (ck k) es h=some (some (h+j,e.val))/\(∀F',F<=F'->rv F' x e.val)/\
    ∀v f,(f e).key=ck k->(∀F',F<=F'->rv F' v (f e).val)->Uv ck rv F (es.modify j f) (Q4 l k v))
 | [],[],h,_=>.inl ⟨rfl,rfl,λv i g m=>⟨g,m,trivial⟩⟩
 | e::es,x::l,h,⟨g,m,z⟩=>by
  by_cases n:(k==x.1)=true
  ·right;refine⟨0,e,x.2,rfl,?_,by simp[Qb,n],?_,m,?_⟩
   ·rw[g,heq _ _ n]
   ·simp[Instr.findNow,g,r,n]
   ·intro v f o q;simp only[Q4,n,B3,List.modify_zero_cons];exact⟨o,q,z⟩
  ·have d:(k==x.1)=false:=by simpa using n
   rcases Uv.find (k:=k) r heq (h+1) z with⟨o,q,s⟩ | ⟨j,A,B,o,q,s,C,D,E⟩
   ·left;refine⟨by simp[Qb,d,o],by simp[Instr.findNow,g,r,d,q],λv i u y=> ?_⟩;simp only[Q4,d,H1,By,s9];exact⟨g,m,s v i u y⟩
   ·right;refine⟨j+1,A,B,by simpa using o,q,by simp[Qb,d,s],?_,D,λv f u y=> ?_⟩
    ·simp[Instr.findNow,g,r,d,C];omega
    ·simp only[Q4,d,H1,By,List.modify_succ_cons];exact⟨g,m,E v f u y⟩
def YV(es:Q0 dO)(clock:Nat):Prop:=(es.map (·.born)).Pairwise (·< ·)/\∀e∈es,e.born < clock
theorem YV.nil{c:Nat}:YV [] c:=⟨List.Pairwise.nil,λ_ h=>by cases h⟩
theorem YV.push{c:Nat}{k v:K2}(h:YV es c):YV (es++[{key:=k,val:=v,born:=c}]) (c+1):=by
 refine⟨?_,λe he=> ?_⟩
 ·rw[e0,oG];refine⟨h.1,by simp,λa f b d=> ?_⟩;simp only[Of,eW,nt] at d
  obtain⟨e,he,rfl⟩:=n2.1 f;subst d;exact h.2 e he
 ·rcases mn.1 he with he | he
  ·have:=h.2 e he;omega
  ·simp only[nt] at he;subst he;exact Nat.lt_succ_self _
theorem YV.modify{c:Nat}{f:dO->dO}(h:YV es c)(i:∀e,(f e).born=e.born):YV (es.modify j f) c:=by
 have d:∀(es:Q0 dO) (j:Nat),(es.modify j f).map (·.born)=es.map (·.born):=λes=>by
  induction es with
  | nil=>intro j;simp
  | cons e es k=>
   intro j;cases j with
   | zero=>simp[i]
   | succ j=>simp[k]
 refine⟨by rw[d];exact h.1,λe he=> ?_⟩;have g:e.born∈(es.modify j f).map (·.born):=kx he;rw[d] at g
 obtain⟨m,a,n⟩:=n2.1 g;rw[<-n];exact h.2 m a
theorem YV.erase{c:Nat}(h:YV es c):YV (es.eraseIdx j) c:=⟨h.1.sublist<|(List.eraseIdx_sublist es j).map _,λe he=>h.2 e<|List.mem_of_mem_eraseIdx he⟩
def Gg(ck:K->K2)(rv:Fz->V->K2->Prop)(F:Fz)(b:Nat)(l:Q0 (K×V)):HP:=λm=>∃es clock,pt b (.map es clock) m/\Uv ck rv F es.toList l/\YV es.toList clock
omit [BEq K] in
theorem yA{l:Q0 (K×V)}{m:Mem}(le:F<=F')(h:Gg ck rv F b l m):Gg ck rv F' b l m:=by
 obtain⟨es,c,a,d,e⟩:=h;exact⟨es,c,a,d.up le,e⟩
omit [BEq K] in
theorem OX{H:HP}{l:Q0 (K×V)}(h:SH w F (star (Gg ck rv F0 b l) H)):∃es clock,w.heap[b]? =some (.map es clock)/\Uv ck rv F0 es.toList l/\SH w F (star (pt b<|.map es clock) H)/\YV es.toList clock:=by
 obtain⟨m,⟨a,e,d,f,g,⟨es,c,i,n,o⟩,q⟩,k⟩:=h;have hs:SH w F (star (pt b<|.map es c) H):=⟨m,⟨a,e,d,f,g,i,q⟩,k⟩;exact⟨es,c,hs.owned,n,hs,o⟩
end
theorem YW{r:Nat}{es:S1 dO}{clock:Nat}(a:w.heap[r]? =some (.map es clock)):(getObj r).run P w= .ok (.map es clock) w:=by
 simp[getObj,Sem.run,a]
theorem FX{r:Nat}{es:S1 dO}{clock:Nat}{o' :Obj}(a:w.heap[r]? =some (.map es clock)):(setObj r o').run P w= .ok () (put w r o'):=by
 simp[setObj,Sem.run,put,a]
theorem run_findKey{k:K2}{kd:oE}{q:Q2 (Nat×K2)}(a:P.underlying kt=some kd)(h:Instr.findNow kd k es 0=some q):(Instr.findKey kt k es).run P w= .ok q w:=by
 simp[Instr.findKey,YA a,h]
section
variable{β:Type}{P:C1}{ops:S1 Rw}{rest:Q0 Rw}{ks:Q0 Kt}{Q:gw->Act->B1->Prop}{m:Q2 β}{r:β}
variable{n:Nat}{D:Q0 TO}{S:Q0 (Nat×K2)}{F F0:Fz}{hs:Q0 HP}
variable{d:Nat}{ty t t' e:A4}{pos:String}{after:S1 ll}{ox oy oz:IR}{v u:K2}{kd:mX}{x y:Int}
variable{K V:Type}{ck:K->K2}{rv:Fz->V->K2->Prop}
theorem GG.makeMap(ck:K->K2)(rv:Fz->V->K2->Prop)(i:Nat.blt d n=true)(k:∀b,GL O P ops rest ks Q (Hd n D ((d,.map<|some b)::S) F<|Gg ck rv F b []::hs) m r):GL O P ops (⟨some d,.makeMap t none,ty,pos,after,none⟩::rest) ks Q (Hd n D S F hs) m r:=by
 refine GG.step rfl (.inr rfl) λf a w h=> ?_;have o:=h.2.alloc<|.map #[] 0;refine⟨_,w.alloc<|.map #[] 0,?_,k w.heap.size f _ _ ⟨h.1.put i _,o.mono λm f=>QR (λq g=>⟨#[],0,g,trivial,YV.nil⟩) f⟩⟩;simp[execOp,Instr.makeMap]
theorem GG.nL{l:Q0 (K×V)}(i:Nat)(hi:hs[i]? =some (Gg ck rv F0 b l))(g:Nat.blt d n=true)(h:T[0]? =some t)(o:P.underlying t=some (.map kt vt))(q:QP S ox=some (.map<|some b))
  (k:GL μ P ops rest ks Q (Hd n D ((d,.int .i64 l.length)::S) F hs) m r):GL μ P ops (⟨some d,.call ⟨.builtin .len,#[ox],T⟩,ty,pos,after,none⟩::rest) ks Q (Hd n D S F hs) m r:=
 GG.val g (λa w f=>by
  obtain⟨es,c,s,z,_⟩:=OX<|f.2.pull hi;have:es.size=l.length:=by rw[<-z.len];simp
  simp[execOp,resolve,invoke,builtin,Builtin.len_,f.1.eval q,h,YA o,goInt,YW s,this]) k
variable[BEq K]
theorem GG.mapUpdate{l:Q0 (K×V)}{key:K}{val:V}{h:K2}(i:Nat)(hi:hs[i]? =some (Gg ck rv F0 b l))(E:F0<=F)(L:P.underlying t=some (.map kt vt))(ok:Xi P kt ck)(M:QP S ox=some (.map<|some b))(N:QP S oy=some (ck key))(R:QP S oz=some h)(W:∀X,F<=X->rv X val h)
  (k:GL O P ops rest ks Q (Hd n D S F<|hs.set i<|Gg ck rv F b<|Q4 l key val) m r):GL O P ops (⟨none,.mapUpdate t ox oy oz,ty,pos,after,none⟩::rest) ks Q (Hd n D S F hs) m r:=by
 refine GG.ad rfl (.inr rfl) λs a w g=> ?_;obtain⟨es,c,B,hr,z,A⟩:=OX<|g.2.pull hi;obtain⟨kd,Y,o⟩:=ok.und;rcases(hr.up E).find (k:=key) o ok.eq 0 with⟨Z,G,g3⟩ | ⟨j,e1,x1,Z,G,g3,g4,g5,g6⟩
 ·refine⟨put w b<|.map (es.push {key:=ck key,val:=h,born:=c})<|c+1,?_,k s _ _ ⟨g.1.c6 _,SH.push hi<|z.put.mono λm s=>QR (λm' q=>⟨_,_,q,by simpa using g3 val {key:=ck key,val:=h,born:=c} rfl W,by simpa using A.push⟩) s⟩⟩;have C:=run_findKey (w:=w) Y G;simp[execOp,Instr.mapUpdate,g.1.eval M,g.1.eval N,g.1.eval R,YA L,YW B,ok.check,C,FX B]
 ·refine⟨put w b<|.map (es.modify j λe=>{e with key:=ck key,val:=h}) c,?_,k s _ _ ⟨g.1.c6 _,SH.push hi<|z.put.mono λm s=>QR (λm' q=>⟨_,_,q,by simpa using g6 val (λe=>{e with key:=ck key,val:=h}) rfl W,by simpa using A.modify (j:=j) (f:=λe=>{e with key:=ck key,val:=h}) λ_=>rfl⟩) s⟩⟩;have C:=run_findKey (w:=w) Y g4;rw[sf] at C
  have H:es[j]? =some e1:=by simpa using Z
  have I:=ok.same key;simp[execOp,Instr.mapUpdate,g.1.eval M,g.1.eval N,g.1.eval R,YA L,YW B,ok.check,C,FX B,H,G,Instr.keyThatStays,I]
theorem GG.te{l l' :Q0 (K×V)}{key:K}{val:V}{f:K2}(i:Nat)(hi:hs[i]? =some (Gg ck rv F0 b l))(a:F0<=F)(h:P.underlying t=some (.map kt vt))(ok:Xi P kt ck)(o:QP S ox=some (.map<|some b))(q:QP S oy=some (ck key))(s:QP S oz=some f)(z:∀g,F<=g->rv g val f)(he:l' =Q4 l key val)
  (k:GL O P ops rest ks Q (Hd n D S F<|hs.set i<|Gg ck rv F b l') m r):GL O P ops (⟨none,.mapUpdate t ox oy oz,ty,pos,after,none⟩::rest) ks Q (Hd n D S F hs) m r:=by
 subst he;exact GG.mapUpdate i hi a h ok o q s z k
theorem fB{a:mX}{e:Bool}(f:P.underlying t=some (.int kd))(n:Nat):(Instr.checkKey e (n+1) t<|.int a x).run P w= .ok () w:=by
 simp[Instr.checkKey,YA f]
theorem gT(n:Nat):Instr.sameBits n (.int kd x) (.int kd x)=true:=by
 cases n<;>simp[Instr.sameBits]
theorem Xi.int(f:P.underlying t=some (.int kd)):Xi P t (λx:Int=>Value.int kd x) where
 und:=⟨_,f,λa b=>by simp[Instr.sameNow]⟩
 check e k w:=fB f 9999
 same a:=gT 10000
 eq a b h:=by simpa using h
def gg(len cap:Int):Q2 Nat:=if 0<=len/\len<=cap/\cap<=4294967296 then some len.toNat else none
theorem jd{zero:S1 K2}{i:Nat}(h:zero.size=sz)(hi:i < cap):((((Array.range<|cap*sz).map λj=>zero[j%zero.size]!).toList.drop<|i*sz).take sz)=zero.toList:=by
 have a:i*sz+sz<=cap*sz:=by
  have:=lX sz<|show i+1<=cap from hi;rw[mu,Nat.one_mul] at this;exact this
 apply mg;intro j;by_cases f:j < sz
 ·rw[yb,Bm f,ml];have k:i*sz+j < cap*sz:=by omega
  have o:(i*sz+j)%sz=j:=by rw[Nat.add_comm,Nat.add_mul_mod_self_right,Nat.mod_eq_of_lt f]
  have g:j < zero.size:=by omega
  simp[k,h,o];rw[getElem!_pos zero j g];simp[g]
 ·rw[yb,B2 f,td zg]
theorem Je.mU{z:α}{zero:S1 K2}{k:Nat}(g:zero.size=sz)(h:k<=cap)(o:∀a,F<=a->c a z zero.toList):Je sz c F (List.replicate k z) ((Array.range<|cap*sz).map λj=>zero[j%zero.size]!).toList:=λi x f a le=>by
 have hi:=Zm f;simp only[oB] at hi
 rw[List.getElem?_replicate,Bm hi] at f;cases f
 rw[jd g qz];exact o a le
theorem GG.makeSlice{z:α}{i:K2}{s:mX}{f:Nat->Q2 β}(E:U1 P e sz c)(hd:Nat.blt d n=true)(ht:P.underlying t=some (.slice e))(I:∀w,(zeroValue e).run P w= .ok i w)(A:∀Z,F<=Z->c Z z i.cells.toList)(hx:QP S ox=some (.int kd x))(hy:QP S oy=some (.int s y))
  (k:∀len b,gg x y=some len->GL O P ops rest ks Q (Hd n D ((d,.slice (some ⟨b,0,none⟩) (List.replicate len z).length y.toNat)::S) F<|Qm sz c F e (some ⟨b,0,none⟩) y.toNat (List.replicate len z)::hs) (f len) r):GL O P ops (⟨some d,.makeSlice t ox oy,ty,pos,after,none⟩::rest) ks Q (Hd n D S F hs) ((gg x y).bind f) r:=by
 refine GG.bind λlen g=> ?_;have hk:=λb=>k len b g;unfold gg at g
 split at g
 ·rename_i hb;cases g;refine GG.step rfl (.inr rfl) λL a w G=> ?_;obtain⟨H,M,aG,aH⟩:=E.info
  have N:i.cells.size=sz:=by
   have:=E.len _ _ _<|A F<|Fz.le_refl F;simpa using this
  have R:=G.2.alloc<|.cells ((Array.range<|y.toNat*sz).map λj=>i.cells[j%i.cells.size]!) e;refine⟨_,w.alloc<|.cells ((Array.range<|y.toNat*sz).map λj=>i.cells[j%i.cells.size]!) e,?_,hk w.heap.size L _ _ ⟨G.1.put hd _,R.mono λm L=>QR (λm' W=>⟨by simp;omega,by omega,.inr ⟨_,((Array.range<|y.toNat*sz).map λj=>i.cells[j%i.cells.size]!).toList,rfl,by(have B:pt _ _ m' :=W;unfold pt at B ⊢;rw[B]),by simp,Je.mU N qz A⟩⟩) L⟩⟩;have X:IntKind.i64.wrap x=x:=by simp[IntKind.wrap,IntKind.bits,IntKind.signed];omega
  have Y:IntKind.i64.wrap y=y:=by simp[IntKind.wrap,IntKind.bits,IntKind.signed];omega
  have aJ:(H.bytes:Int)*y<=2^48:=by
   have R:(H.bytes:Int)<=4096:=by omega
   have h2:(H.bytes:Int)*y<=4096*y:=eQ R qz;omega
  have o:¬y < 0:=by omega
  have h:¬x < 0:=by omega
  have C:¬x > y:=by omega
  have q:¬(281474976710656:Int) < (H.bytes:Int)*y:=by omega
  have i1:∀w:B1,(asInt<|.int kd x).run P w= .ok x w:=λw=>by simp[asInt,asIntOf]
  have i2:∀w:B1,(asInt<|.int s y).run P w= .ok y w:=λw=>by simp[asInt,asIntOf]
  simp only[execOp,G.1.eval hx,G.1.eval hy,Instr.makeSlice,wt,YA ht,Result.andThen,i1,i2,M,X,Y];by_cases hn:y.toNat*sz=0
  ·simp[o,h,C,q,E.size,hn,newRow,askRoom];rw[show Array.range 0=#[] from rfl];simp
  ·simp[o,h,C,q,E.size,hn,I,newRow,askRoom]
 ·cases g
theorem QG.isNil{l:Q0 α}(h:QG sz c F none cap l):l=[]:=by
 rcases h.2.2 with h | ⟨_,_,_,_,_,h,_⟩
 ·exact h
 ·cases h
theorem eq_nil{len:Nat}(a:P.underlying t=some (.slice e))(n:Nat):(Op.equalIn (n+1) t (.slice p len cap)<|.slice none 0 0).run P w= .ok p.isNone w:=by
 cases p<;>simp[Op.equalIn,YA a]
theorem GG.aU{len:Nat}(g:Nat.blt d n=true)(h:P.underlying t=some (.slice e))(i:QP S ox=some (.slice p len cap))(o:QP S oy=some (.slice none 0 0))(k:GL μ P ops rest ks Q (Hd n D ((d,.bool p.isNone)::S) F hs) m r):GL μ P ops (⟨some d,.binOp .eql t ox oy t',ty,pos,after,none⟩::rest) ks Q (Hd n D S F hs) m r:=
 GG.val g (λa w f=>by
  have q:(Op.equal t (.slice p len cap)<|.slice none 0 0).run P w= .ok p.isNone w:=eq_nil h 9999;have s:P.eqGuardType P.depth t=false∨P.eqGuardType P.depth t=true:=by cases P.eqGuardType P.depth t<;>simp
  simp[execOp,f.1.eval i,f.1.eval o,eqGuard,binOp,q]) k
theorem GG.mJ{len:Nat}(f:Nat.blt d n=true)(g:T[0]? =some t)(h:P.underlying t=some (.slice e))(i:QP S ox=some (.slice p len cap))(k:GL μ P ops rest ks Q (Hd n D ((d,.int .i64 cap)::S) F hs) m r):GL μ P ops (⟨some d,.call ⟨.builtin .cap,#[ox],T⟩,ty,pos,after,none⟩::rest) ks Q (Hd n D S F hs) m r:=GG.val f (λa w o=>by simp[execOp,resolve,invoke,builtin,Builtin.cap_,o.1.eval i,g,YA h,goInt]) k
def Ce(P:C1)(f:L3)(args:S1 K2)(F:Fz)(m:Q2 (Q0 α))(sz:Nat)(c:U2 α)(T:A4):Prop:=∀r,m=some r->∀w R,SH w F R->Calls P f args w (λe w' =>∃a p k,F<=a/\e= .returned (.slice p r.length k)/\SH w' a (star (Qm sz c a T p k r) R))
def jM(P:C1)(fn:lg)(F:Fz)(R:HP)(sz:Nat)(c:U2 α)(T:A4)(r:Q0 α):gw->Act->B1->Prop:=bodyPost P fn (λe w' =>∃a p k,F<=a/\e= .returned (.slice p r.length k)/\SH w' a (star (Qm sz c a T p k r) R))
theorem Ce.enter{f:L3}{fn:lg}{a:ln}{args:Q0 K2}{m:Q2 (Q0 α)}{T:A4}
  (g:P.funcs[f]? =some fn) (h:fn.body=some a) (i:fn.ntmps=n) (o:Nat.ble args.length n=true)
  (k:∀r R,GC none P a [] (jM P fn F R sz c T r) (Hd n [] (Dw 0 args) F [R]) m r):Ce P f args.toArray F m sz c T:=by
 intro r q w R s;refine eh g h<|oI.1<|k r R q _ w ⟨?_,s.one⟩;rw[i];exact WB o
theorem GG.tV{fn:lg}{R:HP}{f:Fz}{t i:Nat}{x r:Q0 α}{T:A4}(q:fn.results=#[.tmp t])(h:K6 S t=some (.slice p x.length cap))(hi:hs[i]? =some (Qm sz c F0 T p cap x))(k:F0<=f)(s:(hs.eraseIdx i)[j]? =some R)(le:F<=f):GC O P .ret ks (jM P fn F R sz c T r) (Hd n [] S f hs) (some x) r:=GG.cz λe a w o=>by
 simp only[UV] at e
 subst e;have g:Sm P S f hs [.tmp t] [.slice p x.length cap]:=.tmp h .nil;exact⟨o.1.2.1,_,Jh (rs:=[.tmp t]) q o g,f,p,cap,le,rfl,(SH.tw hi s o.2).mono λm z=>QR (λ_=>We k) z⟩
theorem GG.nC{f:L3}{caps as vs:Q0 K2}{of:IR}{os:Q0 IR}{o:Q2 (Q0 α)}{g:Q0 α->Q2 β}{z:A4}(A:Nat.blt d n=true)
  (h:∀args w,(callFunc f args).run P w= .ok (.enter f args) w) (B:QP S of=some (.func (.func f) #[] caps.toArray)) (C:Uk S os=some vs) (has:vs++caps=as)
  (E:Ce P f as.toArray F o sz c z) (k:∀x i p cap,o=some x->F<=i->GL O P ops rest ks Q (Hd n D ((d,.slice p x.length cap)::S) i<|Qm sz c i z p cap x::hs) (g x) r):GL O P ops (⟨some d,.call ⟨.value of,os.toArray,T⟩,ty,pos,after,none⟩::rest) ks Q (Hd n D S F hs) (o.bind g) r:=
 GG.su rfl (.inr rfl) λq a w s=>by
  subst has;refine⟨Wx s.1 h B C,?_⟩;cases he:o with
  | none=>rw[he] at q;cases q
  | some y=>
   rw[he] at q
   refine(E y he w _ s.2).mono ?_;rintro _ w' ⟨i,p,cap,le,rfl,G⟩;exact⟨_,rfl,k y i p cap he le q _ _ ⟨s.1.put A _,G⟩⟩
def EW(y:Int):Q2 Nat:=if 0 < y/\y<=4294967296 then some y.toNat else none
theorem GG.rV{e2:Nat}{z:α}{h:K2}{f:Nat->Q2 β}{aA:mX}{l:Q0 α}(i:Nat)(E:U1 P e sz c)(hd:Nat.blt d n=true)(ht:P.underlying t=some (.slice e))(aB:P.underlying e2=some (.int aA))(aC:T[0]? =some t)(aD:T[1]? =some e2)(aE:∀w,(zeroValue e).run P w= .ok h w)(M:∀F',F<=F'->c F' z h.cells.toList)
  (hi:hs[i]? =some (Qm sz c F0 e none 0 l)) (hx:QP S ox=some (.slice none 0 0)) (hy:QP S oy=some (.int kd y))
  (k:∀len b cap,EW y=some len->GL O P ops rest ks Q (Hd n D ((d,.slice (some ⟨b,0,none⟩) (List.replicate len z).length cap)::S) F<|hs.set i<|Qm sz c F e (some ⟨b,0,none⟩) cap<|List.replicate len z) (f len) r):GL O P ops (⟨some d,.call ⟨.builtin .append,#[ox,oy],T⟩,ty,pos,after,none⟩::rest) ks Q (Hd n D S F hs) ((EW y).bind f) r:=by
 refine GG.bind λlen g=> ?_;have hk:=λb cap=>k len b cap g;unfold EW at g
 split at g
 ·rename_i hb;cases g;refine GG.step rfl (.inr rfl) λhm a w Z=> ?_;obtain⟨N,aG,aX,aH⟩:=E.info
  have A:h.cells.size=sz:=by
   have:=E.len _ _ _<|M F<|Fz.le_refl F;simpa using this
  generalize G:Question.appendCap y.toNat 0 e=q
  have o:y.toNat<=q.cut (w.tape w.drawn q)/\q.cut (w.tape w.drawn q)<=9223372036854775807:=by
   rw[<-G];have:=oN (w.tape w.drawn<|Question.appendCap y.toNat 0 e) (show 0 < 2^63 - y.toNat by omega);simp only[Question.cut];omega
  have s:q.forced=false:=by rw[<-G];rfl
  generalize hC:q.cut (w.tape w.drawn q)=C at o
  have aI:SH w F (Qg<|hs.eraseIdx i):=Z.2.sF i;have H:SH {w with drawn:=w.drawn+1} F (Qg<|hs.eraseIdx i):=aI.drew _;have B:=H.alloc<|.cells (Builtin.zeroCells h.cells y.toNat++Builtin.zeroCells h.cells (C - y.toNat)) e;have I:∀k,(Builtin.zeroCells h.cells k).size=k*sz:=λk=>by simp[Builtin.zeroCells,A]
  have aJ:IntKind.i64.wrap y=y:=by simp[IntKind.wrap,IntKind.bits,IntKind.signed];omega
  refine⟨.slice (some ⟨w.heap.size,0,none⟩) y.toNat C,({w with drawn:=w.drawn+1}:B1).alloc<|.cells (Builtin.zeroCells h.cells y.toNat++Builtin.zeroCells h.cells (C - y.toNat)) e,?_,?_⟩
  rotate_left
  ·have R:=hk w.heap.size C;rw[oB] at R
   refine R hm _ _ ⟨Z.1.put hd _,SH.push hi<|B.mono λm hm=>QR (λm' aK=>⟨by rw[oB];exact o.1,o.2,.inr ⟨w.heap.size,(Builtin.zeroCells h.cells y.toNat++Builtin.zeroCells h.cells (C - y.toNat)).toList,rfl,?_,?_,?_⟩⟩) hm⟩
   ·(have W:pt _ _ m' :=aK;unfold pt at W ⊢;rw[W])
   ·simp only[eG,oh,I,<-mu];congr 1;omega
   ·have hp:Je sz c F (List.replicate y.toNat z) (Builtin.zeroCells h.cells y.toNat).toList:=by
     unfold Builtin.zeroCells;rw[A];have:=Je.mU (cap:=y.toNat) (k:=y.toNat) A (S2 _) M;rw[A] at this;exact this
    have:=hp.tB (us2:=(Builtin.zeroCells h.cells<|C - y.toNat).toList) (by simp[I]);simpa using this
  ·have X:¬y < 0:=by omega
   have aL:¬(281474976710656:Int) < y*N.bytes:=by
    have h1:(N.bytes:Int)<=4096:=by omega
    have h2:y*(N.bytes:Int)<=y*4096:=sp h1 qz;omega
   have hn:GJ y.toNat 0 N.bytes:=C7 qz qz aH;unfold GJ at hn
   have aM:¬(281474976710656:Nat) < Builtin.nextslicecap y.toNat 0*N.bytes:=by omega
   have aP:¬y.toNat=0:=by omega
   have aQ:¬((y.toNat:Nat):Int) > IntKind.i64.max:=by simp[IntKind.max,IntKind.bits,IntKind.signed];omega
   have i2:∀w:B1,(asInt<|.int kd y).run P w= .ok y w:=λw=>by simp[asInt,asIntOf]
   have af:¬(y.toNat<=0):=by omega
   simp only[execOp,resolve,invoke,builtin,List.map_toArray,Of,eW,Z.1.eval hx,Z.1.eval hy];simp only[Builtin.append_];simp[aC,aD,YA ht,YA aB,E.size,i2,aJ,X,aG,aL,aM,G,s,hC,aE,newRow,Builtin.firstCells,askRoom];have q1:¬y<=0:=by omega
   have q2:¬(9223372036854775807:Int) < max y 0:=by omega
   rw[B2 q1,B2 q2];by_cases L:y.toNat*sz=0
   ·have Y:Builtin.zeroCells h.cells y.toNat=#[]:=ot (by rw[I];exact L);rw[Bm L,Y,iq]
   ·rw[B2 L]
 ·cases g
theorem GG.nv{T:A4}{l:Q0 α}{f:Q0 α->Q2 β}(i:Nat)(M:Nat.blt d n=true)(N:P.underlying t=some (.slice e))(R:∀w,(sizeOf e).run P w= .ok sz w)
  (hi:hs[i]? =some (Qm sz c F0 T p cap l)) (W:QP S ox=some (.slice p l.length cap)) (s:QP S oy=some (.int kd x))
  (k:∀l' p',ZV l 0 x=some l'->GL O P ops rest ks Q (Hd n D ((d,.slice p' l'.length cap)::S) F<|hs.set i<|Qm sz c F0 T p' cap l') (f l') r):GL O P ops (⟨some d,.slice t ox none (some oy) none,ty,pos,after,none⟩::rest) ks Q (Hd n D S F hs) ((ZV l 0 x).bind f) r:=by
 refine GG.bind λl' o=> ?_;have A:=o;unfold ZV at o
 split at o
 ·rename_i h;simp only[UV,oH,eb,et] at o
  have g:l'.length=x.toNat:=by rw[<-o];simp;omega
  refine GG.step rfl (.inr rfl) λB a w z=> ?_
  have I:l.length<=cap:=by
   obtain⟨_,⟨_,_,_,_,_,⟨L,_,_⟩,_⟩,_⟩:=z.2.pull hi;exact L
  refine⟨.slice (if cap=0 then p else p.map (·.add (0*sz))) x.toNat cap,w,?_,?_⟩
  ·simp only[execOp,z.1.eval W,z.1.eval s,E4,lk,wt];rw[Tb N R qz];rfl
  ·have C:=k l' (if cap=0 then p else p.map (·.add (0*sz))) A;rw[g] at C
   have X:(if cap=0 then p else p.map (·.add (0*sz)))=p:=by
    split
    ·rfl
    ·cases p with
     | none=>rfl
     | some q=>simp[Addr.add]
   rw[X] at C ⊢
   refine C B _ _ ⟨z.1.put M _,SH.push hi<|(z.2.pull hi).mono λm B=>QR (λm' E=> ?_) B⟩;obtain⟨L,Y,G⟩:=E;refine⟨by rw[g];omega,Y,?_⟩;rcases G with G | ⟨b,cs,Z,hb,H,hp⟩
   ·exact .inl G
   ·exact .inr ⟨b,cs,Z,hb,H,λj y s F' le=>hp j y (by
     rw[<-o,yb] at s
     split at s
     ·exact s
     ·cases s) F' le⟩
 ·cases o
end
end
section
variable{S Si:Q0 (Nat×K2)}{ops:S1 Rw}{l rest:Q0 Rw}{hs hs2:Q0 HP}{L:Nat->Bool}{after:S1 ll}{α:Type}{i d sz cap n:Nat}{pos:String}{ty t e:A4}{ox oy:IR}{q:Fz->Prop}{p:Q2 C3}{l':Q0 α}{kd:mX}{c:U2 α}{F' F2:Fz}{w:B1}{v:K2}{x:Int}
variable{O:Q2 Nat}{μ:Md}
structure Env where
 a:Nat->Option Addr
 n:Nat->Nat
 c:Nat->List Value
 f:Nat->Fz
 o:Nat->Option Nat
variable{C:(Nat->Bool)->Env->Q0 HP}{env:Env}
abbrev W6:Type:=K2×(Fz->Prop)
variable{X:Env->Q0 W6}
def DT:Q0 Bool->Q0 α->Q0 (Q2 α)
 | b::bs,x::xs=>(bif b then some x else none)::DT bs xs
 | _,_=>[]
theorem Sz:∀{M:Q0 Bool} {x y:Q0 α} {j:Nat} {q:α},DT M x=DT M y->M[j]? =some true->x[j]? =some q->y[j]? =some q
 | [],_,_,j,_,_,h,_=>by simp at h
 | b::M,[],_,j,_,_,_,h=>by simp at h
 | b::M,x::xs,[],j,_,h,_,_=>by simp[DT] at h
 | b::M,x::xs,y::g,0,q,h,a,f=>by
  simp at a f;subst a f
  simp only[DT,cond_true,lW,UV] at h
  simp[h.1]
 | b::M,x::xs,y::g,j+1,q,h,a,f=>by
  simp only[DT,lW] at h
  have:=Sz (j:=j) (q:=q) h.2 (by simpa using a) (by simpa using f);simpa using this
def X2(l:Q0 Rw):Nat->Nat->Nat->Bool
 | 0,_,_=>false
 | k+1,i,j=>match l[i]? with
  | none=>false
  | some o=>o.after.toList.any λe=>Region.binds .any e&&(Nat.beq e.on j||X2 l k e.on j)
def Down(l:Q0 Rw)(L:Nat->Bool):Prop:=∀i o,l[i]? =some o->L i=true->∀e∈o.after,Region.binds .any e=true->L e.on=true
theorem W0(m:Down l L):∀{k i j:Nat},X2 l k i j=true->(∀o,l[i]? =some o->∀e∈o.after,Region.binds .any e=true->L e.on=true)->L j=true
 | 0,i,j,h,_=>by simp[X2] at h
 | k+1,i,j,h,hi=>by
  simp only[X2] at h
  split at h
  ·cases h
  ·rename_i o r;simp only[aT,BY,rm] at h
   obtain⟨e,he,s,h⟩:=h;have a:=hi o r e (by simpa using he) s;rcases h with h | h
   ·rw[<-kp h];exact a
   ·exact W0 m h λo' b u f g=>m e.on o' b a u f g
def SM(l:Q0 Rw)(i:Nat):Nat->Q0 Bool->Q0 Bool->Bool
 | _,_,[]=>true
 | j,M,b::bs=>(b||Nat.beq j i||(match l[j]? with
  | none=>false
  | some o=>o.after.toList.any λe=>Region.binds .any e&&(Nat.beq e.on i||(Nat.blt e.on j&&(M[e.on]?).getD true==false))))&&SM l i (j+1) M bs
theorem Mb{M:Q0 Bool}:∀{bs:Q0 Bool} {a:Nat},SM l i a M bs=true->∀t,bs[t]? =some false->a+t=i∨∃o e,l[a+t]? =some o/\e∈o.after/\Region.binds .any e=true/\(e.on=i∨(e.on < a+t/\M[e.on]? =some false))
 | [],_,_,t,h=>by simp at h
 | b::bs,a,f,0,h=>by
  simp at h;subst h
  simp only[SM,mv,BY,rm] at f
  rcases f.1 with h | h
  ·exact .inl<|kp h
  ·right;split at h
   ·cases h
   ·rename_i o m;simp only[aT,BY,rm] at h
    obtain⟨e,he,j,h⟩:=h;refine⟨o,e,m,by simpa using he,j,?_⟩;rcases h with h | ⟨r,g⟩
    ·exact .inl<|kp h
    ·refine .inr ⟨AC r,?_⟩;cases k:M[e.on]? with
     | none=>rw[k] at g;simp at g
     | some b=>rw[k] at g;simp at g;rw[g]
 | b::bs,a,f,t+1,h=>by
  simp only[SM,BY] at f
  have:=Mb f.2 t<|by simpa using h
  rwa[show a+1+t=a+(t+1) by omega] at this
theorem PV{M:Q0 Bool}(m:Down l L)(hi:L i=false)(r:SM l i 0 M M=true):∀(j:Nat),L j=true->j < M.length->M[j]? =some true:=λj=>by
 induction j using Nat.strongRecOn with
 | ind j s=>
  intro g u;cases k:M[j]? with
  | none=>rw[ee] at k;omega
  | some b=>
   cases b with
   | true=>rfl
   | false=>
    exfalso;have:=Mb r j k;rw[sf] at this
    rcases this with rfl | ⟨o,e,y,he,z,h⟩
    ·rw[hi] at g;cases g
    ·have a:=m j o y g e he z;rcases h with h | ⟨f,h⟩
     ·rw[h,hi] at a;cases a
     ·have:=s e.on f a<|Zm h;rw[h] at this;cases this
def Vo(l:Q0 Rw)(j:Nat):Q2 Nat:=(l[j]?).bind (·.dst)
section
variable{β:Type}{P:C1}{ks:Q0 Kt}{Q:gw->Act->B1->Prop}{m:Q2 β}{r:β}
variable{n:Nat}{D:Q0 TO}{S0:Q0 (Nat×K2)}{F:Fz}
def G0(n:Nat)(D:Q0 TO)(l:Q0 Rw)(X:Env->Q0 W6)(C:(Nat->Bool)->Env->Q0 HP)(L:Nat->Bool)(env:Env)(F' :Fz)(i:Nat)(g:Q2 Nat)(S:Q0 (Nat×K2)):gw->Act->B1->Prop:=λe a w=>
 e= .normal/\∃b f,F'<=f/\(∃M,M.length=(X env).length/\SM l i 0 M M=true/\DT M (X env)=DT M (X b))/\∃q,(X b)[i]? =some q/\(∀G,f<=G->q.2 G)/\
  Hd n D (match g with | some d=>(d,q.1)::S | none=>S) f (C (KS L i) b) a w
def xr(O:Q2 Nat)(P:C1)(ops:S1 Rw)(l:Q0 Rw)(n:Nat)(D:Q0 TO)(S0:Q0 (Nat×K2))(F:Fz)(X:Env->Q0 W6)(C:(Nat->Bool)->Env->Q0 HP)(i:Nat)(o:Rw):Prop:=
 ∀L env F',F<=F'->L i=false->(∀k j,X2 l k i j=true->L j=true)->(∀k j,X2 l k j i=true->L j=false)->(∀(j:Nat) (q:W6),L j=true->(X env)[j]? =some q->∀G,F'<=G->q.2 G)->
  ∃Si,(∀S,Sub S0 S->(∀(j d:Nat) (v:K2),L j=true->Vo l j=some d->((X env)[j]?).map Prod.fst=some v->K6 S d=some v)->Sub Si S)/\
   GL O P ops [o] [] (G0 n D l X C L env F' i o.dst Si) (Hd n D Si F'<|C L env) (some ()) ()
def Gd(O:Q2 Nat)(P:C1)(ops:S1 Rw)(l:Q0 Rw)(n:Nat)(D:Q0 TO)(S0:Q0 (Nat×K2))(F:Fz)(X:Env->Q0 W6)(C:(Nat->Bool)->Env->Q0 HP):Nat->Q0 Rw->Prop
 | _,[]=>True
 | i,o::os=>xr O P ops l n D S0 F X C i o/\Gd O P ops l n D S0 F X C (i+1) os
theorem Gd.get:∀{k:Nat} {os:Q0 Rw},Gd O P ops l n D S0 F X C k os->∀i o,os[i]? =some o->xr O P ops l n D S0 F X C (k+i) o
 | _,[],_,i,o,h=>by simp at h
 | k,x::os,a,0,o,h=>by simp at h;subst h;exact a.1
 | k,x::os,a,i+1,o,h=>by
  have:=Gd.get a.2 i o<|by simpa using h
  rwa[show k+1+i=k+(i+1) by omega] at this
theorem Ow{o:Rw}{a:Act}(I:∀d,o.dst=some d->Nat.blt d n=true)(z:Sl n D S a)
  (h:W8 O P ops (G0 n D l X C L env F' i o.dst Si) [o] a w):W8 O P ops (G0 n D l X C L env F' i o.dst S) [o] a w:=by
 have key:∀u w',G0 n D l X C L env F' i o.dst Si .normal (a.put o.dst u) w'->G0 n D l X C L env F' i o.dst S .normal (a.put o.dst u) w' :=by
  rintro u w' ⟨_,b,y,le,E,q,k,G,g⟩;refine⟨rfl,b,y,le,E,q,k,G,?_⟩;cases s:o.dst with
  | none=>rw[s] at g;exact⟨z.c6 u,g.2⟩
  | some d=>
   rw[s] at g
   have H:=z.put (I d s) u;have K:=H.2.2 d u BI;have M:=g.1.2.2 d q.1 BI;have:u=q.1:=K.symm.trans M;subst this;exact⟨H,g.2⟩
 have A:∀e a w,e≠.normal->G0 n D l X C L env F' i o.dst Si e a w->False:=λe a w j k=>j k.1;unfold W8 at h ⊢
 split
 ·rename_i B;rw[Bm B] at h
  refine Oc key (λN w' h=> ?_) (λe a w j k=>(A e a w j k).elim) h;obtain⟨_,b,y,le,E,q,k,G,g⟩:=h;have f:=g.1.2.1;cases s:o.dst with
  | none=>
   rw[s] at f;simp only[Act.put] at f;rw[z.2.1] at f
   exact absurd (congrArg List.length f) zh
  | some d=>
   rw[s] at f;simp only[Act.put] at f;rw[z.2.1] at f
   exact absurd (congrArg List.length f) zh
 ·rename_i B;rw[B2 B] at h
  exact key undef w h
def Ta(d:Nat)(o:Rw):Bool:=match o.dst with
 | some a=>Nat.beq a d
 | none=>false
def Gi(n:Nat)(S0:Q0 (Nat×K2)):Q0 Rw->Bool
 | []=>true
 | o::os=>(match o.dst with
  | none=>true
  | some d=>Nat.blt d n&& !A5 d S0&& !os.any (Ta d))&&Gi n S0 os
theorem HJ:∀{os:Q0 Rw} {i:Nat} {o:Rw} {d:Nat},Gi n S0 os=true->os[i]? =some o->o.dst=some d->Nat.blt d n=true/\A5 d S0=false
 | [],_,_,_,_,h,_=>by simp at h
 | x::os,0,o,d,a,h,b=>by
  simp at h;subst h
  simp only[Gi,b,BY,r8] at a
  exact⟨a.1.1.1,a.1.1.2⟩
 | x::os,i+1,o,d,a,h,b=>by
  simp only[Gi,BY] at a
  exact HJ a.2 (by simpa using h) b
theorem S7{os:Q0 Rw}{o:Rw}(h:os.any (Ta d)=false)(b:os[i]? =some o)(f:o.dst=some d):False:=by
 have g:o∈os:=by
  obtain⟨a,e⟩:=Do.1 b;rw[<-e];exact oo a
 have:os.any (Ta d)=true:=aT.2 ⟨o,g,by simp[Ta,f]⟩;rw[h] at this;cases this
theorem Bu:∀{os:Q0 Rw} {i j:Nat} {o o' :Rw} {d:Nat},Gi n S0 os=true->os[i]? =some o->os[j]? =some o'->o.dst=some d->o'.dst=some d->i=j
 | [],_,_,_,_,_,_,h,_,_,_=>by simp at h
 | x::os,0,0,_,_,_,_,_,_,_,_=>rfl
 | x::os,0,j+1,o,o',d,b,h,h',f,a=>by
  simp at h;subst h
  simp only[Gi,f,BY,r8] at b
  exact(S7 b.1.2 (by simpa using h') a).elim
 | x::os,i+1,0,o,o',d,b,h,h',f,a=>by
  simp at h';subst h'
  simp only[Gi,a,BY,r8] at b
  exact(S7 b.1.2 (by simpa using h) f).elim
 | x::os,i+1,j+1,o,o',d,b,h,h',f,a=>by
  simp only[Gi,BY] at b
  have:=Bu (i:=i) (j:=j) b.2 (by simpa using h) (by simpa using h') f a;rw[this]
def OY:Q0 Rw->Q0 W6->Q0 (Nat×K2)->Q0 (Nat×K2)
 | o::os,q::a,S=>match o.dst with
  | some d=>(d,q.1)::OY os a S
  | none=>OY os a S
 | _,_,S=>S
theorem NX(b:Sub S0 S):∀{os:Q0 Rw} {a:Q0 W6},(∀(i:Nat) (o:Rw) (d:Nat) (q:W6),os[i]? =some o->o.dst=some d->a[i]? =some q->K6 S d=some q.1)->Sub (OY os a S0) S
 | [],_,_=>b
 | _::_,[],_=>b
 | o::os,q::a,h=>by
  have f:Sub (OY os a S0) S:=NX b λi o d q g j k=>h (i+1) o d q (by simpa using g) j (by simpa using k);simp only[OY];cases s:o.dst with
  | none=>exact f
  | some d=>exact Sub.cons (h 0 o d q rfl s rfl) f
theorem GG.nB{id:Nat}(k g:Nat)(X:Env->Q0 W6)(C:(Nat->Bool)->Env->Q0 HP)(hm:P.follows .mixedOrders=true)(aQ:N4 0 l=true)(aH:Ii k (l.drop k)=true)
  (aR:Nat.ble k l.length=true) (hX:∀env,(X env).length=k) (aI:Gi n S0 (l.take k)=true) (hC:∀env,C (λ_=>false) env=hs++List.replicate g Aa)
  (aS:Gd O P l.toArray l n D S0 F X C 0 (l.take k))
  (tail:∀env F',F<=F'->(∀(j:Nat) (q:W6),(X env)[j]? =some q->q.2 F')->GL O P l.toArray (l.drop k) ks Q (Hd n D (OY (l.take k) (X env) S0) F'<|C (λj=>Nat.blt j k) env) m r):GC O P (.region id l.toArray true) ks Q (Hd n D S0 F hs) m r:=by
 intro ai a w ha;have aj:k<=l.length:=AC aR
 let aG:(Nat->Bool)->Act->B1->Prop:=λL a w=>Down l L/\(∀i,k<=i->L i=false)/\∃env F' S,F<=F'/\Sub S0 S/\(∀(j d:Nat) (v:K2),L j=true->Vo l j=some d->((X env)[j]?).map Prod.fst=some v->K6 S d=some v)/\(∀(j:Nat) (q:W6),L j=true->(X env)[j]? =some q->∀G,F'<=G->q.2 G)/\Hd n D S F' (C L env) a w
 let Inv:(Nat->Bool)->Act->B1->Prop:=λL a w=>aG L a w∨∃i,k < i/\(∀j,L j=true↔j < i)/\W8 O P l.toArray (Zh O P ks Q) (l.drop i) a w
 have N:∀L a w,(∀i,i < k->L i=true)->aG L a w->W8 O P l.toArray (Zh O P ks Q) (l.drop k) a w:=by
  rintro L a w b ⟨I,E,env,F',S,le,hS,hV,hΦ,hA⟩;have bN:=hX env
  have ak:L=λj=>Nat.blt j k:=by
    funext j;rcases qs j k with h | h
    ·rw[b j h];exact(u2 h).symm
    ·rw[E j h];cases W:Nat.blt j k with
     | false=>rfl
     | true=>have:=AC W;omega
  refine tail env F' le (λj q Y=>hΦ j q (b j (by have:=Zm Y;omega)) Y F'<|Fz.le_refl F') ai a w ⟨hA.1.sub<|NX hS λi o d q e1 e2 e3=> ?_,ak▸hA.2⟩;have aV:i < k:=by have:=Zm e3;omega
  refine hV i d q.1 (b i aV) ?_ (by rw[e3];rfl);rw[yb,Bm aV] at e1
  simp[Vo,e1,e2]
 refine W7 hm Inv (λi o h e he W=>by have:=XC aQ i o (by simpa using h) e he W;omega) ?_ ?_ ?_
 ·refine .inl ⟨λi o _ h=>(by cases h),λ_ _=>rfl,⟨λ_=>none,λ_=>0,λ_=>[],λ_=>F,λ_=>none⟩,F,S0,Fz.le_refl F,Sub.refl _,λj d v h=>(by cases h),λj q h=>(by cases h),ha.1,?_⟩;rw[hC];have h1:=ha.2.drew<|w.drawn+1;refine h1.mono λm al=> ?_;exact stars_emps al
 ·intro L a w i o ho K y hI;have z:l[i]? =some o:=by simpa using ho
  have aK:i < l.length:=Zm z;by_cases hi:i < k
  · rcases hI with Z | ⟨u,hk,hL,_⟩
    case inr=>have:=(hL i).2 qz;rw[K] at this;cases this
    obtain⟨I,E,env,F',S,le,hS,hV,hΦ,hA⟩:=Z;have aB:(l.take k)[i]? =some o:=by rw[yb,Bm hi];exact z
    have aX:=Gd.get aS i o aB;simp only[sf] at aX
    have ao:∀u j,X2 l u j i=true->L j=false:=λu j h=>by
     cases A:L j with
     | false=>rfl
     | true=>
      have:=W0 I h λo' H e he W=>I j o' H A e he W;rw[K] at this;cases this
    have aY:∀u j,X2 l u i j=true->L j=true:=λu j h=>W0 I h λo' H e he W=>by
     rw[z] at H;cases H;exact y e he W
    obtain⟨Si,aq,aL⟩:=aX L env F' le K aY ao hΦ;have aZ:=aq S hS hV;have hn:∀d,o.dst=some d->Nat.blt d n=true:=λd hd=>(HJ aI aB hd).1;have h1:=Ow (S:=S) hn hA.1<|aL rfl a w ⟨hA.1.sub aZ,hA.2⟩;refine PD (λe a w aM Y=>absurd Y.1 aM) (λa' w' Y=> ?_) h1;obtain⟨_,R,ar,ab,⟨M,au,av,aw⟩,q,Y,ax,ay⟩:=Y
    have ad:∀(j:Nat) (q:W6),L j=true->(X R)[j]? =some q->(X env)[j]? =some q:=λj q A hx=>by
     have az:j < M.length:=by rw[au,hX env,<-hX R];exact Zm hx
     exact Sz aw.symm (PV I K av j A az) hx
    refine .inl ⟨?_,?_,R,ar,(match o.dst with | some d=>(d,q.1)::S | none=>S),Fz.le_trans le ab,?_,?_,?_,ay⟩
    ·intro j oj B A e he W;by_cases s:j=i
     ·subst s;rw[z] at B;cases B
      have:=y e he W;simp only[KS];split
      ·rfl
      ·exact this
     ·have f:L j=true:=by simpa[KS,s] using A
      have:=I j oj B f e he W;simp only[KS];split
      ·rfl
      ·exact this
    ·intro j A;simp only[KS];rw[B2 qz];exact E j A
    ·cases hd:o.dst with
     | none=>exact hS
     | some d=>exact NW hS (HJ aI aB hd).2 _
    ·intro j d' v' A aC aD;by_cases s:j=i
     ·subst s;have a7:o.dst=some d' :=by simpa[Vo,z] using aC
      rw[Y] at aD;simp only[E4,UV] at aD
      subst aD;rw[a7];exact BI
     ·have f:L j=true:=by simpa[KS,s] using A
      have a8:j < k:=by
       rcases qs j k with h | h
       ·exact h
       ·rw[E j h] at f;cases f
      obtain⟨q',T,rfl⟩:=mo.1 aD;have h0:=hV j d' q'.1 f aC (by rw[ad j q' f T];rfl);cases hd:o.dst with
      | none=>exact h0
      | some d=>
       have aM:d≠d' :=λh=>by
        subst h;cases B:l[j]? with
        | none=>simp[Vo,B] at aC
        | some oj=>
         have bA:oj.dst=some d:=by simpa[Vo,B] using aC
         exact s<|Bu aI (by rw[yb,Bm a8];exact B) aB bA hd
       exact PX aM h0
    ·intro j q' A T G hG;by_cases s:j=i
     ·subst s;rw[Y] at T;cases T;exact ax G hG
     ·have f:L j=true:=by simpa[KS,s] using A
      exact hΦ j q' f (ad j q' f T) G<|Fz.le_trans ab hG
  ·
    have bB:=NL aH (i - k) o (by rw[ml];rw[show k+(i - k)=i by omega];exact z)
    have b:∀j,j < i->L j=true:=λj A=>by
     obtain⟨e,he,h1,h2⟩:=bB j qz;rw[<-h1];exact y e he h2
    have hw:W8 O P l.toArray (Zh O P ks Q) (l.drop i) a w:=by
     rcases hI with Z | ⟨u,hk,hL,aF⟩
     ·have bC:i=k:=by
       rcases qs k i with h | h
       ·have:=b k h;rw[Z.2.1 _<|S2 _] at this;cases this
       ·omega
      subst bC;exact N L a w b Z
     ·have:u=i:=by
       have h1:¬i < u:=λh=>by have:=(hL i).2 h;rw[K] at this;cases this
       have h2:¬u < i:=λh=>by have:=(hL u).1<|b u h;omega
       omega
      subst this;exact aF
    have aN:l.drop i=o::l.drop (i+1):=by
     have hg:l[i]'aK=o:=by simpa[aK] using z
     rw[<-hg];exact x2 aK
    rw[aN] at hw
    have V:∀a' w',W8 O P l.toArray (Zh O P ks Q) (l.drop<|i+1) a' w'->Inv (KS L i) a' w' :=λa' w' h=>
     .inr ⟨i+1,by omega,λj=>by
      simp only[KS];by_cases A:j=i
      ·simp[A]
      ·simp only[A,By];constructor
       ·intro f
        have:j < i:=by
         rcases qs j i with h | h
         ·exact h
         ·rcases hI with Z | ⟨u,hk,hL,_⟩
          ·rw[Z.2.1 j qz] at f;cases f
          ·have h1:=(hL j).1 f;have:=(hL i).2 qz;rw[K] at this;cases this
        omega
       ·intro bS;exact b j qz,h⟩
    unfold W8 at hw
    split
    ·rename_i aO;rw[Bm aO] at hw
     exact BE V hw
    ·rename_i aO;rw[B2 aO] at hw
     exact V _ _ hw
 ·intro L a w b hI
  have hw:W8 O P l.toArray (Zh O P ks Q) (l.drop l.length) a w:=by
    rcases hI with Z | ⟨u,hk,hL,aF⟩
    ·have bD:k=l.length:=by
      rcases qs k l.length with h | h
      ·have:=b k (by simpa using h);rw[Z.2.1 _<|S2 _] at this;cases this
      ·omega
     have:=N L a w (λi hi=>b i zg) Z
     rwa[bD] at this
    ·have:l.length<=u:=by
      rcases qs u l.length with h | h
      ·have:=(hL u).1 (b u<|by simpa using h);omega
      ·exact h
     rw[j0 this] at aF
     rw[j0<|S2 _];exact aF
  rw[j0<|S2 _] at hw
  exact hw
where
 stars_emps {hs:Q0 HP} {g:Nat} {m:Mem} (h:Qg hs m):Qg (hs++List.replicate g Aa) m:=by
  induction hs generalizing m with
  | nil=>
   rw[me]
   induction g generalizing m with
   | zero=>exact h
   | succ g ih=>exact⟨λ_=>none,m,λ_=>.inl rfl,λ_ _ e=>by simp at e,Mem.sub.refl _,trivial,ih trivial⟩
  | cons q hs ih=>exact QS (λm' h' =>ih h') h
theorem Gd.nil{ops:S1 Rw}{l:Q0 Rw}{X:Env->Q0 W6}{C:(Nat->Bool)->Env->Q0 HP}{k:Nat}:Gd O P ops l n D S0 F X C k []:=trivial
section
variable{ops:S1 Rw}{l:Q0 Rw}{X:Env->Q0 W6}{C:(Nat->Bool)->Env->Q0 HP}{L:Nat->Bool}{env:Env}{F' F2:Fz}{i d:Nat}{v:K2}{Si:Q0 (Nat×K2)}{x:β}{hs2:Q0 HP}
theorem allM:∀{k j:Nat} {M:Q0 Bool},SM l i j M (List.replicate k true)=true
 | 0,_,_=>rfl
 | k+1,j,M=>by
  simp only[List.replicate_succ,SM,oe,rW];exact allM
theorem GG.se(f:(X env)[i]? =some (v,λ_=>True))(g:C (KS L i) env=C L env)(le:F'<=F2):GL O P ops [] [] (G0 n D l X C L env F' i (some d) Si) (Hd n D ((d,v)::Si) F2<|C L env) (some x) x:=λ_ a w b=>⟨rfl,env,F2,le,⟨List.replicate (X env).length true,by simp,allM,rfl⟩,_,f,λ_ _=>trivial,⟨b.1,g▸b.2⟩⟩
theorem GG.aJ(a:Env)(M:Q0 Bool)(b:M.length=(X env).length)(f:SM l i 0 M M=true)(g:DT M (X env)=DT M (X a))(j:(X a)[i]? =some (v,q))(le:F'<=F2)(k:∀G,F2<=G->q G)
  (o:∀w,SH w F2 (Qg hs2)->SH w F2 (Qg<|C (KS L i) a)):GL O P ops [] [] (G0 n D l X C L env F' i (some d) Si) (Hd n D ((d,v)::Si) F2 hs2) (some x) x:=
 λ_ _a _w h=>⟨rfl,a,F2,le,⟨M,b,f,g⟩,_,j,k,⟨h.1,o _ h.2⟩⟩
theorem GG.aj(f:(X env)[i]? =some (v,λ_=>True))(le:F'<=F2)(g:hs2=C (KS L i) env):GL O P ops [] [] (G0 n D l X C L env F' i none Si) (Hd n D Si F2 hs2) (some x) x:=λ_ a w b=>⟨rfl,env,F2,le,⟨List.replicate (X env).length true,by simp,allM,rfl⟩,_,f,λ_ _=>trivial,⟨b.1,g▸b.2⟩⟩
end
theorem SH.place{p q:HP}(k:Nat)(a:hs[k]? =some q)(h:SH w F (Qg<|p::hs)):SH w F (Qg<|hs.set k p):=SH.push a ((h.mono λ_ b=>Zi<|QS (λ_=>DN (k:=k)) b).drop)
theorem J1{b:Bool}{x y:α}(h:b=true):cond b x y=x:=by rw[h];rfl
theorem KZ{b:Bool}{x y:α}(h:b=false):cond b x y=y:=by rw[h];rfl
theorem SH.si{p p' q:HP}(k:Nat)(a:hs[k]? =some q)(b:p' =p)(h:SH w F (Qg<|p::hs)):SH w F (Qg<|hs.set k p'):=b▸h.place k a
theorem LC{p p' :HP}(k:Nat)(a:p' =p):hs.set k p=hs.set k p' :=by rw[a]
theorem GG.norm{g:Gp}{S S' :Q0 (Nat×K2)}{hs b:Q0 HP}(h:Sub S' S)(j:hs=b)(k:GG g (Hd n D S' F b) m r):GG g (Hd n D S F hs) m r:=by
 exact λo a w f=>k o a w ⟨f.1.sub h,j▸f.2⟩
theorem GG.aZ{u A:A4}{F0:Fz}{y:Q2 C3}{a:Nat}{l l2:Q0 α}{T:S1 A4}(z:YB l l2=some l')(i:Nat)(E:U1 P e sz c)(g:F0<=F)(B:Nat.blt d n=true)(G:P.underlying t=some (.slice e))(j:P.underlying u=some (.slice A))(o:T[0]? =some t)(s:T[1]? =some u)
  (hi:hs[i]? =some (Qm sz c F0 e p cap l)) (H:QG sz c F y a l2) (I:QP S ox=some (.slice p l.length cap)) (K:QP S oy=some (.slice y l2.length a))
  (k:∀p' cap',GL O P ops rest ks Q (Hd n D ((d,.slice p' l'.length cap')::S) F<|hs.set i<|Qm sz c F e p' cap' l') m r):GL O P ops (⟨some d,.call ⟨.builtin .append,#[ox,oy],T⟩,ty,pos,after,none⟩::rest) ks Q (Hd n D S F hs) m r:=by
 have h:=GG.append (f:=λ_=>m) (pos:=pos) (after:=after) (ty:=ty) i E g B G j o s hi H I K (λM p' cap' b=>by rw[z] at b;cases b;exact k p' cap');rw[z] at h;exact h
theorem GG.pZ{e:Nat}{l:Q0 α}(g:ZV l x l.length=some l')(j:Nat.blt d n=true)(o:P.underlying t=some (.slice e))(s:∀w,(sizeOf e).run P w= .ok sz w)
  (u:QG sz c F p cap l) (y:QP S ox=some (.slice p l.length cap)) (z:QP S oy=some (.int kd x))
  (k:∀p' c',QG sz c F p' c' l'->GL O P ops rest ks Q (Hd n D ((d,.slice p' l'.length c')::S) F hs) m r):GL O P ops (⟨some d,.slice t ox (some oy) none none,ty,pos,after,none⟩::rest) ks Q (Hd n D S F hs) m r:=by
 have h:=GG.sv (f:=λ_=>m) (pos:=pos) (after:=after) (ty:=ty) j o s u y z (λA p' c' a b=>by rw[g] at a;cases a;exact k p' c' b);rw[g] at h;exact h
theorem GG.pL{j:IR}{e:Nat}{l:Q0 α}{b:mX}(o:ZV l 0 x=some l')(s:Nat.blt d n=true)(u:P.underlying t=some (.slice e))(y:∀w,(sizeOf e).run P w= .ok sz w)
  (z:QG sz c F p cap l) (A:QP S ox=some (.slice p l.length cap)) (B:QP S oy=some (.int kd x)) (E:QP S j=some (.int b x))
  (k:∀p' c',QG sz c F p' c' l'->GL O P ops rest ks Q (Hd n D ((d,.slice p' l'.length c')::S) F hs) m r):GL O P ops (⟨some d,.slice t ox none (some oy)<|some j,ty,pos,after,none⟩::rest) ks Q (Hd n D S F hs) m r:=by
 have h:=GG.tC (f:=λ_=>m) (pos:=pos) (after:=after) (ty:=ty) s u y z A B E (λG p' c' a g=>by rw[o] at a;cases a;exact k p' c' g);rw[o] at h;exact h
theorem GG.pY(f:Nat.blt d n=true)(g:P.underlying t=some (.slice e))(h:∀w,(sizeOf e).run P w= .ok sz w)(j:QP S ox=some (.slice none 0 0))(o:QP S oy=some (.int kd x))(s:x=0)
  (k:GL O P ops rest ks Q (Hd n D ((d,.slice none 0 0)::S) F hs) m r):GL O P ops (⟨some d,.slice t ox none (some oy) none,ty,pos,after,none⟩::rest) ks Q (Hd n D S F hs) m r:=
 GG.val f (λa w b=>by
  subst s;simp only[execOp,b.1.eval j,b.1.eval o,E4,lk,wt];rw[Tb g h qz];rfl) k
theorem GG.sO(c:U2 α)(o:Nat.blt d n=true)(s:P.underlying t=some (.slice e))(u:∀w,(sizeOf e).run P w= .ok sz w)
  (k:∀b,GL O P ops rest ks Q (Hd n D ((d,.slice (some ⟨b,0,none⟩) 0 0)::S) F<|Qm sz c F e (some ⟨b,0,none⟩) 0 []::hs) m r):GL O P ops (⟨some d,.buildSlice t 0 #[],ty,pos,after,none⟩::rest) ks Q (Hd n D S F hs) m r:=
 GG.step rfl (.inr rfl) λf a w j=>by
  have y:=j.2.alloc<|.cells #[] e;refine⟨.slice (some ⟨w.heap.size,0,none⟩) 0 0,w.alloc<|.cells #[] e,?_,k w.heap.size f _ _ ⟨j.1.put o _,y.mono λm f=>QR (λA h=>⟨by simp,by omega,.inr ⟨_,[],rfl,h,by simp,Je.nil⟩⟩) f⟩⟩;have z:∀g:Nat->K2,Array.map g (Array.range 0)=#[]:=λg=>by rw[show Array.range 0=#[] from rfl];simp
  simp[execOp,Instr.buildSlice,YA s,u,Result.andThen,newRow,z,Instr.fill]
theorem QC{a b:HP}{as bs:Q0 HP}(h:a=b)(t:as=bs):a::as=b::bs:=by rw[h,t]
theorem GG.sA{x:β}(a:Env)(M:Q0 Bool)(b:M.length=(X env).length)(f:SM l i 0 M M=true)(g:DT M (X env)=DT M (X a))(j:(X a)[i]? =some (v,q))(le:F'<=F2)(k:∀G,F2<=G->q G)
  (o:C (KS L i) a=hs2):GL O P ops [] [] (G0 n D l X C L env F' i (some d) Si) (Hd n D ((d,v)::Si) F2 hs2) (some x) x:=
 GG.aJ a M b f g j le k (λ_ h=>o▸h)
theorem GG.pG{x:β}(a:Env)(M:Q0 Bool)(b:M.length=(X env).length)(f:SM l i 0 M M=true)(g:DT M (X env)=DT M (X a))(j:(X a)[i]? =some (v,q))(le:F'<=F2)(k:∀G,F2<=G->q G)
  (o:C (KS L i) a=hs2):GL O P ops [] [] (G0 n D l X C L env F' i none Si) (Hd n D Si F2 hs2) (some x) x:=
 λ_ _a _w h=>⟨rfl,a,F2,le,⟨M,b,f,g⟩,_,j,k,⟨h.1,o▸h.2⟩⟩
end
end
section
variable{O:Q2 Nat}{μ:Md}
section
variable{β:Type}{P:C1}{ops:S1 Rw}{rest:Q0 Rw}{ks:Q0 Kt}{Q:gw->Act->B1->Prop}{m:Q2 β}{r:β}
variable{n:Nat}{D:Q0 TO}{S:Q0 (Nat×K2)}{F F0:Fz}{hs:Q0 HP}
theorem GG.sJ{α:Type}{a:Nat}{c:U2 α}{T:A4}{p:Q2 C3}{cap:Nat}{l l' :Q0 α}(i:Nat)(_hi:hs[i]? =some (Qm a c F0 T p cap l))(e:l=l')(k:GL O P ops rest ks Q (Hd n D S F<|hs.set i<|Qm a c F0 T p cap l') m r):GL O P ops rest ks Q (Hd n D S F hs) m r:=by
 subst e
 have:hs.set i (Qm a c F0 T p cap l)=hs:=by
  apply mg;intro j;rw[my];split
  ·rename_i h;subst h;split
   ·exact _hi.symm
   ·rename_i h;rw[td qz]
  ·rfl
 rw[this] at k;exact k
end
end
section
variable{α:Type}
def FW(W:B1):Fz:={mem:=λb=>W.heap[b]?,os:=W.os,tape:=W.tape,out:=W.output}
theorem SH.start(W:B1):SH W (FW W) Aa:=⟨λ_=>none,trivial,⟨λ_=>.inl rfl,λ_ _ e=>by simp at e,λ_ _ e=>by simp at e,λ_ _ e=>e,rfl,rfl,rfl⟩⟩
def Sk{H:Type}(enc:A4×K2->H)(P:C1)(W:B1)(t:A4)(c:U2 α)(ok:α->Prop):Prop:=∀d held a cs x,DataW.trod enc P W 0 d held a t cs=some x->∃m,ok m/\∀b,FW W<=b->c b m cs
section
variable{H:Type}{enc:A4×K2->H}{P:C1}{W:B1}
theorem qQ{β:Type}{f:α->Q2 β}:∀{l:Q0 α} {r:Q0 β},l.mapM f=some r->∀(i:Nat) (a:α),l[i]? =some a->∃b,f a=some b/\r[i]? =some b
 | [],r,h,i,a,e=>by simp at e
 | a::l,r,h,i,j,e=>by
  rw[List.mapM_cons] at h
  cases c:f a with
  | none=>rw[c] at h;simp at h
  | some b=>
   rw[c] at h
   cases d:l.mapM f with
   | none=>rw[d] at h;simp at h
   | some bs=>
    rw[d] at h;simp at h;subst h
    cases i with
    | zero=>simp at e;subst e;exact⟨b,c,by simp⟩
    | succ i=>exact qQ d i j (by simpa using e) |>.imp λb g=>⟨g.1,by simpa using g.2⟩
theorem jJ{q:Nat->α->Prop}:∀(n:Nat),(∀i,i < n->∃m,q i m)->∃l:Q0 α,l.length=n/\∀i m,l[i]? =some m->q i m
 | 0,_=>⟨[],rfl,λi m h=>by simp at h⟩
 | n+1,h=>by
  obtain⟨l,a,b⟩:=jJ n λi hi=>h i qz;obtain⟨m,c⟩:=h n qz;refine⟨l++[m],by simp[a],λi d e=> ?_⟩;rcases qs i l.length with hi | hi
  ·rw[x4 hi] at e;exact b i d e
  ·rw[ta hi] at e
   have:i - l.length=0:=by have:=Zm e;simp at this;omega
   rw[this] at e;simp at e;subst e
   rw[show i=n by omega];exact c
theorem jW{w:B1}{a:C3}{v:K2}(h:w.cell? a=some v):a.spot=none/\∃cs T fr,w.heap[a.block]? =some (.cells cs T fr)/\cs[a.off]? =some v:=by
 unfold World.cell? at h
 split at h
 ·rename_i c T fr b;split at h
  ·cases h
  ·rename_i hs;exact⟨by simpa using hs,c,T,fr,b,h⟩
 ·cases h
theorem addr_add(b o i:Nat):(⟨b,o,none⟩:C3).add i=⟨b,o+i,none⟩:=by
 unfold Addr.add;split
 ·rename_i h;subst h;rfl
 ·rfl
theorem Eu(a:C3):a.add 0=a:=by simp[Addr.add]
theorem qt{w:B1}{a:C3}{n:Nat}{vs:Q0 K2}(h:w.cells? 0 a n=some vs)(g:0 < n):a.spot=none/\∃cs T fr,w.heap[a.block]? =some (.cells cs T fr)/\(cs.toList.drop a.off).take n=vs:=by
 obtain⟨_,k,e⟩:=World.cells?_some h;have j:vs[0]? =some (vs[0]'(by omega)):=C2 _;have f:=(e 0 g).trans j;rw[Eu] at f
 obtain⟨hs,cs,T,fr,d,_⟩:=jW f;refine⟨hs,cs,T,fr,d,?_⟩;obtain⟨b,o,s⟩:=a;simp only at hs d ⊢
 subst hs;apply mg;intro i;rw[yb];split
 ·rename_i hi;have c:=e i hi;rw[addr_add] at c
  unfold World.cell? at c
  simp only[d] at c
  simp at c
  rw[ml,<-c];simp
 ·rename_i hi;rw[td qz]
theorem Sk.slice{t e g:Nat}{c:U2 α}{ok:α->Prop}(F:P.underlying t=some (.slice e))(Q:P.cellsOf e=g)(j:0 < g)(V:Sk enc P W e c ok):Sk enc P W t (ft g c) (λl=>∀x∈l,ok x):=by
 intro R held k cs x h;cases k with
 | zero=>simp[DataW.trod] at h
 | succ n=>
  unfold DataW.trod at h
  rw[F] at h
  split at h<;>simp_all only[reduceCtorEq,UV,TypeDesc.slice.injEq]
  ·exact⟨[],by simp,λr _=>⟨none,0,rfl,QG.nil⟩⟩
  ·rename_i _ _ S a len cap he;subst he;split at h
   ·rename_i G;obtain⟨elems,he,_⟩:=x8.1 h
    have u:∀i,i < len->∃m,ok m/\∃vs,W.cells? 0 (a.add<|i*g) g=some vs/\∀r,FW W<=r->c r m vs:=by
     intro i hi;obtain⟨y,v,_⟩:=qQ he i i (by simp[hi]);obtain⟨vs,w,v⟩:=x8.1 v;obtain⟨m,I,z⟩:=V _ _ _ _ _ v;exact⟨m,I,vs,w,z⟩
    obtain⟨l,K,A⟩:=jJ len u;refine⟨l,λx B=> ?_,λr le=>⟨some a,cap,by rw[K],by omega,?_,?_⟩⟩
    ·obtain⟨i,hi,e⟩:=mz B;exact(A i x (by rw[<-e];exact C2 hi)).1
    ·have:=G.2.2;simp[maxLen] at this;omega
    ·cases l with
     | nil=>exact .inl rfl
     | cons L X=>
      obtain⟨_,M,p,_⟩:=A 0 L rfl;rw[Nat.zero_mul,Eu] at p
      obtain⟨hs,cs,T,fr,f,_⟩:=qt p j;obtain⟨b,o,s⟩:=a;simp only at hs f
      subst hs;refine .inr ⟨b,o,cs,T,fr,rfl,?_,λi x B C D=> ?_⟩
      ·exact le.mem _ _ f
      ·obtain⟨_,vs,E,z⟩:=A i x B;rw[addr_add] at E
       obtain⟨_,cs',Y,N,d,q⟩:=qt E j;simp only at d q
       rw[f] at d;cases d
       have:=z C<|Fz.le_trans le D;rw[<-q] at this
       exact this
   ·cases h
end
end
section
open Go.ChangeShapes Go.WideShapes Go.ChangeAt Go.RowKit
variable{t:A4}{v:K2}{b0:Nat}
section
variable{H:Type}{enc:A4×K2->H}{P:C1}{W:B1}
theorem kT{r:Reach}{x:K2}(b:Value.okWide P W r b0 t v)(d:∀c,P.underlying t≠some (.struct c))(f:∀n e,P.underlying t≠some (.array n e))(g:v.cells.toList=[x]):v=x:=by
 have a:Cell.okWide P W r b0 t v:=by
  unfold Value.okWide at b
  split at b
  ·rename_i c h;exact absurd h<|d c
  ·rename_i n e h;exact absurd h<|f n e
  ·exact b
 cases v with
 | agg cs=>
  exfalso;unfold Cell.okWide at a
  split at a<;>first | contradiction | skip
  unfold Cell.ok at a
  split at a<;>first | contradiction | exact a
 | _=>simpa[Value.cells] using g
theorem fD{k:mX}{d:DataW H}{ps:Q0 MemPlace}(a:P.underlying t=some (.int k))(b:Value.okWide P W .any b0 t v)(c:DataW.Trod enc P W 0 (λ_=>true) true t v d ps):∃m,(Lit.int k m).wf=true/\v= .int k m:=by
 obtain⟨n,h,_,_,e⟩:=open_int a b c;exact⟨n,e,h⟩
theorem wD{α:Type}{e:A4}{a:Nat}{c:U2 α}{ok:Q0 α->Prop}{d:DataW H}{ps:Q0 MemPlace}(b:P.underlying t=some (.slice e))(V:Sk enc P W t (ft a c) ok)
  (g:Value.okWide P W .any b0 t v) (h:DataW.Trod enc P W 0 (λ_=>true) true t v d ps):∃m p k,ok m/\v= .slice p m.length k/\QG a c (FW W) p k m:=by
 obtain⟨f,i⟩:=h;obtain⟨m,j,l⟩:=V _ _ _ _ _ i;obtain⟨p,k,n,o⟩:=l _<|Fz.le_refl _;exact⟨m,p,k,j,kT g (by rw[b];simp) (by rw[b];simp) n,o⟩
theorem wC{w' :B1}{c:Fz}{H' :HP}(le:FW W<=c)(h:SH w' c H'):Below W.heap.size W w' :=by
 obtain⟨d,f⟩:=SH.size_le h (λb o e=>e) le;obtain⟨m,_,a⟩:=h;exact⟨a.os.trans le.os,a.tape.trans le.tape,a.out.trans le.out,d,f⟩
theorem AM{g:B1}(i:laidOutB P=true)(j:Below W.heap.size W g):∀{c:Q0 A4} {vs:Q0 K2} {ds:Q0 (DataW H)} {ps:Q0 MemPlace},(c.all λt=>P.readableRec t&&decide (t < P.types.size))=true->
  DataW.TrodAll enc P W 0 (λ_=>true) true c vs ds ps->(∀x∈ps,x.block < W.heap.size)->DataW.TrodAll enc P g 0 (λb=>decide<|b < W.heap.size) true c vs ds ps
 | [],vs,ds,ps,_,h,_=>by
  obtain⟨rfl,rfl,rfl⟩:=trodAll_nil h;rfl
 | t::c,vs,ds,ps,e,h,a=>by
  obtain⟨v,vs',d,k,p,q,rfl,rfl,rfl,l,m⟩:=trodAll_cons h;simp only[s8,BY,AT] at e
  exact⟨p,q,j.trod i e.1.1 e.1.2 l (λx f=>a x<|by simp[f]),AM i j (by simpa using e.2) m (λx f=>a x<|by simp[f]),rfl⟩
theorem RA:∀{a:Q0 A4} {vs:Q0 K2} {ds:Q0 (DataW H)} {ps:Q0 MemPlace} {b:Nat} {c:Nat->Bool} {e:Bool},DataW.TrodAll enc P W b c e a vs ds ps->ds.length=a.length
 | [],vs,ds,ps,_,_,_,h=>by obtain⟨_,rfl,_⟩:=trodAll_nil h;rfl
 | t::a,vs,ds,ps,_,_,_,h=>by
  obtain⟨v,vs',d,f,p,q,rfl,rfl,rfl,_,g⟩:=trodAll_cons h;simp[RA g]
end
end
section
variable{σ β α τ:Type}{err:Q0 α->α->Int}{l pre:Q0 α}{x:α}
theorem Qi{n:Int}(a: -9223372036854775808<=n)(b:n<=9223372036854775807):Qz n=n:=by
 have e:IntKind.i64.bits=64:=rfl;simp only[Qz,IntKind.wrap,e];simp[IntKind.signed];omega
theorem Zy(l:Q0 α)(i:Nat):ZW l (i:Int)=l[i]? :=by
 simp[ZW]
theorem xM{i:Int}(b:0<=i)(h:i < l.length):∃x,ZW l i=some x/\l[i.toNat]? =some x:=by
 obtain⟨k,rfl⟩:=eo b;rw[Zy];have a:k < l.length:=by omega
 exact⟨l[k],C2 a,by simp[a]⟩
theorem GN{n i:Nat}(h:i < n):VM n (i:Int)=some i:=by
 unfold VM;rw[Bm qz];simp
theorem Ns{x y:Int}(h:0 < y)(c:0<=x)(d:x<=9223372036854775807):DC .i64 x y=some (x / y):=by
 unfold DC;rw[B2 qz,mZ c];have a:=eU c<|Int.le_of_lt h;have b:=Int.ediv_le_self y c;rw[show IntKind.i64.wrap (x / y)=Qz (x / y) from rfl,Qi qz qz]
theorem wf_u16{n:Int}(h:(Lit.int .u16 n).wf=true):0<=n/\n<=65535:=by
 have a:IntKind.min .u16=0:=by decide
 have b:IntKind.max .u16=65535:=by decide
 simp only[Lit.wf,BY,AT,a,b] at h
 exact h
def R6(step:τ->Nat->α->Q2 (UP τ β))(a:τ->β):Q0 α->Nat->τ->Q2 β
 | [],_,t=>some (a t)
 | x::l,i,t=>match step t i x with
  | none=>none
  | some (.next t')=>R6 step a l (i+1) t'
  | some (.done b)=>some b
def UP.ax(f:τ->σ):UP τ β->UP σ β
 | .next t=>.next (f t)
 | .done b=>.done b
variable{body:σ->Q2 (UP σ β)}
theorem Tj(mk:τ->Nat->σ)(step:τ->Nat->α->Q2 (UP τ β))(a:τ->β)(l:Q0 α)
  (e:∀t (i:Nat) x,l[i]? =some x->body (mk t i)=(step t i x).map (UP.ax λt' =>mk t'<|i+1))
  (he:∀t,body (mk t l.length)=some (.done<|a t)):∀(k i:Nat) (t:τ),i+k=l.length->ZT body (mk t i)=R6 step a (l.drop i) i t
 | 0,i,t,hi=>by
  have:i=l.length:=by omega
  subst this;rw[ZJ,he,List.drop_length];rfl
 | k+1,i,t,hi=>by
  have d:i < l.length:=by omega
  have f:l[i]? =some l[i]:=C2 d;rw[ZJ,e t i _ f,x2 d];simp only[R6];cases hs:step t i l[i] with
  | none=>rfl
  | some c=>
   cases c with
   | done b=>rfl
   | next t' =>exact Tj mk step a l e he k (i+1) t' qz
theorem BH(mk:τ->Nat->σ)(step:τ->Nat->α->Q2 (UP τ β))(a:τ->β)(l:Q0 α)
  (b:∀t (i:Nat) x,l[i]? =some x->body (mk t i)=(step t i x).map (UP.ax λt' =>mk t'<|i+1))
  (he:∀t,body (mk t l.length)=some (.done<|a t)) (t:τ):ZT body (mk t 0)=R6 step a l 0 t:=
 Tj mk step a l b he l.length 0 t qz
theorem AW(mk:τ->Nat->σ)(step:τ->Nat->α->Q2 (UP τ β))(a:τ->β)(l:Q0 α)(J:Nat->τ->Prop)
  (f:∀t (i:Nat) x,l[i]? =some x->J i t->body (mk t i)=(step t i x).map (UP.ax λt' =>mk t'<|i+1))
  (g:∀t (i:Nat) x t',l[i]? =some x->J i t->step t i x=some (.next t')->J (i+1) t')
  (he:∀t,J l.length t->body (mk t l.length)=some (.done<|a t)):∀(k i:Nat) (t:τ),i+k=l.length->J i t->ZT body (mk t i)=R6 step a (l.drop i) i t
 | 0,i,t,hi,e=>by
  have:i=l.length:=by omega
  subst this;rw[ZJ,he t e,List.drop_length];rfl
 | k+1,i,t,hi,e=>by
  have d:i < l.length:=by omega
  have h:l[i]? =some l[i]:=C2 d;rw[ZJ,f t i _ h e,x2 d];simp only[R6];cases hs:step t i l[i] with
  | none=>rfl
  | some c=>
   cases c with
   | done b=>rfl
   | next t' =>exact AW mk step a l J f g he k (i+1) t' qz<|g t i _ t' h e hs
def Wn(err:Q0 α->α->Int)(l:Q0 α):Prop:=∀pre x post,l=pre++x::post->err pre x=0
def Sr(err:Q0 α->α->Int)(l pre:Q0 α)(x:α):Prop:=∃post,l=pre++x::post/\Wn err pre/\err pre x≠0
theorem Wn.nil{α:Type}{err:Q0 α->α->Int}:Wn err []:=λpre x post h=>by simp at h
theorem Wn.snoc(h:Wn err l)(c:err l x=0):Wn err (l++[x]):=by
 intro pre y post e;rcases List.eq_nil_or_concat post with rfl | ⟨a,z,rfl⟩
 ·have:=List.append_inj' e rfl;obtain⟨rfl,b⟩:=this;simp only[lW,o8] at b
  subst b;exact c
 ·rw[List.concat_eq_append,<-s9,<-List.append_assoc] at e
  have:=List.append_inj' e rfl;exact h pre y a this.1
theorem Wn.init{k:Q0 α}(h:Wn err (l++k)):Wn err l:=λpre x post e=>h pre x (post++k) (by rw[e];simp)
theorem Sr.nH(h:Sr err l pre x):¬Wn err l:=λk=>by
 obtain⟨post,e,_,a⟩:=h;exact a<|k pre x post e
theorem G7(mk:Nat->τ->σ)(err:Q0 α->α->Int)(b:Nat->Int->β)(c:τ->β)(R:Q0 α->τ->Prop)(l:Q0 α)
  (h:∀pre x post t,l=pre++x::post->Wn err pre->R pre t->(err pre x≠0/\body (mk pre.length t)=some (.done<|b pre.length<|err pre x))∨(err pre x=0/\∃t',body (mk pre.length t)=some (.next<|mk (pre.length+1) t')/\R (pre++[x]) t'))
  (a:∀t,Wn err l->R l t->body (mk l.length t)=some (.done<|c t)):∀(post pre:Q0 α) (t:τ),l=pre++post->Wn err pre->R pre t->
  (∃p x,Sr err l p x/\ZT body (mk pre.length t)=some (b p.length<|err p x))∨(Wn err l/\∃t',R l t'/\ZT body (mk pre.length t)=some (c t'))
 | [],pre,t,d,e,f=>by
  rw[mf] at d;subst d
  exact .inr ⟨e,t,f,by rw[ZJ,a t e f]⟩
 | x::post,pre,t,d,e,f=>by
  rcases h pre x post t d e f with⟨he,hs⟩ | ⟨he,t',hs,g⟩
  ·exact .inl ⟨pre,x,⟨post,d,e,he⟩,by rw[ZJ,hs]⟩
  ·have:=G7 mk err b c R l h a post (pre++[x]) t' (by rw[d];simp) (e.snoc he) g;rw[ZJ,hs];simpa using this
theorem HN(mk:Nat->τ->σ)(b:τ->β)(R:Q0 α->τ->Prop)(l:Q0 α)
  (h:∀pre x post t,l=pre++x::post->R pre t->∃t',body (mk pre.length t)=some (.next<|mk (pre.length+1) t')/\R (pre++[x]) t')
  (a:∀t,R l t->body (mk l.length t)=some (.done<|b t)):∀(post pre:Q0 α) (t:τ),l=pre++post->R pre t->∃t',R l t'/\ZT body (mk pre.length t)=some (b t')
 | [],pre,t,c,d=>by
  rw[mf] at c;subst c
  exact⟨t,d,by rw[ZJ,a t d]⟩
 | x::post,pre,t,c,d=>by
  obtain⟨t',hs,e⟩:=h pre x post t c d;have:=HN mk b R l h a post (pre++[x]) t' (by rw[c];simp) e;rw[ZJ,hs];simpa using this
theorem H3(mk:Nat->τ->σ)(b:τ->β)(R:Nat->τ->Prop)(n:Nat)
  (h:∀i t,i < n->R i t->∃t',body (mk i t)=some (.next<|mk (i+1) t')/\R (i+1) t')
  (a:∀t,R n t->body (mk n t)=some (.done<|b t)):∀(k i:Nat) (t:τ),i+k=n->R i t->∃t',R n t'/\ZT body (mk i t)=some (b t')
 | 0,i,t,e,c=>by
  have:i=n:=by omega
  subst this;exact⟨t,c,by rw[ZJ,a t c]⟩
 | k+1,i,t,e,c=>by
  obtain⟨t',hs,d⟩:=h i t qz c;rw[ZJ,hs];exact H3 mk b R n h a k (i+1) t' qz d
theorem ZQ{e:Q2 α}{f:α->Q2 β}{a:α}{r:Q2 β}(h:e=some a)(k:f a=r):e.bind f=r:=by
 rw[h];exact k
theorem TI{k:Q0 α}(h:l.length+k.length<=4294967296):YB l k=some (l++k):=by
 unfold YB;rw[Bm h]
theorem Vm{post:Q0 α}(h:l=pre++x::post):l[pre.length]? =some x:=by rw[h];simp
theorem Xq{post:Q0 α}(h:l=pre++x::post):pre.length < l.length:=by rw[h];simp
theorem Cy{p:Q0 α->Prop}(niX:p [])(snX:∀l x,p l->p (l++[x]))(l:Q0 α):p l:=by
 have:∀r:Q0 α,p r.reverse:=by
  intro r
  induction r with
  | nil=>exact niX
  | cons x r a=>rw[List.reverse_cons];exact snX _ _ a
 have:=this l.reverse
 rwa[List.reverse_reverse] at this
theorem qR(I:σ->Prop)(μ:σ->Nat)(Q:β->Prop)
  (h:∀s,I s->(∃a,body s=some (.next a)/\I a/\μ a < μ s)∨∃b,body s=some (.done b)/\Q b):∀(n:Nat) (s:σ),μ s<=n->I s->∃b,ZT body s=some b/\Q b
 | 0,s,g,hi=>by
  rcases h s hi with⟨a,_,_,d⟩ | ⟨b,c,e⟩
  ·omega
  ·exact⟨b,by rw[ZJ,c],e⟩
 | n+1,s,g,hi=>by
  rcases h s hi with⟨a,c,f,d⟩ | ⟨b,c,e⟩
  ·rw[ZJ,c];exact qR I μ Q h n a qz f
  ·exact⟨b,by rw[ZJ,c],e⟩
end
section
variable{P:C1}{α τ γ β σ:Type}{arg:α->Fz->Q0 K2->Prop}{S:Q0 (Nat×K2)}{w:B1}{Q:gw->Act->B1->Prop}{F Fb:Fz}{hs hs':Q0 HP}{l n:Nat}{L:Loop}{D:Q0 TO}{vs:Q0 K2}{assign body:ln}{m:Q2 β}{ks:Q0 Kt}{f:L3}{r:β}{fn:lg}
variable{O:Q2 Nat}{μ:Md}
theorem L6{a:S1 K2}{R:oO->B1->Prop}:RoundIn (Rm O) n P l f a assign body w R↔RoundIn Fence.wide n P l f a assign body w R:=by
 cases O with
 | none=>exact Iff.rfl
 | some l=>exact Iff.rfl
def WK(P:C1)(l:Nat)(F:Fz)(arg:α->Fz->Q0 K2->Prop)(Y:σ->Fz->HP)(y:α->σ->Q2 (σ×Bool)):Prop:=
 (∀s F0 a m,F<=F0->F0<=a->Y s F0 m->Y s a m)/\
 ∀a,F<=a->∀x vs s r,arg x a vs->y x s=some r->∀w R,SH w a (star (Y s a) R)->
  ∃f b assign body,(Instr.yield l vs.toArray).run P w= .ok (.round l f b assign body) w/\
   RoundIn Fence.wide 0 P l f b assign body w (λe w' =>∃c,a<=c/\e= .returned (.bool r.2)/\SH w' c (star (Y r.1 c) R))
def wQ(P:C1)(F:Fz)(f:L3)(caps:Q0 K2)(arg:α->Fz->Q0 K2->Prop)(mk:∀σ:Type,(α->σ->Q2 (σ×Bool))->σ->Q2 σ):Prop:=
 (∀args w,(callFunc f args).run P w= .ok (.enter f args) w)/\
 ∀(σ:Type) (l:Nat) (Y:σ->Fz->HP) (y:α->σ->Q2 (σ×Bool)) (a:Fz),F<=a->WK P l a arg Y y->∀s,CT P f (.func (.yield l) #[] #[]::caps).toArray a (Y s a) (mk σ y s) (λ_ _ _=>True) λb c _=>Y b c
section
variable{β:Type}{P:C1}{ops:S1 Rw}{rest:Q0 Rw}{ks:Q0 Kt}{Q:gw->Act->B1->Prop}{m:Q2 β}{r:β}
variable{n:Nat}{D:Q0 TO}{S:Q0 (Nat×K2)}{F:Fz}{hs:Q0 HP}
theorem GG.tS{d i:Nat}{ty:A4}{pos:String}{after:S1 ll}{of:IR}{os:Q0 IR}{T:S1 A4}{F0:Fz}{Y:σ->Fz->HP}{y:α->σ->Q2 (σ×Bool)}{x:α}{s:σ}{g:σ×Bool->Q2 β}
  (z:Nat.blt d n=true) (v:WK P l Fb arg Y y) (A:QP S of=some (.func (.yield l) #[] #[])) (B:Uk S os=some vs) (C:arg x F vs) (hi:hs[i]? =some (Y s F0)) (h:Fb<=F0) (le:F0<=F)
  (k:∀p t,y x s=some p->F<=t->GL O P ops rest ks Q (Hd n D ((d,.bool p.2)::S) t<|hs.set i<|Y p.1 t) (g p) r):GL O P ops (⟨some d,.call ⟨.value of,os.toArray,T⟩,ty,pos,after,none⟩::rest) ks Q (Hd n D S F hs) ((y x s).bind g) r:=by
 intro c a w q;cases he:y x s with
 | none=>rw[he] at c;cases c
 | some p=>
  rw[he] at c
  obtain⟨f,j,assign,body,E,b⟩:=v.2 F (Fz.le_trans h le) x vs s p C he w _<|(q.2.pull hi).mono λ_ c=>QR (λ_ c=>v.1 s F0 F _ h le c) c;refine fo ?_;unfold W8;rw[Bm<|by simp[Region.wanted]];refine⟨.inr rfl,?_⟩;have e:=HO q.1 B
  have o:(execOp a.eval ⟨some d,.call ⟨.value of,os.toArray,T⟩,ty,pos,after,none⟩).run P w= .ok (.round l f j assign body) w:=by
   simp[execOp,resolve,Deferred.ofValue,q.1.eval A,e,invoke,E]
  rw[o];refine⟨λe=>(by rw[BN] at e;cases e),L6.2<|b.mono ?_⟩;rintro _ w' ⟨G,u,rfl,H⟩;exact k p G he u c _ _ ⟨q.1.put z _,SH.push hi H⟩
theorem GG.mL{g:Gp}{F0:Fz}{Y:σ->Fz->HP}{y:α->σ->Q2 (σ×Bool)}{s:σ}(i:Nat)(c:WK P l Fb arg Y y)(hi:hs[i]? =some (Y s F0))(a:Fb<=F0)(le:F0<=F)
  (k:GG g (Hd n D S F<|hs.set i<|Y s F) m r):GG g (Hd n D S F hs) m r:=by
 exact GG.tB (λ_ _ h=>⟨h.1,SH.push hi<|(h.2.pull hi).mono λ_ b=>QR (λ_ b=>c.1 s F0 F _ a le b) b⟩) k
end
def UH(L:Loop):Obj:=.loop {L with state:=.ready,pending:=none}
def UC(L:Loop):Obj:=.loop {L with state:=.busy,pending:=none}
def qV(L:Loop):Obj:=.loop {L with state:=.done,pending:=some .ret}
def Ti(L:Loop)(c:Q2 ln):Obj:=.loop {L with state:=.exhausted,pending:=c}
def je(body:α->τ->Q2 (UP τ γ)):α->UP τ γ->Q2 (UP τ γ×Bool)
 | x,.next s=>(body x s).map λc=>(c,match c with | .next _=>true | .done _=>false)
 | _,.done _=>none
def yS(Fb:Fz)(l:Nat)(L:Loop)(I:τ->Fz->Q0 HP->Prop)(J:γ->Fz->Q0 HP->Prop):UP τ γ->Fz->HP
 | .next s,F=>λm=>∃F0 hs,Fb<=F0/\F0<=F/\I s F0 hs/\star (pt l<|UH L) (Qg hs) m
 | .done b,F=>λm=>∃F0 hs,Fb<=F0/\F0<=F/\J b F0 hs/\star (pt l<|qV L) (Qg hs) m
def RP(l:Nat)(L:Loop)(I:τ->Fz->Q0 HP->Prop)(J:γ->Fz->Q0 HP->Prop)(d:Fz)(R:HP)(c:UP τ γ):gw->Act->B1->Prop:=λe _ w=>
 match c with
 | .next s=>e= .normal/\∃a hs,d<=a/\I s a hs/\SH w a (Qg<|pt l (UC L)::R::hs)
 | .done b=>e= .ret/\∃a hs,d<=a/\J b a hs/\SH w a (Qg<|pt l (UC L)::R::hs)
def BP(P:C1)(l:Nat)(body:ln)(Q:gw->Act->B1->Prop):gw->Act->B1->Prop:=λe a w=>
 e= .normal/\∃w₂,(Instr.beginRound l).run P w= .ok () w₂/\body.wpIn (Rm<|some l) 0 P Q a w₂
theorem jw(h:w.heap[l]? =some (UH L)):(Instr.beginRound l).run P w= .ok () (put w l<|UC L):=run_beginRound (r:={L with state:=.ready,pending:=none}) h rfl
theorem I0(h:w.heap[l]? =some (UC L)):(Instr.endRound l none).run P w= .ok (.bool true) (put w l<|UH L):=run_endRound (r:={L with state:=.busy,pending:=none}) none h
theorem vh(h:w.heap[l]? =some (UC L)):(Instr.endRound l<|some .ret).run P w= .ok (.bool false) (put w l<|qV L):=run_endRound (r:={L with state:=.busy,pending:=none}) (some .ret) h
theorem D5(h:w.heap[l]? =some (UH L)):(Instr.endLoop l).run P w= .ok none (put w l<|Ti L none):=run_endLoop (r:={L with state:=.ready,pending:=none}) h zh
theorem Lz(h:w.heap[l]? =some (qV L)):(Instr.endLoop l).run P w= .ok (some .ret) (put w l<|Ti L<|some .ret):=run_endLoop (r:={L with state:=.done,pending:=some .ret}) h zh
section
variable{β:Type}{P:C1}{m:Q2 β}{r:β}{n:Nat}{D:Q0 TO}{S:Q0 (Nat×K2)}{F F1:Fz}{hs:Q0 HP}{R:HP}
variable{α τ γ:Type}{l:Nat}{L:Loop}{I:τ->Fz->Q0 HP->Prop}{J:γ->Fz->Q0 HP->Prop}{body assign:ln}
theorem GG.begin(i:Nat)(hi:hs[i]? =some (pt l<|UH L))(k:GC (some l) P body [] Q (Hd n D S F<|hs.set i<|pt l<|UC L) m r):GE (some l) P [] (BP P l body Q) (Hd n D S F hs) m r:=λc a _ b=>⟨rfl,_,jw<|SH.cp hi b.2,k c a _ ⟨b.1,SH.putAt hi b.2 _⟩⟩
theorem RP.norm{s:τ}{b:UP τ γ}{hs' :Q0 HP}(le:F1<=F)(h:I s F hs')(e:hs=pt l (UC L)::R::hs'):some (UP.next s)=some b->∀a w,Hd n D S F hs a w->RP l L I J F1 R b .normal a w:=λc a w d=>by
 simp only[UV] at c;subst c;subst e;exact⟨rfl,F,hs',le,h,d.2⟩
theorem RP.ret{b:γ}{c:UP τ γ}(le:F1<=F)(h:J b F hs')(e:hs=pt l (UC L)::R::hs'):some (UP.done b)=some c->∀a w,Hd n D S F hs a w->RP l L I J F1 R c .ret a w:=λd a w g=>by
 simp only[UV] at d;subst d;subst e;exact⟨rfl,F,hs',le,h,g.2⟩
theorem RP.tH{s b:τ}(le:F1<=F)(h:I s F hs')(e:hs=pt l (UC L)::R::hs'):some s=some b->∀a w,Hd n D S F hs a w->RP l L I J F1 R (.next b) .normal a w:=λc a w d=>by
 simp only[UV] at c;subst c;subst e;exact⟨rfl,F,hs',le,h,d.2⟩
theorem SH.three{p q:HP}(h:SH w F (Qg<|p::q::hs)):SH w F (star (star p<|Qg hs) q):=
 h.mono λm t=>by
  obtain⟨a,B,d,u,g,v,x⟩:=t;obtain⟨y,i,z,j,b,c,A⟩:=x
  classical
  refine⟨λk=>if a k=none then i k else a k,y,?_,?_,j.trans g,⟨a,i,d.sub (Mem.sub.refl _) b,?_,?_,v,A⟩,c⟩
  ·intro k;by_cases e:a k=none
   ·simp only[e,B3];exact(z k).symm
   ·simp only[e,By];rcases(d.sub (Mem.sub.refl a) j) k with h | h
    ·exact absurd h e
    ·exact .inr h
  ·intro k o e;by_cases s:a k=none
   ·simp only[s,B3] at e;exact g k o<|b k o e
   ·simp only[s,By] at e;exact u k o e
  ·intro k o e;simp[e]
  ·intro k o e;have:a k=none:=(d.sub (Mem.sub.refl a) b).al e;simp[this,e]
theorem SH.aa{p q:HP}(h:SH w F (star (star p<|Qg hs) q)):SH w F (Qg<|p::q::hs):=
 h.mono λm s=>by
  obtain⟨A,a,d,c,t,⟨u,g,v,i,b,x,y⟩,z⟩:=s
  classical
  refine⟨u,λk=>if a k=none then g k else a k,?_,i.trans c,?_,x,a,g,?_,?_,?_,z,y⟩
  ·intro k;by_cases e:a k=none
   ·simp only[e,B3];exact v k
   ·simp only[e,By];rcases(d.sub i<|Mem.sub.refl a) k with h | h
    ·exact .inl h
    ·exact absurd h e
  ·intro k o e;by_cases j:a k=none
   ·simp only[j,B3] at e;exact c k o<|b k o e
   ·simp only[j,By] at e;exact t k o e
  ·exact(d.sub b<|Mem.sub.refl a).symm
  ·intro k o e;simp[e]
  ·intro k o e;have:a k=none:=(d.sub b<|Mem.sub.refl a).c9 e;simp[this,e]
theorem SH.sk{s:τ}(h:SH w F (star (yS Fb l L I J (.next s) F) R)):∃F0 hs,Fb<=F0/\F0<=F/\I s F0 hs/\SH w F (Qg<|pt l (UH L)::R::hs):=by
 obtain⟨m,⟨a,b,d,c,e,⟨F0,hs,g,i,j,o⟩,p⟩,k⟩:=h;exact⟨F0,hs,g,i,j,SH.aa ⟨m,⟨a,b,d,c,e,o,p⟩,k⟩⟩
theorem SH.tG{b:γ}(h:SH w F (star (yS Fb l L I J (.done b) F) R)):∃F0 hs,Fb<=F0/\F0<=F/\J b F0 hs/\SH w F (Qg<|pt l (qV L)::R::hs):=by
 obtain⟨m,⟨a,c,d,e,g,⟨F0,hs,i,j,o,p⟩,q⟩,k⟩:=h;exact⟨F0,hs,i,j,o,SH.aa ⟨m,⟨a,c,d,e,g,p,q⟩,k⟩⟩
theorem Rx{arg:α->Fz->Q0 K2->Prop}{bm:α->τ->Q2 (UP τ γ)}{S' :Q0 K2->Q0 (Nat×K2)}(N:∀x T vs,arg x T vs->vs.length=L.params.size)(V:L.assign=assign)(W:L.body=body)
  (z:∀vs:Q0 K2,vs.length=L.params.size->Sl n [] (S' vs) {tmps:=(L.params.zip vs.toArray).foldl (λtmps (t,a)=>tmps.setIfInBounds t a) L.tmps,defers:=[]})
  (round:∀F0 F1 x vs s d R hs,F<=F0->F0<=F1->arg x F1 vs->I s F0 hs->GC (some l) P assign [] (BP P l body<|RP l L I J F1 R d) (Hd n [] (S' vs) F1<|pt l (UH L)::R::hs) (bm x s) d):WK P l F arg (yS F l L I J) (je bm):=by
 refine⟨λc F0 F1 m _ q g=> ?_,λF1 q x vs c r K i w R X=> ?_⟩
 ·cases c with
  | next s=>obtain⟨G,hs,A,B,k⟩:=g;exact⟨G,hs,A,Fz.le_trans B q,k⟩
  | done b=>obtain⟨G,hs,A,B,k⟩:=g;exact⟨G,hs,A,Fz.le_trans B q,k⟩
 cases c with
 | done b=>simp[je] at i
 | next s=>
  simp only[je] at i
  cases C:bm x s with
  | none=>rw[C] at i;cases i
  | some d=>
   rw[C] at i
   simp only[E4,UV] at i
   subst i;obtain⟨F0,hs,Y,E,Z,u⟩:=SH.sk X;have hl:w.heap[l]? =some (UH L):=SH.cp (k:=0) rfl u;have M:=N x F1 vs K;refine⟨L.fn,_,L.assign,L.body,run_yield (r:={L with state:=.ready,pending:=none}) hl (by simpa using M),?_⟩;refine roundIn_of_wpIn trivial ?_;rw[V,W];have hg:=round F0 F1 x vs s d R hs Y E K Z C _ w ⟨z vs M,u⟩;refine eX hg λe a1 w1 y=> ?_;obtain⟨rfl,w2,H,j⟩:=y;refine⟨w2,H,eX j λe a2 w3 y=> ?_⟩;cases d with
   | next s' =>
    obtain⟨rfl,v,o,le,p,h⟩:=y;refine⟨_,_,I0<|SH.cp (k:=0) rfl h,v,le,rfl,(SH.three<|SH.putAt (k:=0) rfl h<|UH L).mono λm g=>QR (λm g=> ?_) g⟩;exact⟨v,o,Fz.le_trans q le,Fz.le_refl _,p,g⟩
   | done b=>
    obtain⟨rfl,v,o,le,p,h⟩:=y;refine⟨_,_,vh<|SH.cp (k:=0) rfl h,v,le,rfl,(SH.three<|SH.putAt (k:=0) rfl h<|qV L).mono λm g=>QR (λm g=> ?_) g⟩;exact⟨v,o,Fz.le_trans q le,Fz.le_refl _,p,g⟩
end
abbrev WX(q:Nat):TO:={target:=.collected q,args:=#[]}
theorem Nd:∀{ps:Q0 Nat} {vs:Q0 K2} {t:S1 K2} {S:Q0 (Nat×K2)},(ps.all λp=>Nat.blt p n)=true->Sl n [] S {tmps:=t,defers:=[]}->
  Sl n [] ((ps.zip vs).reverse++S) {tmps:=(ps.zip vs).foldl (λtmps (t,a)=>tmps.setIfInBounds t a) t,defers:=[]}
 | [],_,_,_,_,h=>h
 | _::_,[],_,_,_,h=>h
 | p::ps,v::vs,t,S,b,h=>by
  simp only[s8,BY] at b
  have c:=Sl.put h b.1 v;have d:=Nd (ps:=ps) (vs:=vs) (S:=(p,v)::S) (t:=t.setIfInBounds p v) b.2 c;simpa using d
theorem D4{ps:Q0 Nat}{t:S1 K2}(b:(ps.all λp=>Nat.blt p n)=true)(h:Sl n [] S {tmps:=t,defers:=[]}):Sl n [] ((ps.zip vs).reverse++S) {tmps:=(ps.toArray.zip vs.toArray).foldl (λtmps (t,a)=>tmps.setIfInBounds t a) t,defers:=[]}:=by
 rw[List.zip_toArray,List.foldl_toArray];exact Nd b h
section
variable{β:Type}{P:C1}{ks:Q0 Kt}{Q:gw->Act->B1->Prop}{r:β}{n:Nat}{D:Q0 TO}{S:Q0 (Nat×K2)}{F:Fz}{hs:Q0 HP}
variable{α τ γ:Type}{g:IR}{ps:Q0 Tmp}{assign body:ln}{f:L3}{caps:Q0 K2}{mk:∀σ:Type,(α->σ->Q2 (σ×Bool))->σ->Q2 σ}{arg:α->Fz->Q0 K2->Prop}{bm:α->τ->Q2 (UP τ γ)}{s0:τ}{k:UP τ γ->Q2 β}
theorem GG.rangeFunc(I:τ->Fz->Q0 HP->Prop)(J:γ->Fz->Q0 HP->Prop)(X:QP S g=some (.func (.func f) #[] caps.toArray))(y:wQ P F f caps arg mk)(G:(ps.all λp=>Nat.blt p n)=true)(z:∀x h vs,arg x h vs->vs.length=ps.length)
  (H:I s0 F hs)
  (round:∀l L F0 u x vs s j R hs',F<=F0->F0<=u->arg x u vs->I s F0 hs'->GC (some l) P assign [] (BP P l body<|RP l L I J u R j) (Hd n [] ((ps.zip vs).reverse++S) u<|pt l (UH L)::R::hs') (bm x s) j)
  (next:∀q F0 h s hs',F<=F0->F0<=h->mk _ (je bm) (.next s0)=some (.next s)->I s F0 hs'->GE none P ks Q (Hd n (WX q::D) S h<|pt q (.deferred<|some [])::hs') (k<|.next s) r)
  (done:∀q F0 h b hs',F<=F0->F0<=h->mk _ (je bm) (.next s0)=some (.done b)->J b F0 hs'->GC none P .ret ks Q (Hd n (WX q::D) S h<|pt q (.deferred<|some [])::hs') (k<|.done b) r):GC none P (.rangeFunc g ps.toArray assign body) ks Q (Hd n D S F hs) ((mk (UP τ γ) (je bm)<|.next s0).bind k) r:=by
 intro d a w i;cases A:mk (UP τ γ) (je bm) (.next s0) with
 | none=>rw[A] at d;cases d
 | some c=>
  rw[A] at d
  refine oD λfn _=> ?_
  let L:Loop:={state:=.ready,pending:=none,fn,tmps:=a.tmps,params:=ps.toArray,assign,body,defers:=w.heap.size}
  have K:SH ((w.alloc<|.deferred<|some []).alloc<|.loop L) F (star (yS F (w.heap.size+1) L I J (.next s0) F)<|Qg [pt w.heap.size<|.deferred<|some []]):=by
   have o:=(i.2.alloc<|.deferred<|some []).alloc<|.loop L;rw[eO] at o
   have Y:SH ((w.alloc<|.deferred<|some []).alloc<|.loop L) F (Qg<|pt (w.heap.size+1) (UH L)::Qg [pt w.heap.size<|.deferred<|some []]::hs):=by
    refine o.mono λm d=>QS (λm d=>QR (λm d=> ?_) d) d;exact⟨m,λ_=>none,λ_=>.inr rfl,Mem.sub.refl _,λ_ _ e=>by simp at e,d,trivial⟩
   exact(SH.three Y).mono λm d=>QR (λm d=>⟨F,hs,Fz.le_refl _,Fz.le_refl _,H,d⟩) d
  have Z:WK P (w.heap.size+1) F arg (yS F (w.heap.size+1) L I J) (je bm):=by
   refine Rx (S' :=λvs=>(ps.zip vs).reverse++S) (assign:=assign) (body:=body) (λx h vs M=>by rw[z x h vs M];simp[L]) rfl rfl (λvs _=>D4 G ⟨i.1.1,rfl,i.1.2.2⟩) ?_;exact λF0 u x vs s j R hs' B o M H=>round _ L F0 u x vs s j R hs' B o M H
  have hc:=y.2 _ _ _ _ F (Fz.le_refl F) Z (.next s0) c A _ _ K;refine⟨w.heap.size+1,[WX w.heap.size],(w.alloc<|.deferred<|some []).alloc<|.loop L,⟨.fn (.func f) caps.toArray,#[.func (.yield<|w.heap.size+1) #[] #[]]⟩,(w.alloc<|.deferred<|some []).alloc<|.loop L,f,(.func (.yield<|w.heap.size+1) #[] #[]::caps).toArray,(w.alloc<|.deferred<|some []).alloc<|.loop L,eD fn a.tmps ps.toArray assign body,?_,λ_ _=>trivial,?_,λe=>(by cases e),?_⟩
  ·have N:a.eval (.const<|.func (.yield<|w.heap.size+1) #[] #[])= .func (.yield<|w.heap.size+1) #[] #[]:=rfl;simp[resolve,Deferred.ofValue,i.1.eval X,N]
  ·simp[invoke,y.1]
  ·refine fl.2<|hc.mono ?_;rintro _ w' ⟨h,v,le,rfl, -,C⟩;cases c with
   | next s=>
    obtain⟨F0,hs',B,o,t,E⟩:=SH.sk C;refine⟨none,_,D5<|SH.cp (k:=0) rfl E,?_⟩;have T:SH _ h (Qg<|pt w.heap.size (.deferred<|some [])::hs'):=(SH.sF 0<|SH.putAt (k:=0) rfl E<|Ti L none).mono λm d=>QR (λm d=>by obtain⟨m1,_,_,V,_,W,_⟩:=d;exact V _ _ W) d;exact next w.heap.size F0 h s hs' B o A t d _ _ ⟨⟨i.1.1,by simp[i.1.2.1],i.1.2.2⟩,T⟩
   | done b=>
    obtain⟨F0,hs',B,o,t,E⟩:=SH.tG C;refine⟨some .ret,_,Lz<|SH.cp (k:=0) rfl E,?_⟩;have T:SH _ h (Qg<|pt w.heap.size (.deferred<|some [])::hs'):=(SH.sF 0<|SH.putAt (k:=0) rfl E<|Ti L<|some .ret).mono λm d=>QR (λm d=>by obtain⟨m1,_,_,V,_,W,_⟩:=d;exact V _ _ W) d;exact done w.heap.size F0 h b hs' B o A t d _ _ ⟨⟨i.1.1,by simp[i.1.2.1],i.1.2.2⟩,T⟩
def WH(y:α->σ->Q2 (σ×Bool)):Q0 α->σ->Q2 σ
 | [],s=>some s
 | x::xs,s=>(y x s).bind λp=>if p.2 then WH y xs p.1 else some p.1
def NC(P:C1)(F:Fz)(f:L3)(caps:Q0 K2)(arg:α->Fz->Q0 K2->Prop)(l:Q0 α):Prop:=wQ P F f caps arg λ_ y s=>WH y l s
def Y1(b:α->τ->Q2 τ):Q0 α->τ->Q2 τ
 | [],s=>some s
 | x::xs,s=>(b x s).bind<|Y1 b xs
def Ap(b:α->τ->Q2 (UP τ γ)):Q0 α->τ->Q2 (UP τ γ)
 | [],s=>some (.next s)
 | x::xs,s=>(b x s).bind λc=>match c with
  | .next a=>Ap b xs a
  | .done r=>some<|.done r
theorem Fo(b:α->τ->Q2 (UP τ γ)):∀(l:Q0 α) (s:τ),WH (je b) l (.next s)=Ap b l s
 | [],s=>rfl
 | x::xs,s=>by
  simp only[WH,je,Ap];cases h:b x s with
  | none=>rfl
  | some c=>
   cases c with
   | next a=>simpa using Fo b xs a
   | done r=>simp
theorem D7(b:α->τ->Q2 τ):∀(l:Q0 α) (s:τ),Ap (γ:=Empty) (λx s=>(b x s).map .next) l s=(Y1 b l s).map .next
 | [],s=>rfl
 | x::xs,s=>by
  simp only[Ap,Y1];cases h:b x s with
  | none=>rfl
  | some a=>simpa using D7 b xs a
theorem GG.pb{l:Q0 α}(I:τ->Fz->Q0 HP->Prop)(J:γ->Fz->Q0 HP->Prop)(j:QP S g=some (.func (.func f) #[] caps.toArray))(h:NC P F f caps arg l)(i:(ps.all λp=>Nat.blt p n)=true)(c:∀x a vs,arg x a vs->vs.length=ps.length)
  (o:I s0 F hs)
  (round:∀l L F0 e x vs s d R hs',F<=F0->F0<=e->arg x e vs->I s F0 hs'->GC (some l) P assign [] (BP P l body<|RP l L I J e R d) (Hd n [] ((ps.zip vs).reverse++S) e<|pt l (UH L)::R::hs') (bm x s) d)
  (next:∀q F0 a s hs',F<=F0->F0<=a->Ap bm l s0=some (.next s)->I s F0 hs'->GE none P ks Q (Hd n (WX q::D) S a<|pt q (.deferred<|some [])::hs') (k<|.next s) r)
  (done:∀q F0 a b hs',F<=F0->F0<=a->Ap bm l s0=some (.done b)->J b F0 hs'->GC none P .ret ks Q (Hd n (WX q::D) S a<|pt q (.deferred<|some [])::hs') (k<|.done b) r):GC none P (.rangeFunc g ps.toArray assign body) ks Q (Hd n D S F hs) ((Ap bm l s0).bind k) r:=by
 rw[<-Fo] at next done ⊢
 exact GG.rangeFunc (mk:=λ_ y s=>WH y l s) I J j h i c o round next done
theorem GG.aH{l:Q0 α}{bm:α->τ->Q2 τ}{k:τ->Q2 β}(I:τ->Fz->Q0 HP->Prop)(C:QP S g=some (.func (.func f) #[] caps.toArray))(t:NC P F f caps arg l)(u:(ps.all λp=>Nat.blt p n)=true)(j:∀x e vs,arg x e vs->vs.length=ps.length)
  (v:I s0 F hs)
  (round:∀l L F0 i x vs s a R hs',F<=F0->F0<=i->arg x i vs->I s F0 hs'->GC (some l) P assign [] (BP P l body<|RP l L I (fun(_:Empty) _ _=>False) i R<|.next a) (Hd n [] ((ps.zip vs).reverse++S) i<|pt l (UH L)::R::hs') (bm x s) a)
  (next:∀q F0 e s hs',F<=F0->F0<=e->Y1 bm l s0=some s->I s F0 hs'->GE none P ks Q (Hd n (WX q::D) S e<|pt q (.deferred<|some [])::hs') (k s) r):GC none P (.rangeFunc g ps.toArray assign body) ks Q (Hd n D S F hs) ((Y1 bm l s0).bind k) r:=by
 have h:=GG.pb (γ:=Empty) (k:=λc=>match c with | .next s=>k s | .done b=>b.elim) (bm:=λx s=>(bm x s).map .next) (ks:=ks) (Q:=Q) (D:=D) (r:=r) I (λ_ _ _=>False) C t u j v
  (λl L F0 i x vs s a R hs' y z E v=>by
   intro d;cases A:bm x s with
   | none=>rw[A] at d;cases d
   | some B=>rw[A] at d;simp only[E4,UV] at d;subst d;exact round l L F0 i x vs s B R hs' y z E v A)
  (λq F0 e s hs' y z he=>next q F0 e s hs' y z (by rw[D7] at he;cases o:Y1 bm l s0 with | none=>rw[o] at he;cases he | some B=>rw[o] at he;simp only[E4,UV,UP.next.injEq] at he;rw[he]))
  (λ_ _ _ b=>b.elim)
 rw[D7] at h
 cases o:Y1 bm l s0 with
 | none=>intro d;cases d
 | some s=>rw[o] at h;exact h
end
def v8:Q0 HP->Q0 (Nat×Nat)->Prop
 | _,[]=>True
 | hs,(i,q)::a=>hs[i]? =some (pt q<|.deferred<|some [])/\v8 (hs.set i<|pt q<|.deferred none) a
def Ho:Q0 HP->Q0 (Nat×Nat)->Q0 HP
 | hs,[]=>hs
 | hs,(i,q)::a=>Ho (hs.set i<|pt q<|.deferred none) a
theorem R3{a:S1 K2}{R:oO->B1->Prop}:∀{b:Q0 (Nat×Nat)} {hs:Q0 HP} {w:B1},SH w F (Qg hs)->v8 hs b->
  (∀w',SH w' F (Qg<|Ho hs b)->∃v,(results fn a).run P w' = .ok v w'/\R (.returned v) w')->LeavesInM Fence.wide 0 P fn a R (b.map λp=>WX p.2) .returning w
 | [],hs,w,h,_,k=>k w h
 | (i,q)::b,hs,w,h,c,k=>by
  refine⟨by simp,.inl ⟨q,_,rfl,run_takeDeferred<|SH.cp c.1 h,?_⟩⟩;exact R3 (SH.putAt c.1 h _) c.2 k
def qb(P:C1)(fn:lg)(F:Fz)(R:HP)(ρ:β->Fz->K2->Prop)(r:β):gw->Act->B1->Prop:=bodyPostM Fence.wide 0 P fn (λe w' =>∃a v,F<=a/\e= .returned v/\ρ r a v/\SH w' a R)
theorem Z9.aE{c:ln}{args:Q0 K2}{ρ:β->Fz->K2->Prop}
  (a:P.funcs[f]? =some fn) (b:fn.body=some c) (d:fn.ntmps=n) (e:Nat.ble args.length n=true)
  (k:∀r R,GC none P c [] (qb P fn F R ρ r) (Hd n [] (Dw 0 args) F [R]) m r):Z9 P f args.toArray F m ρ:=by
 intro r g w R h;refine(fl (n:=0)).1<|oK a b trivial<|k r R g _ w ⟨?_,h.one⟩;rw[d];exact WB e
section
variable{β:Type}{P:C1}{n:Nat}{S:Q0 (Nat×K2)}{F F' :Fz}{hs:Q0 HP}{ks:Q0 Kt}{fn:lg}{R:HP}{ρ:β->Fz->K2->Prop}{x r:β}{rs:Q0 ResultVar}{vs:Q0 K2}{i:Nat}{ms:Q0 (Nat×Nat)}
theorem zk(c:fn.results=rs.toArray)(d:v8 hs ms)(h:Sm P S F' (Ho hs ms) rs vs)(hi:(Ho hs ms)[i]? =some R)(le:F<=F')(hρ:ρ x F' (AL vs)):some x=some r->∀a w,Hd n (ms.map λp=>WX p.2) S F' hs a w->LeavesInM Fence.wide 0 P fn a.tmps (λe w' =>∃F' v,F<=F'/\e= .returned v/\ρ r F' v/\SH w' F' R) a.defers .returning w:=by
 intro e a w b;simp only[UV] at e
 subst e;rw[b.1.2.1];refine R3 b.2 d λw' h' => ?_;exact⟨_,Jh (n:=n) (a:=a) (D:=a.defers) c ⟨⟨b.1.1,rfl,b.1.2.2⟩,h'⟩ h,F',_,le,rfl,hρ,h'.only hi⟩
theorem GG.tE(ms:Q0 (Nat×Nat))(a:fn.results=rs.toArray)(b:v8 hs ms)(h:Sm P S F' (Ho hs ms) rs vs)(hi:(Ho hs ms)[i]? =some R)(le:F<=F')(hρ:ρ x F' (AL vs)):GC O P .ret ks (qb P fn F R ρ r) (Hd n (ms.map λp=>WX p.2) S F' hs) (some x) r:=GG.cz<|zk a b h hi le hρ
end
end
section
variable{γ b i:Nat}{F F':Fz}{α:Type}
variable{O:Q2 Nat}{μ:Md}
def UJ(γ:Nat)(F:Fz)(i b:Nat):Prop:=γ < F.gn/\(F.gh γ)[i]? =some b
theorem UJ.mono(h:UJ γ F i b)(le:F<=F'):UJ γ F' i b:=
 ⟨eZ h.1 le.gn,by
  obtain⟨t,e⟩:=le.gh γ h.1;rw[<-e,x4 (Do.1 h.2).1];exact h.2⟩
theorem UJ.inj{b':Nat}(h:UJ γ F i b)(k:UJ γ F i b'):b=b' :=by
 have:=h.2.symm.trans k.2;simpa using this
def ZO(γ:Nat)(F:Fz)(p:Q2 C3):Q2 Nat->Prop
 | none=>p=none
 | some i=>∃b,UJ γ F i b/\p=some ⟨b,0,none⟩
theorem ZO.mono{p:Q2 C3}{x:Q2 Nat}(h:ZO γ F p x)(le:F<=F'):ZO γ F' p x:=by
 cases x with
 | none=>exact h
 | some i=>obtain⟨b,a,c⟩:=h;exact⟨b,a.mono le,c⟩
theorem ZO.nil{γ:Nat}{F:Fz}:ZO γ F none none:=rfl
theorem ZO.of(h:UJ γ F i b):ZO γ F (some ⟨b,0,none⟩) (some i):=⟨b,h,rfl⟩
def Zx(γ:Nat)(F:Fz)(p:Q2 Nat):Q2 Nat->Prop
 | none=>p=none
 | some i=>∃b,UJ γ F i b/\p=some b
theorem Zx.mono{p:Q2 Nat}{x:Q2 Nat}(h:Zx γ F p x)(le:F<=F'):Zx γ F' p x:=by
 cases x with
 | none=>exact h
 | some i=>obtain⟨b,a,c⟩:=h;exact⟨b,a.mono le,c⟩
theorem Zx.nil{γ:Nat}{F:Fz}:Zx γ F none none:=rfl
theorem Zx.of(h:UJ γ F i b):Zx γ F (some b) (some i):=⟨b,h,rfl⟩
theorem XO{p q r:HP}{m:Mem}(h:star (star p q) r m):star p (star q r) m:=by
 obtain⟨x,a,d,f,n,⟨s,g,t,j,c,u,v⟩,w⟩:=h
 classical
 refine⟨s,λk=>if a k=none then g k else a k,?_,j.trans f,?_,u,g,a,(d.sub c<|Mem.sub.refl a),?_,?_,v,w⟩
 ·intro k;by_cases e:a k=none
  ·simp only[e,B3];exact t k
  ·simp only[e,By];rcases(d.sub j<|Mem.sub.refl a) k with h | h
   ·exact .inl h
   ·exact absurd h e
 ·intro k o e;by_cases l:a k=none
  ·simp only[l,B3] at e;exact f k o<|c k o e
  ·simp only[l,By] at e;exact n k o e
 ·intro k o e;have:a k=none:=(d.sub c<|Mem.sub.refl a).c9 e;simp[this,e]
 ·intro k o e;simp[e]
theorem UU{p q r:HP}{m:Mem}(h:star p (star q r) m):star (star p q) r m:=by
 have n:=Zi h;obtain⟨a,y,d,s,f,t,g,u,v,c,j,w,x⟩:=n
 classical
 refine⟨λk=>if a k=none then g k else a k,u,?_,?_,j.trans f,⟨g,a,(d.sub (Mem.sub.refl a) c).symm,?_,?_,w,t⟩,x⟩
 ·intro k;by_cases e:a k=none
  ·simp only[e,B3];exact v k
  ·simp only[e,By];rcases(d.sub (Mem.sub.refl a) j) k with h | h
   ·exact absurd h e
   ·exact .inr h
 ·intro k o e;by_cases l:a k=none
  ·simp only[l,B3] at e;exact f k o<|c k o e
  ·simp only[l,By] at e;exact s k o e
 ·intro k o e;have:a k=none:=(d.sub (Mem.sub.refl a) c).al e;simp[this,e]
 ·intro k o e;simp[e]
theorem D2:∀{l l' :Q0 HP} {m:Mem},l.length=l'.length->(∀(i:Nat) (p q:HP),l[i]? =some p->l'[i]? =some q->∀m,p m->q m)->Qg l m->Qg l' m
 | [],[],_,_,_,h=>h
 | [],_::_,_,a,_,_=>by simp at a
 | _::_,[],_,a,_,_=>by simp at a
 | p::l,q::l',m,a,hi,h=>by
  have c:∀m,p m->q m:=hi 0 p q rfl rfl;have d:∀m,Qg l m->Qg l' m:=λm e=>D2 (by simpa using a) (λi p q f g=>hi (i+1) p q (by simpa using f)<|by simpa using g) e;exact QR c<|QS d h
def YJ:Q0 Nat->Q0 HP->Q0 HP
 | [],_=>[]
 | k::ks,hs=>(hs[k]?).getD Aa::YJ ks (hs.eraseIdx k)
theorem Vd:∀{ks:Q0 Nat} {hs:Q0 HP} {m:Mem},Qg hs m->Qg (YJ ks hs) m
 | [],_,_,_=>trivial
 | k::ks,hs,m,h=>by
  cases e:hs[k]? with
  | some p=>simp only[YJ,e,eC];exact QS (λ_ h=>Vd h) (Vc e h)
  | none=>simp only[YJ,e,Option.getD_none];exact QS (λ_ h=>Vd h)<|DN h
section
variable{α:Type}{γ:Nat}{C:Fz->Nat->α->HP}{F F0 F' :Fz}{xs:Q0 α}{w:B1}{H:HP}{j b:Nat}{x y:α}
def ZC(γ:Nat)(C:Fz->Nat->α->HP)(F:Fz)(xs:Q0 α):HP:=λm=>∃bs,bs.length=xs.length/\star (vC γ bs) (Qg<|List.zipWith (C F) bs xs) m
def hole(γ:Nat)(C:Fz->Nat->α->HP)(F:Fz)(j b:Nat)(xs:Q0 α):HP:=λm=>∃bs,bs.length=xs.length/\bs[j]? =some b/\star (vC γ bs) (Qg<|(List.zipWith (C F) bs xs).eraseIdx j) m
def Hm(C:Fz->Nat->α->HP):Prop:=∀F F' b x m,F<=F'->C F b x m->C F' b x m
theorem Rv{bs:Q0 Nat}{f:Nat->α->HP}(a:bs[j]? =some b)(c:xs[j]? =some x):(List.zipWith f bs xs)[j]? =some (f b x):=by
 rw[lu,a,c]
theorem Ru:∀{bs:Q0 Nat} {f:Nat->α->HP} {xs:Q0 α} {j b:Nat} {y:α},bs[j]? =some b->(List.zipWith f bs xs).set j (f b y)=List.zipWith f bs (xs.set j y)
 | [],_,_,_,_,_,h=>by simp at h
 | c::bs,f,[],j,b,y,_=>by simp
 | c::bs,f,x::xs,0,b,y,h=>by simp at h;subst h;simp
 | c::bs,f,x::xs,j+1,b,y,h=>by
  simp only[ts] at h
  simp[Ru h]
theorem SH.aN(g:Hm C)(le:F0<=F')(h:SH w F (star (ZC γ C F0 xs) H)):SH w F (star (ZC γ C F' xs) H):=
 h.mono λm d=>QR (λm ⟨bs,k,hs⟩=>⟨bs,k,QS (λm d=>D2 zh (λi p q a c m l=>by
  rw[lu] at a c
  cases e:bs[i]? with
  | none=>rw[e] at a;simp at a
  | some b=>
   cases f:xs[i]? with
   | none=>rw[e,f] at a;simp at a
   | some x=>rw[e,f] at a c;simp at a c;subst a;subst c;exact g _ _ _ _ _ le l) d) hs⟩) d
theorem SH.ab(h:SH w F (star (ZC γ C F0 xs) H))(n:UJ γ F j b)(o:xs[j]? =some x):SH w F (star (C F0 b x)<|star (hole γ C F0 j b xs) H):=by
 obtain⟨m,⟨p,q,d,g,r,⟨bs,s,l⟩,t⟩,k⟩:=h
 have a:bs[j]? =some b:=by
  obtain⟨A,B,D,u,E,v,_⟩:=l;obtain⟨_,e⟩:=k.gst γ _<|g _ _<|u _ _ v;simp only[Cell.gh.injEq] at e
  rw[e];exact n.2
 refine⟨m,XO ⟨p,q,d,g,r,?_,t⟩,k⟩;have z:=Zi<|QS (λ_ c=>Vc (Rv (f:=C F0) a o) c) l;exact QS (λm c=>⟨bs,s,a,c⟩) z
theorem SH.tN(s:Hm C)(le:F0<=F')(h:SH w F (star (C F' b y)<|star (hole γ C F0 j b xs) H))(t:j < xs.length):SH w F (star (ZC γ C F'<|xs.set j y) H):=by
 refine h.mono λm e=> ?_;refine QR (λm e=> ?_)<|UU e;obtain⟨u,v,d,z,A,o,bs,B,k,D⟩:=e;refine⟨bs,by simpa using B,?_⟩;have E:star (C F' b y) (star (vC γ bs)<|Qg<|(List.zipWith (C F0) bs xs).eraseIdx j) m:=⟨u,v,d,z,A,o,D⟩;refine QS (λm e=> ?_)<|Zi E;have n:xs[j]? =some xs[j]:=by simp[t]
 have G:star (C F' b y) (Qg<|(List.zipWith (C F') bs xs).eraseIdx j) m:=QS (λm e=>D2 (by simp[List.length_eraseIdx]) (λi p q a c m o=>by
  rw[ew] at a c
  have key:∀l,(List.zipWith (C F0) bs xs)[l]? =some p->(List.zipWith (C F') bs xs)[l]? =some q->q m:=λl a c=>by
   rw[lu] at a c
   cases r:bs[l]? with
   | none=>rw[r] at a;simp at a
   | some b=>
    cases n:xs[l]? with
    | none=>rw[r,n] at a;simp at a
    | some x=>rw[r,n] at a c;simp at a c;subst a;subst c;exact s _ _ _ _ _ le o
  split at a
  ·rename_i g;rw[Bm g] at c;exact key i a c
  ·rename_i g;rw[B2 g] at c;exact key (i+1) a c) e) e
 rw[<-Ru (f:=C F') k];exact FU (Rv (f:=C F') k n) G
theorem SH.ry(t:Hm C){p:HP}(le:F0<=F)(h:SH w F (star p<|star (ZC γ C F0 xs) H))(u:∀F' m,F<=F'->p m->C F' b x m):∃F',F<=F'/\UJ γ F' xs.length b/\SH w F' (star (ZC γ C F'<|xs++[x]) H):=by
 obtain⟨m,a,k⟩:=h;obtain⟨v,z,d,A,B,⟨bs,l,D⟩,E⟩:=Zi a;have r:SH w F (star (vC γ bs)<|star (Qg<|List.zipWith (C F0) bs xs)<|star p H):=⟨m,XO ⟨v,z,d,A,B,D,E⟩,k⟩;obtain⟨G,I⟩:=r.pF;obtain⟨e,K⟩:=r.sy b;refine⟨F.sy γ b,e,⟨G,?_⟩,?_⟩
 ·show(if γ=γ then F.gh γ++[b] else F.gh γ)[xs.length]? =some b;rw[Bm rfl,I,<-l];simp
 ·refine K.mono λm a=> ?_;have L:star (vC γ<|bs++[b]) (star p<|star (Qg<|List.zipWith (C F0) bs xs) H) m:=QS (λm a=>Zi a) a;refine QR (λm a=> ?_)<|UU<|QS (λm a=>UU a) L;refine⟨bs++[b],by simp[l],QS (λm a=> ?_) a⟩;have n:F0<=F.sy γ b:=Fz.le_trans le e;have M:Qg (p::List.zipWith (C F0) bs xs) m:=a
  have N:Qg (C (F.sy γ b) b x::List.zipWith (C<|F.sy γ b) bs xs) m:=D2 zh (λi p' q c f m g=>by
   cases i with
   | zero=>simp at c f;subst c;subst f;exact u _ _ e g
   | succ i=>
    simp only[ts] at c f
    rw[lu] at c f
    cases o:bs[i]? with
    | none=>rw[o] at c;simp at c
    | some b=>
     cases s:xs[i]? with
     | none=>rw[o,s] at c;simp at c
     | some x=>rw[o,s] at c f;simp at c f;subst c;subst f;exact t _ _ _ _ _ n g) M
  have P:=stars_snoc N;rw[List.zipWith_append<|by simpa using l];exact P
where
 stars_snoc:∀{l:Q0 HP} {p:HP} {m:Mem},Qg (p::l) m->Qg (l++[p]) m
  | [],_,_,h=>h
  | q::l,p,m,h=>QS (λ_ h=>stars_snoc h)<|Zi h
end
def Wk(T:A4)(c:U2 α)(F:Fz)(b:Nat)(x:α):HP:=λm=>∃vs,(∀F',F<=F'->c F' x vs)/\pt b (.cells vs.toArray T) m
theorem Wk.stays{T:A4}{c:U2 α}:Hm (Wk T c):=λ_ _ _ _ _ le ⟨vs,h,k⟩=>⟨vs,λG a=>h G<|Fz.le_trans le a,k⟩
section
variable{β:Type}{X:Act->B1->Prop}{m:Q2 β}{r:β}{n:Nat}{D:Q0 TO}{S:Q0 (Nat×K2)}{F F0:Fz}{hs hs' :Q0 HP}
variable{α:Type}{γ:Nat}{C:Fz->Nat->α->HP}{xs:Q0 α}{j b:Nat}{x y:α}
theorem GG.pick{g:Gp}(ks:Q0 Nat)(h:YJ ks hs=hs')(k:GG g (Hd n D S F hs') m r):GG g (Hd n D S F hs) m r:=by
 exact λd a w c=>k d a w ⟨c.1,h▸c.2.mono λ_=>Vd⟩
theorem GG.cU{g:Gp}(i:Nat)(d:Hm C)(le:F0<=F)(hi:hs[i]? =some (ZC γ C F0 xs))(k:GG g (Hd n D S F<|hs.set i<|ZC γ C F xs) m r):GG g (Hd n D S F hs) m r:=by
 exact λe a w c=>k e a w ⟨c.1,SH.push hi<|(c.2.pull hi).aN d le⟩
end
end
section
variable{ε β:Type}{penc:ε->K2}{P:C1}{n:Nat}
variable{O:Q2 Nat}{μ:Md}
inductive Out(ε β:Type) where
 | ok (b:β)
 | pan (x:ε)
def J9:Q0 Nat->Q0 HP->Q0 HP
 | [],hs=>hs
 | k::ks,hs=>J9 ks<|hs.eraseIdx k
theorem UG:∀{ks:Q0 Nat} {hs:Q0 HP} {m:Mem},Qg hs m->star (Qg<|YJ ks hs) (Qg<|J9 ks hs) m
 | [],_,m,h=>⟨λ_=>none,m,λ_=>.inl rfl,λ_ _ e=>by simp at e,Mem.sub.refl _,trivial,h⟩
 | k::ks,hs,m,h=>by
  have a:star ((hs[k]?).getD Aa) (Qg<|hs.eraseIdx k) m:=by
   cases e:hs[k]? with
   | some p=>exact Vc e h
   | none=>exact DN h
  exact UU<|QS (λ_ h=>UG (ks:=ks) h) a
theorem K7:∀{l k:Q0 HP} {m:Mem},star (Qg l) (Qg k) m->Qg (l++k) m
 | [],_,_,⟨_,_,_,_,a,_,h⟩=>stars_sub a h
 | _p::_l,_k,_m,h=>QS (λ_ h=>K7 h)<|XO h
where
 stars_sub:∀{l:Q0 HP} {m n:Mem},Mem.sub m n->Qg l m->Qg l n
  | [],_,_,_,_=>trivial
  | _::_,_,_,s,⟨m1,m2,d,s1,s2,hp,hq⟩=>⟨m1,m2,d,s1.trans s,s2.trans s,hp,hq⟩
theorem Ve:∀{l k:Q0 HP} {m:Mem},Qg (l++k) m->star (Qg l) (Qg k) m
 | [],_,m,h=>⟨λ_=>none,m,λ_=>.inl rfl,λ_ _ e=>by simp at e,Mem.sub.refl _,trivial,h⟩
 | p::l,k,m,h=>UU<|QS (λ_ h=>Ve h) h
theorem YD{p:HP}{m:Mem}(h:p m):Qg [p] m:=⟨m,λ_=>none,λ_=>.inr rfl,Mem.sub.refl _,λ_ _ e=>by simp at e,h,trivial⟩
def Vn(P:C1)(penc:ε->K2)(f:L3)(args:S1 K2)(F:Fz)(Hs:Q0 HP)(m:Q2 (Out ε β))(ρ:β->Fz->K2->Prop)(b:β->Fz->K2->Q0 HP):Prop:=
 ∀r,m=some r->∀w R,SH w F (star (Qg Hs) R)->Calls P f args w (λe w' =>∃a,F<=a/\match r with
  | .ok x=>∃v,e= .returned v/\ρ x a v/\SH w' a (star (Qg<|b x a v) R)
  | .pan x=>e= .panicked [{v:=penc x,recovered:=false}]/\SH w' a R)
def Tn(P:C1)(penc:ε->K2)(fn:lg)(F:Fz)(R:HP)(ρ:β->Fz->K2->Prop)(b:β->Fz->K2->Q0 HP)(r:Out ε β):gw->Act->B1->Prop:=
 bodyPost P fn (λe w' =>∃a,F<=a/\match r with
  | .ok x=>∃v,e= .returned v/\ρ x a v/\SH w' a (star (Qg<|b x a v) R)
  | .pan x=>e= .panicked [{v:=penc x,recovered:=false}]/\SH w' a R)
theorem Vn.enter{f:L3}{fn:lg}{c:ln}{args:Q0 K2}{F:Fz}{Hs:Q0 HP}{m:Q2 (Out ε β)}{ρ:β->Fz->K2->Prop}{a:β->Fz->K2->Q0 HP}
  (d:P.funcs[f]? =some fn) (e:fn.body=some c) (g:fn.ntmps=n) (i:Nat.ble args.length n=true)
  (k:∀r R,GC none P c [] (Tn P penc fn F R ρ a r) (Hd n [] (Dw 0 args) F<|Hs++[R]) m r):Vn P penc f args.toArray F Hs m ρ a:=by
 intro r b w R j;refine eh d e<|oI.1<|k r R b _ w ⟨?_,j.mono λm b=>K7<|QS (λ_ h=>YD h) b⟩;rw[g];exact WB i
section
variable{ε β:Type}{P:C1}{penc:ε->K2}{n:Nat}{S:Q0 (Nat×K2)}{F F' :Fz}{hs:Q0 HP}{ks:Q0 Kt}{fn:lg}{R:HP}{ρ:β->Fz->K2->Prop}{Hs' :β->Fz->K2->Q0 HP}{x:β}{r:Out ε β}{rs:Q0 ResultVar}{vs:Q0 K2}
theorem Xw{A:HP}{m:Mem}(h:star A (Qg [R]) m):star A R m:=by
 obtain⟨b,j,d,c,e,f,g,_,_,a,_,i,_⟩:=h;exact⟨b,g,d.sub (Mem.sub.refl _) a,c,a.trans e,f,i⟩
theorem L9(is:Q0 Nat)(d:fn.results=rs.toArray)(h:Sm P S F' hs rs vs)(hi:YJ is hs=Hs' x F' (AL vs)++[R])(le:F<=F')(hρ:ρ x F' (AL vs)):some (Out.ok x)=some r->∀a w,Hd n [] S F' hs a w->Tn P penc fn F R ρ Hs' r .ret a w:=by
 intro e a w b;simp only[UV] at e
 subst e;refine⟨b.1.2.1,_,Jh d b h,F',le,_,rfl,hρ,b.2.mono λm f=> ?_⟩;have c:=Vd (ks:=is) f;rw[hi] at c
 exact Xw<|Ve c
theorem GG.sQ(is:Q0 Nat)(a:fn.results=rs.toArray)(h:Sm P S F' hs rs vs)(hi:YJ is hs=Hs' x F' (AL vs)++[R])(le:F<=F')(hρ:ρ x F' (AL vs)):GC O P .ret ks (Tn P penc fn F R ρ Hs' r) (Hd n [] S F' hs) (some<|.ok x) r:=GG.cz<|L9 is a h hi le hρ
theorem GG.sM(is:Q0 Nat)(a:fn.results=rs.toArray)(h:Sm P S F' hs rs vs)(hi:YJ is hs=Hs' x F' (AL vs)++[R])(le:F<=F')(hρ:ρ x F' (AL vs)):GE O P [] (Tn P penc fn F R ρ Hs' r) (Hd n [] S F' hs) (some<|.ok x) r:=GG.cN<|L9 is a h hi le hρ
theorem Qk{q:ε}{i:Nat}(hi:hs[i]? =some R)(le:F<=F'):some (Out.pan q)=some r->∀a w,Hd n [] S F' hs a w->Tn P penc fn F R ρ Hs' r (.panic [{v:=penc q,recovered:=false}]) a w:=by
 intro e a w b;simp only[UV] at e
 subst e;exact⟨b.1.2.1,F',le,rfl,b.2.only hi⟩
end
section
variable{ε β:Type}{P:C1}{penc:ε->K2}{ops:S1 Rw}{rest:Q0 Rw}{ks:Q0 Kt}{Q:gw->Act->B1->Prop}{m:Q2 β}{r:β}
variable{n:Nat}{D:Q0 TO}{S:Q0 (Nat×K2)}{F F0:Fz}{hs:Q0 HP}
theorem GG.tX{b:Q2 Tmp}{d:IR}{ty:A4}{pos:String}{after:S1 ll}{T:A4}{v:K2}(f:QP S d=some (.iface T v))
  (h:m=some r->∀a w,Hd n D S F hs a w->Q (.panic [{v:=.iface T v,recovered:=false}]) a w):GL O P ops (⟨b,.panic d,ty,pos,after,none⟩::rest) ks Q (Hd n D S F hs) m r:=by
 intro g a w e;refine fo ?_;unfold W8;rw[Bm<|by simp[Region.wanted]];refine⟨.inr rfl,?_⟩
 have c:(execOp a.eval ⟨b,.panic d,ty,pos,after,none⟩).run P w= .halt (.panic<|.iface T v) w:=by
  simp[execOp,Instr.panic,e.1.eval f,goPanic]
 rw[c];exact K9<|h g a w e
end
end
end Go.Dec
end
