/- For OfficeStamps. -/
import Derived.WalkKit
import Derived.OrdersIn
import Derived.RangeFuncLeaves
import Derived.ProofKit
import Derived.OpenShut
import Derived.ChangeArms
import Derived.RangeFuncNested
noncomputable section
namespace Go.Dec
abbrev UV:=@List
abbrev H1:=@Option
abbrev DO:=@Option.bind_some
abbrev Do:=@Value
abbrev BY:=@Option.some.injEq
abbrev By:=@Bool.false_eq_true
abbrev AC:=@List.getElem?_eq_some_iff
abbrev AT:=@Bool.and_eq_true
abbrev TO:=@if_pos
abbrev T2:=@if_false
abbrev PP:=@World
abbrev RK:=@Program
abbrev RW:=@if_neg
abbrev Rw:=@if_true
abbrev Nm:=@List.getElem?_eq_getElem
abbrev OF:=@Addr
abbrev Of:=@Array
abbrev IN:=@Nat.le_refl
abbrev IR:=@decide_eq_true_eq
abbrev If:=@TypeId
abbrev q8:=@Deferred
abbrev j3:=@Nat.le_of_ble_eq_true
abbrev j9:=@List.mem_cons
abbrev y1:=@Option.some.inj
abbrev wt:=@List.eq_nil_of_length_eq_zero
abbrev x4:=@FuncId
abbrev x5:=@Oper
abbrev x7:=@Option.map_some
abbrev dO:=@Operand
abbrev s4:=@List.map_cons
abbrev s5:=@List.take_of_length_le
abbrev s6:=@List.length_cons
abbrev s7:=@List.all_eq_true
abbrev tO:=@Array.getD_eq_getD_getElem?
abbrev rW:=@Nat.eq_of_beq_eq_true
abbrev rz:=@List.getElem?_take
abbrev r6:=@Bool.not_false
abbrev r7:=@Sem.run_bind
abbrev nA:=@Nat.lt_or_ge
abbrev nB:=@List.mem_map_of_mem
abbrev nC:=@List.drop_eq_nil_of_le
abbrev nD:=@List.drop_eq_getElem_cons
abbrev nF:=@Option.bind_eq_some_iff
abbrev nG:=@List.length_nil
abbrev nH:=@List.length_append
abbrev nK:=@List.getElem?_append_left
abbrev nL:=@Nat.ble_eq_true_of_le
abbrev nN:=@Exit
abbrev nP:=@callsIn_wide
abbrev nS:=@MapEntry
abbrev nU:=@List.mem_filter
abbrev nV:=@List.getElem?_map
abbrev nW:=@Int.toNat_natCast
abbrev nZ:=@List.all_cons
abbrev ng:=@Bool.not_eq_true'
abbrev nj:=@StepsIn.trans
abbrev nl:=@Nat.zero_add
abbrev nm:=@IntKind
abbrev np:=@List.append_nil
abbrev nq:=@Bool.or_eq_true
abbrev nr:=@List.getElem?_append_right
abbrev nv:=@List.any_eq_true
abbrev nx:=@List.mem_singleton
abbrev ny:=@List.mem_map
abbrev mA:=@Bool.true_and
abbrev mC:=@List.getElem?_eq_none
abbrev mD:=@List.ext_getElem?
abbrev mE:=@List.getElem?_cons_succ
abbrev mF:=@List.getElem?_drop
abbrev mG:=@Int.tdiv_eq_ediv_of_nonneg
abbrev mH:=@List.mem_append
abbrev mI:=@Option.map_eq_some_iff
abbrev mK:=@Int.mul_le_mul_of_nonneg_left
abbrev mL:=@List.mem_range
abbrev mN:=@List.nil_append
abbrev mP:=@Nat.add_mul
abbrev mQ:=@List.cons_append
abbrev mS:=@List.getElem?_set
abbrev mT:=@List.getElem_of_mem
abbrev mc:=@Sem.run_pure
abbrev me:=@Nat.le_trans
abbrev mg:=@List.length_drop
abbrev ml:=@Option.isSome_none
abbrev mv:=@List.cons.injEq
abbrev mw:=@Nat.mul_le_mul_right
abbrev mz:=@Bool.false_or
abbrev lI:=@List.eraseIdx_cons_succ
abbrev lJ:=@List.drop_append_of_le_length
abbrev lK:=@Func
abbrev lL:=@Edge
abbrev lM:=@Option.map_none
abbrev lN:=@Code
abbrev lP:=@List.getElem?_zipWith
abbrev lU:=@Option.getD_some
abbrev lW:=@run_enterLoop_outer
abbrev lZ:=@Array.length_toList
abbrev ld:=@Option.isSome_some
abbrev lg:=@List.filter_eq_nil_iff
abbrev lk:=@List.drop_drop
abbrev ln:=@List.take_append_drop
abbrev lr:=@World.size_alloc
abbrev lv:=@Int.mul_le_mul_of_nonneg_right
abbrev eC:=@wpIn_mono
abbrev eF:=@Nat.lt_of_lt_of_le
abbrev eG:=@Nat.eq_zero_or_pos
abbrev eH:=@List.drop_zero
abbrev eL:=@List.getElem?_eq_none_iff
abbrev eN:=@fenced_calm
abbrev eO:=@calls_of_wp
abbrev eS:=@List.prefix_refl
abbrev eT:=@List.length_take
abbrev eV:=@Int.eq_ofNat_of_zero_le
abbrev eX:=@Nat.sub_zero
abbrev eY:=@List.map_nil
abbrev eZ:=@List.getElem?_eraseIdx
abbrev ef:=@List.drop_of_length_le
abbrev et:=@List.length_replicate
abbrev ey:=@wpIn_rangeFunc
abbrev oA:=@TypeDesc
abbrev oC:=@List.pairwise_append
abbrev oD:=@Int.toNat_zero
abbrev oE:=@wpIn_wide
abbrev oG:=@callsIn_of_wp_marks
abbrev oI:=@Nat.mod_lt
abbrev oJ:=@Ending
abbrev oK:=@Array.ext_getElem?
abbrev oQ:=@Nat.add_zero
abbrev oT:=@Bool.true_or
abbrev oU:=@Array.size_append
abbrev oV:=@Array.all_eq_true_iff_forall_mem
abbrev oW:=@Array.getElem?_setIfInBounds_ne
abbrev oX:=@List.getElem_mem
abbrev oZ:=@Array.eq_empty_of_size_eq_zero
abbrev oi:=@Int.ediv_nonneg
abbrev iE:=@stepR_inLoop
abbrev iJ:=@Array.getElem?_modify
abbrev iS:=@List.append_toArray
abbrev iU:=@stepR_loop
abbrev iX:=@Array.empty_append
abbrev iY:=@Array.append_assoc
abbrev ib:=@Ne.symm
abbrev ic:=@List.size_toArray
abbrev ie:=@List.getElem_take
abbrev ij:=@List.append_assoc
abbrev ik:=@Iff.rfl
end Go.Dec
namespace Go.Dec
section
variable{w:PP}{b k:Nat}{o:Obj}
inductive Key where
 | blk (b:Nat)
 | gst (γ:Nat)
 deriving DecidableEq
inductive Cell where
 | obj (o:Obj)
 | gh (l:List Nat)
abbrev Mem:=Key->H1 Cell
variable{m n:Mem}
abbrev HP:=Mem->Prop
variable{hs:UV HP}{H p q:HP}
structure Fz where
 mem:Nat->Option Obj
 os:Os
 tape:Nat->Question->Nat
 out:Array (Nat×ByteArray)
 gh:Nat->List Nat:=λ_=>[]
 gn:Nat:=0
variable{F:Fz}
structure Fz.Le(F F' :Fz):Prop where
 os:F'.os=F.os
 tape:F'.tape=F.tape
 out:F'.out=F.out
 mem:∀b o,F.mem b=some o->F'.mem b=some o
 gh:∀γ,γ < F.gn->F.gh γ <+:F'.gh γ
 gn:F.gn<=F'.gn
instance:LE Fz:=⟨Fz.Le⟩
theorem Fz.le_refl(F:Fz):F<=F:=⟨rfl,rfl,rfl,λ_ _ h=>h,λ_ _=>eS _,IN _⟩
theorem Fz.le_trans{G H:Fz}(h:F<=G)(k:G<=H):F<=H:=⟨k.os.trans h.os,k.tape.trans h.tape,k.out.trans h.out,λb o e=>k.mem b o<|h.mem b o e,λγ hγ=>(h.gh γ hγ).trans<|k.gh γ<|eF hγ h.gn,me h.gn k.gn⟩
def Mem.dj(m n:Mem):Prop:=∀k,m k=none∨n k=none
def Mem.sub(m n:Mem):Prop:=∀k o,m k=some o->n k=some o
def Mem.set(m:Mem)(b:Key)(o:Cell):Mem:=λk=>if k=b then some o else m k
def Rb(m:Nat->H1 Obj)(b:Nat)(o:Obj):Nat->H1 Obj:=λk=>if k=b then some o else m k
theorem Mem.dj.symm(h:Mem.dj m n):Mem.dj n m:=λk=>(h k).symm
theorem Mem.sub.trans{p:Mem}(h:Mem.sub m n)(k:Mem.sub n p):Mem.sub m p:=λb o e=>k b o<|h b o e
theorem Mem.sub.refl(m:Mem):Mem.sub m m:=λ_ _ e=>e
theorem Mem.dj.sub{m' n':Mem}(h:Mem.dj m n)(hm:Mem.sub m' m)(hn:Mem.sub n' n):Mem.dj m' n' :=λk=>by
 rcases h k with h | h
 ·cases e:m' k with
  | none=>exact .inl rfl
  | some o=>rw[hm k o e] at h;cases h
 ·cases e:n' k with
  | none=>exact .inr rfl
  | some o=>rw[hn k o e] at h;cases h
theorem Mem.dj.bk(h:Mem.dj m n){b:Key}{o:Cell}(e:m b=some o):n b=none:=by
 rcases h b with h | h
 ·rw[e] at h;cases h
 ·exact h
theorem Mem.dj.sa(h:Mem.dj m n){b:Key}{o:Cell}(e:n b=some o):m b=none:=h.symm.bk e
def AO:HP:=λ_=>True
def pt(b:Nat)(o:Obj):HP:=λm=>m (.blk b)=some (.obj o)
def yU(γ:Nat)(l:UV Nat):HP:=λm=>m (.gst γ)=some (.gh l)
def star(p q:HP):HP:=λm=>∃m1 m2,Mem.dj m1 m2/\Mem.sub m1 m/\Mem.sub m2 m/\p m1/\q m2
def Qi:UV HP->HP
 | []=>AO
 | p::hs=>star p<|Qi hs
theorem Zh{r:HP}(h:star p (star q r) m):star q (star p r) m:=by
 obtain⟨m1,m2,d,s1,s2,hp,n1,n2,d',t1,t2,hq,hr⟩:=h
 classical
 refine⟨n1,λk=>if n2 k=none then m1 k else n2 k,?_,t1.trans s2,?_,hq,m1,n2,?_,?_,?_,hp,hr⟩
 ·intro k;by_cases e:n2 k=none
  ·simp only[e,Rw];rcases d k with h | h
   ·exact .inr h
   ·left;cases e1:n1 k with
    | none=>rfl
    | some o=>rw[t1 k o e1] at h;cases h
  ·simp only[e,T2];rcases d' k with h | h
   ·exact .inl h
   ·exact absurd h e
 ·intro k o e;by_cases e' :n2 k=none
  ·simp only[e',Rw] at e;exact s1 k o e
  ·simp only[e',T2] at e;exact s2 k o<|t2 k o e
 ·exact d.sub (Mem.sub.refl _) t2
 ·intro k o e
  have hn:n2 k=none:=by
   cases e2:n2 k with
   | none=>rfl
   | some x=>
    have:=d.bk e;rw[t2 k x e2] at this;cases this
  simp[hn,e]
 ·intro k o e;simp[e]
theorem QS{q':HP}(h:∀m,q m->q' m)(k:star p q m):star p q' m:=let⟨m1,m2,d,s1,s2,hp,hq⟩:=k;⟨m1,m2,d,s1,s2,hp,h _ hq⟩
theorem QQ{p':HP}(h:∀m,p m->p' m)(k:star p q m):star p' q m:=let⟨m1,m2,d,s1,s2,hp,hq⟩:=k;⟨m1,m2,d,s1,s2,h _ hp,hq⟩
theorem VW:∀{hs:UV HP} {k:Nat} {p:HP} {m:Mem},hs[k]? =some p->Qi hs m->star p (Qi<|hs.eraseIdx k) m
 | [],_,_,_,h,_=>by simp at h
 | q::hs,0,p,m,h,hm=>by
  simp at h;subst h;exact hm
 | q::hs,k+1,p,m,h,hm=>by
  simp only[mE] at h
  simp only[lI];exact Zh<|QS (λm hm' =>VW h hm') hm
theorem FN:∀{hs:UV HP} {k:Nat} {p q:HP} {m:Mem},hs[k]? =some q->star p (Qi<|hs.eraseIdx k) m->Qi (hs.set k p) m
 | [],_,_,_,_,h,_=>by simp at h
 | x::hs,0,p,q,m,h,hm=>hm
 | x::hs,k+1,p,q,m,h,hm=>by
  simp only[mE] at h
  simp only[lI] at hm
  simp only[List.set_cons_succ];exact QS (λm hm' =>FN h hm')<|Zh hm
theorem DD(h:Qi hs m):star AO (Qi<|hs.eraseIdx k) m:=by
 cases e:hs[k]? with
 | some p=>exact QQ (λ_ _=>trivial) (VW e h)
 | none=>
  have:hs.eraseIdx k=hs:=List.eraseIdx_of_length_le (by simpa using e);rw[this];exact⟨λ_=>none,m,λ_=>.inl rfl,λ_ _ e=>by simp at e,Mem.sub.refl _,trivial,h⟩
structure xS(w:World)(F:Fz)(m:Mem):Prop where
 dj:∀b,m (.blk b)=none∨F.mem b=none
 own:∀b c,m (.blk b)=some c->∃o,c= .obj o/\w.heap[b]? =some o
 gst:∀γ c,m (.gst γ)=some c->γ < F.gn/\c= .gh (F.gh γ)
 frz:∀b o,F.mem b=some o->w.heap[b]? =some o
 os:w.os=F.os
 tape:w.tape=F.tape
 out:w.output=F.out
def SH(w:PP)(F:Fz)(H:HP):Prop:=∃m,H m/\xS w F m
theorem lt_of_heap(h:w.heap[b]? =some o):b < w.heap.size:=by
 rcases nA b w.heap.size with h' | h'
 ·exact h'
 ·rw[Array.getElem?_eq_none h'] at h;cases h
theorem xS.sub(h:xS w F m)(s:Mem.sub n m):xS w F n:=
 ⟨λb=>by
  rcases h.dj b with e | e
  ·cases en:n (.blk b) with
   | none=>exact .inl rfl
   | some c=>rw[s _ c en] at e;cases e
  ·exact .inr e,λb o e=>h.own b o<|s _ o e,λγ c e=>h.gst γ c<|s _ c e,h.frz,h.os,h.tape,h.out⟩
theorem xS.tu(h:xS w F m)(e:m (.blk b)=some (.obj o)):w.heap[b]? =some o:=by
 obtain⟨_,e1,e2⟩:=h.own b _ e;cases e1;exact e2
theorem SH.mono{H':HP}(h:SH w F H)(k:∀m,H m->H' m):SH w F H' :=let⟨m,a,b⟩:=h;⟨m,k m a,b⟩
theorem SH.drop(h:SH w F (star p q)):SH w F q:=let⟨_,⟨_,m2,_,_,s2,_,hq⟩,b⟩:=h;⟨m2,hq,b.sub s2⟩
theorem SH.frozen(h:SH w F H)(e:F.mem b=some o):w.heap[b]? =some o:=let⟨_,_,k⟩:=h;k.frz b o e
theorem SH.owned(h:SH w F (star (pt b o) H)):w.heap[b]? =some o:=
 let⟨_,⟨_,_,_,s1,_,hp,_⟩,k⟩:=h
 let⟨_,e,h'⟩:=k.own b _<|s1 _ _ hp
 by cases e;exact h'
theorem SH.drew(h:SH w F H)(n:Nat):SH {w with drawn:=n} F H:=let⟨m,a,k⟩:=h;⟨m,a,k.dj,k.own,k.gst,k.frz,k.os,k.tape,k.out⟩
theorem heap_alloc_old{x:Obj}(h:w.heap[b]? =some x):(w.alloc o).heap[b]? =some x:=by
 have:=lt_of_heap h;show(w.heap.push o)[b]? =_;rw[Array.getElem?_push,RW<|by omega];exact h
theorem heap_alloc_new(w:PP)(o:Obj):(w.alloc o).heap[w.heap.size]? =some o:=by
 show(w.heap.push o)[w.heap.size]? =_;simp
theorem xS.fresh(h:xS w F m):m (.blk w.heap.size)=none/\F.mem w.heap.size=none:=by
 constructor
 ·cases e:m (.blk w.heap.size) with
  | none=>rfl
  | some o=>obtain⟨_,_,h'⟩:=h.own _ _ e;have:=lt_of_heap h';omega
 ·cases e:F.mem w.heap.size with
  | none=>rfl
  | some o=>have:=lt_of_heap<|h.frz _ _ e;omega
theorem CX{k:Key}{c:Cell}(h:m k=none)(a:H m):star (λm=>m k=some c) H (m.set k c):=by
 refine⟨Mem.set (λ_=>none) k c,m,?_,?_,?_,?_,a⟩
 ·intro b;by_cases e:b=k
  ·subst e;exact .inr h
  ·exact .inl<|by simp[Mem.set,e]
 ·intro b x e;by_cases e' :b=k
  ·simpa[Mem.set,e'] using e
  ·simp[Mem.set,e'] at e
 ·intro b x e;by_cases e' :b=k
  ·subst e';rw[h] at e;cases e
  ·simpa[Mem.set,e'] using e
 ·simp[Mem.set]
theorem SH.alloc{w:PP}{F:Fz}{H:HP}(h:SH w F H)(o:Obj):SH (w.alloc o) F (star (pt w.heap.size o) H):=by
 obtain⟨m,a,k⟩:=h;obtain⟨f1,f2⟩:=k.fresh;refine⟨m.set (.blk w.heap.size)<|.obj o,CX f1 a,?_,?_,?_,?_,k.os,k.tape,k.out⟩
 ·intro b;by_cases e:b=w.heap.size
  ·subst e;exact .inr f2
  ·rcases k.dj b with h | h
   ·exact .inl<|by simpa[Mem.set,e] using h
   ·exact .inr h
 ·intro b x e;by_cases e' :b=w.heap.size
  ·subst e';simp[Mem.set] at e;subst e;exact⟨o,rfl,heap_alloc_new w o⟩
  ·simp[Mem.set,e'] at e;obtain⟨o',e1,e2⟩:=k.own b x e;exact⟨o',e1,heap_alloc_old e2⟩
 ·intro γ c e;exact k.gst γ c<|by simpa[Mem.set] using e
 ·intro b x e;exact heap_alloc_old<|k.frz b x e
def Fz.tG(F:Fz):Fz:={F with gh:=λγ=>if γ=F.gn then[] else F.gh γ,gn:=F.gn+1}
theorem SH.cS(h:SH w F H):F<=F.tG/\SH w F.tG (star (yU F.gn []) H):=by
 obtain⟨m,a,k⟩:=h
 have f1:m (.gst F.gn)=none:=by
  cases e:m (.gst F.gn) with
  | none=>rfl
  | some c=>have:=(k.gst _ _ e).1;omega
 refine⟨⟨rfl,rfl,rfl,λ_ _ h=>h,λγ hγ=> ?_,Nat.le_succ _⟩,m.set (.gst F.gn)<|.gh [],CX f1 a,?_,?_,?_,k.frz,k.os,k.tape,k.out⟩
 ·show F.gh γ <+:(if γ=F.gn then[] else F.gh γ);rw[RW<|by omega];exact eS _
 ·intro b;rcases k.dj b with h | h
  ·exact .inl<|by simpa[Mem.set] using h
  ·exact .inr h
 ·intro b x e;exact k.own b x<|by simpa[Mem.set] using e
 ·intro γ c e;by_cases e' :γ=F.gn
  ·subst e';simp[Mem.set] at e;subst e;exact⟨Nat.lt_succ_self _,by simp[Fz.tG]⟩
  ·have e2:m (.gst γ)=some c:=by simpa[Mem.set,e'] using e
   obtain⟨h1,h2⟩:=k.gst γ c e2;exact⟨Nat.lt_succ_of_lt h1,by simp[Fz.tG,e',h2]⟩
def Fz.cu(F:Fz)(γ b:Nat):Fz:={F with gh:=λδ=>if δ=γ then F.gh γ++[b] else F.gh δ}
theorem SH.au{γ:Nat}{l:UV Nat}(h:SH w F (star (yU γ l) H)):γ < F.gn/\F.gh γ=l:=by
 obtain⟨m,⟨m1,m2,d,s1,s2,hp,hq⟩,k⟩:=h;obtain⟨h1,h2⟩:=k.gst γ _<|s1 _ _ hp;simp only[Cell.gh.injEq] at h2
 exact⟨h1,h2.symm⟩
theorem SH.cu{γ:Nat}{l:UV Nat}(h:SH w F (star (yU γ l) H))(b:Nat):F<=F.cu γ b/\SH w (F.cu γ b) (star (yU γ<|l++[b]) H):=by
 obtain⟨h0,hl⟩:=h.au;obtain⟨m,⟨m1,m2,d,s1,s2,hp,hq⟩,k⟩:=h;have hm:m (.gst γ)=some (.gh l):=s1 _ _ hp;have h2:m2 (.gst γ)=none:=d.bk hp;refine⟨⟨rfl,rfl,rfl,λ_ _ h=>h,λδ _=> ?_,IN _⟩,m2.set (.gst γ)<|.gh<|l++[b],CX h2 hq,?_,?_,?_,k.frz,k.os,k.tape,k.out⟩
 ·show F.gh δ <+:(if δ=γ then F.gh γ++[b] else F.gh δ);split
  ·rename_i e;subst e;exact List.prefix_append _ _
  ·exact eS _
 ·intro b';rcases k.dj b' with h | h
  ·cases e:m2 (.blk b') with
   | none=>exact .inl (by simpa[Mem.set] using e)
   | some c=>rw[s2 _ _ e] at h;cases h
  ·exact .inr h
 ·intro b' x e;exact k.own b' x<|s2 _ _<|by simpa[Mem.set] using e
 ·intro δ c e;by_cases e' :δ=γ
  ·subst e';simp[Mem.set] at e;subst e;exact⟨h0,by simp[Fz.cu,hl]⟩
  ·have e2:m2 (.gst δ)=some c:=by simpa[Mem.set,e'] using e
   obtain⟨h1,h3⟩:=k.gst δ c<|s2 _ _ e2;exact⟨h1,by simp[Fz.cu,e',h3]⟩
def Fz.add(F:Fz)(b:Nat)(o:Obj):Fz:={F with mem:=Rb F.mem b o}
theorem Fz.tV(h:F.mem b=none):F<=F.add b o:=
 ⟨rfl,rfl,rfl,λk x e=>by
  show Rb F.mem b o k=some x;by_cases e' :k=b
  ·subst e';rw[h] at e;cases e
  ·simpa[Rb,e'] using e,λ_ _=>eS _,IN _⟩
theorem Fz.ba(F:Fz)(b:Nat)(o:Obj):(F.add b o).mem b=some o:=by simp[Fz.add,Rb]
theorem SH.freeze(h:SH w F (star (pt b o) H)):F<=F.add b o/\SH w (F.add b o) H:=by
 have hb:=h.owned;obtain⟨m,⟨m1,m2,d,s1,s2,hp,hq⟩,k⟩:=h;have hm:m (.blk b)=some (.obj o):=s1 _ _ hp
 have h0:F.mem b=none:=by
  rcases k.dj b with e | e
  ·rw[hm] at e;cases e
  ·exact e
 have k2:=k.sub s2;refine⟨Fz.tV h0,m2,hq,?_,k2.own,k2.gst,?_,k.os,k.tape,k.out⟩
 ·intro b';show m2 (.blk b')=none∨Rb F.mem b o b' =none;by_cases e:b' =b
  ·subst e;exact .inl<|d.bk hp
  ·rcases k2.dj b' with h | h
   ·exact .inl h
   ·exact .inr<|by simpa[Rb,e] using h
 ·intro b' x e;change Rb F.mem b o b' =some x at e
  by_cases e' :b' =b
  ·subst e';simp[Rb] at e;subst e;exact hb
  ·simp[Rb,e'] at e;exact k.frz b' x e
theorem SH.s3(h:SH w F H)(o:Obj):F<=F.add w.heap.size o/\SH (w.alloc o) (F.add w.heap.size o) H:=(h.alloc o).freeze
def put(w:PP)(b:Nat)(o:Obj):PP:={w with heap:=w.heap.setIfInBounds b o}
theorem AL{x:Obj}(h:w.heap[b]? =some x):(put w b o).heap[b]? =some o:=by
 have:=lt_of_heap h;simp[put,this]
theorem Cp(h:k≠b):(put w b o).heap[k]? =w.heap[k]? :=by
 simp[put,ib h]
theorem SH.put{o':Obj}(h:SH w F (star (pt b o) H)):SH (Dec.put w b o') F (star (pt b o') H):=by
 have hb:=h.owned;obtain⟨m,⟨m1,m2,d,s1,s2,hp,hq⟩,k⟩:=h;have hm:m (.blk b)=some (.obj o):=s1 _ _ hp
 have h0:F.mem b=none:=by
  rcases k.dj b with e | e
  ·rw[hm] at e;cases e
  ·exact e
 have h2:m2 (.blk b)=none:=d.bk hp;have k2:=k.sub s2;refine⟨m2.set (.blk b)<|.obj o',CX h2 hq,?_,?_,?_,?_,k.os,k.tape,k.out⟩
 ·intro b';by_cases e:b' =b
  ·subst e;exact .inr h0
  ·rcases k2.dj b' with h | h
   ·exact .inl<|by simpa[Mem.set,e] using h
   ·exact .inr h
 ·intro b' x e;by_cases e' :b' =b
  ·subst e';simp[Mem.set] at e;subst e;exact⟨o',rfl,AL hb⟩
  ·simp[Mem.set,e'] at e
   obtain⟨o2,e1,e2⟩:=k2.own b' x e;exact⟨o2,e1,by rw[Cp e'];exact e2⟩
 ·intro γ c e;exact k2.gst γ c<|by simpa[Mem.set] using e
 ·intro b' x e;have:b'≠b:=λe' =>by subst e';rw[h0] at e;cases e
  rw[Cp this];exact k.frz b' x e
theorem SH.pull(hk:hs[k]? =some p)(h:SH w F (Qi hs)):SH w F (star p<|Qi<|hs.eraseIdx k):=h.mono λ_=>VW hk
theorem SH.push(hk:hs[k]? =some q)(h:SH w F (star p<|Qi<|hs.eraseIdx k)):SH w F (Qi<|hs.set k p):=h.mono λ_=>FN hk
theorem SH.bT(hk:hs[k]? =some (pt b o))(h:SH w F (Qi hs)):w.heap[b]? =some o:=(h.pull hk).owned
theorem SH.putAt(hk:hs[k]? =some (pt b o))(h:SH w F (Qi hs))(o' :Obj):SH (Dec.put w b o') F (Qi<|hs.set k<|pt b o'):=SH.push hk ((h.pull hk).put)
theorem SH.tX(hk:hs[k]? =some (pt b o))(h:SH w F (Qi hs)):F<=F.add b o/\SH w (F.add b o) (Qi<|hs.eraseIdx k):=(h.pull hk).freeze
theorem SH.bp(k:Nat)(h:SH w F (Qi hs)):SH w F (Qi<|hs.eraseIdx k):=(h.mono λ_=>DD (k:=k)).drop
theorem SH.only(hk:hs[k]? =some p)(h:SH w F (Qi hs)):SH w F p:=by
 obtain⟨m,hm,s⟩:=h;obtain⟨m1,m2,d,s1,s2,hp,_⟩:=VW hk hm;exact⟨m1,hp,s.sub s1⟩
theorem SH.one(h:SH w F p):SH w F (Qi [p]):=h.mono λm hm=>⟨m,λ_=>none,λ_=>.inr rfl,Mem.sub.refl _,λ_ _ e=>by simp at e,hm,trivial⟩
theorem SH.size_le{w':PP}{F':Fz}{H' :HP}(h' :SH w' F' H')(hall:∀b o,w.heap[b]? =some o->F.mem b=some o)(le:F<=F'):w.heap.size<=w'.heap.size/\∀k,k < w.heap.size->w'.heap[k]? =w.heap[k]? :=by
 have key:∀k,k < w.heap.size->w'.heap[k]? =w.heap[k]? :=λk hk=>by
  have e:w.heap[k]? =some w.heap[k]:=by simp[hk]
  rw[e];exact h'.frozen<|le.mem _ _<|hall _ _ e
 refine⟨?_,key⟩;rcases nA w'.heap.size w.heap.size with hlt | hge
 ·have e:=key w'.heap.size hlt;have e2:w.heap[w'.heap.size]? =some w.heap[w'.heap.size]:=by simp[hlt]
  rw[e2] at e
  have:=lt_of_heap e;omega
 ·exact hge
end
section
variable{Q:nN->Act->PP->Prop}{S:UV (Nat×Do)}{β σ α γ:Type}{P:RK}{D:UV q8}{O:H1 Nat}{w:PP}{n id:Nat}{a:Act}{K K':Act->PP->Prop}{c x y:lN}{F:Fz}{hs:UV HP}{args:UV Do}{ops:Of x5}{l:UV x5}{m:H1 β}{o:x5}{f:x4}
variable{O:H1 Nat}
def K4:UV (Nat×Do)->Nat->H1 Do
 | [],_=>none
 | (k,v)::S,i=>match Nat.beq k i with
  | true=>some v
  | false=>K4 S i
def Sl(n:Nat)(D:UV q8)(S:UV (Nat×Do))(a:Act):Prop:=a.tmps.size=n/\a.defers=D/\∀i v,K4 S i=some v->a.tmps.getD i undef=v
def Hd(n:Nat)(D:UV q8)(S:UV (Nat×Do))(F:Fz)(hs:UV HP)(a:Act)(w:PP):Prop:=Sl n D S a/\SH w F (Qi hs)
def QO(S:UV (Nat×Do)):dO->H1 Do
 | .tmp t=>K4 S t
 | .const v=>some v
 | .global g=>some (.pointer<|some ⟨g,0,none⟩)
 | .func f=>some<|.func (.func f) #[] #[]
theorem Sl.eval(h:Sl n D S a){o:dO}{v:Do}(e:QO S o=some v):a.eval o=v:=by
 cases o with
 | tmp t=>exact h.2.2 t v e
 | const x=>exact y1 e
 | global g=>exact y1 e
 | func f=>exact y1 e
theorem Sl.put(h:Sl n D S a){d:Nat}(hd:Nat.blt d n=true)(v:Do):Sl n D ((d,v)::S) (a.put (some d) v):=by
 have hd' :d < n:=j3 hd;obtain⟨h1,h2,h3⟩:=h;refine⟨by simp[Act.put,h1],by simp[Act.put,h2],λi u e=> ?_⟩;simp only[K4] at e
 cases hb:Nat.beq d i with
 | true=>
  rw[hb] at e
  have:d=i:=rW hb;subst this;simp only[BY] at e
  subst e;simp[Act.put,tO,h1,hd']
 | false=>
  rw[hb] at e
  have hne:d≠i:=λhe=>by subst he;simp at hb
  have:=h3 i u e;simp only[Act.put,tO] at this ⊢
  rw[oW hne];exact this
theorem Sl.bh(h:Sl n D S a)(v:Do):Sl n D S (a.put none v):=h
def Sub(S' S:UV (Nat×Do)):Prop:=∀i v,K4 S' i=some v->K4 S i=some v
theorem Sub.refl(S:UV (Nat×Do)):Sub S S:=λ_ _ h=>h
theorem Sub.nil(S:UV (Nat×Do)):Sub [] S:=λ_ _ h=>by simp[K4] at h
theorem Sub.cons{S T:UV (Nat×Do)}{k:Nat}{v:Do}(h:K4 S k=some v)(t:Sub T S):Sub ((k,v)::T) S:=λi u e=>by
 simp only[K4] at e
 cases hb:Nat.beq k i with
 | true=>
  rw[hb] at e
  have:k=i:=rW hb;subst this;simp only[BY] at e
  subst e;exact h
 | false=>rw[hb] at e;exact t i u e
theorem Sl.sub{S':UV (Nat×Do)}(h:Sl n D S a)(s:Sub S' S):Sl n D S' a:=⟨h.1,h.2.1,λi v e=>h.2.2 i v<|s i v e⟩
def Am(k:Nat):UV (Nat×Do)->Bool
 | []=>false
 | (j,_)::S=>Nat.beq j k||Am k S
def fresh(S:UV (Nat×Do)):UV (Nat×Do)->Bool
 | []=>true
 | (j,_)::T=> !Am j S&&fresh S T
theorem Fc:∀{S:UV (Nat×Do)} {i:Nat} {v:Do},K4 S i=some v->Am i S=true
 | [],_,_,h=>by simp[K4] at h
 | (k,u)::S,i,v,h=>by
  simp only[K4] at h
  simp only[Am];cases hb:Nat.beq k i with
  | true=>rfl
  | false=>rw[hb] at h;simp[Fc h]
theorem DI:∀{T S:UV (Nat×Do)} {i:Nat} {v:Do},fresh S T=true->K4 S i=some v->K4 (T++S) i=some v
 | [],_,_,_,_,h=>h
 | (j,u)::T,S,i,v,hf,h=>by
  simp only[fresh,AT,ng] at hf
  simp only[mQ,K4];cases hb:Nat.beq j i with
  | true=>
   have:j=i:=rW hb;subst this;rw[Fc h] at hf;cases hf.1
  | false=>exact DI hf.2 h
inductive Kt where
 | code (c:Code)
 | block (id:Nat)
variable{ks:UV Kt}
def Rc:H1 Nat->Fence
 | none=>Fence.wide
 | some l=>Fence.wide.inRound l
theorem jn(O:H1 Nat):(Rc O).round=O:=by cases O<;>rfl
theorem BV(O:H1 Nat)(f:x4):(Rc O).fn f:=by cases O<;>trivial
theorem Dv(O:H1 Nat):(Rc O).depth=none:=by cases O<;>rfl
theorem Du(O:H1 Nat)(n:Nat):(Rc O).room n:=λd hd=>by rw[Dv] at hd;cases hd
theorem ET{args:Of Do}{R:oJ->PP->Prop}:CallsIn (Rc O) n P f args w R↔Calls P f args w R:=by
 cases O with
 | none=>exact nP
 | some l=>exact nP
def HS:Op->Bool
 | .defer _=>false
 | _=>true
theorem zJ{o:Op}(h:HS o=true):∀c,o≠.defer c:=λc e=>by rw[e] at h;cases h
def jZ(O:H1 Nat)(P:RK)(o:x5)(a:Act)(w:PP)(K:Act->PP->Prop)(Q:nN->Act->PP->Prop):Prop:=(O=none∨HS o.op=true)/\o.uponIn (Rc O) 0 P a K Q ((execOp a.eval o).run P w)
theorem jZ.wpIn(h:jZ O P o a w K Q):o.wpIn (Rc O) 0 P a w K Q:=by
 refine⟨λf _=>BV O f,?_⟩;rw[jn];obtain⟨h1,h2⟩:=h;rcases h1 with rfl | h1
 ·exact h2
 ·rw[Oper.semAt_eq O _ o<|zJ h1];exact h2
theorem OB{Q':nN->Act->PP->Prop}(h:∀u w,K (a.put o.dst u) w->K' (a.put o.dst u) w)
  (hd:∀d w,K ({a with defers:=d::a.defers}.put o.dst undef) w->K' ({a with defers:=d::a.defers}.put o.dst undef) w) (hx:∀e a w,e≠.normal->Q e a w->Q' e a w)
  (hh:jZ O P o a w K Q):jZ O P o a w K' Q' :=by
 obtain⟨h1,h2⟩:=hh;refine⟨h1,?_⟩;generalize(execOp a.eval o).run P w=r at*
 unfold Oper.uponIn at*
 split at h2
 all_goals first
  | exact h _ _ h2
  | exact hd _ _ h2
  | exact h2.elim
  | exact hx _ _ _ (by simp) h2
  | (refine⟨h2.1,CallsIn.mono h2.2 ?_⟩;rintro(v | c | _) w'' hq<;>first | exact h _ _ hq | exact hx _ _ _ (by simp) hq | (obtain⟨a1,w1,h3⟩:=hq;exact⟨a1,w1,hx _ _ _ (by simp) h3⟩))
  | (refine⟨h2.1,RowsIn.mono h2.2 ?_⟩;intro v w'' hq;exact h _ _ hq)
  | (refine⟨h2.1,RoundIn.mono h2.2 ?_⟩;rintro(v | c | _) w'' hq<;>first | exact h _ _ hq | exact hx _ _ _ (by simp) hq | (obtain⟨a1,w1,h3⟩:=hq;exact⟨a1,w1,hx _ _ _ (by simp) h3⟩))
theorem Rn{Q':nN->Act->PP->Prop}(h:∀a w,K a w->K' a w)(hx:∀e a w,e≠.normal->Q e a w->Q' e a w)
 (hh:jZ O P o a w K Q):jZ O P o a w K' Q' :=OB (λ_ _=>h _ _) (λ_ _=>h _ _) hx hh
theorem Ch(h:∀a w,K a w->K' a w)(hh:jZ O P o a w K Q):jZ O P o a w K' Q:=Rn h (λ_ _ _ _ hq=>hq) hh
def Xa(O:H1 Nat)(P:RK)(ops:Of x5)(Q:nN->Act->PP->Prop):UV x5->Act->PP->Prop
 | [],a,w=>Q .normal a w
 | o::rest,a,w=>if Region.wanted o (yielded ops a.tmps) then jZ O P o a w (Xa O P ops Q rest) Q else Xa O P ops Q rest (a.put o.dst undef) w
theorem Xa.wpIn:∀{l:UV x5} {a:Act} {w:PP},Xa O P ops Q l a w->wpListIn (Rc O) 0 P ops Q l a w
 | [],_,_,h=>h
 | o::rest,a,w,h=>by
  unfold Xa at h
  unfold wpListIn;split
  ·rename_i hw;rw[TO hw] at h
   exact(Ch (λa w h=>Xa.wpIn h) h).wpIn
  ·rename_i hw;rw[RW hw] at h
   exact⟨λf _=>BV O f,Xa.wpIn h⟩
def Zu(O:H1 Nat)(P:RK):UV Kt->(nN->Act->PP->Prop)->nN->Act->PP->Prop
 | [],Q=>Q
 | .code c::ks,Q=>Exit.then (c.wpIn (Rc O) 0 P<|Zu O P ks Q) (Zu O P ks Q)
 | .block id::ks,Q=>Exit.inBlock id<|Zu O P ks Q
def Dw(id:Nat):UV Kt->H1 (UV Kt)
 | []=>none
 | .code _::ks=>Dw id ks
 | .block j::ks=>match Nat.beq j id with
  | true=>some ks
  | false=>Dw id ks
theorem Q6:∀{ks ks' :UV Kt},Dw id ks=some ks'->Zu O P ks' Q .normal a w->Zu O P ks Q (.exit id) a w
 | [],_,h,_=>by simp[Dw] at h
 | .code c::ks,ks',h,k=>by
  simp only[Dw] at h
  show Zu O P ks Q (.exit id) a w;exact Q6 h k
 | .block j::ks,ks',h,k=>by
  simp only[Dw] at h
  show(if id=j then Zu O P ks Q .normal a w else Zu O P ks Q (.exit id) a w);cases hb:Nat.beq j id with
  | true=>
   rw[hb] at h
   have:j=id:=rW hb;simp only[BY] at h
   subst h;rw[TO this.symm];exact k
  | false=>
   rw[hb] at h
   have hne:id≠j:=λhe=>by subst he;simp at hb
   rw[RW hne];exact Q6 h k
theorem Al:∀{ks:UV Kt},Dw id ks=none->Q (.exit id) a w->Zu O P ks Q (.exit id) a w
 | [],_,k=>k
 | .code c::ks,h,k=>by
  simp only[Dw] at h
  show Zu O P ks Q (.exit id) a w;exact Al h k
 | .block j::ks,h,k=>by
  simp only[Dw] at h
  show(if id=j then Zu O P ks Q .normal a w else Zu O P ks Q (.exit id) a w);cases hb:Nat.beq j id with
  | true=>rw[hb] at h;simp at h
  | false=>
   rw[hb] at h
   have hne:id≠j:=λhe=>by subst he;simp at hb
   rw[RW hne];exact Al h k
theorem K7:∀{ks:UV Kt},Q .ret a w->Zu O P ks Q .ret a w
 | [],k=>k
 | .code c::ks,k=>by show Zu O P ks Q .ret a w;exact K7 k
 | .block j::ks,k=>by show Zu O P ks Q .ret a w;exact K7 k
theorem K8{c:UV PanicEntry}:∀{ks:UV Kt},Q (.panic c) a w->Zu O P ks Q (.panic c) a w
 | [],k=>k
 | .code c::ks,k=>by show Zu O P ks Q (.panic _) a w;exact K8 k
 | .block j::ks,k=>by show Zu O P ks Q (.panic _) a w;exact K8 k
def wpS(P:RK)(ops:Of x5)(w:PP)(K:Act->Prop):UV x5->Act->Prop
 | [],a=>K a
 | o::rest,a=>if Region.wanted o (yielded ops a.tmps) then ∃v,(execOp a.eval o).run P w= .ok (.value v) w/\wpS P ops w K rest (a.put o.dst v) else wpS P ops w K rest (a.put o.dst undef)
inductive Md where
 | f (O:Option Nat)
 | s
instance:Coe (H1 Nat) Md:=⟨.f⟩
variable{μ:Md}
def gT(μ:Md)(P:RK)(ops:Of x5)(ks:UV Kt)(Q:nN->Act->PP->Prop)(l:UV x5)(a:Act)(w:PP):Prop:=match μ with
 | .f O=>Xa O P ops (Zu O P ks Q) l a w
 | .s=>wpS P ops w (λa' =>Zu none P ks Q .normal a' w) l a
inductive Pt where
 | L (ops:Array Oper) (l:List Oper) (ks:List Kt)
 | C (c:Code) (ks:List Kt)
 | E (ks:List Kt)
structure Gp where
 u:Md
 P:Program
 Q:Exit->Act->World->Prop
 p:Pt
variable{g:Gp}
def Md.k:Md->H1 Nat
 | .f O=>O
 | .s=>none
def Gp.W(g:Gp):Act->PP->Prop:=match g.p with
 | .L ops l ks=>gT g.u g.P ops ks g.Q l
 | .C c ks=>c.wpIn (Rc g.u.k) 0 g.P (Zu g.u.k g.P ks g.Q)
 | .E ks=>Zu g.u.k g.P ks g.Q .normal
def GG(g:Gp)(A:Act->PP->Prop)(m:H1 β)(r:β):Prop:=m=some r->∀a w,A a w->g.W a w
theorem ga(h:Xa O P ops (Zu O P ks Q) l a w):(Gp.mk (.f O) P Q<|.L ops l ks).W a w:=h
abbrev GL(μ:Md)(P:RK)(ops:Of x5)(l:UV x5)(ks:UV Kt)(Q:nN->Act->PP->Prop)(A:Act->PP->Prop)(m:H1 β)(r:β):Prop:=GG ⟨μ,P,Q,.L ops l ks⟩ A m r
abbrev GC(O:H1 Nat)(P:RK)(c:lN)(ks:UV Kt)(Q:nN->Act->PP->Prop)(A:Act->PP->Prop)(m:H1 β)(r:β):Prop:=GG ⟨.f O,P,Q,.C c ks⟩ A m r
abbrev GE(O:H1 Nat)(P:RK)(ks:UV Kt)(Q:nN->Act->PP->Prop)(A:Act->PP->Prop)(m:H1 β)(r:β):Prop:=GG ⟨.f O,P,Q,.E ks⟩ A m r
section
variable{β:Type}{P:RK}{ops:Of x5}{l rest:UV x5}{ks:UV Kt}{Q:nN->Act->PP->Prop}{A A' :Act->PP->Prop}{m:H1 β}{r:β}
theorem GG.seq(h:GC O P x (.code y::ks) Q A m r):GC O P (.seq x y) ks Q A m r:=λhm a w ha=>wpIn_seq<|h hm a w ha
theorem GG.skip(h:GE O P ks Q A m r):GC O P .skip ks Q A m r:=λhm a w ha=>wpIn_skip<|h hm a w ha
theorem GG.exit{ks' :UV Kt}(hk:Dw id ks=some ks')(h:GE O P ks' Q A m r):GC O P (.exit id) ks Q A m r:=λhm a w ha=>wpIn_exit<|Q6 hk<|h hm a w ha
theorem GG.bE(hk:Dw id ks=none)(h:m=some r->∀a w,A a w->Q (.exit id) a w):GC O P (.exit id) ks Q A m r:=λhm a w ha=>wpIn_exit<|Al hk<|h hm a w ha
theorem GG.bc(h:m=some r->∀a w,A a w->Q .ret a w):GC O P .ret ks Q A m r:=λhm a w ha=>wpIn_ret<|K7<|h hm a w ha
theorem GG.code(h:GC O P c ks Q A m r):GE O P (.code c::ks) Q A m r:=h
theorem GG.bA(h:m=some r->∀a w,A a w->Q .normal a w):GE O P [] Q A m r:=h
theorem GG.region(h:GL O P l.toArray l ks Q A m r):GC O P (.region id l.toArray false) ks Q A m r:=λhm a w ha=>wpIn_region_lit<|Xa.wpIn<|h hm a w ha
theorem GG.cond{S:UV (Nat×Do)}{n:Nat}{D:UV q8}{F:Fz}{hs:UV HP}{c:dO}{x y:lN}{b:Bool}{m1 m2:H1 β}(hc:QO S c=some (.bool b))
  (h1:b=true->GC O P x ks Q (Hd n D S F hs) m1 r) (h2:b=false->GC O P y ks Q (Hd n D S F hs) m2 r):GC O P (.cond c x y) ks Q (Hd n D S F hs) (if b then m1 else m2) r:=by
 intro hm a w ha;cases hb:b with
 | true=>rw[hb] at hc;rw[hb,TO rfl] at hm;exact wpIn_cond_true (ha.1.eval hc) (h1 hb hm a w ha)
 | false=>rw[hb] at hc;rw[hb,RW<|by simp] at hm;exact wpIn_cond_false (ha.1.eval hc)<|h2 hb hm a w ha
theorem GG.cR{c:dO}(hc:QO S c=some (.bool true))
  (h1:GC O P x ks Q (Hd n D S F hs) m r):GC O P (.cond c x y) ks Q (Hd n D S F hs) m r:=
 λhm a w ha=>wpIn_cond_true (ha.1.eval hc)<|h1 hm a w ha
theorem GG.cB{c:dO}(hc:QO S c=some (.bool false))
  (h1:GC O P y ks Q (Hd n D S F hs) m r):GC O P (.cond c x y) ks Q (Hd n D S F hs) m r:=
 λhm a w ha=>wpIn_cond_false (ha.1.eval hc)<|h1 hm a w ha
theorem GG.aA(h:∀a w,A a w->A' a w)(k:GG g A' m r):GG g A m r:=by
 exact λhm a w ha=>k hm a w<|h a w ha
section
variable{S S' :UV (Nat×Do)}{n:Nat}{D:UV q8}{F F' :Fz}{hs hs' :UV HP}
theorem GG.keep(s:Sub S' S)(k:GG g (Hd n D S' F hs) m r):GG g (Hd n D S F hs) m r:=GG.aA (λ_ _ h=>⟨h.1.sub s,h.2⟩) k
theorem GG.drop(i:Nat)(k:GG g (Hd n D S F<|hs.eraseIdx i) m r):GG g (Hd n D S F hs) m r:=by
 exact GG.aA (λ_ _ h=>⟨h.1,h.2.bp i⟩) k
theorem GG.freeze{b:Nat}{o:Obj}(i:Nat)(hk:hs[i]? =some (pt b o))(k:∀F',F<=F'->F'.mem b=some o->GG g (Hd n D S F'<|hs.eraseIdx i) m r):GG g (Hd n D S F hs) m r:=by
 exact λhm a w ha=>by
  obtain⟨h1,h2⟩:=SH.tX hk ha.2;exact k _ h1 (Fz.ba F b o) hm a w ⟨ha.1,h2⟩
end
def QR(x:α)(f:α->γ):γ:=f x
theorem GG.du{x:α}{f:α->H1 β}(h:∀y,y=x->GG g A (f y) r):GG g A (QR x f) r:=by
 exact h x rfl
theorem GG.bind{g:Gp}{α:Type}{e:H1 α}{f:α->H1 β}(h:∀y,e=some y->GG g A (f y) r):GG g A (e.bind f) r:=by
 exact λhm=>by
  cases e with
  | none=>simp at hm
  | some y=>exact h y rfl hm
end
inductive UK(σ β:Type) where
 | next(s:σ)
 | done (b:β)
variable{body:σ->H1 (UK σ β)}
def Hf(body:σ->H1 (UK σ β)):Nat->σ->H1 β
 | 0,_=>none
 | n+1,s=>match body s with
  | none=>none
  | some (.done b)=>some b
  | some (.next s')=>Hf body n s'
open Classical in
def ZQ(body:σ->H1 (UK σ β))(s:σ):H1 β:=if h:∃b n,Hf body n s=some b then some h.choose else none
theorem Ai:∀{n k:Nat} {s:σ} {b:β},n<=k->Hf body n s=some b->Hf body k s=some b
 | 0,_,_,_,_,h=>by simp[Hf] at h
 | n+1,0,_,_,le,_=>by omega
 | n+1,k+1,s,b,le,h=>by
  simp only[Hf] at h ⊢
  cases hb:body s with
  | none=>rw[hb] at h;cases h
  | some c=>
   rw[hb] at h
   cases c with
   | done x=>exact h
   | next s' =>exact Ai (Nat.le_of_succ_le_succ le) h
theorem Aj{s:σ}{b:β}(h:Hf body n s=some b):ZQ body s=some b:=by
 have he:∃b n,Hf body n s=some b:=⟨b,n,h⟩;unfold ZQ;rw[dif_pos he];obtain⟨k,hk⟩:=he.choose_spec;have h1:=Ai (Nat.le_max_left n k) h;have h2:=Ai (Nat.le_max_right n k) hk;rw[h1] at h2
 exact h2.symm
theorem BM{s:σ}{b:β}(h:ZQ body s=some b):∃n,Hf body n s=some b:=by
 unfold ZQ at h
 split at h
 ·rename_i he;simp only[BY] at h
  obtain⟨n,hn⟩:=he.choose_spec;exact⟨n,h▸hn⟩
 ·cases h
theorem ZC(body:σ->H1 (UK σ β))(s:σ):ZQ body s=match body s with
  | none=>none
  | some (.done b)=>some b
  | some (.next s')=>ZQ body s' :=by
 cases hb:body s with
 | none=>
  cases h:ZQ body s with
  | none=>rfl
  | some b=>
   obtain⟨n,hn⟩:=BM h;cases n with
   | zero=>simp[Hf] at hn
   | succ n=>simp[Hf,hb] at hn
 | some c=>
  cases c with
  | done b=>exact Aj (n:=1) (by simp[Hf,hb])
  | next s' =>
   show ZQ body s=ZQ body s';cases h:ZQ body s' with
   | some b=>
    obtain⟨n,hn⟩:=BM h;exact Aj (n:=n+1) (by simp only[Hf,hb];exact hn)
   | none=>
    cases h2:ZQ body s with
    | none=>rfl
    | some b=>
     obtain⟨n,hn⟩:=BM h2;cases n with
     | zero=>simp[Hf] at hn
     | succ n=>
      simp only[Hf,hb] at hn
      rw[Aj hn] at h;cases h
def Qz(I:σ->Act->PP->Prop)(Dn:β->nN->Act->PP->Prop)(c:UK σ β):nN->Act->PP->Prop:=λe a w=>
 match c with
 | .next s=>e= .normal/\I s a w
 | .done b=>e≠.normal/\Dn b e a w
theorem Ox{I:σ->Act->PP->Prop}{Dn:β->nN->Act->PP->Prop}{b:β}
  (round:∀s ctl,body s=some ctl->∀a w,I s a w->c.wpIn (Rc O) 0 P (Qz I Dn ctl) a w):∀(n:Nat) (s:σ),Hf body n s=some b->∀a w,I s a w->
   ∀(fr:Frame) (k:UV Item) (cs:UV Frame),fr.roundOf=(Rc O).round->∃e a' w',Dn b e a' w'/\ArrivesIn (Machine.fenced P<|Rc O) P (lone (fr.atR a<|.code c:: .inLoop c::k) cs w) fr k cs e a' w'
 | 0,_,h,_,_,_,_,_,_,_=>by simp[Hf] at h
 | n+1,s,h,a,w,hI,fr,k,cs,hro=>by
  simp only[Hf] at h
  cases hb:body s with
  | none=>rw[hb] at h;cases h
  | some ctl=>
   rw[hb] at h
   obtain⟨e,a₁,w₁,hq,harr⟩:=round s ctl hb a w hI fr (.inLoop c::k) cs hro (BV O _)<|Du O _;cases ctl with
   | next s' =>
    obtain⟨rfl,hI'⟩:=hq;obtain⟨e₂,a₂,w₂,hq₂,harr₂⟩:=Ox round n s' h a₁ w₁ hI' fr k cs hro;exact⟨e₂,a₂,w₂,hq₂,.of_steps (nj harr<|.one (eN (n:=0) (BV O _) (Du O _) rfl) iE) harr₂⟩
   | done b' =>
    obtain⟨hne,hq⟩:=hq;simp only[BY] at h
    subst h;refine⟨e,a₁,w₁,hq,?_⟩;exact .pass (x:=.inLoop c) rfl (λ_ _=>.inl hne) harr
section
variable{β:Type}{P:RK}{ks:UV Kt}{Q:nN->Act->PP->Prop}{A:Act->PP->Prop}{r:β}
theorem GG.loop{body:σ->H1 (UK σ γ)}{s0:σ}{f:γ->H1 β}(I:σ->Act->PP->Prop)(Dn:γ->nN->Act->PP->Prop)
  (hI:∀a w,A a w->I s0 a w)
  (round:∀s ctl,GC O P c [] (Qz I Dn ctl) (I s) (body s) ctl)
  (after:∀b,ZQ body s0=some b->f b=some r->∀e a w,Dn b e a w->Zu O P ks Q e a w):GC O P (.loop c) ks Q A ((ZQ body s0).bind f) r:=by
 intro hm a w ha;cases hl:ZQ body s0 with
 | none=>rw[hl] at hm;cases hm
 | some b=>
  rw[hl] at hm
  obtain⟨n,hn⟩:=BM hl;intro fr k cs hro hf hr;obtain⟨e,a',w',hq,harr⟩:=Ox (Dn:=Dn) (λs ctl hs a w hI' =>round s ctl hs a w hI') n s0 hn a w (hI a w ha) fr k cs hro;exact⟨e,a',w',after b hl hm e a' w' hq,.of_steps (.one (eN hf hr rfl) iU) harr⟩
theorem GG.join{m0:H1 (UK σ γ)}{f:UK σ γ->H1 β}(I:σ->Act->PP->Prop)(Dn:γ->nN->Act->PP->Prop)
  (h:∀ctl,GC O P c [] (Qz I Dn ctl) A m0 ctl)
  (next:∀s,m0=some (.next s)->GE O P ks Q (I s) (f<|.next s) r)
  (done:∀b,m0=some (.done b)->f (.done b)=some r->∀e a w,Dn b e a w->Zu O P ks Q e a w):GC O P c ks Q A (m0.bind f) r:=by
 intro hm a w ha;cases hl:m0 with
 | none=>rw[hl] at hm;cases hm
 | some ctl=>
  rw[hl] at hm
  refine eC (h ctl hl a w ha) λe a' w' hq=> ?_;cases ctl with
  | next s=>obtain⟨rfl,hq⟩:=hq;exact next s hl hm a' w' hq
  | done b=>exact done b hl hm e a' w' hq.2
theorem GG.be{m0:H1 σ}{f:σ->H1 β}(I:σ->Act->PP->Prop)
  (h:∀s,GC O P c [] (λe a w=>e= .normal/\I s a w) A m0 s)
  (next:∀s,m0=some s->GE O P ks Q (I s) (f s) r):GC O P c ks Q A (m0.bind f) r:=by
 intro hm a w ha;cases hl:m0 with
 | none=>rw[hl] at hm;cases hm
 | some s=>
  rw[hl] at hm
  refine eC (h s hl a w ha) λe a' w' hq=> ?_;obtain⟨rfl,hq⟩:=hq;exact next s hl hm a' w' hq
end
def CT(P:RK)(f:x4)(args:Of Do)(F:Fz)(H:HP)(m:H1 β)(ρ:β->Fz->Do->Prop)(H' :β->Fz->Do->HP):Prop:=∀r,m=some r->∀w R,SH w F (star H R)->Calls P f args w (λe w' =>∃F' v,F<=F'/\e= .returned v/\ρ r F' v/\SH w' F' (star (H' r F' v) R))
def KH(P:RK)(f:x4)(args:Of Do)(F:Fz)(m:H1 β)(ρ:β->Fz->Do->Prop):Prop:=∀r,m=some r->∀w R,SH w F R->Calls P f args w (λe w' =>∃F' v,F<=F'/\e= .returned v/\ρ r F' v/\SH w' F' R)
def Db:Nat->UV Do->UV (Nat×Do)
 | _,[]=>[]
 | i,v::vs=>(i,v)::Db (i+1) vs
theorem EB:∀{vs:UV Do} {i j:Nat} {v:Do},K4 (Db i vs) j=some v->i<=j/\vs[j - i]? =some v
 | [],_,_,_,h=>by simp[Db,K4] at h
 | x::vs,i,j,v,h=>by
  simp only[Db,K4] at h
  cases hb:Nat.beq i j with
  | true=>
   rw[hb] at h
   have:i=j:=rW hb;subst this;exact⟨IN _,by simpa using h⟩
  | false=>
   rw[hb] at h
   obtain⟨h1,h2⟩:=EB h;refine⟨by omega,?_⟩;rw[show j - i=(j - (i+1))+1 by omega];simpa using h2
def OP(P:RK)(fn:lK)(F:Fz)(R:HP)(ρ:β->Fz->Do->Prop)(r:β):nN->Act->PP->Prop:=bodyPost P fn (λe w' =>∃F' v,F<=F'/\e= .returned v/\ρ r F' v/\SH w' F' R)
def OQ(P:RK)(fn:lK)(F:Fz)(R:HP)(ρ:β->Fz->Do->Prop)(H' :β->Fz->Do->HP)(r:β):nN->Act->PP->Prop:=bodyPost P fn (λe w' =>∃F' v,F<=F'/\e= .returned v/\ρ r F' v/\SH w' F' (star (H' r F' v) R))
theorem Uw(hn:Nat.ble args.length n=true):Sl n [] (Db 0 args) {tmps:=args.toArray++Array.replicate (n - args.toArray.size) undef,defers:=[]}:=by
 have hn' :args.length<=n:=j3 hn;refine⟨by simp;omega,rfl,λi v e=> ?_⟩;obtain⟨_,h2⟩:=EB e;simp only[eX] at h2
 have hi:i < args.length:=by
  rcases nA i args.length with h | h
  ·exact h
  ·rw[mC h] at h2;cases h2
 simp only[tO];rw[Array.getElem?_append_left<|by simpa using hi];simp[h2]
theorem KH.enter{fn:lK}{ρ:β->Fz->Do->Prop}
  (hf:P.funcs[f]? =some fn) (hb:fn.body=some c) (hn:fn.ntmps=n) (ha:Nat.ble args.length n=true)
  (k:∀r R,GC none P c [] (OP P fn F R ρ r) (Hd n [] (Db 0 args) F [R]) m r):KH P f args.toArray F m ρ:=by
 intro r hm w R hw;refine eO hf hb<|oE.1<|k r R hm _ w ⟨?_,hw.one⟩;rw[hn];exact Uw ha
theorem SH.two{p q:HP}(h:SH w F (star p q)):SH w F (Qi [p,q]):=h.mono λm hm=>QS (λm' hq=>⟨m',λ_=>none,λ_=>.inr rfl,Mem.sub.refl _,λ_ _ e=>by simp at e,hq,trivial⟩) hm
theorem CT.enter{fn:lK}{H:HP}{ρ:β->Fz->Do->Prop}{H' :β->Fz->Do->HP}
  (hf:P.funcs[f]? =some fn) (hb:fn.body=some c) (hn:fn.ntmps=n) (ha:Nat.ble args.length n=true)
  (k:∀r R,GC none P c [] (OQ P fn F R ρ H' r) (Hd n [] (Db 0 args) F [H,R]) m r):CT P f args.toArray F H m ρ H' :=by
 intro r hm w R hw;refine eO hf hb<|oE.1<|k r R hm _ w ⟨?_,hw.two⟩;rw[hn];exact Uw ha
end
section
variable{after:Of lL}{cs:Of Do}{pos:String}{len j z e t d i:Nat}{ty:If}{fs:Of Field}{T:Of If}{v:Do}{o:x5}{b:Bool}{a:Act}{op:Op}
variable{O:H1 Nat}{μ:Md}
theorem J5{P:RK}{t:If}{d:oA}(h:P.underlying t=some d)(w:PP):(underlying t).run P w= .ok d w:=by
 simp[underlying,h]
section
variable{β:Type}{P:RK}{ops:Of x5}{rest:UV x5}{ks:UV Kt}{Q:nN->Act->PP->Prop}{A:Act->PP->Prop}{m:H1 β}{r:β}
theorem GG.step(hg:o.guard=none)(hnd:O=none∨HS o.op=true)(h:m=some r->∀a w,A a w->∃v w',(execOp a.eval o).run P w= .ok (.value v) w'/\Xa O P ops (Zu O P ks Q) rest (a.put o.dst v) w'):GL O P ops (o::rest) ks Q A m r:=by
 intro hm a w ha;obtain⟨v,w',h1,h2⟩:=h hm a w ha;show Xa O P ops _ (o::rest) a w;unfold Xa;rw[TO<|by simp[Region.wanted,hg]];refine⟨hnd,?_⟩;rw[h1];exact h2
theorem GG.sS(hg:o.guard=none)(hnd:O=none∨HS o.op=true)(h:m=some r->∀a w,A a w->∃w',(execOp a.eval o).run P w= .ok .skip w'/\Xa O P ops (Zu O P ks Q) rest (a.put o.dst undef) w'):GL O P ops (o::rest) ks Q A m r:=by
 intro hm a w ha;obtain⟨w',h1,h2⟩:=h hm a w ha;show Xa O P ops _ (o::rest) a w;unfold Xa;rw[TO<|by simp[Region.wanted,hg]];refine⟨hnd,?_⟩;rw[h1];exact h2
theorem GG.cr(hg:o.guard=none)(hn:HS o.op=true)(h:m=some r->∀a w,A a w->∃v,(execOp a.eval o).run P w= .ok (.value v) w/\gT μ P ops ks Q rest (a.put o.dst v) w):GL μ P ops (o::rest) ks Q A m r:=by
 intro hm a w ha;obtain⟨v,h1,h2⟩:=h hm a w ha;cases μ with
 | f O=>exact GG.step (A:=λa' w' =>a' =a/\w' =w) (m:=some r) hg (.inr hn) (λ_ _ _ ⟨h,h'⟩=>by subst h h';exact⟨v,_,h1,h2⟩) rfl a w ⟨rfl,rfl⟩
 | s=>
  show wpS P ops w _ (o::rest) a;unfold wpS;rw[TO<|by simp[Region.wanted,hg]];exact⟨v,h1,h2⟩
section
variable{n:Nat}{D:UV q8}{S:UV (Nat×Do)}{F:Fz}{hs:UV HP}
theorem Ed(hj:(ops[j]?).bind (·.dst)=some t)(hs:Sl n D S a)(hv:K4 S t=some (.bool b)):yielded ops a.tmps j=some b:=by
 have h:=hs.2.2 t _ hv;unfold yielded;rw[hj];simp only[DO];simp only[tO] at h
 cases e:a.tmps[t]? with
 | none=>rw[e] at h;simp[undef] at h
 | some v=>rw[e] at h;simp at h;subst h;rfl
theorem GG.on{dst:H1 Tmp}{want:Bool}(hj:(ops[j]?).bind (·.dst)=some t)(hv:K4 S t=some (.bool want))
  (k:GL μ P ops (⟨dst,op,ty,pos,after,none⟩::rest) ks Q (Hd n D S F hs) m r):GL μ P ops (⟨dst,op,ty,pos,after,some (j,want)⟩::rest) ks Q (Hd n D S F hs) m r:=by
 intro hm a w ha;have h:=k hm a w ha;have hy:=Ed (ops:=ops) hj ha.1 hv;cases μ with
 | f O=>
  have h:Xa O P ops (Zu O P ks Q) _ a w:=h;show Xa O P ops (Zu O P ks Q) _ a w;unfold Xa at h ⊢
  rw[TO<|by simp[Region.wanted]] at h
  rw[TO<|by simp[Region.wanted,hy]];exact h
 | s=>
  have h:wpS P ops w _ _ a:=h;show wpS P ops w _ _ a;unfold wpS at h ⊢
  rw[TO<|by simp[Region.wanted]] at h
  rw[TO<|by simp[Region.wanted,hy]];exact h
def xI:Do->Bool->Bool
 | .bool b,want=>b != want
 | .tuple _,_=>true
 | _,_=>false
theorem GG.off{want:Bool}(hd:Nat.blt d n=true)(hj:(ops[j]?).bind (·.dst)=some t)(hv:K4 S t=some v)(hx:xI v want=true)
  (k:GL μ P ops rest ks Q (Hd n D ((d,undef)::S) F hs) m r):GL μ P ops (⟨some d,op,ty,pos,after,some (j,want)⟩::rest) ks Q (Hd n D S F hs) m r:=by
 intro hm a w ha
 have hy:yielded ops a.tmps j≠some want:=by
  have h:=ha.1.2.2 t _ hv;unfold yielded;rw[hj];simp only[DO];simp only[tO] at h
  cases e:a.tmps[t]? with
  | none=>simp
  | some u=>
   rw[e] at h;simp at h;subst h
   cases u<;>simp[xI] at hx ⊢
   exact hx
 have:=k hm _ w ⟨ha.1.put hd _,ha.2⟩;cases μ with
 | f O=>
  show Xa O P ops (Zu O P ks Q) _ a w;unfold Xa;rw[RW<|by simp[Region.wanted,hy]];exact this
 | s=>
  show wpS P ops w _ _ a;unfold wpS;rw[RW<|by simp[Region.wanted,hy]];exact this
theorem GG.val(hd:Nat.blt d n=true)
  (hrun:∀a w,Hd n D S F hs a w->(execOp a.eval ⟨some d,op,ty,pos,after,none⟩).run P w= .ok (.value v) w)
  (k:GL μ P ops rest ks Q (Hd n D ((d,v)::S) F hs) m r) (hnd:HS op=true:=by rfl):GL μ P ops (⟨some d,op,ty,pos,after,none⟩::rest) ks Q (Hd n D S F hs) m r:=
 GG.cr rfl hnd λhm a w ha=>⟨v,hrun a w ha,k hm _ w ⟨ha.1.put hd v,ha.2⟩⟩
section
variable{d:Nat}{ty t t' :If}{pos:String}{after:Of lL}{ox oy oz:dO}{v u:Do}{kd:nm}{x y:Int}
theorem GG.move(hd:Nat.blt d n=true)(hx:QO S ox=some v)(k:GL μ P ops rest ks Q (Hd n D ((d,v)::S) F hs) m r):GL μ P ops (⟨some d,.move ox,ty,pos,after,none⟩::rest) ks Q (Hd n D S F hs) m r:=GG.val hd (λa w ha=>by simp[execOp,ha.1.eval hx]) k
theorem GG.assign(hd:Nat.blt d n=true)(hx:QO S ox=some v)(k:GL μ P ops rest ks Q (Hd n D ((d,v)::S) F hs) m r):GL μ P ops (⟨some d,.assign ox,ty,pos,after,none⟩::rest) ks Q (Hd n D S F hs) m r:=GG.val hd (λa w ha=>by simp[execOp,ha.1.eval hx]) k
theorem GG.bF{f:Int->H1 β}(hd:Nat.blt d n=true)(hx:QO S ox=some (.int kd x))(k:∀y,y=x->GL μ P ops rest ks Q (Hd n D ((d,.int kd y)::S) F hs) (f y) r):GL μ P ops (⟨some d,.assign ox,ty,pos,after,none⟩::rest) ks Q (Hd n D S F hs) (QR x f) r:=GG.assign hd hx<|k x rfl
theorem GG.sC{f:Bool->H1 β}(hd:Nat.blt d n=true)(hx:QO S ox=some (.bool b))(k:∀y,y=b->GL μ P ops rest ks Q (Hd n D ((d,.bool y)::S) F hs) (f y) r):GL μ P ops (⟨some d,.assign ox,ty,pos,after,none⟩::rest) ks Q (Hd n D S F hs) (QR b f) r:=GG.assign hd hx<|k b rfl
theorem GG.pQ(hd:Nat.blt d n=true)(hz:QO S oz=some (.bool true))(hx:QO S ox=some v)(k:GL μ P ops rest ks Q (Hd n D ((d,v)::S) F hs) m r):GL μ P ops (⟨some d,.pick oz ox oy,ty,pos,after,none⟩::rest) ks Q (Hd n D S F hs) m r:=GG.val hd (λa w ha=>by simp[execOp,ha.1.eval hx,ha.1.eval hz,asBool]) k
theorem GG.al(hd:Nat.blt d n=true)(hz:QO S oz=some (.bool false))(hy:QO S oy=some v)(k:GL μ P ops rest ks Q (Hd n D ((d,v)::S) F hs) m r):GL μ P ops (⟨some d,.pick oz ox oy,ty,pos,after,none⟩::rest) ks Q (Hd n D S F hs) m r:=GG.val hd (λa w ha=>by simp[execOp,ha.1.eval hy,ha.1.eval hz,asBool]) k
theorem GG.add(hd:Nat.blt d n=true)(hx:QO S ox=some (.int kd x))(hy:QO S oy=some (.int kd y))(k:GL μ P ops rest ks Q (Hd n D ((d,.int kd<|kd.wrap<|x+y)::S) F hs) m r):GL μ P ops (⟨some d,.binOp .add t ox oy t',ty,pos,after,none⟩::rest) ks Q (Hd n D S F hs) m r:=GG.val hd (λa w ha=>by simp[execOp,ha.1.eval hx,ha.1.eval hy,eqGuard,binOp,Op.intArith]) k
theorem GG.sub(hd:Nat.blt d n=true)(hx:QO S ox=some (.int kd x))(hy:QO S oy=some (.int kd y))(k:GL μ P ops rest ks Q (Hd n D ((d,.int kd<|kd.wrap<|x - y)::S) F hs) m r):GL μ P ops (⟨some d,.binOp .sub t ox oy t',ty,pos,after,none⟩::rest) ks Q (Hd n D S F hs) m r:=GG.val hd (λa w ha=>by simp[execOp,ha.1.eval hx,ha.1.eval hy,eqGuard,binOp,Op.intArith]) k
theorem GG.mul(hd:Nat.blt d n=true)(hx:QO S ox=some (.int kd x))(hy:QO S oy=some (.int kd y))(k:GL μ P ops rest ks Q (Hd n D ((d,.int kd<|kd.wrap<|x*y)::S) F hs) m r):GL μ P ops (⟨some d,.binOp .mul t ox oy t',ty,pos,after,none⟩::rest) ks Q (Hd n D S F hs) m r:=GG.val hd (λa w ha=>by simp[execOp,ha.1.eval hx,ha.1.eval hy,eqGuard,binOp,Op.intArith]) k
def BK(kd:nm)(x y:Int):H1 Int:=if y=0 then none else some (kd.wrap<|x.tdiv y)
def PC(x y:Int):H1 Int:=if y=0 then none else some (x.tmod y)
theorem GG.aF(hd:Nat.blt d n=true)(h0:y≠0)(hx:QO S ox=some (.int kd x))(hy:QO S oy=some (.int kd y))(k:GL μ P ops rest ks Q (Hd n D ((d,.int kd<|kd.wrap<|x.tdiv y)::S) F hs) m r):GL μ P ops (⟨some d,.binOp .quo t ox oy t',ty,pos,after,none⟩::rest) ks Q (Hd n D S F hs) m r:=GG.val hd (λa w ha=>by simp[execOp,ha.1.eval hx,ha.1.eval hy,eqGuard,binOp,Op.intDiv,h0]) k
theorem GG.a8(hd:Nat.blt d n=true)(h0:y≠0)(hx:QO S ox=some (.int kd x))(hy:QO S oy=some (.int kd y))(k:GL μ P ops rest ks Q (Hd n D ((d,.int kd<|x.tmod y)::S) F hs) m r):GL μ P ops (⟨some d,.binOp .rem t ox oy t',ty,pos,after,none⟩::rest) ks Q (Hd n D S F hs) m r:=GG.val hd (λa w ha=>by simp[execOp,ha.1.eval hx,ha.1.eval hy,eqGuard,binOp,Op.intDiv,h0]) k
theorem GG.quo{f:Int->H1 β}(hd:Nat.blt d n=true)(hx:QO S ox=some (.int kd x))(hy:QO S oy=some (.int kd y))(k:∀z,BK kd x y=some z->GL μ P ops rest ks Q (Hd n D ((d,.int kd z)::S) F hs) (f z) r):GL μ P ops (⟨some d,.binOp .quo t ox oy t',ty,pos,after,none⟩::rest) ks Q (Hd n D S F hs) ((BK kd x y).bind f) r:=
 GG.bind λz hz=>by
  have h0:y≠0:=λe=>by simp[BK,e] at hz
  have:z=kd.wrap (x.tdiv y):=by simpa[BK,h0] using hz.symm
  have hk:=k z hz;rw[this] at hk ⊢
  exact GG.aF hd h0 hx hy hk
theorem GG.rem{f:Int->H1 β}(hd:Nat.blt d n=true)(hx:QO S ox=some (.int kd x))(hy:QO S oy=some (.int kd y))(k:∀z,PC x y=some z->GL μ P ops rest ks Q (Hd n D ((d,.int kd z)::S) F hs) (f z) r):GL μ P ops (⟨some d,.binOp .rem t ox oy t',ty,pos,after,none⟩::rest) ks Q (Hd n D S F hs) ((PC x y).bind f) r:=
 GG.bind λz hz=>by
  have h0:y≠0:=λe=>by simp[PC,e] at hz
  have:z=x.tmod y:=by simpa[PC,h0] using hz.symm
  have hk:=k z hz;rw[this] at hk ⊢
  exact GG.a8 hd h0 hx hy hk
theorem GG.eql(hd:Nat.blt d n=true)(hx:QO S ox=some (.int kd x))(hy:QO S oy=some (.int kd y))(k:GL μ P ops rest ks Q (Hd n D ((d,.bool<|x==y)::S) F hs) m r):GL μ P ops (⟨some d,.binOp .eql t ox oy t',ty,pos,after,none⟩::rest) ks Q (Hd n D S F hs) m r:=GG.val hd (λa w ha=>by simp[execOp,ha.1.eval hx,ha.1.eval hy,eqGuard,binOp,Op.intCmp]) k
theorem GG.neq(hd:Nat.blt d n=true)(hx:QO S ox=some (.int kd x))(hy:QO S oy=some (.int kd y))(k:GL μ P ops rest ks Q (Hd n D ((d,.bool<|x != y)::S) F hs) m r):GL μ P ops (⟨some d,.binOp .neq t ox oy t',ty,pos,after,none⟩::rest) ks Q (Hd n D S F hs) m r:=GG.val hd (λa w ha=>by simp[execOp,ha.1.eval hx,ha.1.eval hy,eqGuard,binOp,Op.intCmp]) k
theorem GG.lss(hd:Nat.blt d n=true)(hx:QO S ox=some (.int kd x))(hy:QO S oy=some (.int kd y))(k:GL μ P ops rest ks Q (Hd n D ((d,.bool<|decide<|x < y)::S) F hs) m r):GL μ P ops (⟨some d,.binOp .lss t ox oy t',ty,pos,after,none⟩::rest) ks Q (Hd n D S F hs) m r:=GG.val hd (λa w ha=>by simp[execOp,ha.1.eval hx,ha.1.eval hy,eqGuard,binOp,Op.intCmp]) k
theorem GG.leq(hd:Nat.blt d n=true)(hx:QO S ox=some (.int kd x))(hy:QO S oy=some (.int kd y))(k:GL μ P ops rest ks Q (Hd n D ((d,.bool<|decide<|x<=y)::S) F hs) m r):GL μ P ops (⟨some d,.binOp .leq t ox oy t',ty,pos,after,none⟩::rest) ks Q (Hd n D S F hs) m r:=GG.val hd (λa w ha=>by simp[execOp,ha.1.eval hx,ha.1.eval hy,eqGuard,binOp,Op.intCmp]) k
theorem GG.gtr(hd:Nat.blt d n=true)(hx:QO S ox=some (.int kd x))(hy:QO S oy=some (.int kd y))(k:GL μ P ops rest ks Q (Hd n D ((d,.bool<|decide<|x > y)::S) F hs) m r):GL μ P ops (⟨some d,.binOp .gtr t ox oy t',ty,pos,after,none⟩::rest) ks Q (Hd n D S F hs) m r:=GG.val hd (λa w ha=>by simp[execOp,ha.1.eval hx,ha.1.eval hy,eqGuard,binOp,Op.intCmp]) k
theorem GG.geq(hd:Nat.blt d n=true)(hx:QO S ox=some (.int kd x))(hy:QO S oy=some (.int kd y))(k:GL μ P ops rest ks Q (Hd n D ((d,.bool<|decide<|x≥y)::S) F hs) m r):GL μ P ops (⟨some d,.binOp .geq t ox oy t',ty,pos,after,none⟩::rest) ks Q (Hd n D S F hs) m r:=GG.val hd (λa w ha=>by simp[execOp,ha.1.eval hx,ha.1.eval hy,eqGuard,binOp,Op.intCmp]) k
def jH(kd:nm)(x y:Int):Int:=x.fdiv<|2^(min y.toNat kd.bits)
theorem GG.ri{kd' :nm}(hd:Nat.blt d n=true)(h0:¬y < 0)(hx:QO S ox=some (.int kd x))(hy:QO S oy=some (.int kd' y))(k:GL μ P ops rest ks Q (Hd n D ((d,.int kd<|jH kd x y)::S) F hs) m r):GL μ P ops (⟨some d,.binOp .shr t ox oy t',ty,pos,after,none⟩::rest) ks Q (Hd n D S F hs) m r:=GG.val hd (λa w ha=>by simp[execOp,ha.1.eval hx,ha.1.eval hy,eqGuard,binOp,Op.shift,h0,jH]) k
theorem GG.not(hd:Nat.blt d n=true)(hx:QO S ox=some (.bool b))(k:GL μ P ops rest ks Q (Hd n D ((d,.bool<|!b)::S) F hs) m r):GL μ P ops (⟨some d,.unOp .not t ox,ty,pos,after,none⟩::rest) ks Q (Hd n D S F hs) m r:=GG.val hd (λa w ha=>by simp[execOp,ha.1.eval hx,Op.unary]) k
theorem GG.neg(hd:Nat.blt d n=true)(hx:QO S ox=some (.int kd x))(k:GL μ P ops rest ks Q (Hd n D ((d,.int kd<|kd.wrap<|0 - x)::S) F hs) m r):GL μ P ops (⟨some d,.unOp .neg t ox,ty,pos,after,none⟩::rest) ks Q (Hd n D S F hs) m r:=GG.val hd (λa w ha=>by simp[execOp,ha.1.eval hx,Op.unary,Op.intArith]) k
theorem GG.sW{ds:oA}{kd' :nm}(hd:Nat.blt d n=true)(h1:P.underlying t=some ds)(h2:P.underlying t' =some (.int kd'))(hx:QO S ox=some (.int kd x))(k:GL μ P ops rest ks Q (Hd n D ((d,.int kd'<|kd'.wrap x)::S) F hs) m r):GL μ P ops (⟨some d,.convert t t' ox,ty,pos,after,none⟩::rest) ks Q (Hd n D S F hs) m r:=
 GG.val hd (λa w ha=>by
  simp only[execOp,ha.1.eval hx,convert,r7,J5 h1,J5 h2,Result.andThen];cases ds<;>simp[Conv.intToInt]) k
theorem GG.extract{i:Nat}{vs:Of Do}(hd:Nat.blt d n=true)(hx:QO S ox=some (.tuple vs))(hi:vs[i]? =some v)(k:GL μ P ops rest ks Q (Hd n D ((d,v)::S) F hs) m r):GL μ P ops (⟨some d,.extract ox i,ty,pos,after,none⟩::rest) ks Q (Hd n D S F hs) m r:=GG.val hd (λa w ha=>by simp[execOp,ha.1.eval hx,Instr.extract,hi]) k
theorem GG.pn{vs:Of Do}{f:Field}(hd:Nat.blt d n=true)(ht:P.underlying t=some (.struct fs))(hf:fs[i]? =some f)(hA:∀w,(isAgg f.type).run P w= .ok true w)(hz:∀w,(sizeOf f.type).run P w= .ok z w)
  (hx:QO S ox=some (.agg cs)) (hi:cs.extract f.offset (f.offset+z)=vs) (k:GL μ P ops rest ks Q (Hd n D ((d,.agg vs)::S) F hs) m r):GL μ P ops (⟨some d,.field t ox i,ty,pos,after,none⟩::rest) ks Q (Hd n D S F hs) m r:=
 GG.val hd (λa w ha=>by simp[execOp,ha.1.eval hx,Instr.field,J5 ht,hf,asAgg,part,hA,hz,hi]) k
def Ub(S:UV (Nat×Do)):UV dO->H1 (UV Do)
 | []=>some []
 | o::os=>match QO S o with
  | some v=>match Ub S os with
   | some vs=>some (v::vs)
   | none=>none
  | none=>none
theorem HI(hs:Sl n D S a):∀{os:UV dO} {vs:UV Do},Ub S os=some vs->os.map a.eval=vs
 | [],vs,h=>by simp[Ub] at h;simp[h]
 | o::os,vs,h=>by
  simp only[Ub] at h
  cases e:QO S o with
  | none=>rw[e] at h;cases h
  | some v=>
   rw[e] at h
   cases e2:Ub S os with
   | none=>rw[e2] at h;cases h
   | some us=>
    rw[e2] at h
    simp only[BY] at h
    subst h;simp[hs.eval e,HI hs e2]
theorem GG.makeFunc{fn:Fn}{caps:UV dO}{vs:UV Do}(hd:Nat.blt d n=true)(hx:Ub S caps=some vs)(k:GL O P ops rest ks Q (Hd n D ((d,.func fn #[] vs.toArray)::S) F hs) m r):GL O P ops (⟨some d,.makeFunc fn #[] caps.toArray,ty,pos,after,none⟩::rest) ks Q (Hd n D S F hs) m r:=GG.val hd (λa w ha=>by simp[execOp,Instr.makeFunc,HI ha.1 hx]) k
def RJ(S:UV (Nat×Do)):UV (Nat×dO)->H1 (UV<|Nat×Do)
 | []=>some []
 | (i,o)::os=>match QO S o with
  | some v=>match RJ S os with
   | some vs=>some ((i,v)::vs)
   | none=>none
  | none=>none
theorem Sr(hs:Sl n D S a):∀{os:UV (Nat×dO)} {vs:UV (Nat×Do)},RJ S os=some vs->os.map (λp=>(p.1,a.eval p.2))=vs
 | [],vs,h=>by simp[RJ] at h;simp[h]
 | (i,o)::os,vs,h=>by
  simp only[RJ] at h
  cases e:QO S o with
  | none=>rw[e] at h;cases h
  | some v=>
   rw[e] at h
   cases e2:RJ S os with
   | none=>rw[e2] at h;cases h
   | some us=>
    rw[e2] at h
    simp only[BY] at h
    subst h;simp[hs.eval e,Sr hs e2]
def Places(P:RK)(fs:Of Field)(pl:Of (Nat×Nat)):Prop:=∀w,(fs.mapM λf=>do pure (f.offset,<-sizeOf f.type):Sem (Of<|Nat×Nat)).run P w= .ok pl w
theorem GG.build{pl:Of (Nat×Nat)}{zc:Of Do}{z:Do}{parts:UV (Nat×dO)}{ps:UV (Nat×Do)}(hd:Nat.blt d n=true)(ht:P.underlying t=some (.struct fs))(hz:∀w,(zeroValue t).run P w= .ok z w)(hpl:Places P fs pl)
  (hx:RJ S parts=some ps) (hc:z.cells=zc) (hi:Instr.fill (pl[·]?) zc ps=some cs) (k:GL μ P ops rest ks Q (Hd n D ((d,.agg cs)::S) F hs) m r):GL μ P ops (⟨some d,.build t parts.toArray,ty,pos,after,none⟩::rest) ks Q (Hd n D S F hs) m r:=
 GG.val hd (λa w ha=>by
  have hm:=Sr ha.1 hx;subst hc;simp only[execOp,Instr.build,r7,hz,Result.andThen,J5 ht,hpl w];simp[hm,hi]) k
theorem GG.aj{sz:Nat}{zc:Of Do}{z:Do}{parts:UV (Nat×dO)}{ps:UV (Nat×Do)}(hd:Nat.blt d n=true)(ht:P.underlying t=some (.array len e))(hz:∀w,(zeroValue t).run P w= .ok z w)(hsz:∀w,(sizeOf e).run P w= .ok sz w)
  (hx:RJ S parts=some ps) (hc:z.cells=zc) (hi:Instr.fill (λi=>some (i*sz,sz)) zc ps=some cs) (k:GL μ P ops rest ks Q (Hd n D ((d,.agg cs)::S) F hs) m r):GL μ P ops (⟨some d,.build t parts.toArray,ty,pos,after,none⟩::rest) ks Q (Hd n D S F hs) m r:=
 GG.val hd (λa w ha=>by
  have hm:=Sr ha.1 hx;subst hc;simp only[execOp,Instr.build,r7,hz,Result.andThen,J5 ht,hsz w];simp[hm,hi]) k
theorem GG.sF(hd:Nat.blt d n=true)(hc:P.concrete t=true)(hx:QO S ox=some v)(k:GL O P ops rest ks Q (Hd n D ((d,.iface t v)::S) F hs) m r):GL O P ops (⟨some d,.makeInterface t ox,ty,pos,after,none⟩::rest) ks Q (Hd n D S F hs) m r:=GG.val hd (λa w ha=>by simp[execOp,ha.1.eval hx,run_makeInterface w t v hc]) k
theorem Xy(b o z:Nat):(⟨b,o,none⟩:OF).add z=⟨b,o+z,none⟩:=by
 unfold Addr.add;split
 ·rename_i h;subst h;rfl
 ·rfl
theorem GG.fieldAddr{i b o z:Nat}{fs:Of Field}{f:Field}(hd:Nat.blt d n=true)(ht:P.underlying t=some (.struct fs))(hf:fs[i]? =some f)(hz:∀w,(sizeOf f.type).run P w= .ok (z+1) w)
  (hx:QO S ox=some (.pointer<|some ⟨b,o,none⟩)) (k:GL μ P ops rest ks Q (Hd n D ((d,.pointer<|some ⟨b,o+f.offset,none⟩)::S) F hs) m r):GL μ P ops (⟨some d,.fieldAddr t ox i,ty,pos,after,none⟩::rest) ks Q (Hd n D S F hs) m r:=
 GG.val hd (λa w ha=>by simp[execOp,ha.1.eval hx,Instr.fieldAt,J5 ht,hf,Instr.sureAddr,fieldPlace,hz,Xy]) k
def VJ(n:Nat)(i:Int):H1 Nat:=if 0<=i/\i < n then some i.toNat else none
theorem ZE{k:Nat}{i:Int}(h:VJ n i=some k):0<=i/\i < n/\k=i.toNat/\k < n:=by
 unfold VJ at h
 split at h
 ·rename_i hh;simp only[BY] at h;subst h;omega
 ·cases h
theorem GG.dt{b o:Nat}(hd:Nat.blt d n=true)(ht:P.underlying t=some (.array len e))(hz:∀w,(sizeOf e).run P w= .ok z w)
  (hx:QO S ox=some (.pointer<|some ⟨b,o,none⟩)) (hy:QO S oy=some (.int kd x)) (hj:VJ len x=some j) (k:GL μ P ops rest ks Q (Hd n D ((d,.pointer<|some ⟨b,o+j*z,none⟩)::S) F hs) m r):GL μ P ops (⟨some d,.indexAddr t ox oy,ty,pos,after,none⟩::rest) ks Q (Hd n D S F hs) m r:=
 GG.val hd (λa w ha=>by
  obtain⟨h0,h1,h2,_⟩:=ZE hj;subst h2;simp[execOp,ha.1.eval hx,ha.1.eval hy,Instr.indexAt,asIntOf,J5 ht,Instr.sureAddr,h0,h1,hz,Xy]) k
theorem GG.cw{cap b o:Nat}(hd:Nat.blt d n=true)(ht:P.underlying t=some (.slice e))(hz:∀w,(sizeOf e).run P w= .ok z w)
  (hx:QO S ox=some (.slice (some ⟨b,o,none⟩) len cap)) (hy:QO S oy=some (.int kd x)) (hj:VJ len x=some j) (k:GL μ P ops rest ks Q (Hd n D ((d,.pointer<|some ⟨b,o+j*z,none⟩)::S) F hs) m r):GL μ P ops (⟨some d,.indexAddr t ox oy,ty,pos,after,none⟩::rest) ks Q (Hd n D S F hs) m r:=
 GG.val hd (λa w ha=>by
  obtain⟨h0,h1,h2,_⟩:=ZE hj;subst h2;simp[execOp,ha.1.eval hx,ha.1.eval hy,Instr.indexAt,asIntOf,J5 ht,h0,h1,hz,Xy]) k
theorem GG.tW(hd:Nat.blt d n=true)(ht:P.underlying t=some (.array len e))(hA:∀w,(isAgg e).run P w= .ok false w)(hz:∀w,(sizeOf e).run P w= .ok z w)
  (hx:QO S ox=some (.agg cs)) (hy:QO S oy=some (.int kd x)) (hj:VJ len x=some j) (hc:cs[j*z]? =some v) (k:GL μ P ops rest ks Q (Hd n D ((d,v)::S) F hs) m r):GL μ P ops (⟨some d,.index t ox oy,ty,pos,after,none⟩::rest) ks Q (Hd n D S F hs) m r:=
 GG.val hd (λa w ha=>by
  obtain⟨h0,h1,h2,_⟩:=ZE hj;subst h2;simp[execOp,ha.1.eval hx,ha.1.eval hy,Instr.index,asIntOf,J5 ht,h0,h1,hz,part,hA,hc]) k
theorem GG.bW{cap:Nat}{p:H1 OF}(hd:Nat.blt d n=true)(hT:T[0]? =some t)(ht:P.underlying t=some (.slice e))(hx:QO S ox=some (.slice p len cap))(k:GL μ P ops rest ks Q (Hd n D ((d,.int .i64 len)::S) F hs) m r):GL μ P ops (⟨some d,.call ⟨.builtin .len,#[ox],T⟩,ty,pos,after,none⟩::rest) ks Q (Hd n D S F hs) m r:=GG.val hd (λa w ha=>by simp[execOp,resolve,invoke,builtin,Builtin.len_,ha.1.eval hx,hT,J5 ht,goInt]) k
theorem GG.min2(hd:Nat.blt d n=true)(hx:QO S ox=some (.int kd x))(hy:QO S oy=some (.int kd y))(k:GL μ P ops rest ks Q (Hd n D ((d,.int kd<|if y < x then y else x)::S) F hs) m r):GL μ P ops (⟨some d,.call ⟨.builtin .min,#[ox,oy],T⟩,ty,pos,after,none⟩::rest) ks Q (Hd n D S F hs) m r:=GG.val hd (λa w ha=>by simp[execOp,resolve,invoke,builtin,Builtin.min_,Builtin.min2,ha.1.eval hx,ha.1.eval hy]) k
theorem GG.max2(hd:Nat.blt d n=true)(hx:QO S ox=some (.int kd x))(hy:QO S oy=some (.int kd y))(k:GL μ P ops rest ks Q (Hd n D ((d,.int kd<|if x < y then y else x)::S) F hs) m r):GL μ P ops (⟨some d,.call ⟨.builtin .max,#[ox,oy],T⟩,ty,pos,after,none⟩::rest) ks Q (Hd n D S F hs) m r:=GG.val hd (λa w ha=>by simp[execOp,resolve,invoke,builtin,Builtin.max_,Builtin.max2,ha.1.eval hx,ha.1.eval hy]) k
end
end
end
end
section
variable{cs vs caps as:UV Do}{fr:Nat×Nat}{α:Type}{ρ:α->Fz->Do->Prop}{w:PP}{b o i z n j:Nat}{P:RK}{S:UV (Nat×Do)}{os:UV dO}{T:Of If}{f:x4}{hs:UV HP}{of:dO}{D:UV q8}{e:H1 α}{F:Fz}{a:Act}
variable{O:H1 Nat}{μ:Md}
theorem cell_of_heap{T:If}(h:w.heap[b]? =some (.cells cs.toArray T fr))(o:Nat):w.cell? ⟨b,o,none⟩=cs[o]? :=by
 simp[World.cell?,h]
theorem frozen_of_heap{cs:Of Do}{T:If}(h:w.heap[b]? =some (.cells cs T (0,0)))(o:Nat):w.frozen? ⟨b,o,none⟩=false:=by
 simp[World.frozen?,h]
theorem IH{T:If}{v:Do}(h:w.heap[b]? =some (.cells cs.toArray T fr)):w.setCell ⟨b,o,none⟩ v=put w b (.cells (cs.set o v).toArray T fr):=by
 have hlt:=lt_of_heap h;unfold World.setCell put;congr 1;apply oK;intro k;rw[iJ];by_cases hk:b=k
 ·subst hk;have e:w.heap[b]= .cells cs.toArray T fr:=by simpa[hlt] using h
  simp[hlt,e]
 ·simp[hk]
theorem uz(w:PP)(b:Nat)(x y:Obj):put (put w b x) b y=put w b y:=by
 simp[put]
theorem y2{o:Obj}(h:w.heap[b]? =some o):put w b o=w:=by
 have hlt:=lt_of_heap h;unfold put;congr 1;apply oK;intro k;by_cases hk:b=k
 ·subst hk;have e:w.heap[b]=o:=by simpa[hlt] using h
  simp[hlt,e]
 ·simp[hk]
def Ku:UV Do->Nat->UV Do->UV Do
 | cs,_,[]=>cs
 | cs,o,v::vs=>Ku (cs.set o v) (o+1) vs
theorem HX:∀(cs:UV Do) (o:Nat) (vs:UV Do),(Ku cs o vs).length=cs.length
 | _,_,[]=>rfl
 | cs,o,v::vs=>by simp[Ku,HX]
theorem XE{T:Nat}:∀{vs:UV Do} {cs:UV Do} {i:Nat} {w:PP},w.heap[b]? =some (.cells cs.toArray T (0,0))->o+i+vs.length<=cs.length->vs.all Value.oneCell' =true->
  (storeCells ⟨b,o,none⟩ vs i).run P w= .ok () (put w b<|.cells (Ku cs (o+i) vs).toArray T (0,0))
 | [],cs,i,w,h,_,_=>by simp[storeCells,Ku,y2 h]
 | v::vs,cs,i,w,h,hl,hv=>by
  simp only[nZ,AT] at hv
  simp only[s6] at hl
  have hc:w.cell? ⟨b,o+i,none⟩=some cs[o+i]:=by rw[cell_of_heap h];simp
  simp only[storeCells,r7,Xy,run_store P w _ v .plain hv.1,hc,frozen_of_heap h,By,T2,Result.andThen,IH h];rw[XE (cs:=cs.set (o+i) v) (AL h) (by simp;omega) hv.2,uz];simp[Ku,Nat.add_assoc]
theorem HO{T:Nat}(h:w.heap[b]? =some (.cells cs.toArray T fr))(hv:(cs.drop o).take z=vs)(hz:vs.length=z):(loadCells ⟨b,o,none⟩ z).run P w= .ok vs.toArray w:=by
 subst hz;refine run_loadCells_list w ⟨b,o,none⟩ vs λj v e=> ?_;rw[Xy,cell_of_heap h];have e' :=e;rw[<-hv] at e
 rw[rz,mF] at e
 split at e
 ·exact e
 ·cases e
section
variable{β:Type}{P:RK}{ops:Of x5}{rest:UV x5}{ks:UV Kt}{Q:nN->Act->PP->Prop}{m:H1 β}{r:β}
variable{n:Nat}{D:UV q8}{S:UV (Nat×Do)}{F:Fz}{hs:UV HP}
variable{d:Nat}{ty t t' :If}{pos:String}{after:Of lL}{ox oy oz:dO}{v u:Do}{kd:nm}{x y:Int}
theorem GG.alloc{z:Do}{cs:UV Do}(hd:Nat.blt d n=true)(hz:∀w,(zeroValue t).run P w= .ok z w)(hc:z.cells=cs.toArray)
  (k:∀b,GL O P ops rest ks Q (Hd n D ((d,.pointer<|some ⟨b,0,none⟩)::S) F<|pt b (.cells cs.toArray t)::hs) m r):GL O P ops (⟨some d,.alloc t,ty,pos,after,none⟩::rest) ks Q (Hd n D S F hs) m r:=
 GG.step rfl (.inr rfl) λhm a w ha=>by
  refine⟨.pointer<|some ⟨w.heap.size,0,none⟩,w.alloc<|.cells cs.toArray t,?_,k w.heap.size hm _ _ ⟨ha.1.put hd _,ha.2.alloc _⟩⟩;simp[execOp,Instr.alloc,hz,newVar,newRow,hc]
theorem GG.box(hd:Nat.blt d n=true)(hx:QO S ox=some v)(hc:v.cells=cs.toArray)
  (k:∀b,GL O P ops rest ks Q (Hd n D ((d,.pointer<|some ⟨b,0,none⟩)::S) F<|pt b (.cells cs.toArray t)::hs) m r):GL O P ops (⟨some d,.box t ox,ty,pos,after,none⟩::rest) ks Q (Hd n D S F hs) m r:=
 GG.step rfl (.inr rfl) λhm a w ha=>by
  refine⟨.pointer<|some ⟨w.heap.size,0,none⟩,w.alloc<|.cells cs.toArray t,?_,k w.heap.size hm _ _ ⟨ha.1.put hd _,ha.2.alloc _⟩⟩;simp[execOp,Instr.box,ha.1.eval hx,newVar,newRow,hc]
theorem GG.bN(hd:Nat.blt d n=true)(hx:QO S ox=some v)(hc:v.cells=cs.toArray)
  (k:∀b F',F<=F'->F'.mem b=some (.cells cs.toArray t)->GL O P ops rest ks Q (Hd n D ((d,.pointer<|some ⟨b,0,none⟩)::S) F' hs) m r):GL O P ops (⟨some d,.box t ox,ty,pos,after,none⟩::rest) ks Q (Hd n D S F hs) m r:=
 GG.step rfl (.inr rfl) λhm a w ha=>by
  obtain⟨h1,h2⟩:=ha.2.s3<|.cells cs.toArray t;refine⟨.pointer<|some ⟨w.heap.size,0,none⟩,w.alloc<|.cells cs.toArray t,?_,k w.heap.size _ h1 (Fz.ba ..) hm _ _ ⟨ha.1.put hd _,h2⟩⟩;simp[execOp,Instr.box,ha.1.eval hx,newVar,newRow,hc]
theorem Dk{t:Nat}(hA:∀w,(isAgg t).run P w= .ok false w)(h:w.cell? ⟨b,o,none⟩=some v):(Instr.loadAt t<|.pointer<|some ⟨b,o,none⟩).run P w= .ok v w:=by
 simp[Instr.loadAt,Instr.sureAddr,loadVar,hA,h]
theorem SY{t T:Nat}(hA:∀w,(isAgg t).run P w= .ok true w)(hz:∀w,(sizeOf t).run P w= .ok z w)(h:w.heap[b]? =some (.cells cs.toArray T fr))(hv:(cs.drop o).take z=vs)(hl:vs.length=z):(Instr.loadAt t<|.pointer<|some ⟨b,o,none⟩).run P w= .ok (.agg vs.toArray) w:=by
 simp[Instr.loadAt,Instr.sureAddr,loadVar,hA,hz,HO h hv hl]
theorem GG.U{T:Nat}(hd:Nat.blt d n=true)(hA:∀w,(isAgg t).run P w= .ok false w)(hx:QO S ox=some (.pointer<|some ⟨b,o,none⟩))(hb:F.mem b=some (.cells cs.toArray T fr))(hv:cs[o]? =some v)
  (k:GL μ P ops rest ks Q (Hd n D ((d,v)::S) F hs) m r):GL μ P ops (⟨some d,.load t ox,ty,pos,after,none⟩::rest) ks Q (Hd n D S F hs) m r:=
 GG.val hd (λa w ha=>by simp[execOp,ha.1.eval hx,Dk hA (by rw[cell_of_heap<|ha.2.frozen hb];exact hv)]) k
theorem GG.bK{T:Nat}(hd:Nat.blt d n=true)(hA:∀w,(isAgg t).run P w= .ok true w)(hz:∀w,(sizeOf t).run P w= .ok z w)(hx:QO S ox=some (.pointer<|some ⟨b,o,none⟩))(hb:F.mem b=some (.cells cs.toArray T fr))(hv:(cs.drop o).take z=vs)(hl:vs.length=z)
  (k:GL μ P ops rest ks Q (Hd n D ((d,.agg vs.toArray)::S) F hs) m r):GL μ P ops (⟨some d,.load t ox,ty,pos,after,none⟩::rest) ks Q (Hd n D S F hs) m r:=
 GG.val hd (λa w ha=>by simp[execOp,ha.1.eval hx,SY hA hz (ha.2.frozen hb) hv hl]) k
theorem GG.dq{T:Nat}(hd:Nat.blt d n=true)(hA:∀w,(isAgg t).run P w= .ok false w)(hx:QO S ox=some (.pointer<|some ⟨b,o,none⟩))(hb:hs[i]? =some (pt b<|.cells cs.toArray T fr))(hv:cs[o]? =some v)
  (k:GL μ P ops rest ks Q (Hd n D ((d,v)::S) F hs) m r):GL μ P ops (⟨some d,.load t ox,ty,pos,after,none⟩::rest) ks Q (Hd n D S F hs) m r:=
 GG.val hd (λa w ha=>by simp[execOp,ha.1.eval hx,Dk hA (by rw[cell_of_heap<|SH.bT hb ha.2];exact hv)]) k
theorem GG.bG{T:Nat}(hd:Nat.blt d n=true)(hA:∀w,(isAgg t).run P w= .ok true w)(hz:∀w,(sizeOf t).run P w= .ok z w)(hx:QO S ox=some (.pointer<|some ⟨b,o,none⟩))(hb:hs[i]? =some (pt b<|.cells cs.toArray T fr))(hv:(cs.drop o).take z=vs)(hl:vs.length=z)
  (k:GL μ P ops rest ks Q (Hd n D ((d,.agg vs.toArray)::S) F hs) m r):GL μ P ops (⟨some d,.load t ox,ty,pos,after,none⟩::rest) ks Q (Hd n D S F hs) m r:=
 GG.val hd (λa w ha=>by simp[execOp,ha.1.eval hx,SY hA hz (SH.bT hb ha.2) hv hl]) k
theorem GG.store{T:Nat}{cs':UV Do}(hz:∀w,(sizeOf t).run P w= .ok z w)(hx:QO S ox=some (.pointer<|some ⟨b,o,none⟩))(hy:QO S oy=some v)(hc:v.cells=vs.toArray)(hl:vs.length=z)
  (hb:hs[i]? =some (pt b<|.cells cs.toArray T (0,0))) (ho:o+vs.length<=cs.length) (h1:vs.all Value.oneCell' =true) (hcs:Ku cs o vs=cs')
  (k:GL O P ops rest ks Q (Hd n D S F<|hs.set i<|pt b<|.cells cs'.toArray T (0,0)) m r):GL O P ops (⟨none,.store t ox oy,ty,pos,after,none⟩::rest) ks Q (Hd n D S F hs) m r:=
 GG.sS rfl (.inr rfl) λhm a w ha=>by
  subst hcs;have h:=SH.bT hb ha.2;refine⟨put w b<|.cells (Ku cs o vs).toArray T (0,0),?_,k hm _ _ ⟨ha.1.bh _,SH.putAt hb ha.2 _⟩⟩;have hr:=XE (P:=P) (o:=o) (i:=0) h (by simpa using ho) h1;simp only[oQ] at hr
  simp only[execOp,Instr.storeAt,ha.1.eval hx,ha.1.eval hy,Instr.sureAddr,storeVar,r7,hz,Result.andThen,hc];simp[hl,hr]
theorem Wo(hs:Sl n D S a)(hcall:∀args w,(callFunc f args).run P w= .ok (.enter f args) w)
  (hf:QO S of=some (.func (.func f) #[] caps.toArray)) (ha:Ub S os=some vs) {dst:H1 Tmp}:(execOp a.eval ⟨dst,.call ⟨.value of,os.toArray,T⟩,ty,pos,after,none⟩).run P w= .ok (.enter f (vs++caps).toArray) w:=by
 have e:=HI hs ha;simp[execOp,resolve,Deferred.ofValue,hs.eval hf,e,invoke,hcall]
theorem GG.cf{A:Act->PP->Prop}{o:x5}{args:Of Do}(hg:o.guard=none)(hnd:O=none∨HS o.op=true)
  (h:m=some r->∀a w,A a w->(execOp a.eval o).run P w= .ok (.enter f args) w/\Calls P f args w (λe w' =>∃v,e= .returned v/\Xa O P ops (Zu O P ks Q) rest (a.put o.dst v) w')):GL O P ops (o::rest) ks Q A m r:=by
 intro hm a w ha;obtain⟨h1,h2⟩:=h hm a w ha;show Xa O P ops _ (o::rest) a w;unfold Xa;rw[TO<|by simp[Region.wanted,hg]];refine⟨hnd,?_⟩;rw[h1];refine⟨λe=>(by rw[Dv] at e;cases e),ET.2<|h2.mono ?_⟩;rintro e w' ⟨v,rfl,h⟩;exact h
theorem GG.bC{α:Type}{f:x4}{caps as vs:UV Do}{of:dO}{os:UV dO}{T:Of If}{e:H1 α}{ρ:α->Fz->Do->Prop}{g:α->H1 β}(hd:Nat.blt d n=true)
  (hcall:∀args w,(callFunc f args).run P w= .ok (.enter f args) w) (hf:QO S of=some (.func (.func f) #[] caps.toArray)) (ha:Ub S os=some vs) (has:vs++caps=as)
  (hc:KH P f as.toArray F e ρ) (k:∀x F' v,e=some x->F<=F'->ρ x F' v->GL O P ops rest ks Q (Hd n D ((d,v)::S) F' hs) (g x) r):GL O P ops (⟨some d,.call ⟨.value of,os.toArray,T⟩,ty,pos,after,none⟩::rest) ks Q (Hd n D S F hs) (e.bind g) r:=
 GG.cf rfl (.inr rfl) λhm a w hA=>by
  subst has;refine⟨Wo hA.1 hcall hf ha,?_⟩;cases he:e with
  | none=>rw[he] at hm;cases hm
  | some y=>
   rw[he] at hm
   refine(hc y he w _ hA.2).mono ?_;rintro _ w' ⟨F',v,le,rfl,hρ,hw⟩;exact⟨v,rfl,k y F' v he le hρ hm _ _ ⟨hA.1.put hd _,hw⟩⟩
theorem GG.bD{α:Type}{f:x4}{caps as vs:UV Do}{of:dO}{os:UV dO}{T:Of If}{e:α}{ρ:α->Fz->Do->Prop}(hd:Nat.blt d n=true)
  (hcall:∀args w,(callFunc f args).run P w= .ok (.enter f args) w) (hf:QO S of=some (.func (.func f) #[] caps.toArray)) (ha:Ub S os=some vs) (has:vs++caps=as)
  (hc:KH P f as.toArray F (some e) ρ) (k:∀F' v,F<=F'->ρ e F' v->GL O P ops rest ks Q (Hd n D ((d,v)::S) F' hs) m r):GL O P ops (⟨some d,.call ⟨.value of,os.toArray,T⟩,ty,pos,after,none⟩::rest) ks Q (Hd n D S F hs) m r:=
 GG.cf rfl (.inr rfl) λhm a w hA=>by
  subst has;refine⟨Wo hA.1 hcall hf ha,?_⟩;refine(hc e rfl w _ hA.2).mono ?_;rintro _ w' ⟨F',v,le,rfl,hρ,hw⟩;exact⟨v,rfl,k F' v le hρ hm _ _ ⟨hA.1.put hd _,hw⟩⟩
theorem GG.bq{y:α}(he:e=some y)(hd:Nat.blt d n=true)
  (hcall:∀args w,(callFunc f args).run P w= .ok (.enter f args) w) (hf:QO S of=some (.func (.func f) #[] caps.toArray)) (ha:Ub S os=some vs) (has:vs++caps=as)
  (hc:KH P f as.toArray F e ρ) (k:∀F' v,F<=F'->ρ y F' v->GL O P ops rest ks Q (Hd n D ((d,v)::S) F' hs) m r):GL O P ops (⟨some d,.call ⟨.value of,os.toArray,T⟩,ty,pos,after,none⟩::rest) ks Q (Hd n D S F hs) m r:=
 GG.bD hd hcall hf ha has (he▸hc) k
theorem GG.cc{α:Type}{f:x4}{caps as vs:UV Do}{of:dO}{os:UV dO}{T:Of If}{e:H1 α}{ρ:α->Fz->Do->Prop}{H:HP}{H' :α->Fz->Do->HP}{g:α->H1 β}{i:Nat}(hd:Nat.blt d n=true)
  (hcall:∀args w,(callFunc f args).run P w= .ok (.enter f args) w) (hf:QO S of=some (.func (.func f) #[] caps.toArray)) (ha:Ub S os=some vs) (has:vs++caps=as) (hi:hs[i]? =some H)
  (hc:CT P f as.toArray F H e ρ H') (k:∀x F' v,e=some x->F<=F'->ρ x F' v->GL O P ops rest ks Q (Hd n D ((d,v)::S) F'<|hs.set i<|H' x F' v) (g x) r):GL O P ops (⟨some d,.call ⟨.value of,os.toArray,T⟩,ty,pos,after,none⟩::rest) ks Q (Hd n D S F hs) (e.bind g) r:=
 GG.cf rfl (.inr rfl) λhm a w hA=>by
  subst has;refine⟨Wo hA.1 hcall hf ha,?_⟩;cases he:e with
  | none=>rw[he] at hm;cases hm
  | some y=>
   rw[he] at hm
   refine(hc y he w _<|hA.2.pull hi).mono ?_;rintro _ w' ⟨F',v,le,rfl,hρ,hw⟩;exact⟨v,rfl,k y F' v he le hρ hm _ _ ⟨hA.1.put hd _,SH.push hi hw⟩⟩
end
inductive SP(P:Program)(S:List (Nat×Value))(F:Fz)(hs:List HP):List ResultVar->List Value->Prop where
 | nil:SP P S F hs [] []
 | tmp {t:Nat} {v:Value} {rs:List ResultVar} {vs:List Value} (h:K4 S t=some v) (k:SP P S F hs rs vs):SP P S F hs (.tmp t::rs) (v::vs)
 | cell {t i b T:Nat} {ty:TypeId} {v:Value} {cs:List Value} {fr:Nat×Nat} {rs:List ResultVar} {vs:List Value} (h:K4 S t=some (.pointer<|some ⟨b,0,none⟩)) (hA:∀w,(isAgg ty).run P w= .ok false w) (hb:hs[i]? =some (pt b<|.cells cs.toArray T fr)) (hv:cs[0]? =some v) (k:SP P S F hs rs vs):SP P S F hs (.cell t ty::rs) (v::vs)
 | agg {t i b T z:Nat} {ty:TypeId} {cs vs' :List Value} {fr:Nat×Nat} {rs:List ResultVar} {vs:List Value} (h:K4 S t=some (.pointer<|some ⟨b,0,none⟩)) (hA:∀w,(isAgg ty).run P w= .ok true w) (hz:∀w,(sizeOf ty).run P w= .ok z w) (hb:hs[i]? =some (pt b<|.cells cs.toArray T fr)) (hv:cs.take z=vs') (hl:vs'.length=z) (k:SP P S F hs rs vs):SP P S F hs (.cell t ty::rs) (.agg vs'.toArray::vs)
def S8:UV Do->Do
 | [v]=>v
 | vs=>.tuple vs.toArray
def NW(tmps:Of Do):ResultVar->Sem Do
 | .tmp t=>pure (tmps.getD t undef)
 | .cell a t=>do loadVar t (<-asAddr (tmps.getD a undef))
theorem DE(ha:Hd n D S F hs a w):∀{rs:UV ResultVar} {vs:UV Do},SP P S F hs rs vs->(rs.mapM<|NW a.tmps).run P w= .ok vs w
 | _,_,.nil=>by simp
 | _,_,.tmp h k=>by
  have e:=ha.1.2.2 _ _ h;simp[NW,e,DE ha k]
 | _,_,.cell h hA hb hv k=>by
  have e:=ha.1.2.2 _ _ h;have hl:=Dk (P:=P) (w:=w) hA (by rw[cell_of_heap<|SH.bT hb ha.2];exact hv);simp only[Instr.loadAt,Instr.sureAddr,r7,mc,Result.andThen] at hl
  simp[NW,e,DE ha k,asAddr,hl]
 | _,_,.agg h hA hz hb hv hl' k=>by
  have e:=ha.1.2.2 _ _ h;have hl:=SY (P:=P) (w:=w) (o:=0) hA hz (SH.bT hb ha.2) (by simpa using hv) hl';simp only[Instr.loadAt,Instr.sureAddr,r7,mc,Result.andThen] at hl
  simp[NW,e,DE ha k,asAddr,hl]
theorem Jd{fn:lK}{rs:UV ResultVar}(hr:fn.results=rs.toArray)(ha:Hd n D S F hs a w)(h:SP P S F hs rs vs):(results fn a.tmps).run P w= .ok (S8 vs) w:=by
 have h1:=DE ha h
 have e:(results fn a.tmps)=(do let vs <-fn.results.mapM (NW a.tmps);pure (if h:vs.size=1 then vs[0] else .tuple vs)):=by
  unfold results;congr 1
 rw[e,hr];simp only[List.mapM_toArray,r7,Sem.run_map,h1,Result.andThen,mc];congr 1
 match vs with
 | []=>rfl
 | [v]=>rfl
 | v::u::vs=>simp[S8]
section
variable{β:Type}{P:RK}{n:Nat}{S:UV (Nat×Do)}{F F' :Fz}{hs:UV HP}{ks:UV Kt}{fn:lK}{R:HP}{ρ:β->Fz->Do->Prop}{x r:β}{rs:UV ResultVar}{vs:UV Do}{i:Nat}
theorem Wy(hr:fn.results=rs.toArray)(h:SP P S F' hs rs vs)(hi:hs[i]? =some R)(le:F<=F')(hρ:ρ x F' (S8 vs)):some x=some r->∀a w,Hd n [] S F' hs a w->OP P fn F R ρ r .ret a w:=by
 intro e a w ha;simp only[BY] at e
 subst e;exact⟨ha.1.2.1,_,Jd hr ha h,F',_,le,rfl,hρ,ha.2.only hi⟩
theorem GG.dw(hr:fn.results=rs.toArray)(h:SP P S F' hs rs vs)(hi:hs[i]? =some R)(le:F<=F')(hρ:ρ x F' (S8 vs)):GC O P .ret ks (OP P fn F R ρ r) (Hd n [] S F' hs) (some x) r:=GG.bc<|Wy hr h hi le hρ
theorem SH.an{p q:HP}(hi:hs[i]? =some p)(hj:(hs.eraseIdx i)[j]? =some q)(h:SH w F (Qi hs)):SH w F (star p q):=
 (h.pull hi).mono λ_ hm=>by
  obtain⟨m1,m2,d,s1,s2,hp,hq⟩:=hm;obtain⟨m3,_,_,t1,_,hq',_⟩:=VW hj hq;exact⟨m1,m3,d.sub (Mem.sub.refl _) t1,s1,t1.trans s2,hp,hq'⟩
theorem IS{H' :β->Fz->Do->HP}(hr:fn.results=rs.toArray)(h:SP P S F' hs rs vs)(hi:hs[i]? =some (H' x F'<|S8 vs))(hj:(hs.eraseIdx i)[j]? =some R)(le:F<=F')(hρ:ρ x F' (S8 vs)):some x=some r->∀a w,Hd n [] S F' hs a w->OQ P fn F R ρ H' r .ret a w:=by
 intro e a w ha;simp only[BY] at e
 subst e;exact⟨ha.1.2.1,_,Jd hr ha h,F',_,le,rfl,hρ,ha.2.an hi hj⟩
theorem GG.tL{H' :β->Fz->Do->HP}(hr:fn.results=rs.toArray)(h:SP P S F' hs rs vs)(hi:hs[i]? =some (H' x F'<|S8 vs))(hj:(hs.eraseIdx i)[j]? =some R)(le:F<=F')(hρ:ρ x F' (S8 vs)):GC O P .ret ks (OQ P fn F R ρ H' r) (Hd n [] S F' hs) (some x) r:=GG.bc<|IS hr h hi hj le hρ
theorem GG.rY{H' :β->Fz->Do->HP}(hr:fn.results=rs.toArray)(h:SP P S F' hs rs vs)(hi:hs[i]? =some (H' x F'<|S8 vs))(hj:(hs.eraseIdx i)[j]? =some R)(le:F<=F')(hρ:ρ x F' (S8 vs)):GE O P [] (OQ P fn F R ρ H' r) (Hd n [] S F' hs) (some x) r:=GG.bA<|IS hr h hi hj le hρ
end
end
section
variable{Q:nN->Act->PP->Prop}{S:UV (Nat×Do)}{b:Bool}{after:Of lL}{ops:Of x5}{v:Do}{d:Nat}{pos:String}{P:RK}{ty:If}{w:PP}{a:Act}
variable{O:H1 Nat}{μ:Md}
section
variable{β:Type}{P:RK}{ops:Of x5}{rest l:UV x5}{ks:UV Kt}{Q:nN->Act->PP->Prop}{A:Act->PP->Prop}{m:H1 β}{r:β}
variable{n:Nat}{D:UV q8}{S S0:UV (Nat×Do)}{F F' :Fz}{hs:UV HP}
theorem AX{Q1 Q2:nN->Act->PP->Prop}(l2:UV x5)(hq:∀a w,Q1 .normal a w->Xa O P ops Q2 l2 a w)(hx:∀e a w,e≠.normal->Q1 e a w->Q2 e a w):∀(l1:UV x5) (a:Act) (w:PP),Xa O P ops Q1 l1 a w->Xa O P ops Q2 (l1++l2) a w
 | [],a,w,h=>hq a w h
 | o::l1,a,w,h=>by
  simp only[mQ];unfold Xa at h ⊢
  split
  ·rename_i hw;rw[TO hw] at h
   exact Rn (λ_ _ he=>AX l2 hq hx l1 _ _ he) hx h
  ·rename_i hw;rw[RW hw] at h
   exact AX l2 hq hx l1 _ _ h
theorem AW{K1 K2:Act->Prop}(l2:UV x5)(hq:∀a,K1 a->wpS P ops w K2 l2 a):∀(l1:UV x5) (a:Act),wpS P ops w K1 l1 a->wpS P ops w K2 (l1++l2) a
 | [],a,h=>hq a h
 | o::l1,a,h=>by
  simp only[mQ];unfold wpS at h ⊢
  split
  ·rename_i hw;rw[TO hw] at h
   obtain⟨v,h1,h2⟩:=h;exact⟨v,h1,AW l2 hq l1 _ h2⟩
  ·rename_i hw;rw[RW hw] at h
   exact AW l2 hq l1 _ h
theorem R3{Q1:nN->Act->PP->Prop}(l2:UV x5)(hq:∀a w,Q1 .normal a w->gT μ P ops ks Q l2 a w)(hx:∀e a w,e≠.normal->¬Q1 e a w)(l1:UV x5)(a:Act)(w:PP)(h:gT μ P ops [] Q1 l1 a w):gT μ P ops ks Q (l1++l2) a w:=by
 cases μ with
 | f O=>exact AX l2 hq (λe a w n q=>absurd q<|hx e a w n) l1 a w h
 | s=>exact AW l2 (λa h=>hq a w h) l1 a h
def Vl(n:Nat)(D:UV q8)(d:Nat)(v:Do)(S:UV (Nat×Do))(F:Fz)(hs:UV HP):nN->Act->PP->Prop:=λe a w=>e= .normal/\∃F',F<=F'/\Hd n D ((d,v)::S) F' hs a w
theorem P4{S' :UV (Nat×Do)}(j:Nat)(hd:S'.drop j=S)(hf:fresh S (S'.take j)=true):Sub S S' :=λi v h=>by
 have:=DI hf h;rw[<-hd,ln] at this
 exact this
theorem Ef(h:Q .normal a w):gT μ P ops [] Q [] a w:=by cases μ<;>exact h
theorem GG.fin{S' :UV (Nat×Do)}{x:β}(j:Nat)(hv:K4 S' d=some v)(hd:S'.drop j=S)(hf:fresh S (S'.take j)=true)(le:F<=F'):GL μ P ops [] [] (Vl n D d v S F hs) (Hd n D S' F' hs) (some x) x:=λ_ _ _ ha=>Ef ⟨rfl,F',le,ha.1.sub<|Sub.cons hv<|P4 j hd hf,ha.2⟩
theorem GG.rp{α:Type}{m0:H1 α}{f:α->H1 β}(k d:Nat)(V:α->Do)(h:∀z,GL μ P ops (l.take k) [] (Vl n D d (V z) S F hs) (Hd n D S F hs) m0 z)
  (next:∀z F',m0=some z->F<=F'->GL μ P ops (l.drop k) ks Q (Hd n D ((d,V z)::S) F' hs) (f z) r):GL μ P ops l ks Q (Hd n D S F hs) (m0.bind f) r:=by
 intro hm a w ha;cases hl:m0 with
 | none=>rw[hl] at hm;cases hm
 | some z=>
  rw[hl] at hm
  have h1:=h z hl a w ha
  have:=R3 (P:=P) (ops:=ops) (ks:=ks) (Q:=Q) (l.drop k) (Q1:=Vl n D d (V z) S F hs) (λa' w' hq=>by
   obtain⟨_,F',le,hq⟩:=hq;exact next z F' hl le hm a' w' hq) (λe a' w' hne hq=>hne hq.1) (l.take k) a w h1
  rwa[ln] at this
theorem GG.rI(k d:Nat)(h:GL μ P ops (l.take k) [] (Vl n D d v S F hs) (Hd n D S F hs) (some ()) ())
  (next:∀F',F<=F'->GL μ P ops (l.drop k) ks Q (Hd n D ((d,v)::S) F' hs) m r):GL μ P ops l ks Q (Hd n D S F hs) m r:=by
 intro hm a w ha;have h1:=h rfl a w ha
 have:=R3 (P:=P) (ops:=ops) (ks:=ks) (Q:=Q) (l.drop k) (Q1:=Vl n D d v S F hs) (λa' w' hq=>by
  obtain⟨_,F',le,hq⟩:=hq;exact next F' le hm a' w' hq) (λe a' w' hne hq=>hne hq.1) (l.take k) a w h1
 rwa[ln] at this
theorem GG.pO{b':Bool}(k d:Nat)
  (h1:b=true->GL μ P ops (l.take k) [] (Vl n D d (.bool b') S F hs) (Hd n D S F hs) (some ()) ())
  (h2:b=false->GL μ P ops (l.take k) [] (Vl n D d (.bool false) S F hs) (Hd n D S F hs) (some ()) ())
  (next:∀F',F<=F'->GL μ P ops (l.drop k) ks Q (Hd n D ((d,.bool<|b&&b')::S) F' hs) m r):GL μ P ops l ks Q (Hd n D S F hs) m r:=
 GG.rI k d (by cases hb:b with | true=>exact h1 hb | false=>exact h2 hb) next
theorem GG.rO{b':Bool}(k d:Nat)
  (h1:b=false->GL μ P ops (l.take k) [] (Vl n D d (.bool b') S F hs) (Hd n D S F hs) (some ()) ())
  (h2:b=true->GL μ P ops (l.take k) [] (Vl n D d (.bool true) S F hs) (Hd n D S F hs) (some ()) ())
  (next:∀F',F<=F'->GL μ P ops (l.drop k) ks Q (Hd n D ((d,.bool<|b||b')::S) F' hs) m r):GL μ P ops l ks Q (Hd n D S F hs) m r:=
 GG.rI k d (by cases hb:b with | true=>exact h2 hb | false=>exact h1 hb) next
theorem GG.andM{m1:H1 Bool}{f:Bool->H1 β}(k d:Nat)
  (h1:b=true->∀z,GL μ P ops (l.take k) [] (Vl n D d (.bool z) S F hs) (Hd n D S F hs) m1 z)
  (h2:b=false->GL μ P ops (l.take k) [] (Vl n D d (.bool false) S F hs) (Hd n D S F hs) (some ()) ())
  (next:∀z F',F<=F'->GL μ P ops (l.drop k) ks Q (Hd n D ((d,.bool z)::S) F' hs) (f z) r):GL μ P ops l ks Q (Hd n D S F hs) ((if b then m1 else some false).bind f) r:=
 GG.rp k d (λz=>.bool z) (by
  intro z;cases hb:b with
  | true=>rw[TO rfl];exact h1 hb z
  | false=>rw[RW<|by simp];intro e;simp only[BY] at e;subst e;exact h2 hb rfl) (λz F' _ le=>next z F' le)
theorem GG.orM{m1:H1 Bool}{f:Bool->H1 β}(k d:Nat)
  (h1:b=false->∀z,GL μ P ops (l.take k) [] (Vl n D d (.bool z) S F hs) (Hd n D S F hs) m1 z)
  (h2:b=true->GL μ P ops (l.take k) [] (Vl n D d (.bool true) S F hs) (Hd n D S F hs) (some ()) ())
  (next:∀z F',F<=F'->GL μ P ops (l.drop k) ks Q (Hd n D ((d,.bool z)::S) F' hs) (f z) r):GL μ P ops l ks Q (Hd n D S F hs) ((if b then some true else m1).bind f) r:=
 GG.rp k d (λz=>.bool z) (by
  intro z;cases hb:b with
  | true=>rw[TO rfl];intro e;simp only[BY] at e;subst e;exact h2 hb rfl
  | false=>rw[RW<|by simp];exact h1 hb z) (λz F' _ le=>next z F' le)
theorem GG.dr{dst:H1 Tmp}{op:Op}{j t:Nat}{want:Bool}(hb:b=want)(hj:(ops[j]?).bind (·.dst)=some t)(hv:K4 S t=some (.bool b))
  (k:GL μ P ops (⟨dst,op,ty,pos,after,none⟩::rest) ks Q (Hd n D S F hs) m r):GL μ P ops (⟨dst,op,ty,pos,after,some (j,want)⟩::rest) ks Q (Hd n D S F hs) m r:=
 GG.on hj (hb▸hv) k
theorem GG.bJ{op:Op}{j t:Nat}{want:Bool}(hb:b= !want)(hd:Nat.blt d n=true)(hj:(ops[j]?).bind (·.dst)=some t)(hv:K4 S t=some (.bool b))
  (k:GL μ P ops rest ks Q (Hd n D ((d,undef)::S) F hs) m r):GL μ P ops (⟨some d,op,ty,pos,after,some (j,want)⟩::rest) ks Q (Hd n D S F hs) m r:=
 GG.off hd hj hv (by subst hb;cases want<;>rfl) k
theorem GG.dv{ox oy oz:dO}(hb:b=true)(hd:Nat.blt d n=true)(hz:QO S oz=some (.bool b))(hx:QO S ox=some v)(k:GL μ P ops rest ks Q (Hd n D ((d,v)::S) F hs) m r):GL μ P ops (⟨some d,.pick oz ox oy,ty,pos,after,none⟩::rest) ks Q (Hd n D S F hs) m r:=GG.pQ hd (hb▸hz) hx k
theorem GG.bQ{ox oy oz:dO}(hb:b=false)(hd:Nat.blt d n=true)(hz:QO S oz=some (.bool b))(hy:QO S oy=some v)(k:GL μ P ops rest ks Q (Hd n D ((d,v)::S) F hs) m r):GL μ P ops (⟨some d,.pick oz ox oy,ty,pos,after,none⟩::rest) ks Q (Hd n D S F hs) m r:=GG.al hd (hb▸hz) hy k
end
def Kk(L:Nat->Bool)(i:Nat):Nat->Bool:=λj=>if j=i then true else L j
theorem k9(Inv:(Nat->Bool)->Act->PP->Prop)
  (hord:∀i o,ops[i]? =some o->∀e∈o.after,Region.binds .any e=true->e.on < i)
  (hstep:∀L a w i o,ops[i]? =some o->L i=false->(∀e∈o.after,Region.binds .any e=true->L e.on=true)->Inv L a w->
   if Region.wanted o (yielded ops a.tmps) then jZ O P o a w (Inv<|Kk L i) Q else Inv (Kk L i) (a.put o.dst undef) w)
  (hend:∀L a w,(∀i,i < ops.size->L i=true)->Inv L a w->Q .normal a w):∀(fuel:Nat) (listed:Of Bool) (a:Act) (w:PP),listed.size=ops.size->(List.range ops.size).countP (λi=> !listed.getD i false)<=fuel->Inv (λi=>listed.getD i false) a w->wpAnyIn (Rc O) 0 P .any ops Q fuel listed a w:=by
 have hready:∀(listed:Of Bool),listed.size=ops.size->Region.ready .any ops listed=[]->∀i,i < ops.size->listed.getD i false=true:=by
  intro listed hs hr i
  induction i using Nat.strongRecOn with
  | _ i ih=>
   intro hi;cases hl:listed.getD i false with
   | true=>rfl
   | false=>
    have hmem:i∈Region.ready .any ops listed:=by
     unfold Region.ready;simp only[nU,mL];refine⟨hi,?_⟩
     have h1:listed.getD i true=false:=by
      simp only[tO] at hl ⊢
      have:i < listed.size:=by omega
      simp[this] at hl ⊢;exact hl
     have h2:ops[i]? =some ops[i]:=by simp[hi]
     rw[h1,h2];simp only[r6,x7,lU,mA,oV,nq,ng];intro e he;cases hb:Region.binds .any e with
     | false=>exact .inl rfl
     | true=>
      have hlt:=hord i _ h2 e he hb;exact .inr<|ih e.on hlt<|by omega
    rw[hr] at hmem;cases hmem
 intro fuel
 induction fuel with
 | zero=>
  intro listed a w hs hc hI
  have hall:∀i,i < ops.size->listed.getD i false=true:=λi hi=>by
   have:=List.countP_eq_zero.1 (Nat.le_zero.1 hc) i<|mL.2 hi;simpa using this
  refine⟨?_,hend _ a w hall hI⟩;unfold Region.ready;apply lg.2;intro i hi;have h:=hall i<|mL.1 hi;have hi' :i < listed.size:=by rw[hs];exact mL.1 hi
  simp only[tO] at h
  simp[hi'] at h
  simp[hi',h]
 | succ fuel ih=>
  intro listed a w hs hc hI;refine⟨λhr=>hend _ a w (hready listed hs hr) hI,λi hi=> ?_⟩;unfold Region.ready at hi
  simp only[nU,mL,AT,ng] at hi
  obtain⟨hlt,hl,hdeps⟩:=hi;have h2:ops[i]? =some ops[i]:=by simp[hlt]
  rw[h2] at hdeps
  simp only[x7,lU,oV,nq,ng] at hdeps
  have hl' :listed.getD i false=false:=by
   have:i < listed.size:=by omega
   simp only[tO] at hl ⊢
   simp[this] at hl ⊢;exact hl
  have hst:=hstep _ a w i _ h2 hl' (λe he hb=>by
   rcases hdeps e he with h | h
   ·rw[hb] at h;cases h
   ·exact h) hI
  have hnext:∀a' w',Inv (Kk (λj=>listed.getD j false) i) a' w'->wpAnyIn (Rc O) 0 P .any ops Q fuel (listed.setIfInBounds i true) a' w' :=by
   intro a' w' h
   have he:(λj=>(listed.setIfInBounds i true).getD j false)=Kk (λj=>listed.getD j false) i:=by
    funext j;simp only[Kk,tO];by_cases hj:j=i
    ·subst hj;have:j < listed.size:=by omega
     simp[this]
    ·simp[hj,ib hj]
   refine ih _ a' w' (by simpa using hs) ?_ (by rw[he];exact h)
   have hd:(List.range ops.size).countP (λj=> !(listed.setIfInBounds i true).getD j false) < (List.range ops.size).countP (λj=> !listed.getD j false):=by
    have e2:(λj=> !(listed.setIfInBounds i true).getD j false)=λj=>(!(Kk (λj=>listed.getD j false) i) j):=by
     funext j;rw[<-he]
    rw[e2];refine countP_lt (x:=i) ?_ (mL.2 hlt) (by simp[hl']) (by simp[Kk]);intro j hj;simp only[Kk,ng] at hj ⊢
    by_cases e:j=i
    ·simp[e] at hj
    ·simpa[e] using hj
   omega
  unfold wpOpIn;rw[h2];simp only[];split
  ·rename_i hw;rw[TO hw] at hst
   exact(Ch hnext hst).wpIn
  ·rename_i hw;rw[RW hw] at hst
   exact⟨λf _=>BV O f,hnext _ _ hst⟩
where
 countP_lt {α:Type} {p q:α->Bool} {l:UV α} {x:α} (h:∀y,p y=true->q y=true) (hx:x∈l) (hq:q x=true) (hp:p x=false):l.countP p < l.countP q:=by
  induction l with
  | nil=>cases hx
  | cons y l ih=>
   simp only[List.countP_cons];have hle:l.countP p<=l.countP q:=List.countP_mono_left λz _ hz=>h z hz;rcases j9.1 hx with rfl | hx'
   ·simp[hq,hp];omega
   ·have:=ih hx'
    have:(if p y=true then 1 else 0)<=(if q y=true then 1 else 0):=by
     split
     ·rename_i hy;simp[h y hy]
     ·omega
    omega
theorem Xm{id:Nat}(hm:P.follows .mixedOrders=true)(Inv:(Nat->Bool)->Act->PP->Prop)
  (hord:∀i o,ops[i]? =some o->∀e∈o.after,Region.binds .any e=true->e.on < i)
  (h0:Inv (λ_=>false) a {w with drawn:=w.drawn+1})
  (hstep:∀L a w i o,ops[i]? =some o->L i=false->(∀e∈o.after,Region.binds .any e=true->L e.on=true)->Inv L a w->
   if Region.wanted o (yielded ops a.tmps) then jZ O P o a w (Inv<|Kk L i) Q else Inv (Kk L i) (a.put o.dst undef) w)
  (hend:∀L a w,(∀i,i < ops.size->L i=true)->Inv L a w->Q .normal a w):(Code.region id ops true).wpIn (Rc O) 0 P Q a w:=by
 refine wpIn_region_any hm<|k9 Inv hord hstep hend _ _ _ _ (by simp) ?_ ?_
 ·exact me List.countP_le_length<|by simp
 ·have:(λi=>(Array.replicate ops.size false).getD i false)=λ_=>false:=by
   funext i;simp only[tO,Array.getElem?_replicate];split<;>rfl
  rw[this];exact h0
def Mz:Nat->UV x5->Bool
 | _,[]=>true
 | i,o::l=>o.after.toList.all (λe=> !Region.binds .any e||Nat.blt e.on i)&&Mz (i+1) l
theorem HF:∀{k:Nat} {l:UV x5},Mz k l=true->∀i o,l[i]? =some o->∀e∈o.after,Region.binds .any e=true->e.on < k+i
 | _,[],_,i,o,h,_,_,_=>by simp at h
 | k,x::l,hb,0,o,h,e,he,hbi=>by
  simp at h;subst h
  simp only[Mz,AT,s7,nq,ng] at hb
  rcases hb.1 e (by simpa using he) with h | h
  ·rw[hbi] at h;cases h
  ·have:=j3 h;simp at this ⊢;omega
 | k,x::l,hb,i+1,o,h,e,he,hbi=>by
  simp only[Mz,AT] at hb
  have:=HF hb.2 i o (by simpa using h) e he hbi;omega
def O6:Nat->UV x5->Bool
 | _,[]=>true
 | i,o::l=>(List.range i).all (λj=>o.after.toList.any λe=>Nat.beq e.on j&&Region.binds .any e)&&O6 (i+1) l
theorem NB:∀{k:Nat} {l:UV x5},O6 k l=true->∀i o,l[i]? =some o->∀j,j < k+i->∃e∈o.after,e.on=j/\Region.binds .any e=true
 | _,[],_,i,o,h,_,_=>by simp at h
 | k,x::l,hb,0,o,h,j,hj=>by
  simp at h;subst h
  simp only[O6,AT,s7,mL,nv] at hb
  obtain⟨e,he,h1,h2⟩:=hb.1 j (by simpa using hj);exact⟨e,by simpa using he,rW h1,h2⟩
 | k,x::l,hb,i+1,o,h,j,hj=>by
  simp only[O6,AT] at hb
  exact NB hb.2 i o (by simpa using h) j<|by omega
theorem NJ{S0:UV (Nat×Do)}(h:Sub S0 S)(hk:Am d S0=false)(v:Do):Sub S0 ((d,v)::S):=λi u e=>by
 simp only[K4];cases hb:Nat.beq d i with
 | true=>
  have:d=i:=rW hb;subst this;rw[Fc e] at hk;cases hk
 | false=>exact h i u e
theorem PL{i:Nat}{u:Do}(hne:d≠i)(e:K4 S i=some u):K4 ((d,v)::S) i=some u:=by
 simp only[K4];cases hb:Nat.beq d i with
 | true=>exact absurd (rW hb) hne
 | false=>exact e
theorem Ds:K4 ((d,v)::S) d=some v:=by simp[K4]
theorem T1{o:x5}{Q0:nN->Act->PP->Prop}{K:Act->PP->Prop}(hQ:∀e a w,e≠.normal->Q0 e a w->False)(hK:∀a w,Q0 .normal a w->K a w)(h:Xa O P ops Q0 [o] a w):if Region.wanted o (yielded ops a.tmps) then jZ O P o a w K Q else K (a.put o.dst undef) w:=by
 unfold Xa at h
 split
 ·rename_i hw;rw[TO hw] at h
  exact Rn hK (λe a w hne hq=>(hQ e a w hne hq).elim) h
 ·rename_i hw;rw[RW hw] at h
  exact hK _ _ h
end
section
variable{α:Type}{p:H1 OF}{l:UV α}{sz cap e o n t b i:Nat}{us:UV Do}{F F':Fz}{P:RK}{T:If}{w:PP}{x:Int}
variable{O:H1 Nat}{μ:Md}
abbrev Uk(α:Type):Type:=Fz->α->UV Do->Prop
variable{c:Uk α}
abbrev Ex(c:α->UV Do):Uk α:=λ_ x vs=>vs=c x
def QI(sz:Nat)(c:Uk α)(F:Fz)(p:H1 OF)(cap:Nat)(l:UV α):Prop:=l.length<=cap/\cap<=9223372036854775807/\(l=[]∨∃b o cs T fr,p=some ⟨b,o,none⟩/\F.mem b=some (.cells cs T fr)/\∀i x,l[i]? =some x->∀F',F<=F'->c F' x ((cs.toList.drop<|o+i*sz).take sz))
theorem QI.mono(h:QI sz c F p cap l)(le:F<=F'):QI sz c F' p cap l:=by
 obtain⟨h0,h1,h2⟩:=h;refine⟨h0,h1,?_⟩;rcases h2 with h | ⟨b,o,cs,T,fr,h2,h3,h4⟩
 ·exact .inl h
 ·exact .inr ⟨b,o,cs,T,fr,h2,le.mem _ _ h3,λi x hx F' le' =>h4 i x hx F'<|Fz.le_trans le le'⟩
theorem QI.nil{α:Type}{sz:Nat}{c:Uk α}{F:Fz}:QI sz c F none 0 ([]:UV α):=⟨IN _,by simp,.inl rfl⟩
theorem QG{cs vs:UV Do}{z k:Nat}{v:Do}(h:(cs.drop o).take z=vs)(hv:vs[k]? =some v):cs[o+k]? =some v:=by
 rw[<-h,rz,mF] at hv
 split at hv
 ·exact hv
 ·cases hv
def ZK(l:UV α)(i:Int):H1 α:=if 0<=i then l[i.toNat]? else none
theorem Hv{i:Int}{x:α}(h:ZK l i=some x):0<=i/\i.toNat < l.length/\l[i.toNat]? =some x:=by
 unfold ZK at h
 split at h
 ·rename_i h0;refine⟨h0,?_,h⟩;rcases nA i.toNat l.length with h' | h'
  ·exact h'
  ·rw[mC h'] at h;cases h
 ·cases h
theorem QI.at_(h:QI sz c F p cap l){k:Nat}{x:α}(hx:l[k]? =some x):∃b o T fr,∃cs:UV Do,p=some ⟨b,o,none⟩/\F.mem b=some (.cells cs.toArray T fr)/\c F x ((cs.drop<|o+k*sz).take sz):=by
 obtain⟨_,_,h2⟩:=h;rcases h2 with h | ⟨b,o,cs,T,fr,h2,h3,h4⟩
 ·subst h;simp at hx
 ·exact⟨b,o,T,fr,cs.toList,h2,by simpa using h3,by simpa using h4 k x hx F (Fz.le_refl F)⟩
section
variable{β:Type}{P:RK}{ops:Of x5}{rest:UV x5}{ks:UV Kt}{Q:nN->Act->PP->Prop}{m:H1 β}{r:β}
variable{n:Nat}{D:UV q8}{S:UV (Nat×Do)}{F:Fz}{hs:UV HP}
variable{d:Nat}{ty t t' :If}{pos:String}{after:Of lL}{ox oy oz:dO}{v u:Do}{kd:nm}{x y:Int}
theorem GG.rl{z:α}(hd:Nat.blt d n=true)(ht:P.underlying t=some (.slice e))(hz:∀w,(sizeOf e).run P w= .ok sz w)
  (hr:QI sz c F p cap l) (hx:QO S ox=some (.slice p l.length cap)) (hy:QO S oy=some (.int kd x)) (hi:ZK l x=some z)
  (k:∀b o T fr cs,F.mem b=some (.cells (List.toArray cs) T fr)->c F z ((cs.drop o).take sz)->GL μ P ops rest ks Q (Hd n D ((d,.pointer<|some ⟨b,o,none⟩)::S) F hs) m r):GL μ P ops (⟨some d,.indexAddr t ox oy,ty,pos,after,none⟩::rest) ks Q (Hd n D S F hs) m r:=by
 obtain⟨h0,h1,h2⟩:=Hv hi;obtain⟨b,o,T,fr,cs,rfl,h3,h4⟩:=hr.at_ h2;have hj:VJ l.length x=some x.toNat:=by unfold VJ;rw[TO<|by omega]
 exact GG.cw hd ht hz hx hy hj<|k b _ T fr cs h3 h4
theorem GG.idx{f:α->H1 β}(hd:Nat.blt d n=true)(ht:P.underlying t=some (.slice e))(hz:∀w,(sizeOf e).run P w= .ok sz w)
  (hr:QI sz c F p cap l) (hx:QO S ox=some (.slice p l.length cap)) (hy:QO S oy=some (.int kd x))
  (k:∀z b o T fr cs,ZK l x=some z->F.mem b=some (.cells (List.toArray cs) T fr)->c F z ((cs.drop o).take sz)->GL μ P ops rest ks Q (Hd n D ((d,.pointer<|some ⟨b,o,none⟩)::S) F hs) (f z) r):GL μ P ops (⟨some d,.indexAddr t ox oy,ty,pos,after,none⟩::rest) ks Q (Hd n D S F hs) ((ZK l x).bind f) r:=
 GG.bind λz hi=>GG.rl hd ht hz hr hx hy hi λb o T fr cs h1 h2=>k z b o T fr cs hi h1 h2
def ZW(l:UV α)(lo hi:Int):H1 (UV α):=if 0<=lo/\lo<=hi/\hi<=l.length then some ((l.drop lo.toNat).take<|hi.toNat - lo.toNat) else none
theorem QI.cut{cap':Nat}(h:QI sz c F p cap l){lo hi:Nat}(_h1:lo<=hi)(h2:hi<=l.length)(h3:hi - lo<=cap')(h4:cap'<=cap):QI sz c F (p.map (·.add (lo*sz))) cap' ((l.drop lo).take<|hi - lo):=by
 obtain⟨g0,g1,g2⟩:=h;refine⟨by simp;omega,by omega,?_⟩;rcases g2 with h | ⟨b,o,cs,T,fr,rfl,h3',h4'⟩
 ·subst h;left;simp
 ·refine .inr ⟨b,o+lo*sz,cs,T,fr,by simp[Xy],h3',λi x hx=> ?_⟩;rw[rz,mF] at hx
  split at hx
  ·intro F' le;have:=h4' (lo+i) x hx F' le;rw[show o+lo*sz+i*sz=o+(lo+i)*sz by rw[mP];omega];exact this
  ·cases hx
theorem QI.rB{p':H1 OF}(h:QI sz c F p cap ([]:UV α)):QI sz c F p' cap ([]:UV α):=⟨h.1,h.2.1,.inl rfl⟩
theorem WM{i:Int}{y:Nat}{code:BoundsCode}(h:0<=i/\i<=y):(Instr.sliceBound (.int kd i) y code).run P w= .ok i.toNat w:=by
 simp[Instr.sliceBound,asIntOf,h]
theorem Ew{t len:Nat}{lo:Int}(ht:P.underlying t=some (.slice e))(hz:∀w,(sizeOf e).run P w= .ok sz w)(h:0<=lo/\lo<=len):(Instr.sliceAt t (.slice p len cap) (some<|.int kd lo) none none).run P w= .ok (.slice (if cap=lo.toNat then p else p.map (·.add (lo.toNat*sz))) (len - lo.toNat)<|cap - lo.toNat) w:=by
 simp only[Instr.sliceAt,r7,J5 ht,Result.andThen,Instr.slice,Instr.sliceBounds,mc,ml,By,T2];rw[WM h];simp[hz]
theorem TN{t len:Nat}{hi:Int}(ht:P.underlying t=some (.slice e))(hz:∀w,(sizeOf e).run P w= .ok sz w)(h:0<=hi/\hi<=cap):(Instr.sliceAt t (.slice p len cap) none (some<|.int kd hi) none).run P w= .ok (.slice (if cap=0 then p else p.map (·.add (0*sz))) hi.toNat cap) w:=by
 simp only[Instr.sliceAt,r7,J5 ht,Result.andThen,Instr.slice,Instr.sliceBounds,mc,ml,By,T2,Rw];rw[WM h];simp[hz]
theorem Mv{t len:Nat}{hi mx:Int}{kd' :nm}(ht:P.underlying t=some (.slice e))(hz:∀w,(sizeOf e).run P w= .ok sz w)(h:0<=hi/\hi<=mx)(h' :mx<=cap):(Instr.sliceAt t (.slice p len cap) none (some<|.int kd hi)<|some<|.int kd' mx).run P w= .ok (.slice (if mx.toNat=0 then p else p.map (·.add (0*sz))) hi.toNat mx.toNat) w:=by
 simp only[Instr.sliceAt,r7,J5 ht,Result.andThen,Instr.slice,Instr.sliceBounds,mc,ld,By,T2,Rw];rw[WM (kd:=kd')<|by omega];simp only[];rw[WM<|by omega];simp[hz]
theorem qp{p':H1 OF}{q:Prop}[Decidable q](h1:q->QI sz c F p cap l)(h2:QI sz c F p' cap l):QI sz c F (if q then p else p') cap l:=by
 split
 ·rename_i h;exact h1 h
 ·exact h2
theorem GG.cm{f:UV α->H1 β}(hd:Nat.blt d n=true)(ht:P.underlying t=some (.slice e))(hz:∀w,(sizeOf e).run P w= .ok sz w)
  (hr:QI sz c F p cap l) (hx:QO S ox=some (.slice p l.length cap)) (hy:QO S oy=some (.int kd x))
  (k:∀l' p' c',ZW l x l.length=some l'->QI sz c F p' c' l'->GL μ P ops rest ks Q (Hd n D ((d,.slice p' l'.length c')::S) F hs) (f l') r):GL μ P ops (⟨some d,.slice t ox (some oy) none none,ty,pos,after,none⟩::rest) ks Q (Hd n D S F hs) ((ZW l x l.length).bind f) r:=
 GG.bind λl' hl=>by
  have hl' :=hl;unfold ZW at hl
  split at hl
  ·rename_i h;simp only[BY] at hl
   have hcut:QI sz c F (p.map (·.add (x.toNat*sz))) (cap - x.toNat) l' :=by
    have:=hr.cut (lo:=x.toNat) (hi:=l.length) (cap' :=cap - x.toNat) (by omega) (IN _) (by have:=hr.1;omega) (by omega);simp only[nW] at hl
    rw[<-hl];exact this
   have hlen:l'.length=l.length - x.toNat:=by rw[<-hl];simp
   have hrep:QI sz c F (if cap=x.toNat then p else p.map (·.add (x.toNat*sz))) (cap - x.toNat) l' :=qp (λh=>by
    have:l' =[]:=by
     have:=hcut.1;rw[<-h] at this;simp at this;exact this
    subst this;exact hcut.rB) hcut
   have hk:=k l' _ _ hl' hrep;rw[hlen] at hk
   refine GG.val hd (λa w ha=> ?_) hk;simp only[execOp,ha.1.eval hx,ha.1.eval hy,x7,lM,r7];rw[Ew ht hz<|by omega];rfl
  ·cases hl
theorem GG.aC{kd' :nm}{f:UV α->H1 β}(hd:Nat.blt d n=true)(ht:P.underlying t=some (.slice e))(hz:∀w,(sizeOf e).run P w= .ok sz w)
  (hr:QI sz c F p cap l) (hx:QO S ox=some (.slice p l.length cap)) (hy:QO S oy=some (.int kd x)) (hm:QO S oz=some (.int kd' x))
  (k:∀l' p' c',ZW l 0 x=some l'->QI sz c F p' c' l'->GL μ P ops rest ks Q (Hd n D ((d,.slice p' l'.length c')::S) F hs) (f l') r):GL μ P ops (⟨some d,.slice t ox none (some oy)<|some oz,ty,pos,after,none⟩::rest) ks Q (Hd n D S F hs) ((ZW l 0 x).bind f) r:=
 GG.bind λl' hl=>by
  have hl' :=hl;unfold ZW at hl
  split at hl
  ·rename_i h;simp only[BY] at hl
   have hcut:QI sz c F (p.map (·.add (0*sz))) x.toNat l' :=by
    have:=hr.cut (lo:=0) (hi:=x.toNat) (cap' :=x.toNat) (by omega) (by omega) (by omega) (by have:=hr.1;omega);simp only[eX] at this
    rw[<-hl];exact this
   have hlen:l'.length=x.toNat:=by rw[<-hl];simp;omega
   have hrep:QI sz c F (if x.toNat=0 then p else p.map (·.add (0*sz))) x.toNat l' :=qp (λh=>by
    have:l' =[]:=by have:=hcut.1;rw[h] at this;simp at this;exact this
    subst this;exact hcut.rB) hcut
   have hk:=k l' _ _ hl' hrep;rw[hlen] at hk
   refine GG.val hd (λa w ha=> ?_) hk;simp only[execOp,ha.1.eval hx,ha.1.eval hy,ha.1.eval hm,x7,lM,r7];rw[Mv ht hz (by have:=hr.1;omega) (by have:=hr.1;omega)];rfl
  ·cases hl
theorem QI.pT{T len:Nat}{cs:UV Do}{fr:Nat×Nat}(hb:F.mem b=some (.cells cs.toArray T fr))(hl:l.length=len)(hlen:Nat.ble len 1000000=true)(h:∀i x,l[i]? =some x->∀F',F<=F'->c F' x ((cs.drop<|o+i*sz).take sz)):QI sz c F (some ⟨b,o,none⟩) len l:=by
 have:=j3 hlen;exact⟨by omega,by omega,.inr ⟨b,o,cs.toArray,T,fr,rfl,hb,by simpa using h⟩⟩
theorem GG.aD{len:Nat}(hd:Nat.blt d n=true)(ht:P.underlying t=some (.array len e))(hz:∀w,(sizeOf e).run P w= .ok sz w)(hx:QO S ox=some (.pointer<|some ⟨b,o,none⟩))(h0:Nat.blt 0 len=true)
  (k:GL μ P ops rest ks Q (Hd n D ((d,.slice (some ⟨b,o,none⟩) len len)::S) F hs) m r):GL μ P ops (⟨some d,.slice t ox none none none,ty,pos,after,none⟩::rest) ks Q (Hd n D S F hs) m r:=
 GG.val hd (λa w ha=>by
  have:0 < len:=j3 h0;simp[execOp,ha.1.eval hx,Instr.sliceAt,J5 ht,Instr.sureAddr,Instr.sliceBounds,hz,Xy]) k
end
def Jb(sz:Nat)(c:Uk α)(F:Fz)(l:UV α)(us:UV Do):Prop:=∀i x,l[i]? =some x->∀F',F<=F'->c F' x ((us.drop<|i*sz).take sz)
theorem Zt{x:α}(h:l[i]? =some x):i < l.length:=by
 rcases nA i l.length with h' | h'
 ·exact h'
 ·rw[mC h'] at h;cases h
theorem Jb.mono(h:Jb sz c F l us)(le:F<=F'):Jb sz c F' l us:=λi x hx G le' =>h i x hx G<|Fz.le_trans le le'
theorem Jb.nil{α:Type}{sz:Nat}{c:Uk α}{F:Fz}{us:UV Do}:Jb sz c F [] us:=λi x h=>by simp at h
theorem Lu(h:i < n):(((us.take<|n*sz).drop<|i*sz).take sz)=((us.drop<|i*sz).take sz):=by
 rw[List.drop_take,List.take_take];congr 1;rw[<-Nat.sub_mul];have:1<=n - i:=by omega
 have:=mw sz this;omega
theorem Jb.take(h:Jb sz c F l us):Jb sz c F l (us.take<|l.length*sz):=λi x hx F' le=>by
 rw[Lu<|Zt hx];exact h i x hx F' le
theorem Jb.tQ(h:Jb sz c F l (us.take<|l.length*sz)):Jb sz c F l us:=λi x hx F' le=>by
 rw[<-Lu (Zt hx)];exact h i x hx F' le
theorem Jb.len(hc:∀F x vs,c F x vs->vs.length=sz)(h:Jb sz c F l us):l.length*sz<=us.length:=by
 rcases eG l.length with h0 | h0
 ·rw[h0];simp
 ·have hx:l[l.length - 1]? =some (l[l.length - 1]'(by omega)):=Nm _;have:=hc _ _ _<|h _ _ hx F<|Fz.le_refl F;simp only[eT,mg] at this
  rcases eG sz with hz | hz
  ·rw[hz];simp
  ·have e:l.length*sz=(l.length - 1)*sz+sz:=by
    rw[show l.length=l.length - 1+1 by omega,mP];simp
   omega
theorem Jb.append{l2:UV α}{us2:UV Do}(h:Jb sz c F l us)(h2:Jb sz c F l2 us2)(hl:us.length=l.length*sz):Jb sz c F (l++l2) (us++us2):=λi x hx F' le=>by
 rcases nA i l.length with hi | hi
 ·rw[nK hi] at hx
  have e:((us++us2).drop<|i*sz).take sz=(us.drop<|i*sz).take sz:=by
   have:i*sz+sz<=us.length:=by
    rw[hl,show i*sz+sz=(i+1)*sz by rw[mP];omega];exact mw sz hi
   rw[lJ (by omega),List.take_append_of_le_length (by simp;omega)]
  rw[e];exact h i x hx F' le
 ·rw[nr hi] at hx
  have e:(us++us2).drop (i*sz)=us2.drop ((i - l.length)*sz):=by
   have:us.length<=i*sz:=by rw[hl];exact mw sz hi
   rw[List.drop_append];rw[ef this,mN,hl,Nat.sub_mul]
  rw[e];exact h2 _ x hx F' le
theorem Jb.aA{us2:UV Do}(h:Jb sz c F l us)(hl:us.length=l.length*sz):Jb sz c F l (us++us2):=by
 have:=h.append (l2:=[]) (us2:=us2) Jb.nil hl;simpa using this
theorem Jb.all(h1:∀F x vs,c F x vs->vs.all Value.oneCell' =true)(h:Jb sz c F l us):(us.take<|l.length*sz).all Value.oneCell' =true:=by
 rw[s7];intro v hv;obtain⟨j,hj,e⟩:=mT hv;simp only[eT] at hj
 have hj1:j < l.length*sz:=by omega
 have hsz:0 < sz:=by
  rcases eG sz with hz | hz
  ·subst hz;simp at hj1
  ·exact hz
 have hi:j / sz < l.length:=(Nat.div_lt_iff_lt_mul hsz).2 hj1;have hx:l[j / sz]? =some (l[j / sz]'hi):=Nm _;have:=h1 _ _ _<|h _ _ hx F<|Fz.le_refl F;rw[s7] at this
 apply this;rw[ie] at e
 have hm:j%sz < sz:=oI _ hsz;have hd:j=j / sz*sz+j%sz:=by have:=Nat.div_add_mod j sz;rw[Nat.mul_comm] at this;omega
 rw[List.mem_iff_getElem];refine⟨j%sz,by simp;omega,?_⟩;rw[ie,List.getElem_drop,<-e];congr 1;omega
def Qj(sz:Nat)(c:Uk α)(F:Fz)(T:If)(p:H1 OF)(cap:Nat)(l:UV α):HP:=λm=>
 l.length<=cap/\cap<=9223372036854775807/\((p=none/\cap=0)∨∃b cs,p=some ⟨b,0,none⟩/\pt b (.cells (List.toArray cs) T (0,0)) m/\cs.length=cap*sz/\Jb sz c F l cs)
theorem PF{m:Mem}:Qj sz c F T none 0 ([]:UV α) m:=⟨IN _,by simp,.inl ⟨rfl,rfl⟩⟩
theorem WQ{m:Mem}(le:F<=F')(h:Qj sz c F T p cap l m):Qj sz c F' T p cap l m:=by
 obtain⟨h1,h2,h3⟩:=h;rcases h3 with h3 | ⟨b,cs,e,hb,hl,hp⟩
 ·exact⟨h1,h2,.inl h3⟩
 ·exact⟨h1,h2,.inr ⟨b,cs,e,hb,hl,hp.mono le⟩⟩
theorem SH.bU{F0:Fz}{H:HP}(le0:F0<=F)(h:SH w F (star (Qj sz c F0 T p cap l) H)):∃F',F<=F'/\SH w F' H/\QI sz c F' p cap l:=by
 obtain⟨m,⟨m1,m2,d,s1,s2,⟨h1,h2,h3⟩,hq⟩,k⟩:=h;rcases h3 with⟨rfl,rfl⟩ | ⟨b,cs,rfl,hb,hl,hp⟩
 ·refine⟨F,Fz.le_refl F,⟨m2,hq,k.sub s2⟩,h1,h2,.inl<|wt<|by omega⟩
 ·have hh:SH w F (star (pt b<|.cells cs.toArray T (0,0)) H):=⟨m,⟨m1,m2,d,s1,s2,hb,hq⟩,k⟩;obtain⟨le,hs⟩:=hh.freeze;refine⟨_,le,hs,h1,h2,.inr ⟨b,0,cs.toArray,T,(0,0),rfl,Fz.ba ..,λi x hx F' le' => ?_⟩⟩;have:=hp i x hx F'<|Fz.le_trans le0<|Fz.le_trans le le';simpa using this
section
variable{β:Type}{P:RK}{ops:Of x5}{rest:UV x5}{ks:UV Kt}{Q:nN->Act->PP->Prop}{m:H1 β}{r:β}
variable{n:Nat}{D:UV q8}{S:UV (Nat×Do)}{F F0:Fz}{hs:UV HP}
theorem GG.bj{g:Gp}(sz:Nat)(c:Uk α)(T:If)(k:GG g (Hd n D S F<|Qj sz c F T none 0 []::hs) m r):GG g (Hd n D S F hs) m r:=by
 exact λhm a w ha=>k hm a w ⟨ha.1,ha.2.mono λm hm' =>⟨λ_=>none,m,λ_=>.inl rfl,λ_ _ e=>by simp at e,Mem.sub.refl _,PF,hm'⟩⟩
theorem SH.c6(le:F0<=F)(hi:hs[i]? =some (Qj sz c F0 T p cap l))(h:SH w F (Qi hs)):SH w F (Qi<|hs.set i<|Qj sz c F T p cap l):=SH.push hi ((h.pull hi).mono λ_m hm=>QQ (λ_=>WQ le) hm)
theorem GG.c6{g:Gp}(i:Nat)(le:F0<=F)(hi:hs[i]? =some (Qj sz c F0 T p cap l))(k:GG g (Hd n D S F<|hs.set i<|Qj sz c F T p cap l) m r):GG g (Hd n D S F hs) m r:=by
 exact λhm a w ha=>k hm a w ⟨ha.1,ha.2.c6 le hi⟩
theorem GG.bU{g:Gp}(i:Nat)(hi:hs[i]? =some (Qj sz c F0 T p cap l))(le0:F0<=F)
  (k:∀F',F<=F'->QI sz c F' p cap l->GG g (Hd n D S F'<|hs.eraseIdx i) m r):GG g (Hd n D S F hs) m r:=by
 exact λhm a w ha=>by
   obtain⟨F',le,h1,h2⟩:=(ha.2.pull hi).bU le0;exact k F' le h2 hm a w ⟨ha.1,h1⟩
theorem QI.cZ{z:α}(hr:QI sz c F p cap l)(hi:ZK l x=some z):∃b o T fr cs,F.mem b=some (.cells (List.toArray cs) T fr)/\c F z ((cs.drop o).take sz)/\∃o0,p=some ⟨b,o0,none⟩/\o=o0+x.toNat*sz/\VJ l.length x=some x.toNat:=by
 obtain⟨h0,h1,h2⟩:=Hv hi;obtain⟨b,o,T,fr,cs,rfl,h3,h4⟩:=hr.at_ h2;exact⟨b,_,T,fr,cs,h3,h4,o,rfl,rfl,by unfold VJ;rw[TO<|by omega]⟩
theorem GG.cP{d:Nat}{ty t e:If}{pos:String}{after:Of lL}{ox oy:dO}{kd:nm}{len:Nat}(hd:Nat.blt d n=true)(ht:P.underlying t=some (.slice e))(hz:∀w,(sizeOf e).run P w= .ok sz w)
  (hq:∃o0,p=some ⟨b,o0,none⟩/\o=o0+x.toNat*sz/\VJ len x=some x.toNat) (hx:QO S ox=some (.slice p len cap)) (hy:QO S oy=some (.int kd x))
  (k:GL μ P ops rest ks Q (Hd n D ((d,.pointer<|some ⟨b,o,none⟩)::S) F hs) m r):GL μ P ops (⟨some d,.indexAddr t ox oy,ty,pos,after,none⟩::rest) ks Q (Hd n D S F hs) m r:=by
 obtain⟨o0,rfl,rfl,hj⟩:=hq;exact GG.cw hd ht hz hx hy hj k
end
end
section
variable{α:Type}{sz cap:Nat}{c:Uk α}{l:UV α}{P:RK}{p:H1 OF}{F:Fz}
variable{O:H1 Nat}{μ:Md}
theorem jM{k:Nat}(hc:∀F x vs,c F x vs->vs.length=sz)(hone:∀F x vs,c F x vs->vs.all Value.oneCell' =true)(h:QI sz c F p cap l):∃us:UV Do,us.length=l.length*sz/\Jb sz c F l us/\us.all Value.oneCell' =true/\∀w:PP,(∀b o,F.mem b=some o->w.heap[b]? =some o)->(Builtin.firstCells sz l.length<|.slice p k cap).run P w= .ok us.toArray w:=by
 obtain⟨_,_,h2⟩:=h;rcases h2 with h | ⟨b,o,cs,T,fr,rfl,h3,h4⟩
 ·subst h;refine⟨[],by simp,Jb.nil,rfl,λw _=> ?_⟩;cases p<;>simp[Builtin.firstCells,loadCells,loadCellsFrom]
 ·have hp:Jb sz c F l (cs.toList.drop o):=λi x hx F' le=>by rw[lk];exact h4 i x hx F' le
  have hl:=hp.len hc;refine⟨(cs.toList.drop o).take<|l.length*sz,by simp at hl ⊢;omega,hp.take,hp.all hone,λw hw=> ?_⟩;have hb' :w.heap[b]? =some (.cells cs.toList.toArray T fr):=by simpa using hw _ _ h3
  simp only[Builtin.firstCells];exact HO hb' rfl (by simp at hl ⊢;omega)
def J3(l k:UV α):H1 (UV α):=if l.length+k.length<=4294967296 then some (l++k) else none
theorem EH(need:Nat):∀(rounds c:Nat),c<=2*need+1000->Builtin.growBy need rounds c<=2*need+1000
 | 0,c,h=>by simpa only[Builtin.growBy] using h
 | rounds+1,c,h=>by
  simp only[Builtin.growBy];split
  ·exact h
  ·exact EH need rounds _<|by omega
theorem zO{need:Nat}(h:cap < need):Builtin.nextslicecap need cap<=4*need+4000:=by
 unfold Builtin.nextslicecap;split
 ·omega
 ·split
  ·omega
  ·have:=EH need 4 cap (by omega);omega
theorem Gw:∀(vs cs:UV Do) (o:Nat),o+vs.length<=cs.length->(Ku cs o vs).take (o+vs.length)=cs.take o++vs
 | [],cs,o,_=>by simp[Ku]
 | v::vs,cs,o,h=>by
  simp only[s6] at h
  have:=Gw vs (cs.set o v) (o+1) (by simp;omega);simp only[Ku,s6];rw[show o+(vs.length+1)=o+1+vs.length by omega,this]
  have e:(cs.set o v).take (o+1)=cs.take o++[v]:=by
   rw[List.take_succ_eq_append_getElem (by simp;omega)];rw[List.getElem_set_self,List.take_set,List.set_eq_of_length_le (by simp;omega)]
  rw[e];simp
def H7(need cap by_:Nat):Prop:=Builtin.nextslicecap need cap*by_<=281474976710656
theorem Cj{need by_:Nat}(h:cap < need)(h1:need<=4294967296)(h2:by_<=4096):H7 need cap by_:=by
 have:=zO h;unfold H7;exact me (Nat.mul_le_mul this h2)<|by omega
theorem qk{w:PP}{F0:Fz}{H:HP}{e t t2 e2 by_:Nat}{p2:H1 OF}{cap2:Nat}{l2:UV α}{z:Do}{T:Of If}{ty:If}{ti:TypeInfo}
   (le0:F0<=F) (hc:∀F x vs,c F x vs->vs.length=sz) (hone:∀F x vs,c F x vs->vs.all Value.oneCell' =true) (ht:P.underlying t=some (.slice e)) (ht2:P.underlying t2=some (.slice e2)) (hz:∀w,(sizeOf e).run P w= .ok sz w) (hti:∀w,(typeInfo e).run P w= .ok ti w) (hby:ti.bytes=by_) (hb0:by_≠0) (hb1:by_<=4096) (hzero:∀w,(zeroValue e).run P w= .ok z w) (hzl:z.cells.size=sz)
   (hT0:T[0]? =some t) (hT1:T[1]? =some t2) (h:SH w F (star (Qj sz c F0 e p cap l) H)) (hr:QI sz c F p2 cap2 l2) (hlen:l.length+l2.length<=4294967296):∃p' cap' w',(Builtin.append_ T ty #[.slice p l.length cap,.slice p2 l2.length cap2]).run P w= .ok (.slice p' (l++l2).length cap') w'/\SH w' F (star (Qj sz c F e p' cap'<|l++l2) H):=by
 have hfr:∀b o,F.mem b=some o->w.heap[b]? =some o:=λb o e=>h.frozen e;obtain⟨us2,hus2,hp2,hall,hsrc0⟩:=jM (P:=P) (k:=l2.length) hc hone hr;have hsrc:=hsrc0 w hfr;obtain⟨m,⟨m1,m2,d,s1,s2,⟨h1,h2,h3⟩,hq⟩,k⟩:=h;by_cases hneed:l.length+l2.length<=cap
 ·
   rcases h3 with⟨rfl,rfl⟩ | ⟨b,cs,rfl,hb,hl,hp⟩
   ·have e1:l=[]:=wt (by omega);have e2:l2=[]:=wt (by omega);subst e1 e2;refine⟨none,0,w,?_,⟨m,⟨m1,m2,d,s1,s2,⟨by simp,by simp,.inl ⟨rfl,rfl⟩⟩,hq⟩,k⟩⟩;simp only[Builtin.append_];simp[hT0,hT1,J5 ht,J5 ht2,hz,Builtin.lenOf];simp only[nG] at hsrc hus2
    have:us2=[]:=wt (by simpa using hus2);simp[hsrc,this]
   ·have hh:SH w F (star (pt b<|.cells cs.toArray e (0,0)) H):=⟨m,⟨m1,m2,d,s1,s2,hb,hq⟩,k⟩;have hbl:=hh.owned
    have hroom:l.length*sz+us2.length<=cs.length:=by
     rw[hus2,hl,<-mP];exact mw sz hneed
    have hst:=XE (P:=P) (o:=l.length*sz) (i:=0) hbl (by simpa using hroom) hall;simp only[oQ] at hst
    refine⟨some ⟨b,0,none⟩,cap,put w b<|.cells (Ku cs (l.length*sz) us2).toArray e (0,0),?_,?_⟩
    ·simp only[Builtin.append_];simp[hT0,hT1,J5 ht,J5 ht2,hz,Builtin.lenOf,hsrc,hneed,Xy,hst]
    ·have hp' :=hh.put (o' :=.cells (Ku cs (l.length*sz) us2).toArray e (0,0));refine hp'.mono λm hm=>QQ (λm' hm' =>⟨by simp;exact hneed,h2,.inr ⟨b,_,rfl,hm',by rw[HX];exact hl,?_⟩⟩) hm;have:=Gw us2 cs (l.length*sz) hroom;rw[hus2,<-mP] at this
     apply Jb.tQ;rw[nH,this];exact(hp.mono le0).take.append hp2 (by simp;omega)
 ·
   have hn:H7 (l.length+l2.length) cap by_:=Cj (Nat.lt_of_not_le hneed) hlen hb1
   have hold:∃us:UV Do,us.length=l.length*sz/\Jb sz c F l us/\∀w' :PP,w'.heap=w.heap->(Builtin.firstCells sz l.length<|.slice p l.length cap).run P w' = .ok us.toArray w' :=by
    rcases h3 with⟨rfl,rfl⟩ | ⟨b,cs,rfl,hb,hl,hp⟩
    ·have e1:l=[]:=wt (by omega);subst e1;exact⟨[],by simp,Jb.nil,λw' _=>by simp[Builtin.firstCells]⟩
    ·have hpl:=hp.len hc;refine⟨cs.take<|l.length*sz,by simp;omega,(hp.mono le0).take,λw' hw' => ?_⟩;simp only[Builtin.firstCells];exact HO (cs:=cs) (T:=e) (fr:=(0,0)) (by rw[hw'];exact k.tu<|s1 _ _ hb) (by simp) (by simp;omega)
   obtain⟨us,hus,hp1,hold⟩:=hold;have hsrc' :∀w' :PP,w'.heap=w.heap->(Builtin.firstCells sz l2.length<|.slice p2 l2.length cap2).run P w' = .ok us2.toArray w' :=λw' hw' =>hsrc0 w' λb o e=>by rw[hw'];exact hfr b o e
   have hHq:SH w F H:=⟨m2,hq,k.sub s2⟩;generalize hq' :Question.appendCap (l.length+l2.length) cap e=q
   have hcap:l.length+l2.length<=q.cut (w.tape w.drawn q)/\q.cut (w.tape w.drawn q)<=9223372036854775807:=by
    rw[<-hq'];have:=oI (w.tape w.drawn<|Question.appendCap (l.length+l2.length) cap e) (show 0 < 2^63 - (l.length+l2.length) by omega);simp only[Question.cut];omega
   have hforced:q.forced=false:=by rw[<-hq'];rfl
   generalize hC:q.cut (w.tape w.drawn q)=C at hcap
   have hdrew:SH {w with drawn:=w.drawn+1} F H:=hHq.drew _;have halloc:=hdrew.alloc<|.cells ((us.toArray++us2.toArray++Builtin.zeroCells z.cells (C - (l.length+l2.length)))) e;refine⟨some ⟨w.heap.size,0,none⟩,C,_,?_,halloc.mono λm hm=>QQ (λm' hm' =>⟨by simp;exact hcap.1,hcap.2,.inr ⟨w.heap.size,(us.toArray++us2.toArray++Builtin.zeroCells z.cells (C - (l.length+l2.length))).toList,rfl,?_,?_,?_⟩⟩) hm⟩
   ·simp only[Builtin.append_];have hnb:=hn;unfold H7 at hnb
    have hnot:¬(2:Nat)^48 < Builtin.nextslicecap (l.length+l2.length) cap*by_:=by omega
    have g1:=hold w.drew rfl;have g2:=hsrc' w.drew rfl;simp[hT0,hT1,J5 ht,J5 ht2,hz,Builtin.lenOf,hneed,hti,hby,hb0,hnot,hq',hforced,hC,g1,g2,hzero,newRow];simp only[<-iS,iY]
   ·have hm2:pt w.heap.size _ m' :=hm';unfold pt at hm2 ⊢;rw[hm2]
   ·have e3:(Builtin.zeroCells z.cells<|C - (l.length+l2.length)).size=(C - (l.length+l2.length))*sz:=by simp[Builtin.zeroCells,hzl]
    simp only[lZ,oU,ic,hus,hus2,e3];rw[<-mP,<-mP];congr 1;omega
   ·have:=(hp1.append hp2 hus).aA (us2:=(Builtin.zeroCells z.cells<|C - (l.length+l2.length)).toList) (by simp[hus,hus2,mP]);simpa using this
section
variable{β:Type}{P:RK}{ops:Of x5}{rest:UV x5}{ks:UV Kt}{Q:nN->Act->PP->Prop}{m:H1 β}{r:β}
variable{n:Nat}{D:UV q8}{S:UV (Nat×Do)}{F:Fz}{hs:UV HP}
variable{d:Nat}{ty t t' t2 e e2:If}{pos:String}{after:Of lL}{ox oy oz:dO}{v u:Do}{kd:nm}{x y:Int}
structure Ud{α:Type}(P:Program)(e sz:Nat)(c:Uk α):Prop where
 len:∀F x vs,c F x vs->vs.length=sz
 one:∀F x vs,c F x vs->vs.all Value.oneCell' =true
 mono:∀F F' x vs,F<=F'->c F x vs->c F' x vs
 size:∀w,(sizeOf e).run P w= .ok sz w
 info:∃ti:TypeInfo,(∀w,(typeInfo e).run P w= .ok ti w)/\ti.bytes≠0/\ti.bytes<=4096
 zero:∃z,(∀w,(zeroValue e).run P w= .ok z w)/\z.cells.size=sz
theorem Ud.ex{e:Nat}{c:α->UV Do}(len:∀x,(c x).length=sz)(one:∀x,(c x).all Value.oneCell' =true)(size:∀w,(sizeOf e).run P w= .ok sz w)
  (info:∃ti:TypeInfo,(∀w,(typeInfo e).run P w= .ok ti w)/\ti.bytes≠0/\ti.bytes<=4096) (zero:∃z,(∀w,(zeroValue e).run P w= .ok z w)/\z.cells.size=sz):Ud P e sz (Ex c):=
 ⟨λ_ x _ h=>h▸len x,λ_ x _ h=>h▸one x,λ_ _ _ _ _ h=>h,size,info,zero⟩
theorem GG.append{F0:Fz}{p2:H1 OF}{cap2:Nat}{l2:UV α}{f:UV α->H1 β}{T:Of If}(i:Nat)(E:Ud P e sz c)(le0:F0<=F)(hd:Nat.blt d n=true)(ht:P.underlying t=some (.slice e))(ht2:P.underlying t2=some (.slice e2))(hT0:T[0]? =some t)(hT1:T[1]? =some t2)
  (hi:hs[i]? =some (Qj sz c F0 e p cap l)) (hr:QI sz c F p2 cap2 l2) (hx:QO S ox=some (.slice p l.length cap)) (hy:QO S oy=some (.slice p2 l2.length cap2))
  (k:∀l' p' cap',J3 l l2=some l'->GL O P ops rest ks Q (Hd n D ((d,.slice p' l'.length cap')::S) F<|hs.set i<|Qj sz c F e p' cap' l') (f l') r):GL O P ops (⟨some d,.call ⟨.builtin .append,#[ox,oy],T⟩,ty,pos,after,none⟩::rest) ks Q (Hd n D S F hs) ((J3 l l2).bind f) r:=
 GG.bind λl' hl=>by
  have hl' :=hl;unfold J3 at hl
  split at hl
  ·rename_i hlen;simp only[BY] at hl
   subst hl;obtain⟨ti,hti,hb0,hb1⟩:=E.info;obtain⟨z,hzero,hzl⟩:=E.zero;refine GG.step rfl (.inr rfl) λhm a w ha=> ?_;obtain⟨p',cap',w',hrun,hS⟩:=qk (P:=P) (T:=T) (ty:=ty) le0 E.len E.one ht ht2 E.size hti rfl hb0 hb1 hzero hzl hT0 hT1 (ha.2.pull hi) hr hlen;refine⟨_,w',?_,k _ p' cap' hl' hm _ _ ⟨ha.1.put hd _,SH.push hi hS⟩⟩;simp[execOp,resolve,invoke,builtin,ha.1.eval hx,ha.1.eval hy,hrun]
  ·cases hl
theorem GG.bO{len:Nat}{z:Do}{cs zc:UV Do}{parts:UV (Nat×dO)}{ps:UV (Nat×Do)}(hd:Nat.blt d n=true)(ht:P.underlying t=some (.slice e))(hz:∀w,(sizeOf e).run P w= .ok sz w)(hzero:∀w,(zeroValue e).run P w= .ok z w)(h0:Nat.blt 0 (len*sz)=true)(hbig:Nat.ble (len*sz) 16777216=true)
  (hx:RJ S parts=some ps) (hzc:(Array.range<|len*sz).map (λi=>z.cells[i%z.cells.size]!)=zc.toArray) (hfill:Instr.fill (λi=>some (i*sz,sz)) zc.toArray ps=some cs.toArray)
  (k:∀b F',F<=F'->F'.mem b=some (.cells cs.toArray e)->GL O P ops rest ks Q (Hd n D ((d,.slice (some ⟨b,0,none⟩) len len)::S) F' hs) m r):GL O P ops (⟨some d,.buildSlice t len parts.toArray,ty,pos,after,none⟩::rest) ks Q (Hd n D S F hs) m r:=
 GG.step rfl (.inr rfl) λhm a w ha=>by
  obtain⟨h1,h2⟩:=ha.2.s3<|.cells cs.toArray e;refine⟨.slice (some ⟨w.heap.size,0,none⟩) len len,w.alloc<|.cells cs.toArray e,?_,k w.heap.size _ h1 (Fz.ba ..) hm _ _ ⟨ha.1.put hd _,h2⟩⟩;have hm' :=Sr ha.1 hx;have hb1:0 < len*sz:=j3 h0;have hb2:=j3 hbig;have hne:¬len*sz=0:=by omega
  have hgt:¬len*sz > 16777216:=by omega
  simp only[execOp,Instr.buildSlice,r7,J5 ht,hz,Result.andThen,List.map_toArray,hm'];simp only[Nat.reducePow,hgt,hne,T2,mc,Result.andThen,r7,hzero,hzc,hfill,newRow,run_newObj,World.alloc_eq]
theorem QI.ofRow{b T len:Nat}{cs:UV Do}{fr:Nat×Nat}(hb:F.mem b=some (.cells cs.toArray T fr))(hf:Jb sz c F l cs)(hl:l.length=len)(hlen:Nat.ble len 1000000=true):QI sz c F (some ⟨b,0,none⟩) len l:=by
 have:=j3 hlen;refine⟨by omega,by omega,.inr ⟨b,0,cs.toArray,T,fr,rfl,hb,λi x hx F' le=> ?_⟩⟩;simpa using hf i x hx F' le
theorem Jb.cons{α:Type}{sz:Nat}{c:Uk α}{F:Fz}{x:α}{l:UV α}{us:UV Do}(hm:∀F F' x vs,F<=F'->c F x vs->c F' x vs)(h:c F x (us.take sz))(h' :Jb sz c F l (us.drop sz)):Jb sz c F (x::l) us:=λi y hy F' le=>by
 cases i with
 | zero=>simp at hy;subst hy;simpa using hm _ _ _ _ le h
 | succ i=>
  have:=h' i y (by simpa using hy) F' le;rw[lk] at this
  rwa[show(i+1)*sz=sz+i*sz by rw[mP];omega]
end
end
section
variable{γ α σ:Type}{Dn:γ->nN->Act->PP->Prop}{I:σ->Act->PP->Prop}{ctl:UK σ γ}{d:Nat}
variable{O:H1 Nat}{μ:Md}
abbrev Q5(n:Int):Int:=IntKind.i64.wrap n
abbrev Jj(x y:Int):Int:=if y < x then y else x
abbrev imax(x y:Int):Int:=if x < y then y else x
def Z6(k:nm)(x:Int):UV Do:=[.int k x]
def Fm(n:Nat)(f:Nat->α):UV α:=(List.range n).map f
def LH(n:Nat)(c:α->UV Do)(f:Nat->α):UV Do:=(Fm n f).flatMap c
def ZM(f:Nat->α)(i:Nat)(x:α):Nat->α:=λj=>match Nat.beq j i with | true=>x | false=>f j
def xP(l:UV α)(z:α):Nat->α:=λi=>l.getD i z
theorem qL(n:Nat)(f:Nat->α):(Fm n f).length=n:=by simp[Fm]
theorem qM{n:Nat}{f:Nat->α}{q:Nat->α->Prop}(h:∀j,j < n->q j (f j)):∀i x,(Fm n f)[i]? =some x->q i x:=by
 intro i x e;simp only[Fm,nV] at e
 by_cases hi:i < n
 ·simp[hi] at e;subst e;exact h i hi
 ·simp[hi] at e
theorem gC{p:Nat->Prop}(h0:p 0)(h1:p 1)(h2:p 2)(h3:p 3)(h4:p 4)(h5:p 5)(h6:p 6):∀j,j < 7->p j:=by
 intro j hj;match j,hj with | 0,_=>exact h0 | 1,_=>exact h1 | 2,_=>exact h2 | 3,_=>exact h3 | 4,_=>exact h4 | 5,_=>exact h5 | 6,_=>exact h6
theorem gB{p:Nat->Prop}(h0:p 0)(h1:p 1)(h2:p 2)(h3:p 3)(h4:p 4)(h5:p 5)(h6:p 6)(h7:p 7):∀j,j < 8->p j:=by
 intro j hj;match j,hj with | 0,_=>exact h0 | 1,_=>exact h1 | 2,_=>exact h2 | 3,_=>exact h3 | 4,_=>exact h4 | 5,_=>exact h5 | 6,_=>exact h6 | 7,_=>exact h7
def V8(P:RK)(F:Fz)(f:x4)(caps:UV Do)(arg:α->Fz->UV Do->Prop)(res:γ->Fz->Do->Prop)(m:α->H1 γ):Prop:=(∀args w,(callFunc f args).run P w= .ok (.enter f args) w)/\∀F',F<=F'->∀x vs,arg x F' vs->KH P f (vs++caps).toArray F' (m x) res
theorem V8.mono{P:RK}{F F' :Fz}{f:x4}{caps:UV Do}{arg:α->Fz->UV Do->Prop}{res:γ->Fz->Do->Prop}{m:α->H1 γ}(h:V8 P F f caps arg res m)(le:F<=F'):V8 P F' f caps arg res m:=⟨h.1,λG le' x vs hv=>h.2 G (Fz.le_trans le le') x vs hv⟩
def gg(sz:Nat)(c:Uk α):Uk (UV α):=λF x vs=>∃p k,vs=[.slice p x.length k]/\QI sz c F p k x
section
variable{β:Type}{P:RK}{ops:Of x5}{rest:UV x5}{ks:UV Kt}{Q:nN->Act->PP->Prop}{A:Act->PP->Prop}{m:H1 β}{r:β}
variable{n:Nat}{D:UV q8}{S S0:UV (Nat×Do)}{F F' :Fz}{hs:UV HP}
theorem GG.ex{g:Gp}(h:∀a w,A a w->∃A' :Act->PP->Prop,A' a w/\GG g A' m r):GG g A m r:=by
 exact λhm a w ha=>let⟨_,h1,h2⟩:=h a w ha;h2 hm a w h1
theorem GG.app(h:GE O P ks Q A m r)(hm:m=some r)(a:Act)(w:PP)(ha:A a w):Zu O P ks Q .normal a w:=h hm a w ha
theorem GG.ite{g:Gp}{b:Bool}{m1 m2:H1 β}(h1:b=true->GG g A m1 r)(h2:b=false->GG g A m2 r):GG g A (if b then m1 else m2) r:=by
 cases hb:b with
 | true=>rw[TO rfl];exact h1 hb
 | false=>rw[RW<|by simp];exact h2 hb
theorem Qz.norm{σ γ:Type}{I:σ->Act->PP->Prop}{Dn:γ->nN->Act->PP->Prop}{s:σ}{ctl:UK σ γ}(h:∀a w,A a w->I s a w):some (UK.next s)=some ctl->∀a w,A a w->Qz I Dn ctl .normal a w:=λe a w ha=>by
 simp only[BY] at e;subst e;exact⟨rfl,h a w ha⟩
theorem Qz.exit{b:γ}{id:Nat}(h:∀a w,A a w->Dn b (.exit id) a w):some (UK.done b)=some ctl->∀a w,A a w->Qz I Dn ctl (.exit id) a w:=λe a w ha=>by
 simp only[BY] at e;subst e;exact⟨by simp,h a w ha⟩
theorem Qz.ret{b:γ}(h:∀a w,A a w->Dn b .ret a w):some (UK.done b)=some ctl->∀a w,A a w->Qz I Dn ctl .ret a w:=λe a w ha=>by
 simp only[BY] at e;subst e;exact⟨by simp,h a w ha⟩
theorem GG.bz{S' :UV (Nat×Do)}{x z:Bool}(j:Nat)(hv:K4 S' d=some (.bool x))(hd:S'.drop j=S)(hf:fresh S (S'.take j)=true)(le:F<=F'):GL μ P ops [] [] (Vl n D d (.bool z) S F hs) (Hd n D S' F' hs) (some x) z:=λe a w ha=>by
 simp only[BY] at e;subst e
 exact Ef ⟨rfl,F',le,ha.1.sub<|Sub.cons hv<|P4 j hd hf,ha.2⟩
theorem GG.nilCheck{ty:If}{pos:String}{after:Of lL}{ox:dO}{p:OF}(hd:Nat.blt d n=true)(hx:QO S ox=some (.pointer<|some p))(k:GL μ P ops rest ks Q (Hd n D ((d,.pointer<|some p)::S) F hs) m r):GL μ P ops (⟨some d,.nilCheck ox,ty,pos,after,none⟩::rest) ks Q (Hd n D S F hs) m r:=GG.val hd (λa w ha=>by simp[execOp,ha.1.eval hx]) k
theorem xb{x y z:Int}(hz:PC x y=some z):y≠0/\z=x.tmod y:=by
 have h0:y≠0:=λe=>by simp[PC,e] at hz
 exact⟨h0,by simpa[PC,h0] using hz.symm⟩
theorem GG.rj{ty t t' :If}{pos:String}{after:Of lL}{ox oy:dO}{kd:nm}{x y z:Int}(hz:PC x y=some z)(hd:Nat.blt d n=true)(hx:QO S ox=some (.int kd x))(hy:QO S oy=some (.int kd y))(k:GL μ P ops rest ks Q (Hd n D ((d,.int kd z)::S) F hs) m r):GL μ P ops (⟨some d,.binOp .rem t ox oy t',ty,pos,after,none⟩::rest) ks Q (Hd n D S F hs) m r:=by
 have⟨h0,this⟩:=xb hz;rw[this] at k
 exact GG.a8 hd h0 hx hy k
end
end
section
variable{O:H1 Nat}{μ:Md}
theorem Qa{cs vs:UV Do}(h:cs.length=vs.length):Ku cs 0 vs=vs:=by
 have h1:=Gw vs cs 0 (by omega);simp only[nl,List.take_zero,mN] at h1
 rwa[s5 (by rw[HX];omega)] at h1
end
section
variable{p:H1 OF}{α:Type}{l:UV α}{cap sz:Nat}{c:Uk α}{T:If}{z:α}
variable{O:H1 Nat}{μ:Md}
theorem GG.tR{β:Type}{g:Gp}{A:Act->PP->Prop}{r:β}:GG g A none r:=by
 exact λh=>by cases h
theorem y8{w:PP}{F F0:Fz}{H:HP}{k:Nat}(h:SH w F (star (Qj sz c F0 T p cap l) H))(hl:l[k]? =some z):∃b cs,p=some ⟨b,0,none⟩/\cs.length=cap*sz/\l.length<=cap/\Jb sz c F0 l cs/\SH w F (star (pt b<|.cells (List.toArray cs) T (0,0)) H)/\cap<=9223372036854775807:=by
 obtain⟨m,⟨m1,m2,d,s1,s2,⟨h1,h2,h3⟩,hq⟩,k'⟩:=h;have:=Zt hl;rcases h3 with⟨rfl,h0⟩ | ⟨b,cs,rfl,hb,hlen,hp⟩
 ·omega
 ·exact⟨b,cs,rfl,hlen,h1,hp,⟨m,⟨m1,m2,d,s1,s2,hb,hq⟩,k'⟩,h2⟩
section
variable{β:Type}{P:RK}{ops:Of x5}{rest:UV x5}{ks:UV Kt}{Q:nN->Act->PP->Prop}{m:H1 β}{r:β}
variable{n:Nat}{D:UV q8}{S:UV (Nat×Do)}{F F0:Fz}{hs:UV HP}
variable{d:Nat}{ty t t' e:If}{pos:String}{after:Of lL}{ox oy oz:dO}{v u:Do}{kd:nm}{x y:Int}
theorem GG.cn{g:Gp}(i:Nat)(hi:hs[i]? =some (Qj sz c F0 T p cap l))(hl:ZK l x=some z)
  (k:∀b,p=some ⟨b,0,none⟩->GG g (Hd n D S F hs) m r):GG g (Hd n D S F hs) m r:=by
 exact λhm a w ha=>by
  obtain⟨b,_,hp,_⟩:=y8 (ha.2.pull hi) (Hv hl).2.2;exact k b hp hm a w ha
theorem GG.sI{b:Nat}(hd:Nat.blt d n=true)(ht:P.underlying t=some (.slice e))(hz:∀w,(sizeOf e).run P w= .ok sz w)
  (hp:p=some ⟨b,0,none⟩) (hl:ZK l x=some z) (hx:QO S ox=some (.slice p l.length cap)) (hy:QO S oy=some (.int kd x))
  (k:GL μ P ops rest ks Q (Hd n D ((d,.pointer<|some ⟨b,0+x.toNat*sz,none⟩)::S) F hs) m r):GL μ P ops (⟨some d,.indexAddr t ox oy,ty,pos,after,none⟩::rest) ks Q (Hd n D S F hs) m r:=by
 subst hp;obtain⟨h0,h1,_⟩:=Hv hl;exact GG.cw hd ht hz hx hy (by unfold VJ;rw[TO<|by omega]) k
theorem GG.cp{b off o:Nat}{Φ:Do->Prop}(i:Nat)(hi:hs[i]? =some (Qj sz c F0 T p cap l))(le0:F0<=F)(hd:Nat.blt d n=true)(hA:∀w,(isAgg t).run P w= .ok false w)
  (hp:p=some ⟨b,0,none⟩) (hl:ZK l x=some z) (hx:QO S ox=some (.pointer<|some ⟨b,o,none⟩)) (ho:o=0+x.toNat*sz+off)
  (hg:∀vs,c F z vs->∃v,vs[off]? =some v/\Φ v) (k:∀v,Φ v->GL μ P ops rest ks Q (Hd n D ((d,v)::S) F hs) m r):GL μ P ops (⟨some d,.load t ox,ty,pos,after,none⟩::rest) ks Q (Hd n D S F hs) m r:=by
 refine GG.cr rfl rfl λhm a w ha=> ?_;obtain⟨b',cs,hp',hlen,hcap,hparts,hsh,_⟩:=y8 (ha.2.pull hi) (Hv hl).2.2;rw[hp] at hp';cases hp'
 obtain⟨v,hv,hΦ⟩:=hg _<|hparts _ _ (Hv hl).2.2 F le0;refine⟨v,?_,k v hΦ hm _ _ ⟨ha.1.put hd _,ha.2⟩⟩;have hc:cs[o]? =some v:=by subst ho;rw[nl];exact QG rfl hv
 simp[execOp,ha.1.eval hx,Dk hA (by rw[cell_of_heap hsh.owned];exact hc)]
end
end
section
variable{α K V:Type}{c:Uk α}{l:UV (K×V)}{sz cap b j:Nat}{p:H1 OF}{P:RK}{es:UV nS}{T:Of If}{w:PP}{kd:nm}{kt t vt:If}{F F0:Fz}{x:Int}
variable{O:H1 Nat}{μ:Md}
def Qx[BEq K]:UV (K×V)->K->V->UV (K×V)
 | [],k,v=>[(k,v)]
 | x::l,k,v=>if k==x.1 then(k,v)::l else x::Qx l k v
def Qc[BEq K]:UV (K×V)->K->H1 V
 | [],_=>none
 | x::l,k=>if k==x.1 then some x.2 else Qc l k
def Uj(ck:K->Do)(rv:Fz->V->Do->Prop)(F:Fz):UV nS->UV (K×V)->Prop
 | [],[]=>True
 | e::es,x::l=>e.key=ck x.1/\(∀F',F<=F'->rv F' x.2 e.val)/\Uj ck rv F es l
 | _,_=>False
structure X0(P:Program)(t:TypeId){K:Type}[BEq K](ck:K->Value):Prop where
 und:∃kd,P.underlying t=some kd/\∀a b:K,Instr.sameNow kd (ck a) (ck b)=some (a==b)
 check:∀e k w,(Instr.checkKey e 10000 t<|ck k).run P w= .ok () w
 same:∀a:K,Instr.sameBits 10000 (ck a) (ck a)=true
 eq:∀a b:K,(a==b)=true->a=b
section
variable{K V:Type}[BEq K]{ck:K->Do}{rv:Fz->V->Do->Prop}{F F' :Fz}
omit [BEq K] in
theorem Uj.up:∀{es:UV nS} {l:UV (K×V)},F<=F'->Uj ck rv F es l->Uj ck rv F' es l
 | [],[],_,_=>trivial
 | _::_,_::_,le,⟨h1,h2,h3⟩=>⟨h1,λG le' =>h2 G<|Fz.le_trans le le',h3.up le⟩
omit [BEq K] in
theorem Uj.len:∀{es:UV nS} {l:UV (K×V)},Uj ck rv F es l->es.length=l.length
 | [],[],_=>rfl
 | _::_,_::_,⟨_,_,h3⟩=>by simp[h3.len]
theorem Uj.find{kd:oA}{k:K}(hk:∀a b,Instr.sameNow kd (ck a) (ck b)=some (a==b))(heq:∀a b:K,(a==b)=true->a=b):∀{es:UV nS} {l:UV (K×V)} (i0:Nat),Uj ck rv F es l->
   (Qc l k=none/\Instr.findNow kd (ck k) es i0=some none/\∀v e',e'.key=ck k->(∀F',F<=F'->rv F' v e'.val)->Uj ck rv F (es++[e']) (Qx l k v))∨
   (∃j e x,es[j]? =some e/\e.key=ck k/\Qc l k=some x/\Instr.findNow kd (ck k) es i0=some (some (i0+j,e.val))/\(∀F',F<=F'->rv F' x e.val)/\
    ∀v f,(f e).key=ck k->(∀F',F<=F'->rv F' v (f e).val)->Uj ck rv F (es.modify j f) (Qx l k v))
 | [],[],i0,_=>.inl ⟨rfl,rfl,λv e' h1 h2=>⟨h1,h2,trivial⟩⟩
 | e::es,x::l,i0,⟨h1,h2,h3⟩=>by
  by_cases hb:(k==x.1)=true
  ·right;refine⟨0,e,x.2,rfl,?_,by simp[Qc,hb],?_,h2,?_⟩
   ·rw[h1,heq _ _ hb]
   ·simp[Instr.findNow,h1,hk,hb]
   ·intro v f g1 g2;simp only[Qx,hb,Rw,List.modify_zero_cons];exact⟨g1,g2,h3⟩
  ·have hb' :(k==x.1)=false:=by simpa using hb
   rcases Uj.find (k:=k) hk heq (i0+1) h3 with⟨g1,g2,g3⟩ | ⟨j,e1,x1,g1,g2,g3,g4,g5,g6⟩
   ·left;refine⟨by simp[Qc,hb',g1],by simp[Instr.findNow,h1,hk,hb',g2],λv e' q1 q2=> ?_⟩;simp only[Qx,hb',By,T2,mQ];exact⟨h1,h2,g3 v e' q1 q2⟩
   ·right;refine⟨j+1,e1,x1,by simpa using g1,g2,by simp[Qc,hb',g3],?_,g5,λv f q1 q2=> ?_⟩
    ·simp[Instr.findNow,h1,hk,hb',g4];omega
    ·simp only[Qx,hb',By,T2,List.modify_succ_cons];exact⟨h1,h2,g6 v f q1 q2⟩
def YN(es:UV nS)(clock:Nat):Prop:=(es.map (·.born)).Pairwise (·< ·)/\∀e∈es,e.born < clock
theorem YN.nil{c:Nat}:YN [] c:=⟨List.Pairwise.nil,λ_ h=>by cases h⟩
theorem YN.push{c:Nat}{k v:Do}(h:YN es c):YN (es++[{key:=k,val:=v,born:=c}]) (c+1):=by
 refine⟨?_,λe he=> ?_⟩
 ·rw[List.map_append,oC];refine⟨h.1,by simp,λa ha b hb=> ?_⟩;simp only[s4,eY,nx] at hb
  obtain⟨e,he,rfl⟩:=ny.1 ha;subst hb;exact h.2 e he
 ·rcases mH.1 he with he | he
  ·have:=h.2 e he;omega
  ·simp only[nx] at he;subst he;exact Nat.lt_succ_self _
theorem YN.modify{c:Nat}{f:nS->nS}(h:YN es c)(hf:∀e,(f e).born=e.born):YN (es.modify j f) c:=by
 have hm:∀(es:UV nS) (j:Nat),(es.modify j f).map (·.born)=es.map (·.born):=λes=>by
  induction es with
  | nil=>intro j;simp
  | cons e es ih=>
   intro j;cases j with
   | zero=>simp[hf]
   | succ j=>simp[ih]
 refine⟨by rw[hm];exact h.1,λe he=> ?_⟩;have h1:e.born∈(es.modify j f).map (·.born):=nB he;rw[hm] at h1
 obtain⟨e',he',e1⟩:=ny.1 h1;rw[<-e1];exact h.2 e' he'
theorem YN.erase{c:Nat}(h:YN es c):YN (es.eraseIdx j) c:=⟨h.1.sublist<|(List.eraseIdx_sublist es j).map _,λe he=>h.2 e<|List.mem_of_mem_eraseIdx he⟩
def GY(ck:K->Do)(rv:Fz->V->Do->Prop)(F:Fz)(b:Nat)(l:UV (K×V)):HP:=λm=>∃es clock,pt b (.map es clock) m/\Uj ck rv F es.toList l/\YN es.toList clock
omit [BEq K] in
theorem jX{l:UV (K×V)}{m:Mem}(le:F<=F')(h:GY ck rv F b l m):GY ck rv F' b l m:=by
 obtain⟨es,c,h1,h2,h3⟩:=h;exact⟨es,c,h1,h2.up le,h3⟩
omit [BEq K] in
theorem E6{H:HP}{l:UV (K×V)}(h:SH w F (star (GY ck rv F0 b l) H)):∃es clock,w.heap[b]? =some (.map es clock)/\Uj ck rv F0 es.toList l/\SH w F (star (pt b<|.map es clock) H)/\YN es.toList clock:=by
 obtain⟨m,⟨m1,m2,d,s1,s2,⟨es,c,h1,h2,h3⟩,hq⟩,k⟩:=h;have hs:SH w F (star (pt b<|.map es c) H):=⟨m,⟨m1,m2,d,s1,s2,h1,hq⟩,k⟩;exact⟨es,c,hs.owned,h2,hs,h3⟩
end
theorem YO{r:Nat}{es:Of nS}{clock:Nat}(hb:w.heap[r]? =some (.map es clock)):(getObj r).run P w= .ok (.map es clock) w:=by
 simp[getObj,Sem.run,hb]
theorem FP{r:Nat}{es:Of nS}{clock:Nat}{o' :Obj}(hb:w.heap[r]? =some (.map es clock)):(setObj r o').run P w= .ok () (put w r o'):=by
 simp[setObj,Sem.run,put,hb]
theorem run_findKey{k:Do}{kd:oA}{q:H1 (Nat×Do)}(hu:P.underlying kt=some kd)(h:Instr.findNow kd k es 0=some q):(Instr.findKey kt k es).run P w= .ok q w:=by
 simp[Instr.findKey,J5 hu,h]
section
variable{β:Type}{P:RK}{ops:Of x5}{rest:UV x5}{ks:UV Kt}{Q:nN->Act->PP->Prop}{m:H1 β}{r:β}
variable{n:Nat}{D:UV q8}{S:UV (Nat×Do)}{F F0:Fz}{hs:UV HP}
variable{d:Nat}{ty t t' e:If}{pos:String}{after:Of lL}{ox oy oz:dO}{v u:Do}{kd:nm}{x y:Int}
variable{K V:Type}{ck:K->Do}{rv:Fz->V->Do->Prop}
theorem GG.makeMap(ck:K->Do)(rv:Fz->V->Do->Prop)(hd:Nat.blt d n=true)(k:∀b,GL O P ops rest ks Q (Hd n D ((d,.map<|some b)::S) F<|GY ck rv F b []::hs) m r):GL O P ops (⟨some d,.makeMap t none,ty,pos,after,none⟩::rest) ks Q (Hd n D S F hs) m r:=by
 refine GG.step rfl (.inr rfl) λhm a w ha=> ?_;have h1:=ha.2.alloc<|.map #[] 0;refine⟨_,w.alloc<|.map #[] 0,?_,k w.heap.size hm _ _ ⟨ha.1.put hd _,h1.mono λm hm=>QQ (λm' hm' =>⟨#[],0,hm',trivial,YN.nil⟩) hm⟩⟩;simp[execOp,Instr.makeMap]
theorem GG.ph{l:UV (K×V)}(i:Nat)(hi:hs[i]? =some (GY ck rv F0 b l))(hd:Nat.blt d n=true)(hT:T[0]? =some t)(ht:P.underlying t=some (.map kt vt))(hx:QO S ox=some (.map<|some b))
  (k:GL μ P ops rest ks Q (Hd n D ((d,.int .i64 l.length)::S) F hs) m r):GL μ P ops (⟨some d,.call ⟨.builtin .len,#[ox],T⟩,ty,pos,after,none⟩::rest) ks Q (Hd n D S F hs) m r:=
 GG.val hd (λa w ha=>by
  obtain⟨es,c,hb,hr,_⟩:=E6<|ha.2.pull hi;have:es.size=l.length:=by rw[<-hr.len];simp
  simp[execOp,resolve,invoke,builtin,Builtin.len_,ha.1.eval hx,hT,J5 ht,goInt,YO hb,this]) k
variable[BEq K]
theorem GG.mapUpdate{l:UV (K×V)}{key:K}{val:V}{vv:Do}(i:Nat)(hi:hs[i]? =some (GY ck rv F0 b l))(le0:F0<=F)(ht:P.underlying t=some (.map kt vt))(ok:X0 P kt ck)(hx:QO S ox=some (.map<|some b))(hy:QO S oy=some (ck key))(hz:QO S oz=some vv)(hv:∀F',F<=F'->rv F' val vv)
  (k:GL O P ops rest ks Q (Hd n D S F<|hs.set i<|GY ck rv F b<|Qx l key val) m r):GL O P ops (⟨none,.mapUpdate t ox oy oz,ty,pos,after,none⟩::rest) ks Q (Hd n D S F hs) m r:=by
 refine GG.sS rfl (.inr rfl) λhm a w ha=> ?_;obtain⟨es,c,hb,hr,hsh,hbi⟩:=E6<|ha.2.pull hi;obtain⟨kd,hu,hsame⟩:=ok.und;rcases(hr.up le0).find (k:=key) hsame ok.eq 0 with⟨g1,g2,g3⟩ | ⟨j,e1,x1,g1,g2,g3,g4,g5,g6⟩
 ·refine⟨put w b<|.map (es.push {key:=ck key,val:=vv,born:=c})<|c+1,?_,k hm _ _ ⟨ha.1.bh _,SH.push hi<|hsh.put.mono λm hm=>QQ (λm' hm' =>⟨_,_,hm',by simpa using g3 val {key:=ck key,val:=vv,born:=c} rfl hv,by simpa using hbi.push⟩) hm⟩⟩;have hf:=run_findKey (w:=w) hu g2;simp[execOp,Instr.mapUpdate,ha.1.eval hx,ha.1.eval hy,ha.1.eval hz,J5 ht,YO hb,ok.check,hf,FP hb]
 ·refine⟨put w b<|.map (es.modify j λe=>{e with key:=ck key,val:=vv}) c,?_,k hm _ _ ⟨ha.1.bh _,SH.push hi<|hsh.put.mono λm hm=>QQ (λm' hm' =>⟨_,_,hm',by simpa using g6 val (λe=>{e with key:=ck key,val:=vv}) rfl hv,by simpa using hbi.modify (j:=j) (f:=λe=>{e with key:=ck key,val:=vv}) λ_=>rfl⟩) hm⟩⟩;have hf:=run_findKey (w:=w) hu g4;rw[nl] at hf
  have hel:es[j]? =some e1:=by simpa using g1
  have hsb:=ok.same key;simp[execOp,Instr.mapUpdate,ha.1.eval hx,ha.1.eval hy,ha.1.eval hz,J5 ht,YO hb,ok.check,hf,FP hb,hel,g2,Instr.keyThatStays,hsb]
theorem GG.ab{l l' :UV (K×V)}{key:K}{val:V}{vv:Do}(i:Nat)(hi:hs[i]? =some (GY ck rv F0 b l))(le0:F0<=F)(ht:P.underlying t=some (.map kt vt))(ok:X0 P kt ck)(hx:QO S ox=some (.map<|some b))(hy:QO S oy=some (ck key))(hz:QO S oz=some vv)(hv:∀F',F<=F'->rv F' val vv)(he:l' =Qx l key val)
  (k:GL O P ops rest ks Q (Hd n D S F<|hs.set i<|GY ck rv F b l') m r):GL O P ops (⟨none,.mapUpdate t ox oy oz,ty,pos,after,none⟩::rest) ks Q (Hd n D S F hs) m r:=by
 subst he;exact GG.mapUpdate i hi le0 ht ok hx hy hz hv k
theorem xy{kd':nm}{e:Bool}(hu:P.underlying t=some (.int kd))(n:Nat):(Instr.checkKey e (n+1) t<|.int kd' x).run P w= .ok () w:=by
 simp[Instr.checkKey,J5 hu]
theorem xZ(n:Nat):Instr.sameBits n (.int kd x) (.int kd x)=true:=by
 cases n<;>simp[Instr.sameBits]
theorem X0.int(hu:P.underlying t=some (.int kd)):X0 P t (λx:Int=>Value.int kd x) where
 und:=⟨_,hu,λa b=>by simp[Instr.sameNow]⟩
 check e k w:=xy hu 9999
 same a:=xZ 10000
 eq a b h:=by simpa using h
def xj(len cap:Int):H1 Nat:=if 0<=len/\len<=cap/\cap<=4294967296 then some len.toNat else none
theorem kr{zero:Of Do}{i:Nat}(hz:zero.size=sz)(hi:i < cap):((((Array.range<|cap*sz).map λj=>zero[j%zero.size]!).toList.drop<|i*sz).take sz)=zero.toList:=by
 have hroom:i*sz+sz<=cap*sz:=by
  have:=mw sz<|show i+1<=cap from hi;rw[mP,Nat.one_mul] at this;exact this
 apply mD;intro j;by_cases hj:j < sz
 ·rw[rz,TO hj,mF];have h1:i*sz+j < cap*sz:=by omega
  have h2:(i*sz+j)%sz=j:=by rw[Nat.add_comm,Nat.add_mul_mod_self_right,Nat.mod_eq_of_lt hj]
  have h3:j < zero.size:=by omega
  simp[h1,hz,h2];rw[getElem!_pos zero j h3];simp[h3]
 ·rw[rz,RW hj,mC (by simp;omega)]
theorem Jb.rq{z:α}{zero:Of Do}{k:Nat}(hz:zero.size=sz)(h:k<=cap)(hc:∀F',F<=F'->c F' z zero.toList):Jb sz c F (List.replicate k z) ((Array.range<|cap*sz).map λj=>zero[j%zero.size]!).toList:=λi x hx F' le=>by
 have hi:=Zt hx;simp only[et] at hi
 rw[List.getElem?_replicate,TO hi] at hx;cases hx
 rw[kr hz<|by omega];exact hc F' le
theorem GG.makeSlice{z:α}{zv:Do}{kd' :nm}{f:Nat->H1 β}(E:Ud P e sz c)(hd:Nat.blt d n=true)(ht:P.underlying t=some (.slice e))(hzv:∀w,(zeroValue e).run P w= .ok zv w)(hzc:∀F',F<=F'->c F' z zv.cells.toList)(hx:QO S ox=some (.int kd x))(hy:QO S oy=some (.int kd' y))
  (k:∀len b,xj x y=some len->GL O P ops rest ks Q (Hd n D ((d,.slice (some ⟨b,0,none⟩) (List.replicate len z).length y.toNat)::S) F<|Qj sz c F e (some ⟨b,0,none⟩) y.toNat (List.replicate len z)::hs) (f len) r):GL O P ops (⟨some d,.makeSlice t ox oy,ty,pos,after,none⟩::rest) ks Q (Hd n D S F hs) ((xj x y).bind f) r:=by
 refine GG.bind λlen hlen=> ?_;have hk:=λb=>k len b hlen;unfold xj at hlen
 split at hlen
 ·rename_i hb;cases hlen;refine GG.step rfl (.inr rfl) λhm a w ha=> ?_;obtain⟨ti,hti,hb0,hb1⟩:=E.info
  have hsz:zv.cells.size=sz:=by
   have:=E.len _ _ _<|hzc F<|Fz.le_refl F;simpa using this
  have h1:=ha.2.alloc<|.cells ((Array.range<|y.toNat*sz).map λj=>zv.cells[j%zv.cells.size]!) e;refine⟨_,w.alloc<|.cells ((Array.range<|y.toNat*sz).map λj=>zv.cells[j%zv.cells.size]!) e,?_,hk w.heap.size hm _ _ ⟨ha.1.put hd _,h1.mono λm hm=>QQ (λm' hm' =>⟨by simp;omega,by omega,.inr ⟨_,((Array.range<|y.toNat*sz).map λj=>zv.cells[j%zv.cells.size]!).toList,rfl,by(have hm2:pt _ _ m' :=hm';unfold pt at hm2 ⊢;rw[hm2]),by simp,Jb.rq hsz (by omega) hzc⟩⟩) hm⟩⟩;have hw1:IntKind.i64.wrap x=x:=by simp[IntKind.wrap,IntKind.bits,IntKind.signed];omega
  have hw2:IntKind.i64.wrap y=y:=by simp[IntKind.wrap,IntKind.bits,IntKind.signed];omega
  have hby:(ti.bytes:Int)*y<=2^48:=by
   have h1:(ti.bytes:Int)<=4096:=by omega
   have h2:(ti.bytes:Int)*y<=4096*y:=lv h1 (by omega);omega
  have hneg:¬y < 0:=by omega
  have hneg' :¬x < 0:=by omega
  have hxy:¬x > y:=by omega
  have hbig:¬(281474976710656:Int) < (ti.bytes:Int)*y:=by omega
  have i1:∀w:PP,(asInt<|.int kd x).run P w= .ok x w:=λw=>by simp[asInt,asIntOf]
  have i2:∀w:PP,(asInt<|.int kd' y).run P w= .ok y w:=λw=>by simp[asInt,asIntOf]
  simp only[execOp,ha.1.eval hx,ha.1.eval hy,Instr.makeSlice,r7,J5 ht,Result.andThen,i1,i2,hti,hw1,hw2];by_cases hn:y.toNat*sz=0
  ·simp[hneg,hneg',hxy,hbig,E.size,hn,newRow,askRoom];rw[show Array.range 0=#[] from rfl];simp
  ·simp[hneg,hneg',hxy,hbig,E.size,hn,hzv,newRow,askRoom]
 ·cases hlen
theorem QI.isNil{l:UV α}(h:QI sz c F none cap l):l=[]:=by
 rcases h.2.2 with h | ⟨_,_,_,_,_,h,_⟩
 ·exact h
 ·cases h
theorem eq_nil{len:Nat}(ht:P.underlying t=some (.slice e))(n:Nat):(Op.equalIn (n+1) t (.slice p len cap)<|.slice none 0 0).run P w= .ok p.isNone w:=by
 cases p<;>simp[Op.equalIn,J5 ht]
theorem GG.sv{len:Nat}(hd:Nat.blt d n=true)(ht:P.underlying t=some (.slice e))(hx:QO S ox=some (.slice p len cap))(hy:QO S oy=some (.slice none 0 0))(k:GL μ P ops rest ks Q (Hd n D ((d,.bool p.isNone)::S) F hs) m r):GL μ P ops (⟨some d,.binOp .eql t ox oy t',ty,pos,after,none⟩::rest) ks Q (Hd n D S F hs) m r:=
 GG.val hd (λa w ha=>by
  have hq:(Op.equal t (.slice p len cap)<|.slice none 0 0).run P w= .ok p.isNone w:=eq_nil ht 9999;have hg:P.eqGuardType P.depth t=false∨P.eqGuardType P.depth t=true:=by cases P.eqGuardType P.depth t<;>simp
  simp[execOp,ha.1.eval hx,ha.1.eval hy,eqGuard,binOp,hq]) k
theorem GG.rb{len:Nat}(hd:Nat.blt d n=true)(hT:T[0]? =some t)(ht:P.underlying t=some (.slice e))(hx:QO S ox=some (.slice p len cap))(k:GL μ P ops rest ks Q (Hd n D ((d,.int .i64 cap)::S) F hs) m r):GL μ P ops (⟨some d,.call ⟨.builtin .cap,#[ox],T⟩,ty,pos,after,none⟩::rest) ks Q (Hd n D S F hs) m r:=GG.val hd (λa w ha=>by simp[execOp,resolve,invoke,builtin,Builtin.cap_,ha.1.eval hx,hT,J5 ht,goInt]) k
def CC(P:RK)(f:x4)(args:Of Do)(F:Fz)(m:H1 (UV α))(sz:Nat)(c:Uk α)(T:If):Prop:=∀r,m=some r->∀w R,SH w F R->Calls P f args w (λe w' =>∃F' p k,F<=F'/\e= .returned (.slice p r.length k)/\SH w' F' (star (Qj sz c F' T p k r) R))
def kQ(P:RK)(fn:lK)(F:Fz)(R:HP)(sz:Nat)(c:Uk α)(T:If)(r:UV α):nN->Act->PP->Prop:=bodyPost P fn (λe w' =>∃F' p k,F<=F'/\e= .returned (.slice p r.length k)/\SH w' F' (star (Qj sz c F' T p k r) R))
theorem CC.enter{f:x4}{fn:lK}{cd:lN}{args:UV Do}{m:H1 (UV α)}{T:If}
  (hf:P.funcs[f]? =some fn) (hb:fn.body=some cd) (hn:fn.ntmps=n) (ha:Nat.ble args.length n=true)
  (k:∀r R,GC none P cd [] (kQ P fn F R sz c T r) (Hd n [] (Db 0 args) F [R]) m r):CC P f args.toArray F m sz c T:=by
 intro r hm w R hw;refine eO hf hb<|oE.1<|k r R hm _ w ⟨?_,hw.one⟩;rw[hn];exact Uw ha
theorem GG.aV{fn:lK}{R:HP}{F':Fz}{t i:Nat}{x r:UV α}{T:If}(hr:fn.results=#[.tmp t])(h:K4 S t=some (.slice p x.length cap))(hi:hs[i]? =some (Qj sz c F0 T p cap x))(le0:F0<=F')(hj:(hs.eraseIdx i)[j]? =some R)(le:F<=F'):GC O P .ret ks (kQ P fn F R sz c T r) (Hd n [] S F' hs) (some x) r:=GG.bc λe a w ha=>by
 simp only[BY] at e
 subst e;have hres:SP P S F' hs [.tmp t] [.slice p x.length cap]:=.tmp h .nil;exact⟨ha.1.2.1,_,Jd (rs:=[.tmp t]) hr ha hres,F',p,cap,le,rfl,(SH.an hi hj ha.2).mono λm hm=>QQ (λ_=>WQ le0) hm⟩
theorem GG.pX{f:x4}{caps as vs:UV Do}{of:dO}{os:UV dO}{em:H1 (UV α)}{g:UV α->H1 β}{T' :If}(hd:Nat.blt d n=true)
  (hcall:∀args w,(callFunc f args).run P w= .ok (.enter f args) w) (hf:QO S of=some (.func (.func f) #[] caps.toArray)) (ha:Ub S os=some vs) (has:vs++caps=as)
  (hc:CC P f as.toArray F em sz c T') (k:∀x F' p cap,em=some x->F<=F'->GL O P ops rest ks Q (Hd n D ((d,.slice p x.length cap)::S) F'<|Qj sz c F' T' p cap x::hs) (g x) r):GL O P ops (⟨some d,.call ⟨.value of,os.toArray,T⟩,ty,pos,after,none⟩::rest) ks Q (Hd n D S F hs) (em.bind g) r:=
 GG.cf rfl (.inr rfl) λhm a w hA=>by
  subst has;refine⟨Wo hA.1 hcall hf ha,?_⟩;cases he:em with
  | none=>rw[he] at hm;cases hm
  | some y=>
   rw[he] at hm
   refine(hc y he w _ hA.2).mono ?_;rintro _ w' ⟨F',p,cap,le,rfl,hw⟩;exact⟨_,rfl,k y F' p cap he le hm _ _ ⟨hA.1.put hd _,hw⟩⟩
def L8(y:Int):H1 Nat:=if 0 < y/\y<=4294967296 then some y.toNat else none
theorem GG.pD{e2:Nat}{z:α}{zv:Do}{f:Nat->H1 β}{kd2:nm}{l:UV α}(i:Nat)(E:Ud P e sz c)(hd:Nat.blt d n=true)(ht:P.underlying t=some (.slice e))(ht2:P.underlying e2=some (.int kd2))(hT0:T[0]? =some t)(hT1:T[1]? =some e2)(hzv:∀w,(zeroValue e).run P w= .ok zv w)(hzc:∀F',F<=F'->c F' z zv.cells.toList)
  (hi:hs[i]? =some (Qj sz c F0 e none 0 l)) (hx:QO S ox=some (.slice none 0 0)) (hy:QO S oy=some (.int kd y))
  (k:∀len b cap,L8 y=some len->GL O P ops rest ks Q (Hd n D ((d,.slice (some ⟨b,0,none⟩) (List.replicate len z).length cap)::S) F<|hs.set i<|Qj sz c F e (some ⟨b,0,none⟩) cap<|List.replicate len z) (f len) r):GL O P ops (⟨some d,.call ⟨.builtin .append,#[ox,oy],T⟩,ty,pos,after,none⟩::rest) ks Q (Hd n D S F hs) ((L8 y).bind f) r:=by
 refine GG.bind λlen hlen=> ?_;have hk:=λb cap=>k len b cap hlen;unfold L8 at hlen
 split at hlen
 ·rename_i hb;cases hlen;refine GG.step rfl (.inr rfl) λhm a w ha=> ?_;obtain⟨ti,hti,hb0,hb1⟩:=E.info
  have hsz:zv.cells.size=sz:=by
   have:=E.len _ _ _<|hzc F<|Fz.le_refl F;simpa using this
  generalize hq' :Question.appendCap y.toNat 0 e=q
  have hcap:y.toNat<=q.cut (w.tape w.drawn q)/\q.cut (w.tape w.drawn q)<=9223372036854775807:=by
   rw[<-hq'];have:=oI (w.tape w.drawn<|Question.appendCap y.toNat 0 e) (show 0 < 2^63 - y.toNat by omega);simp only[Question.cut];omega
  have hforced:q.forced=false:=by rw[<-hq'];rfl
  generalize hC:q.cut (w.tape w.drawn q)=C at hcap
  have hHq:SH w F (Qi<|hs.eraseIdx i):=ha.2.bp i;have hdrew:SH {w with drawn:=w.drawn+1} F (Qi<|hs.eraseIdx i):=hHq.drew _;have halloc:=hdrew.alloc<|.cells (Builtin.zeroCells zv.cells y.toNat++Builtin.zeroCells zv.cells (C - y.toNat)) e;have hlz:∀k,(Builtin.zeroCells zv.cells k).size=k*sz:=λk=>by simp[Builtin.zeroCells,hsz]
  have hw1:IntKind.i64.wrap y=y:=by simp[IntKind.wrap,IntKind.bits,IntKind.signed];omega
  refine⟨.slice (some ⟨w.heap.size,0,none⟩) y.toNat C,({w with drawn:=w.drawn+1}:PP).alloc<|.cells (Builtin.zeroCells zv.cells y.toNat++Builtin.zeroCells zv.cells (C - y.toNat)) e,?_,?_⟩
  rotate_left
  ·have hk' :=hk w.heap.size C;rw[et] at hk'
   refine hk' hm _ _ ⟨ha.1.put hd _,SH.push hi<|halloc.mono λm hm=>QQ (λm' hm' =>⟨by rw[et];exact hcap.1,hcap.2,.inr ⟨w.heap.size,(Builtin.zeroCells zv.cells y.toNat++Builtin.zeroCells zv.cells (C - y.toNat)).toList,rfl,?_,?_,?_⟩⟩) hm⟩
   ·(have hm2:pt _ _ m' :=hm';unfold pt at hm2 ⊢;rw[hm2])
   ·simp only[lZ,oU,hlz,<-mP];congr 1;omega
   ·have hp:Jb sz c F (List.replicate y.toNat z) (Builtin.zeroCells zv.cells y.toNat).toList:=by
     unfold Builtin.zeroCells;rw[hsz];have:=Jb.rq (cap:=y.toNat) (k:=y.toNat) hsz (IN _) hzc;rw[hsz] at this;exact this
    have:=hp.aA (us2:=(Builtin.zeroCells zv.cells<|C - y.toNat).toList) (by simp[hlz]);simpa using this
  ·have hneg:¬y < 0:=by omega
   have hby:¬(281474976710656:Int) < y*ti.bytes:=by
    have h1:(ti.bytes:Int)<=4096:=by omega
    have h2:y*(ti.bytes:Int)<=y*4096:=mK h1 (by omega);omega
   have hn:H7 y.toNat 0 ti.bytes:=Cj (by omega) (by omega) hb1;unfold H7 at hn
   have hnb:¬(281474976710656:Nat) < Builtin.nextslicecap y.toNat 0*ti.bytes:=by omega
   have hne0:¬y.toNat=0:=by omega
   have hmax:¬((y.toNat:Nat):Int) > IntKind.i64.max:=by simp[IntKind.max,IntKind.bits,IntKind.signed];omega
   have i2:∀w:PP,(asInt<|.int kd y).run P w= .ok y w:=λw=>by simp[asInt,asIntOf]
   have hbk:¬(y.toNat<=0):=by omega
   simp only[execOp,resolve,invoke,builtin,List.map_toArray,s4,eY,ha.1.eval hx,ha.1.eval hy];simp only[Builtin.append_];simp[hT0,hT1,J5 ht,J5 ht2,E.size,i2,hw1,hneg,hti,hby,hnb,hq',hforced,hC,hzv,newRow,Builtin.firstCells,askRoom];have q1:¬y<=0:=by omega
   have q2:¬(9223372036854775807:Int) < max y 0:=by omega
   rw[RW q1,RW q2];by_cases hz0:y.toNat*sz=0
   ·have hzc0:Builtin.zeroCells zv.cells y.toNat=#[]:=oZ (by rw[hlz];exact hz0);rw[TO hz0,hzc0,iX]
   ·rw[RW hz0]
 ·cases hlen
theorem GG.rN{T:If}{l:UV α}{f:UV α->H1 β}(i:Nat)(hd:Nat.blt d n=true)(ht:P.underlying t=some (.slice e))(hz:∀w,(sizeOf e).run P w= .ok sz w)
  (hi:hs[i]? =some (Qj sz c F0 T p cap l)) (hx:QO S ox=some (.slice p l.length cap)) (hy:QO S oy=some (.int kd x))
  (k:∀l' p',ZW l 0 x=some l'->GL O P ops rest ks Q (Hd n D ((d,.slice p' l'.length cap)::S) F<|hs.set i<|Qj sz c F0 T p' cap l') (f l') r):GL O P ops (⟨some d,.slice t ox none (some oy) none,ty,pos,after,none⟩::rest) ks Q (Hd n D S F hs) ((ZW l 0 x).bind f) r:=by
 refine GG.bind λl' hl=> ?_;have hl' :=hl;unfold ZW at hl
 split at hl
 ·rename_i h;simp only[BY,oD,eH,eX] at hl
  have hlen:l'.length=x.toNat:=by rw[<-hl];simp;omega
  refine GG.step rfl (.inr rfl) λhm a w ha=> ?_
  have hcap:l.length<=cap:=by
   obtain⟨_,⟨_,_,_,_,_,⟨h1,_,_⟩,_⟩,_⟩:=ha.2.pull hi;exact h1
  refine⟨.slice (if cap=0 then p else p.map (·.add (0*sz))) x.toNat cap,w,?_,?_⟩
  ·simp only[execOp,ha.1.eval hx,ha.1.eval hy,x7,lM,r7];rw[TN ht hz<|by omega];rfl
  ·have hk:=k l' (if cap=0 then p else p.map (·.add (0*sz))) hl';rw[hlen] at hk
   have e0:(if cap=0 then p else p.map (·.add (0*sz)))=p:=by
    split
    ·rfl
    ·cases p with
     | none=>rfl
     | some q=>simp[Addr.add]
   rw[e0] at hk ⊢
   refine hk hm _ _ ⟨ha.1.put hd _,SH.push hi<|(ha.2.pull hi).mono λm hm=>QQ (λm' hm' => ?_) hm⟩;obtain⟨h1,h2,h3⟩:=hm';refine⟨by rw[hlen];omega,h2,?_⟩;rcases h3 with h3 | ⟨b,cs,e1,hb,hcl,hp⟩
   ·exact .inl h3
   ·exact .inr ⟨b,cs,e1,hb,hcl,λj y hy F' le=>hp j y (by
     rw[<-hl,rz] at hy
     split at hy
     ·exact hy
     ·cases hy) F' le⟩
 ·cases hl
end
end
section
variable{S Si:UV (Nat×Do)}{ops:Of x5}{l rest:UV x5}{hs hs2:UV HP}{L:Nat->Bool}{after:Of lL}{α:Type}{i d sz cap n:Nat}{pos:String}{ty t e:If}{ox oy:dO}{q:Fz->Prop}{p:H1 OF}{l':UV α}{kd:nm}{c:Uk α}{F' F2:Fz}{w:PP}{v:Do}{x:Int}
variable{O:H1 Nat}{μ:Md}
structure Env where
 a:Nat->Option Addr
 n:Nat->Nat
 c:Nat->List Value
 f:Nat->Fz
 o:Nat->Option Nat
variable{C:(Nat->Bool)->Env->UV HP}{env:Env}
abbrev Wv:Type:=Do×(Fz->Prop)
variable{X:Env->UV Wv}
def DH:UV Bool->UV α->UV (H1 α)
 | b::bs,x::xs=>(bif b then some x else none)::DH bs xs
 | _,_=>[]
theorem Se:∀{M:UV Bool} {x y:UV α} {j:Nat} {q:α},DH M x=DH M y->M[j]? =some true->x[j]? =some q->y[j]? =some q
 | [],_,_,j,_,_,h,_=>by simp at h
 | b::M,[],_,j,_,_,_,h=>by simp at h
 | b::M,x::xs,[],j,_,h,_,_=>by simp[DH] at h
 | b::M,x::xs,y::ys,0,q,h,hb,hx=>by
  simp at hb hx;subst hb hx
  simp only[DH,cond_true,mv,BY] at h
  simp[h.1]
 | b::M,x::xs,y::ys,j+1,q,h,hb,hx=>by
  simp only[DH,mv] at h
  have:=Se (j:=j) (q:=q) h.2 (by simpa using hb) (by simpa using hx);simpa using this
def Xu(l:UV x5):Nat->Nat->Nat->Bool
 | 0,_,_=>false
 | k+1,i,j=>match l[i]? with
  | none=>false
  | some o=>o.after.toList.any λe=>Region.binds .any e&&(Nat.beq e.on j||Xu l k e.on j)
def Down(l:UV x5)(L:Nat->Bool):Prop:=∀i o,l[i]? =some o->L i=true->∀e∈o.after,Region.binds .any e=true->L e.on=true
theorem XT(hd:Down l L):∀{k i j:Nat},Xu l k i j=true->(∀o,l[i]? =some o->∀e∈o.after,Region.binds .any e=true->L e.on=true)->L j=true
 | 0,i,j,h,_=>by simp[Xu] at h
 | k+1,i,j,h,hi=>by
  simp only[Xu] at h
  split at h
  ·cases h
  ·rename_i o ho;simp only[nv,AT,nq] at h
   obtain⟨e,he,hb,h⟩:=h;have hon:=hi o ho e (by simpa using he) hb;rcases h with h | h
   ·rw[<-rW h];exact hon
   ·exact XT hd h λo' ho' e' he' hb' =>hd e.on o' ho' hon e' he' hb'
def Cw(l:UV x5)(i:Nat):Nat->UV Bool->UV Bool->Bool
 | _,_,[]=>true
 | j,M,b::bs=>(b||Nat.beq j i||(match l[j]? with
  | none=>false
  | some o=>o.after.toList.any λe=>Region.binds .any e&&(Nat.beq e.on i||(Nat.blt e.on j&&(M[e.on]?).getD true==false))))&&Cw l i (j+1) M bs
theorem MK{M:UV Bool}:∀{bs:UV Bool} {j0:Nat},Cw l i j0 M bs=true->∀t,bs[t]? =some false->j0+t=i∨∃o e,l[j0+t]? =some o/\e∈o.after/\Region.binds .any e=true/\(e.on=i∨(e.on < j0+t/\M[e.on]? =some false))
 | [],_,_,t,h=>by simp at h
 | b::bs,j0,hb,0,h=>by
  simp at h;subst h
  simp only[Cw,mz,AT,nq] at hb
  rcases hb.1 with h | h
  ·exact .inl<|rW h
  ·right;split at h
   ·cases h
   ·rename_i o ho;simp only[nv,AT,nq] at h
    obtain⟨e,he,hbi,h⟩:=h;refine⟨o,e,ho,by simpa using he,hbi,?_⟩;rcases h with h | ⟨h1,h2⟩
    ·exact .inl<|rW h
    ·refine .inr ⟨j3 h1,?_⟩;cases hm:M[e.on]? with
     | none=>rw[hm] at h2;simp at h2
     | some b=>rw[hm] at h2;simp at h2;rw[h2]
 | b::bs,j0,hb,t+1,h=>by
  simp only[Cw,AT] at hb
  have:=MK hb.2 t<|by simpa using h
  rwa[show j0+1+t=j0+(t+1) by omega] at this
theorem PJ{M:UV Bool}(hd:Down l L)(hi:L i=false)(hc:Cw l i 0 M M=true):∀(j:Nat),L j=true->j < M.length->M[j]? =some true:=λj=>by
 induction j using Nat.strongRecOn with
 | ind j ih=>
  intro hj hlt;cases hm:M[j]? with
  | none=>rw[eL] at hm;omega
  | some b=>
   cases b with
   | true=>rfl
   | false=>
    exfalso;have:=MK hc j hm;rw[nl] at this
    rcases this with rfl | ⟨o,e,ho,he,hb,h⟩
    ·rw[hi] at hj;cases hj
    ·have hon:=hd j o ho hj e he hb;rcases h with h | ⟨hlt',h⟩
     ·rw[h,hi] at hon;cases hon
     ·have:=ih e.on hlt' hon<|Zt h;rw[h] at this;cases this
def Vv(l:UV x5)(j:Nat):H1 Nat:=(l[j]?).bind (·.dst)
section
variable{β:Type}{P:RK}{ks:UV Kt}{Q:nN->Act->PP->Prop}{m:H1 β}{r:β}
variable{n:Nat}{D:UV q8}{S0:UV (Nat×Do)}{F:Fz}
def Gu(n:Nat)(D:UV q8)(l:UV x5)(X:Env->UV Wv)(C:(Nat->Bool)->Env->UV HP)(L:Nat->Bool)(env:Env)(F' :Fz)(i:Nat)(dst:H1 Nat)(S:UV (Nat×Do)):nN->Act->PP->Prop:=λe a w=>
 e= .normal/\∃env' F'',F'<=F''/\(∃M,M.length=(X env).length/\Cw l i 0 M M=true/\DH M (X env)=DH M (X env'))/\∃q,(X env')[i]? =some q/\(∀G,F''<=G->q.2 G)/\
  Hd n D (match dst with | some d=>(d,q.1)::S | none=>S) F'' (C (Kk L i) env') a w
def w5(O:H1 Nat)(P:RK)(ops:Of x5)(l:UV x5)(n:Nat)(D:UV q8)(S0:UV (Nat×Do))(F:Fz)(X:Env->UV Wv)(C:(Nat->Bool)->Env->UV HP)(i:Nat)(o:x5):Prop:=
 ∀L env F',F<=F'->L i=false->(∀k j,Xu l k i j=true->L j=true)->(∀k j,Xu l k j i=true->L j=false)->(∀(j:Nat) (q:Wv),L j=true->(X env)[j]? =some q->∀G,F'<=G->q.2 G)->
  ∃Si,(∀S,Sub S0 S->(∀(j d:Nat) (v:Do),L j=true->Vv l j=some d->((X env)[j]?).map Prod.fst=some v->K4 S d=some v)->Sub Si S)/\
   GL O P ops [o] [] (Gu n D l X C L env F' i o.dst Si) (Hd n D Si F'<|C L env) (some ()) ()
def GV(O:H1 Nat)(P:RK)(ops:Of x5)(l:UV x5)(n:Nat)(D:UV q8)(S0:UV (Nat×Do))(F:Fz)(X:Env->UV Wv)(C:(Nat->Bool)->Env->UV HP):Nat->UV x5->Prop
 | _,[]=>True
 | i,o::os=>w5 O P ops l n D S0 F X C i o/\GV O P ops l n D S0 F X C (i+1) os
theorem GV.get:∀{k:Nat} {os:UV x5},GV O P ops l n D S0 F X C k os->∀i o,os[i]? =some o->w5 O P ops l n D S0 F X C (k+i) o
 | _,[],_,i,o,h=>by simp at h
 | k,x::os,hb,0,o,h=>by simp at h;subst h;exact hb.1
 | k,x::os,hb,i+1,o,h=>by
  have:=GV.get hb.2 i o<|by simpa using h
  rwa[show k+1+i=k+(i+1) by omega] at this
theorem OM{o:x5}{a:Act}(hn:∀d,o.dst=some d->Nat.blt d n=true)(ha:Sl n D S a)
  (h:Xa O P ops (Gu n D l X C L env F' i o.dst Si) [o] a w):Xa O P ops (Gu n D l X C L env F' i o.dst S) [o] a w:=by
 have key:∀u w',Gu n D l X C L env F' i o.dst Si .normal (a.put o.dst u) w'->Gu n D l X C L env F' i o.dst S .normal (a.put o.dst u) w' :=by
  rintro u w' ⟨_,env',F'',le,hM,q,hq,hf,hA⟩;refine⟨rfl,env',F'',le,hM,q,hq,hf,?_⟩;cases hd:o.dst with
  | none=>rw[hd] at hA;exact⟨ha.bh u,hA.2⟩
  | some d=>
   rw[hd] at hA
   have h1:=ha.put (hn d hd) u;have e1:=h1.2.2 d u Ds;have e2:=hA.1.2.2 d q.1 Ds;have:u=q.1:=e1.symm.trans e2;subst this;exact⟨h1,hA.2⟩
 have hno:∀e a w,e≠.normal->Gu n D l X C L env F' i o.dst Si e a w->False:=λe a w hne hq=>hne hq.1;unfold Xa at h ⊢
 split
 ·rename_i hw;rw[TO hw] at h
  refine OB key (λdd w' h=> ?_) (λe a w hne hq=>(hno e a w hne hq).elim) h;obtain⟨_,env',F'',le,hM,q,hq,hf,hA⟩:=h;have h2:=hA.1.2.1;cases hd:o.dst with
  | none=>
   rw[hd] at h2;simp only[Act.put] at h2;rw[ha.2.1] at h2
   exact absurd (congrArg List.length h2) (by simp)
  | some d=>
   rw[hd] at h2;simp only[Act.put] at h2;rw[ha.2.1] at h2
   exact absurd (congrArg List.length h2)<|by simp
 ·rename_i hw;rw[RW hw] at h
  exact key undef w h
def TL(d:Nat)(o:x5):Bool:=match o.dst with
 | some d' =>Nat.beq d' d
 | none=>false
def Ga(n:Nat)(S0:UV (Nat×Do)):UV x5->Bool
 | []=>true
 | o::os=>(match o.dst with
  | none=>true
  | some d=>Nat.blt d n&& !Am d S0&& !os.any (TL d))&&Ga n S0 os
theorem HB:∀{os:UV x5} {i:Nat} {o:x5} {d:Nat},Ga n S0 os=true->os[i]? =some o->o.dst=some d->Nat.blt d n=true/\Am d S0=false
 | [],_,_,_,_,h,_=>by simp at h
 | x::os,0,o,d,hf,h,hd=>by
  simp at h;subst h
  simp only[Ga,hd,AT,ng] at hf
  exact⟨hf.1.1.1,hf.1.1.2⟩
 | x::os,i+1,o,d,hf,h,hd=>by
  simp only[Ga,AT] at hf
  exact HB hf.2 (by simpa using h) hd
theorem Sk{os:UV x5}{o:x5}(h:os.any (TL d)=false)(ho:os[i]? =some o)(hd:o.dst=some d):False:=by
 have hm:o∈os:=by
  obtain⟨hlt,e⟩:=AC.1 ho;rw[<-e];exact oX hlt
 have:os.any (TL d)=true:=nv.2 ⟨o,hm,by simp[TL,hd]⟩;rw[h] at this;cases this
theorem BU:∀{os:UV x5} {i j:Nat} {o o' :x5} {d:Nat},Ga n S0 os=true->os[i]? =some o->os[j]? =some o'->o.dst=some d->o'.dst=some d->i=j
 | [],_,_,_,_,_,_,h,_,_,_=>by simp at h
 | x::os,0,0,_,_,_,_,_,_,_,_=>rfl
 | x::os,0,j+1,o,o',d,hf,h,h',hd,hd' =>by
  simp at h;subst h
  simp only[Ga,hd,AT,ng] at hf
  exact(Sk hf.1.2 (by simpa using h') hd').elim
 | x::os,i+1,0,o,o',d,hf,h,h',hd,hd' =>by
  simp at h';subst h'
  simp only[Ga,hd',AT,ng] at hf
  exact(Sk hf.1.2 (by simpa using h) hd).elim
 | x::os,i+1,j+1,o,o',d,hf,h,h',hd,hd' =>by
  simp only[Ga,AT] at hf
  have:=BU (i:=i) (j:=j) hf.2 (by simpa using h) (by simpa using h') hd hd';rw[this]
def E7:UV x5->UV Wv->UV (Nat×Do)->UV (Nat×Do)
 | o::os,q::qs,S=>match o.dst with
  | some d=>(d,q.1)::E7 os qs S
  | none=>E7 os qs S
 | _,_,S=>S
theorem NK(h0:Sub S0 S):∀{os:UV x5} {qs:UV Wv},(∀(i:Nat) (o:x5) (d:Nat) (q:Wv),os[i]? =some o->o.dst=some d->qs[i]? =some q->K4 S d=some q.1)->Sub (E7 os qs S0) S
 | [],_,_=>h0
 | _::_,[],_=>h0
 | o::os,q::qs,h=>by
  have h2:Sub (E7 os qs S0) S:=NK h0 λi o d q e1 e2 e3=>h (i+1) o d q (by simpa using e1) e2 (by simpa using e3);simp only[E7];cases hd:o.dst with
  | none=>exact h2
  | some d=>exact Sub.cons (h 0 o d q rfl hd rfl) h2
theorem GG.pW{id:Nat}(k g:Nat)(X:Env->UV Wv)(C:(Nat->Bool)->Env->UV HP)(hm:P.follows .mixedOrders=true)(hord:Mz 0 l=true)(htail:O6 k (l.drop k)=true)
  (hlen:Nat.ble k l.length=true) (hX:∀env,(X env).length=k) (hfr:Ga n S0 (l.take k)=true) (hC:∀env,C (λ_=>false) env=hs++List.replicate g AO)
  (hops:GV O P l.toArray l n D S0 F X C 0 (l.take k))
  (tail:∀env F',F<=F'->(∀(j:Nat) (q:Wv),(X env)[j]? =some q->q.2 F')->GL O P l.toArray (l.drop k) ks Q (Hd n D (E7 (l.take k) (X env) S0) F'<|C (λj=>Nat.blt j k) env) m r):GC O P (.region id l.toArray true) ks Q (Hd n D S0 F hs) m r:=by
 intro hmr a w ha;have hlen' :k<=l.length:=j3 hlen
 let Free:(Nat->Bool)->Act->PP->Prop:=λL a w=>Down l L/\(∀i,k<=i->L i=false)/\∃env F' S,F<=F'/\Sub S0 S/\(∀(j d:Nat) (v:Do),L j=true->Vv l j=some d->((X env)[j]?).map Prod.fst=some v->K4 S d=some v)/\(∀(j:Nat) (q:Wv),L j=true->(X env)[j]? =some q->∀G,F'<=G->q.2 G)/\Hd n D S F' (C L env) a w
 let Inv:(Nat->Bool)->Act->PP->Prop:=λL a w=>Free L a w∨∃i,k < i/\(∀j,L j=true↔j < i)/\Xa O P l.toArray (Zu O P ks Q) (l.drop i) a w
 have hend0:∀L a w,(∀i,i < k->L i=true)->Free L a w->Xa O P l.toArray (Zu O P ks Q) (l.drop k) a w:=by
  rintro L a w hall ⟨hdn,hout,env,F',S,le,hS,hV,hΦ,hA⟩;have hXl:=hX env
  have hLk:L=λj=>Nat.blt j k:=by
    funext j;rcases nA j k with h | h
    ·rw[hall j h];exact(nL h).symm
    ·rw[hout j h];cases hb:Nat.blt j k with
     | false=>rfl
     | true=>have:=j3 hb;omega
  refine tail env F' le (λj q hq=>hΦ j q (hall j (by have:=Zt hq;omega)) hq F'<|Fz.le_refl F') hmr a w ⟨hA.1.sub<|NK hS λi o d q e1 e2 e3=> ?_,hLk▸hA.2⟩;have hik:i < k:=by have:=Zt e3;omega
  refine hV i d q.1 (hall i hik) ?_ (by rw[e3];rfl);rw[rz,TO hik] at e1
  simp[Vv,e1,e2]
 refine Xm hm Inv (λi o h e he hb=>by have:=HF hord i o (by simpa using h) e he hb;omega) ?_ ?_ ?_
 ·refine .inl ⟨λi o _ h=>(by cases h),λ_ _=>rfl,⟨λ_=>none,λ_=>0,λ_=>[],λ_=>F,λ_=>none⟩,F,S0,Fz.le_refl F,Sub.refl _,λj d v h=>(by cases h),λj q h=>(by cases h),ha.1,?_⟩;rw[hC];have h1:=ha.2.drew<|w.drawn+1;refine h1.mono λm hm' => ?_;exact stars_emps hm'
 ·intro L a w i o ho hLi hdeps hI;have ho' :l[i]? =some o:=by simpa using ho
  have hil:i < l.length:=Zt ho';by_cases hi:i < k
  · rcases hI with hF | ⟨k',hk,hL,_⟩
    case inr=>have:=(hL i).2 (by omega);rw[hLi] at this;cases this
    obtain⟨hdn,hout,env,F',S,le,hS,hV,hΦ,hA⟩:=hF;have hot:(l.take k)[i]? =some o:=by rw[rz,TO hi];exact ho'
    have hop:=GV.get hops i o hot;simp only[nl] at hop
    have hup:∀k' j,Xu l k' j i=true->L j=false:=λk' j h=>by
     cases hj:L j with
     | false=>rfl
     | true=>
      have:=XT hdn h λo' ho'' e he hb=>hdn j o' ho'' hj e he hb;rw[hLi] at this;cases this
    have hdn' :∀k' j,Xu l k' i j=true->L j=true:=λk' j h=>XT hdn h λo' ho'' e he hb=>by
     rw[ho'] at ho'';cases ho'';exact hdeps e he hb
    obtain⟨Si,hSi,hstep⟩:=hop L env F' le hLi hdn' hup hΦ;have hsub:=hSi S hS hV;have hn:∀d,o.dst=some d->Nat.blt d n=true:=λd hd=>(HB hfr hot hd).1;have h1:=OM (S:=S) hn hA.1<|hstep rfl a w ⟨hA.1.sub hsub,hA.2⟩;refine T1 (λe a w hne hq=>absurd hq.1 hne) (λa' w' hq=> ?_) h1;obtain⟨_,env',F'',le',⟨M,hMl,hMc,hMe⟩,q,hq,hqf,hA'⟩:=hq
    have hst:∀(j:Nat) (q:Wv),L j=true->(X env')[j]? =some q->(X env)[j]? =some q:=λj q hj hx=>by
     have hjl:j < M.length:=by rw[hMl,hX env,<-hX env'];exact Zt hx
     exact Se hMe.symm (PJ hdn hLi hMc j hj hjl) hx
    refine .inl ⟨?_,?_,env',F'',(match o.dst with | some d=>(d,q.1)::S | none=>S),Fz.le_trans le le',?_,?_,?_,hA'⟩
    ·intro j oj hoj hj e he hb;by_cases hji:j=i
     ·subst hji;rw[ho'] at hoj;cases hoj
      have:=hdeps e he hb;simp only[Kk];split
      ·rfl
      ·exact this
     ·have hLj:L j=true:=by simpa[Kk,hji] using hj
      have:=hdn j oj hoj hLj e he hb;simp only[Kk];split
      ·rfl
      ·exact this
    ·intro j hj;simp only[Kk];rw[RW<|by omega];exact hout j hj
    ·cases hd:o.dst with
     | none=>exact hS
     | some d=>exact NJ hS (HB hfr hot hd).2 _
    ·intro j d' v' hj hd' hv';by_cases hji:j=i
     ·subst hji;have hod:o.dst=some d' :=by simpa[Vv,ho'] using hd'
      rw[hq] at hv';simp only[x7,BY] at hv'
      subst hv';rw[hod];exact Ds
     ·have hLj:L j=true:=by simpa[Kk,hji] using hj
      have hjk:j < k:=by
       rcases nA j k with h | h
       ·exact h
       ·rw[hout j h] at hLj;cases hLj
      obtain⟨q',hq',rfl⟩:=mI.1 hv';have h0:=hV j d' q'.1 hLj hd' (by rw[hst j q' hLj hq'];rfl);cases hd:o.dst with
      | none=>exact h0
      | some d=>
       have hne:d≠d' :=λh=>by
        subst h;cases hoj:l[j]? with
        | none=>simp[Vv,hoj] at hd'
        | some oj=>
         have hdj:oj.dst=some d:=by simpa[Vv,hoj] using hd'
         exact hji<|BU hfr (by rw[rz,TO hjk];exact hoj) hot hdj hd
       exact PL hne h0
    ·intro j q' hj hq' G hG;by_cases hji:j=i
     ·subst hji;rw[hq] at hq';cases hq';exact hqf G hG
     ·have hLj:L j=true:=by simpa[Kk,hji] using hj
      exact hΦ j q' hLj (hst j q' hLj hq') G<|Fz.le_trans le' hG
  ·
    have hts:=NB htail (i - k) o (by rw[mF];rw[show k+(i - k)=i by omega];exact ho')
    have hall:∀j,j < i->L j=true:=λj hj=>by
     obtain⟨e,he,h1,h2⟩:=hts j (by omega);rw[<-h1];exact hdeps e he h2
    have hw:Xa O P l.toArray (Zu O P ks Q) (l.drop i) a w:=by
     rcases hI with hF | ⟨k',hk,hL,hwp⟩
     ·have hiV:i=k:=by
       rcases nA k i with h | h
       ·have:=hall k h;rw[hF.2.1 _<|IN _] at this;cases this
       ·omega
      subst hiV;exact hend0 L a w hall hF
     ·have:k' =i:=by
       have h1:¬i < k' :=λh=>by have:=(hL i).2 h;rw[hLi] at this;cases this
       have h2:¬k' < i:=λh=>by have:=(hL k').1<|hall k' h;omega
       omega
      subst this;exact hwp
    have hdrop:l.drop i=o::l.drop (i+1):=by
     have hg:l[i]'hil=o:=by simpa[hil] using ho'
     rw[<-hg];exact nD hil
    rw[hdrop] at hw
    have hnext:∀a' w',Xa O P l.toArray (Zu O P ks Q) (l.drop<|i+1) a' w'->Inv (Kk L i) a' w' :=λa' w' h=>
     .inr ⟨i+1,by omega,λj=>by
      simp only[Kk];by_cases hj:j=i
      ·simp[hj]
      ·simp only[hj,T2];constructor
       ·intro hLj
        have:j < i:=by
         rcases nA j i with h | h
         ·exact h
         ·rcases hI with hF | ⟨k',hk,hL,_⟩
          ·rw[hF.2.1 j<|by omega] at hLj;cases hLj
          ·have h1:=(hL j).1 hLj;have:=(hL i).2 (by omega);rw[hLi] at this;cases this
        omega
       ·intro hj';exact hall j (by omega),h⟩
    unfold Xa at hw
    split
    ·rename_i hwn;rw[TO hwn] at hw
     exact Ch hnext hw
    ·rename_i hwn;rw[RW hwn] at hw
     exact hnext _ _ hw
 ·intro L a w hall hI
  have hw:Xa O P l.toArray (Zu O P ks Q) (l.drop l.length) a w:=by
    rcases hI with hF | ⟨k',hk,hL,hwp⟩
    ·have hVl:k=l.length:=by
      rcases nA k l.length with h | h
      ·have:=hall k (by simpa using h);rw[hF.2.1 _<|IN _] at this;cases this
      ·omega
     have:=hend0 L a w (λi hi=>hall i (by simp;omega)) hF
     rwa[hVl] at this
    ·have:l.length<=k' :=by
      rcases nA k' l.length with h | h
      ·have:=(hL k').1 (hall k'<|by simpa using h);omega
      ·exact h
     rw[nC this] at hwp
     rw[nC<|IN _];exact hwp
  rw[nC<|IN _] at hw
  exact hw
where
 stars_emps {hs:UV HP} {g:Nat} {m:Mem} (h:Qi hs m):Qi (hs++List.replicate g AO) m:=by
  induction hs generalizing m with
  | nil=>
   rw[mN]
   induction g generalizing m with
   | zero=>exact h
   | succ g ih=>exact⟨λ_=>none,m,λ_=>.inl rfl,λ_ _ e=>by simp at e,Mem.sub.refl _,trivial,ih trivial⟩
  | cons q hs ih=>exact QS (λm' h' =>ih h') h
theorem GV.nil{ops:Of x5}{l:UV x5}{X:Env->UV Wv}{C:(Nat->Bool)->Env->UV HP}{k:Nat}:GV O P ops l n D S0 F X C k []:=trivial
section
variable{ops:Of x5}{l:UV x5}{X:Env->UV Wv}{C:(Nat->Bool)->Env->UV HP}{L:Nat->Bool}{env:Env}{F' F2:Fz}{i d:Nat}{v:Do}{Si:UV (Nat×Do)}{x:β}{hs2:UV HP}
theorem allM:∀{k j:Nat} {M:UV Bool},Cw l i j M (List.replicate k true)=true
 | 0,_,_=>rfl
 | k+1,j,M=>by
  simp only[List.replicate_succ,Cw,oT,mA];exact allM
theorem GG.cI(hx:(X env)[i]? =some (v,λ_=>True))(hC:C (Kk L i) env=C L env)(le:F'<=F2):GL O P ops [] [] (Gu n D l X C L env F' i (some d) Si) (Hd n D ((d,v)::Si) F2<|C L env) (some x) x:=λ_ a w ha=>⟨rfl,env,F2,le,⟨List.replicate (X env).length true,by simp,allM,rfl⟩,_,hx,λ_ _=>trivial,⟨ha.1,hC▸ha.2⟩⟩
theorem GG.c9(env' :Env)(M:UV Bool)(hMl:M.length=(X env).length)(hMc:Cw l i 0 M M=true)(hMe:DH M (X env)=DH M (X env'))(hx:(X env')[i]? =some (v,q))(le:F'<=F2)(hf:∀G,F2<=G->q G)
  (hC:∀w,SH w F2 (Qi hs2)->SH w F2 (Qi<|C (Kk L i) env')):GL O P ops [] [] (Gu n D l X C L env F' i (some d) Si) (Hd n D ((d,v)::Si) F2 hs2) (some x) x:=
 λ_ _a _w ha=>⟨rfl,env',F2,le,⟨M,hMl,hMc,hMe⟩,_,hx,hf,⟨ha.1,hC _ ha.2⟩⟩
theorem GG.sY(hx:(X env)[i]? =some (v,λ_=>True))(le:F'<=F2)(hC:hs2=C (Kk L i) env):GL O P ops [] [] (Gu n D l X C L env F' i none Si) (Hd n D Si F2 hs2) (some x) x:=λ_ a w ha=>⟨rfl,env,F2,le,⟨List.replicate (X env).length true,by simp,allM,rfl⟩,_,hx,λ_ _=>trivial,⟨ha.1,hC▸ha.2⟩⟩
end
theorem SH.place{p q:HP}(k:Nat)(hk:hs[k]? =some q)(h:SH w F (Qi<|p::hs)):SH w F (Qi<|hs.set k p):=SH.push hk ((h.mono λ_ hm=>Zh<|QS (λ_=>DD (k:=k)) hm).drop)
theorem Jn{b:Bool}{x y:α}(h:b=true):cond b x y=x:=by rw[h];rfl
theorem KV{b:Bool}{x y:α}(h:b=false):cond b x y=y:=by rw[h];rfl
theorem SH.cT{p p' q:HP}(k:Nat)(hk:hs[k]? =some q)(hp:p' =p)(h:SH w F (Qi<|p::hs)):SH w F (Qi<|hs.set k p'):=hp▸h.place k hk
theorem Mt{p p' :HP}(k:Nat)(hp:p' =p):hs.set k p=hs.set k p' :=by rw[hp]
theorem GG.norm{g:Gp}{S S' :UV (Nat×Do)}{hs hs' :UV HP}(hS:Sub S' S)(hh:hs=hs')(k:GG g (Hd n D S' F hs') m r):GG g (Hd n D S F hs) m r:=by
 exact λhm a w ha=>k hm a w ⟨ha.1.sub hS,hh▸ha.2⟩
theorem GG.sP{t2 e2:If}{F0:Fz}{p2:H1 OF}{cap2:Nat}{l l2:UV α}{T:Of If}(hl:J3 l l2=some l')(i:Nat)(E:Ud P e sz c)(le0:F0<=F)(hd:Nat.blt d n=true)(ht:P.underlying t=some (.slice e))(ht2:P.underlying t2=some (.slice e2))(hT0:T[0]? =some t)(hT1:T[1]? =some t2)
  (hi:hs[i]? =some (Qj sz c F0 e p cap l)) (hr:QI sz c F p2 cap2 l2) (hx:QO S ox=some (.slice p l.length cap)) (hy:QO S oy=some (.slice p2 l2.length cap2))
  (k:∀p' cap',GL O P ops rest ks Q (Hd n D ((d,.slice p' l'.length cap')::S) F<|hs.set i<|Qj sz c F e p' cap' l') m r):GL O P ops (⟨some d,.call ⟨.builtin .append,#[ox,oy],T⟩,ty,pos,after,none⟩::rest) ks Q (Hd n D S F hs) m r:=by
 have h:=GG.append (f:=λ_=>m) (pos:=pos) (after:=after) (ty:=ty) i E le0 hd ht ht2 hT0 hT1 hi hr hx hy (λl'' p' cap' hl'' =>by rw[hl] at hl'';cases hl'';exact k p' cap');rw[hl] at h;exact h
theorem GG.tK{e:Nat}{l:UV α}(hl:ZW l x l.length=some l')(hd:Nat.blt d n=true)(ht:P.underlying t=some (.slice e))(hz:∀w,(sizeOf e).run P w= .ok sz w)
  (hr:QI sz c F p cap l) (hx:QO S ox=some (.slice p l.length cap)) (hy:QO S oy=some (.int kd x))
  (k:∀p' c',QI sz c F p' c' l'->GL O P ops rest ks Q (Hd n D ((d,.slice p' l'.length c')::S) F hs) m r):GL O P ops (⟨some d,.slice t ox (some oy) none none,ty,pos,after,none⟩::rest) ks Q (Hd n D S F hs) m r:=by
 have h:=GG.cm (f:=λ_=>m) (pos:=pos) (after:=after) (ty:=ty) hd ht hz hr hx hy (λl'' p' c' hl'' hr' =>by rw[hl] at hl'';cases hl'';exact k p' c' hr');rw[hl] at h;exact h
theorem GG.a6{oz:dO}{e:Nat}{l:UV α}{kd' :nm}(hl:ZW l 0 x=some l')(hd:Nat.blt d n=true)(ht:P.underlying t=some (.slice e))(hz:∀w,(sizeOf e).run P w= .ok sz w)
  (hr:QI sz c F p cap l) (hx:QO S ox=some (.slice p l.length cap)) (hy:QO S oy=some (.int kd x)) (hm:QO S oz=some (.int kd' x))
  (k:∀p' c',QI sz c F p' c' l'->GL O P ops rest ks Q (Hd n D ((d,.slice p' l'.length c')::S) F hs) m r):GL O P ops (⟨some d,.slice t ox none (some oy)<|some oz,ty,pos,after,none⟩::rest) ks Q (Hd n D S F hs) m r:=by
 have h:=GG.aC (f:=λ_=>m) (pos:=pos) (after:=after) (ty:=ty) hd ht hz hr hx hy hm (λl'' p' c' hl'' hr' =>by rw[hl] at hl'';cases hl'';exact k p' c' hr');rw[hl] at h;exact h
theorem GG.tJ(hd:Nat.blt d n=true)(ht:P.underlying t=some (.slice e))(hz:∀w,(sizeOf e).run P w= .ok sz w)(hx:QO S ox=some (.slice none 0 0))(hy:QO S oy=some (.int kd x))(h0:x=0)
  (k:GL O P ops rest ks Q (Hd n D ((d,.slice none 0 0)::S) F hs) m r):GL O P ops (⟨some d,.slice t ox none (some oy) none,ty,pos,after,none⟩::rest) ks Q (Hd n D S F hs) m r:=
 GG.val hd (λa w ha=>by
  subst h0;simp only[execOp,ha.1.eval hx,ha.1.eval hy,x7,lM,r7];rw[TN ht hz<|by omega];rfl) k
theorem GG.cg(c:Uk α)(hd:Nat.blt d n=true)(ht:P.underlying t=some (.slice e))(hz:∀w,(sizeOf e).run P w= .ok sz w)
  (k:∀b,GL O P ops rest ks Q (Hd n D ((d,.slice (some ⟨b,0,none⟩) 0 0)::S) F<|Qj sz c F e (some ⟨b,0,none⟩) 0 []::hs) m r):GL O P ops (⟨some d,.buildSlice t 0 #[],ty,pos,after,none⟩::rest) ks Q (Hd n D S F hs) m r:=
 GG.step rfl (.inr rfl) λhm a w ha=>by
  have h1:=ha.2.alloc<|.cells #[] e;refine⟨.slice (some ⟨w.heap.size,0,none⟩) 0 0,w.alloc<|.cells #[] e,?_,k w.heap.size hm _ _ ⟨ha.1.put hd _,h1.mono λm hm=>QQ (λm' hm' =>⟨by simp,by omega,.inr ⟨_,[],rfl,hm',by simp,Jb.nil⟩⟩) hm⟩⟩;have hr:∀g:Nat->Do,Array.map g (Array.range 0)=#[]:=λg=>by rw[show Array.range 0=#[] from rfl];simp
  simp[execOp,Instr.buildSlice,r7,J5 ht,hz,Result.andThen,newRow,hr,Instr.fill]
theorem QC{a b:HP}{as bs:UV HP}(h:a=b)(t:as=bs):a::as=b::bs:=by rw[h,t]
theorem GG.bg{x:β}(env' :Env)(M:UV Bool)(hMl:M.length=(X env).length)(hMc:Cw l i 0 M M=true)(hMe:DH M (X env)=DH M (X env'))(hx:(X env')[i]? =some (v,q))(le:F'<=F2)(hf:∀G,F2<=G->q G)
  (hC:C (Kk L i) env' =hs2):GL O P ops [] [] (Gu n D l X C L env F' i (some d) Si) (Hd n D ((d,v)::Si) F2 hs2) (some x) x:=
 GG.c9 env' M hMl hMc hMe hx le hf (λ_ h=>hC▸h)
theorem GG.av{x:β}(env' :Env)(M:UV Bool)(hMl:M.length=(X env).length)(hMc:Cw l i 0 M M=true)(hMe:DH M (X env)=DH M (X env'))(hx:(X env')[i]? =some (v,q))(le:F'<=F2)(hf:∀G,F2<=G->q G)
  (hC:C (Kk L i) env' =hs2):GL O P ops [] [] (Gu n D l X C L env F' i none Si) (Hd n D Si F2 hs2) (some x) x:=
 λ_ _a _w ha=>⟨rfl,env',F2,le,⟨M,hMl,hMc,hMe⟩,_,hx,hf,⟨ha.1,hC▸ha.2⟩⟩
end
end
section
variable{O:H1 Nat}{μ:Md}
section
variable{β:Type}{P:RK}{ops:Of x5}{rest:UV x5}{ks:UV Kt}{Q:nN->Act->PP->Prop}{m:H1 β}{r:β}
variable{n:Nat}{D:UV q8}{S:UV (Nat×Do)}{F F0:Fz}{hs:UV HP}
theorem GG.bu{α:Type}{sz:Nat}{c:Uk α}{T:If}{p:H1 OF}{cap:Nat}{l l' :UV α}(i:Nat)(_hi:hs[i]? =some (Qj sz c F0 T p cap l))(e:l=l')(k:GL O P ops rest ks Q (Hd n D S F<|hs.set i<|Qj sz c F0 T p cap l') m r):GL O P ops rest ks Q (Hd n D S F hs) m r:=by
 subst e
 have:hs.set i (Qj sz c F0 T p cap l)=hs:=by
  apply mD;intro j;rw[mS];split
  ·rename_i h;subst h;split
   ·exact _hi.symm
   ·rename_i h;rw[mC<|by omega]
  ·rfl
 rw[this] at k;exact k
end
end
section
variable{α:Type}
def FW(W:PP):Fz:={mem:=λb=>W.heap[b]?,os:=W.os,tape:=W.tape,out:=W.output}
theorem SH.start(W:PP):SH W (FW W) AO:=⟨λ_=>none,trivial,⟨λ_=>.inl rfl,λ_ _ e=>by simp at e,λ_ _ e=>by simp at e,λ_ _ e=>e,rfl,rfl,rfl⟩⟩
def SO{H:Type}(enc:If×Do->H)(P:RK)(W:PP)(t:If)(c:Uk α)(ok:α->Prop):Prop:=∀sp held fuel cs x,DataW.trod enc P W 0 sp held fuel t cs=some x->∃m,ok m/\∀F',FW W<=F'->c F' m cs
section
variable{H:Type}{enc:If×Do->H}{P:RK}{W:PP}
theorem Ir{β:Type}{f:α->H1 β}:∀{l:UV α} {r:UV β},l.mapM f=some r->∀(i:Nat) (a:α),l[i]? =some a->∃b,f a=some b/\r[i]? =some b
 | [],r,h,i,a,e=>by simp at e
 | a::l,r,h,i,a',e=>by
  rw[List.mapM_cons] at h
  cases ha:f a with
  | none=>rw[ha] at h;simp at h
  | some b=>
   rw[ha] at h
   cases hl:l.mapM f with
   | none=>rw[hl] at h;simp at h
   | some bs=>
    rw[hl] at h;simp at h;subst h
    cases i with
    | zero=>simp at e;subst e;exact⟨b,ha,by simp⟩
    | succ i=>exact Ir hl i a' (by simpa using e) |>.imp λb hb=>⟨hb.1,by simpa using hb.2⟩
theorem kM{q:Nat->α->Prop}:∀(n:Nat),(∀i,i < n->∃m,q i m)->∃l:UV α,l.length=n/\∀i m,l[i]? =some m->q i m
 | 0,_=>⟨[],rfl,λi m h=>by simp at h⟩
 | n+1,h=>by
  obtain⟨l,hl,hq⟩:=kM n λi hi=>h i (by omega);obtain⟨m,hm⟩:=h n (by omega);refine⟨l++[m],by simp[hl],λi m' e=> ?_⟩;rcases nA i l.length with hi | hi
  ·rw[nK hi] at e;exact hq i m' e
  ·rw[nr hi] at e
   have:i - l.length=0:=by have:=Zt e;simp at this;omega
   rw[this] at e;simp at e;subst e
   rw[show i=n by omega];exact hm
theorem kc{w:PP}{a:OF}{v:Do}(h:w.cell? a=some v):a.spot=none/\∃cs T fr,w.heap[a.block]? =some (.cells cs T fr)/\cs[a.off]? =some v:=by
 unfold World.cell? at h
 split at h
 ·rename_i c T fr hb;split at h
  ·cases h
  ·rename_i hs;exact⟨by simpa using hs,c,T,fr,hb,h⟩
 ·cases h
theorem addr_add(b o i:Nat):(⟨b,o,none⟩:OF).add i=⟨b,o+i,none⟩:=by
 unfold Addr.add;split
 ·rename_i h;subst h;rfl
 ·rfl
theorem EY(a:OF):a.add 0=a:=by simp[Addr.add]
theorem qF{w:PP}{a:OF}{n:Nat}{vs:UV Do}(h:w.cells? 0 a n=some vs)(hn:0 < n):a.spot=none/\∃cs T fr,w.heap[a.block]? =some (.cells cs T fr)/\(cs.toList.drop a.off).take n=vs:=by
 obtain⟨_,hl,hc⟩:=World.cells?_some h;have h0:vs[0]? =some (vs[0]'(by omega)):=Nm _;have h1:=(hc 0 hn).trans h0;rw[EY] at h1
 obtain⟨hs,cs,T,fr,hb,_⟩:=kc h1;refine⟨hs,cs,T,fr,hb,?_⟩;obtain⟨b,o,s⟩:=a;simp only at hs hb ⊢
 subst hs;apply mD;intro i;rw[rz];split
 ·rename_i hi;have h2:=hc i hi;rw[addr_add] at h2
  unfold World.cell? at h2
  simp only[hb] at h2
  simp at h2
  rw[mF,<-h2];simp
 ·rename_i hi;rw[mC<|by omega]
theorem SO.slice{t e sz:Nat}{c:Uk α}{ok:α->Prop}(ht:P.underlying t=some (.slice e))(hc:P.cellsOf e=sz)(hsz:0 < sz)(V:SO enc P W e c ok):SO enc P W t (gg sz c) (λl=>∀x∈l,ok x):=by
 intro sp held fuel cs x h;cases fuel with
 | zero=>simp[DataW.trod] at h
 | succ n=>
  unfold DataW.trod at h
  rw[ht] at h
  split at h<;>simp_all only[reduceCtorEq,BY,TypeDesc.slice.injEq]
  ·exact⟨[],by simp,λF' _=>⟨none,0,rfl,QI.nil⟩⟩
  ·rename_i _ _ e' a len cap he;subst he;split at h
   ·rename_i hb;obtain⟨elems,he,_⟩:=nF.1 h
    have hel:∀i,i < len->∃m,ok m/\∃vs,W.cells? 0 (a.add<|i*sz) sz=some vs/\∀F',FW W<=F'->c F' m vs:=by
     intro i hi;obtain⟨y,hy,_⟩:=Ir he i i (by simp[hi]);obtain⟨vs,hvs,hy⟩:=nF.1 hy;obtain⟨m,hm,hF⟩:=V _ _ _ _ _ hy;exact⟨m,hm,vs,hvs,hF⟩
    obtain⟨l,hl,hq⟩:=kM len hel;refine⟨l,λx hx=> ?_,λF' le=>⟨some a,cap,by rw[hl],by omega,?_,?_⟩⟩
    ·obtain⟨i,hi,e⟩:=mT hx;exact(hq i x (by rw[<-e];exact Nm hi)).1
    ·have:=hb.2.2;simp[maxLen] at this;omega
    ·cases l with
     | nil=>exact .inl rfl
     | cons x0 l0=>
      obtain⟨_,vs0,hv0,_⟩:=hq 0 x0 rfl;rw[Nat.zero_mul,EY] at hv0
      obtain⟨hs,cs,T,fr,hcell,_⟩:=qF hv0 hsz;obtain⟨b,o,s⟩:=a;simp only at hs hcell
      subst hs;refine .inr ⟨b,o,cs,T,fr,rfl,?_,λi x hx F'' le' => ?_⟩
      ·exact le.mem _ _ hcell
      ·obtain⟨_,vs,hv,hF⟩:=hq i x hx;rw[addr_add] at hv
       obtain⟨_,cs',T',fr',hcell',htk⟩:=qF hv hsz;simp only at hcell' htk
       rw[hcell] at hcell';cases hcell'
       have:=hF F''<|Fz.le_trans le le';rw[<-htk] at this
       exact this
   ·cases h
end
end
section
open Go.ChangeShapes Go.WideShapes Go.ChangeAt Go.RowKit
variable{t:If}{v:Do}{b0:Nat}
section
variable{H:Type}{enc:If×Do->H}{P:RK}{W:PP}
theorem zf{r:Reach}{x:Do}(hk:Value.okWide P W r b0 t v)(hn:∀fs,P.underlying t≠some (.struct fs))(ha:∀n e,P.underlying t≠some (.array n e))(hc:v.cells.toList=[x]):v=x:=by
 have hk' :Cell.okWide P W r b0 t v:=by
  unfold Value.okWide at hk
  split at hk
  ·rename_i fs h;exact absurd h<|hn fs
  ·rename_i n e h;exact absurd h<|ha n e
  ·exact hk
 cases v with
 | agg cs=>
  exfalso;unfold Cell.okWide at hk'
  split at hk' <;>first | contradiction | skip
  unfold Cell.ok at hk'
  split at hk' <;>first | contradiction | exact hk'
 | _=>simpa[Value.cells] using hc
theorem hZ{k:nm}{d:DataW H}{ps:UV MemPlace}(ht:P.underlying t=some (.int k))(hk:Value.okWide P W .any b0 t v)(hd:DataW.Trod enc P W 0 (λ_=>true) true t v d ps):∃m,(Lit.int k m).wf=true/\v= .int k m:=by
 obtain⟨n,h,_,_,hw⟩:=open_int ht hk hd;exact⟨n,hw,h⟩
theorem uH{α:Type}{e:If}{sz:Nat}{c:Uk α}{ok:UV α->Prop}{d:DataW H}{ps:UV MemPlace}(ht:P.underlying t=some (.slice e))(V:SO enc P W t (gg sz c) ok)
  (hk:Value.okWide P W .any b0 t v) (hd:DataW.Trod enc P W 0 (λ_=>true) true t v d ps):∃m p k,ok m/\v= .slice p m.length k/\QI sz c (FW W) p k m:=by
 obtain⟨fuel,hf⟩:=hd;obtain⟨m,hm,hF⟩:=V _ _ _ _ _ hf;obtain⟨p,k,hc,hr⟩:=hF _<|Fz.le_refl _;exact⟨m,p,k,hm,zf hk (by rw[ht];simp) (by rw[ht];simp) hc,hr⟩
theorem uG{w' :PP}{F' :Fz}{H' :HP}(le:FW W<=F')(h:SH w' F' H'):Below W.heap.size W w' :=by
 obtain⟨h1,h2⟩:=SH.size_le h (λb o e=>e) le;obtain⟨m,_,hm⟩:=h;exact⟨hm.os.trans le.os,hm.tape.trans le.tape,hm.out.trans le.out,h1,h2⟩
theorem S9{W' :PP}(hl:laidOutB P=true)(hb:Below W.heap.size W W'):∀{ts:UV If} {vs:UV Do} {ds:UV (DataW H)} {ps:UV MemPlace},(ts.all λt=>P.readableRec t&&decide (t < P.types.size))=true->
  DataW.TrodAll enc P W 0 (λ_=>true) true ts vs ds ps->(∀x∈ps,x.block < W.heap.size)->DataW.TrodAll enc P W' 0 (λb=>decide<|b < W.heap.size) true ts vs ds ps
 | [],vs,ds,ps,_,h,_=>by
  obtain⟨rfl,rfl,rfl⟩:=trodAll_nil h;rfl
 | t::ts,vs,ds,ps,ht,h,hlt=>by
  obtain⟨v,vs',d,ds',p,q,rfl,rfl,rfl,hd,hr⟩:=trodAll_cons h;simp only[nZ,AT,IR] at ht
  exact⟨p,q,hb.trod hl ht.1.1 ht.1.2 hd (λx hx=>hlt x<|by simp[hx]),S9 hl hb (by simpa using ht.2) hr (λx hx=>hlt x<|by simp[hx]),rfl⟩
theorem P2:∀{ts:UV If} {vs:UV Do} {ds:UV (DataW H)} {ps:UV MemPlace} {b:Nat} {sp:Nat->Bool} {hd:Bool},DataW.TrodAll enc P W b sp hd ts vs ds ps->ds.length=ts.length
 | [],vs,ds,ps,_,_,_,h=>by obtain⟨_,rfl,_⟩:=trodAll_nil h;rfl
 | t::ts,vs,ds,ps,_,_,_,h=>by
  obtain⟨v,vs',d,ds',p,q,rfl,rfl,rfl,_,hr⟩:=trodAll_cons h;simp[P2 hr]
end
end
section
variable{σ β α τ:Type}{err:UV α->α->Int}{l pre:UV α}{x:α}
theorem Qn{n:Int}(h1: -9223372036854775808<=n)(h2:n<=9223372036854775807):Q5 n=n:=by
 have e:IntKind.i64.bits=64:=rfl;simp only[Q5,IntKind.wrap,e];simp[IntKind.signed];omega
theorem Zw(l:UV α)(i:Nat):ZK l (i:Int)=l[i]? :=by
 simp[ZK]
theorem wJ{i:Int}(h0:0<=i)(h:i < l.length):∃x,ZK l i=some x/\l[i.toNat]? =some x:=by
 obtain⟨k,rfl⟩:=eV h0;rw[Zw];have hk:k < l.length:=by omega
 exact⟨l[k],Nm hk,by simp[hk]⟩
theorem GA{n i:Nat}(h:i < n):VJ n (i:Int)=some i:=by
 unfold VJ;rw[TO<|by omega];simp
theorem Nc{x y:Int}(h:0 < y)(h1:0<=x)(h2:x<=9223372036854775807):BK .i64 x y=some (x / y):=by
 unfold BK;rw[RW (by omega),mG h1];have a:=oi h1<|Int.le_of_lt h;have b:=Int.ediv_le_self y h1;rw[show IntKind.i64.wrap (x / y)=Q5 (x / y) from rfl,Qn (by omega)<|by omega]
theorem wf_u16{n:Int}(h:(Lit.int .u16 n).wf=true):0<=n/\n<=65535:=by
 have h1:IntKind.min .u16=0:=by decide
 have h2:IntKind.max .u16=65535:=by decide
 simp only[Lit.wf,AT,IR,h1,h2] at h
 exact h
def Rv(step:τ->Nat->α->H1 (UK τ β))(fin:τ->β):UV α->Nat->τ->H1 β
 | [],_,t=>some (fin t)
 | x::l,i,t=>match step t i x with
  | none=>none
  | some (.next t')=>Rv step fin l (i+1) t'
  | some (.done b)=>some b
def UK.sk(f:τ->σ):UK τ β->UK σ β
 | .next t=>.next (f t)
 | .done b=>.done b
variable{body:σ->H1 (UK σ β)}
theorem TV(mk:τ->Nat->σ)(step:τ->Nat->α->H1 (UK τ β))(fin:τ->β)(l:UV α)
  (hb:∀t (i:Nat) x,l[i]? =some x->body (mk t i)=(step t i x).map (UK.sk λt' =>mk t'<|i+1))
  (he:∀t,body (mk t l.length)=some (.done<|fin t)):∀(k i:Nat) (t:τ),i+k=l.length->ZQ body (mk t i)=Rv step fin (l.drop i) i t
 | 0,i,t,hi=>by
  have:i=l.length:=by omega
  subst this;rw[ZC,he,List.drop_length];rfl
 | k+1,i,t,hi=>by
  have hlt:i < l.length:=by omega
  have hx:l[i]? =some l[i]:=Nm hlt;rw[ZC,hb t i _ hx,nD hlt];simp only[Rv];cases hs:step t i l[i] with
  | none=>rfl
  | some c=>
   cases c with
   | done b=>rfl
   | next t' =>exact TV mk step fin l hb he k (i+1) t'<|by omega
theorem Dr(mk:τ->Nat->σ)(step:τ->Nat->α->H1 (UK τ β))(fin:τ->β)(l:UV α)
  (hb:∀t (i:Nat) x,l[i]? =some x->body (mk t i)=(step t i x).map (UK.sk λt' =>mk t'<|i+1))
  (he:∀t,body (mk t l.length)=some (.done<|fin t)) (t:τ):ZQ body (mk t 0)=Rv step fin l 0 t:=
 TV mk step fin l hb he l.length 0 t (by omega)
theorem AI(mk:τ->Nat->σ)(step:τ->Nat->α->H1 (UK τ β))(fin:τ->β)(l:UV α)(J:Nat->τ->Prop)
  (hb:∀t (i:Nat) x,l[i]? =some x->J i t->body (mk t i)=(step t i x).map (UK.sk λt' =>mk t'<|i+1))
  (hJ:∀t (i:Nat) x t',l[i]? =some x->J i t->step t i x=some (.next t')->J (i+1) t')
  (he:∀t,J l.length t->body (mk t l.length)=some (.done<|fin t)):∀(k i:Nat) (t:τ),i+k=l.length->J i t->ZQ body (mk t i)=Rv step fin (l.drop i) i t
 | 0,i,t,hi,hj=>by
  have:i=l.length:=by omega
  subst this;rw[ZC,he t hj,List.drop_length];rfl
 | k+1,i,t,hi,hj=>by
  have hlt:i < l.length:=by omega
  have hx:l[i]? =some l[i]:=Nm hlt;rw[ZC,hb t i _ hx hj,nD hlt];simp only[Rv];cases hs:step t i l[i] with
  | none=>rfl
  | some c=>
   cases c with
   | done b=>rfl
   | next t' =>exact AI mk step fin l J hb hJ he k (i+1) t' (by omega)<|hJ t i _ t' hx hj hs
def Wa(err:UV α->α->Int)(l:UV α):Prop:=∀pre x post,l=pre++x::post->err pre x=0
def SU(err:UV α->α->Int)(l pre:UV α)(x:α):Prop:=∃post,l=pre++x::post/\Wa err pre/\err pre x≠0
theorem Wa.nil{α:Type}{err:UV α->α->Int}:Wa err []:=λpre x post h=>by simp at h
theorem Wa.snoc(h:Wa err l)(hx:err l x=0):Wa err (l++[x]):=by
 intro pre y post e;rcases List.eq_nil_or_concat post with rfl | ⟨post',z,rfl⟩
 ·have:=List.append_inj' e rfl;obtain⟨rfl,e2⟩:=this;simp only[mv,and_true] at e2
  subst e2;exact hx
 ·rw[List.concat_eq_append,<-mQ,<-ij] at e
  have:=List.append_inj' e rfl;exact h pre y post' this.1
theorem Wa.init{k:UV α}(h:Wa err (l++k)):Wa err l:=λpre x post e=>h pre x (post++k) (by rw[e];simp)
theorem SU.pd(h:SU err l pre x):¬Wa err l:=λk=>by
 obtain⟨post,e,_,hx⟩:=h;exact hx<|k pre x post e
theorem G4(mk:Nat->τ->σ)(err:UV α->α->Int)(bad:Nat->Int->β)(fin:τ->β)(R:UV α->τ->Prop)(l:UV α)
  (h:∀pre x post t,l=pre++x::post->Wa err pre->R pre t->(err pre x≠0/\body (mk pre.length t)=some (.done<|bad pre.length<|err pre x))∨(err pre x=0/\∃t',body (mk pre.length t)=some (.next<|mk (pre.length+1) t')/\R (pre++[x]) t'))
  (hend:∀t,Wa err l->R l t->body (mk l.length t)=some (.done<|fin t)):∀(post pre:UV α) (t:τ),l=pre++post->Wa err pre->R pre t->
  (∃p x,SU err l p x/\ZQ body (mk pre.length t)=some (bad p.length<|err p x))∨(Wa err l/\∃t',R l t'/\ZQ body (mk pre.length t)=some (fin t'))
 | [],pre,t,hl,ho,hr=>by
  rw[np] at hl;subst hl
  exact .inr ⟨ho,t,hr,by rw[ZC,hend t ho hr]⟩
 | x::post,pre,t,hl,ho,hr=>by
  rcases h pre x post t hl ho hr with⟨he,hs⟩ | ⟨he,t',hs,hr'⟩
  ·exact .inl ⟨pre,x,⟨post,hl,ho,he⟩,by rw[ZC,hs]⟩
  ·have:=G4 mk err bad fin R l h hend post (pre++[x]) t' (by rw[hl];simp) (ho.snoc he) hr';rw[ZC,hs];simpa using this
theorem HH(mk:Nat->τ->σ)(fin:τ->β)(R:UV α->τ->Prop)(l:UV α)
  (h:∀pre x post t,l=pre++x::post->R pre t->∃t',body (mk pre.length t)=some (.next<|mk (pre.length+1) t')/\R (pre++[x]) t')
  (hend:∀t,R l t->body (mk l.length t)=some (.done<|fin t)):∀(post pre:UV α) (t:τ),l=pre++post->R pre t->∃t',R l t'/\ZQ body (mk pre.length t)=some (fin t')
 | [],pre,t,hl,hr=>by
  rw[np] at hl;subst hl
  exact⟨t,hr,by rw[ZC,hend t hr]⟩
 | x::post,pre,t,hl,hr=>by
  obtain⟨t',hs,hr'⟩:=h pre x post t hl hr;have:=HH mk fin R l h hend post (pre++[x]) t' (by rw[hl];simp) hr';rw[ZC,hs];simpa using this
theorem Hu(mk:Nat->τ->σ)(fin:τ->β)(R:Nat->τ->Prop)(n:Nat)
  (h:∀i t,i < n->R i t->∃t',body (mk i t)=some (.next<|mk (i+1) t')/\R (i+1) t')
  (hend:∀t,R n t->body (mk n t)=some (.done<|fin t)):∀(k i:Nat) (t:τ),i+k=n->R i t->∃t',R n t'/\ZQ body (mk i t)=some (fin t')
 | 0,i,t,e,hr=>by
  have:i=n:=by omega
  subst this;exact⟨t,hr,by rw[ZC,hend t hr]⟩
 | k+1,i,t,e,hr=>by
  obtain⟨t',hs,hr'⟩:=h i t (by omega) hr;rw[ZC,hs];exact Hu mk fin R n h hend k (i+1) t' (by omega) hr'
theorem ZR{e:H1 α}{f:α->H1 β}{a:α}{r:H1 β}(h:e=some a)(k:f a=r):e.bind f=r:=by
 rw[h];exact k
theorem Ay{k:UV α}(h:l.length+k.length<=4294967296):J3 l k=some (l++k):=by
 unfold J3;rw[TO h]
theorem VD{post:UV α}(h:l=pre++x::post):l[pre.length]? =some x:=by rw[h];simp
theorem XQ{post:UV α}(h:l=pre++x::post):pre.length < l.length:=by rw[h];simp
theorem CZ{p:UV α->Prop}(h0:p [])(hs:∀l x,p l->p (l++[x]))(l:UV α):p l:=by
 have:∀r:UV α,p r.reverse:=by
  intro r
  induction r with
  | nil=>exact h0
  | cons x r ih=>rw[List.reverse_cons];exact hs _ _ ih
 have:=this l.reverse
 rwa[List.reverse_reverse] at this
theorem Is(I:σ->Prop)(μ:σ->Nat)(Q:β->Prop)
  (h:∀s,I s->(∃s',body s=some (.next s')/\I s'/\μ s' < μ s)∨∃b,body s=some (.done b)/\Q b):∀(n:Nat) (s:σ),μ s<=n->I s->∃b,ZQ body s=some b/\Q b
 | 0,s,hn,hi=>by
  rcases h s hi with⟨s',_,_,hlt⟩ | ⟨b,hb,hq⟩
  ·omega
  ·exact⟨b,by rw[ZC,hb],hq⟩
 | n+1,s,hn,hi=>by
  rcases h s hi with⟨s',hb,hi',hlt⟩ | ⟨b,hb,hq⟩
  ·rw[ZC,hb];exact Is I μ Q h n s' (by omega) hi'
  ·exact⟨b,by rw[ZC,hb],hq⟩
end
section
variable{P:RK}{α τ γ β σ:Type}{arg:α->Fz->UV Do->Prop}{S:UV (Nat×Do)}{w:PP}{Q:nN->Act->PP->Prop}{F Fb:Fz}{hs hs':UV HP}{l n:Nat}{L:Loop}{D:UV q8}{vs:UV Do}{assign body:lN}{m:H1 β}{ks:UV Kt}{f:x4}{r:β}{fn:lK}
variable{O:H1 Nat}{μ:Md}
theorem Ld{tmps:Of Do}{R:oJ->PP->Prop}:RoundIn (Rc O) n P l f tmps assign body w R↔RoundIn Fence.wide n P l f tmps assign body w R:=by
 cases O with
 | none=>exact ik
 | some l=>exact ik
def U1(P:RK)(l:Nat)(F:Fz)(arg:α->Fz->UV Do->Prop)(Y:σ->Fz->HP)(y:α->σ->H1 (σ×Bool)):Prop:=
 (∀s F0 F1 m,F<=F0->F0<=F1->Y s F0 m->Y s F1 m)/\
 ∀F1,F<=F1->∀x vs s r,arg x F1 vs->y x s=some r->∀w R,SH w F1 (star (Y s F1) R)->
  ∃f tmps assign body,(Instr.yield l vs.toArray).run P w= .ok (.round l f tmps assign body) w/\
   RoundIn Fence.wide 0 P l f tmps assign body w (λe w' =>∃F2,F1<=F2/\e= .returned (.bool r.2)/\SH w' F2 (star (Y r.1 F2) R))
def uW(P:RK)(F:Fz)(f:x4)(caps:UV Do)(arg:α->Fz->UV Do->Prop)(mk:∀σ:Type,(α->σ->H1 (σ×Bool))->σ->H1 σ):Prop:=
 (∀args w,(callFunc f args).run P w= .ok (.enter f args) w)/\
 ∀(σ:Type) (l:Nat) (Y:σ->Fz->HP) (y:α->σ->H1 (σ×Bool)) (F1:Fz),F<=F1->U1 P l F1 arg Y y->∀s,CT P f (.func (.yield l) #[] #[]::caps).toArray F1 (Y s F1) (mk σ y s) (λ_ _ _=>True) λs' F' _=>Y s' F'
section
variable{β:Type}{P:RK}{ops:Of x5}{rest:UV x5}{ks:UV Kt}{Q:nN->Act->PP->Prop}{m:H1 β}{r:β}
variable{n:Nat}{D:UV q8}{S:UV (Nat×Do)}{F:Fz}{hs:UV HP}
theorem GG.aS{d i:Nat}{ty:If}{pos:String}{after:Of lL}{of:dO}{os:UV dO}{T:Of If}{F0:Fz}{Y:σ->Fz->HP}{y:α->σ->H1 (σ×Bool)}{x:α}{s:σ}{g:σ×Bool->H1 β}
  (hd:Nat.blt d n=true) (hy:U1 P l Fb arg Y y) (hf:QO S of=some (.func (.yield l) #[] #[])) (ha:Ub S os=some vs) (hx:arg x F vs) (hi:hs[i]? =some (Y s F0)) (le0:Fb<=F0) (le:F0<=F)
  (k:∀p F',y x s=some p->F<=F'->GL O P ops rest ks Q (Hd n D ((d,.bool p.2)::S) F'<|hs.set i<|Y p.1 F') (g p) r):GL O P ops (⟨some d,.call ⟨.value of,os.toArray,T⟩,ty,pos,after,none⟩::rest) ks Q (Hd n D S F hs) ((y x s).bind g) r:=by
 intro hm a w hA;cases he:y x s with
 | none=>rw[he] at hm;cases hm
 | some p=>
  rw[he] at hm
  obtain⟨f,tmps,assign,body,hr,hround⟩:=hy.2 F (Fz.le_trans le0 le) x vs s p hx he w _<|(hA.2.pull hi).mono λ_ hm=>QQ (λ_ hm=>hy.1 s F0 F _ le0 le hm) hm;refine ga ?_;unfold Xa;rw[TO<|by simp[Region.wanted]];refine⟨.inr rfl,?_⟩;have e:=HI hA.1 ha
  have hrun:(execOp a.eval ⟨some d,.call ⟨.value of,os.toArray,T⟩,ty,pos,after,none⟩).run P w= .ok (.round l f tmps assign body) w:=by
   simp[execOp,resolve,Deferred.ofValue,hA.1.eval hf,e,invoke,hr]
  rw[hrun];refine⟨λe=>(by rw[Dv] at e;cases e),Ld.2<|hround.mono ?_⟩;rintro _ w' ⟨F2,le2,rfl,hw⟩;exact k p F2 he le2 hm _ _ ⟨hA.1.put hd _,SH.push hi hw⟩
theorem GG.rf{g:Gp}{F0:Fz}{Y:σ->Fz->HP}{y:α->σ->H1 (σ×Bool)}{s:σ}(i:Nat)(hy:U1 P l Fb arg Y y)(hi:hs[i]? =some (Y s F0))(le0:Fb<=F0)(le:F0<=F)
  (k:GG g (Hd n D S F<|hs.set i<|Y s F) m r):GG g (Hd n D S F hs) m r:=by
 exact GG.aA (λ_ _ h=>⟨h.1,SH.push hi<|(h.2.pull hi).mono λ_ hm=>QQ (λ_ hm=>hy.1 s F0 F _ le0 le hm) hm⟩) k
end
def UC(L:Loop):Obj:=.loop {L with state:=.ready,pending:=none}
def V2(L:Loop):Obj:=.loop {L with state:=.busy,pending:=none}
def Iv(L:Loop):Obj:=.loop {L with state:=.done,pending:=some .ret}
def TU(L:Loop)(c:H1 lN):Obj:=.loop {L with state:=.exhausted,pending:=c}
def ku(body:α->τ->H1 (UK τ γ)):α->UK τ γ->H1 (UK τ γ×Bool)
 | x,.next s=>(body x s).map λc=>(c,match c with | .next _=>true | .done _=>false)
 | _,.done _=>none
def yS(Fb:Fz)(l:Nat)(L:Loop)(I:τ->Fz->UV HP->Prop)(J:γ->Fz->UV HP->Prop):UK τ γ->Fz->HP
 | .next s,F=>λm=>∃F0 hs,Fb<=F0/\F0<=F/\I s F0 hs/\star (pt l<|UC L) (Qi hs) m
 | .done b,F=>λm=>∃F0 hs,Fb<=F0/\F0<=F/\J b F0 hs/\star (pt l<|Iv L) (Qi hs) m
def RP(l:Nat)(L:Loop)(I:τ->Fz->UV HP->Prop)(J:γ->Fz->UV HP->Prop)(F1:Fz)(R:HP)(ctl:UK τ γ):nN->Act->PP->Prop:=λe _ w=>
 match ctl with
 | .next s=>e= .normal/\∃F2 hs,F1<=F2/\I s F2 hs/\SH w F2 (Qi<|pt l (V2 L)::R::hs)
 | .done b=>e= .ret/\∃F2 hs,F1<=F2/\J b F2 hs/\SH w F2 (Qi<|pt l (V2 L)::R::hs)
def BP(P:RK)(l:Nat)(body:lN)(Q:nN->Act->PP->Prop):nN->Act->PP->Prop:=λe a w=>
 e= .normal/\∃w₂,(Instr.beginRound l).run P w= .ok () w₂/\body.wpIn (Rc<|some l) 0 P Q a w₂
theorem jO(h:w.heap[l]? =some (UC L)):(Instr.beginRound l).run P w= .ok () (put w l<|V2 L):=run_beginRound (r:={L with state:=.ready,pending:=none}) h rfl
theorem IM(h:w.heap[l]? =some (V2 L)):(Instr.endRound l none).run P w= .ok (.bool true) (put w l<|UC L):=run_endRound (r:={L with state:=.busy,pending:=none}) none h
theorem yt(h:w.heap[l]? =some (V2 L)):(Instr.endRound l<|some .ret).run P w= .ok (.bool false) (put w l<|Iv L):=run_endRound (r:={L with state:=.busy,pending:=none}) (some .ret) h
theorem Dj(h:w.heap[l]? =some (UC L)):(Instr.endLoop l).run P w= .ok none (put w l<|TU L none):=run_endLoop (r:={L with state:=.ready,pending:=none}) h (by simp)
theorem Lb(h:w.heap[l]? =some (Iv L)):(Instr.endLoop l).run P w= .ok (some .ret) (put w l<|TU L<|some .ret):=run_endLoop (r:={L with state:=.done,pending:=some .ret}) h (by simp)
section
variable{β:Type}{P:RK}{m:H1 β}{r:β}{n:Nat}{D:UV q8}{S:UV (Nat×Do)}{F F1:Fz}{hs:UV HP}{R:HP}
variable{α τ γ:Type}{l:Nat}{L:Loop}{I:τ->Fz->UV HP->Prop}{J:γ->Fz->UV HP->Prop}{body assign:lN}
theorem GG.begin(i:Nat)(hi:hs[i]? =some (pt l<|UC L))(k:GC (some l) P body [] Q (Hd n D S F<|hs.set i<|pt l<|V2 L) m r):GE (some l) P [] (BP P l body Q) (Hd n D S F hs) m r:=λhm a _ ha=>⟨rfl,_,jO<|SH.bT hi ha.2,k hm a _ ⟨ha.1,SH.putAt hi ha.2 _⟩⟩
theorem RP.norm{s:τ}{ctl:UK τ γ}{hs' :UV HP}(le:F1<=F)(h:I s F hs')(e:hs=pt l (V2 L)::R::hs'):some (UK.next s)=some ctl->∀a w,Hd n D S F hs a w->RP l L I J F1 R ctl .normal a w:=λe' a w ha=>by
 simp only[BY] at e';subst e';subst e;exact⟨rfl,F,hs',le,h,ha.2⟩
theorem RP.ret{b:γ}{ctl:UK τ γ}(le:F1<=F)(h:J b F hs')(e:hs=pt l (V2 L)::R::hs'):some (UK.done b)=some ctl->∀a w,Hd n D S F hs a w->RP l L I J F1 R ctl .ret a w:=λe' a w ha=>by
 simp only[BY] at e';subst e';subst e;exact⟨rfl,F,hs',le,h,ha.2⟩
theorem RP.aI{s s' :τ}(le:F1<=F)(h:I s F hs')(e:hs=pt l (V2 L)::R::hs'):some s=some s'->∀a w,Hd n D S F hs a w->RP l L I J F1 R (.next s') .normal a w:=λe' a w ha=>by
 simp only[BY] at e';subst e';subst e;exact⟨rfl,F,hs',le,h,ha.2⟩
theorem SH.three{p q:HP}(h:SH w F (Qi<|p::q::hs)):SH w F (star (star p<|Qi hs) q):=
 h.mono λm hm=>by
  obtain⟨m1,m2,d,s1,s2,hp,hq⟩:=hm;obtain⟨m3,m4,d',t1,t2,hq',hr⟩:=hq
  classical
  refine⟨λk=>if m1 k=none then m4 k else m1 k,m3,?_,?_,t1.trans s2,⟨m1,m4,d.sub (Mem.sub.refl _) t2,?_,?_,hp,hr⟩,hq'⟩
  ·intro k;by_cases e:m1 k=none
   ·simp only[e,Rw];exact(d' k).symm
   ·simp only[e,T2];rcases(d.sub (Mem.sub.refl m1) t1) k with h | h
    ·exact absurd h e
    ·exact .inr h
  ·intro k o e;by_cases e' :m1 k=none
   ·simp only[e',Rw] at e;exact s2 k o<|t2 k o e
   ·simp only[e',T2] at e;exact s1 k o e
  ·intro k o e;simp[e]
  ·intro k o e;have:m1 k=none:=(d.sub (Mem.sub.refl m1) t2).sa e;simp[this,e]
theorem SH.sQ{p q:HP}(h:SH w F (star (star p<|Qi hs) q)):SH w F (Qi<|p::q::hs):=
 h.mono λm hm=>by
  obtain⟨m1,m2,d,s1,s2,⟨m3,m4,d',t1,t2,hp,hr⟩,hq⟩:=hm
  classical
  refine⟨m3,λk=>if m2 k=none then m4 k else m2 k,?_,t1.trans s1,?_,hp,m2,m4,?_,?_,?_,hq,hr⟩
  ·intro k;by_cases e:m2 k=none
   ·simp only[e,Rw];exact d' k
   ·simp only[e,T2];rcases(d.sub t1<|Mem.sub.refl m2) k with h | h
    ·exact .inl h
    ·exact absurd h e
  ·intro k o e;by_cases e' :m2 k=none
   ·simp only[e',Rw] at e;exact s1 k o<|t2 k o e
   ·simp only[e',T2] at e;exact s2 k o e
  ·exact(d.sub t2<|Mem.sub.refl m2).symm
  ·intro k o e;simp[e]
  ·intro k o e;have:m2 k=none:=(d.sub t2<|Mem.sub.refl m2).bk e;simp[this,e]
theorem SH.cU{s:τ}(h:SH w F (star (yS Fb l L I J (.next s) F) R)):∃F0 hs,Fb<=F0/\F0<=F/\I s F0 hs/\SH w F (Qi<|pt l (UC L)::R::hs):=by
 obtain⟨m,⟨m1,m2,d,s1,s2,⟨F0,hs,h0,h1,hI,hp⟩,hq⟩,k⟩:=h;exact⟨F0,hs,h0,h1,hI,SH.sQ ⟨m,⟨m1,m2,d,s1,s2,hp,hq⟩,k⟩⟩
theorem SH.aH{b:γ}(h:SH w F (star (yS Fb l L I J (.done b) F) R)):∃F0 hs,Fb<=F0/\F0<=F/\J b F0 hs/\SH w F (Qi<|pt l (Iv L)::R::hs):=by
 obtain⟨m,⟨m1,m2,d,s1,s2,⟨F0,hs,h0,h1,hI,hp⟩,hq⟩,k⟩:=h;exact⟨F0,hs,h0,h1,hI,SH.sQ ⟨m,⟨m1,m2,d,s1,s2,hp,hq⟩,k⟩⟩
theorem Rm{arg:α->Fz->UV Do->Prop}{bm:α->τ->H1 (UK τ γ)}{S' :UV Do->UV (Nat×Do)}(hP:∀x F' vs,arg x F' vs->vs.length=L.params.size)(ha:L.assign=assign)(hb:L.body=body)
  (hsl:∀vs:UV Do,vs.length=L.params.size->Sl n [] (S' vs) {tmps:=(L.params.zip vs.toArray).foldl (λtmps (t,a)=>tmps.setIfInBounds t a) L.tmps,defers:=[]})
  (round:∀F0 F1 x vs s ctl R hs,F<=F0->F0<=F1->arg x F1 vs->I s F0 hs->GC (some l) P assign [] (BP P l body<|RP l L I J F1 R ctl) (Hd n [] (S' vs) F1<|pt l (UC L)::R::hs) (bm x s) ctl):U1 P l F arg (yS F l L I J) (ku bm):=by
 refine⟨λc F0 F1 m _ h1 hm=> ?_,λF1 h1 x vs c r hx hy w R hw=> ?_⟩
 ·cases c with
  | next s=>obtain⟨G,hs,g0,g1,k⟩:=hm;exact⟨G,hs,g0,Fz.le_trans g1 h1,k⟩
  | done b=>obtain⟨G,hs,g0,g1,k⟩:=hm;exact⟨G,hs,g0,Fz.le_trans g1 h1,k⟩
 cases c with
 | done b=>simp[ku] at hy
 | next s=>
  simp only[ku] at hy
  cases hc:bm x s with
  | none=>rw[hc] at hy;cases hy
  | some ctl=>
   rw[hc] at hy
   simp only[x7,BY] at hy
   subst hy;obtain⟨F0,hs,h0,h01,hI,hw3⟩:=SH.cU hw;have hl:w.heap[l]? =some (UC L):=SH.bT (k:=0) rfl hw3;have hn:=hP x F1 vs hx;refine⟨L.fn,_,L.assign,L.body,run_yield (r:={L with state:=.ready,pending:=none}) hl (by simpa using hn),?_⟩;refine roundIn_of_wpIn trivial ?_;rw[ha,hb];have hg:=round F0 F1 x vs s ctl R hs h0 h01 hx hI hc _ w ⟨hsl vs hn,hw3⟩;refine eC hg λe a1 w1 hq=> ?_;obtain⟨rfl,w2,hbr,hbody⟩:=hq;refine⟨w2,hbr,eC hbody λe a2 w3 hq=> ?_⟩;cases ctl with
   | next s' =>
    obtain⟨rfl,F2,hs2,le,hI2,h⟩:=hq;refine⟨_,_,IM<|SH.bT (k:=0) rfl h,F2,le,rfl,(SH.three<|SH.putAt (k:=0) rfl h<|UC L).mono λm hm=>QQ (λm hm=> ?_) hm⟩;exact⟨F2,hs2,Fz.le_trans h1 le,Fz.le_refl _,hI2,hm⟩
   | done b=>
    obtain⟨rfl,F2,hs2,le,hI2,h⟩:=hq;refine⟨_,_,yt<|SH.bT (k:=0) rfl h,F2,le,rfl,(SH.three<|SH.putAt (k:=0) rfl h<|Iv L).mono λm hm=>QQ (λm hm=> ?_) hm⟩;exact⟨F2,hs2,Fz.le_trans h1 le,Fz.le_refl _,hI2,hm⟩
end
abbrev WI(q:Nat):q8:={target:=.collected q,args:=#[]}
theorem NQ:∀{ps:UV Nat} {vs:UV Do} {t:Of Do} {S:UV (Nat×Do)},(ps.all λp=>Nat.blt p n)=true->Sl n [] S {tmps:=t,defers:=[]}->
  Sl n [] ((ps.zip vs).reverse++S) {tmps:=(ps.zip vs).foldl (λtmps (t,a)=>tmps.setIfInBounds t a) t,defers:=[]}
 | [],_,_,_,_,h=>h
 | _::_,[],_,_,_,h=>h
 | p::ps,v::vs,t,S,hp,h=>by
  simp only[nZ,AT] at hp
  have h1:=Sl.put h hp.1 v;have h2:=NQ (ps:=ps) (vs:=vs) (S:=(p,v)::S) (t:=t.setIfInBounds p v) hp.2 h1;simpa using h2
theorem Di{ps:UV Nat}{t:Of Do}(hp:(ps.all λp=>Nat.blt p n)=true)(h:Sl n [] S {tmps:=t,defers:=[]}):Sl n [] ((ps.zip vs).reverse++S) {tmps:=(ps.toArray.zip vs.toArray).foldl (λtmps (t,a)=>tmps.setIfInBounds t a) t,defers:=[]}:=by
 rw[List.zip_toArray,List.foldl_toArray];exact NQ hp h
section
variable{β:Type}{P:RK}{ks:UV Kt}{Q:nN->Act->PP->Prop}{r:β}{n:Nat}{D:UV q8}{S:UV (Nat×Do)}{F:Fz}{hs:UV HP}
variable{α τ γ:Type}{g:dO}{ps:UV Tmp}{assign body:lN}{f:x4}{caps:UV Do}{mk:∀σ:Type,(α->σ->H1 (σ×Bool))->σ->H1 σ}{arg:α->Fz->UV Do->Prop}{bm:α->τ->H1 (UK τ γ)}{s0:τ}{k:UK τ γ->H1 β}
theorem GG.rangeFunc(I:τ->Fz->UV HP->Prop)(J:γ->Fz->UV HP->Prop)(hg:QO S g=some (.func (.func f) #[] caps.toArray))(hit:uW P F f caps arg mk)(hps:(ps.all λp=>Nat.blt p n)=true)(harg:∀x F' vs,arg x F' vs->vs.length=ps.length)
  (hI:I s0 F hs)
  (round:∀l L F0 F1 x vs s ctl R hs',F<=F0->F0<=F1->arg x F1 vs->I s F0 hs'->GC (some l) P assign [] (BP P l body<|RP l L I J F1 R ctl) (Hd n [] ((ps.zip vs).reverse++S) F1<|pt l (UC L)::R::hs') (bm x s) ctl)
  (next:∀q F0 F' s hs',F<=F0->F0<=F'->mk _ (ku bm) (.next s0)=some (.next s)->I s F0 hs'->GE none P ks Q (Hd n (WI q::D) S F'<|pt q (.deferred<|some [])::hs') (k<|.next s) r)
  (done:∀q F0 F' b hs',F<=F0->F0<=F'->mk _ (ku bm) (.next s0)=some (.done b)->J b F0 hs'->GC none P .ret ks Q (Hd n (WI q::D) S F'<|pt q (.deferred<|some [])::hs') (k<|.done b) r):GC none P (.rangeFunc g ps.toArray assign body) ks Q (Hd n D S F hs) ((mk (UK τ γ) (ku bm)<|.next s0).bind k) r:=by
 intro hm a w ha;cases hl:mk (UK τ γ) (ku bm) (.next s0) with
 | none=>rw[hl] at hm;cases hm
 | some c=>
  rw[hl] at hm
  refine ey λfn _=> ?_
  let L:Loop:={state:=.ready,pending:=none,fn,tmps:=a.tmps,params:=ps.toArray,assign,body,defers:=w.heap.size}
  have hw1:SH ((w.alloc<|.deferred<|some []).alloc<|.loop L) F (star (yS F (w.heap.size+1) L I J (.next s0) F)<|Qi [pt w.heap.size<|.deferred<|some []]):=by
   have h1:=(ha.2.alloc<|.deferred<|some []).alloc<|.loop L;rw[lr] at h1
   have h2:SH ((w.alloc<|.deferred<|some []).alloc<|.loop L) F (Qi<|pt (w.heap.size+1) (UC L)::Qi [pt w.heap.size<|.deferred<|some []]::hs):=by
    refine h1.mono λm hm=>QS (λm hm=>QQ (λm hm=> ?_) hm) hm;exact⟨m,λ_=>none,λ_=>.inr rfl,Mem.sub.refl _,λ_ _ e=>by simp at e,hm,trivial⟩
   exact(SH.three h2).mono λm hm=>QQ (λm hm=>⟨F,hs,Fz.le_refl _,Fz.le_refl _,hI,hm⟩) hm
  have hY:U1 P (w.heap.size+1) F arg (yS F (w.heap.size+1) L I J) (ku bm):=by
   refine Rm (S' :=λvs=>(ps.zip vs).reverse++S) (assign:=assign) (body:=body) (λx F' vs hx=>by rw[harg x F' vs hx];simp[L]) rfl rfl (λvs _=>Di hps ⟨ha.1.1,rfl,ha.1.2.2⟩) ?_;exact λF0 F1 x vs s ctl R hs' h0 h1 hx hI=>round _ L F0 F1 x vs s ctl R hs' h0 h1 hx hI
  have hc:=hit.2 _ _ _ _ F (Fz.le_refl F) hY (.next s0) c hl _ _ hw1;refine⟨w.heap.size+1,[WI w.heap.size],(w.alloc<|.deferred<|some []).alloc<|.loop L,⟨.fn (.func f) caps.toArray,#[.func (.yield<|w.heap.size+1) #[] #[]]⟩,(w.alloc<|.deferred<|some []).alloc<|.loop L,f,(.func (.yield<|w.heap.size+1) #[] #[]::caps).toArray,(w.alloc<|.deferred<|some []).alloc<|.loop L,lW fn a.tmps ps.toArray assign body,?_,λ_ _=>trivial,?_,λe=>(by cases e),?_⟩
  ·have hc0:a.eval (.const<|.func (.yield<|w.heap.size+1) #[] #[])= .func (.yield<|w.heap.size+1) #[] #[]:=rfl;simp[resolve,Deferred.ofValue,ha.1.eval hg,hc0]
  ·simp[invoke,hit.1]
  ·refine nP.2<|hc.mono ?_;rintro _ w' ⟨F',v,le,rfl, -,hw'⟩;cases c with
   | next s=>
    obtain⟨F0,hs',h0,h1,hI',h3⟩:=SH.cU hw';refine⟨none,_,Dj<|SH.bT (k:=0) rfl h3,?_⟩;have h4:SH _ F' (Qi<|pt w.heap.size (.deferred<|some [])::hs'):=(SH.bp 0<|SH.putAt (k:=0) rfl h3<|TU L none).mono λm hm=>QQ (λm hm=>by obtain⟨m1,_,_,s1,_,hp,_⟩:=hm;exact s1 _ _ hp) hm;exact next w.heap.size F0 F' s hs' h0 h1 hl hI' hm _ _ ⟨⟨ha.1.1,by simp[ha.1.2.1],ha.1.2.2⟩,h4⟩
   | done b=>
    obtain⟨F0,hs',h0,h1,hI',h3⟩:=SH.aH hw';refine⟨some .ret,_,Lb<|SH.bT (k:=0) rfl h3,?_⟩;have h4:SH _ F' (Qi<|pt w.heap.size (.deferred<|some [])::hs'):=(SH.bp 0<|SH.putAt (k:=0) rfl h3<|TU L<|some .ret).mono λm hm=>QQ (λm hm=>by obtain⟨m1,_,_,s1,_,hp,_⟩:=hm;exact s1 _ _ hp) hm;exact done w.heap.size F0 F' b hs' h0 h1 hl hI' hm _ _ ⟨⟨ha.1.1,by simp[ha.1.2.1],ha.1.2.2⟩,h4⟩
def Uy(y:α->σ->H1 (σ×Bool)):UV α->σ->H1 σ
 | [],s=>some s
 | x::xs,s=>(y x s).bind λp=>if p.2 then Uy y xs p.1 else some p.1
def R1(P:RK)(F:Fz)(f:x4)(caps:UV Do)(arg:α->Fz->UV Do->Prop)(l:UV α):Prop:=uW P F f caps arg λ_ y s=>Uy y l s
def Yx(b:α->τ->H1 τ):UV α->τ->H1 τ
 | [],s=>some s
 | x::xs,s=>(b x s).bind<|Yx b xs
def Ac(b:α->τ->H1 (UK τ γ)):UV α->τ->H1 (UK τ γ)
 | [],s=>some (.next s)
 | x::xs,s=>(b x s).bind λc=>match c with
  | .next s' =>Ac b xs s'
  | .done r=>some<|.done r
theorem Fe(b:α->τ->H1 (UK τ γ)):∀(l:UV α) (s:τ),Uy (ku b) l (.next s)=Ac b l s
 | [],s=>rfl
 | x::xs,s=>by
  simp only[Uy,ku,Ac];cases h:b x s with
  | none=>rfl
  | some c=>
   cases c with
   | next s' =>simpa using Fe b xs s'
   | done r=>simp
theorem Dl(b:α->τ->H1 τ):∀(l:UV α) (s:τ),Ac (γ:=Empty) (λx s=>(b x s).map .next) l s=(Yx b l s).map .next
 | [],s=>rfl
 | x::xs,s=>by
  simp only[Ac,Yx];cases h:b x s with
  | none=>rfl
  | some s' =>simpa using Dl b xs s'
theorem GG.tM{l:UV α}(I:τ->Fz->UV HP->Prop)(J:γ->Fz->UV HP->Prop)(hg:QO S g=some (.func (.func f) #[] caps.toArray))(hit:R1 P F f caps arg l)(hps:(ps.all λp=>Nat.blt p n)=true)(harg:∀x F' vs,arg x F' vs->vs.length=ps.length)
  (hI:I s0 F hs)
  (round:∀l L F0 F1 x vs s ctl R hs',F<=F0->F0<=F1->arg x F1 vs->I s F0 hs'->GC (some l) P assign [] (BP P l body<|RP l L I J F1 R ctl) (Hd n [] ((ps.zip vs).reverse++S) F1<|pt l (UC L)::R::hs') (bm x s) ctl)
  (next:∀q F0 F' s hs',F<=F0->F0<=F'->Ac bm l s0=some (.next s)->I s F0 hs'->GE none P ks Q (Hd n (WI q::D) S F'<|pt q (.deferred<|some [])::hs') (k<|.next s) r)
  (done:∀q F0 F' b hs',F<=F0->F0<=F'->Ac bm l s0=some (.done b)->J b F0 hs'->GC none P .ret ks Q (Hd n (WI q::D) S F'<|pt q (.deferred<|some [])::hs') (k<|.done b) r):GC none P (.rangeFunc g ps.toArray assign body) ks Q (Hd n D S F hs) ((Ac bm l s0).bind k) r:=by
 rw[<-Fe] at next done ⊢
 exact GG.rangeFunc (mk:=λ_ y s=>Uy y l s) I J hg hit hps harg hI round next done
theorem GG.cz{l:UV α}{bm:α->τ->H1 τ}{k:τ->H1 β}(I:τ->Fz->UV HP->Prop)(hg:QO S g=some (.func (.func f) #[] caps.toArray))(hit:R1 P F f caps arg l)(hps:(ps.all λp=>Nat.blt p n)=true)(harg:∀x F' vs,arg x F' vs->vs.length=ps.length)
  (hI:I s0 F hs)
  (round:∀l L F0 F1 x vs s ctl R hs',F<=F0->F0<=F1->arg x F1 vs->I s F0 hs'->GC (some l) P assign [] (BP P l body<|RP l L I (fun(_:Empty) _ _=>False) F1 R<|.next ctl) (Hd n [] ((ps.zip vs).reverse++S) F1<|pt l (UC L)::R::hs') (bm x s) ctl)
  (next:∀q F0 F' s hs',F<=F0->F0<=F'->Yx bm l s0=some s->I s F0 hs'->GE none P ks Q (Hd n (WI q::D) S F'<|pt q (.deferred<|some [])::hs') (k s) r):GC none P (.rangeFunc g ps.toArray assign body) ks Q (Hd n D S F hs) ((Yx bm l s0).bind k) r:=by
 have h:=GG.tM (γ:=Empty) (k:=λc=>match c with | .next s=>k s | .done b=>b.elim) (bm:=λx s=>(bm x s).map .next) (ks:=ks) (Q:=Q) (D:=D) (r:=r) I (λ_ _ _=>False) hg hit hps harg hI
  (λl L F0 F1 x vs s ctl R hs' h0 h1 hx hI=>by
   intro hm;cases hb:bm x s with
   | none=>rw[hb] at hm;cases hm
   | some s' =>rw[hb] at hm;simp only[x7,BY] at hm;subst hm;exact round l L F0 F1 x vs s s' R hs' h0 h1 hx hI hb)
  (λq F0 F' s hs' h0 h1 he=>next q F0 F' s hs' h0 h1 (by rw[Dl] at he;cases hf:Yx bm l s0 with | none=>rw[hf] at he;cases he | some s' =>rw[hf] at he;simp only[x7,BY,UK.next.injEq] at he;rw[he]))
  (λ_ _ _ b=>b.elim)
 rw[Dl] at h
 cases hf:Yx bm l s0 with
 | none=>intro hm;cases hm
 | some s=>rw[hf] at h;exact h
end
def vB:UV HP->UV (Nat×Nat)->Prop
 | _,[]=>True
 | hs,(i,q)::ms=>hs[i]? =some (pt q<|.deferred<|some [])/\vB (hs.set i<|pt q<|.deferred none) ms
def He:UV HP->UV (Nat×Nat)->UV HP
 | hs,[]=>hs
 | hs,(i,q)::ms=>He (hs.set i<|pt q<|.deferred none) ms
theorem Rs{tmps:Of Do}{R:oJ->PP->Prop}:∀{ms:UV (Nat×Nat)} {hs:UV HP} {w:PP},SH w F (Qi hs)->vB hs ms->
  (∀w',SH w' F (Qi<|He hs ms)->∃v,(results fn tmps).run P w' = .ok v w'/\R (.returned v) w')->LeavesInM Fence.wide 0 P fn tmps R (ms.map λp=>WI p.2) .returning w
 | [],hs,w,h,_,k=>k w h
 | (i,q)::ms,hs,w,h,ho,k=>by
  refine⟨by simp,.inl ⟨q,_,rfl,run_takeDeferred<|SH.bT ho.1 h,?_⟩⟩;exact Rs (SH.putAt ho.1 h _) ho.2 k
def I2(P:RK)(fn:lK)(F:Fz)(R:HP)(ρ:β->Fz->Do->Prop)(r:β):nN->Act->PP->Prop:=bodyPostM Fence.wide 0 P fn (λe w' =>∃F' v,F<=F'/\e= .returned v/\ρ r F' v/\SH w' F' R)
theorem KH.cx{c:lN}{args:UV Do}{ρ:β->Fz->Do->Prop}
  (hf:P.funcs[f]? =some fn) (hb:fn.body=some c) (hn:fn.ntmps=n) (ha:Nat.ble args.length n=true)
  (k:∀r R,GC none P c [] (I2 P fn F R ρ r) (Hd n [] (Db 0 args) F [R]) m r):KH P f args.toArray F m ρ:=by
 intro r hm w R hw;refine(nP (n:=0)).1<|oG hf hb trivial<|k r R hm _ w ⟨?_,hw.one⟩;rw[hn];exact Uw ha
section
variable{β:Type}{P:RK}{n:Nat}{S:UV (Nat×Do)}{F F' :Fz}{hs:UV HP}{ks:UV Kt}{fn:lK}{R:HP}{ρ:β->Fz->Do->Prop}{x r:β}{rs:UV ResultVar}{vs:UV Do}{i:Nat}{ms:UV (Nat×Nat)}
theorem qo(hr:fn.results=rs.toArray)(ho:vB hs ms)(h:SP P S F' (He hs ms) rs vs)(hi:(He hs ms)[i]? =some R)(le:F<=F')(hρ:ρ x F' (S8 vs)):some x=some r->∀a w,Hd n (ms.map λp=>WI p.2) S F' hs a w->LeavesInM Fence.wide 0 P fn a.tmps (λe w' =>∃F' v,F<=F'/\e= .returned v/\ρ r F' v/\SH w' F' R) a.defers .returning w:=by
 intro e a w ha;simp only[BY] at e
 subst e;rw[ha.1.2.1];refine Rs ha.2 ho λw' h' => ?_;exact⟨_,Jd (n:=n) (a:=a) (D:=a.defers) hr ⟨⟨ha.1.1,rfl,ha.1.2.2⟩,h'⟩ h,F',_,le,rfl,hρ,h'.only hi⟩
theorem GG.aE(ms:UV (Nat×Nat))(hr:fn.results=rs.toArray)(ho:vB hs ms)(h:SP P S F' (He hs ms) rs vs)(hi:(He hs ms)[i]? =some R)(le:F<=F')(hρ:ρ x F' (S8 vs)):GC O P .ret ks (I2 P fn F R ρ r) (Hd n (ms.map λp=>WI p.2) S F' hs) (some x) r:=GG.bc<|qo hr ho h hi le hρ
end
end
section
variable{γ b i:Nat}{F F':Fz}{α:Type}
variable{O:H1 Nat}{μ:Md}
def UE(γ:Nat)(F:Fz)(i b:Nat):Prop:=γ < F.gn/\(F.gh γ)[i]? =some b
theorem UE.mono(h:UE γ F i b)(le:F<=F'):UE γ F' i b:=
 ⟨eF h.1 le.gn,by
  obtain⟨t,e⟩:=le.gh γ h.1;rw[<-e,nK (AC.1 h.2).1];exact h.2⟩
theorem UE.inj{b':Nat}(h:UE γ F i b)(k:UE γ F i b'):b=b' :=by
 have:=h.2.symm.trans k.2;simpa using this
def ZP(γ:Nat)(F:Fz)(p:H1 OF):H1 Nat->Prop
 | none=>p=none
 | some i=>∃b,UE γ F i b/\p=some ⟨b,0,none⟩
theorem ZP.mono{p:H1 OF}{x:H1 Nat}(h:ZP γ F p x)(le:F<=F'):ZP γ F' p x:=by
 cases x with
 | none=>exact h
 | some i=>obtain⟨b,h1,h2⟩:=h;exact⟨b,h1.mono le,h2⟩
theorem ZP.nil{γ:Nat}{F:Fz}:ZP γ F none none:=rfl
theorem ZP.of(h:UE γ F i b):ZP γ F (some ⟨b,0,none⟩) (some i):=⟨b,h,rfl⟩
def Zy(γ:Nat)(F:Fz)(p:H1 Nat):H1 Nat->Prop
 | none=>p=none
 | some i=>∃b,UE γ F i b/\p=some b
theorem Zy.mono{p:H1 Nat}{x:H1 Nat}(h:Zy γ F p x)(le:F<=F'):Zy γ F' p x:=by
 cases x with
 | none=>exact h
 | some i=>obtain⟨b,h1,h2⟩:=h;exact⟨b,h1.mono le,h2⟩
theorem Zy.nil{γ:Nat}{F:Fz}:Zy γ F none none:=rfl
theorem Zy.of(h:UE γ F i b):Zy γ F (some b) (some i):=⟨b,h,rfl⟩
theorem XD{p q r:HP}{m:Mem}(h:star (star p q) r m):star p (star q r) m:=by
 obtain⟨m1,m2,d,s1,s2,⟨m3,m4,d',t1,t2,hp,hq⟩,hr⟩:=h
 classical
 refine⟨m3,λk=>if m2 k=none then m4 k else m2 k,?_,t1.trans s1,?_,hp,m4,m2,(d.sub t2<|Mem.sub.refl m2),?_,?_,hq,hr⟩
 ·intro k;by_cases e:m2 k=none
  ·simp only[e,Rw];exact d' k
  ·simp only[e,T2];rcases(d.sub t1<|Mem.sub.refl m2) k with h | h
   ·exact .inl h
   ·exact absurd h e
 ·intro k o e;by_cases e' :m2 k=none
  ·simp only[e',Rw] at e;exact s1 k o<|t2 k o e
  ·simp only[e',T2] at e;exact s2 k o e
 ·intro k o e;have:m2 k=none:=(d.sub t2<|Mem.sub.refl m2).bk e;simp[this,e]
 ·intro k o e;simp[e]
theorem UO{p q r:HP}{m:Mem}(h:star p (star q r) m):star (star p q) r m:=by
 have h1:=Zh h;obtain⟨m1,m2,d,s1,s2,hq,m3,m4,d',t1,t2,hp,hr⟩:=h1
 classical
 refine⟨λk=>if m1 k=none then m3 k else m1 k,m4,?_,?_,t2.trans s2,⟨m3,m1,(d.sub (Mem.sub.refl m1) t1).symm,?_,?_,hp,hq⟩,hr⟩
 ·intro k;by_cases e:m1 k=none
  ·simp only[e,Rw];exact d' k
  ·simp only[e,T2];rcases(d.sub (Mem.sub.refl m1) t2) k with h | h
   ·exact absurd h e
   ·exact .inr h
 ·intro k o e;by_cases e' :m1 k=none
  ·simp only[e',Rw] at e;exact s2 k o<|t1 k o e
  ·simp only[e',T2] at e;exact s1 k o e
 ·intro k o e;have:m1 k=none:=(d.sub (Mem.sub.refl m1) t1).sa e;simp[this,e]
 ·intro k o e;simp[e]
theorem Dg:∀{l l' :UV HP} {m:Mem},l.length=l'.length->(∀(i:Nat) (p q:HP),l[i]? =some p->l'[i]? =some q->∀m,p m->q m)->Qi l m->Qi l' m
 | [],[],_,_,_,h=>h
 | [],_::_,_,hl,_,_=>by simp at hl
 | _::_,[],_,hl,_,_=>by simp at hl
 | p::l,q::l',m,hl,hi,h=>by
  have h1:∀m,p m->q m:=hi 0 p q rfl rfl;have h2:∀m,Qi l m->Qi l' m:=λm hm=>Dg (by simpa using hl) (λi p q e1 e2=>hi (i+1) p q (by simpa using e1)<|by simpa using e2) hm;exact QQ h1<|QS h2 h
def YD:UV Nat->UV HP->UV HP
 | [],_=>[]
 | k::ks,hs=>(hs[k]?).getD AO::YD ks (hs.eraseIdx k)
theorem VX:∀{ks:UV Nat} {hs:UV HP} {m:Mem},Qi hs m->Qi (YD ks hs) m
 | [],_,_,_=>trivial
 | k::ks,hs,m,h=>by
  cases e:hs[k]? with
  | some p=>simp only[YD,e,lU];exact QS (λ_ h=>VX h) (VW e h)
  | none=>simp only[YD,e,Option.getD_none];exact QS (λ_ h=>VX h)<|DD h
section
variable{α:Type}{γ:Nat}{C:Fz->Nat->α->HP}{F F0 F' :Fz}{xs:UV α}{w:PP}{H:HP}{j b:Nat}{x y:α}
def ZB(γ:Nat)(C:Fz->Nat->α->HP)(F:Fz)(xs:UV α):HP:=λm=>∃bs,bs.length=xs.length/\star (yU γ bs) (Qi<|List.zipWith (C F) bs xs) m
def hole(γ:Nat)(C:Fz->Nat->α->HP)(F:Fz)(j b:Nat)(xs:UV α):HP:=λm=>∃bs,bs.length=xs.length/\bs[j]? =some b/\star (yU γ bs) (Qi<|(List.zipWith (C F) bs xs).eraseIdx j) m
def Hb(C:Fz->Nat->α->HP):Prop:=∀F F' b x m,F<=F'->C F b x m->C F' b x m
theorem Rl{bs:UV Nat}{f:Nat->α->HP}(h1:bs[j]? =some b)(h2:xs[j]? =some x):(List.zipWith f bs xs)[j]? =some (f b x):=by
 rw[lP,h1,h2]
theorem Rk:∀{bs:UV Nat} {f:Nat->α->HP} {xs:UV α} {j b:Nat} {y:α},bs[j]? =some b->(List.zipWith f bs xs).set j (f b y)=List.zipWith f bs (xs.set j y)
 | [],_,_,_,_,_,h=>by simp at h
 | c::bs,f,[],j,b,y,_=>by simp
 | c::bs,f,x::xs,0,b,y,h=>by simp at h;subst h;simp
 | c::bs,f,x::xs,j+1,b,y,h=>by
  simp only[mE] at h
  simp[Rk h]
theorem SH.sD(hC:Hb C)(le:F0<=F')(h:SH w F (star (ZB γ C F0 xs) H)):SH w F (star (ZB γ C F' xs) H):=
 h.mono λm hm=>QQ (λm ⟨bs,hl,hs⟩=>⟨bs,hl,QS (λm hm=>Dg (by simp) (λi p q e1 e2 m hp=>by
  rw[lP] at e1 e2
  cases hb:bs[i]? with
  | none=>rw[hb] at e1;simp at e1
  | some b=>
   cases hx:xs[i]? with
   | none=>rw[hb,hx] at e1;simp at e1
   | some x=>rw[hb,hx] at e1 e2;simp at e1 e2;subst e1;subst e2;exact hC _ _ _ _ _ le hp) hm) hs⟩) hm
theorem SH.sR(h:SH w F (star (ZB γ C F0 xs) H))(hb:UE γ F j b)(hx:xs[j]? =some x):SH w F (star (C F0 b x)<|star (hole γ C F0 j b xs) H):=by
 obtain⟨m,⟨m1,m2,d,s1,s2,⟨bs,hl,hz⟩,hq⟩,k⟩:=h
 have hbs:bs[j]? =some b:=by
  obtain⟨m3,m4,d',t1,t2,hg,_⟩:=hz;obtain⟨_,e⟩:=k.gst γ _<|s1 _ _<|t1 _ _ hg;simp only[Cell.gh.injEq] at e
  rw[e];exact hb.2
 refine⟨m,XD ⟨m1,m2,d,s1,s2,?_,hq⟩,k⟩;have h1:=Zh<|QS (λ_ hm=>VW (Rl (f:=C F0) hbs hx) hm) hz;exact QS (λm hm=>⟨bs,hl,hbs,hm⟩) h1
theorem SH.aO(hC:Hb C)(le:F0<=F')(h:SH w F (star (C F' b y)<|star (hole γ C F0 j b xs) H))(hj:j < xs.length):SH w F (star (ZB γ C F'<|xs.set j y) H):=by
 refine h.mono λm hm=> ?_;refine QQ (λm hm=> ?_)<|UO hm;obtain⟨m1,m2,d,s1,s2,hp,bs,hl,hbs,hz⟩:=hm;refine⟨bs,by simpa using hl,?_⟩;have h1:star (C F' b y) (star (yU γ bs)<|Qi<|(List.zipWith (C F0) bs xs).eraseIdx j) m:=⟨m1,m2,d,s1,s2,hp,hz⟩;refine QS (λm hm=> ?_)<|Zh h1;have hx:xs[j]? =some xs[j]:=by simp[hj]
 have h2:star (C F' b y) (Qi<|(List.zipWith (C F') bs xs).eraseIdx j) m:=QS (λm hm=>Dg (by simp[List.length_eraseIdx]) (λi p q e1 e2 m hp=>by
  rw[eZ] at e1 e2
  have key:∀i',(List.zipWith (C F0) bs xs)[i']? =some p->(List.zipWith (C F') bs xs)[i']? =some q->q m:=λi' e1 e2=>by
   rw[lP] at e1 e2
   cases hb:bs[i']? with
   | none=>rw[hb] at e1;simp at e1
   | some b=>
    cases hx:xs[i']? with
    | none=>rw[hb,hx] at e1;simp at e1
    | some x=>rw[hb,hx] at e1 e2;simp at e1 e2;subst e1;subst e2;exact hC _ _ _ _ _ le hp
  split at e1
  ·rename_i hlt;rw[TO hlt] at e2;exact key i e1 e2
  ·rename_i hlt;rw[RW hlt] at e2;exact key (i+1) e1 e2) hm) hm
 rw[<-Rk (f:=C F') hbs];exact FN (Rl (f:=C F') hbs hx) h2
theorem SH.pU(hC:Hb C){p:HP}(le:F0<=F)(h:SH w F (star p<|star (ZB γ C F0 xs) H))(hp:∀F' m,F<=F'->p m->C F' b x m):∃F',F<=F'/\UE γ F' xs.length b/\SH w F' (star (ZB γ C F'<|xs++[x]) H):=by
 obtain⟨m,hm,k⟩:=h;obtain⟨m1,m2,d,s1,s2,⟨bs,hl,hz⟩,hq⟩:=Zh hm;have h1:SH w F (star (yU γ bs)<|star (Qi<|List.zipWith (C F0) bs xs)<|star p H):=⟨m,XD ⟨m1,m2,d,s1,s2,hz,hq⟩,k⟩;obtain⟨g1,g2⟩:=h1.au;obtain⟨le',h2⟩:=h1.cu b;refine⟨F.cu γ b,le',⟨g1,?_⟩,?_⟩
 ·show(if γ=γ then F.gh γ++[b] else F.gh γ)[xs.length]? =some b;rw[TO rfl,g2,<-hl];simp
 ·refine h2.mono λm hm=> ?_;have h3:star (yU γ<|bs++[b]) (star p<|star (Qi<|List.zipWith (C F0) bs xs) H) m:=QS (λm hm=>Zh hm) hm;refine QQ (λm hm=> ?_)<|UO<|QS (λm hm=>UO hm) h3;refine⟨bs++[b],by simp[hl],QS (λm hm=> ?_) hm⟩;have hle:F0<=F.cu γ b:=Fz.le_trans le le';have h4:Qi (p::List.zipWith (C F0) bs xs) m:=hm
  have h5:Qi (C (F.cu γ b) b x::List.zipWith (C<|F.cu γ b) bs xs) m:=Dg (by simp) (λi p' q e1 e2 m hp' =>by
   cases i with
   | zero=>simp at e1 e2;subst e1;subst e2;exact hp _ _ le' hp'
   | succ i=>
    simp only[mE] at e1 e2
    rw[lP] at e1 e2
    cases hb:bs[i]? with
    | none=>rw[hb] at e1;simp at e1
    | some b=>
     cases hx:xs[i]? with
     | none=>rw[hb,hx] at e1;simp at e1
     | some x=>rw[hb,hx] at e1 e2;simp at e1 e2;subst e1;subst e2;exact hC _ _ _ _ _ hle hp') h4
  have h6:=stars_snoc h5;rw[List.zipWith_append<|by simpa using hl];exact h6
where
 stars_snoc:∀{l:UV HP} {p:HP} {m:Mem},Qi (p::l) m->Qi (l++[p]) m
  | [],_,_,h=>h
  | q::l,p,m,h=>QS (λ_ h=>stars_snoc h)<|Zh h
end
def WW(T:If)(c:Uk α)(F:Fz)(b:Nat)(x:α):HP:=λm=>∃vs,(∀F',F<=F'->c F' x vs)/\pt b (.cells vs.toArray T) m
theorem WW.stays{T:If}{c:Uk α}:Hb (WW T c):=λ_ _ _ _ _ le ⟨vs,h,k⟩=>⟨vs,λG le' =>h G<|Fz.le_trans le le',k⟩
section
variable{β:Type}{X:Act->PP->Prop}{m:H1 β}{r:β}{n:Nat}{D:UV q8}{S:UV (Nat×Do)}{F F0:Fz}{hs hs' :UV HP}
variable{α:Type}{γ:Nat}{C:Fz->Nat->α->HP}{xs:UV α}{j b:Nat}{x y:α}
theorem GG.pick{g:Gp}(ks:UV Nat)(h:YD ks hs=hs')(k:GG g (Hd n D S F hs') m r):GG g (Hd n D S F hs) m r:=by
 exact λhm a w ha=>k hm a w ⟨ha.1,h▸ha.2.mono λ_=>VX⟩
theorem GG.bI{g:Gp}(i:Nat)(hC:Hb C)(le:F0<=F)(hi:hs[i]? =some (ZB γ C F0 xs))(k:GG g (Hd n D S F<|hs.set i<|ZB γ C F xs) m r):GG g (Hd n D S F hs) m r:=by
 exact λhm a w ha=>k hm a w ⟨ha.1,SH.push hi<|(ha.2.pull hi).sD hC le⟩
end
end
section
variable{ε β:Type}{penc:ε->Do}{P:RK}{n:Nat}
variable{O:H1 Nat}{μ:Md}
inductive Out(ε β:Type) where
 | ok (b:β)
 | pan (x:ε)
def J4:UV Nat->UV HP->UV HP
 | [],hs=>hs
 | k::ks,hs=>J4 ks<|hs.eraseIdx k
theorem UA:∀{ks:UV Nat} {hs:UV HP} {m:Mem},Qi hs m->star (Qi<|YD ks hs) (Qi<|J4 ks hs) m
 | [],_,m,h=>⟨λ_=>none,m,λ_=>.inl rfl,λ_ _ e=>by simp at e,Mem.sub.refl _,trivial,h⟩
 | k::ks,hs,m,h=>by
  have h1:star ((hs[k]?).getD AO) (Qi<|hs.eraseIdx k) m:=by
   cases e:hs[k]? with
   | some p=>exact VW e h
   | none=>exact DD h
  exact UO<|QS (λ_ h=>UA (ks:=ks) h) h1
theorem K5:∀{l k:UV HP} {m:Mem},star (Qi l) (Qi k) m->Qi (l++k) m
 | [],_,_,⟨_,_,_,_,s2,_,h⟩=>stars_sub s2 h
 | _p::_l,_k,_m,h=>QS (λ_ h=>K5 h)<|XD h
where
 stars_sub:∀{l:UV HP} {m n:Mem},Mem.sub m n->Qi l m->Qi l n
  | [],_,_,_,_=>trivial
  | _::_,_,_,s,⟨m1,m2,d,s1,s2,hp,hq⟩=>⟨m1,m2,d,s1.trans s,s2.trans s,hp,hq⟩
theorem VY:∀{l k:UV HP} {m:Mem},Qi (l++k) m->star (Qi l) (Qi k) m
 | [],_,m,h=>⟨λ_=>none,m,λ_=>.inl rfl,λ_ _ e=>by simp at e,Mem.sub.refl _,trivial,h⟩
 | p::l,k,m,h=>UO<|QS (λ_ h=>VY h) h
theorem J7{p:HP}{m:Mem}(h:p m):Qi [p] m:=⟨m,λ_=>none,λ_=>.inr rfl,Mem.sub.refl _,λ_ _ e=>by simp at e,h,trivial⟩
def Vg(P:RK)(penc:ε->Do)(f:x4)(args:Of Do)(F:Fz)(Hs:UV HP)(m:H1 (Out ε β))(ρ:β->Fz->Do->Prop)(Hs' :β->Fz->Do->UV HP):Prop:=
 ∀r,m=some r->∀w R,SH w F (star (Qi Hs) R)->Calls P f args w (λe w' =>∃F',F<=F'/\match r with
  | .ok x=>∃v,e= .returned v/\ρ x F' v/\SH w' F' (star (Qi<|Hs' x F' v) R)
  | .pan x=>e= .panicked [{v:=penc x,recovered:=false}]/\SH w' F' R)
def TZ(P:RK)(penc:ε->Do)(fn:lK)(F:Fz)(R:HP)(ρ:β->Fz->Do->Prop)(Hs' :β->Fz->Do->UV HP)(r:Out ε β):nN->Act->PP->Prop:=
 bodyPost P fn (λe w' =>∃F',F<=F'/\match r with
  | .ok x=>∃v,e= .returned v/\ρ x F' v/\SH w' F' (star (Qi<|Hs' x F' v) R)
  | .pan x=>e= .panicked [{v:=penc x,recovered:=false}]/\SH w' F' R)
theorem Vg.enter{f:x4}{fn:lK}{c:lN}{args:UV Do}{F:Fz}{Hs:UV HP}{m:H1 (Out ε β)}{ρ:β->Fz->Do->Prop}{Hs' :β->Fz->Do->UV HP}
  (hf:P.funcs[f]? =some fn) (hb:fn.body=some c) (hn:fn.ntmps=n) (ha:Nat.ble args.length n=true)
  (k:∀r R,GC none P c [] (TZ P penc fn F R ρ Hs' r) (Hd n [] (Db 0 args) F<|Hs++[R]) m r):Vg P penc f args.toArray F Hs m ρ Hs' :=by
 intro r hm w R hw;refine eO hf hb<|oE.1<|k r R hm _ w ⟨?_,hw.mono λm hm=>K5<|QS (λ_ h=>J7 h) hm⟩;rw[hn];exact Uw ha
section
variable{ε β:Type}{P:RK}{penc:ε->Do}{n:Nat}{S:UV (Nat×Do)}{F F' :Fz}{hs:UV HP}{ks:UV Kt}{fn:lK}{R:HP}{ρ:β->Fz->Do->Prop}{Hs' :β->Fz->Do->UV HP}{x:β}{r:Out ε β}{rs:UV ResultVar}{vs:UV Do}
theorem Xn{A:HP}{m:Mem}(h:star A (Qi [R]) m):star A R m:=by
 obtain⟨m1,m2,d,s1,s2,ha,m3,_,_,t1,_,hr,_⟩:=h;exact⟨m1,m3,d.sub (Mem.sub.refl _) t1,s1,t1.trans s2,ha,hr⟩
theorem Lh(is:UV Nat)(hr:fn.results=rs.toArray)(h:SP P S F' hs rs vs)(hi:YD is hs=Hs' x F' (S8 vs)++[R])(le:F<=F')(hρ:ρ x F' (S8 vs)):some (Out.ok x)=some r->∀a w,Hd n [] S F' hs a w->TZ P penc fn F R ρ Hs' r .ret a w:=by
 intro e a w ha;simp only[BY] at e
 subst e;refine⟨ha.1.2.1,_,Jd hr ha h,F',le,_,rfl,hρ,ha.2.mono λm hm=> ?_⟩;have h1:=VX (ks:=is) hm;rw[hi] at h1
 exact Xn<|VY h1
theorem GG.cE(is:UV Nat)(hr:fn.results=rs.toArray)(h:SP P S F' hs rs vs)(hi:YD is hs=Hs' x F' (S8 vs)++[R])(le:F<=F')(hρ:ρ x F' (S8 vs)):GC O P .ret ks (TZ P penc fn F R ρ Hs' r) (Hd n [] S F' hs) (some<|.ok x) r:=GG.bc<|Lh is hr h hi le hρ
theorem GG.bx(is:UV Nat)(hr:fn.results=rs.toArray)(h:SP P S F' hs rs vs)(hi:YD is hs=Hs' x F' (S8 vs)++[R])(le:F<=F')(hρ:ρ x F' (S8 vs)):GE O P [] (TZ P penc fn F R ρ Hs' r) (Hd n [] S F' hs) (some<|.ok x) r:=GG.bA<|Lh is hr h hi le hρ
theorem Qm{q:ε}{i:Nat}(hi:hs[i]? =some R)(le:F<=F'):some (Out.pan q)=some r->∀a w,Hd n [] S F' hs a w->TZ P penc fn F R ρ Hs' r (.panic [{v:=penc q,recovered:=false}]) a w:=by
 intro e a w ha;simp only[BY] at e
 subst e;exact⟨ha.1.2.1,F',le,rfl,ha.2.only hi⟩
end
section
variable{ε β:Type}{P:RK}{penc:ε->Do}{ops:Of x5}{rest:UV x5}{ks:UV Kt}{Q:nN->Act->PP->Prop}{m:H1 β}{r:β}
variable{n:Nat}{D:UV q8}{S:UV (Nat×Do)}{F F0:Fz}{hs:UV HP}
theorem GG.aX{dst:H1 Tmp}{ox:dO}{ty:If}{pos:String}{after:Of lL}{T:If}{v:Do}(hx:QO S ox=some (.iface T v))
  (h:m=some r->∀a w,Hd n D S F hs a w->Q (.panic [{v:=.iface T v,recovered:=false}]) a w):GL O P ops (⟨dst,.panic ox,ty,pos,after,none⟩::rest) ks Q (Hd n D S F hs) m r:=by
 intro hm a w ha;refine ga ?_;unfold Xa;rw[TO<|by simp[Region.wanted]];refine⟨.inr rfl,?_⟩
 have hrun:(execOp a.eval ⟨dst,.panic ox,ty,pos,after,none⟩).run P w= .halt (.panic<|.iface T v) w:=by
  simp[execOp,Instr.panic,ha.1.eval hx,goPanic]
 rw[hrun];exact K8<|h hm a w ha
end
end
end Go.Dec
end
