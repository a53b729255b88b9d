/- For OfficeClaims. -/
import Derived.WalkKit
import Derived.OrdersIn
import Derived.RangeFuncLeaves
import Derived.ProofKit
import Derived.OpenShut
import Derived.ChangeArms
import Derived.RangeFuncNested
noncomputable section
namespace Go.Dec
variable{p:Prop}
theorem x0(h:p:=by kernel_rfl):p:=h
theorem hQ(h:p:=by omega):p:=h
theorem ia(h:p:=by simp;omega):p:=h
theorem ic(h:p:=by simp):p:=h
theorem ig(h:p:=by decide):p:=h
theorem ij(h:p:=by rfl):p:=h
abbrev Q0:=@List
abbrev Q2:=@Option
abbrev K1:=@Option.bind_some
abbrev K2:=@Value
abbrev UV:=@Option.some.injEq
abbrev W1:=@Bool.false_eq_true
abbrev Fm:=@List.getElem?_eq_some_iff
abbrev DO:=@if_pos
abbrev Do:=@if_neg
abbrev BY:=@Bool.and_eq_true
abbrev Bm:=@if_false
abbrev By:=@World
abbrev B1:=@if_true
abbrev B2:=@Program
abbrev B3:=@List.getElem?_eq_getElem
abbrev C1:=@Addr
abbrev C3:=@Array
abbrev So:=@Nat.le_refl
abbrev S2:=@TypeId
abbrev AC:=@Nat.le_of_ble_eq_true
abbrev AT:=@Deferred
abbrev A4:=@List.mem_cons
abbrev TO:=@decide_eq_true_eq
abbrev Tc:=@Option.some.inj
abbrev RK:=@Option.map_some
abbrev Rw:=@List.eq_nil_of_length_eq_zero
abbrev Nm:=@FuncId
abbrev L0:=@Oper
abbrev L4:=@List.length_cons
abbrev OF:=@Operand
abbrev Of:=@List.map_cons
abbrev IF:=@List.take_of_length_le
abbrev IN:=@List.all_eq_true
abbrev If:=@List.getElem?_take
abbrev qs:=@List.length_nil
abbrev k4:=@Array.getD_eq_getD_getElem?
abbrev yb:=@Nat.eq_of_beq_eq_true
abbrev y1:=@Sem.run_bind
abbrev u0:=@Nat.lt_or_ge
abbrev u1:=@Bool.not_false
abbrev u2:=@Option.bind_eq_some_iff
abbrev wt:=@List.mem_map_of_mem
abbrev x4:=@List.drop_eq_nil_of_le
abbrev x8:=@List.getElem?_append_left
abbrev dO:=@List.drop_eq_getElem_cons
abbrev bY:=@List.length_append
abbrev sp:=@Nat.ble_eq_true_of_le
abbrev s5:=@Nat.zero_add
abbrev s6:=@Exit
abbrev s9:=@callsIn_wide
abbrev ta:=@MapEntry
abbrev tb:=@List.getElem?_map
abbrev ts:=@List.mem_singleton
abbrev rW:=@List.mem_filter
abbrev r7:=@List.cons_append
abbrev r8:=@Bool.not_eq_true'
abbrev mb:=@List.mem_append
abbrev mo:=@List.append_nil
abbrev mx:=@Bool.or_eq_true
abbrev lM:=@List.ext_getElem?
abbrev lN:=@StepsIn.trans
abbrev lO:=@IntKind
abbrev lQ:=@List.nil_append
abbrev lR:=@List.getElem?_append_right
abbrev lT:=@List.any_eq_true
abbrev lV:=@Int.toNat_natCast
abbrev lW:=@Option.map_eq_some_iff
abbrev lX:=@List.mem_map
abbrev lY:=@List.getElem?_drop
abbrev lZ:=@List.getElem?_eq_none
abbrev la:=@List.getElem?_cons_succ
abbrev ld:=@List.all_cons
abbrev lg:=@List.getElem?_set
abbrev lk:=@Int.mul_le_mul_of_nonneg_left
abbrev ll:=@List.mem_range
abbrev ln:=@Bool.true_and
abbrev lu:=@Nat.add_mul
abbrev lz:=@List.getElem_of_mem
abbrev oA:=@List.cons.injEq
abbrev oD:=@Nat.le_trans
abbrev oI:=@Sem.run_pure
abbrev oJ:=@List.length_drop
abbrev oL:=@Option.isSome_none
abbrev oP:=@Int.tdiv_eq_ediv_of_nonneg
abbrev oQ:=@Nat.mul_le_mul_right
abbrev oS:=@Bool.false_or
abbrev oU:=@List.eraseIdx_cons_succ
abbrev oV:=@List.drop_append_of_le_length
abbrev oW:=@Func
abbrev oX:=@Edge
abbrev oY:=@Option.map_none
abbrev oZ:=@Code
abbrev oe:=@List.getElem?_zipWith
abbrev om:=@Option.getD_some
abbrev oq:=@run_enterLoop_outer
abbrev o0:=@Array.length_toList
abbrev o5:=@Option.isSome_some
abbrev o7:=@List.filter_eq_nil_iff
abbrev o8:=@List.drop_drop
abbrev iN:=@List.take_append_drop
abbrev qAA:=@World.size_alloc
abbrev qAB:=@Int.mul_le_mul_of_nonneg_right
abbrev qAH:=@wpIn_mono
abbrev qAJ:=@Nat.eq_zero_or_pos
abbrev qAK:=@List.drop_zero
abbrev qAO:=@List.getElem?_eq_none_iff
abbrev qAQ:=@fenced_calm
abbrev qAR:=@calls_of_wp
abbrev qAT:=@List.prefix_refl
abbrev qAU:=@List.length_take
abbrev qAX:=@Nat.sub_zero
abbrev qAY:=@List.getElem?_eraseIdx
abbrev qAZ:=@List.drop_of_length_le
abbrev qAc:=@List.length_replicate
abbrev qAe:=@wpIn_rangeFunc
abbrev qAg:=@TypeDesc
abbrev qAh:=@List.pairwise_append
abbrev qAi:=@Int.toNat_zero
abbrev qAj:=@wpIn_wide
abbrev qAl:=@callsIn_of_wp_marks
abbrev qAo:=@Nat.mod_lt
abbrev qAp:=@Nat.lt_of_lt_of_le
abbrev qAq:=@Ending
abbrev qAr:=@Array.ext_getElem?
abbrev qAv:=@Nat.add_zero
abbrev qAx:=@List.map_nil
abbrev qAz:=@Bool.true_or
abbrev qA1:=@Array.size_append
abbrev qA2:=@Array.all_eq_true_iff_forall_mem
abbrev qA3:=@Array.getElem?_setIfInBounds_ne
abbrev qA4:=@List.getElem_mem
abbrev qA6:=@Array.eq_empty_of_size_eq_zero
abbrev qBB:=@Int.ediv_nonneg
abbrev qBP:=@stepR_inLoop
abbrev qBR:=@Ne.symm
abbrev qBW:=@Array.getElem?_modify
abbrev qBg:=@List.append_toArray
end Go.Dec
namespace Go.Dec
variable{w w' :By}{b o γ n d e j z t i sz cap by_ e2 clock:Nat}{p:Q2 C1}{a:Act}{x y hi:Int}{o' :Obj}{Q Q1:s6->Act->By->Prop}{S S' ps S0 Si:Q0 (Nat×K2)}{β σ α V τ:Type}{P:B2}{D:Q0 AT}{O:Q2 Nat}{K A:Act->By->Prop}{args cs vs eY as us us2:Q0 K2}{eX:C3 L0}{v u h:K2}{R:qAq->By->Prop}{rest:Q0 L0}{fn:oW}{after:C3 oX}{pos:String}{ty t' :S2}{fs:C3 Field}{T:C3 S2}{op:Op}{ox oy oz:OF}{kd:lO}{zc zero:C3 K2}{parts:Q0 (Nat×OF)}{fr:Nat×Nat}{os:Q0 OF}{rs:Q0 ResultVar}{b' :Bool}{L:Nat->Bool}{M:Q0 Bool}{m:Q2 β}{r:β}{l l2 l' post xs:Q0 α}{f:α->Q2 β}{s:σ}{I:σ->Act->By->Prop}{err:Q0 α->α->Int}
section
variable{k:Nat}{o:Obj}
inductive Key where
 | blk (b:Nat)
 | gst (γ:Nat)
 deriving DecidableEq
inductive Cell where
 | obj (o:Obj)
 | gh (l:List Nat)
abbrev Mem:=Key->Q2 Cell
variable{m n:Mem}
abbrev HP:=Mem->Prop
variable{hs:Q0 HP}{H p q:HP}
structure Fz where
 mem:Nat->Option Obj
 os:Os
 tape:Nat->Question->Nat
 out:Array (Nat×ByteArray)
 gh:Nat->List Nat:=λ_=>[]
 gn:Nat:=0
variable{F:Fz}
structure Fz.Le(F F' :Fz):Prop where
 os:F'.os=F.os
 tape:F'.tape=F.tape
 out:F'.out=F.out
 mem:∀b o,F.mem b=some o->F'.mem b=some o
 gh:∀γ,γ < F.gn->F.gh γ <+:F'.gh γ
 gn:F.gn<=F'.gn
instance:LE Fz:=⟨Fz.Le⟩
theorem Fz.le_refl(F:Fz):F<=F:=⟨rfl,rfl,rfl,λ_ _ h=>h,λ_ _=>qAT _,So _⟩
theorem Fz.le_trans{G H:Fz}(h:F<=G)(k:G<=H):F<=H:=⟨k.os.trans h.os,k.tape.trans h.tape,k.out.trans h.out,λb o e=>k.mem b o<|h.mem b o e,λγ hγ=>(h.gh γ hγ).trans<|k.gh γ<|qAp hγ h.gn,oD h.gn k.gn⟩
def Mem.dj(m n:Mem):Prop:=∀k,m k=none∨n k=none
def Mem.sub(m n:Mem):Prop:=∀k o,m k=some o->n k=some o
def Mem.set(m:Mem)(b:Key)(o:Cell):Mem:=λk=>if k=b then some o else m k
def NG(m:Nat->Q2 Obj)(b:Nat)(o:Obj):Nat->Q2 Obj:=λk=>if k=b then some o else m k
theorem Mem.dj.symm(h:Mem.dj m n):Mem.dj n m:=λk=>(h k).symm
theorem Mem.sub.trans{p:Mem}(h:Mem.sub m n)(k:Mem.sub n p):Mem.sub m p:=λb o e=>k b o<|h b o e
theorem Mem.sub.refl(m:Mem):Mem.sub m m:=λ_ _ e=>e
theorem Mem.dj.sub{a n':Mem}(h:Mem.dj m n)(c:Mem.sub a m)(d:Mem.sub n' n):Mem.dj a n' :=λk=>by
 rcases h k with h | h
 .cases e:a k with
  | none=>exact .inl rfl
  | some o=>rw[c k o e] at h;cases h
 .cases e:n' k with
  | none=>exact .inr rfl
  | some o=>rw[d k o e] at h;cases h
theorem Mem.dj.sc(h:Mem.dj m n){b:Key}{o:Cell}(e:m b=some o):n b=none:=by
 rcases h b with h | h
 .rw[e] at h;cases h
 .exact h
theorem Mem.dj.tM(h:Mem.dj m n){b:Key}{o:Cell}(e:n b=some o):m b=none:=h.symm.sc e
def AX:HP:=λ_=>True
def pt(b:Nat)(o:Obj):HP:=λm=>m (.blk b)=some (.obj o)
def yr(γ:Nat)(l:Q0 Nat):HP:=λm=>m (.gst γ)=some (.gh l)
def star(p q:HP):HP:=λm=>∃a c,Mem.dj a c/\Mem.sub a m/\Mem.sub c m/\p a/\q c
def Qk:Q0 HP->HP
 | []=>AX
 | p::hs=>star p<|Qk hs
theorem Zm{r:HP}(h:star p (star q r) m):star q (star p r) m:=by
 obtain⟨f,C,d,s,g,t,i,a,u,j,c,v,y⟩:=h
 classical
 refine⟨i,λk=>if a k=none then f k else a k,?_,j.trans g,?_,v,f,a,?_,?_,?_,t,y⟩
 .intro k;by_cases e:a k=none
  .simp only[e,B1];rcases d k with h | h
   .exact .inr h
   .left;cases z:i k with
    | none=>rfl
    | some o=>rw[j k o z] at h;cases h
  .simp only[e,Bm];rcases u k with h | h
   .exact .inl h
   .exact absurd h e
 .intro k o e;by_cases l:a k=none
  .simp only[l,B1] at e;exact s k o e
  .simp only[l,Bm] at e;exact g k o<|c k o e
 .exact d.sub (Mem.sub.refl _) c
 .intro k o e
  have A:a k=none:=by
   cases B:a k with
   | none=>rfl
   | some x=>
    have:=d.sc e;rw[c k x B] at this;cases this
  simp[A,e]
 .intro k o e;simp[e]
theorem QT{a:HP}(h:∀m,q m->a m)(k:star p q m):star p a m:=let⟨c,e,d,f,g,i,j⟩:=k;⟨c,e,d,f,g,i,h _ j⟩
theorem QR{p':HP}(h:∀m,p m->p' m)(k:star p q m):star p' q m:=let⟨a,c,d,e,f,g,i⟩:=k;⟨a,c,d,e,f,h _ g,i⟩
theorem Vm:∀{hs:Q0 HP} {k:Nat} {p:HP} {m:Mem},hs[k]? =some p->Qk hs m->star p (Qk<|hs.eraseIdx k) m
 | [],_,_,_,h,_=>by simp at h
 | q::hs,0,p,m,h,a=>by
  simp at h;subst h;exact a
 | q::hs,k+1,p,m,h,a=>by
  simp only[la] at h
  simp only[oU];exact Zm<|QT (λm c=>Vm h c) a
theorem Fs:∀{hs:Q0 HP} {k:Nat} {p q:HP} {m:Mem},hs[k]? =some q->star p (Qk<|hs.eraseIdx k) m->Qk (hs.set k p) m
 | [],_,_,_,_,h,_=>by simp at h
 | x::hs,0,p,q,m,h,a=>a
 | x::hs,k+1,p,q,m,h,a=>by
  simp only[la] at h
  simp only[oU] at a
  simp only[List.set_cons_succ];exact QT (λm c=>Fs h c)<|Zm a
theorem Da(h:Qk hs m):star AX (Qk<|hs.eraseIdx k) m:=by
 cases e:hs[k]? with
 | some p=>exact QR (λ_ _=>trivial) (Vm e h)
 | none=>
  have:hs.eraseIdx k=hs:=List.eraseIdx_of_length_le (by simpa using e);rw[this];exact⟨λ_=>none,m,λ_=>.inl rfl,λ_ _ e=>by simp at e,Mem.sub.refl _,trivial,h⟩
structure gk(w:World)(F:Fz)(m:Mem):Prop where
 dj:∀b,m (.blk b)=none∨F.mem b=none
 own:∀b c,m (.blk b)=some c->∃o,c= .obj o/\w.heap[b]? =some o
 gst:∀γ c,m (.gst γ)=some c->γ < F.gn/\c= .gh (F.gh γ)
 frz:∀b o,F.mem b=some o->w.heap[b]? =some o
 os:w.os=F.os
 tape:w.tape=F.tape
 out:w.output=F.out
def SH(w:By)(F:Fz)(H:HP):Prop:=∃m,H m/\gk w F m
theorem lt_of_heap(h:w.heap[b]? =some o):b < w.heap.size:=by
 rcases u0 b w.heap.size with h' | h'
 .exact h'
 .rw[Array.getElem?_eq_none h'] at h;cases h
theorem gk.sub(h:gk w F m)(s:Mem.sub n m):gk w F n:=
 ⟨λb=>by
  rcases h.dj b with e | e
  .cases a:n (.blk b) with
   | none=>exact .inl rfl
   | some c=>rw[s _ c a] at e;cases e
  .exact .inr e,λb o e=>h.own b o<|s _ o e,λγ c e=>h.gst γ c<|s _ c e,h.frz,h.os,h.tape,h.out⟩
theorem gk.ry(h:gk w F m)(e:m (.blk b)=some (.obj o)):w.heap[b]? =some o:=by
 obtain⟨_,a,c⟩:=h.own b _ e;cases a;exact c
theorem SH.mono{H':HP}(h:SH w F H)(k:∀m,H m->H' m):SH w F H' :=let⟨m,a,b⟩:=h;⟨m,k m a,b⟩
theorem SH.drop(h:SH w F (star p q)):SH w F q:=let⟨_,⟨_,a,_,_,c,_,d⟩,b⟩:=h;⟨a,d,b.sub c⟩
theorem SH.frozen(h:SH w F H)(e:F.mem b=some o):w.heap[b]? =some o:=let⟨_,_,k⟩:=h;k.frz b o e
theorem SH.owned(h:SH w F (star (pt b o) H)):w.heap[b]? =some o:=
 let⟨_,⟨_,_,_,a,_,c,_⟩,k⟩:=h
 let⟨_,e,h'⟩:=k.own b _<|a _ _ c
 by cases e;exact h'
theorem SH.drew(h:SH w F H)(n:Nat):SH {w with drawn:=n} F H:=let⟨m,a,k⟩:=h;⟨m,a,k.dj,k.own,k.gst,k.frz,k.os,k.tape,k.out⟩
theorem heap_alloc_old{x:Obj}(h:w.heap[b]? =some x):(w.alloc o).heap[b]? =some x:=by
 have:=lt_of_heap h;show(w.heap.push o)[b]? =_;rw[Array.getElem?_push,Do hQ];exact h
theorem heap_alloc_new(w:By)(o:Obj):(w.alloc o).heap[w.heap.size]? =some o:=by
 show(w.heap.push o)[w.heap.size]? =_;simp
theorem gk.fresh(h:gk w F m):m (.blk w.heap.size)=none/\F.mem w.heap.size=none:=by
 constructor
 .cases e:m (.blk w.heap.size) with
  | none=>rfl
  | some o=>obtain⟨_,_,h'⟩:=h.own _ _ e;have:=lt_of_heap h';omega
 .cases e:F.mem w.heap.size with
  | none=>rfl
  | some o=>have:=lt_of_heap<|h.frz _ _ e;omega
theorem SD{k:Key}{c:Cell}(h:m k=none)(a:H m):star (λm=>m k=some c) H (m.set k c):=by
 refine⟨Mem.set (λ_=>none) k c,m,?_,?_,?_,?_,a⟩
 .intro b;by_cases e:b=k
  .subst e;exact .inr h
  .exact .inl<|by simp[Mem.set,e]
 .intro b x e;by_cases d:b=k
  .simpa[Mem.set,d] using e
  .simp[Mem.set,d] at e
 .intro b x e;by_cases d:b=k
  .subst d;rw[h] at e;cases e
  .simpa[Mem.set,d] using e
 .simp[Mem.set]
theorem SH.alloc{F:Fz}{H:HP}(h:SH w F H)(o:Obj):SH (w.alloc o) F (star (pt w.heap.size o) H):=by
 obtain⟨m,a,k⟩:=h;obtain⟨f,g⟩:=k.fresh;refine⟨m.set (.blk w.heap.size)<|.obj o,SD f a,?_,?_,?_,?_,k.os,k.tape,k.out⟩
 .intro b;by_cases e:b=w.heap.size
  .subst e;exact .inr g
  .rcases k.dj b with h | h
   .exact .inl<|by simpa[Mem.set,e] using h
   .exact .inr h
 .intro b x e;by_cases d:b=w.heap.size
  .subst d;simp[Mem.set] at e;subst e;exact⟨o,rfl,heap_alloc_new w o⟩
  .simp[Mem.set,d] at e;obtain⟨o',i,j⟩:=k.own b x e;exact⟨o',i,heap_alloc_old j⟩
 .intro γ c e;exact k.gst γ c<|by simpa[Mem.set] using e
 .intro b x e;exact heap_alloc_old<|k.frz b x e
def Fz.rp(F:Fz):Fz:={F with gh:=λγ=>if γ=F.gn then[] else F.gh γ,gn:=F.gn+1}
theorem SH.aF(h:SH w F H):F<=F.rp/\SH w F.rp (star (yr F.gn []) H):=by
 obtain⟨m,a,k⟩:=h
 have f:m (.gst F.gn)=none:=by
  cases e:m (.gst F.gn) with
  | none=>rfl
  | some c=>have:=(k.gst _ _ e).1;omega
 refine⟨⟨rfl,rfl,rfl,λ_ _ h=>h,λγ hγ=> ?_,Nat.le_succ _⟩,m.set (.gst F.gn)<|.gh [],SD f a,?_,?_,?_,k.frz,k.os,k.tape,k.out⟩
 .show F.gh γ <+:(if γ=F.gn then[] else F.gh γ);rw[Do hQ];exact qAT _
 .intro b;rcases k.dj b with h | h
  .exact .inl<|by simpa[Mem.set] using h
  .exact .inr h
 .intro b x e;exact k.own b x<|by simpa[Mem.set] using e
 .intro γ c e;by_cases d:γ=F.gn
  .subst d;simp[Mem.set] at e;subst e;exact⟨Nat.lt_succ_self _,by simp[Fz.rp]⟩
  .have g:m (.gst γ)=some c:=by simpa[Mem.set,d] using e
   obtain⟨i,j⟩:=k.gst γ c g;exact⟨Nat.lt_succ_of_lt i,by simp[Fz.rp,d,j]⟩
def Fz.aa(F:Fz)(γ b:Nat):Fz:={F with gh:=λδ=>if δ=γ then F.gh γ++[b] else F.gh δ}
theorem SH.pj{l:Q0 Nat}(h:SH w F (star (yr γ l) H)):γ < F.gn/\F.gh γ=l:=by
 obtain⟨m,⟨g,i,d,c,j,e,r⟩,k⟩:=h;obtain⟨f,a⟩:=k.gst γ _<|c _ _ e;simp only[Cell.gh.injEq] at a
 exact⟨f,a.symm⟩
theorem SH.aa{l:Q0 Nat}(h:SH w F (star (yr γ l) H))(b:Nat):F<=F.aa γ b/\SH w (F.aa γ b) (star (yr γ<|l++[b]) H):=by
 obtain⟨j,r⟩:=h.pj;obtain⟨m,⟨A,a,d,s,f,i,t⟩,k⟩:=h;have B:m (.gst γ)=some (.gh l):=s _ _ i;have u:a (.gst γ)=none:=d.sc i;refine⟨⟨rfl,rfl,rfl,λ_ _ h=>h,λδ _=> ?_,So _⟩,a.set (.gst γ)<|.gh<|l++[b],SD u t,?_,?_,?_,k.frz,k.os,k.tape,k.out⟩
 .show F.gh δ <+:(if δ=γ then F.gh γ++[b] else F.gh δ);split
  .rename_i e;subst e;exact List.prefix_append _ _
  .exact qAT _
 .intro b';rcases k.dj b' with h | h
  .cases e:a (.blk b') with
   | none=>exact .inl (by simpa[Mem.set] using e)
   | some c=>rw[f _ _ e] at h;cases h
  .exact .inr h
 .intro b' x e;exact k.own b' x<|f _ _<|by simpa[Mem.set] using e
 .intro δ c e;by_cases g:δ=γ
  .subst g;simp[Mem.set] at e;subst e;exact⟨j,by simp[Fz.aa,r]⟩
  .have v:a (.gst δ)=some c:=by simpa[Mem.set,g] using e
   obtain⟨y,z⟩:=k.gst δ c<|f _ _ v;exact⟨y,by simp[Fz.aa,g,z]⟩
def Fz.add(F:Fz)(b:Nat)(o:Obj):Fz:={F with mem:=NG F.mem b o}
theorem Fz.rX(h:F.mem b=none):F<=F.add b o:=
 ⟨rfl,rfl,rfl,λk x e=>by
  show NG F.mem b o k=some x;by_cases a:k=b
  .subst a;rw[h] at e;cases e
  .simpa[NG,a] using e,λ_ _=>qAT _,So _⟩
theorem Fz.sV(F:Fz)(b:Nat)(o:Obj):(F.add b o).mem b=some o:=by simp[Fz.add,NG]
theorem SH.freeze(h:SH w F (star (pt b o) H)):F<=F.add b o/\SH w (F.add b o) H:=by
 have i:=h.owned;obtain⟨m,⟨u,c,d,j,l,f,r⟩,k⟩:=h;have s:m (.blk b)=some (.obj o):=j _ _ f
 have t:F.mem b=none:=by
  rcases k.dj b with e | e
  .rw[s] at e;cases e
  .exact e
 have a:=k.sub l;refine⟨Fz.rX t,c,r,?_,a.own,a.gst,?_,k.os,k.tape,k.out⟩
 .intro b';show c (.blk b')=none∨NG F.mem b o b' =none;by_cases e:b' =b
  .subst e;exact .inl<|d.sc f
  .rcases a.dj b' with h | h
   .exact .inl h
   .exact .inr<|by simpa[NG,e] using h
 .intro b' x e;change NG F.mem b o b' =some x at e
  by_cases g:b' =b
  .subst g;simp[NG] at e;subst e;exact i
  .simp[NG,g] at e;exact k.frz b' x e
theorem SH.tg(h:SH w F H)(o:Obj):F<=F.add w.heap.size o/\SH (w.alloc o) (F.add w.heap.size o) H:=(h.alloc o).freeze
def put(w:By)(b:Nat)(o:Obj):By:={w with heap:=w.heap.setIfInBounds b o}
theorem Av{x:Obj}(h:w.heap[b]? =some x):(put w b o).heap[b]? =some o:=by
 have:=lt_of_heap h;simp[put,this]
theorem SX(h:k≠b):(put w b o).heap[k]? =w.heap[k]? :=by
 simp[put,qBR h]
theorem SH.put(h:SH w F (star (pt b o) H)):SH (Dec.put w b o') F (star (pt b o') H):=by
 have l:=h.owned;obtain⟨m,⟨B,g,d,r,s,i,t⟩,k⟩:=h;have u:m (.blk b)=some (.obj o):=r _ _ i
 have j:F.mem b=none:=by
  rcases k.dj b with e | e
  .rw[u] at e;cases e
  .exact e
 have v:g (.blk b)=none:=d.sc i;have f:=k.sub s;refine⟨g.set (.blk b)<|.obj o',SD v t,?_,?_,?_,?_,k.os,k.tape,k.out⟩
 .intro b';by_cases e:b' =b
  .subst e;exact .inr j
  .rcases f.dj b' with h | h
   .exact .inl<|by simpa[Mem.set,e] using h
   .exact .inr h
 .intro b' x e;by_cases a:b' =b
  .subst a;simp[Mem.set] at e;subst e;exact⟨o',rfl,Av l⟩
  .simp[Mem.set,a] at e
   obtain⟨y,z,A⟩:=f.own b' x e;exact⟨y,z,by rw[SX a];exact A⟩
 .intro γ c e;exact f.gst γ c<|by simpa[Mem.set] using e
 .intro b' x e;have:b'≠b:=λa=>by subst a;rw[j] at e;cases e
  rw[SX this];exact k.frz b' x e
theorem SH.pull(a:hs[k]? =some p)(h:SH w F (Qk hs)):SH w F (star p<|Qk<|hs.eraseIdx k):=h.mono λ_=>Vm a
theorem SH.push(a:hs[k]? =some q)(h:SH w F (star p<|Qk<|hs.eraseIdx k)):SH w F (Qk<|hs.set k p):=h.mono λ_=>Fs a
theorem SH.sK(a:hs[k]? =some (pt b o))(h:SH w F (Qk hs)):w.heap[b]? =some o:=(h.pull a).owned
theorem SH.putAt(a:hs[k]? =some (pt b o))(h:SH w F (Qk hs))(o' :Obj):SH (Dec.put w b o') F (Qk<|hs.set k<|pt b o'):=SH.push a ((h.pull a).put)
theorem SH.rZ(a:hs[k]? =some (pt b o))(h:SH w F (Qk hs)):F<=F.add b o/\SH w (F.add b o) (Qk<|hs.eraseIdx k):=(h.pull a).freeze
theorem SH.se(k:Nat)(h:SH w F (Qk hs)):SH w F (Qk<|hs.eraseIdx k):=(h.mono λ_=>Da (k:=k)).drop
theorem SH.only(a:hs[k]? =some p)(h:SH w F (Qk hs)):SH w F p:=by
 obtain⟨m,c,s⟩:=h;obtain⟨e,i,d,f,j,g,_⟩:=Vm a c;exact⟨e,g,s.sub f⟩
theorem SH.one(h:SH w F p):SH w F (Qk [p]):=h.mono λm a=>⟨m,λ_=>none,λ_=>.inr rfl,Mem.sub.refl _,λ_ _ e=>by simp at e,a,trivial⟩
theorem SH.size_le{f:Fz}{H' :HP}(h' :SH w' f H')(a:∀b o,w.heap[b]? =some o->F.mem b=some o)(le:F<=f):w.heap.size<=w'.heap.size/\∀k,k < w.heap.size->w'.heap[k]? =w.heap[k]? :=by
 have key:∀k,k < w.heap.size->w'.heap[k]? =w.heap[k]? :=λk g=>by
  have e:w.heap[k]? =some w.heap[k]:=by simp[g]
  rw[e];exact h'.frozen<|le.mem _ _<|a _ _ e
 refine⟨?_,key⟩;rcases u0 w'.heap.size w.heap.size with c | d
 .have e:=key w'.heap.size c;have h:w.heap[w'.heap.size]? =some w.heap[w'.heap.size]:=by simp[c]
  rw[h] at e
  have:=lt_of_heap e;omega
 .exact d
end
variable{hs hs' hs2:Q0 HP}{H q p' :HP}{F F' F0 F2:Fz}{H' :β->Fz->K2->HP}{ρ:β->Fz->K2->Prop}{arg:α->Fz->Q0 K2->Prop}{rv:Fz->V->K2->Prop}{Y:σ->Fz->HP}
section
variable{γ:Type}{id:Nat}{K' :Act->By->Prop}{c x y:oZ}{l:Q0 L0}{o:L0}{f:Nm}
def JC:Q0 (Nat×K2)->Nat->Q2 K2
 | [],_=>none
 | (k,v)::S,i=>match Nat.beq k i with
  | true=>some v
  | false=>JC S i
def Sl(n:Nat)(D:Q0 AT)(S:Q0 (Nat×K2))(a:Act):Prop:=a.tmps.size=n/\a.defers=D/\∀i v,JC S i=some v->a.tmps.getD i undef=v
def Hd(n:Nat)(D:Q0 AT)(S:Q0 (Nat×K2))(F:Fz)(hs:Q0 HP)(a:Act)(w:By):Prop:=Sl n D S a/\SH w F (Qk hs)
def QS(S:Q0 (Nat×K2)):OF->Q2 K2
 | .tmp t=>JC S t
 | .const v=>some v
 | .global g=>some (.pointer<|some ⟨g,0,none⟩)
 | .func f=>some<|.func (.func f) #[] #[]
theorem Sl.eval(h:Sl n D S a){o:OF}(e:QS S o=some v):a.eval o=v:=by
 cases o with
 | tmp t=>exact h.2.2 t v e
 | const x=>exact Tc e
 | global g=>exact Tc e
 | func f=>exact Tc e
theorem Sl.put(h:Sl n D S a)(p:Nat.blt d n=true)(v:K2):Sl n D ((d,v)::S) (a.put (some d) v):=by
 have g:d < n:=AC p;obtain⟨k,q,r⟩:=h;refine⟨by simp[Act.put,k],by simp[Act.put,q],λi u e=> ?_⟩;simp only[JC] at e
 cases b:Nat.beq d i with
 | true=>
  rw[b] at e
  have:d=i:=yb b;subst this;simp only[UV] at e
  subst e;simp[Act.put,k,g]
 | false=>
  rw[b] at e
  have j:d≠i:=λhe=>by subst he;simp at b
  have:=r i u e;simp only[Act.put,k4] at this ⊢
  rw[qA3 j];exact this
theorem Sl.sb(h:Sl n D S a)(v:K2):Sl n D S (a.put none v):=h
def Sub(S' S:Q0 (Nat×K2)):Prop:=∀i v,JC S' i=some v->JC S i=some v
theorem Sub.refl(S:Q0 (Nat×K2)):Sub S S:=λ_ _ h=>h
theorem Sub.nil(S:Q0 (Nat×K2)):Sub [] S:=λ_ _ h=>by simp[JC] at h
theorem Sub.cons{T:Q0 (Nat×K2)}{k:Nat}(h:JC S k=some v)(t:Sub T S):Sub ((k,v)::T) S:=λi u e=>by
 simp only[JC] at e
 cases b:Nat.beq k i with
 | true=>
  rw[b] at e
  have:k=i:=yb b;subst this;simp only[UV] at e
  subst e;exact h
 | false=>rw[b] at e;exact t i u e
theorem Sl.sub(h:Sl n D S a)(s:Sub S' S):Sl n D S' a:=⟨h.1,h.2.1,λi v e=>h.2.2 i v<|s i v e⟩
def TR(k:Nat):Q0 (Nat×K2)->Bool
 | []=>false
 | (j,_)::S=>Nat.beq j k||TR k S
def fresh(S:Q0 (Nat×K2)):Q0 (Nat×K2)->Bool
 | []=>true
 | (j,_)::T=> !TR j S&&fresh S T
theorem DC:∀{S:Q0 (Nat×K2)} {i:Nat} {v:K2},JC S i=some v->TR i S=true
 | [],_,_,h=>by simp[JC] at h
 | (k,u)::S,i,v,h=>by
  simp only[JC] at h
  simp only[TR];cases b:Nat.beq k i with
  | true=>rfl
  | false=>rw[b] at h;simp[DC h]
theorem Df:∀{T S:Q0 (Nat×K2)} {i:Nat} {v:K2},fresh S T=true->JC S i=some v->JC (T++S) i=some v
 | [],_,_,_,_,h=>h
 | (j,u)::T,S,i,v,b,h=>by
  simp only[fresh,BY,r8] at b
  simp only[r7,JC];cases d:Nat.beq j i with
  | true=>
   have:j=i:=yb d;subst this;rw[DC h] at b;cases b.1
  | false=>exact Df b.2 h
inductive Kt where
 | code (c:Code)
 | block (id:Nat)
variable{ks:Q0 Kt}
def NH:Q2 Nat->Fence
 | none=>Fence.wide
 | some l=>Fence.wide.inRound l
theorem yw(O:Q2 Nat):(NH O).round=O:=by cases O<;>rfl
theorem CG(O:Q2 Nat)(f:Nm):(NH O).fn f:=by cases O<;>trivial
theorem BU(O:Q2 Nat):(NH O).depth=none:=by cases O<;>rfl
theorem BT(O:Q2 Nat)(n:Nat):(NH O).room n:=λd b=>by rw[BU] at b;cases b
theorem E7{args:C3 K2}:CallsIn (NH O) n P f args w R↔Calls P f args w R:=by
 cases O with
 | none=>exact s9
 | some l=>exact s9
def Ht:Op->Bool
 | .defer _=>false
 | _=>true
theorem kK{o:Op}(h:Ht o=true):∀c,o≠.defer c:=λc e=>by rw[e] at h;cases h
def yd(O:Q2 Nat)(P:B2)(o:L0)(a:Act)(w:By)(K:Act->By->Prop)(Q:s6->Act->By->Prop):Prop:=(O=none∨Ht o.op=true)/\o.uponIn (NH O) 0 P a K Q ((execOp a.eval o).run P w)
theorem yd.wpIn(h:yd O P o a w K Q):o.wpIn (NH O) 0 P a w K Q:=by
 refine⟨λf _=>CG O f,?_⟩;rw[yw];obtain⟨b,d⟩:=h;rcases b with rfl | b
 .exact d
 .rw[Oper.semAt_eq O _ o<|kK b];exact d
theorem Ox{s:s6->Act->By->Prop}(h:∀u w,K (a.put o.dst u) w->K' (a.put o.dst u) w)
  (t:∀d w,K ({a with defers:=d::a.defers}.put o.dst undef) w->K' ({a with defers:=d::a.defers}.put o.dst undef) w) (i:∀e a w,e≠.normal->Q e a w->s e a w)
  (z:yd O P o a w K Q):yd O P o a w K' s:=by
 obtain⟨A,b⟩:=z;refine⟨A,?_⟩;generalize(execOp a.eval o).run P w=r at*
 unfold Oper.uponIn at*
 split at b
 all_goals first
  | exact h _ _ b
  | exact t _ _ b
  | exact b.elim
  | exact i _ _ _ ic b
  | (refine⟨b.1,CallsIn.mono b.2 ?_⟩;rintro(v | c | _) j g<;>first | exact h _ _ g | exact i _ _ _ ic g | (obtain⟨k,p,q⟩:=g;exact⟨k,p,i _ _ _ ic q⟩))
  | (refine⟨b.1,RowsIn.mono b.2 ?_⟩;intro v j g;exact h _ _ g)
  | (refine⟨b.1,RoundIn.mono b.2 ?_⟩;rintro(v | c | _) j g<;>first | exact h _ _ g | exact i _ _ _ ic g | (obtain⟨k,p,q⟩:=g;exact⟨k,p,i _ _ _ ic q⟩))
theorem NR{b:s6->Act->By->Prop}(h:∀a w,K a w->K' a w)(d:∀e a w,e≠.normal->Q e a w->b e a w)
 (g:yd O P o a w K Q):yd O P o a w K' b:=Ox (λ_ _=>h _ _) (λ_ _=>h _ _) d g
theorem SO(h:∀a w,K a w->K' a w)(b:yd O P o a w K Q):yd O P o a w K' Q:=NR h (λ_ _ _ _ d=>d) b
def Xp(O:Q2 Nat)(P:B2)(eX:C3 L0)(Q:s6->Act->By->Prop):Q0 L0->Act->By->Prop
 | [],a,w=>Q .normal a w
 | o::rest,a,w=>if Region.wanted o (yielded eX a.tmps) then yd O P o a w (Xp O P eX Q rest) Q else Xp O P eX Q rest (a.put o.dst undef) w
theorem Xp.wpIn:∀{l:Q0 L0} {a:Act} {w:By},Xp O P eX Q l a w->wpListIn (NH O) 0 P eX Q l a w
 | [],_,_,h=>h
 | o::rest,a,w,h=>by
  unfold Xp at h
  unfold wpListIn;split
  .rename_i b;rw[DO b] at h
   exact(SO (λa w h=>Xp.wpIn h) h).wpIn
  .rename_i b;rw[Do b] at h
   exact⟨λf _=>CG O f,Xp.wpIn h⟩
def Z0(O:Q2 Nat)(P:B2):Q0 Kt->(s6->Act->By->Prop)->s6->Act->By->Prop
 | [],Q=>Q
 | .code c::ks,Q=>Exit.then (c.wpIn (NH O) 0 P<|Z0 O P ks Q) (Z0 O P ks Q)
 | .block id::ks,Q=>Exit.inBlock id<|Z0 O P ks Q
def BV(id:Nat):Q0 Kt->Q2 (Q0 Kt)
 | []=>none
 | .code _::ks=>BV id ks
 | .block j::ks=>match Nat.beq j id with
  | true=>some ks
  | false=>BV id ks
theorem Q9:∀{ks b:Q0 Kt},BV id ks=some b->Z0 O P b Q .normal a w->Z0 O P ks Q (.exit id) a w
 | [],_,h,_=>by simp[BV] at h
 | .code c::ks,b,h,k=>by
  simp only[BV] at h
  show Z0 O P ks Q (.exit id) a w;exact Q9 h k
 | .block j::ks,b,h,k=>by
  simp only[BV] at h
  show(if id=j then Z0 O P ks Q .normal a w else Z0 O P ks Q (.exit id) a w);cases d:Nat.beq j id with
  | true=>
   rw[d] at h
   have:j=id:=yb d;simp only[UV] at h
   subst h;rw[DO this.symm];exact k
  | false=>
   rw[d] at h
   have e:id≠j:=λhe=>by subst he;simp at d
   rw[Do e];exact Q9 h k
theorem TQ:∀{ks:Q0 Kt},BV id ks=none->Q (.exit id) a w->Z0 O P ks Q (.exit id) a w
 | [],_,k=>k
 | .code c::ks,h,k=>by
  simp only[BV] at h
  show Z0 O P ks Q (.exit id) a w;exact TQ h k
 | .block j::ks,h,k=>by
  simp only[BV] at h
  show(if id=j then Z0 O P ks Q .normal a w else Z0 O P ks Q (.exit id) a w);cases b:Nat.beq j id with
  | true=>rw[b] at h;simp at h
  | false=>
   rw[b] at h
   have d:id≠j:=λhe=>by subst he;simp at b
   rw[Do d];exact TQ h k
theorem K6:∀{ks:Q0 Kt},Q .ret a w->Z0 O P ks Q .ret a w
 | [],k=>k
 | .code c::ks,k=>by show Z0 O P ks Q .ret a w;exact K6 k
 | .block j::ks,k=>by show Z0 O P ks Q .ret a w;exact K6 k
theorem JF{c:Q0 PanicEntry}:∀{ks:Q0 Kt},Q (.panic c) a w->Z0 O P ks Q (.panic c) a w
 | [],k=>k
 | .code c::ks,k=>by show Z0 O P ks Q (.panic _) a w;exact JF k
 | .block j::ks,k=>by show Z0 O P ks Q (.panic _) a w;exact JF k
def wpS(P:B2)(eX:C3 L0)(w:By)(K:Act->Prop):Q0 L0->Act->Prop
 | [],a=>K a
 | o::rest,a=>if Region.wanted o (yielded eX a.tmps) then ∃v,(execOp a.eval o).run P w= .ok (.value v) w/\wpS P eX w K rest (a.put o.dst v) else wpS P eX w K rest (a.put o.dst undef)
inductive Md where
 | f (O:Option Nat)
 | s
instance:Coe (Q2 Nat) Md:=⟨.f⟩
variable{μ:Md}
def dD(μ:Md)(P:B2)(eX:C3 L0)(ks:Q0 Kt)(Q:s6->Act->By->Prop)(l:Q0 L0)(a:Act)(w:By):Prop:=match μ with
 | .f O=>Xp O P eX (Z0 O P ks Q) l a w
 | .s=>wpS P eX w (λb=>Z0 none P ks Q .normal b w) l a
inductive Pt where
 | L (eX:Array Oper) (l:List Oper) (ks:List Kt)
 | C (c:Code) (ks:List Kt)
 | E (ks:List Kt)
structure Gp where
 u:Md
 P:Program
 Q:Exit->Act->World->Prop
 p:Pt
variable{g:Gp}
def Md.k:Md->Q2 Nat
 | .f O=>O
 | .s=>none
def Gp.W(g:Gp):Act->By->Prop:=match g.p with
 | .L eX l ks=>dD g.u g.P eX ks g.Q l
 | .C c ks=>c.wpIn (NH g.u.k) 0 g.P (Z0 g.u.k g.P ks g.Q)
 | .E ks=>Z0 g.u.k g.P ks g.Q .normal
def GG(g:Gp)(A:Act->By->Prop)(m:Q2 β)(r:β):Prop:=m=some r->∀a w,A a w->g.W a w
theorem dN(h:Xp O P eX (Z0 O P ks Q) l a w):(Gp.mk (.f O) P Q<|.L eX l ks).W a w:=h
abbrev GL(μ:Md)(P:B2)(eX:C3 L0)(l:Q0 L0)(ks:Q0 Kt)(Q:s6->Act->By->Prop)(A:Act->By->Prop)(m:Q2 β)(r:β):Prop:=GG ⟨μ,P,Q,.L eX l ks⟩ A m r
abbrev GC(O:Q2 Nat)(P:B2)(c:oZ)(ks:Q0 Kt)(Q:s6->Act->By->Prop)(A:Act->By->Prop)(m:Q2 β)(r:β):Prop:=GG ⟨.f O,P,Q,.C c ks⟩ A m r
abbrev GE(O:Q2 Nat)(P:B2)(ks:Q0 Kt)(Q:s6->Act->By->Prop)(A:Act->By->Prop)(m:Q2 β)(r:β):Prop:=GG ⟨.f O,P,Q,.E ks⟩ A m r
section
variable{l:Q0 L0}{ks:Q0 Kt}{A' :Act->By->Prop}
theorem GG.seq(h:GC O P x (.code y::ks) Q A m r):GC O P (.seq x y) ks Q A m r:=λb a w d=>wpIn_seq<|h b a w d
theorem GG.skip(h:GE O P ks Q A m r):GC O P .skip ks Q A m r:=λb a w d=>wpIn_skip<|h b a w d
theorem GG.exit{b:Q0 Kt}(d:BV id ks=some b)(h:GE O P b Q A m r):GC O P (.exit id) ks Q A m r:=λe a w i=>wpIn_exit<|Q9 d<|h e a w i
theorem GG.cw(b:BV id ks=none)(h:m=some r->∀a w,A a w->Q (.exit id) a w):GC O P (.exit id) ks Q A m r:=λd a w e=>wpIn_exit<|TQ b<|h d a w e
theorem GG.sR(h:m=some r->∀a w,A a w->Q .ret a w):GC O P .ret ks Q A m r:=λb a w d=>wpIn_ret<|K6<|h b a w d
theorem GG.code(h:GC O P c ks Q A m r):GE O P (.code c::ks) Q A m r:=h
theorem GG.cg(h:m=some r->∀a w,A a w->Q .normal a w):GE O P [] Q A m r:=h
theorem GG.region(h:GL O P l.toArray l ks Q A m r):GC O P (.region id l.toArray false) ks Q A m r:=λb a w d=>wpIn_region_lit<|Xp.wpIn<|h b a w d
theorem GG.cond{S:Q0 (Nat×K2)}{n:Nat}{D:Q0 AT}{F:Fz}{hs:Q0 HP}{c:OF}{x y:oZ}{b:Bool}{j k:Q2 β}(e:QS S c=some (.bool b))
  (p:b=true->GC O P x ks Q (Hd n D S F hs) j r) (q:b=false->GC O P y ks Q (Hd n D S F hs) k r):GC O P (.cond c x y) ks Q (Hd n D S F hs) (if b then j else k) r:=by
 intro h a w i;cases d:b with
 | true=>rw[d] at e;rw[d,DO rfl] at h;exact wpIn_cond_true (i.1.eval e) (p d h a w i)
 | false=>rw[d] at e;rw[d,Do ic] at h;exact wpIn_cond_false (i.1.eval e)<|q d h a w i
theorem GG.aC{c:OF}(d:QS S c=some (.bool true))
  (e:GC O P x ks Q (Hd n D S F hs) m r):GC O P (.cond c x y) ks Q (Hd n D S F hs) m r:=
 λh a w b=>wpIn_cond_true (b.1.eval d)<|e h a w b
theorem GG.su{c:OF}(d:QS S c=some (.bool false))
  (e:GC O P y ks Q (Hd n D S F hs) m r):GC O P (.cond c x y) ks Q (Hd n D S F hs) m r:=
 λh a w b=>wpIn_cond_false (b.1.eval d)<|e h a w b
theorem GG.th(h:∀a w,A a w->A' a w)(k:GG g A' m r):GG g A m r:=by
 exact λb a w d=>k b a w<|h a w d
theorem GG.keep(s:Sub S' S)(k:GG g (Hd n D S' F hs) m r):GG g (Hd n D S F hs) m r:=GG.th (λ_ _ h=>⟨h.1.sub s,h.2⟩) k
theorem GG.drop(i:Nat)(k:GG g (Hd n D S F<|hs.eraseIdx i) m r):GG g (Hd n D S F hs) m r:=by
 exact GG.th (λ_ _ h=>⟨h.1,h.2.se i⟩) k
theorem GG.freeze{o:Obj}(i:Nat)(e:hs[i]? =some (pt b o))(k:∀F',F<=F'->F'.mem b=some o->GG g (Hd n D S F'<|hs.eraseIdx i) m r):GG g (Hd n D S F hs) m r:=by
 exact λh a w d=>by
  obtain⟨j,p⟩:=SH.rZ e d.2;exact k _ j (Fz.sV F b o) h a w ⟨d.1,p⟩
def QO(x:α)(f:α->γ):γ:=f x
theorem GG.cm{x:α}{f:α->Q2 β}(h:∀y,y=x->GG g A (f y) r):GG g A (QO x f) r:=by
 exact h x rfl
theorem GG.bind{g:Gp}{e:Q2 α}{f:α->Q2 β}(h:∀y,e=some y->GG g A (f y) r):GG g A (e.bind f) r:=by
 exact λb=>by
  cases e with
  | none=>simp at b
  | some y=>exact h y rfl b
end
inductive UN(σ β:Type) where
 | next(s:σ)
 | done (b:β)
variable{body:σ->Q2 (UN σ β)}
def H8(body:σ->Q2 (UN σ β)):Nat->σ->Q2 β
 | 0,_=>none
 | n+1,s=>match body s with
  | none=>none
  | some (.done b)=>some b
  | some (.next d)=>H8 body n d
open Classical in
def ZV(body:σ->Q2 (UN σ β))(s:σ):Q2 β:=if h:∃b n,H8 body n s=some b then some h.choose else none
theorem TM:∀{n k:Nat} {s:σ} {b:β},n<=k->H8 body n s=some b->H8 body k s=some b
 | 0,_,_,_,_,h=>by simp[H8] at h
 | n+1,0,_,_,le,_=>by omega
 | n+1,k+1,s,b,le,h=>by
  simp only[H8] at h ⊢
  cases d:body s with
  | none=>rw[d] at h;cases h
  | some c=>
   rw[d] at h
   cases c with
   | done x=>exact h
   | next e=>exact TM (Nat.le_of_succ_le_succ le) h
theorem TN{b:β}(h:H8 body n s=some b):ZV body s=some b:=by
 have he:∃b n,H8 body n s=some b:=⟨b,n,h⟩;unfold ZV;rw[dif_pos he];obtain⟨k,e⟩:=he.choose_spec;have i:=TM (Nat.le_max_left n k) h;have d:=TM (Nat.le_max_right n k) e;rw[i] at d
 exact d.symm
theorem B8{b:β}(h:ZV body s=some b):∃n,H8 body n s=some b:=by
 unfold ZV at h
 split at h
 .rename_i he;simp only[UV] at h
  obtain⟨n,d⟩:=he.choose_spec;exact⟨n,h▸d⟩
 .cases h
theorem ZK(body:σ->Q2 (UN σ β))(s:σ):ZV body s=match body s with
  | none=>none
  | some (.done b)=>some b
  | some (.next e)=>ZV body e:=by
 cases i:body s with
 | none=>
  cases h:ZV body s with
  | none=>rfl
  | some b=>
   obtain⟨n,d⟩:=B8 h;cases n with
   | zero=>simp[H8] at d
   | succ n=>simp[H8,i] at d
 | some c=>
  cases c with
  | done b=>exact TN (n:=1) (by simp[H8,i])
  | next e=>
   show ZV body s=ZV body e;cases h:ZV body e with
   | some b=>
    obtain⟨n,d⟩:=B8 h;exact TN (n:=n+1) (by simp only[H8,i];exact d)
   | none=>
    cases j:ZV body s with
    | none=>rfl
    | some b=>
     obtain⟨n,d⟩:=B8 j;cases n with
     | zero=>simp[H8] at d
     | succ n=>
      simp only[H8,i] at d
      rw[TN d] at h;cases h
def Qu(I:σ->Act->By->Prop)(Dn:β->s6->Act->By->Prop)(c:UN σ β):s6->Act->By->Prop:=λe a w=>
 match c with
 | .next s=>e= .normal/\I s a w
 | .done b=>e≠.normal/\Dn b e a w
theorem Ip{I:σ->Act->By->Prop}{Dn:β->s6->Act->By->Prop}{b:β}
  (round:∀s d,body s=some d->∀a w,I s a w->c.wpIn (NH O) 0 P (Qu I Dn d) a w):∀(n:Nat) (s:σ),H8 body n s=some b->∀a w,I s a w->
   ∀(fr:Frame) (k:Q0 Item) (cs:Q0 Frame),fr.roundOf=(NH O).round->∃e u w',Dn b e u w'/\ArrivesIn (Machine.fenced P<|NH O) P (lone (fr.atR a<|.code c:: .inLoop c::k) cs w) fr k cs e u w'
 | 0,_,h,_,_,_,_,_,_,_=>by simp[H8] at h
 | n+1,s,h,a,w,v,fr,k,cs,j=>by
  simp only[H8] at h
  cases q:body s with
  | none=>rw[q] at h;cases h
  | some d=>
   rw[q] at h
   obtain⟨e,a₁,w₁,p,i⟩:=round s d q a w v fr (.inLoop c::k) cs j (CG O _)<|BT O _;cases d with
   | next z=>
    obtain⟨rfl,r⟩:=p;obtain⟨e₂,a₂,w₂,hq₂,harr₂⟩:=Ip round n z h a₁ w₁ r fr k cs j;exact⟨e₂,a₂,w₂,hq₂,.of_steps (lN i<|.one (qAQ (n:=0) (CG O _) (BT O _) rfl) qBP) harr₂⟩
   | done b' =>
    obtain⟨t,p⟩:=p;simp only[UV] at h
    subst h;refine⟨e,a₁,w₁,p,?_⟩;exact .pass (x:=.inLoop c) rfl (λ_ _=>.inl t) i
section
variable{ks:Q0 Kt}
theorem GG.loop{body:σ->Q2 (UN σ γ)}{h:σ}{f:γ->Q2 β}(I:σ->Act->By->Prop)(Dn:γ->s6->Act->By->Prop)
  (v:∀a w,A a w->I h a w)
  (round:∀s d,GC O P c [] (Qu I Dn d) (I s) (body s) d)
  (after:∀b,ZV body h=some b->f b=some r->∀e a w,Dn b e a w->Z0 O P ks Q e a w):GC O P (.loop c) ks Q A ((ZV body h).bind f) r:=by
 intro j a w z;cases p:ZV body h with
 | none=>rw[p] at j;cases j
 | some b=>
  rw[p] at j
  obtain⟨n,B⟩:=B8 p;intro fr k cs q C E;obtain⟨e,u,w',G,i⟩:=Ip (Dn:=Dn) (λs d hs a w t=>round s d hs a w t) n h B a w (v a w z) fr k cs q;exact⟨e,u,w',after b p j e u w' G,.of_steps (.one (qAQ C E rfl) stepR_loop) i⟩
theorem GG.join{i:Q2 (UN σ γ)}{f:UN σ γ->Q2 β}(I:σ->Act->By->Prop)(Dn:γ->s6->Act->By->Prop)
  (h:∀d,GC O P c [] (Qu I Dn d) A i d)
  (next:∀s,i=some (.next s)->GE O P ks Q (I s) (f<|.next s) r)
  (done:∀b,i=some (.done b)->f (.done b)=some r->∀e a w,Dn b e a w->Z0 O P ks Q e a w):GC O P c ks Q A (i.bind f) r:=by
 intro j a w t;cases k:i with
 | none=>rw[k] at j;cases j
 | some d=>
  rw[k] at j
  refine qAH (h d k a w t) λe q w' p=> ?_;cases d with
  | next s=>obtain⟨rfl,p⟩:=p;exact next s k j q w' p
  | done b=>exact done b k j e q w' p.2
theorem GG.sQ{b:Q2 σ}{f:σ->Q2 β}(I:σ->Act->By->Prop)
  (h:∀s,GC O P c [] (λe a w=>e= .normal/\I s a w) A b s)
  (next:∀s,b=some s->GE O P ks Q (I s) (f s) r):GC O P c ks Q A (b.bind f) r:=by
 intro d a w k;cases i:b with
 | none=>rw[i] at d;cases d
 | some s=>
  rw[i] at d
  refine qAH (h s i a w k) λe p w' j=> ?_;obtain⟨rfl,j⟩:=j;exact next s i d p w' j
end
def CT(P:B2)(f:Nm)(args:C3 K2)(F:Fz)(H:HP)(m:Q2 β)(ρ:β->Fz->K2->Prop)(H' :β->Fz->K2->HP):Prop:=∀r,m=some r->∀w R,SH w F (star H R)->Calls P f args w (λe w' =>∃b v,F<=b/\e= .returned v/\ρ r b v/\SH w' b (star (H' r b v) R))
def KO(P:B2)(f:Nm)(args:C3 K2)(F:Fz)(m:Q2 β)(ρ:β->Fz->K2->Prop):Prop:=∀r,m=some r->∀w R,SH w F R->Calls P f args w (λe w' =>∃b v,F<=b/\e= .returned v/\ρ r b v/\SH w' b R)
def D4:Nat->Q0 K2->Q0 (Nat×K2)
 | _,[]=>[]
 | i,v::vs=>(i,v)::D4 (i+1) vs
theorem Ek:∀{vs:Q0 K2} {i j:Nat} {v:K2},JC (D4 i vs) j=some v->i<=j/\vs[j - i]? =some v
 | [],_,_,_,h=>by simp[D4,JC] at h
 | x::vs,i,j,v,h=>by
  simp only[D4,JC] at h
  cases b:Nat.beq i j with
  | true=>
   rw[b] at h
   have:i=j:=yb b;subst this;exact⟨So _,by simpa using h⟩
  | false=>
   rw[b] at h
   obtain⟨e,d⟩:=Ek h;refine⟨by omega,?_⟩;rw[show j - i=(j - (i+1))+1 by omega];simpa using d
def ID(P:B2)(fn:oW)(F:Fz)(R:HP)(ρ:β->Fz->K2->Prop)(r:β):s6->Act->By->Prop:=bodyPost P fn (λe w' =>∃b v,F<=b/\e= .returned v/\ρ r b v/\SH w' b R)
def IE(P:B2)(fn:oW)(F:Fz)(R:HP)(ρ:β->Fz->K2->Prop)(H' :β->Fz->K2->HP)(r:β):s6->Act->By->Prop:=bodyPost P fn (λe w' =>∃b v,F<=b/\e= .returned v/\ρ r b v/\SH w' b (star (H' r b v) R))
theorem WC(d:Nat.ble args.length n=true):Sl n [] (D4 0 args) {tmps:=args.toArray++Array.replicate (n - args.toArray.size) undef,defers:=[]}:=by
 have j:args.length<=n:=AC d;refine⟨by simp;omega,rfl,λi v e=> ?_⟩;obtain⟨_,b⟩:=Ek e;simp only[qAX] at b
 have hi:i < args.length:=by
  rcases u0 i args.length with h | h
  .exact h
  .rw[lZ h] at b;cases b
 simp only[k4];rw[Array.getElem?_append_left<|by simpa using hi];simp[b]
theorem KO.enter
  (b:P.funcs[f]? =some fn) (d:fn.body=some c) (e:fn.ntmps=n) (h:Nat.ble args.length n=true)
  (k:∀r R,GC none P c [] (ID P fn F R ρ r) (Hd n [] (D4 0 args) F [R]) m r):KO P f args.toArray F m ρ:=by
 intro r i w R j;refine qAR b d<|qAj.1<|k r R i _ w ⟨?_,j.one⟩;rw[e];exact WC h
theorem SH.two{p:HP}(h:SH w F (star p q)):SH w F (Qk [p,q]):=h.mono λm b=>QT (λd i=>⟨d,λ_=>none,λ_=>.inr rfl,Mem.sub.refl _,λ_ _ e=>by simp at e,i,trivial⟩) b
theorem CT.enter
  (b:P.funcs[f]? =some fn) (d:fn.body=some c) (e:fn.ntmps=n) (h:Nat.ble args.length n=true)
  (k:∀r R,GC none P c [] (IE P fn F R ρ H' r) (Hd n [] (D4 0 args) F [H,R]) m r):CT P f args.toArray F H m ρ H' :=by
 intro r i w R j;refine qAR b d<|qAj.1<|k r R i _ w ⟨?_,j.two⟩;rw[e];exact WC h
end
variable{ks:Q0 Kt}{μ:Md}{g:Gp}
section
variable{cs:C3 K2}{len:Nat}{o:L0}{b:Bool}
theorem YU{t:S2}{d:qAg}(h:P.underlying t=some d)(w:By):(underlying t).run P w= .ok d w:=by
 simp[underlying,h]
theorem GG.step(f:o.guard=none)(c:O=none∨Ht o.op=true)(h:m=some r->∀a w,A a w->∃v w',(execOp a.eval o).run P w= .ok (.value v) w'/\Xp O P eX (Z0 O P ks Q) rest (a.put o.dst v) w'):GL O P eX (o::rest) ks Q A m r:=by
 intro g a w k;obtain⟨v,w',l,n⟩:=h g a w k;show Xp O P eX _ (o::rest) a w;unfold Xp;rw[DO<|by simp[Region.wanted,f]];refine⟨c,?_⟩;rw[l];exact n
theorem GG.tF(f:o.guard=none)(c:O=none∨Ht o.op=true)(h:m=some r->∀a w,A a w->∃w',(execOp a.eval o).run P w= .ok .skip w'/\Xp O P eX (Z0 O P ks Q) rest (a.put o.dst undef) w'):GL O P eX (o::rest) ks Q A m r:=by
 intro g a w k;obtain⟨w',l,n⟩:=h g a w k;show Xp O P eX _ (o::rest) a w;unfold Xp;rw[DO<|by simp[Region.wanted,f]];refine⟨c,?_⟩;rw[l];exact n
theorem GG.aL(c:o.guard=none)(l:Ht o.op=true)(h:m=some r->∀a w,A a w->∃v,(execOp a.eval o).run P w= .ok (.value v) w/\dD μ P eX ks Q rest (a.put o.dst v) w):GL μ P eX (o::rest) ks Q A m r:=by
 intro n a w p;obtain⟨v,g,k⟩:=h n a w p;cases μ with
 | f O=>exact GG.step (A:=λq w' =>q=a/\w' =w) (m:=some r) c (.inr l) (λ_ _ _ ⟨h,h'⟩=>by subst h h';exact⟨v,_,g,k⟩) rfl a w ⟨rfl,rfl⟩
 | s=>
  show wpS P eX w _ (o::rest) a;unfold wpS;rw[DO<|by simp[Region.wanted,c]];exact⟨v,g,k⟩
theorem OK(c:(eX[j]?).bind (·.dst)=some t)(hs:Sl n D S a)(f:JC S t=some (.bool b)):yielded eX a.tmps j=some b:=by
 have h:=hs.2.2 t _ f;unfold yielded;rw[c];simp only[K1];simp only[k4] at h
 cases e:a.tmps[t]? with
 | none=>rw[e] at h;simp[undef] at h
 | some v=>rw[e] at h;simp at h;subst h;rfl
theorem GG.on{g:Q2 Tmp}{c:Bool}(q:(eX[j]?).bind (·.dst)=some t)(u:JC S t=some (.bool c))
  (k:GL μ P eX (⟨g,op,ty,pos,after,none⟩::rest) ks Q (Hd n D S F hs) m r):GL μ P eX (⟨g,op,ty,pos,after,some (j,c)⟩::rest) ks Q (Hd n D S F hs) m r:=by
 intro x a w l;have h:=k x a w l;have p:=OK (eX:=eX) q l.1 u;cases μ with
 | f O=>
  have h:Xp O P eX (Z0 O P ks Q) _ a w:=h;show Xp O P eX (Z0 O P ks Q) _ a w;unfold Xp at h ⊢
  rw[DO<|by simp[Region.wanted]] at h
  rw[DO<|by simp[Region.wanted,p]];exact h
 | s=>
  have h:wpS P eX w _ _ a:=h;show wpS P eX w _ _ a;unfold wpS at h ⊢
  rw[DO<|by simp[Region.wanted]] at h
  rw[DO<|by simp[Region.wanted,p]];exact h
def gR:K2->Bool->Bool
 | .bool b,c=>b != c
 | .tuple _,_=>true
 | _,_=>false
theorem GG.off{c:Bool}(q:Nat.blt d n=true)(x:(eX[j]?).bind (·.dst)=some t)(y:JC S t=some v)(l:gR v c=true)
  (k:GL μ P eX rest ks Q (Hd n D ((d,undef)::S) F hs) m r):GL μ P eX (⟨some d,op,ty,pos,after,some (j,c)⟩::rest) ks Q (Hd n D S F hs) m r:=by
 intro B a w g
 have p:yielded eX a.tmps j≠some c:=by
  have h:=g.1.2.2 t _ y;unfold yielded;rw[x];simp only[K1];simp only[k4] at h
  cases e:a.tmps[t]? with
  | none=>simp
  | some u=>
   rw[e] at h;simp at h;subst h
   cases u<;>simp[gR] at l ⊢
   exact l
 have:=k B _ w ⟨g.1.put q _,g.2⟩;cases μ with
 | f O=>
  show Xp O P eX (Z0 O P ks Q) _ a w;unfold Xp;rw[Do<|by simp[Region.wanted,p]];exact this
 | s=>
  show wpS P eX w _ _ a;unfold wpS;rw[Do<|by simp[Region.wanted,p]];exact this
theorem GG.val(h:Nat.blt d n=true)
  (c:∀a w,Hd n D S F hs a w->(execOp a.eval ⟨some d,op,ty,pos,after,none⟩).run P w= .ok (.value v) w)
  (k:GL μ P eX rest ks Q (Hd n D ((d,v)::S) F hs) m r) (f:Ht op=true:=by rfl):GL μ P eX (⟨some d,op,ty,pos,after,none⟩::rest) ks Q (Hd n D S F hs) m r:=
 GG.aL rfl f λl a w g=>⟨v,c a w g,k l _ w ⟨g.1.put h v,g.2⟩⟩
section
variable{t:S2}
theorem GG.move(c:Nat.blt d n=true)(f:QS S ox=some v)(k:GL μ P eX rest ks Q (Hd n D ((d,v)::S) F hs) m r):GL μ P eX (⟨some d,.move ox,ty,pos,after,none⟩::rest) ks Q (Hd n D S F hs) m r:=GG.val c (λa w g=>by simp[execOp,g.1.eval f]) k
theorem GG.assign(c:Nat.blt d n=true)(f:QS S ox=some v)(k:GL μ P eX rest ks Q (Hd n D ((d,v)::S) F hs) m r):GL μ P eX (⟨some d,.assign ox,ty,pos,after,none⟩::rest) ks Q (Hd n D S F hs) m r:=GG.val c (λa w g=>by simp[execOp,g.1.eval f]) k
theorem GG.cv{f:Int->Q2 β}(c:Nat.blt d n=true)(g:QS S ox=some (.int kd x))(k:∀y,y=x->GL μ P eX rest ks Q (Hd n D ((d,.int kd y)::S) F hs) (f y) r):GL μ P eX (⟨some d,.assign ox,ty,pos,after,none⟩::rest) ks Q (Hd n D S F hs) (QO x f) r:=GG.assign c g<|k x rfl
theorem GG.aq{f:Bool->Q2 β}(c:Nat.blt d n=true)(g:QS S ox=some (.bool b))(k:∀y,y=b->GL μ P eX rest ks Q (Hd n D ((d,.bool y)::S) F hs) (f y) r):GL μ P eX (⟨some d,.assign ox,ty,pos,after,none⟩::rest) ks Q (Hd n D S F hs) (QO b f) r:=GG.assign c g<|k b rfl
theorem GG.nT(f:Nat.blt d n=true)(g:QS S oz=some (.bool true))(h:QS S ox=some v)(k:GL μ P eX rest ks Q (Hd n D ((d,v)::S) F hs) m r):GL μ P eX (⟨some d,.pick oz ox oy,ty,pos,after,none⟩::rest) ks Q (Hd n D S F hs) m r:=GG.val f (λa w c=>by simp[execOp,c.1.eval h,c.1.eval g,asBool]) k
theorem GG.pd(f:Nat.blt d n=true)(g:QS S oz=some (.bool false))(h:QS S oy=some v)(k:GL μ P eX rest ks Q (Hd n D ((d,v)::S) F hs) m r):GL μ P eX (⟨some d,.pick oz ox oy,ty,pos,after,none⟩::rest) ks Q (Hd n D S F hs) m r:=GG.val f (λa w c=>by simp[execOp,c.1.eval h,c.1.eval g,asBool]) k
theorem GG.add(f:Nat.blt d n=true)(g:QS S ox=some (.int kd x))(h:QS S oy=some (.int kd y))(k:GL μ P eX rest ks Q (Hd n D ((d,.int kd<|kd.wrap<|x+y)::S) F hs) m r):GL μ P eX (⟨some d,.binOp .add t ox oy t',ty,pos,after,none⟩::rest) ks Q (Hd n D S F hs) m r:=GG.val f (λa w c=>by simp[execOp,c.1.eval g,c.1.eval h,eqGuard,binOp,Op.intArith]) k
theorem GG.sub(f:Nat.blt d n=true)(g:QS S ox=some (.int kd x))(h:QS S oy=some (.int kd y))(k:GL μ P eX rest ks Q (Hd n D ((d,.int kd<|kd.wrap<|x - y)::S) F hs) m r):GL μ P eX (⟨some d,.binOp .sub t ox oy t',ty,pos,after,none⟩::rest) ks Q (Hd n D S F hs) m r:=GG.val f (λa w c=>by simp[execOp,c.1.eval g,c.1.eval h,eqGuard,binOp,Op.intArith]) k
theorem GG.mul(f:Nat.blt d n=true)(g:QS S ox=some (.int kd x))(h:QS S oy=some (.int kd y))(k:GL μ P eX rest ks Q (Hd n D ((d,.int kd<|kd.wrap<|x*y)::S) F hs) m r):GL μ P eX (⟨some d,.binOp .mul t ox oy t',ty,pos,after,none⟩::rest) ks Q (Hd n D S F hs) m r:=GG.val f (λa w c=>by simp[execOp,c.1.eval g,c.1.eval h,eqGuard,binOp,Op.intArith]) k
def B5(kd:lO)(x y:Int):Q2 Int:=if y=0 then none else some (kd.wrap<|x.tdiv y)
def SI(x y:Int):Q2 Int:=if y=0 then none else some (x.tmod y)
theorem GG.rB(f:Nat.blt d n=true)(g:y≠0)(h:QS S ox=some (.int kd x))(l:QS S oy=some (.int kd y))(k:GL μ P eX rest ks Q (Hd n D ((d,.int kd<|kd.wrap<|x.tdiv y)::S) F hs) m r):GL μ P eX (⟨some d,.binOp .quo t ox oy t',ty,pos,after,none⟩::rest) ks Q (Hd n D S F hs) m r:=GG.val f (λa w c=>by simp[execOp,c.1.eval h,c.1.eval l,eqGuard,binOp,Op.intDiv,g]) k
theorem GG.rL(f:Nat.blt d n=true)(g:y≠0)(h:QS S ox=some (.int kd x))(l:QS S oy=some (.int kd y))(k:GL μ P eX rest ks Q (Hd n D ((d,.int kd<|x.tmod y)::S) F hs) m r):GL μ P eX (⟨some d,.binOp .rem t ox oy t',ty,pos,after,none⟩::rest) ks Q (Hd n D S F hs) m r:=GG.val f (λa w c=>by simp[execOp,c.1.eval h,c.1.eval l,eqGuard,binOp,Op.intDiv,g]) k
theorem GG.quo{f:Int->Q2 β}(l:Nat.blt d n=true)(p:QS S ox=some (.int kd x))(q:QS S oy=some (.int kd y))(k:∀z,B5 kd x y=some z->GL μ P eX rest ks Q (Hd n D ((d,.int kd z)::S) F hs) (f z) r):GL μ P eX (⟨some d,.binOp .quo t ox oy t',ty,pos,after,none⟩::rest) ks Q (Hd n D S F hs) ((B5 kd x y).bind f) r:=
 GG.bind λz c=>by
  have g:y≠0:=λe=>by simp[B5,e] at c
  have:z=kd.wrap (x.tdiv y):=by simpa[B5,g] using c.symm
  have h:=k z c;rw[this] at h ⊢
  exact GG.rB l g p q h
theorem GG.rem{f:Int->Q2 β}(l:Nat.blt d n=true)(p:QS S ox=some (.int kd x))(q:QS S oy=some (.int kd y))(k:∀z,SI x y=some z->GL μ P eX rest ks Q (Hd n D ((d,.int kd z)::S) F hs) (f z) r):GL μ P eX (⟨some d,.binOp .rem t ox oy t',ty,pos,after,none⟩::rest) ks Q (Hd n D S F hs) ((SI x y).bind f) r:=
 GG.bind λz c=>by
  have g:y≠0:=λe=>by simp[SI,e] at c
  have:z=x.tmod y:=by simpa[SI,g] using c.symm
  have h:=k z c;rw[this] at h ⊢
  exact GG.rL l g p q h
theorem GG.eql(f:Nat.blt d n=true)(g:QS S ox=some (.int kd x))(h:QS S oy=some (.int kd y))(k:GL μ P eX rest ks Q (Hd n D ((d,.bool<|x==y)::S) F hs) m r):GL μ P eX (⟨some d,.binOp .eql t ox oy t',ty,pos,after,none⟩::rest) ks Q (Hd n D S F hs) m r:=GG.val f (λa w c=>by simp[execOp,c.1.eval g,c.1.eval h,eqGuard,binOp,Op.intCmp]) k
theorem GG.neq(f:Nat.blt d n=true)(g:QS S ox=some (.int kd x))(h:QS S oy=some (.int kd y))(k:GL μ P eX rest ks Q (Hd n D ((d,.bool<|x != y)::S) F hs) m r):GL μ P eX (⟨some d,.binOp .neq t ox oy t',ty,pos,after,none⟩::rest) ks Q (Hd n D S F hs) m r:=GG.val f (λa w c=>by simp[execOp,c.1.eval g,c.1.eval h,eqGuard,binOp,Op.intCmp]) k
theorem GG.lss(f:Nat.blt d n=true)(g:QS S ox=some (.int kd x))(h:QS S oy=some (.int kd y))(k:GL μ P eX rest ks Q (Hd n D ((d,.bool<|decide<|x < y)::S) F hs) m r):GL μ P eX (⟨some d,.binOp .lss t ox oy t',ty,pos,after,none⟩::rest) ks Q (Hd n D S F hs) m r:=GG.val f (λa w c=>by simp[execOp,c.1.eval g,c.1.eval h,eqGuard,binOp,Op.intCmp]) k
theorem GG.leq(f:Nat.blt d n=true)(g:QS S ox=some (.int kd x))(h:QS S oy=some (.int kd y))(k:GL μ P eX rest ks Q (Hd n D ((d,.bool<|decide<|x<=y)::S) F hs) m r):GL μ P eX (⟨some d,.binOp .leq t ox oy t',ty,pos,after,none⟩::rest) ks Q (Hd n D S F hs) m r:=GG.val f (λa w c=>by simp[execOp,c.1.eval g,c.1.eval h,eqGuard,binOp,Op.intCmp]) k
theorem GG.gtr(f:Nat.blt d n=true)(g:QS S ox=some (.int kd x))(h:QS S oy=some (.int kd y))(k:GL μ P eX rest ks Q (Hd n D ((d,.bool<|decide<|x > y)::S) F hs) m r):GL μ P eX (⟨some d,.binOp .gtr t ox oy t',ty,pos,after,none⟩::rest) ks Q (Hd n D S F hs) m r:=GG.val f (λa w c=>by simp[execOp,c.1.eval g,c.1.eval h,eqGuard,binOp,Op.intCmp]) k
theorem GG.geq(f:Nat.blt d n=true)(g:QS S ox=some (.int kd x))(h:QS S oy=some (.int kd y))(k:GL μ P eX rest ks Q (Hd n D ((d,.bool<|decide<|x≥y)::S) F hs) m r):GL μ P eX (⟨some d,.binOp .geq t ox oy t',ty,pos,after,none⟩::rest) ks Q (Hd n D S F hs) m r:=GG.val f (λa w c=>by simp[execOp,c.1.eval g,c.1.eval h,eqGuard,binOp,Op.intCmp]) k
def yE(kd:lO)(x y:Int):Int:=x.fdiv<|2^(min y.toNat kd.bits)
theorem GG.mq{c:lO}(g:Nat.blt d n=true)(h:¬y < 0)(l:QS S ox=some (.int kd x))(p:QS S oy=some (.int c y))(k:GL μ P eX rest ks Q (Hd n D ((d,.int kd<|yE kd x y)::S) F hs) m r):GL μ P eX (⟨some d,.binOp .shr t ox oy t',ty,pos,after,none⟩::rest) ks Q (Hd n D S F hs) m r:=GG.val g (λa w f=>by simp[execOp,f.1.eval l,f.1.eval p,eqGuard,binOp,Op.shift,h,yE]) k
theorem GG.not(c:Nat.blt d n=true)(f:QS S ox=some (.bool b))(k:GL μ P eX rest ks Q (Hd n D ((d,.bool<|!b)::S) F hs) m r):GL μ P eX (⟨some d,.unOp .not t ox,ty,pos,after,none⟩::rest) ks Q (Hd n D S F hs) m r:=GG.val c (λa w g=>by simp[execOp,g.1.eval f,Op.unary]) k
theorem GG.pD{ds:qAg}{c:lO}(f:Nat.blt d n=true)(g:P.underlying t=some ds)(h:P.underlying t' =some (.int c))(l:QS S ox=some (.int kd x))(k:GL μ P eX rest ks Q (Hd n D ((d,.int c<|c.wrap x)::S) F hs) m r):GL μ P eX (⟨some d,.convert t t' ox,ty,pos,after,none⟩::rest) ks Q (Hd n D S F hs) m r:=
 GG.val f (λa w p=>by
  simp only[execOp,p.1.eval l,convert,y1,YU g,YU h,Result.andThen];cases ds<;>simp[Conv.intToInt]) k
theorem GG.extract{i:Nat}{vs:C3 K2}(c:Nat.blt d n=true)(f:QS S ox=some (.tuple vs))(hi:vs[i]? =some v)(k:GL μ P eX rest ks Q (Hd n D ((d,v)::S) F hs) m r):GL μ P eX (⟨some d,.extract ox i,ty,pos,after,none⟩::rest) ks Q (Hd n D S F hs) m r:=GG.val c (λa w g=>by simp[execOp,g.1.eval f,Instr.extract,hi]) k
theorem GG.nx{vs:C3 K2}{f:Field}(c:Nat.blt d n=true)(g:P.underlying t=some (.struct fs))(h:fs[i]? =some f)(l:∀w,(isAgg f.type).run P w= .ok true w)(p:∀w,(sizeOf f.type).run P w= .ok z w)
  (q:QS S ox=some (.agg cs)) (hi:cs.extract f.offset (f.offset+z)=vs) (k:GL μ P eX rest ks Q (Hd n D ((d,.agg vs)::S) F hs) m r):GL μ P eX (⟨some d,.field t ox i,ty,pos,after,none⟩::rest) ks Q (Hd n D S F hs) m r:=
 GG.val c (λa w s=>by simp[execOp,s.1.eval q,Instr.field,YU g,h,asAgg,part,l,p,hi]) k
def Un(S:Q0 (Nat×K2)):Q0 OF->Q2 (Q0 K2)
 | []=>some []
 | o::os=>match QS S o with
  | some v=>match Un S os with
   | some vs=>some (v::vs)
   | none=>none
  | none=>none
theorem He(hs:Sl n D S a):∀{os:Q0 OF} {vs:Q0 K2},Un S os=some vs->os.map a.eval=vs
 | [],vs,h=>by simp[Un] at h;simp[h]
 | o::os,vs,h=>by
  simp only[Un] at h
  cases e:QS S o with
  | none=>rw[e] at h;cases h
  | some v=>
   rw[e] at h
   cases c:Un S os with
   | none=>rw[c] at h;cases h
   | some us=>
    rw[c] at h
    simp only[UV] at h
    subst h;simp[hs.eval e,He hs c]
theorem GG.makeFunc{fn:Fn}{eY:Q0 OF}{vs:Q0 K2}(c:Nat.blt d n=true)(f:Un S eY=some vs)(k:GL O P eX rest ks Q (Hd n D ((d,.func fn #[] vs.toArray)::S) F hs) m r):GL O P eX (⟨some d,.makeFunc fn #[] eY.toArray,ty,pos,after,none⟩::rest) ks Q (Hd n D S F hs) m r:=GG.val c (λa w g=>by simp[execOp,Instr.makeFunc,He g.1 f]) k
def Rz(S:Q0 (Nat×K2)):Q0 (Nat×OF)->Q2 (Q0<|Nat×K2)
 | []=>some []
 | (i,o)::os=>match QS S o with
  | some v=>match Rz S os with
   | some vs=>some ((i,v)::vs)
   | none=>none
  | none=>none
theorem AQ(hs:Sl n D S a):∀{os:Q0 (Nat×OF)} {vs:Q0 (Nat×K2)},Rz S os=some vs->os.map (λp=>(p.1,a.eval p.2))=vs
 | [],vs,h=>by simp[Rz] at h;simp[h]
 | (i,o)::os,vs,h=>by
  simp only[Rz] at h
  cases e:QS S o with
  | none=>rw[e] at h;cases h
  | some v=>
   rw[e] at h
   cases c:Rz S os with
   | none=>rw[c] at h;cases h
   | some us=>
    rw[c] at h
    simp only[UV] at h
    subst h;simp[hs.eval e,AQ hs c]
def Places(P:B2)(fs:C3 Field)(pl:C3 (Nat×Nat)):Prop:=∀w,(fs.mapM λf=>do pure (f.offset,<-sizeOf f.type):Sem (C3<|Nat×Nat)).run P w= .ok pl w
theorem GG.build{pl:C3 (Nat×Nat)}{zc:C3 K2}{z:K2}{parts:Q0 (Nat×OF)}{ps:Q0 (Nat×K2)}(f:Nat.blt d n=true)(g:P.underlying t=some (.struct fs))(h:∀w,(zeroValue t).run P w= .ok z w)(c:Places P fs pl)
  (l:Rz S parts=some ps) (p:z.cells=zc) (hi:Instr.fill (pl[·]?) zc ps=some cs) (k:GL μ P eX rest ks Q (Hd n D ((d,.agg cs)::S) F hs) m r):GL μ P eX (⟨some d,.build t parts.toArray,ty,pos,after,none⟩::rest) ks Q (Hd n D S F hs) m r:=
 GG.val f (λa w q=>by
  have s:=AQ q.1 l;subst p;simp only[execOp,Instr.build,y1,h,Result.andThen,YU g,c w];simp[s,hi]) k
theorem GG.pY{z:K2}(f:Nat.blt d n=true)(g:P.underlying t=some (.array len e))(h:∀w,(zeroValue t).run P w= .ok z w)(c:∀w,(sizeOf e).run P w= .ok sz w)
  (l:Rz S parts=some ps) (p:z.cells=zc) (hi:Instr.fill (λi=>some (i*sz,sz)) zc ps=some cs) (k:GL μ P eX rest ks Q (Hd n D ((d,.agg cs)::S) F hs) m r):GL μ P eX (⟨some d,.build t parts.toArray,ty,pos,after,none⟩::rest) ks Q (Hd n D S F hs) m r:=
 GG.val f (λa w q=>by
  have s:=AQ q.1 l;subst p;simp only[execOp,Instr.build,y1,h,Result.andThen,YU g,c w];simp[s,hi]) k
theorem GG.aw(c:Nat.blt d n=true)(f:P.concrete t=true)(g:QS S ox=some v)(k:GL O P eX rest ks Q (Hd n D ((d,.iface t v)::S) F hs) m r):GL O P eX (⟨some d,.makeInterface t ox,ty,pos,after,none⟩::rest) ks Q (Hd n D S F hs) m r:=GG.val c (λa w h=>by simp[execOp,h.1.eval g,run_makeInterface w t v f]) k
theorem HI(b o z:Nat):(⟨b,o,none⟩:C1).add z=⟨b,o+z,none⟩:=by
 unfold Addr.add;split
 .rename_i h;subst h;rfl
 .rfl
theorem GG.fieldAddr{i b o z:Nat}{fs:C3 Field}{f:Field}(c:Nat.blt d n=true)(g:P.underlying t=some (.struct fs))(h:fs[i]? =some f)(l:∀w,(sizeOf f.type).run P w= .ok (z+1) w)
  (p:QS S ox=some (.pointer<|some ⟨b,o,none⟩)) (k:GL μ P eX rest ks Q (Hd n D ((d,.pointer<|some ⟨b,o+f.offset,none⟩)::S) F hs) m r):GL μ P eX (⟨some d,.fieldAddr t ox i,ty,pos,after,none⟩::rest) ks Q (Hd n D S F hs) m r:=
 GG.val c (λa w q=>by simp[execOp,q.1.eval p,Instr.fieldAt,YU g,h,Instr.sureAddr,fieldPlace,l,HI]) k
def YY(n:Nat)(i:Int):Q2 Nat:=if 0<=i/\i < n then some i.toNat else none
theorem Q6{k:Nat}{i:Int}(h:YY n i=some k):0<=i/\i < n/\k=i.toNat/\k < n:=by
 unfold YY at h
 split at h
 .rename_i c;simp only[UV] at h;subst h;omega
 .cases h
theorem GG.cf{b o:Nat}(f:Nat.blt d n=true)(g:P.underlying t=some (.array len e))(h:∀w,(sizeOf e).run P w= .ok z w)
  (l:QS S ox=some (.pointer<|some ⟨b,o,none⟩)) (p:QS S oy=some (.int kd x)) (q:YY len x=some j) (k:GL μ P eX rest ks Q (Hd n D ((d,.pointer<|some ⟨b,o+j*z,none⟩)::S) F hs) m r):GL μ P eX (⟨some d,.indexAddr t ox oy,ty,pos,after,none⟩::rest) ks Q (Hd n D S F hs) m r:=
 GG.val f (λa w c=>by
  obtain⟨s,B,C,_⟩:=Q6 q;subst C;simp[execOp,c.1.eval l,c.1.eval p,Instr.indexAt,asIntOf,YU g,Instr.sureAddr,s,B,h,HI]) k
theorem GG.ad{b o:Nat}(f:Nat.blt d n=true)(g:P.underlying t=some (.slice e))(h:∀w,(sizeOf e).run P w= .ok z w)
  (l:QS S ox=some (.slice (some ⟨b,o,none⟩) len cap)) (p:QS S oy=some (.int kd x)) (q:YY len x=some j) (k:GL μ P eX rest ks Q (Hd n D ((d,.pointer<|some ⟨b,o+j*z,none⟩)::S) F hs) m r):GL μ P eX (⟨some d,.indexAddr t ox oy,ty,pos,after,none⟩::rest) ks Q (Hd n D S F hs) m r:=
 GG.val f (λa w c=>by
  obtain⟨s,B,C,_⟩:=Q6 q;subst C;simp[execOp,c.1.eval l,c.1.eval p,Instr.indexAt,asIntOf,YU g,s,B,h,HI]) k
theorem GG.rY(f:Nat.blt d n=true)(g:P.underlying t=some (.array len e))(h:∀w,(isAgg e).run P w= .ok false w)(l:∀w,(sizeOf e).run P w= .ok z w)
  (p:QS S ox=some (.agg cs)) (q:QS S oy=some (.int kd x)) (s:YY len x=some j) (B:cs[j*z]? =some v) (k:GL μ P eX rest ks Q (Hd n D ((d,v)::S) F hs) m r):GL μ P eX (⟨some d,.index t ox oy,ty,pos,after,none⟩::rest) ks Q (Hd n D S F hs) m r:=
 GG.val f (λa w c=>by
  obtain⟨C,E,G,_⟩:=Q6 s;subst G;simp[execOp,c.1.eval p,c.1.eval q,Instr.index,asIntOf,YU g,C,E,l,part,h,B]) k
theorem GG.sO(c:Nat.blt d n=true)(f:T[0]? =some t)(g:P.underlying t=some (.slice e))(h:QS S ox=some (.slice p len cap))(k:GL μ P eX rest ks Q (Hd n D ((d,.int .i64 len)::S) F hs) m r):GL μ P eX (⟨some d,.call ⟨.builtin .len,#[ox],T⟩,ty,pos,after,none⟩::rest) ks Q (Hd n D S F hs) m r:=GG.val c (λa w l=>by simp[execOp,resolve,invoke,builtin,Builtin.len_,l.1.eval h,f,YU g,goInt]) k
theorem GG.min2(f:Nat.blt d n=true)(g:QS S ox=some (.int kd x))(h:QS S oy=some (.int kd y))(k:GL μ P eX rest ks Q (Hd n D ((d,.int kd<|if y < x then y else x)::S) F hs) m r):GL μ P eX (⟨some d,.call ⟨.builtin .min,#[ox,oy],T⟩,ty,pos,after,none⟩::rest) ks Q (Hd n D S F hs) m r:=GG.val f (λa w c=>by simp[execOp,resolve,invoke,builtin,Builtin.min_,Builtin.min2,c.1.eval g,c.1.eval h]) k
theorem GG.max2(f:Nat.blt d n=true)(g:QS S ox=some (.int kd x))(h:QS S oy=some (.int kd y))(k:GL μ P eX rest ks Q (Hd n D ((d,.int kd<|if x < y then y else x)::S) F hs) m r):GL μ P eX (⟨some d,.call ⟨.builtin .max,#[ox,oy],T⟩,ty,pos,after,none⟩::rest) ks Q (Hd n D S F hs) m r:=GG.val f (λa w c=>by simp[execOp,resolve,invoke,builtin,Builtin.max_,Builtin.max2,c.1.eval g,c.1.eval h]) k
end
end
section
variable{ρ:α->Fz->K2->Prop}{f:Nm}{of:OF}{e:Q2 α}
theorem cell_of_heap{T:S2}(h:w.heap[b]? =some (.cells cs.toArray T fr))(o:Nat):w.cell? ⟨b,o,none⟩=cs[o]? :=by
 simp[World.cell?,h]
theorem frozen_of_heap{cs:C3 K2}{T:S2}(h:w.heap[b]? =some (.cells cs T (0,0)))(o:Nat):w.frozen? ⟨b,o,none⟩=false:=by
 simp[World.frozen?,h]
theorem I7{T:S2}(h:w.heap[b]? =some (.cells cs.toArray T fr)):w.setCell ⟨b,o,none⟩ v=put w b (.cells (cs.set o v).toArray T fr):=by
 have c:=lt_of_heap h;unfold World.setCell put;congr 1;apply qAr;intro k;rw[qBW];by_cases d:b=k
 .subst d;have e:w.heap[b]= .cells cs.toArray T fr:=by simpa[c] using h
  simp[c,e]
 .simp[d]
theorem xE(w:By)(b:Nat)(x y:Obj):put (put w b x) b y=put w b y:=by
 simp[put]
theorem uJ{o:Obj}(h:w.heap[b]? =some o):put w b o=w:=by
 have c:=lt_of_heap h;unfold put;congr 1;apply qAr;intro k;by_cases d:b=k
 .subst d;have e:w.heap[b]=o:=by simpa[c] using h
  simp[c,e]
 .simp[d]
def Ki:Q0 K2->Nat->Q0 K2->Q0 K2
 | cs,_,[]=>cs
 | cs,o,v::vs=>Ki (cs.set o v) (o+1) vs
theorem Hy:∀(cs:Q0 K2) (o:Nat) (vs:Q0 K2),(Ki cs o vs).length=cs.length
 | _,_,[]=>rfl
 | cs,o,v::vs=>by simp[Ki,Hy]
theorem XT{T:Nat}:∀{vs:Q0 K2} {cs:Q0 K2} {i:Nat} {w:By},w.heap[b]? =some (.cells cs.toArray T (0,0))->o+i+vs.length<=cs.length->vs.all Value.oneCell' =true->
  (storeCells ⟨b,o,none⟩ vs i).run P w= .ok () (put w b<|.cells (Ki cs (o+i) vs).toArray T (0,0))
 | [],cs,i,w,h,_,_=>by simp[storeCells,Ki,uJ h]
 | v::vs,cs,i,w,h,d,c=>by
  simp only[ld,BY] at c
  simp only[L4] at d
  have g:w.cell? ⟨b,o+i,none⟩=some cs[o+i]:=by rw[cell_of_heap h];simp
  simp only[storeCells,y1,HI,run_store P w _ v .plain c.1,g,frozen_of_heap h,W1,Bm,Result.andThen,I7 h];rw[XT (cs:=cs.set (o+i) v) (Av h) ia c.2,xE];simp[Ki,Nat.add_assoc]
theorem Hq{T:Nat}(h:w.heap[b]? =some (.cells cs.toArray T fr))(c:(cs.drop o).take z=vs)(d:vs.length=z):(loadCells ⟨b,o,none⟩ z).run P w= .ok vs.toArray w:=by
 subst d;refine run_loadCells_list w ⟨b,o,none⟩ vs λj v e=> ?_;rw[HI,cell_of_heap h];have g:=e;rw[<-c] at e
 rw[If,lY] at e
 split at e
 .exact e
 .cases e
section
variable{t:S2}
theorem GG.alloc{z:K2}{cs:Q0 K2}(g:Nat.blt d n=true)(h:∀w,(zeroValue t).run P w= .ok z w)(l:z.cells=cs.toArray)
  (k:∀b,GL O P eX rest ks Q (Hd n D ((d,.pointer<|some ⟨b,0,none⟩)::S) F<|pt b (.cells cs.toArray t)::hs) m r):GL O P eX (⟨some d,.alloc t,ty,pos,after,none⟩::rest) ks Q (Hd n D S F hs) m r:=
 GG.step rfl (.inr rfl) λp a w c=>by
  refine⟨.pointer<|some ⟨w.heap.size,0,none⟩,w.alloc<|.cells cs.toArray t,?_,k w.heap.size p _ _ ⟨c.1.put g _,c.2.alloc _⟩⟩;simp[execOp,Instr.alloc,h,newVar,newRow,l]
theorem GG.box(g:Nat.blt d n=true)(h:QS S ox=some v)(l:v.cells=cs.toArray)
  (k:∀b,GL O P eX rest ks Q (Hd n D ((d,.pointer<|some ⟨b,0,none⟩)::S) F<|pt b (.cells cs.toArray t)::hs) m r):GL O P eX (⟨some d,.box t ox,ty,pos,after,none⟩::rest) ks Q (Hd n D S F hs) m r:=
 GG.step rfl (.inr rfl) λp a w c=>by
  refine⟨.pointer<|some ⟨w.heap.size,0,none⟩,w.alloc<|.cells cs.toArray t,?_,k w.heap.size p _ _ ⟨c.1.put g _,c.2.alloc _⟩⟩;simp[execOp,Instr.box,c.1.eval h,newVar,newRow,l]
theorem GG.sG(h:Nat.blt d n=true)(l:QS S ox=some v)(p:v.cells=cs.toArray)
  (k:∀b c,F<=c->c.mem b=some (.cells cs.toArray t)->GL O P eX rest ks Q (Hd n D ((d,.pointer<|some ⟨b,0,none⟩)::S) c hs) m r):GL O P eX (⟨some d,.box t ox,ty,pos,after,none⟩::rest) ks Q (Hd n D S F hs) m r:=
 GG.step rfl (.inr rfl) λq a w g=>by
  obtain⟨s,A⟩:=g.2.tg<|.cells cs.toArray t;refine⟨.pointer<|some ⟨w.heap.size,0,none⟩,w.alloc<|.cells cs.toArray t,?_,k w.heap.size _ s (Fz.sV ..) q _ _ ⟨g.1.put h _,A⟩⟩;simp[execOp,Instr.box,g.1.eval l,newVar,newRow,p]
theorem BH{t:Nat}(c:∀w,(isAgg t).run P w= .ok false w)(h:w.cell? ⟨b,o,none⟩=some v):(Instr.loadAt t<|.pointer<|some ⟨b,o,none⟩).run P w= .ok v w:=by
 simp[Instr.loadAt,Instr.sureAddr,loadVar,c,h]
theorem BG{t T:Nat}(c:∀w,(isAgg t).run P w= .ok true w)(g:∀w,(sizeOf t).run P w= .ok z w)(h:w.heap[b]? =some (.cells cs.toArray T fr))(k:(cs.drop o).take z=vs)(l:vs.length=z):(Instr.loadAt t<|.pointer<|some ⟨b,o,none⟩).run P w= .ok (.agg vs.toArray) w:=by
 simp[Instr.loadAt,Instr.sureAddr,loadVar,c,g,Hq h k l]
theorem GG.U{T:Nat}(g:Nat.blt d n=true)(h:∀w,(isAgg t).run P w= .ok false w)(l:QS S ox=some (.pointer<|some ⟨b,o,none⟩))(p:F.mem b=some (.cells cs.toArray T fr))(q:cs[o]? =some v)
  (k:GL μ P eX rest ks Q (Hd n D ((d,v)::S) F hs) m r):GL μ P eX (⟨some d,.load t ox,ty,pos,after,none⟩::rest) ks Q (Hd n D S F hs) m r:=
 GG.val g (λa w c=>by simp[execOp,c.1.eval l,BH h (by rw[cell_of_heap<|c.2.frozen p];exact q)]) k
theorem GG.sB{T:Nat}(g:Nat.blt d n=true)(h:∀w,(isAgg t).run P w= .ok true w)(l:∀w,(sizeOf t).run P w= .ok z w)(p:QS S ox=some (.pointer<|some ⟨b,o,none⟩))(q:F.mem b=some (.cells cs.toArray T fr))(s:(cs.drop o).take z=vs)(A:vs.length=z)
  (k:GL μ P eX rest ks Q (Hd n D ((d,.agg vs.toArray)::S) F hs) m r):GL μ P eX (⟨some d,.load t ox,ty,pos,after,none⟩::rest) ks Q (Hd n D S F hs) m r:=
 GG.val g (λa w c=>by simp[execOp,c.1.eval p,BG h l (c.2.frozen q) s A]) k
theorem GG.ca{T:Nat}(g:Nat.blt d n=true)(h:∀w,(isAgg t).run P w= .ok false w)(l:QS S ox=some (.pointer<|some ⟨b,o,none⟩))(p:hs[i]? =some (pt b<|.cells cs.toArray T fr))(q:cs[o]? =some v)
  (k:GL μ P eX rest ks Q (Hd n D ((d,v)::S) F hs) m r):GL μ P eX (⟨some d,.load t ox,ty,pos,after,none⟩::rest) ks Q (Hd n D S F hs) m r:=
 GG.val g (λa w c=>by simp[execOp,c.1.eval l,BH h (by rw[cell_of_heap<|SH.sK p c.2];exact q)]) k
theorem GG.c9{T:Nat}(g:Nat.blt d n=true)(h:∀w,(isAgg t).run P w= .ok true w)(l:∀w,(sizeOf t).run P w= .ok z w)(p:QS S ox=some (.pointer<|some ⟨b,o,none⟩))(q:hs[i]? =some (pt b<|.cells cs.toArray T fr))(s:(cs.drop o).take z=vs)(A:vs.length=z)
  (k:GL μ P eX rest ks Q (Hd n D ((d,.agg vs.toArray)::S) F hs) m r):GL μ P eX (⟨some d,.load t ox,ty,pos,after,none⟩::rest) ks Q (Hd n D S F hs) m r:=
 GG.val g (λa w c=>by simp[execOp,c.1.eval p,BG h l (SH.sK q c.2) s A]) k
theorem GG.store{T:Nat}{cs':Q0 K2}(q:∀w,(sizeOf t).run P w= .ok z w)(s:QS S ox=some (.pointer<|some ⟨b,o,none⟩))(A:QS S oy=some v)(B:v.cells=vs.toArray)(C:vs.length=z)
  (l:hs[i]? =some (pt b<|.cells cs.toArray T (0,0))) (E:o+vs.length<=cs.length) (G:vs.all Value.oneCell' =true) (g:Ki cs o vs=cs')
  (k:GL O P eX rest ks Q (Hd n D S F<|hs.set i<|pt b<|.cells cs'.toArray T (0,0)) m r):GL O P eX (⟨none,.store t ox oy,ty,pos,after,none⟩::rest) ks Q (Hd n D S F hs) m r:=
 GG.tF rfl (.inr rfl) λH a w c=>by
  subst g;have h:=SH.sK l c.2;refine⟨put w b<|.cells (Ki cs o vs).toArray T (0,0),?_,k H _ _ ⟨c.1.sb _,SH.putAt l c.2 _⟩⟩;have p:=XT (P:=P) (o:=o) (i:=0) h (by simpa using E) G;simp only[qAv] at p
  simp only[execOp,Instr.storeAt,c.1.eval s,c.1.eval A,Instr.sureAddr,storeVar,y1,q,Result.andThen,B];simp[C,p]
theorem W7(hs:Sl n D S a)(c:∀args w,(callFunc f args).run P w= .ok (.enter f args) w)
  (h:QS S of=some (.func (.func f) #[] eY.toArray)) (k:Un S os=some vs) {g:Q2 Tmp}:(execOp a.eval ⟨g,.call ⟨.value of,os.toArray,T⟩,ty,pos,after,none⟩).run P w= .ok (.enter f (vs++eY).toArray) w:=by
 have e:=He hs k;simp[execOp,resolve,Deferred.ofValue,hs.eval h,e,invoke,c]
theorem GG.aV{o:L0}{args:C3 K2}(g:o.guard=none)(c:O=none∨Ht o.op=true)
  (h:m=some r->∀a w,A a w->(execOp a.eval o).run P w= .ok (.enter f args) w/\Calls P f args w (λe w' =>∃v,e= .returned v/\Xp O P eX (Z0 O P ks Q) rest (a.put o.dst v) w')):GL O P eX (o::rest) ks Q A m r:=by
 intro k a w l;obtain⟨p,q⟩:=h k a w l;show Xp O P eX _ (o::rest) a w;unfold Xp;rw[DO<|by simp[Region.wanted,g]];refine⟨c,?_⟩;rw[p];refine⟨λe=>(by rw[BU] at e;cases e),E7.2<|q.mono ?_⟩;rintro e w' ⟨v,rfl,h⟩;exact h
theorem GG.cx{f:Nm}{of:OF}{e:Q2 α}{ρ:α->Fz->K2->Prop}{g:α->Q2 β}(q:Nat.blt d n=true)
  (c:∀args w,(callFunc f args).run P w= .ok (.enter f args) w) (s:QS S of=some (.func (.func f) #[] eY.toArray)) (A:Un S os=some vs) (has:vs++eY=as)
  (B:KO P f as.toArray F e ρ) (k:∀x h v,e=some x->F<=h->ρ x h v->GL O P eX rest ks Q (Hd n D ((d,v)::S) h hs) (g x) r):GL O P eX (⟨some d,.call ⟨.value of,os.toArray,T⟩,ty,pos,after,none⟩::rest) ks Q (Hd n D S F hs) (e.bind g) r:=
 GG.aV rfl (.inr rfl) λl a w p=>by
  rw[<-has] at B;refine⟨W7 p.1 c s A,?_⟩;cases he:e with
  | none=>rw[he] at l;cases l
  | some y=>
   rw[he] at l
   refine(B y he w _ p.2).mono ?_;rintro _ w' ⟨h,v,le,rfl,hρ,C⟩;exact⟨v,rfl,k y h v he le hρ l _ _ ⟨p.1.put q _,C⟩⟩
theorem GG.cy{f:Nm}{of:OF}{e:α}{ρ:α->Fz->K2->Prop}(l:Nat.blt d n=true)
  (c:∀args w,(callFunc f args).run P w= .ok (.enter f args) w) (p:QS S of=some (.func (.func f) #[] eY.toArray)) (q:Un S os=some vs) (has:vs++eY=as)
  (s:KO P f as.toArray F (some e) ρ) (k:∀g v,F<=g->ρ e g v->GL O P eX rest ks Q (Hd n D ((d,v)::S) g hs) m r):GL O P eX (⟨some d,.call ⟨.value of,os.toArray,T⟩,ty,pos,after,none⟩::rest) ks Q (Hd n D S F hs) m r:=
 GG.aV rfl (.inr rfl) λA a w h=>by
  rw[<-has] at s;refine⟨W7 h.1 c p q,?_⟩;refine(s e rfl w _ h.2).mono ?_;rintro _ w' ⟨g,v,le,rfl,hρ,B⟩;exact⟨v,rfl,k g v le hρ A _ _ ⟨h.1.put l _,B⟩⟩
theorem GG.sk{y:α}(he:e=some y)(h:Nat.blt d n=true)
  (c:∀args w,(callFunc f args).run P w= .ok (.enter f args) w) (l:QS S of=some (.func (.func f) #[] eY.toArray)) (p:Un S os=some vs) (has:vs++eY=as)
  (q:KO P f as.toArray F e ρ) (k:∀g v,F<=g->ρ y g v->GL O P eX rest ks Q (Hd n D ((d,v)::S) g hs) m r):GL O P eX (⟨some d,.call ⟨.value of,os.toArray,T⟩,ty,pos,after,none⟩::rest) ks Q (Hd n D S F hs) m r:=
 GG.cy h c l p has (he▸q) k
theorem GG.aU{f:Nm}{of:OF}{e:Q2 α}{ρ:α->Fz->K2->Prop}{H' :α->Fz->K2->HP}{g:α->Q2 β}(q:Nat.blt d n=true)
  (c:∀args w,(callFunc f args).run P w= .ok (.enter f args) w) (s:QS S of=some (.func (.func f) #[] eY.toArray)) (A:Un S os=some vs) (has:vs++eY=as) (hi:hs[i]? =some H)
  (B:CT P f as.toArray F H e ρ H') (k:∀x h v,e=some x->F<=h->ρ x h v->GL O P eX rest ks Q (Hd n D ((d,v)::S) h<|hs.set i<|H' x h v) (g x) r):GL O P eX (⟨some d,.call ⟨.value of,os.toArray,T⟩,ty,pos,after,none⟩::rest) ks Q (Hd n D S F hs) (e.bind g) r:=
 GG.aV rfl (.inr rfl) λl a w p=>by
  rw[<-has] at B;refine⟨W7 p.1 c s A,?_⟩;cases he:e with
  | none=>rw[he] at l;cases l
  | some y=>
   rw[he] at l
   refine(B y he w _<|p.2.pull hi).mono ?_;rintro _ w' ⟨h,v,le,rfl,hρ,C⟩;exact⟨v,rfl,k y h v he le hρ l _ _ ⟨p.1.put q _,SH.push hi C⟩⟩
end
inductive S5(P:Program)(S:List (Nat×Value))(F:Fz)(hs:List HP):List ResultVar->List Value->Prop where
 | nil:S5 P S F hs [] []
 | tmp {t:Nat} {v:Value} {rs:List ResultVar} {vs:List Value} (h:JC S t=some v) (k:S5 P S F hs rs vs):S5 P S F hs (.tmp t::rs) (v::vs)
 | cell {t i b T:Nat} {ty:TypeId} {v:Value} {cs:List Value} {fr:Nat×Nat} {rs:List ResultVar} {vs:List Value} (h:JC S t=some (.pointer<|some ⟨b,0,none⟩)) (hA:∀w,(isAgg ty).run P w= .ok false w) (hb:hs[i]? =some (pt b<|.cells cs.toArray T fr)) (hv:cs[0]? =some v) (k:S5 P S F hs rs vs):S5 P S F hs (.cell t ty::rs) (v::vs)
 | agg {t i b T z:Nat} {ty:TypeId} {cs vs' :List Value} {fr:Nat×Nat} {rs:List ResultVar} {vs:List Value} (h:JC S t=some (.pointer<|some ⟨b,0,none⟩)) (hA:∀w,(isAgg ty).run P w= .ok true w) (hz:∀w,(sizeOf ty).run P w= .ok z w) (hb:hs[i]? =some (pt b<|.cells cs.toArray T fr)) (hv:cs.take z=vs') (hl:vs'.length=z) (k:S5 P S F hs rs vs):S5 P S F hs (.cell t ty::rs) (.agg vs'.toArray::vs)
def Ai:Q0 K2->K2
 | [v]=>v
 | vs=>.tuple vs.toArray
def N5(c:C3 K2):ResultVar->Sem K2
 | .tmp t=>pure (c.getD t undef)
 | .cell a t=>do loadVar t (<-asAddr (c.getD a undef))
theorem Db(c:Hd n D S F hs a w):∀{rs:Q0 ResultVar} {vs:Q0 K2},S5 P S F hs rs vs->(rs.mapM<|N5 a.tmps).run P w= .ok vs w
 | _,_,.nil=>by simp
 | _,_,.tmp h k=>by
  have e:=c.1.2.2 _ _ h;simp[N5,e,Db c k]
 | _,_,.cell h g l m k=>by
  have e:=c.1.2.2 _ _ h;have d:=BH (P:=P) (w:=w) g (by rw[cell_of_heap<|SH.sK l c.2];exact m);simp only[Instr.loadAt,Instr.sureAddr,y1,oI,Result.andThen] at d
  simp[N5,e,Db c k,asAddr,d]
 | _,_,.agg h g q l m p k=>by
  have e:=c.1.2.2 _ _ h;have d:=BG (P:=P) (w:=w) (o:=0) g q (SH.sK l c.2) (by simpa using m) p;simp only[Instr.loadAt,Instr.sureAddr,y1,oI,Result.andThen] at d
  simp[N5,e,Db c k,asAddr,d]
theorem Jn(c:fn.results=rs.toArray)(d:Hd n D S F hs a w)(h:S5 P S F hs rs vs):(results fn a.tmps).run P w= .ok (Ai vs) w:=by
 have g:=Db d h
 have e:(results fn a.tmps)=(do let vs <-fn.results.mapM (N5 a.tmps);pure (if h:vs.size=1 then vs[0] else .tuple vs)):=by
  unfold results;congr 1
 rw[e,c];simp only[List.mapM_toArray,y1,Sem.run_map,g,Result.andThen,oI];congr 1
 match vs with
 | []=>rfl
 | [v]=>rfl
 | v::u::vs=>simp[Ai]
section
variable{R:HP}{ρ:β->Fz->K2->Prop}{x:β}
theorem Wf(d:fn.results=rs.toArray)(h:S5 P S F' hs rs vs)(hi:hs[i]? =some R)(le:F<=F')(hρ:ρ x F' (Ai vs)):some x=some r->∀a w,Hd n [] S F' hs a w->ID P fn F R ρ r .ret a w:=by
 intro e a w c;simp only[UV] at e
 subst e;exact⟨c.1.2.1,_,Jn d c h,F',_,le,rfl,hρ,c.2.only hi⟩
theorem GG.cq(c:fn.results=rs.toArray)(h:S5 P S F' hs rs vs)(hi:hs[i]? =some R)(le:F<=F')(hρ:ρ x F' (Ai vs)):GC O P .ret ks (ID P fn F R ρ r) (Hd n [] S F' hs) (some x) r:=GG.sR<|Wf c h hi le hρ
theorem SH.pe{p:HP}(hi:hs[i]? =some p)(k:(hs.eraseIdx i)[j]? =some q)(h:SH w F (Qk hs)):SH w F (star p q):=
 (h.pull hi).mono λ_ l=>by
  obtain⟨m,A,d,s,t,u,v⟩:=l;obtain⟨y,_,_,g,_,c,_⟩:=Vm k v;exact⟨m,y,d.sub (Mem.sub.refl _) g,s,g.trans t,u,c⟩
theorem qG(d:fn.results=rs.toArray)(h:S5 P S F' hs rs vs)(hi:hs[i]? =some (H' x F'<|Ai vs))(g:(hs.eraseIdx i)[j]? =some R)(le:F<=F')(hρ:ρ x F' (Ai vs)):some x=some r->∀a w,Hd n [] S F' hs a w->IE P fn F R ρ H' r .ret a w:=by
 intro e a w c;simp only[UV] at e
 subst e;exact⟨c.1.2.1,_,Jn d c h,F',_,le,rfl,hρ,c.2.pe hi g⟩
theorem GG.rK(c:fn.results=rs.toArray)(h:S5 P S F' hs rs vs)(hi:hs[i]? =some (H' x F'<|Ai vs))(d:(hs.eraseIdx i)[j]? =some R)(le:F<=F')(hρ:ρ x F' (Ai vs)):GC O P .ret ks (IE P fn F R ρ H' r) (Hd n [] S F' hs) (some x) r:=GG.sR<|qG c h hi d le hρ
theorem GG.me(c:fn.results=rs.toArray)(h:S5 P S F' hs rs vs)(hi:hs[i]? =some (H' x F'<|Ai vs))(d:(hs.eraseIdx i)[j]? =some R)(le:F<=F')(hρ:ρ x F' (Ai vs)):GE O P [] (IE P fn F R ρ H' r) (Hd n [] S F' hs) (some x) r:=GG.cg<|qG c h hi d le hρ
end
end
section
variable{b:Bool}
section
variable{l:Q0 L0}
theorem TA{Q1 f:s6->Act->By->Prop}(l2:Q0 L0)(g:∀a w,Q1 .normal a w->Xp O P eX f l2 a w)(i:∀e a w,e≠.normal->Q1 e a w->f e a w):∀(c:Q0 L0) (a:Act) (w:By),Xp O P eX Q1 c a w->Xp O P eX f (c++l2) a w
 | [],a,w,h=>g a w h
 | o::c,a,w,h=>by
  simp only[r7];unfold Xp at h ⊢
  split
  .rename_i j;rw[DO j] at h
   exact NR (λ_ _ he=>TA l2 g i c _ _ he) i h
  .rename_i j;rw[Do j] at h
   exact TA l2 g i c _ _ h
theorem A9{g i:Act->Prop}(l2:Q0 L0)(e:∀a,g a->wpS P eX w i l2 a):∀(c:Q0 L0) (a:Act),wpS P eX w g c a->wpS P eX w i (c++l2) a
 | [],a,h=>e a h
 | o::c,a,h=>by
  simp only[r7];unfold wpS at h ⊢
  split
  .rename_i f;rw[DO f] at h
   obtain⟨v,j,k⟩:=h;exact⟨v,j,A9 l2 e c _ k⟩
  .rename_i f;rw[Do f] at h
   exact A9 l2 e c _ h
theorem Nf(l2:Q0 L0)(g:∀a w,Q1 .normal a w->dD μ P eX ks Q l2 a w)(i:∀e a w,e≠.normal->¬Q1 e a w)(c:Q0 L0)(a:Act)(w:By)(h:dD μ P eX [] Q1 c a w):dD μ P eX ks Q (c++l2) a w:=by
 cases μ with
 | f O=>exact TA l2 g (λe a w n q=>absurd q<|i e a w n) c a w h
 | s=>exact A9 l2 (λa h=>g a w h) c a h
def Vy(n:Nat)(D:Q0 AT)(d:Nat)(v:K2)(S:Q0 (Nat×K2))(F:Fz)(hs:Q0 HP):s6->Act->By->Prop:=λe a w=>e= .normal/\∃F',F<=F'/\Hd n D ((d,v)::S) F' hs a w
theorem Rh(j:Nat)(c:S'.drop j=S)(e:fresh S (S'.take j)=true):Sub S S' :=λi v h=>by
 have:=Df e h;rw[<-c,iN] at this
 exact this
theorem OM(h:Q .normal a w):dD μ P eX [] Q [] a w:=by cases μ<;>exact h
theorem GG.fin{x:β}(j:Nat)(e:JC S' d=some v)(f:S'.drop j=S)(g:fresh S (S'.take j)=true)(le:F<=F'):GL μ P eX [] [] (Vy n D d v S F hs) (Hd n D S' F' hs) (some x) x:=λ_ _ _ c=>OM ⟨rfl,F',le,c.1.sub<|Sub.cons e<|Rh j f g,c.2⟩
theorem GG.lH{g:Q2 α}(k d:Nat)(V:α->K2)(h:∀z,GL μ P eX (l.take k) [] (Vy n D d (V z) S F hs) (Hd n D S F hs) g z)
  (next:∀z F',g=some z->F<=F'->GL μ P eX (l.drop k) ks Q (Hd n D ((d,V z)::S) F' hs) (f z) r):GL μ P eX l ks Q (Hd n D S F hs) (g.bind f) r:=by
 intro i a w q;cases j:g with
 | none=>rw[j] at i;cases i
 | some z=>
  rw[j] at i
  have s:=h z j a w q
  have:=Nf (P:=P) (eX:=eX) (ks:=ks) (Q:=Q) (l.drop k) (Q1:=Vy n D d (V z) S F hs) (λp w' c=>by
   obtain⟨_,F',le,c⟩:=c;exact next z F' j le i p w' c) (λe p w' o c=>o c.1) (l.take k) a w s
  rwa[iN] at this
theorem GG.mO(k d:Nat)(h:GL μ P eX (l.take k) [] (Vy n D d v S F hs) (Hd n D S F hs) (some ()) ())
  (next:∀F',F<=F'->GL μ P eX (l.drop k) ks Q (Hd n D ((d,v)::S) F' hs) m r):GL μ P eX l ks Q (Hd n D S F hs) m r:=by
 intro i a w j;have o:=h rfl a w j
 have:=Nf (P:=P) (eX:=eX) (ks:=ks) (Q:=Q) (l.drop k) (Q1:=Vy n D d v S F hs) (λg w' c=>by
  obtain⟨_,F',le,c⟩:=c;exact next F' le i g w' c) (λe g w' f c=>f c.1) (l.take k) a w o
 rwa[iN] at this
theorem GG.nQ(k d:Nat)
  (e:b=true->GL μ P eX (l.take k) [] (Vy n D d (.bool b') S F hs) (Hd n D S F hs) (some ()) ())
  (f:b=false->GL μ P eX (l.take k) [] (Vy n D d (.bool false) S F hs) (Hd n D S F hs) (some ()) ())
  (next:∀F',F<=F'->GL μ P eX (l.drop k) ks Q (Hd n D ((d,.bool<|b&&b')::S) F' hs) m r):GL μ P eX l ks Q (Hd n D S F hs) m r:=
 GG.mO k d (by cases c:b with | true=>exact e c | false=>exact f c) next
theorem GG.mU(k d:Nat)
  (e:b=false->GL μ P eX (l.take k) [] (Vy n D d (.bool b') S F hs) (Hd n D S F hs) (some ()) ())
  (f:b=true->GL μ P eX (l.take k) [] (Vy n D d (.bool true) S F hs) (Hd n D S F hs) (some ()) ())
  (next:∀F',F<=F'->GL μ P eX (l.drop k) ks Q (Hd n D ((d,.bool<|b||b')::S) F' hs) m r):GL μ P eX l ks Q (Hd n D S F hs) m r:=
 GG.mO k d (by cases c:b with | true=>exact f c | false=>exact e c) next
theorem GG.andM{c:Q2 Bool}{f:Bool->Q2 β}(k d:Nat)
  (h:b=true->∀z,GL μ P eX (l.take k) [] (Vy n D d (.bool z) S F hs) (Hd n D S F hs) c z)
  (i:b=false->GL μ P eX (l.take k) [] (Vy n D d (.bool false) S F hs) (Hd n D S F hs) (some ()) ())
  (next:∀z F',F<=F'->GL μ P eX (l.drop k) ks Q (Hd n D ((d,.bool z)::S) F' hs) (f z) r):GL μ P eX l ks Q (Hd n D S F hs) ((if b then c else some false).bind f) r:=
 GG.lH k d (λz=>.bool z) (by
  intro z;cases g:b with
  | true=>rw[DO rfl];exact h g z
  | false=>rw[Do ic];intro e;simp only[UV] at e;subst e;exact i g rfl) (λz F' _ le=>next z F' le)
theorem GG.orM{c:Q2 Bool}{f:Bool->Q2 β}(k d:Nat)
  (h:b=false->∀z,GL μ P eX (l.take k) [] (Vy n D d (.bool z) S F hs) (Hd n D S F hs) c z)
  (i:b=true->GL μ P eX (l.take k) [] (Vy n D d (.bool true) S F hs) (Hd n D S F hs) (some ()) ())
  (next:∀z F',F<=F'->GL μ P eX (l.drop k) ks Q (Hd n D ((d,.bool z)::S) F' hs) (f z) r):GL μ P eX l ks Q (Hd n D S F hs) ((if b then some true else c).bind f) r:=
 GG.lH k d (λz=>.bool z) (by
  intro z;cases g:b with
  | true=>rw[DO rfl];intro e;simp only[UV] at e;subst e;exact i g rfl
  | false=>rw[Do ic];exact h g z) (λz F' _ le=>next z F' le)
theorem GG.cc{e:Q2 Tmp}{c:Bool}(f:b=c)(g:(eX[j]?).bind (·.dst)=some t)(h:JC S t=some (.bool b))
  (k:GL μ P eX (⟨e,op,ty,pos,after,none⟩::rest) ks Q (Hd n D S F hs) m r):GL μ P eX (⟨e,op,ty,pos,after,some (j,c)⟩::rest) ks Q (Hd n D S F hs) m r:=
 GG.on g (f▸h) k
theorem GG.sF{c:Bool}(e:b= !c)(f:Nat.blt d n=true)(g:(eX[j]?).bind (·.dst)=some t)(h:JC S t=some (.bool b))
  (k:GL μ P eX rest ks Q (Hd n D ((d,undef)::S) F hs) m r):GL μ P eX (⟨some d,op,ty,pos,after,some (j,c)⟩::rest) ks Q (Hd n D S F hs) m r:=
 GG.off f g h (by subst e;cases c<;>rfl) k
theorem GG.cn{c f e:OF}(g:b=true)(h:Nat.blt d n=true)(i:QS S e=some (.bool b))(j:QS S c=some v)(k:GL μ P eX rest ks Q (Hd n D ((d,v)::S) F hs) m r):GL μ P eX (⟨some d,.pick e c f,ty,pos,after,none⟩::rest) ks Q (Hd n D S F hs) m r:=GG.nT h (g▸i) j k
theorem GG.sD{f c e:OF}(g:b=false)(h:Nat.blt d n=true)(i:QS S e=some (.bool b))(j:QS S c=some v)(k:GL μ P eX rest ks Q (Hd n D ((d,v)::S) F hs) m r):GL μ P eX (⟨some d,.pick e f c,ty,pos,after,none⟩::rest) ks Q (Hd n D S F hs) m r:=GG.pd h (g▸i) j k
end
def Kh(L:Nat->Bool)(i:Nat):Nat->Bool:=λj=>if j=i then true else L j
theorem j5(Inv:(Nat->Bool)->Act->By->Prop)
  (z:∀i o,eX[i]? =some o->∀e∈o.after,Region.binds .any e=true->e.on < i)
  (s:∀L a w i o,eX[i]? =some o->L i=false->(∀e∈o.after,Region.binds .any e=true->L e.on=true)->Inv L a w->
   if Region.wanted o (yielded eX a.tmps) then yd O P o a w (Inv<|Kh L i) Q else Inv (Kh L i) (a.put o.dst undef) w)
  (p:∀L a w,(∀i,i < eX.size->L i=true)->Inv L a w->Q .normal a w):∀(c:Nat) (listed:C3 Bool) (a:Act) (w:By),listed.size=eX.size->(List.range eX.size).countP (λi=> !listed.getD i false)<=c->Inv (λi=>listed.getD i false) a w->wpAnyIn (NH O) 0 P .any eX Q c listed a w:=by
 have l:∀(listed:C3 Bool),listed.size=eX.size->Region.ready .any eX listed=[]->∀i,i < eX.size->listed.getD i false=true:=by
  intro listed hs E i
  induction i using Nat.strongRecOn with
  | _ i F=>
   intro hi;cases t:listed.getD i false with
   | true=>rfl
   | false=>
    have q:i∈Region.ready .any eX listed:=by
     unfold Region.ready;simp only[rW,ll];refine⟨hi,?_⟩
     have K:listed.getD i true=false:=by
      simp only[k4] at t ⊢
      have:i < listed.size:=by omega
      simp[this] at t ⊢;exact t
     have y:eX[i]? =some eX[i]:=by simp[hi]
     rw[K,y];simp only[u1,RK,om,ln,qA2,mx,r8];intro e he;cases G:Region.binds .any e with
     | false=>exact .inl rfl
     | true=>
      have m:=z i _ y e he G;exact .inr<|F e.on m hQ
    rw[E] at q;cases q
 intro c
 induction c with
 | zero=>
  intro listed a w hs I C
  have r:∀i,i < eX.size->listed.getD i false=true:=λi hi=>by
   have:=List.countP_eq_zero.1 (Nat.le_zero.1 I) i<|ll.2 hi;simpa using this
  refine⟨?_,p _ a w r C⟩;unfold Region.ready;apply o7.2;intro i hi;have h:=r i<|ll.1 hi;have A:i < listed.size:=by rw[hs];exact ll.1 hi
  simp only[k4] at h
  simp[A] at h
  simp[A,h]
 | succ c F=>
  intro listed a w hs I C;refine⟨λE=>p _ a w (l listed hs E) C,λi hi=> ?_⟩;unfold Region.ready at hi
  simp only[rW,ll,BY,r8] at hi
  obtain⟨m,t,g⟩:=hi;have y:eX[i]? =some eX[i]:=by simp[m]
  rw[y] at g
  simp only[RK,om,qA2,mx,r8] at g
  have B:listed.getD i false=false:=by
   have:i < listed.size:=by omega
   simp only[k4] at t ⊢
   simp[this] at t ⊢;exact t
  have n:=s _ a w i _ y B (λe he G=>by
   rcases g e he with h | h
   .rw[G] at h;cases h
   .exact h) C
  have k:∀D w',Inv (Kh (λj=>listed.getD j false) i) D w'->wpAnyIn (NH O) 0 P .any eX Q c (listed.setIfInBounds i true) D w' :=by
   intro D w' h
   have he:(λj=>(listed.setIfInBounds i true).getD j false)=Kh (λj=>listed.getD j false) i:=by
    funext j;simp only[Kh,k4];by_cases u:j=i
    .subst u;have:j < listed.size:=by omega
     simp[this]
    .simp[u,qBR u]
   refine F _ D w' (by simpa using hs) ?_ (by rw[he];exact h)
   have N:(List.range eX.size).countP (λj=> !(listed.setIfInBounds i true).getD j false) < (List.range eX.size).countP (λj=> !listed.getD j false):=by
    have M:(λj=> !(listed.setIfInBounds i true).getD j false)=λj=>(!(Kh (λj=>listed.getD j false) i) j):=by
     funext j;rw[<-he]
    rw[M];refine countP_lt (x:=i) ?_ (ll.2 m) (by simp[B]) (by simp[Kh]);intro j u;simp only[Kh,r8] at u ⊢
    by_cases e:j=i
    .simp[e] at u
    .simpa[e] using u
   omega
  unfold wpOpIn;rw[y];simp only[];split
  .rename_i H;rw[DO H] at n
   exact(SO k n).wpIn
  .rename_i H;rw[Do H] at n
   exact⟨λf _=>CG O f,k _ _ n⟩
where
 countP_lt {α:Type} {p q:α->Bool} {l:Q0 α} {x:α} (h:∀y,p y=true->q y=true) (hx:x∈l) (hq:q x=true) (hp:p x=false):l.countP p < l.countP q:=by
  induction l with
  | nil=>cases hx
  | cons y l ih=>
   simp only[List.countP_cons];have hle:l.countP p<=l.countP q:=List.countP_mono_left λz _ hz=>h z hz;rcases A4.1 hx with rfl | hx'
   .simp[hq,hp];omega
   .have:=ih hx'
    have:(if p y=true then 1 else 0)<=(if q y=true then 1 else 0):=by
     split
     .rename_i hy;simp[h y hy]
     .omega
    omega
theorem X7{id:Nat}(h:P.follows .mixedOrders=true)(Inv:(Nat->Bool)->Act->By->Prop)
  (f:∀i o,eX[i]? =some o->∀e∈o.after,Region.binds .any e=true->e.on < i)
  (j:Inv (λ_=>false) a {w with drawn:=w.drawn+1})
  (c:∀L a w i o,eX[i]? =some o->L i=false->(∀e∈o.after,Region.binds .any e=true->L e.on=true)->Inv L a w->
   if Region.wanted o (yielded eX a.tmps) then yd O P o a w (Inv<|Kh L i) Q else Inv (Kh L i) (a.put o.dst undef) w)
  (g:∀L a w,(∀i,i < eX.size->L i=true)->Inv L a w->Q .normal a w):(Code.region id eX true).wpIn (NH O) 0 P Q a w:=by
 refine wpIn_region_any h<|j5 Inv f c g _ _ _ _ ic ?_ ?_
 .exact oD List.countP_le_length ic
 .have:(λi=>(Array.replicate eX.size false).getD i false)=λ_=>false:=by
   funext i;simp only[k4,Array.getElem?_replicate];split<;>rfl
  rw[this];exact j
def LU:Nat->Q0 L0->Bool
 | _,[]=>true
 | i,o::l=>o.after.toList.all (λe=> !Region.binds .any e||Nat.blt e.on i)&&LU (i+1) l
theorem HY:∀{k:Nat} {l:Q0 L0},LU k l=true->∀i o,l[i]? =some o->∀e∈o.after,Region.binds .any e=true->e.on < k+i
 | _,[],_,i,o,h,_,_,_=>by simp at h
 | k,x::l,f,0,o,h,e,he,c=>by
  simp at h;subst h
  simp only[LU,BY,IN,mx,r8] at f
  rcases f.1 e (by simpa using he) with h | h
  .rw[c] at h;cases h
  .have:=AC h;simp at this ⊢;omega
 | k,x::l,f,i+1,o,h,e,he,c=>by
  simp only[LU,BY] at f
  have:=HY f.2 i o (by simpa using h) e he c;omega
def Ix:Nat->Q0 L0->Bool
 | _,[]=>true
 | i,o::l=>(List.range i).all (λj=>o.after.toList.any λe=>Nat.beq e.on j&&Region.binds .any e)&&Ix (i+1) l
theorem Nl:∀{k:Nat} {l:Q0 L0},Ix k l=true->∀i o,l[i]? =some o->∀j,j < k+i->∃e∈o.after,e.on=j/\Region.binds .any e=true
 | _,[],_,i,o,h,_,_=>by simp at h
 | k,x::l,c,0,o,h,j,f=>by
  simp at h;subst h
  simp only[Ix,BY,IN,ll,lT] at c
  obtain⟨e,he,g,m⟩:=c.1 j (by simpa using f);exact⟨e,by simpa using he,yb g,m⟩
 | k,x::l,c,i+1,o,h,j,f=>by
  simp only[Ix,BY] at c
  exact Nl c.2 i o (by simpa using h) j hQ
theorem Nt{c:Q0 (Nat×K2)}(h:Sub c S)(f:TR d c=false)(v:K2):Sub c ((d,v)::S):=λi u e=>by
 simp only[JC];cases g:Nat.beq d i with
 | true=>
  have:d=i:=yb g;subst this;rw[DC e] at f;cases f
 | false=>exact h i u e
theorem Pv(c:d≠i)(e:JC S i=some u):JC ((d,v)::S) i=some u:=by
 simp only[JC];cases f:Nat.beq d i with
 | true=>exact absurd (yb f) c
 | false=>exact e
theorem BO:JC ((d,v)::S) d=some v:=by simp[JC]
theorem Pb{o:L0}{c:s6->Act->By->Prop}(j:∀e a w,e≠.normal->c e a w->False)(i:∀a w,c .normal a w->K a w)(h:Xp O P eX c [o] a w):if Region.wanted o (yielded eX a.tmps) then yd O P o a w K Q else K (a.put o.dst undef) w:=by
 unfold Xp at h
 split
 .rename_i f;rw[DO f] at h
  exact NR i (λe a w g k=>(j e a w g k).elim) h
 .rename_i f;rw[Do f] at h
  exact i _ _ h
end
section
variable{k:Nat}{T:S2}
abbrev Up(α:Type):Type:=Fz->α->Q0 K2->Prop
variable{c:Up α}
abbrev Ex(c:α->Q0 K2):Up α:=λ_ x vs=>vs=c x
def QI(sz:Nat)(c:Up α)(F:Fz)(p:Q2 C1)(cap:Nat)(l:Q0 α):Prop:=l.length<=cap/\cap<=9223372036854775807/\(l=[]∨∃b o cs T fr,p=some ⟨b,o,none⟩/\F.mem b=some (.cells cs T fr)/\∀i x,l[i]? =some x->∀F',F<=F'->c F' x ((cs.toList.drop<|o+i*sz).take sz))
theorem QI.mono(h:QI sz c F p cap l)(le:F<=F'):QI sz c F' p cap l:=by
 obtain⟨f,g,a⟩:=h;refine⟨f,g,?_⟩;rcases a with h | ⟨b,o,cs,T,fr,a,j,m⟩
 .exact .inl h
 .exact .inr ⟨b,o,cs,T,fr,a,le.mem _ _ j,λi x q F' d=>m i x q F'<|Fz.le_trans le d⟩
theorem QI.nil{c:Up α}:QI sz c F none 0 ([]:Q0 α):=⟨So _,by simp,.inl rfl⟩
theorem QF(h:(cs.drop o).take z=vs)(a:vs[k]? =some v):cs[o+k]? =some v:=by
 rw[<-h,If,lY] at a
 split at a
 .exact a
 .cases a
theorem OT{a:Nat}(h:(cs.drop o).take z=vs)(d:(vs.drop k).take a=us)(f:Nat.ble (k+a) z=true):(cs.drop<|o+k).take a=us:=by
 have g:=AC f;rw[<-d,<-h];apply lM;intro i;simp only[If,lY];by_cases hi:i < a
 .simp only[hi,B1];rw[DO hQ];congr 1;omega
 .simp[hi]
def ZI(l:Q0 α)(i:Int):Q2 α:=if 0<=i then l[i.toNat]? else none
theorem Xv{i:Int}{x:α}(h:ZI l i=some x):0<=i/\i.toNat < l.length/\l[i.toNat]? =some x:=by
 unfold ZI at h
 split at h
 .rename_i a;refine⟨a,?_,h⟩;rcases u0 i.toNat l.length with h' | h'
  .exact h'
  .rw[lZ h'] at h;cases h
 .cases h
theorem QI.at_(h:QI sz c F p cap l){x:α}(d:l[k]? =some x):∃b o T fr,∃cs:Q0 K2,p=some ⟨b,o,none⟩/\F.mem b=some (.cells cs.toArray T fr)/\c F x ((cs.drop<|o+k*sz).take sz):=by
 obtain⟨_,_,a⟩:=h;rcases a with h | ⟨b,o,cs,T,fr,a,f,g⟩
 .subst h;simp at d
 .exact⟨b,o,T,fr,cs.toList,a,by simpa using f,by simpa using g k x d F (Fz.le_refl F)⟩
section
variable{t:S2}
theorem GG.mw{z:α}(a:Nat.blt d n=true)(f:P.underlying t=some (.slice e))(g:∀w,(sizeOf e).run P w= .ok sz w)
  (h:QI sz c F p cap l) (j:QS S ox=some (.slice p l.length cap)) (q:QS S oy=some (.int kd x)) (hi:ZI l x=some z)
  (k:∀b o T fr cs,F.mem b=some (.cells (List.toArray cs) T fr)->c F z ((cs.drop o).take sz)->GL μ P eX rest ks Q (Hd n D ((d,.pointer<|some ⟨b,o,none⟩)::S) F hs) m r):GL μ P eX (⟨some d,.indexAddr t ox oy,ty,pos,after,none⟩::rest) ks Q (Hd n D S F hs) m r:=by
 obtain⟨E,G,s⟩:=Xv hi;obtain⟨b,o,T,fr,cs,rfl,A,B⟩:=h.at_ s;have C:YY l.length x=some x.toNat:=by unfold YY;rw[DO hQ]
 exact GG.ad a f g j q C<|k b _ T fr cs A B
theorem GG.idx(a:Nat.blt d n=true)(g:P.underlying t=some (.slice e))(h:∀w,(sizeOf e).run P w= .ok sz w)
  (j:QI sz c F p cap l) (q:QS S ox=some (.slice p l.length cap)) (s:QS S oy=some (.int kd x))
  (k:∀z b o T fr cs,ZI l x=some z->F.mem b=some (.cells (List.toArray cs) T fr)->c F z ((cs.drop o).take sz)->GL μ P eX rest ks Q (Hd n D ((d,.pointer<|some ⟨b,o,none⟩)::S) F hs) (f z) r):GL μ P eX (⟨some d,.indexAddr t ox oy,ty,pos,after,none⟩::rest) ks Q (Hd n D S F hs) ((ZI l x).bind f) r:=
 GG.bind λz hi=>GG.mw a g h j q s hi λb o T fr cs A B=>k z b o T fr cs hi A B
def Zc(l:Q0 α)(lo hi:Int):Q2 (Q0 α):=if 0<=lo/\lo<=hi/\hi<=l.length then some ((l.drop lo.toNat).take<|hi.toNat - lo.toNat) else none
theorem QI.cut{cap':Nat}(h:QI sz c F p cap l){lo hi:Nat}(_h1:lo<=hi)(q:hi<=l.length)(s:hi - lo<=cap')(z:cap'<=cap):QI sz c F (p.map (·.add (lo*sz))) cap' ((l.drop lo).take<|hi - lo):=by
 obtain⟨A,B,j⟩:=h;refine⟨by simp;omega,by omega,?_⟩;rcases j with h | ⟨b,o,cs,T,fr,rfl,f,g⟩
 .subst h;left;simp
 .refine .inr ⟨b,o+lo*sz,cs,T,fr,by simp[HI],f,λi x a=> ?_⟩;rw[If,lY] at a
  split at a
  .intro F' le;have:=g (lo+i) x a F' le;rw[show o+lo*sz+i*sz=o+(lo+i)*sz by rw[lu];omega];exact this
  .cases a
theorem QI.mG{p':Q2 C1}(h:QI sz c F p cap ([]:Q0 α)):QI sz c F p' cap ([]:Q0 α):=⟨h.1,h.2.1,.inl rfl⟩
theorem Wc{i:Int}{y:Nat}{code:BoundsCode}(h:0<=i/\i<=y):(Instr.sliceBound (.int kd i) y code).run P w= .ok i.toNat w:=by
 simp[Instr.sliceBound,asIntOf,h]
theorem Oe{t len:Nat}{lo:Int}(a:P.underlying t=some (.slice e))(f:∀w,(sizeOf e).run P w= .ok sz w)(h:0<=lo/\lo<=len):(Instr.sliceAt t (.slice p len cap) (some<|.int kd lo) none none).run P w= .ok (.slice (if cap=lo.toNat then p else p.map (·.add (lo.toNat*sz))) (len - lo.toNat)<|cap - lo.toNat) w:=by
 simp only[Instr.sliceAt,y1,YU a,Result.andThen,Instr.slice,Instr.sliceBounds,oI,oL,W1,Bm];rw[Wc h];simp[f]
theorem Tw{t len:Nat}(a:P.underlying t=some (.slice e))(f:∀w,(sizeOf e).run P w= .ok sz w)(h:0<=hi/\hi<=cap):(Instr.sliceAt t (.slice p len cap) none (some<|.int kd hi) none).run P w= .ok (.slice (if cap=0 then p else p.map (·.add (0*sz))) hi.toNat cap) w:=by
 simp only[Instr.sliceAt,y1,YU a,Result.andThen,Instr.slice,Instr.sliceBounds,oI,oL,W1,Bm,B1];rw[Wc h];simp[f]
theorem LQ{t len:Nat}{a:Int}{f:lO}(g:P.underlying t=some (.slice e))(j:∀w,(sizeOf e).run P w= .ok sz w)(h:0<=hi/\hi<=a)(h' :a<=cap):(Instr.sliceAt t (.slice p len cap) none (some<|.int kd hi)<|some<|.int f a).run P w= .ok (.slice (if a.toNat=0 then p else p.map (·.add (0*sz))) hi.toNat a.toNat) w:=by
 simp only[Instr.sliceAt,y1,YU g,Result.andThen,Instr.slice,Instr.sliceBounds,oI,o5,W1,Bm,B1];rw[Wc (kd:=f) hQ];simp only[];rw[Wc hQ];simp[j]
theorem zw{p':Q2 C1}{q:Prop}[Decidable q](a:q->QI sz c F p cap l)(f:QI sz c F p' cap l):QI sz c F (if q then p else p') cap l:=by
 split
 .rename_i h;exact a h
 .exact f
theorem GG.aW{f:Q0 α->Q2 β}(E:Nat.blt d n=true)(G:P.underlying t=some (.slice e))(H:∀w,(sizeOf e).run P w= .ok sz w)
  (A:QI sz c F p cap l) (I:QS S ox=some (.slice p l.length cap)) (K:QS S oy=some (.int kd x))
  (k:∀l' p' c',Zc l x l.length=some l'->QI sz c F p' c' l'->GL μ P eX rest ks Q (Hd n D ((d,.slice p' l'.length c')::S) F hs) (f l') r):GL μ P eX (⟨some d,.slice t ox (some oy) none none,ty,pos,after,none⟩::rest) ks Q (Hd n D S F hs) ((Zc l x l.length).bind f) r:=
 GG.bind λl' j=>by
  have z:=j;unfold Zc at j
  split at j
  .rename_i h;simp only[UV] at j
   have g:QI sz c F (p.map (·.add (x.toNat*sz))) (cap - x.toNat) l' :=by
    have:=A.cut (lo:=x.toNat) (hi:=l.length) (cap' :=cap - x.toNat) hQ (So _) (by have:=A.1;omega) hQ;simp only[lV] at j
    rw[<-j];exact this
   have q:l'.length=l.length - x.toNat:=by rw[<-j];simp
   have s:QI sz c F (if cap=x.toNat then p else p.map (·.add (x.toNat*sz))) (cap - x.toNat) l' :=zw (λh=>by
    have:l' =[]:=by
     have:=g.1;rw[<-h] at this;simp at this;exact this
    subst this;exact g.mG) g
   have B:=k l' _ _ z s;rw[q] at B
   refine GG.val E (λa w C=> ?_) B;simp only[execOp,C.1.eval I,C.1.eval K,RK,oY,y1];rw[Oe G H hQ];rfl
  .cases j
theorem GG.tk{A:lO}{f:Q0 α->Q2 β}(G:Nat.blt d n=true)(H:P.underlying t=some (.slice e))(I:∀w,(sizeOf e).run P w= .ok sz w)
  (z:QI sz c F p cap l) (K:QS S ox=some (.slice p l.length cap)) (L:QS S oy=some (.int kd x)) (M:QS S oz=some (.int A x))
  (k:∀l' p' c',Zc l 0 x=some l'->QI sz c F p' c' l'->GL μ P eX rest ks Q (Hd n D ((d,.slice p' l'.length c')::S) F hs) (f l') r):GL μ P eX (⟨some d,.slice t ox none (some oy)<|some oz,ty,pos,after,none⟩::rest) ks Q (Hd n D S F hs) ((Zc l 0 x).bind f) r:=
 GG.bind λl' j=>by
  have B:=j;unfold Zc at j
  split at j
  .rename_i h;simp only[UV] at j
   have g:QI sz c F (p.map (·.add (0*sz))) x.toNat l' :=by
    have:=z.cut (lo:=0) (hi:=x.toNat) (cap' :=x.toNat) hQ hQ hQ (by have:=z.1;omega);simp only[qAX] at this
    rw[<-j];exact this
   have q:l'.length=x.toNat:=by rw[<-j];simp;omega
   have s:QI sz c F (if x.toNat=0 then p else p.map (·.add (0*sz))) x.toNat l' :=zw (λh=>by
    have:l' =[]:=by have:=g.1;rw[h] at this;simp at this;exact this
    subst this;exact g.mG) g
   have E:=k l' _ _ B s;rw[q] at E
   refine GG.val G (λa w C=> ?_) E;simp only[execOp,C.1.eval K,C.1.eval L,C.1.eval M,RK,oY,y1];rw[LQ H I (by have:=z.1;omega) (by have:=z.1;omega)];rfl
  .cases j
theorem QI.nV{T len:Nat}(f:F.mem b=some (.cells cs.toArray T fr))(g:l.length=len)(a:Nat.ble len 1000000=true)(h:∀i x,l[i]? =some x->∀F',F<=F'->c F' x ((cs.drop<|o+i*sz).take sz)):QI sz c F (some ⟨b,o,none⟩) len l:=by
 have:=AC a;exact⟨by omega,by omega,.inr ⟨b,o,cs.toArray,T,fr,rfl,f,by simpa using h⟩⟩
theorem GG.tn{len:Nat}(f:Nat.blt d n=true)(g:P.underlying t=some (.array len e))(h:∀w,(sizeOf e).run P w= .ok sz w)(j:QS S ox=some (.pointer<|some ⟨b,o,none⟩))(q:Nat.blt 0 len=true)
  (k:GL μ P eX rest ks Q (Hd n D ((d,.slice (some ⟨b,o,none⟩) len len)::S) F hs) m r):GL μ P eX (⟨some d,.slice t ox none none none,ty,pos,after,none⟩::rest) ks Q (Hd n D S F hs) m r:=
 GG.val f (λa w s=>by
  have:0 < len:=AC q;simp[execOp,s.1.eval j,Instr.sliceAt,YU g,Instr.sureAddr,Instr.sliceBounds,h,HI]) k
end
def Jm(sz:Nat)(c:Up α)(F:Fz)(l:Q0 α)(us:Q0 K2):Prop:=∀i x,l[i]? =some x->∀F',F<=F'->c F' x ((us.drop<|i*sz).take sz)
theorem Zz{x:α}(h:l[i]? =some x):i < l.length:=by
 rcases u0 i l.length with h' | h'
 .exact h'
 .rw[lZ h'] at h;cases h
theorem Jm.mono(h:Jm sz c F l us)(le:F<=F'):Jm sz c F' l us:=λi x d G a=>h i x d G<|Fz.le_trans le a
theorem Jm.nil{c:Up α}:Jm sz c F [] us:=λi x h=>by simp at h
theorem EX(h:i < n):(((us.take<|n*sz).drop<|i*sz).take sz)=((us.drop<|i*sz).take sz):=by
 rw[List.drop_take,List.take_take];congr 1;rw[<-Nat.sub_mul];have:1<=n - i:=by omega
 have:=oQ sz this;omega
theorem Jm.take(h:Jm sz c F l us):Jm sz c F l (us.take<|l.length*sz):=λi x a F' le=>by
 rw[EX<|Zz a];exact h i x a F' le
theorem Jm.rR(h:Jm sz c F l (us.take<|l.length*sz)):Jm sz c F l us:=λi x a F' le=>by
 rw[<-EX (Zz a)];exact h i x a F' le
theorem Jm.len(f:∀F x vs,c F x vs->vs.length=sz)(h:Jm sz c F l us):l.length*sz<=us.length:=by
 rcases qAJ l.length with a | a
 .rw[a];simp
 .have g:l[l.length - 1]? =some (l[l.length - 1]'(by omega)):=B3 _;have:=f _ _ _<|h _ _ g F<|Fz.le_refl F;simp only[qAU,oJ] at this
  rcases qAJ sz with d | d
  .rw[d];simp
  .have e:l.length*sz=(l.length - 1)*sz+sz:=by
    rw[show l.length=l.length - 1+1 by omega,lu];simp
   omega
theorem Jm.append(h:Jm sz c F l us)(f:Jm sz c F l2 us2)(d:us.length=l.length*sz):Jm sz c F (l++l2) (us++us2):=λi x a F' le=>by
 rcases u0 i l.length with hi | hi
 .rw[x8 hi] at a
  have e:((us++us2).drop<|i*sz).take sz=(us.drop<|i*sz).take sz:=by
   have:i*sz+sz<=us.length:=by
    rw[d,show i*sz+sz=(i+1)*sz by rw[lu];omega];exact oQ sz hi
   rw[oV hQ,List.take_append_of_le_length ia]
  rw[e];exact h i x a F' le
 .rw[lR hi] at a
  have e:(us++us2).drop (i*sz)=us2.drop ((i - l.length)*sz):=by
   have:us.length<=i*sz:=by rw[d];exact oQ sz hi
   rw[List.drop_append];rw[qAZ this,lQ,d,Nat.sub_mul]
  rw[e];exact f _ x a F' le
theorem Jm.th(h:Jm sz c F l us)(a:us.length=l.length*sz):Jm sz c F l (us++us2):=by
 have:=h.append (l2:=[]) (us2:=us2) Jm.nil a;simpa using this
theorem Jm.all(g:∀F x vs,c F x vs->vs.all Value.oneCell' =true)(h:Jm sz c F l us):(us.take<|l.length*sz).all Value.oneCell' =true:=by
 rw[IN];intro v m;obtain⟨j,q,e⟩:=lz m;simp only[qAU] at q
 have a:j < l.length*sz:=by omega
 have d:0 < sz:=by
  rcases qAJ sz with f | f
  .subst f;simp at a
  .exact f
 have hi:j / sz < l.length:=(Nat.div_lt_iff_lt_mul d).2 a;have r:l[j / sz]? =some (l[j / sz]'hi):=B3 _;have:=g _ _ _<|h _ _ r F<|Fz.le_refl F;rw[IN] at this
 apply this;rw[List.getElem_take] at e
 have s:j%sz < sz:=qAo _ d;have u:j=j / sz*sz+j%sz:=by have:=Nat.div_add_mod j sz;rw[Nat.mul_comm] at this;omega
 rw[List.mem_iff_getElem];refine⟨j%sz,by simp;omega,?_⟩;rw[List.getElem_take,List.getElem_drop,<-e];congr 1;omega
def Qg(sz:Nat)(c:Up α)(F:Fz)(T:S2)(p:Q2 C1)(cap:Nat)(l:Q0 α):HP:=λm=>
 l.length<=cap/\cap<=9223372036854775807/\((p=none/\cap=0)∨∃b cs,p=some ⟨b,0,none⟩/\pt b (.cells (List.toArray cs) T (0,0)) m/\cs.length=cap*sz/\Jm sz c F l cs)
theorem Pp{m:Mem}:Qg sz c F T none 0 ([]:Q0 α) m:=⟨So _,by simp,.inl ⟨rfl,rfl⟩⟩
theorem WD{m:Mem}(le:F<=F')(h:Qg sz c F T p cap l m):Qg sz c F' T p cap l m:=by
 obtain⟨d,f,a⟩:=h;rcases a with a | ⟨b,cs,e,g,j,q⟩
 .exact⟨d,f,.inl a⟩
 .exact⟨d,f,.inr ⟨b,cs,e,g,j,q.mono le⟩⟩
theorem SH.sJ(a:F0<=F)(h:SH w F (star (Qg sz c F0 T p cap l) H)):∃F',F<=F'/\SH w F' H/\QI sz c F' p cap l:=by
 obtain⟨m,⟨u,g,d,v,j,⟨q,r,y⟩,s⟩,k⟩:=h;rcases y with⟨rfl,rfl⟩ | ⟨b,cs,rfl,z,D,A⟩
 .refine⟨F,Fz.le_refl F,⟨g,s,k.sub j⟩,q,r,.inl<|Rw hQ⟩
 .have B:SH w F (star (pt b<|.cells cs.toArray T (0,0)) H):=⟨m,⟨u,g,d,v,j,z,s⟩,k⟩;obtain⟨le,hs⟩:=B.freeze;refine⟨_,le,hs,q,r,.inr ⟨b,0,cs.toArray,T,(0,0),rfl,Fz.sV ..,λi x C F' f=> ?_⟩⟩;have:=A i x C F'<|Fz.le_trans a<|Fz.le_trans le f;simpa using this
theorem GG.sW(sz:Nat)(c:Up α)(T:S2)(k:GG g (Hd n D S F<|Qg sz c F T none 0 []::hs) m r):GG g (Hd n D S F hs) m r:=by
 exact λh a w f=>k h a w ⟨f.1,f.2.mono λm d=>⟨λ_=>none,m,λ_=>.inl rfl,λ_ _ e=>by simp at e,Mem.sub.refl _,Pp,d⟩⟩
theorem SH.sy(le:F0<=F)(hi:hs[i]? =some (Qg sz c F0 T p cap l))(h:SH w F (Qk hs)):SH w F (Qk<|hs.set i<|Qg sz c F T p cap l):=SH.push hi ((h.pull hi).mono λ_m a=>QR (λ_=>WD le) a)
theorem GG.sy(i:Nat)(le:F0<=F)(hi:hs[i]? =some (Qg sz c F0 T p cap l))(k:GG g (Hd n D S F<|hs.set i<|Qg sz c F T p cap l) m r):GG g (Hd n D S F hs) m r:=by
 exact λf a w d=>k f a w ⟨d.1,d.2.sy le hi⟩
theorem GG.sJ{g:Gp}(i:Nat)(hi:hs[i]? =some (Qg sz c F0 T p cap l))(d:F0<=F)
  (k:∀F',F<=F'->QI sz c F' p cap l->GG g (Hd n D S F'<|hs.eraseIdx i) m r):GG g (Hd n D S F hs) m r:=by
 exact λh a w f=>by
   obtain⟨F',le,j,q⟩:=(f.2.pull hi).sJ d;exact k F' le q h a w ⟨f.1,j⟩
theorem QI.aR{z:α}(d:QI sz c F p cap l)(hi:ZI l x=some z):∃b o T fr cs,F.mem b=some (.cells (List.toArray cs) T fr)/\c F z ((cs.drop o).take sz)/\∃a,p=some ⟨b,a,none⟩/\o=a+x.toNat*sz/\YY l.length x=some x.toNat:=by
 obtain⟨j,q,f⟩:=Xv hi;obtain⟨b,o,T,fr,cs,rfl,g,h⟩:=d.at_ f;exact⟨b,_,T,fr,cs,g,h,o,rfl,rfl,by unfold YY;rw[DO hQ]⟩
theorem GG.aJ{t e:S2}{f g:OF}{len:Nat}(h:Nat.blt d n=true)(j:P.underlying t=some (.slice e))(q:∀w,(sizeOf e).run P w= .ok sz w)
  (s:∃a,p=some ⟨b,a,none⟩/\o=a+x.toNat*sz/\YY len x=some x.toNat) (u:QS S f=some (.slice p len cap)) (v:QS S g=some (.int kd x))
  (k:GL μ P eX rest ks Q (Hd n D ((d,.pointer<|some ⟨b,o,none⟩)::S) F hs) m r):GL μ P eX (⟨some d,.indexAddr t f g,ty,pos,after,none⟩::rest) ks Q (Hd n D S F hs) m r:=by
 obtain⟨a,rfl,rfl,y⟩:=s;exact GG.ad h j q u v y k
end
variable{c:Up α}
theorem yL{k:Nat}(g:∀F x vs,c F x vs->vs.length=sz)(a:∀F x vs,c F x vs->vs.all Value.oneCell' =true)(h:QI sz c F p cap l):∃us:Q0 K2,us.length=l.length*sz/\Jm sz c F l us/\us.all Value.oneCell' =true/\∀w:By,(∀b o,F.mem b=some o->w.heap[b]? =some o)->(Builtin.firstCells sz l.length<|.slice p k cap).run P w= .ok us.toArray w:=by
 obtain⟨_,_,j⟩:=h;rcases j with h | ⟨b,o,cs,T,fr,rfl,m,n⟩
 .subst h;refine⟨[],by simp,Jm.nil,rfl,λw _=> ?_⟩;cases p<;>simp[Builtin.firstCells,loadCells,loadCellsFrom]
 .have d:Jm sz c F l (cs.toList.drop o):=λi x q r le=>by rw[o8];exact n i x q r le
  have f:=d.len g;refine⟨(cs.toList.drop o).take<|l.length*sz,by simp at f ⊢;omega,d.take,d.all a,λw s=> ?_⟩;have e:w.heap[b]? =some (.cells cs.toList.toArray T fr):=by simpa using s _ _ m
  simp only[Builtin.firstCells];exact Hq e rfl (by simp at f ⊢;omega)
def Y1(l k:Q0 α):Q2 (Q0 α):=if l.length+k.length<=4294967296 then some (l++k) else none
theorem Et(a:Nat):∀(rounds c:Nat),c<=2*a+1000->Builtin.growBy a rounds c<=2*a+1000
 | 0,c,h=>by simpa only[Builtin.growBy] using h
 | rounds+1,c,h=>by
  simp only[Builtin.growBy];split
  .exact h
  .exact Et a rounds _ hQ
theorem kN{a:Nat}(h:cap < a):Builtin.nextslicecap a cap<=4*a+4000:=by
 unfold Builtin.nextslicecap;split
 .omega
 .split
  .omega
  .have:=Et a 4 cap hQ;omega
theorem FO:∀(vs cs:Q0 K2) (o:Nat),o+vs.length<=cs.length->(Ki cs o vs).take (o+vs.length)=cs.take o++vs
 | [],cs,o,_=>by simp[Ki]
 | v::vs,cs,o,h=>by
  simp only[L4] at h
  have:=FO vs (cs.set o v) (o+1) ia;simp only[Ki,L4];rw[show o+(vs.length+1)=o+1+vs.length by omega,this]
  have e:(cs.set o v).take (o+1)=cs.take o++[v]:=by
   rw[List.take_succ_eq_append_getElem ia];rw[List.getElem_set_self,List.take_set,List.set_eq_of_length_le ia]
  rw[e];simp
def GZ(a cap by_:Nat):Prop:=Builtin.nextslicecap a cap*by_<=281474976710656
theorem SQ{a:Nat}(h:cap < a)(d:a<=4294967296)(b:by_<=4096):GZ a cap by_:=by
 have:=kN h;unfold GZ;exact oD (Nat.mul_le_mul this b) hQ
theorem zq{t2:Nat}{p2:Q2 C1}{g:Nat}{z:K2}{ti:TypeInfo}
   (N:F0<=F) (hc:∀F x vs,c F x vs->vs.length=sz) (Q:∀F x vs,c F x vs->vs.all Value.oneCell' =true) (ht:P.underlying t=some (.slice e)) (A:P.underlying t2=some (.slice e2)) (hz:∀w,(sizeOf e).run P w= .ok sz w) (aF:∀w,(typeInfo e).run P w= .ok ti w) (aG:ti.bytes=by_) (aH:by_≠0) (aI:by_<=4096) (hzero:∀w,(zeroValue e).run P w= .ok z w) (aJ:z.cells.size=sz)
   (B:T[0]? =some t) (D:T[1]? =some t2) (h:SH w F (star (Qg sz c F0 e p cap l) H)) (hr:QI sz c F p2 g l2) (R:l.length+l2.length<=4294967296):∃p' cap' w',(Builtin.append_ T ty #[.slice p l.length cap,.slice p2 l2.length g]).run P w= .ok (.slice p' (l++l2).length cap') w'/\SH w' F (star (Qg sz c F e p' cap'<|l++l2) H):=by
 have S:∀b o,F.mem b=some o->w.heap[b]? =some o:=λb o e=>h.frozen e;obtain⟨us2,f,V,W,j⟩:=yL (P:=P) (k:=l2.length) hc Q hr;have n:=j w S;obtain⟨m,⟨m1,m2,d,s1,s2,⟨h1,h2,h3⟩,hq⟩,k⟩:=h;by_cases a:l.length+l2.length<=cap
 ·
   rcases h3 with⟨rfl,rfl⟩ | ⟨b,cs,rfl,hb,hl,hp⟩
   .have e1:l=[]:=Rw hQ;have e2:l2=[]:=Rw hQ;subst e1 e2;refine⟨none,0,w,?_,⟨m,⟨m1,m2,d,s1,s2,⟨by simp,by simp,.inl ⟨rfl,rfl⟩⟩,hq⟩,k⟩⟩;simp only[Builtin.append_];simp[B,D,YU ht,YU A,hz,Builtin.lenOf];simp only[qs] at n f
    have:us2=[]:=Rw (by simpa using f);simp[n,this]
   .have hh:SH w F (star (pt b<|.cells cs.toArray e (0,0)) H):=⟨m,⟨m1,m2,d,s1,s2,hb,hq⟩,k⟩;have aR:=hh.owned
    have r:l.length*sz+us2.length<=cs.length:=by
     rw[f,hl,<-lu];exact oQ sz a
    have X:=XT (P:=P) (o:=l.length*sz) (i:=0) aR (by simpa using r) W;simp only[qAv] at X
    refine⟨some ⟨b,0,none⟩,cap,put w b<|.cells (Ki cs (l.length*sz) us2).toArray e (0,0),?_,?_⟩
    .simp only[Builtin.append_];simp[B,D,YU ht,YU A,hz,Builtin.lenOf,n,a,HI,X]
    .have aS:=hh.put (o' :=.cells (Ki cs (l.length*sz) us2).toArray e (0,0));refine aS.mono λm hm=>QR (λm' E=>⟨by simp;exact a,h2,.inr ⟨b,_,rfl,E,by rw[Hy];exact hl,?_⟩⟩) hm;have:=FO us2 cs (l.length*sz) r;rw[f,<-lu] at this
     apply Jm.rR;rw[bY,this];exact(hp.mono N).take.append V ia
 ·
   have hn:GZ (l.length+l2.length) cap by_:=SQ (Nat.lt_of_not_le a) R aI
   have s:∃us:Q0 K2,us.length=l.length*sz/\Jm sz c F l us/\∀w' :By,w'.heap=w.heap->(Builtin.firstCells sz l.length<|.slice p l.length cap).run P w' = .ok us.toArray w' :=by
    rcases h3 with⟨rfl,rfl⟩ | ⟨b,cs,rfl,hb,hl,hp⟩
    .have e1:l=[]:=Rw hQ;subst e1;exact⟨[],by simp,Jm.nil,λw' _=>by simp[Builtin.firstCells]⟩
    .have aj:=hp.len hc;refine⟨cs.take<|l.length*sz,by simp;omega,(hp.mono N).take,λw' G=> ?_⟩;simp only[Builtin.firstCells];exact Hq (cs:=cs) (T:=e) (fr:=(0,0)) (by rw[G];exact k.ry<|s1 _ _ hb) ic ia
   obtain⟨us,I,aV,s⟩:=s;have K:∀w' :By,w'.heap=w.heap->(Builtin.firstCells sz l2.length<|.slice p2 l2.length g).run P w' = .ok us2.toArray w' :=λw' G=>j w' λb o e=>by rw[G];exact S b o e
   have aW:SH w F H:=⟨m2,hq,k.sub s2⟩;generalize L:Question.appendCap (l.length+l2.length) cap e=q
   have u:l.length+l2.length<=q.cut (w.tape w.drawn q)/\q.cut (w.tape w.drawn q)<=9223372036854775807:=by
    rw[<-L];have:=qAo (w.tape w.drawn<|Question.appendCap (l.length+l2.length) cap e) (show 0 < 2^63 - (l.length+l2.length) by omega);simp only[Question.cut];omega
   have v:q.forced=false:=by rw[<-L];rfl
   generalize hC:q.cut (w.tape w.drawn q)=C at u
   have M:SH {w with drawn:=w.drawn+1} F H:=aW.drew _;have y:=M.alloc<|.cells ((us.toArray++us2.toArray++Builtin.zeroCells z.cells (C - (l.length+l2.length)))) e;refine⟨some ⟨w.heap.size,0,none⟩,C,_,?_,y.mono λm hm=>QR (λm' E=>⟨by simp;exact u.1,u.2,.inr ⟨w.heap.size,(us.toArray++us2.toArray++Builtin.zeroCells z.cells (C - (l.length+l2.length))).toList,rfl,?_,?_,?_⟩⟩) hm⟩
   .simp only[Builtin.append_];have aX:=hn;unfold GZ at aX
    have Y:¬(2:Nat)^48 < Builtin.nextslicecap (l.length+l2.length) cap*by_:=by omega
    have g1:=s w.drew rfl;have g2:=K w.drew rfl;simp[B,D,YU ht,YU A,hz,Builtin.lenOf,a,aF,aG,aH,Y,L,v,hC,g1,g2,hzero,newRow];simp only[<-qBg,Array.append_assoc]
   .have Z:pt w.heap.size _ m' :=E;unfold pt at Z ⊢;rw[Z]
   .have e3:(Builtin.zeroCells z.cells<|C - (l.length+l2.length)).size=(C - (l.length+l2.length))*sz:=by simp[Builtin.zeroCells,aJ]
    simp only[o0,qA1,List.size_toArray,I,f,e3];rw[<-lu,<-lu];congr 1;omega
   .have:=(aV.append V I).th (us2:=(Builtin.zeroCells z.cells<|C - (l.length+l2.length)).toList) (by simp[I,f,lu]);simpa using this
section
variable{t t2 e e2:S2}
structure Uo{α:Type}(P:Program)(e sz:Nat)(c:Up α):Prop where
 len:∀F x vs,c F x vs->vs.length=sz
 one:∀F x vs,c F x vs->vs.all Value.oneCell' =true
 mono:∀F F' x vs,F<=F'->c F x vs->c F' x vs
 size:∀w,(sizeOf e).run P w= .ok sz w
 info:∃ti:TypeInfo,(∀w,(typeInfo e).run P w= .ok ti w)/\ti.bytes≠0/\ti.bytes<=4096
 zero:∃z,(∀w,(zeroValue e).run P w= .ok z w)/\z.cells.size=sz
theorem Uo.ex{e:Nat}{c:α->Q0 K2}(len:∀x,(c x).length=sz)(one:∀x,(c x).all Value.oneCell' =true)(size:∀w,(sizeOf e).run P w= .ok sz w)
  (info:∃a:TypeInfo,(∀w,(typeInfo e).run P w= .ok a w)/\a.bytes≠0/\a.bytes<=4096) (zero:∃z,(∀w,(zeroValue e).run P w= .ok z w)/\z.cells.size=sz):Uo P e sz (Ex c):=
 ⟨λ_ x _ h=>h▸len x,λ_ x _ h=>h▸one x,λ_ _ _ _ _ h=>h,size,info,zero⟩
theorem GG.append{F0:Fz}{L:Q2 C1}{b:Nat}{l2:Q0 α}{f:Q0 α->Q2 β}{T:C3 S2}(i:Nat)(E:Uo P e sz c)(q:F0<=F)(M:Nat.blt d n=true)(N:P.underlying t=some (.slice e))(s:P.underlying t2=some (.slice e2))(A:T[0]? =some t)(B:T[1]? =some t2)
  (hi:hs[i]? =some (Qg sz c F0 e p cap l)) (R:QI sz c F L b l2) (V:QS S ox=some (.slice p l.length cap)) (W:QS S oy=some (.slice L l2.length b))
  (k:∀l' p' cap',Y1 l l2=some l'->GL O P eX rest ks Q (Hd n D ((d,.slice p' l'.length cap')::S) F<|hs.set i<|Qg sz c F e p' cap' l') (f l') r):GL O P eX (⟨some d,.call ⟨.builtin .append,#[ox,oy],T⟩,ty,pos,after,none⟩::rest) ks Q (Hd n D S F hs) ((Y1 l l2).bind f) r:=
 GG.bind λl' g=>by
  have C:=g;unfold Y1 at g
  split at g
  .rename_i h;simp only[UV] at g
   subst g;obtain⟨Z,G,H,I⟩:=E.info;obtain⟨z,hzero,K⟩:=E.zero;refine GG.step rfl (.inr rfl) λX a w o=> ?_;obtain⟨p',cap',w',j,Y⟩:=zq (P:=P) (T:=T) (ty:=ty) q E.len E.one N s E.size G rfl H I hzero K A B (o.2.pull hi) R h;refine⟨_,w',?_,k _ p' cap' C X _ _ ⟨o.1.put M _,SH.push hi Y⟩⟩;simp[execOp,resolve,invoke,builtin,o.1.eval V,o.1.eval W,j]
  .cases g
theorem GG.sC{len:Nat}{z:K2}{zc:Q0 K2}(B:Nat.blt d n=true)(C:P.underlying t=some (.slice e))(E:∀w,(sizeOf e).run P w= .ok sz w)(hzero:∀w,(zeroValue e).run P w= .ok z w)(G:Nat.blt 0 (len*sz)=true)(g:Nat.ble (len*sz) 16777216=true)
  (H:Rz S parts=some ps) (h:(Array.range<|len*sz).map (λi=>z.cells[i%z.cells.size]!)=zc.toArray) (f:Instr.fill (λi=>some (i*sz,sz)) zc.toArray ps=some cs.toArray)
  (k:∀b j,F<=j->j.mem b=some (.cells cs.toArray e)->GL O P eX rest ks Q (Hd n D ((d,.slice (some ⟨b,0,none⟩) len len)::S) j hs) m r):GL O P eX (⟨some d,.buildSlice t len parts.toArray,ty,pos,after,none⟩::rest) ks Q (Hd n D S F hs) m r:=
 GG.step rfl (.inr rfl) λI a w o=>by
  obtain⟨K,L⟩:=o.2.tg<|.cells cs.toArray e;refine⟨.slice (some ⟨w.heap.size,0,none⟩) len len,w.alloc<|.cells cs.toArray e,?_,k w.heap.size _ K (Fz.sV ..) I _ _ ⟨o.1.put B _,L⟩⟩;have q:=AQ o.1 H;have M:0 < len*sz:=AC G;have N:=AC g;have s:¬len*sz=0:=by omega
  have A:¬len*sz > 16777216:=by omega
  simp only[execOp,Instr.buildSlice,y1,YU C,E,Result.andThen,List.map_toArray,q];simp only[Nat.reducePow,A,s,Bm,oI,Result.andThen,y1,hzero,h,f,newRow,run_newObj,World.alloc_eq]
theorem QI.ofRow{T len:Nat}(f:F.mem b=some (.cells cs.toArray T fr))(g:Jm sz c F l cs)(k:l.length=len)(a:Nat.ble len 1000000=true):QI sz c F (some ⟨b,0,none⟩) len l:=by
 have:=AC a;refine⟨by omega,by omega,.inr ⟨b,0,cs.toArray,T,fr,rfl,f,λi x h j le=> ?_⟩⟩;simpa using g i x h j le
theorem Jm.cons{x:α}(f:∀F a x vs,F<=a->c F x vs->c a x vs)(h:c F x (us.take sz))(h' :Jm sz c F l (us.drop sz)):Jm sz c F (x::l) us:=λi y b a le=>by
 cases i with
 | zero=>simp at b;subst b;simpa using f _ _ _ _ le h
 | succ i=>
  have:=h' i y (by simpa using b) a le;rw[o8] at this
  rwa[show(i+1)*sz=sz+i*sz by rw[lu];omega]
end
section
variable{γ:Type}{Dn:γ->s6->Act->By->Prop}{ctl:UN σ γ}
abbrev Qy(n:Int):Int:=IntKind.i64.wrap n
abbrev JS(x y:Int):Int:=if y < x then y else x
abbrev imax(x y:Int):Int:=if x < y then y else x
def Zy(k:lO)(x:Int):Q0 K2:=[.int k x]
def DN(n:Nat)(f:Nat->α):Q0 α:=(List.range n).map f
def Lm(n:Nat)(c:α->Q0 K2)(f:Nat->α):Q0 K2:=(DN n f).flatMap c
def ZF(f:Nat->α)(i:Nat)(x:α):Nat->α:=λj=>match Nat.beq j i with | true=>x | false=>f j
def gZ(l:Q0 α)(z:α):Nat->α:=λi=>l.getD i z
theorem zO(n:Nat)(f:Nat->α):(DN n f).length=n:=by simp[DN]
theorem zP{f:Nat->α}{q:Nat->α->Prop}(h:∀j,j < n->q j (f j)):∀i x,(DN n f)[i]? =some x->q i x:=by
 intro i x e;simp only[DN,tb] at e
 by_cases hi:i < n
 .simp[hi] at e;subst e;exact h i hi
 .simp[hi] at e
theorem fb{p:Nat->Prop}(a:p 0)(b:p 1)(c:p 2)(e:p 3)(f:p 4)(g:p 5)(h:p 6):∀j,j < 7->p j:=by
 intro j i;match j,i with | 0,_=>exact a | 1,_=>exact b | 2,_=>exact c | 3,_=>exact e | 4,_=>exact f | 5,_=>exact g | 6,_=>exact h
theorem fa{p:Nat->Prop}(a:p 0)(b:p 1)(c:p 2)(e:p 3)(f:p 4)(g:p 5)(h:p 6)(i:p 7):∀j,j < 8->p j:=by
 intro j k;match j,k with | 0,_=>exact a | 1,_=>exact b | 2,_=>exact c | 3,_=>exact e | 4,_=>exact f | 5,_=>exact g | 6,_=>exact h | 7,_=>exact i
def UM(P:B2)(F:Fz)(f:Nm)(eY:Q0 K2)(arg:α->Fz->Q0 K2->Prop)(a:γ->Fz->K2->Prop)(m:α->Q2 γ):Prop:=(∀args w,(callFunc f args).run P w= .ok (.enter f args) w)/\∀b,F<=b->∀x vs,arg x b vs->KO P f (vs++eY).toArray b (m x) a
theorem UM.mono{c:Fz}{f:Nm}{a:γ->Fz->K2->Prop}{m:α->Q2 γ}(h:UM P F f eY arg a m)(le:F<=c):UM P c f eY arg a m:=⟨h.1,λG b x vs e=>h.2 G (Fz.le_trans le b) x vs e⟩
def dQ(sz:Nat)(c:Up α):Up (Q0 α):=λF x vs=>∃p k,vs=[.slice p x.length k]/\QI sz c F p k x
theorem GG.ex(h:∀a w,A a w->∃b:Act->By->Prop,b a w/\GG g b m r):GG g A m r:=by
 exact λc a w e=>let⟨_,f,i⟩:=h a w e;i c a w f
theorem GG.app(h:GE O P ks Q A m r)(b:m=some r)(a:Act)(w:By)(c:A a w):Z0 O P ks Q .normal a w:=h b a w c
theorem GG.ite{b:Bool}{a c:Q2 β}(f:b=true->GG g A a r)(h:b=false->GG g A c r):GG g A (if b then a else c) r:=by
 cases e:b with
 | true=>rw[DO rfl];exact f e
 | false=>rw[Do ic];exact h e
theorem Qu.norm{γ:Type}{Dn:γ->s6->Act->By->Prop}{ctl:UN σ γ}(h:∀a w,A a w->I s a w):some (UN.next s)=some ctl->∀a w,A a w->Qu I Dn ctl .normal a w:=λe a w b=>by
 simp only[UV] at e;subst e;exact⟨rfl,h a w b⟩
theorem Qu.exit{b:γ}{id:Nat}(h:∀a w,A a w->Dn b (.exit id) a w):some (UN.done b)=some ctl->∀a w,A a w->Qu I Dn ctl (.exit id) a w:=λe a w c=>by
 simp only[UV] at e;subst e;exact⟨by simp,h a w c⟩
theorem Qu.ret{b:γ}(h:∀a w,A a w->Dn b .ret a w):some (UN.done b)=some ctl->∀a w,A a w->Qu I Dn ctl .ret a w:=λe a w c=>by
 simp only[UV] at e;subst e;exact⟨by simp,h a w c⟩
theorem GG.sh{x z:Bool}(j:Nat)(c:JC S' d=some (.bool x))(f:S'.drop j=S)(g:fresh S (S'.take j)=true)(le:F<=F'):GL μ P eX [] [] (Vy n D d (.bool z) S F hs) (Hd n D S' F' hs) (some x) z:=λe a w b=>by
 simp only[UV] at e;subst e
 exact OM ⟨rfl,F',le,b.1.sub<|Sub.cons c<|Rh j f g,b.2⟩
theorem GG.nilCheck{ty:S2}{pos:String}{after:C3 oX}{b:OF}{p:C1}(c:Nat.blt d n=true)(e:QS S b=some (.pointer<|some p))(k:GL μ P eX rest ks Q (Hd n D ((d,.pointer<|some p)::S) F hs) m r):GL μ P eX (⟨some d,.nilCheck b,ty,pos,after,none⟩::rest) ks Q (Hd n D S F hs) m r:=GG.val c (λa w f=>by simp[execOp,f.1.eval e]) k
theorem gz{z:Int}(a:SI x y=some z):y≠0/\z=x.tmod y:=by
 have b:y≠0:=λe=>by simp[SI,e] at a
 exact⟨b,by simpa[SI,b] using a.symm⟩
theorem GG.mr{t:S2}{a b:OF}{z:Int}(c:SI x y=some z)(e:Nat.blt d n=true)(f:QS S a=some (.int kd x))(g:QS S b=some (.int kd y))(k:GL μ P eX rest ks Q (Hd n D ((d,.int kd z)::S) F hs) m r):GL μ P eX (⟨some d,.binOp .rem t a b t',ty,pos,after,none⟩::rest) ks Q (Hd n D S F hs) m r:=by
 have⟨h,this⟩:=gz c;rw[this] at k
 exact GG.rL e h f g k
end
theorem QX(h:cs.length=vs.length):Ki cs 0 vs=vs:=by
 have a:=FO vs cs 0 hQ;simp only[s5,List.take_zero,lQ] at a
 rwa[IF (by rw[Hy];omega)] at a
section
variable{T:S2}{z:α}
theorem GG.rS:GG g A none r:=by
 exact λh=>by cases h
theorem kD{k:Nat}(h:SH w F (star (Qg sz c F0 T p cap l) H))(e:l[k]? =some z):∃b cs,p=some ⟨b,0,none⟩/\cs.length=cap*sz/\l.length<=cap/\Jm sz c F0 l cs/\SH w F (star (pt b<|.cells (List.toArray cs) T (0,0)) H)/\cap<=9223372036854775807:=by
 obtain⟨m,⟨f,g,d,i,j,⟨n,o,q⟩,r⟩,s⟩:=h;have:=Zz e;rcases q with⟨rfl,v⟩ | ⟨b,cs,rfl,t,a,u⟩
 .omega
 .exact⟨b,cs,rfl,a,n,u,⟨m,⟨f,g,d,i,j,t,r⟩,s⟩,o⟩
section
variable{t e:S2}
theorem GG.ak(i:Nat)(hi:hs[i]? =some (Qg sz c F0 T p cap l))(h:ZI l x=some z)
  (k:∀b,p=some ⟨b,0,none⟩->GG g (Hd n D S F hs) m r):GG g (Hd n D S F hs) m r:=by
 exact λj a w f=>by
  obtain⟨b,_,o,_⟩:=kD (f.2.pull hi) (Xv h).2.2;exact k b o j a w f
theorem GG.tJ(a:Nat.blt d n=true)(f:P.underlying t=some (.slice e))(g:∀w,(sizeOf e).run P w= .ok sz w)
  (h:p=some ⟨b,0,none⟩) (i:ZI l x=some z) (j:QS S ox=some (.slice p l.length cap)) (o:QS S oy=some (.int kd x))
  (k:GL μ P eX rest ks Q (Hd n D ((d,.pointer<|some ⟨b,0+x.toNat*sz,none⟩)::S) F hs) m r):GL μ P eX (⟨some d,.indexAddr t ox oy,ty,pos,after,none⟩::rest) ks Q (Hd n D S F hs) m r:=by
 subst h;obtain⟨q,s,_⟩:=Xv i;exact GG.ad a f g j o (by unfold YY;rw[DO hQ]) k
theorem GG.tV{off:Nat}{Φ:K2->Prop}(i:Nat)(hi:hs[i]? =some (Qg sz c F0 T p cap l))(j:F0<=F)(C:Nat.blt d n=true)(E:∀w,(isAgg t).run P w= .ok false w)
  (G:p=some ⟨b,0,none⟩) (s:ZI l x=some z) (H:QS S ox=some (.pointer<|some ⟨b,o,none⟩)) (I:o=0+x.toNat*sz+off)
  (K:∀vs,c F z vs->∃v,vs[off]? =some v/\Φ v) (k:∀v,Φ v->GL μ P eX rest ks Q (Hd n D ((d,v)::S) F hs) m r):GL μ P eX (⟨some d,.load t ox,ty,pos,after,none⟩::rest) ks Q (Hd n D S F hs) m r:=by
 refine GG.aL rfl rfl λL a w h=> ?_;obtain⟨b',cs,g,A,B,f,q,_⟩:=kD (h.2.pull hi) (Xv s).2.2;rw[G] at g;cases g
 obtain⟨v,M,hΦ⟩:=K _<|f _ _ (Xv s).2.2 F j;refine⟨v,?_,k v hΦ L _ _ ⟨h.1.put C _,h.2⟩⟩;have N:cs[o]? =some v:=by subst I;rw[s5];exact QF rfl M
 simp[execOp,h.1.eval H,BH E (by rw[cell_of_heap q.owned];exact N)]
theorem GG.pB{off f:Nat}{Φ:Q0 K2->Prop}(i:Nat)(hi:hs[i]? =some (Qg sz c F0 T p cap l))(q:F0<=F)(H:Nat.blt d n=true)(I:∀w,(isAgg t).run P w= .ok true w)(K:∀w,(sizeOf t).run P w= .ok f w)
  (L:p=some ⟨b,0,none⟩) (C:ZI l x=some z) (M:QS S ox=some (.pointer<|some ⟨b,o,none⟩)) (N:o=0+x.toNat*sz+off) (s:Nat.ble (off+f) sz=true)
  (R:∀vs,c F z vs->∃us,(vs.drop off).take f=us/\us.length=f/\Φ us) (k:∀us,Φ us->GL μ P eX rest ks Q (Hd n D ((d,.agg us.toArray)::S) F hs) m r):GL μ P eX (⟨some d,.load t ox,ty,pos,after,none⟩::rest) ks Q (Hd n D S F hs) m r:=by
 refine GG.aL rfl rfl λV a w j=> ?_;obtain⟨b',cs,h,E,G,g,A,_⟩:=kD (j.2.pull hi) (Xv C).2.2;rw[L] at h;cases h
 obtain⟨us,W,B,hΦ⟩:=R _<|g _ _ (Xv C).2.2 F q;refine⟨.agg us.toArray,?_,k us hΦ V _ _ ⟨j.1.put H _,j.2⟩⟩;have X:(cs.drop o).take f=us:=by subst N;rw[s5];exact OT rfl W s
 simp[execOp,j.1.eval M,BG I K A.owned X B]
end
end
section
variable{K:Type}{l:Q0 (K×V)}{es:Q0 ta}{kt t vt:S2}
def Qq[BEq K]:Q0 (K×V)->K->V->Q0 (K×V)
 | [],k,v=>[(k,v)]
 | x::l,k,v=>if k==x.1 then(k,v)::l else x::Qq l k v
def QZ[BEq K]:Q0 (K×V)->K->Q2 V
 | [],_=>none
 | x::l,k=>if k==x.1 then some x.2 else QZ l k
def Uw(ck:K->K2)(rv:Fz->V->K2->Prop)(F:Fz):Q0 ta->Q0 (K×V)->Prop
 | [],[]=>True
 | e::es,x::l=>e.key=ck x.1/\(∀a,F<=a->rv a x.2 e.val)/\Uw ck rv F es l
 | _,_=>False
structure HL(P:Program)(t:TypeId){K:Type}[BEq K](ck:K->Value):Prop where
 und:∃kd,P.underlying t=some kd/\∀a b:K,Instr.sameNow kd (ck a) (ck b)=some (a==b)
 check:∀e k w,(Instr.checkKey e 10000 t<|ck k).run P w= .ok () w
 same:∀a:K,Instr.sameBits 10000 (ck a) (ck a)=true
 eq:∀a b:K,(a==b)=true->a=b
section
variable{K:Type}[BEq K]{ck:K->K2}
omit [BEq K] in
theorem Uw.up:∀{es:Q0 ta} {l:Q0 (K×V)},F<=F'->Uw ck rv F es l->Uw ck rv F' es l
 | [],[],_,_=>trivial
 | _::_,_::_,le,⟨d,e,f⟩=>⟨d,λG a=>e G<|Fz.le_trans le a,f.up le⟩
omit [BEq K] in
theorem Uw.len:∀{es:Q0 ta} {l:Q0 (K×V)},Uw ck rv F es l->es.length=l.length
 | [],[],_=>rfl
 | _::_,_::_,⟨_,_,a⟩=>by simp[a.len]
theorem Uw.find{kd:qAg}{k:K}(r:∀a b,Instr.sameNow kd (ck a) (ck b)=some (a==b))(heq:∀a b:K,(a==b)=true->a=b):∀{es:Q0 ta} {l:Q0 (K×V)} (h:Nat),Uw ck rv F es l->
   (QZ l k=none/\Instr.findNow kd (ck k) es h=some none/\∀v i,i.key=ck k->(∀F',F<=F'->rv F' v i.val)->Uw ck rv F (es++[i]) (Qq l k v))∨
   (∃j e x,es[j]? =some e/\e.key=ck k/\QZ l k=some x/\Instr.findNow kd (ck k) es h=some (some (h+j,e.val))/\(∀F',F<=F'->rv F' x e.val)/\
    ∀v f,(f e).key=ck k->(∀F',F<=F'->rv F' v (f e).val)->Uw ck rv F (es.modify j f) (Qq l k v))
 | [],[],h,_=>.inl ⟨rfl,rfl,λv i g m=>⟨g,m,trivial⟩⟩
 | e::es,x::l,h,⟨g,m,z⟩=>by
  by_cases n:(k==x.1)=true
  .right;refine⟨0,e,x.2,rfl,?_,by simp[QZ,n],?_,m,?_⟩
   .rw[g,heq _ _ n]
   .simp[Instr.findNow,g,r,n]
   .intro v f o q;simp only[Qq,n,B1,List.modify_zero_cons];exact⟨o,q,z⟩
  .have d:(k==x.1)=false:=by simpa using n
   rcases Uw.find (k:=k) r heq (h+1) z with⟨o,q,s⟩ | ⟨j,A,B,o,q,s,C,D,E⟩
   .left;refine⟨by simp[QZ,d,o],by simp[Instr.findNow,g,r,d,q],λv i u y=> ?_⟩;simp only[Qq,d,W1,Bm,r7];exact⟨g,m,s v i u y⟩
   .right;refine⟨j+1,A,B,by simpa using o,q,by simp[QZ,d,s],?_,D,λv f u y=> ?_⟩
    .simp[Instr.findNow,g,r,d,C];omega
    .simp only[Qq,d,W1,Bm,List.modify_succ_cons];exact⟨g,m,E v f u y⟩
def Ye(es:Q0 ta)(clock:Nat):Prop:=(es.map (·.born)).Pairwise (·< ·)/\∀e∈es,e.born < clock
theorem Ye.nil{c:Nat}:Ye [] c:=⟨List.Pairwise.nil,λ_ h=>by cases h⟩
theorem Ye.push{c:Nat}{k:K2}(h:Ye es c):Ye (es++[{key:=k,val:=v,born:=c}]) (c+1):=by
 refine⟨?_,λe he=> ?_⟩
 .rw[List.map_append,qAh];refine⟨h.1,by simp,λa f b d=> ?_⟩;simp only[Of,qAx,ts] at d
  obtain⟨e,he,rfl⟩:=lX.1 f;subst d;exact h.2 e he
 .rcases mb.1 he with he | he
  .have:=h.2 e he;omega
  .simp only[ts] at he;subst he;exact Nat.lt_succ_self _
theorem Ye.modify{c:Nat}{f:ta->ta}(h:Ye es c)(i:∀e,(f e).born=e.born):Ye (es.modify j f) c:=by
 have d:∀(es:Q0 ta) (j:Nat),(es.modify j f).map (·.born)=es.map (·.born):=λes=>by
  induction es with
  | nil=>intro j;simp
  | cons e es k=>
   intro j;cases j with
   | zero=>simp[i]
   | succ j=>simp[k]
 refine⟨by rw[d];exact h.1,λe he=> ?_⟩;have g:e.born∈(es.modify j f).map (·.born):=wt he;rw[d] at g
 obtain⟨m,a,n⟩:=lX.1 g;rw[<-n];exact h.2 m a
theorem Ye.erase{c:Nat}(h:Ye es c):Ye (es.eraseIdx j) c:=⟨h.1.sublist<|(List.eraseIdx_sublist es j).map _,λe he=>h.2 e<|List.mem_of_mem_eraseIdx he⟩
def Gx(ck:K->K2)(rv:Fz->V->K2->Prop)(F:Fz)(b:Nat)(l:Q0 (K×V)):HP:=λm=>∃es clock,pt b (.map es clock) m/\Uw ck rv F es.toList l/\Ye es.toList clock
omit [BEq K] in
theorem ya{l:Q0 (K×V)}{m:Mem}(le:F<=F')(h:Gx ck rv F b l m):Gx ck rv F' b l m:=by
 obtain⟨es,c,a,d,e⟩:=h;exact⟨es,c,a,d.up le,e⟩
omit [BEq K] in
theorem Oq{l:Q0 (K×V)}(h:SH w F (star (Gx ck rv F0 b l) H)):∃es clock,w.heap[b]? =some (.map es clock)/\Uw ck rv F0 es.toList l/\SH w F (star (pt b<|.map es clock) H)/\Ye es.toList clock:=by
 obtain⟨m,⟨a,e,d,f,g,⟨es,c,i,n,o⟩,q⟩,k⟩:=h;have hs:SH w F (star (pt b<|.map es c) H):=⟨m,⟨a,e,d,f,g,i,q⟩,k⟩;exact⟨es,c,hs.owned,n,hs,o⟩
end
theorem Yf{r:Nat}{es:C3 ta}(a:w.heap[r]? =some (.map es clock)):(getObj r).run P w= .ok (.map es clock) w:=by
 simp[getObj,Sem.run,a]
theorem Ft{r:Nat}{es:C3 ta}(a:w.heap[r]? =some (.map es clock)):(setObj r o').run P w= .ok () (put w r o'):=by
 simp[setObj,Sem.run,put,a]
theorem run_findKey{k:K2}{kd:qAg}{q:Q2 (Nat×K2)}(a:P.underlying kt=some kd)(h:Instr.findNow kd k es 0=some q):(Instr.findKey kt k es).run P w= .ok q w:=by
 simp[Instr.findKey,YU a,h]
section
variable{t e:S2}
variable{K:Type}{ck:K->K2}
theorem GG.makeMap(ck:K->K2)(rv:Fz->V->K2->Prop)(i:Nat.blt d n=true)(k:∀b,GL O P eX rest ks Q (Hd n D ((d,.map<|some b)::S) F<|Gx ck rv F b []::hs) m r):GL O P eX (⟨some d,.makeMap t none,ty,pos,after,none⟩::rest) ks Q (Hd n D S F hs) m r:=by
 refine GG.step rfl (.inr rfl) λf a w h=> ?_;have o:=h.2.alloc<|.map #[] 0;refine⟨_,w.alloc<|.map #[] 0,?_,k w.heap.size f _ _ ⟨h.1.put i _,o.mono λm f=>QR (λq g=>⟨#[],0,g,trivial,Ye.nil⟩) f⟩⟩;simp[execOp,Instr.makeMap]
theorem GG.nu{l:Q0 (K×V)}(i:Nat)(hi:hs[i]? =some (Gx ck rv F0 b l))(g:Nat.blt d n=true)(h:T[0]? =some t)(o:P.underlying t=some (.map kt vt))(q:QS S ox=some (.map<|some b))
  (k:GL μ P eX rest ks Q (Hd n D ((d,.int .i64 l.length)::S) F hs) m r):GL μ P eX (⟨some d,.call ⟨.builtin .len,#[ox],T⟩,ty,pos,after,none⟩::rest) ks Q (Hd n D S F hs) m r:=
 GG.val g (λa w f=>by
  obtain⟨es,c,s,z,_⟩:=Oq<|f.2.pull hi;have:es.size=l.length:=by rw[<-z.len];simp
  simp[execOp,resolve,invoke,builtin,Builtin.len_,f.1.eval q,h,YU o,goInt,Yf s,this]) k
variable[BEq K]
theorem GG.mapUpdate{l:Q0 (K×V)}{key:K}{val:V}{h:K2}(i:Nat)(hi:hs[i]? =some (Gx ck rv F0 b l))(E:F0<=F)(L:P.underlying t=some (.map kt vt))(ok:HL P kt ck)(M:QS S ox=some (.map<|some b))(N:QS S oy=some (ck key))(R:QS S oz=some h)(W:∀X,F<=X->rv X val h)
  (k:GL O P eX rest ks Q (Hd n D S F<|hs.set i<|Gx ck rv F b<|Qq l key val) m r):GL O P eX (⟨none,.mapUpdate t ox oy oz,ty,pos,after,none⟩::rest) ks Q (Hd n D S F hs) m r:=by
 refine GG.tF rfl (.inr rfl) λs a w g=> ?_;obtain⟨es,c,B,hr,z,A⟩:=Oq<|g.2.pull hi;obtain⟨kd,Y,o⟩:=ok.und;rcases(hr.up E).find (k:=key) o ok.eq 0 with⟨Z,G,g3⟩ | ⟨j,e1,x1,Z,G,g3,g4,g5,g6⟩
 .refine⟨put w b<|.map (es.push {key:=ck key,val:=h,born:=c})<|c+1,?_,k s _ _ ⟨g.1.sb _,SH.push hi<|z.put.mono λm s=>QR (λm' q=>⟨_,_,q,by simpa using g3 val {key:=ck key,val:=h,born:=c} rfl W,by simpa using A.push⟩) s⟩⟩;have C:=run_findKey (w:=w) Y G;simp[execOp,Instr.mapUpdate,g.1.eval M,g.1.eval N,g.1.eval R,YU L,Yf B,ok.check,C,Ft B]
 .refine⟨put w b<|.map (es.modify j λe=>{e with key:=ck key,val:=h}) c,?_,k s _ _ ⟨g.1.sb _,SH.push hi<|z.put.mono λm s=>QR (λm' q=>⟨_,_,q,by simpa using g6 val (λe=>{e with key:=ck key,val:=h}) rfl W,by simpa using A.modify (j:=j) (f:=λe=>{e with key:=ck key,val:=h}) λ_=>rfl⟩) s⟩⟩;have C:=run_findKey (w:=w) Y g4;rw[s5] at C
  have H:es[j]? =some e1:=by simpa using Z
  have I:=ok.same key;simp[execOp,Instr.mapUpdate,g.1.eval M,g.1.eval N,g.1.eval R,YU L,Yf B,ok.check,C,Ft B,H,G,Instr.keyThatStays,I]
theorem GG.pQ{l l' :Q0 (K×V)}{key:K}{val:V}{f:K2}(i:Nat)(hi:hs[i]? =some (Gx ck rv F0 b l))(a:F0<=F)(h:P.underlying t=some (.map kt vt))(ok:HL P kt ck)(o:QS S ox=some (.map<|some b))(q:QS S oy=some (ck key))(s:QS S oz=some f)(z:∀g,F<=g->rv g val f)(he:l' =Qq l key val)
  (k:GL O P eX rest ks Q (Hd n D S F<|hs.set i<|Gx ck rv F b l') m r):GL O P eX (⟨none,.mapUpdate t ox oy oz,ty,pos,after,none⟩::rest) ks Q (Hd n D S F hs) m r:=by
 subst he;exact GG.mapUpdate i hi a h ok o q s z k
theorem fW{a:lO}{e:Bool}(f:P.underlying t=some (.int kd))(n:Nat):(Instr.checkKey e (n+1) t<|.int a x).run P w= .ok () w:=by
 simp[Instr.checkKey,YU f]
theorem gx(n:Nat):Instr.sameBits n (.int kd x) (.int kd x)=true:=by
 cases n<;>simp[Instr.sameBits]
theorem HL.int(f:P.underlying t=some (.int kd)):HL P t (λx:Int=>Value.int kd x) where
 und:=⟨_,f,λa b=>by simp[Instr.sameNow]⟩
 check e k w:=fW f 9999
 same a:=gx 10000
 eq a b h:=by simpa using h
def fH(len cap:Int):Q2 Nat:=if 0<=len/\len<=cap/\cap<=4294967296 then some len.toNat else none
theorem jy(h:zero.size=sz)(hi:i < cap):((((Array.range<|cap*sz).map λj=>zero[j%zero.size]!).toList.drop<|i*sz).take sz)=zero.toList:=by
 have a:i*sz+sz<=cap*sz:=by
  have:=oQ sz<|show i+1<=cap from hi;rw[lu,Nat.one_mul] at this;exact this
 apply lM;intro j;by_cases f:j < sz
 .rw[If,DO f,lY];have k:i*sz+j < cap*sz:=by omega
  have o:(i*sz+j)%sz=j:=by rw[Nat.add_comm,Nat.add_mul_mod_self_right,Nat.mod_eq_of_lt f]
  have g:j < zero.size:=by omega
  simp[k,h,o];rw[getElem!_pos zero j g];simp[g]
 .rw[If,Do f,lZ ia]
theorem Jm.lI{z:α}{k:Nat}(g:zero.size=sz)(h:k<=cap)(o:∀a,F<=a->c a z zero.toList):Jm sz c F (List.replicate k z) ((Array.range<|cap*sz).map λj=>zero[j%zero.size]!).toList:=λi x f a le=>by
 have hi:=Zz f;simp only[qAc] at hi
 rw[List.getElem?_replicate,DO hi] at f;cases f
 rw[jy g hQ];exact o a le
theorem GG.makeSlice{z:α}{i:K2}{s:lO}{f:Nat->Q2 β}(E:Uo P e sz c)(hd:Nat.blt d n=true)(ht:P.underlying t=some (.slice e))(I:∀w,(zeroValue e).run P w= .ok i w)(A:∀Z,F<=Z->c Z z i.cells.toList)(hx:QS S ox=some (.int kd x))(hy:QS S oy=some (.int s y))
  (k:∀len b,fH x y=some len->GL O P eX rest ks Q (Hd n D ((d,.slice (some ⟨b,0,none⟩) (List.replicate len z).length y.toNat)::S) F<|Qg sz c F e (some ⟨b,0,none⟩) y.toNat (List.replicate len z)::hs) (f len) r):GL O P eX (⟨some d,.makeSlice t ox oy,ty,pos,after,none⟩::rest) ks Q (Hd n D S F hs) ((fH x y).bind f) r:=by
 refine GG.bind λlen g=> ?_;have hk:=λb=>k len b g;unfold fH at g
 split at g
 .rename_i hb;cases g;refine GG.step rfl (.inr rfl) λL a w G=> ?_;obtain⟨H,M,aG,aH⟩:=E.info
  have N:i.cells.size=sz:=by
   have:=E.len _ _ _<|A F<|Fz.le_refl F;simpa using this
  have R:=G.2.alloc<|.cells ((Array.range<|y.toNat*sz).map λj=>i.cells[j%i.cells.size]!) e;refine⟨_,w.alloc<|.cells ((Array.range<|y.toNat*sz).map λj=>i.cells[j%i.cells.size]!) e,?_,hk w.heap.size L _ _ ⟨G.1.put hd _,R.mono λm L=>QR (λm' W=>⟨by simp;omega,by omega,.inr ⟨_,((Array.range<|y.toNat*sz).map λj=>i.cells[j%i.cells.size]!).toList,rfl,by(have B:pt _ _ m' :=W;unfold pt at B ⊢;rw[B]),by simp,Jm.lI N hQ A⟩⟩) L⟩⟩;have X:IntKind.i64.wrap x=x:=by simp[IntKind.wrap,IntKind.bits,IntKind.signed];omega
  have Y:IntKind.i64.wrap y=y:=by simp[IntKind.wrap,IntKind.bits,IntKind.signed];omega
  have aJ:(H.bytes:Int)*y<=2^48:=by
   have R:(H.bytes:Int)<=4096:=by omega
   have h2:(H.bytes:Int)*y<=4096*y:=qAB R hQ;omega
  have o:¬y < 0:=by omega
  have h:¬x < 0:=by omega
  have C:¬x > y:=by omega
  have q:¬(281474976710656:Int) < (H.bytes:Int)*y:=by omega
  have i1:∀w:By,(asInt<|.int kd x).run P w= .ok x w:=λw=>by simp[asInt,asIntOf]
  have i2:∀w:By,(asInt<|.int s y).run P w= .ok y w:=λw=>by simp[asInt,asIntOf]
  simp only[execOp,G.1.eval hx,G.1.eval hy,Instr.makeSlice,y1,YU ht,Result.andThen,i1,i2,M,X,Y];by_cases hn:y.toNat*sz=0
  .simp[o,h,C,q,E.size,hn,newRow,askRoom];rw[show Array.range 0=#[] from rfl];simp
  .simp[o,h,C,q,E.size,hn,I,newRow,askRoom]
 .cases g
theorem QI.isNil{l:Q0 α}(h:QI sz c F none cap l):l=[]:=by
 rcases h.2.2 with h | ⟨_,_,_,_,_,h,_⟩
 .exact h
 .cases h
theorem eq_nil{len:Nat}(a:P.underlying t=some (.slice e))(n:Nat):(Op.equalIn (n+1) t (.slice p len cap)<|.slice none 0 0).run P w= .ok p.isNone w:=by
 cases p<;>simp[Op.equalIn,YU a]
theorem GG.tK{len:Nat}(g:Nat.blt d n=true)(h:P.underlying t=some (.slice e))(i:QS S ox=some (.slice p len cap))(o:QS S oy=some (.slice none 0 0))(k:GL μ P eX rest ks Q (Hd n D ((d,.bool p.isNone)::S) F hs) m r):GL μ P eX (⟨some d,.binOp .eql t ox oy t',ty,pos,after,none⟩::rest) ks Q (Hd n D S F hs) m r:=
 GG.val g (λa w f=>by
  have q:(Op.equal t (.slice p len cap)<|.slice none 0 0).run P w= .ok p.isNone w:=eq_nil h 9999;have s:P.eqGuardType P.depth t=false∨P.eqGuardType P.depth t=true:=by cases P.eqGuardType P.depth t<;>simp
  simp[execOp,f.1.eval i,f.1.eval o,eqGuard,binOp,q]) k
theorem GG.mg{len:Nat}(f:Nat.blt d n=true)(g:T[0]? =some t)(h:P.underlying t=some (.slice e))(i:QS S ox=some (.slice p len cap))(k:GL μ P eX rest ks Q (Hd n D ((d,.int .i64 cap)::S) F hs) m r):GL μ P eX (⟨some d,.call ⟨.builtin .cap,#[ox],T⟩,ty,pos,after,none⟩::rest) ks Q (Hd n D S F hs) m r:=GG.val f (λa w o=>by simp[execOp,resolve,invoke,builtin,Builtin.cap_,o.1.eval i,g,YU h,goInt]) k
def Cs(P:B2)(f:Nm)(args:C3 K2)(F:Fz)(m:Q2 (Q0 α))(sz:Nat)(c:Up α)(T:S2):Prop:=∀r,m=some r->∀w R,SH w F R->Calls P f args w (λe w' =>∃a p k,F<=a/\e= .returned (.slice p r.length k)/\SH w' a (star (Qg sz c a T p k r) R))
def jd(P:B2)(fn:oW)(F:Fz)(R:HP)(sz:Nat)(c:Up α)(T:S2)(r:Q0 α):s6->Act->By->Prop:=bodyPost P fn (λe w' =>∃a p k,F<=a/\e= .returned (.slice p r.length k)/\SH w' a (star (Qg sz c a T p k r) R))
theorem Cs.enter{f:Nm}{a:oZ}{m:Q2 (Q0 α)}{T:S2}
  (g:P.funcs[f]? =some fn) (h:fn.body=some a) (i:fn.ntmps=n) (o:Nat.ble args.length n=true)
  (k:∀r R,GC none P a [] (jd P fn F R sz c T r) (Hd n [] (D4 0 args) F [R]) m r):Cs P f args.toArray F m sz c T:=by
 intro r q w R s;refine qAR g h<|qAj.1<|k r R q _ w ⟨?_,s.one⟩;rw[i];exact WC o
theorem GG.pK{R:HP}{f:Fz}{t:Nat}{x r:Q0 α}{T:S2}(q:fn.results=#[.tmp t])(h:JC S t=some (.slice p x.length cap))(hi:hs[i]? =some (Qg sz c F0 T p cap x))(k:F0<=f)(s:(hs.eraseIdx i)[j]? =some R)(le:F<=f):GC O P .ret ks (jd P fn F R sz c T r) (Hd n [] S f hs) (some x) r:=GG.sR λe a w o=>by
 simp only[UV] at e
 subst e;have g:S5 P S f hs [.tmp t] [.slice p x.length cap]:=.tmp h .nil;exact⟨o.1.2.1,_,Jn (rs:=[.tmp t]) q o g,f,p,cap,le,rfl,(SH.pe hi s o.2).mono λm z=>QR (λ_=>WD k) z⟩
theorem GG.nZ{f:Nm}{of:OF}{o:Q2 (Q0 α)}{g:Q0 α->Q2 β}{z:S2}(A:Nat.blt d n=true)
  (h:∀args w,(callFunc f args).run P w= .ok (.enter f args) w) (B:QS S of=some (.func (.func f) #[] eY.toArray)) (C:Un S os=some vs) (has:vs++eY=as)
  (E:Cs P f as.toArray F o sz c z) (k:∀x i p cap,o=some x->F<=i->GL O P eX rest ks Q (Hd n D ((d,.slice p x.length cap)::S) i<|Qg sz c i z p cap x::hs) (g x) r):GL O P eX (⟨some d,.call ⟨.value of,os.toArray,T⟩,ty,pos,after,none⟩::rest) ks Q (Hd n D S F hs) (o.bind g) r:=
 GG.aV rfl (.inr rfl) λq a w s=>by
  rw[<-has] at E;refine⟨W7 s.1 h B C,?_⟩;cases he:o with
  | none=>rw[he] at q;cases q
  | some y=>
   rw[he] at q
   refine(E y he w _ s.2).mono ?_;rintro _ w' ⟨i,p,cap,le,rfl,G⟩;exact⟨_,rfl,k y i p cap he le q _ _ ⟨s.1.put A _,G⟩⟩
def Eh(y:Int):Q2 Nat:=if 0 < y/\y<=4294967296 then some y.toNat else none
theorem GG.nG{z:α}{f:Nat->Q2 β}{aA:lO}{l:Q0 α}(i:Nat)(E:Uo P e sz c)(hd:Nat.blt d n=true)(ht:P.underlying t=some (.slice e))(aB:P.underlying e2=some (.int aA))(aC:T[0]? =some t)(aD:T[1]? =some e2)(aE:∀w,(zeroValue e).run P w= .ok h w)(M:∀F',F<=F'->c F' z h.cells.toList)
  (hi:hs[i]? =some (Qg sz c F0 e none 0 l)) (hx:QS S ox=some (.slice none 0 0)) (hy:QS S oy=some (.int kd y))
  (k:∀len b cap,Eh y=some len->GL O P eX rest ks Q (Hd n D ((d,.slice (some ⟨b,0,none⟩) (List.replicate len z).length cap)::S) F<|hs.set i<|Qg sz c F e (some ⟨b,0,none⟩) cap<|List.replicate len z) (f len) r):GL O P eX (⟨some d,.call ⟨.builtin .append,#[ox,oy],T⟩,ty,pos,after,none⟩::rest) ks Q (Hd n D S F hs) ((Eh y).bind f) r:=by
 refine GG.bind λlen g=> ?_;have hk:=λb cap=>k len b cap g;unfold Eh at g
 split at g
 .rename_i hb;cases g;refine GG.step rfl (.inr rfl) λhm a w Z=> ?_;obtain⟨N,aG,aX,aH⟩:=E.info
  have A:h.cells.size=sz:=by
   have:=E.len _ _ _<|M F<|Fz.le_refl F;simpa using this
  generalize G:Question.appendCap y.toNat 0 e=q
  have o:y.toNat<=q.cut (w.tape w.drawn q)/\q.cut (w.tape w.drawn q)<=9223372036854775807:=by
   rw[<-G];have:=qAo (w.tape w.drawn<|Question.appendCap y.toNat 0 e) (show 0 < 2^63 - y.toNat by omega);simp only[Question.cut];omega
  have s:q.forced=false:=by rw[<-G];rfl
  generalize hC:q.cut (w.tape w.drawn q)=C at o
  have aI:SH w F (Qk<|hs.eraseIdx i):=Z.2.se i;have H:SH {w with drawn:=w.drawn+1} F (Qk<|hs.eraseIdx i):=aI.drew _;have B:=H.alloc<|.cells (Builtin.zeroCells h.cells y.toNat++Builtin.zeroCells h.cells (C - y.toNat)) e;have I:∀k,(Builtin.zeroCells h.cells k).size=k*sz:=λk=>by simp[Builtin.zeroCells,A]
  have aJ:IntKind.i64.wrap y=y:=by simp[IntKind.wrap,IntKind.bits,IntKind.signed];omega
  refine⟨.slice (some ⟨w.heap.size,0,none⟩) y.toNat C,({w with drawn:=w.drawn+1}:By).alloc<|.cells (Builtin.zeroCells h.cells y.toNat++Builtin.zeroCells h.cells (C - y.toNat)) e,?_,?_⟩
  rotate_left
  .have R:=hk w.heap.size C;rw[qAc] at R
   refine R hm _ _ ⟨Z.1.put hd _,SH.push hi<|B.mono λm hm=>QR (λm' aK=>⟨by rw[qAc];exact o.1,o.2,.inr ⟨w.heap.size,(Builtin.zeroCells h.cells y.toNat++Builtin.zeroCells h.cells (C - y.toNat)).toList,rfl,?_,?_,?_⟩⟩) hm⟩
   ·(have W:pt _ _ m' :=aK;unfold pt at W ⊢;rw[W])
   .simp only[o0,qA1,I,<-lu];congr 1;omega
   .have hp:Jm sz c F (List.replicate y.toNat z) (Builtin.zeroCells h.cells y.toNat).toList:=by
     unfold Builtin.zeroCells;rw[A];have:=Jm.lI (cap:=y.toNat) (k:=y.toNat) A (So _) M;rw[A] at this;exact this
    have:=hp.th (us2:=(Builtin.zeroCells h.cells<|C - y.toNat).toList) (by simp[I]);simpa using this
  .have X:¬y < 0:=by omega
   have aL:¬(281474976710656:Int) < y*N.bytes:=by
    have h1:(N.bytes:Int)<=4096:=by omega
    have h2:y*(N.bytes:Int)<=y*4096:=lk h1 hQ;omega
   have hn:GZ y.toNat 0 N.bytes:=SQ hQ hQ aH;unfold GZ at hn
   have aM:¬(281474976710656:Nat) < Builtin.nextslicecap y.toNat 0*N.bytes:=by omega
   have aP:¬y.toNat=0:=by omega
   have aQ:¬((y.toNat:Nat):Int) > IntKind.i64.max:=by simp[IntKind.max,IntKind.bits,IntKind.signed];omega
   have i2:∀w:By,(asInt<|.int kd y).run P w= .ok y w:=λw=>by simp[asInt,asIntOf]
   have af:¬(y.toNat<=0):=by omega
   simp only[execOp,resolve,invoke,builtin,List.map_toArray,Of,qAx,Z.1.eval hx,Z.1.eval hy];simp only[Builtin.append_];simp[aC,aD,YU ht,YU aB,E.size,i2,aJ,X,aG,aL,aM,G,s,hC,aE,newRow,Builtin.firstCells,askRoom];have q1:¬y<=0:=by omega
   have q2:¬(9223372036854775807:Int) < max y 0:=by omega
   rw[Do q1,Do q2];by_cases L:y.toNat*sz=0
   .have Y:Builtin.zeroCells h.cells y.toNat=#[]:=qA6 (by rw[I];exact L);rw[DO L,Y,Array.empty_append]
   .rw[Do L]
 .cases g
theorem GG.mT{T:S2}{l:Q0 α}{f:Q0 α->Q2 β}(i:Nat)(M:Nat.blt d n=true)(N:P.underlying t=some (.slice e))(R:∀w,(sizeOf e).run P w= .ok sz w)
  (hi:hs[i]? =some (Qg sz c F0 T p cap l)) (W:QS S ox=some (.slice p l.length cap)) (s:QS S oy=some (.int kd x))
  (k:∀l' p',Zc l 0 x=some l'->GL O P eX rest ks Q (Hd n D ((d,.slice p' l'.length cap)::S) F<|hs.set i<|Qg sz c F0 T p' cap l') (f l') r):GL O P eX (⟨some d,.slice t ox none (some oy) none,ty,pos,after,none⟩::rest) ks Q (Hd n D S F hs) ((Zc l 0 x).bind f) r:=by
 refine GG.bind λl' o=> ?_;have A:=o;unfold Zc at o
 split at o
 .rename_i h;simp only[UV,qAi,qAK,qAX] at o
  have g:l'.length=x.toNat:=by rw[<-o];simp;omega
  refine GG.step rfl (.inr rfl) λB a w z=> ?_
  have I:l.length<=cap:=by
   obtain⟨_,⟨_,_,_,_,_,⟨L,_,_⟩,_⟩,_⟩:=z.2.pull hi;exact L
  refine⟨.slice (if cap=0 then p else p.map (·.add (0*sz))) x.toNat cap,w,?_,?_⟩
  .simp only[execOp,z.1.eval W,z.1.eval s,RK,oY,y1];rw[Tw N R hQ];rfl
  .have C:=k l' (if cap=0 then p else p.map (·.add (0*sz))) A;rw[g] at C
   have X:(if cap=0 then p else p.map (·.add (0*sz)))=p:=by
    split
    .rfl
    .cases p with
     | none=>rfl
     | some q=>simp[Addr.add]
   rw[X] at C ⊢
   refine C B _ _ ⟨z.1.put M _,SH.push hi<|(z.2.pull hi).mono λm B=>QR (λm' E=> ?_) B⟩;obtain⟨L,Y,G⟩:=E;refine⟨by rw[g];omega,Y,?_⟩;rcases G with G | ⟨b,cs,Z,hb,H,hp⟩
   .exact .inl G
   .exact .inr ⟨b,cs,Z,hb,H,λj y s F' le=>hp j y (by
     rw[<-o,If] at s
     split at s
     .exact s
     .cases s) F' le⟩
 .cases o
end
end
section
variable{l:Q0 L0}{t e:S2}{q:Fz->Prop}
structure Env where
 a:Nat->Option Addr
 n:Nat->Nat
 c:Nat->List Value
 f:Nat->Fz
 o:Nat->Option Nat
variable{C:(Nat->Bool)->Env->Q0 HP}{env:Env}
abbrev XE:Type:=K2×(Fz->Prop)
variable{X:Env->Q0 XE}
def De:Q0 Bool->Q0 α->Q0 (Q2 α)
 | b::bs,x::xs=>(bif b then some x else none)::De bs xs
 | _,_=>[]
theorem AJ:∀{M:Q0 Bool} {x y:Q0 α} {j:Nat} {q:α},De M x=De M y->M[j]? =some true->x[j]? =some q->y[j]? =some q
 | [],_,_,j,_,_,h,_=>by simp at h
 | b::M,[],_,j,_,_,_,h=>by simp at h
 | b::M,x::xs,[],j,_,h,_,_=>by simp[De] at h
 | b::M,x::xs,y::g,0,q,h,a,f=>by
  simp at a f;subst a f
  simp only[De,cond_true,oA,UV] at h
  simp[h.1]
 | b::M,x::xs,y::g,j+1,q,h,a,f=>by
  simp only[De,oA] at h
  have:=AJ (j:=j) (q:=q) h.2 (by simpa using a) (by simpa using f);simpa using this
def HE(l:Q0 L0):Nat->Nat->Nat->Bool
 | 0,_,_=>false
 | k+1,i,j=>match l[i]? with
  | none=>false
  | some o=>o.after.toList.any λe=>Region.binds .any e&&(Nat.beq e.on j||HE l k e.on j)
def Down(l:Q0 L0)(L:Nat->Bool):Prop:=∀i o,l[i]? =some o->L i=true->∀e∈o.after,Region.binds .any e=true->L e.on=true
theorem Xh(m:Down l L):∀{k i j:Nat},HE l k i j=true->(∀o,l[i]? =some o->∀e∈o.after,Region.binds .any e=true->L e.on=true)->L j=true
 | 0,i,j,h,_=>by simp[HE] at h
 | k+1,i,j,h,hi=>by
  simp only[HE] at h
  split at h
  .cases h
  .rename_i o r;simp only[lT,BY,mx] at h
   obtain⟨e,he,s,h⟩:=h;have a:=hi o r e (by simpa using he) s;rcases h with h | h
   .rw[<-yb h];exact a
   .exact Xh m h λo' b u f g=>m e.on o' b a u f g
def Sd(l:Q0 L0)(i:Nat):Nat->Q0 Bool->Q0 Bool->Bool
 | _,_,[]=>true
 | j,M,b::bs=>(b||Nat.beq j i||(match l[j]? with
  | none=>false
  | some o=>o.after.toList.any λe=>Region.binds .any e&&(Nat.beq e.on i||(Nat.blt e.on j&&(M[e.on]?).getD true==false))))&&Sd l i (j+1) M bs
theorem Mo{M:Q0 Bool}:∀{bs:Q0 Bool} {a:Nat},Sd l i a M bs=true->∀t,bs[t]? =some false->a+t=i∨∃o e,l[a+t]? =some o/\e∈o.after/\Region.binds .any e=true/\(e.on=i∨(e.on < a+t/\M[e.on]? =some false))
 | [],_,_,t,h=>by simp at h
 | b::bs,a,f,0,h=>by
  simp at h;subst h
  simp only[Sd,oS,BY,mx] at f
  rcases f.1 with h | h
  .exact .inl<|yb h
  .right;split at h
   .cases h
   .rename_i o m;simp only[lT,BY,mx] at h
    obtain⟨e,he,j,h⟩:=h;refine⟨o,e,m,by simpa using he,j,?_⟩;rcases h with h | ⟨r,g⟩
    .exact .inl<|yb h
    .refine .inr ⟨AC r,?_⟩;cases k:M[e.on]? with
     | none=>rw[k] at g;simp at g
     | some b=>rw[k] at g;simp at g;rw[g]
 | b::bs,a,f,t+1,h=>by
  simp only[Sd,BY] at f
  have:=Mo f.2 t<|by simpa using h
  rwa[show a+1+t=a+(t+1) by omega] at this
theorem Ps(m:Down l L)(hi:L i=false)(r:Sd l i 0 M M=true):∀(j:Nat),L j=true->j < M.length->M[j]? =some true:=λj=>by
 induction j using Nat.strongRecOn with
 | ind j s=>
  intro g u;cases k:M[j]? with
  | none=>rw[qAO] at k;omega
  | some b=>
   cases b with
   | true=>rfl
   | false=>
    exfalso;have:=Mo r j k;rw[s5] at this
    rcases this with rfl | ⟨o,e,y,he,z,h⟩
    .rw[hi] at g;cases g
    .have a:=m j o y g e he z;rcases h with h | ⟨f,h⟩
     .rw[h,hi] at a;cases a
     .have:=s e.on f a<|Zz h;rw[h] at this;cases this
def UC(l:Q0 L0)(j:Nat):Q2 Nat:=(l[j]?).bind (·.dst)
def FK(n:Nat)(D:Q0 AT)(l:Q0 L0)(X:Env->Q0 XE)(C:(Nat->Bool)->Env->Q0 HP)(L:Nat->Bool)(env:Env)(F' :Fz)(i:Nat)(g:Q2 Nat)(S:Q0 (Nat×K2)):s6->Act->By->Prop:=λe a w=>
 e= .normal/\∃b f,F'<=f/\(∃M,M.length=(X env).length/\Sd l i 0 M M=true/\De M (X env)=De M (X b))/\∃q,(X b)[i]? =some q/\(∀G,f<=G->q.2 G)/\
  Hd n D (match g with | some d=>(d,q.1)::S | none=>S) f (C (Kh L i) b) a w
def hZ(O:Q2 Nat)(P:B2)(eX:C3 L0)(l:Q0 L0)(n:Nat)(D:Q0 AT)(S0:Q0 (Nat×K2))(F:Fz)(X:Env->Q0 XE)(C:(Nat->Bool)->Env->Q0 HP)(i:Nat)(o:L0):Prop:=
 ∀L env F',F<=F'->L i=false->(∀k j,HE l k i j=true->L j=true)->(∀k j,HE l k j i=true->L j=false)->(∀(j:Nat) (q:XE),L j=true->(X env)[j]? =some q->∀G,F'<=G->q.2 G)->
  ∃Si,(∀S,Sub S0 S->(∀(j d:Nat) (v:K2),L j=true->UC l j=some d->((X env)[j]?).map Prod.fst=some v->JC S d=some v)->Sub Si S)/\
   GL O P eX [o] [] (FK n D l X C L env F' i o.dst Si) (Hd n D Si F'<|C L env) (some ()) ()
def Gu(O:Q2 Nat)(P:B2)(eX:C3 L0)(l:Q0 L0)(n:Nat)(D:Q0 AT)(S0:Q0 (Nat×K2))(F:Fz)(X:Env->Q0 XE)(C:(Nat->Bool)->Env->Q0 HP):Nat->Q0 L0->Prop
 | _,[]=>True
 | i,o::os=>hZ O P eX l n D S0 F X C i o/\Gu O P eX l n D S0 F X C (i+1) os
theorem Gu.get:∀{k:Nat} {os:Q0 L0},Gu O P eX l n D S0 F X C k os->∀i o,os[i]? =some o->hZ O P eX l n D S0 F X C (k+i) o
 | _,[],_,i,o,h=>by simp at h
 | k,x::os,a,0,o,h=>by simp at h;subst h;exact a.1
 | k,x::os,a,i+1,o,h=>by
  have:=Gu.get a.2 i o<|by simpa using h
  rwa[show k+1+i=k+(i+1) by omega] at this
theorem IB{o:L0}(I:∀d,o.dst=some d->Nat.blt d n=true)(z:Sl n D S a)
  (h:Xp O P eX (FK n D l X C L env F' i o.dst Si) [o] a w):Xp O P eX (FK n D l X C L env F' i o.dst S) [o] a w:=by
 have key:∀u w',FK n D l X C L env F' i o.dst Si .normal (a.put o.dst u) w'->FK n D l X C L env F' i o.dst S .normal (a.put o.dst u) w' :=by
  rintro u w' ⟨_,b,y,le,E,q,k,G,g⟩;refine⟨rfl,b,y,le,E,q,k,G,?_⟩;cases s:o.dst with
  | none=>rw[s] at g;exact⟨z.sb u,g.2⟩
  | some d=>
   rw[s] at g
   have H:=z.put (I d s) u;have K:=H.2.2 d u BO;have M:=g.1.2.2 d q.1 BO;have:u=q.1:=K.symm.trans M;subst this;exact⟨H,g.2⟩
 have A:∀e a w,e≠.normal->FK n D l X C L env F' i o.dst Si e a w->False:=λe a w j k=>j k.1;unfold Xp at h ⊢
 split
 .rename_i B;rw[DO B] at h
  refine Ox key (λN w' h=> ?_) (λe a w j k=>(A e a w j k).elim) h;obtain⟨_,b,y,le,E,q,k,G,g⟩:=h;have f:=g.1.2.1;cases s:o.dst with
  | none=>
   rw[s] at f;simp only[Act.put] at f;rw[z.2.1] at f
   exact absurd (congrArg List.length f) ic
  | some d=>
   rw[s] at f;simp only[Act.put] at f;rw[z.2.1] at f
   exact absurd (congrArg List.length f) ic
 .rename_i B;rw[Do B] at h
  exact key undef w h
def Tu(d:Nat)(o:L0):Bool:=match o.dst with
 | some a=>Nat.beq a d
 | none=>false
def G0(n:Nat)(S0:Q0 (Nat×K2)):Q0 L0->Bool
 | []=>true
 | o::os=>(match o.dst with
  | none=>true
  | some d=>Nat.blt d n&& !TR d S0&& !os.any (Tu d))&&G0 n S0 os
theorem HV:∀{os:Q0 L0} {i:Nat} {o:L0} {d:Nat},G0 n S0 os=true->os[i]? =some o->o.dst=some d->Nat.blt d n=true/\TR d S0=false
 | [],_,_,_,_,h,_=>by simp at h
 | x::os,0,o,d,a,h,b=>by
  simp at h;subst h
  simp only[G0,b,BY,r8] at a
  exact⟨a.1.1.1,a.1.1.2⟩
 | x::os,i+1,o,d,a,h,b=>by
  simp only[G0,BY] at a
  exact HV a.2 (by simpa using h) b
theorem AN{os:Q0 L0}{o:L0}(h:os.any (Tu d)=false)(b:os[i]? =some o)(f:o.dst=some d):False:=by
 have g:o∈os:=by
  obtain⟨a,e⟩:=Fm.1 b;rw[<-e];exact qA4 a
 have:os.any (Tu d)=true:=lT.2 ⟨o,g,by simp[Tu,f]⟩;rw[h] at this;cases this
theorem CF:∀{os:Q0 L0} {i j:Nat} {o o' :L0} {d:Nat},G0 n S0 os=true->os[i]? =some o->os[j]? =some o'->o.dst=some d->o'.dst=some d->i=j
 | [],_,_,_,_,_,_,h,_,_,_=>by simp at h
 | x::os,0,0,_,_,_,_,_,_,_,_=>rfl
 | x::os,0,j+1,o,o',d,b,h,h',f,a=>by
  simp at h;subst h
  simp only[G0,f,BY,r8] at b
  exact(AN b.1.2 (by simpa using h') a).elim
 | x::os,i+1,0,o,o',d,b,h,h',f,a=>by
  simp at h';subst h'
  simp only[G0,a,BY,r8] at b
  exact(AN b.1.2 (by simpa using h) f).elim
 | x::os,i+1,j+1,o,o',d,b,h,h',f,a=>by
  simp only[G0,BY] at b
  have:=CF (i:=i) (j:=j) b.2 (by simpa using h) (by simpa using h') f a;rw[this]
def Ot:Q0 L0->Q0 XE->Q0 (Nat×K2)->Q0 (Nat×K2)
 | o::os,q::a,S=>match o.dst with
  | some d=>(d,q.1)::Ot os a S
  | none=>Ot os a S
 | _,_,S=>S
theorem Nu(b:Sub S0 S):∀{os:Q0 L0} {a:Q0 XE},(∀(i:Nat) (o:L0) (d:Nat) (q:XE),os[i]? =some o->o.dst=some d->a[i]? =some q->JC S d=some q.1)->Sub (Ot os a S0) S
 | [],_,_=>b
 | _::_,[],_=>b
 | o::os,q::a,h=>by
  have f:Sub (Ot os a S0) S:=Nu b λi o d q g j k=>h (i+1) o d q (by simpa using g) j (by simpa using k);simp only[Ot];cases s:o.dst with
  | none=>exact f
  | some d=>exact Sub.cons (h 0 o d q rfl s rfl) f
theorem GG.nY{id:Nat}(k g:Nat)(X:Env->Q0 XE)(C:(Nat->Bool)->Env->Q0 HP)(hm:P.follows .mixedOrders=true)(aQ:LU 0 l=true)(aH:Ix k (l.drop k)=true)
  (aR:Nat.ble k l.length=true) (hX:∀env,(X env).length=k) (aI:G0 n S0 (l.take k)=true) (hC:∀env,C (λ_=>false) env=hs++List.replicate g AX)
  (aS:Gu O P l.toArray l n D S0 F X C 0 (l.take k))
  (tail:∀env F',F<=F'->(∀(j:Nat) (q:XE),(X env)[j]? =some q->q.2 F')->GL O P l.toArray (l.drop k) ks Q (Hd n D (Ot (l.take k) (X env) S0) F'<|C (λj=>Nat.blt j k) env) m r):GC O P (.region id l.toArray true) ks Q (Hd n D S0 F hs) m r:=by
 intro ai a w ha;have aj:k<=l.length:=AC aR
 let aG:(Nat->Bool)->Act->By->Prop:=λL a w=>Down l L/\(∀i,k<=i->L i=false)/\∃env F' S,F<=F'/\Sub S0 S/\(∀(j d:Nat) (v:K2),L j=true->UC l j=some d->((X env)[j]?).map Prod.fst=some v->JC S d=some v)/\(∀(j:Nat) (q:XE),L j=true->(X env)[j]? =some q->∀G,F'<=G->q.2 G)/\Hd n D S F' (C L env) a w
 let Inv:(Nat->Bool)->Act->By->Prop:=λL a w=>aG L a w∨∃i,k < i/\(∀j,L j=true↔j < i)/\Xp O P l.toArray (Z0 O P ks Q) (l.drop i) a w
 have N:∀L a w,(∀i,i < k->L i=true)->aG L a w->Xp O P l.toArray (Z0 O P ks Q) (l.drop k) a w:=by
  rintro L a w b ⟨I,E,env,F',S,le,hS,hV,hΦ,hA⟩;have bN:=hX env
  have ak:L=λj=>Nat.blt j k:=by
    funext j;rcases u0 j k with h | h
    .rw[b j h];exact(sp h).symm
    .rw[E j h];cases W:Nat.blt j k with
     | false=>rfl
     | true=>have:=AC W;omega
  refine tail env F' le (λj q Y=>hΦ j q (b j (by have:=Zz Y;omega)) Y F'<|Fz.le_refl F') ai a w ⟨hA.1.sub<|Nu hS λi o d q e1 e2 e3=> ?_,ak▸hA.2⟩;have aV:i < k:=by have:=Zz e3;omega
  refine hV i d q.1 (b i aV) ?_ (by rw[e3];rfl);rw[If,DO aV] at e1
  simp[UC,e1,e2]
 refine X7 hm Inv (λi o h e he W=>by have:=HY aQ i o (by simpa using h) e he W;omega) ?_ ?_ ?_
 .refine .inl ⟨λi o _ h=>(by cases h),λ_ _=>rfl,⟨λ_=>none,λ_=>0,λ_=>[],λ_=>F,λ_=>none⟩,F,S0,Fz.le_refl F,Sub.refl _,λj d v h=>(by cases h),λj q h=>(by cases h),ha.1,?_⟩;rw[hC];have h1:=ha.2.drew<|w.drawn+1;refine h1.mono λm al=> ?_;exact stars_emps al
 .intro L a w i o ho K y hI;have z:l[i]? =some o:=by simpa using ho
  have aK:i < l.length:=Zz z;by_cases hi:i < k
  . rcases hI with Z | ⟨u,hk,hL,_⟩
    case inr=>have:=(hL i).2 hQ;rw[K] at this;cases this
    obtain⟨I,E,env,F',S,le,hS,hV,hΦ,hA⟩:=Z;have aB:(l.take k)[i]? =some o:=by rw[If,DO hi];exact z
    have aX:=Gu.get aS i o aB;simp only[s5] at aX
    have ao:∀u j,HE l u j i=true->L j=false:=λu j h=>by
     cases A:L j with
     | false=>rfl
     | true=>
      have:=Xh I h λo' H e he W=>I j o' H A e he W;rw[K] at this;cases this
    have aY:∀u j,HE l u i j=true->L j=true:=λu j h=>Xh I h λo' H e he W=>by
     rw[z] at H;cases H;exact y e he W
    obtain⟨Si,aq,aL⟩:=aX L env F' le K aY ao hΦ;have aZ:=aq S hS hV;have hn:∀d,o.dst=some d->Nat.blt d n=true:=λd hd=>(HV aI aB hd).1;have h1:=IB (S:=S) hn hA.1<|aL rfl a w ⟨hA.1.sub aZ,hA.2⟩;refine Pb (λe a w aM Y=>absurd Y.1 aM) (λa' w' Y=> ?_) h1;obtain⟨_,R,ar,ab,⟨M,au,av,aw⟩,q,Y,ax,ay⟩:=Y
    have ad:∀(j:Nat) (q:XE),L j=true->(X R)[j]? =some q->(X env)[j]? =some q:=λj q A hx=>by
     have az:j < M.length:=by rw[au,hX env,<-hX R];exact Zz hx
     exact AJ aw.symm (Ps I K av j A az) hx
    refine .inl ⟨?_,?_,R,ar,(match o.dst with | some d=>(d,q.1)::S | none=>S),Fz.le_trans le ab,?_,?_,?_,ay⟩
    .intro j oj B A e he W;by_cases s:j=i
     .subst s;rw[z] at B;cases B
      have:=y e he W;simp only[Kh];split
      .rfl
      .exact this
     .have f:L j=true:=by simpa[Kh,s] using A
      have:=I j oj B f e he W;simp only[Kh];split
      .rfl
      .exact this
    .intro j A;simp only[Kh];rw[Do hQ];exact E j A
    .cases hd:o.dst with
     | none=>exact hS
     | some d=>exact Nt hS (HV aI aB hd).2 _
    .intro j d' v' A aC aD;by_cases s:j=i
     .subst s;have a7:o.dst=some d' :=by simpa[UC,z] using aC
      rw[Y] at aD;simp only[RK,UV] at aD
      subst aD;rw[a7];exact BO
     .have f:L j=true:=by simpa[Kh,s] using A
      have a8:j < k:=by
       rcases u0 j k with h | h
       .exact h
       .rw[E j h] at f;cases f
      obtain⟨q',T,rfl⟩:=lW.1 aD;have h0:=hV j d' q'.1 f aC (by rw[ad j q' f T];rfl);cases hd:o.dst with
      | none=>exact h0
      | some d=>
       have aM:d≠d' :=λh=>by
        subst h;cases B:l[j]? with
        | none=>simp[UC,B] at aC
        | some oj=>
         have bA:oj.dst=some d:=by simpa[UC,B] using aC
         exact s<|CF aI (by rw[If,DO a8];exact B) aB bA hd
       exact Pv aM h0
    .intro j q' A T G hG;by_cases s:j=i
     .subst s;rw[Y] at T;cases T;exact ax G hG
     .have f:L j=true:=by simpa[Kh,s] using A
      exact hΦ j q' f (ad j q' f T) G<|Fz.le_trans ab hG
  ·
    have bB:=Nl aH (i - k) o (by rw[lY];rw[show k+(i - k)=i by omega];exact z)
    have b:∀j,j < i->L j=true:=λj A=>by
     obtain⟨e,he,h1,h2⟩:=bB j hQ;rw[<-h1];exact y e he h2
    have hw:Xp O P l.toArray (Z0 O P ks Q) (l.drop i) a w:=by
     rcases hI with Z | ⟨u,hk,hL,aF⟩
     .have bC:i=k:=by
       rcases u0 k i with h | h
       .have:=b k h;rw[Z.2.1 _<|So _] at this;cases this
       .omega
      subst bC;exact N L a w b Z
     .have:u=i:=by
       have h1:¬i < u:=λh=>by have:=(hL i).2 h;rw[K] at this;cases this
       have h2:¬u < i:=λh=>by have:=(hL u).1<|b u h;omega
       omega
      subst this;exact aF
    have aN:l.drop i=o::l.drop (i+1):=by
     have hg:l[i]'aK=o:=by simpa[aK] using z
     rw[<-hg];exact dO aK
    rw[aN] at hw
    have V:∀a' w',Xp O P l.toArray (Z0 O P ks Q) (l.drop<|i+1) a' w'->Inv (Kh L i) a' w' :=λa' w' h=>
     .inr ⟨i+1,by omega,λj=>by
      simp only[Kh];by_cases A:j=i
      .simp[A]
      .simp only[A,Bm];constructor
       .intro f
        have:j < i:=by
         rcases u0 j i with h | h
         .exact h
         .rcases hI with Z | ⟨u,hk,hL,_⟩
          .rw[Z.2.1 j hQ] at f;cases f
          .have h1:=(hL j).1 f;have:=(hL i).2 hQ;rw[K] at this;cases this
        omega
       .intro bS;exact b j hQ,h⟩
    unfold Xp at hw
    split
    .rename_i aO;rw[DO aO] at hw
     exact SO V hw
    .rename_i aO;rw[Do aO] at hw
     exact V _ _ hw
 .intro L a w b hI
  have hw:Xp O P l.toArray (Z0 O P ks Q) (l.drop l.length) a w:=by
    rcases hI with Z | ⟨u,hk,hL,aF⟩
    .have bD:k=l.length:=by
      rcases u0 k l.length with h | h
      .have:=b k (by simpa using h);rw[Z.2.1 _<|So _] at this;cases this
      .omega
     have:=N L a w (λi hi=>b i ia) Z
     rwa[bD] at this
    .have:l.length<=u:=by
      rcases u0 u l.length with h | h
      .have:=(hL u).1 (b u<|by simpa using h);omega
      .exact h
     rw[x4 this] at aF
     rw[x4<|So _];exact aF
  rw[x4<|So _] at hw
  exact hw
where
 stars_emps {hs:Q0 HP} {g:Nat} {m:Mem} (h:Qk hs m):Qk (hs++List.replicate g AX) m:=by
  induction hs generalizing m with
  | nil=>
   rw[lQ]
   induction g generalizing m with
   | zero=>exact h
   | succ g ih=>exact⟨λ_=>none,m,λ_=>.inl rfl,λ_ _ e=>by simp at e,Mem.sub.refl _,trivial,ih trivial⟩
  | cons q hs ih=>exact QT (λm' h' =>ih h') h
theorem Gu.nil{l:Q0 L0}{X:Env->Q0 XE}{C:(Nat->Bool)->Env->Q0 HP}{k:Nat}:Gu O P eX l n D S0 F X C k []:=trivial
section
variable{l:Q0 L0}{X:Env->Q0 XE}{C:(Nat->Bool)->Env->Q0 HP}{env:Env}{x:β}
theorem allM:∀{k j:Nat} {M:Q0 Bool},Sd l i j M (List.replicate k true)=true
 | 0,_,_=>rfl
 | k+1,j,M=>by
  simp only[List.replicate_succ,Sd,qAz,ln];exact allM
theorem GG.sU(f:(X env)[i]? =some (v,λ_=>True))(g:C (Kh L i) env=C L env)(le:F'<=F2):GL O P eX [] [] (FK n D l X C L env F' i (some d) Si) (Hd n D ((d,v)::Si) F2<|C L env) (some x) x:=λ_ a w b=>⟨rfl,env,F2,le,⟨List.replicate (X env).length true,by simp,allM,rfl⟩,_,f,λ_ _=>trivial,⟨b.1,g▸b.2⟩⟩
theorem GG.ae(a:Env)(M:Q0 Bool)(b:M.length=(X env).length)(f:Sd l i 0 M M=true)(g:De M (X env)=De M (X a))(j:(X a)[i]? =some (v,q))(le:F'<=F2)(k:∀G,F2<=G->q G)
  (o:∀w,SH w F2 (Qk hs2)->SH w F2 (Qk<|C (Kh L i) a)):GL O P eX [] [] (FK n D l X C L env F' i (some d) Si) (Hd n D ((d,v)::Si) F2 hs2) (some x) x:=
 λ_ _a _w h=>⟨rfl,a,F2,le,⟨M,b,f,g⟩,_,j,k,⟨h.1,o _ h.2⟩⟩
theorem GG.a6(f:(X env)[i]? =some (v,λ_=>True))(le:F'<=F2)(g:hs2=C (Kh L i) env):GL O P eX [] [] (FK n D l X C L env F' i none Si) (Hd n D Si F2 hs2) (some x) x:=λ_ a w b=>⟨rfl,env,F2,le,⟨List.replicate (X env).length true,by simp,allM,rfl⟩,_,f,λ_ _=>trivial,⟨b.1,g▸b.2⟩⟩
end
theorem SH.place{p q:HP}(k:Nat)(a:hs[k]? =some q)(h:SH w F (Qk<|p::hs)):SH w F (Qk<|hs.set k p):=SH.push a ((h.mono λ_ b=>Zm<|QT (λ_=>Da (k:=k)) b).drop)
theorem JX{b:Bool}{x y:α}(h:b=true):cond b x y=x:=by rw[h];rfl
theorem KE{b:Bool}{x y:α}(h:b=false):cond b x y=y:=by rw[h];rfl
theorem SH.aE{p q:HP}(k:Nat)(a:hs[k]? =some q)(b:p' =p)(h:SH w F (Qk<|p::hs)):SH w F (Qk<|hs.set k p'):=b▸h.place k a
theorem R9{p:HP}(k:Nat)(a:p' =p):hs.set k p=hs.set k p' :=by rw[a]
theorem GG.norm{b:Q0 HP}(h:Sub S' S)(j:hs=b)(k:GG g (Hd n D S' F b) m r):GG g (Hd n D S F hs) m r:=by
 exact λo a w f=>k o a w ⟨f.1.sub h,j▸f.2⟩
theorem GG.au{u A:S2}{y:Q2 C1}{a:Nat}{l:Q0 α}(z:Y1 l l2=some l')(i:Nat)(E:Uo P e sz c)(g:F0<=F)(B:Nat.blt d n=true)(G:P.underlying t=some (.slice e))(j:P.underlying u=some (.slice A))(o:T[0]? =some t)(s:T[1]? =some u)
  (hi:hs[i]? =some (Qg sz c F0 e p cap l)) (H:QI sz c F y a l2) (I:QS S ox=some (.slice p l.length cap)) (K:QS S oy=some (.slice y l2.length a))
  (k:∀p' cap',GL O P eX rest ks Q (Hd n D ((d,.slice p' l'.length cap')::S) F<|hs.set i<|Qg sz c F e p' cap' l') m r):GL O P eX (⟨some d,.call ⟨.builtin .append,#[ox,oy],T⟩,ty,pos,after,none⟩::rest) ks Q (Hd n D S F hs) m r:=by
 have h:=GG.append (f:=λ_=>m) (pos:=pos) (after:=after) (ty:=ty) i E g B G j o s hi H I K (λM p' cap' b=>by rw[z] at b;cases b;exact k p' cap');rw[z] at h;exact h
theorem GG.rJ{e:Nat}{l:Q0 α}(g:Zc l x l.length=some l')(j:Nat.blt d n=true)(o:P.underlying t=some (.slice e))(s:∀w,(sizeOf e).run P w= .ok sz w)
  (u:QI sz c F p cap l) (y:QS S ox=some (.slice p l.length cap)) (z:QS S oy=some (.int kd x))
  (k:∀p' c',QI sz c F p' c' l'->GL O P eX rest ks Q (Hd n D ((d,.slice p' l'.length c')::S) F hs) m r):GL O P eX (⟨some d,.slice t ox (some oy) none none,ty,pos,after,none⟩::rest) ks Q (Hd n D S F hs) m r:=by
 have h:=GG.aW (f:=λ_=>m) (pos:=pos) (after:=after) (ty:=ty) j o s u y z (λA p' c' a b=>by rw[g] at a;cases a;exact k p' c' b);rw[g] at h;exact h
theorem GG.pw{j:OF}{e:Nat}{l:Q0 α}{b:lO}(o:Zc l 0 x=some l')(s:Nat.blt d n=true)(u:P.underlying t=some (.slice e))(y:∀w,(sizeOf e).run P w= .ok sz w)
  (z:QI sz c F p cap l) (A:QS S ox=some (.slice p l.length cap)) (B:QS S oy=some (.int kd x)) (E:QS S j=some (.int b x))
  (k:∀p' c',QI sz c F p' c' l'->GL O P eX rest ks Q (Hd n D ((d,.slice p' l'.length c')::S) F hs) m r):GL O P eX (⟨some d,.slice t ox none (some oy)<|some j,ty,pos,after,none⟩::rest) ks Q (Hd n D S F hs) m r:=by
 have h:=GG.tk (f:=λ_=>m) (pos:=pos) (after:=after) (ty:=ty) s u y z A B E (λG p' c' a g=>by rw[o] at a;cases a;exact k p' c' g);rw[o] at h;exact h
theorem GG.rI(f:Nat.blt d n=true)(g:P.underlying t=some (.slice e))(h:∀w,(sizeOf e).run P w= .ok sz w)(j:QS S ox=some (.slice none 0 0))(o:QS S oy=some (.int kd x))(s:x=0)
  (k:GL O P eX rest ks Q (Hd n D ((d,.slice none 0 0)::S) F hs) m r):GL O P eX (⟨some d,.slice t ox none (some oy) none,ty,pos,after,none⟩::rest) ks Q (Hd n D S F hs) m r:=
 GG.val f (λa w b=>by
  subst s;simp only[execOp,b.1.eval j,b.1.eval o,RK,oY,y1];rw[Tw g h hQ];rfl) k
theorem GG.aB(c:Up α)(o:Nat.blt d n=true)(s:P.underlying t=some (.slice e))(u:∀w,(sizeOf e).run P w= .ok sz w)
  (k:∀b,GL O P eX rest ks Q (Hd n D ((d,.slice (some ⟨b,0,none⟩) 0 0)::S) F<|Qg sz c F e (some ⟨b,0,none⟩) 0 []::hs) m r):GL O P eX (⟨some d,.buildSlice t 0 #[],ty,pos,after,none⟩::rest) ks Q (Hd n D S F hs) m r:=
 GG.step rfl (.inr rfl) λf a w j=>by
  have y:=j.2.alloc<|.cells #[] e;refine⟨.slice (some ⟨w.heap.size,0,none⟩) 0 0,w.alloc<|.cells #[] e,?_,k w.heap.size f _ _ ⟨j.1.put o _,y.mono λm f=>QR (λA h=>⟨by simp,by omega,.inr ⟨_,[],rfl,h,by simp,Jm.nil⟩⟩) f⟩⟩;have z:∀g:Nat->K2,Array.map g (Array.range 0)=#[]:=λg=>by rw[show Array.range 0=#[] from rfl];simp
  simp[execOp,Instr.buildSlice,YU s,u,Result.andThen,newRow,z,Instr.fill]
theorem QC{a b:HP}{as bs:Q0 HP}(h:a=b)(t:as=bs):a::as=b::bs:=by rw[h,t]
theorem GG.sa{x:β}(a:Env)(M:Q0 Bool)(b:M.length=(X env).length)(f:Sd l i 0 M M=true)(g:De M (X env)=De M (X a))(j:(X a)[i]? =some (v,q))(le:F'<=F2)(k:∀G,F2<=G->q G)
  (o:C (Kh L i) a=hs2):GL O P eX [] [] (FK n D l X C L env F' i (some d) Si) (Hd n D ((d,v)::Si) F2 hs2) (some x) x:=
 GG.ae a M b f g j le k (λ_ h=>o▸h)
theorem GG.pk{x:β}(a:Env)(M:Q0 Bool)(b:M.length=(X env).length)(f:Sd l i 0 M M=true)(g:De M (X env)=De M (X a))(j:(X a)[i]? =some (v,q))(le:F'<=F2)(k:∀G,F2<=G->q G)
  (o:C (Kh L i) a=hs2):GL O P eX [] [] (FK n D l X C L env F' i none Si) (Hd n D Si F2 hs2) (some x) x:=
 λ_ _a _w h=>⟨rfl,a,F2,le,⟨M,b,f,g⟩,_,j,k,⟨h.1,o▸h.2⟩⟩
end
theorem GG.sn{T:S2}(i:Nat)(_hi:hs[i]? =some (Qg sz c F0 T p cap l))(e:l=l')(k:GL O P eX rest ks Q (Hd n D S F<|hs.set i<|Qg sz c F0 T p cap l') m r):GL O P eX rest ks Q (Hd n D S F hs) m r:=by
 subst e
 have:hs.set i (Qg sz c F0 T p cap l)=hs:=by
  apply lM;intro j;rw[lg];split
  .rename_i h;subst h;split
   .exact _hi.symm
   .rename_i h;rw[lZ hQ]
  .rfl
 rw[this] at k;exact k
def FW(W:By):Fz:={mem:=λb=>W.heap[b]?,os:=W.os,tape:=W.tape,out:=W.output}
theorem SH.start(W:By):SH W (FW W) AX:=⟨λ_=>none,trivial,⟨λ_=>.inl rfl,λ_ _ e=>by simp at e,λ_ _ e=>by simp at e,λ_ _ e=>e,rfl,rfl,rfl⟩⟩
def G9{H:Type}(enc:S2×K2->H)(P:B2)(W:By)(t:S2)(c:Up α)(ok:α->Prop):Prop:=∀d held a cs x,DataW.trod enc P W 0 d held a t cs=some x->∃m,ok m/\∀b,FW W<=b->c b m cs
section
variable{H:Type}{enc:S2×K2->H}{W:By}
theorem G9.int{t:S2}{k:lO}(b:P.underlying t=some (.int k)):G9 enc P W t (Ex<|Zy k) (λm=>(Lit.int k m).wf=true):=by
 intro c held a cs x h;cases a with
 | zero=>simp[DataW.trod] at h
 | succ n=>
  unfold DataW.trod at h
  rw[b] at h
  split at h<;>simp_all [Ex,Zy]
  exact⟨_,h.1.2,λ_ _=>rfl⟩
theorem qb{β:Type}{f:α->Q2 β}:∀{l:Q0 α} {r:Q0 β},l.mapM f=some r->∀(i:Nat) (a:α),l[i]? =some a->∃b,f a=some b/\r[i]? =some b
 | [],r,h,i,a,e=>by simp at e
 | a::l,r,h,i,j,e=>by
  rw[List.mapM_cons] at h
  cases c:f a with
  | none=>rw[c] at h;simp at h
  | some b=>
   rw[c] at h
   cases d:l.mapM f with
   | none=>rw[d] at h;simp at h
   | some bs=>
    rw[d] at h;simp at h;subst h
    cases i with
    | zero=>simp at e;subst e;exact⟨b,c,by simp⟩
    | succ i=>exact qb d i j (by simpa using e) |>.imp λb g=>⟨g.1,by simpa using g.2⟩
theorem jZ{q:Nat->α->Prop}:∀(n:Nat),(∀i,i < n->∃m,q i m)->∃l:Q0 α,l.length=n/\∀i m,l[i]? =some m->q i m
 | 0,_=>⟨[],rfl,λi m h=>by simp at h⟩
 | n+1,h=>by
  obtain⟨l,a,b⟩:=jZ n λi hi=>h i hQ;obtain⟨m,c⟩:=h n hQ;refine⟨l++[m],by simp[a],λi d e=> ?_⟩;rcases u0 i l.length with hi | hi
  .rw[x8 hi] at e;exact b i d e
  .rw[lR hi] at e
   have:i - l.length=0:=by have:=Zz e;simp at this;omega
   rw[this] at e;simp at e;subst e
   rw[show i=n by omega];exact c
theorem jo{a:C1}(h:w.cell? a=some v):a.spot=none/\∃cs T fr,w.heap[a.block]? =some (.cells cs T fr)/\cs[a.off]? =some v:=by
 unfold World.cell? at h
 split at h
 .rename_i c T fr b;split at h
  .cases h
  .rename_i hs;exact⟨by simpa using hs,c,T,fr,b,h⟩
 .cases h
theorem addr_add(b o i:Nat):(⟨b,o,none⟩:C1).add i=⟨b,o+i,none⟩:=by
 unfold Addr.add;split
 .rename_i h;subst h;rfl
 .rfl
theorem OD(a:C1):a.add 0=a:=by simp[Addr.add]
theorem zG{a:C1}(h:w.cells? 0 a n=some vs)(g:0 < n):a.spot=none/\∃cs T fr,w.heap[a.block]? =some (.cells cs T fr)/\(cs.toList.drop a.off).take n=vs:=by
 obtain⟨_,k,e⟩:=World.cells?_some h;have j:vs[0]? =some (vs[0]'(by omega)):=B3 _;have f:=(e 0 g).trans j;rw[OD] at f
 obtain⟨hs,cs,T,fr,d,_⟩:=jo f;refine⟨hs,cs,T,fr,d,?_⟩;obtain⟨b,o,s⟩:=a;simp only at hs d ⊢
 subst hs;apply lM;intro i;rw[If];split
 .rename_i hi;have c:=e i hi;rw[addr_add] at c
  unfold World.cell? at c
  simp only[d] at c
  simp at c
  rw[lY,<-c];simp
 .rename_i hi;rw[lZ hQ]
theorem G9.slice{ok:α->Prop}(E:P.underlying t=some (.slice e))(N:P.cellsOf e=sz)(g:0 < sz)(V:G9 enc P W e c ok):G9 enc P W t (dQ sz c) (λl=>∀x∈l,ok x):=by
 intro Q held j cs x h;cases j with
 | zero=>simp[DataW.trod] at h
 | succ n=>
  unfold DataW.trod at h
  rw[E] at h
  split at h<;>simp_all only[reduceCtorEq,UV,TypeDesc.slice.injEq]
  .exact⟨[],by simp,λq _=>⟨none,0,rfl,QI.nil⟩⟩
  .rename_i _ _ R a len cap he;subst he;split at h
   .rename_i F;obtain⟨elems,he,_⟩:=u2.1 h
    have r:∀i,i < len->∃m,ok m/\∃vs,W.cells? 0 (a.add<|i*sz) sz=some vs/\∀q,FW W<=q->c q m vs:=by
     intro i hi;obtain⟨y,u,_⟩:=qb he i i (by simp[hi]);obtain⟨vs,v,u⟩:=u2.1 u;obtain⟨m,G,w⟩:=V _ _ _ _ _ u;exact⟨m,G,vs,v,w⟩
    obtain⟨l,I,z⟩:=jZ len r;refine⟨l,λx A=> ?_,λq le=>⟨some a,cap,by rw[I],by omega,?_,?_⟩⟩
    .obtain⟨i,hi,e⟩:=lz A;exact(z i x (by rw[<-e];exact B3 hi)).1
    .have:=F.2.2;simp[maxLen] at this;omega
    .cases l with
     | nil=>exact .inl rfl
     | cons K S=>
      obtain⟨_,L,k,_⟩:=z 0 K rfl;rw[Nat.zero_mul,OD] at k
      obtain⟨hs,cs,T,fr,f,_⟩:=zG k g;obtain⟨b,o,s⟩:=a;simp only at hs f
      subst hs;refine .inr ⟨b,o,cs,T,fr,rfl,?_,λi x A B C=> ?_⟩
      .exact le.mem _ _ f
      .obtain⟨_,vs,D,w⟩:=z i x A;rw[addr_add] at D
       obtain⟨_,cs',X,M,d,p⟩:=zG D g;simp only at d p
       rw[f] at d;cases d
       have:=w B<|Fz.le_trans le C;rw[<-p] at this
       exact this
   .cases h
end
section
open Go.ChangeShapes Go.WideShapes Go.ChangeAt Go.RowKit
variable{t:S2}{b0:Nat}
section
variable{H:Type}{enc:S2×K2->H}{W:By}
theorem ko{r:Reach}{x:K2}(b:Value.okWide P W r b0 t v)(d:∀c,P.underlying t≠some (.struct c))(f:∀n e,P.underlying t≠some (.array n e))(g:v.cells.toList=[x]):v=x:=by
 have a:Cell.okWide P W r b0 t v:=by
  unfold Value.okWide at b
  split at b
  .rename_i c h;exact absurd h<|d c
  .rename_i n e h;exact absurd h<|f n e
  .exact b
 cases v with
 | agg cs=>
  exfalso;unfold Cell.okWide at a
  split at a<;>first | contradiction | skip
  unfold Cell.ok at a
  split at a<;>first | contradiction | exact a
 | _=>simpa[Value.cells] using g
theorem fY{k:lO}{d:DataW H}{ps:Q0 MemPlace}(a:P.underlying t=some (.int k))(b:Value.okWide P W .any b0 t v)(c:DataW.Trod enc P W 0 (λ_=>true) true t v d ps):∃m,(Lit.int k m).wf=true/\v= .int k m:=by
 obtain⟨n,h,_,_,e⟩:=open_int a b c;exact⟨n,e,h⟩
theorem zQ{e:S2}{ok:Q0 α->Prop}{d:DataW H}{ps:Q0 MemPlace}(a:P.underlying t=some (.slice e))(V:G9 enc P W t (dQ sz c) ok)
  (f:Value.okWide P W .any b0 t v) (g:DataW.Trod enc P W 0 (λ_=>true) true t v d ps):∃m p k,ok m/\v= .slice p m.length k/\QI sz c (FW W) p k m:=by
 obtain⟨b,h⟩:=g;obtain⟨m,i,j⟩:=V _ _ _ _ _ h;obtain⟨p,k,l,n⟩:=j _<|Fz.le_refl _;exact⟨m,p,k,i,ko f (by rw[a];simp) (by rw[a];simp) l,n⟩
theorem wL{c:Fz}{H' :HP}(le:FW W<=c)(h:SH w' c H'):Below W.heap.size W w' :=by
 obtain⟨d,f⟩:=SH.size_le h (λb o e=>e) le;obtain⟨m,_,a⟩:=h;exact⟨a.os.trans le.os,a.tape.trans le.tape,a.out.trans le.out,d,f⟩
theorem Aj{g:By}(i:laidOutB P=true)(j:Below W.heap.size W g):∀{c:Q0 S2} {vs:Q0 K2} {ds:Q0 (DataW H)} {ps:Q0 MemPlace},(c.all λt=>P.readableRec t&&decide (t < P.types.size))=true->
  DataW.TrodAll enc P W 0 (λ_=>true) true c vs ds ps->(∀x∈ps,x.block < W.heap.size)->DataW.TrodAll enc P g 0 (λb=>decide<|b < W.heap.size) true c vs ds ps
 | [],vs,ds,ps,_,h,_=>by
  obtain⟨rfl,rfl,rfl⟩:=trodAll_nil h;rfl
 | t::c,vs,ds,ps,e,h,a=>by
  obtain⟨v,vs',d,k,p,q,rfl,rfl,rfl,l,m⟩:=trodAll_cons h;simp only[ld,BY,TO] at e
  exact⟨p,q,j.trod i e.1.1 e.1.2 l (λx f=>a x<|by simp[f]),Aj i j (by simpa using e.2) m (λx f=>a x<|by simp[f]),rfl⟩
theorem Rf:∀{a:Q0 S2} {vs:Q0 K2} {ds:Q0 (DataW H)} {ps:Q0 MemPlace} {b:Nat} {c:Nat->Bool} {e:Bool},DataW.TrodAll enc P W b c e a vs ds ps->ds.length=a.length
 | [],vs,ds,ps,_,_,_,h=>by obtain⟨_,rfl,_⟩:=trodAll_nil h;rfl
 | t::a,vs,ds,ps,_,_,_,h=>by
  obtain⟨v,vs',d,f,p,q,rfl,rfl,rfl,_,g⟩:=trodAll_cons h;simp[Rf g]
end
end
section
variable{pre:Q0 α}{x:α}
theorem Qs{n:Int}(a: -9223372036854775808<=n)(b:n<=9223372036854775807):Qy n=n:=by
 have e:IntKind.i64.bits=64:=rfl;simp only[Qy,IntKind.wrap,e];simp[IntKind.signed];omega
theorem Zq(l:Q0 α)(i:Nat):ZI l (i:Int)=l[i]? :=by
 simp[ZI]
theorem O9{i:Int}(b:0<=i)(h:i < l.length):∃x,ZI l i=some x/\l[i.toNat]? =some x:=by
 obtain⟨k,rfl⟩:=Int.eq_ofNat_of_zero_le b;rw[Zq];have a:k < l.length:=by omega
 exact⟨l[k],B3 a,by simp[a]⟩
theorem H0(h:i < n):YY n (i:Int)=some i:=by
 unfold YY;rw[DO hQ];simp
theorem MB{x:Int}(h:0 < y)(c:0<=x)(d:x<=9223372036854775807):B5 .i64 x y=some (x / y):=by
 unfold B5;rw[Do hQ,oP c];have a:=qBB c<|Int.le_of_lt h;have b:=Int.ediv_le_self y c;rw[show IntKind.i64.wrap (x / y)=Qy (x / y) from rfl,Qs hQ hQ]
theorem wf_u8{n:Int}(h:(Lit.int .u8 n).wf=true):0<=n/\n<=255:=by
 have a:IntKind.min .u8=0:=by decide
 have b:IntKind.max .u8=255:=by decide
 simp only[Lit.wf,BY,TO,a,b] at h
 exact h
def NW(step:τ->Nat->α->Q2 (UN τ β))(a:τ->β):Q0 α->Nat->τ->Q2 β
 | [],_,t=>some (a t)
 | x::l,i,t=>match step t i x with
  | none=>none
  | some (.next t')=>NW step a l (i+1) t'
  | some (.done b)=>some b
def UN.tU(f:τ->σ):UN τ β->UN σ β
 | .next t=>.next (f t)
 | .done b=>.done b
variable{body:σ->Q2 (UN σ β)}
theorem T5(mk:τ->Nat->σ)(step:τ->Nat->α->Q2 (UN τ β))(a:τ->β)(l:Q0 α)
  (e:∀t (i:Nat) x,l[i]? =some x->body (mk t i)=(step t i x).map (UN.tU λt' =>mk t'<|i+1))
  (he:∀t,body (mk t l.length)=some (.done<|a t)):∀(k i:Nat) (t:τ),i+k=l.length->ZV body (mk t i)=NW step a (l.drop i) i t
 | 0,i,t,hi=>by
  have:i=l.length:=by omega
  subst this;rw[ZK,he,List.drop_length];rfl
 | k+1,i,t,hi=>by
  have d:i < l.length:=by omega
  have f:l[i]? =some l[i]:=B3 d;rw[ZK,e t i _ f,dO d];simp only[NW];cases hs:step t i l[i] with
  | none=>rfl
  | some c=>
   cases c with
   | done b=>rfl
   | next t' =>exact T5 mk step a l e he k (i+1) t' hQ
theorem BN(mk:τ->Nat->σ)(step:τ->Nat->α->Q2 (UN τ β))(a:τ->β)(l:Q0 α)
  (b:∀t (i:Nat) x,l[i]? =some x->body (mk t i)=(step t i x).map (UN.tU λt' =>mk t'<|i+1))
  (he:∀t,body (mk t l.length)=some (.done<|a t)) (t:τ):ZV body (mk t 0)=NW step a l 0 t:=
 T5 mk step a l b he l.length 0 t hQ
theorem As(mk:τ->Nat->σ)(step:τ->Nat->α->Q2 (UN τ β))(a:τ->β)(l:Q0 α)(J:Nat->τ->Prop)
  (f:∀t (i:Nat) x,l[i]? =some x->J i t->body (mk t i)=(step t i x).map (UN.tU λt' =>mk t'<|i+1))
  (g:∀t (i:Nat) x t',l[i]? =some x->J i t->step t i x=some (.next t')->J (i+1) t')
  (he:∀t,J l.length t->body (mk t l.length)=some (.done<|a t)):∀(k i:Nat) (t:τ),i+k=l.length->J i t->ZV body (mk t i)=NW step a (l.drop i) i t
 | 0,i,t,hi,e=>by
  have:i=l.length:=by omega
  subst this;rw[ZK,he t e,List.drop_length];rfl
 | k+1,i,t,hi,e=>by
  have d:i < l.length:=by omega
  have h:l[i]? =some l[i]:=B3 d;rw[ZK,f t i _ h e,dO d];simp only[NW];cases hs:step t i l[i] with
  | none=>rfl
  | some c=>
   cases c with
   | done b=>rfl
   | next t' =>exact As mk step a l J f g he k (i+1) t' hQ<|g t i _ t' h e hs
def Wr(err:Q0 α->α->Int)(l:Q0 α):Prop:=∀pre x post,l=pre++x::post->err pre x=0
def S9(err:Q0 α->α->Int)(l pre:Q0 α)(x:α):Prop:=∃post,l=pre++x::post/\Wr err pre/\err pre x≠0
theorem Wr.nil:Wr err []:=λpre x post h=>by simp at h
theorem Wr.snoc(h:Wr err l)(c:err l x=0):Wr err (l++[x]):=by
 intro pre y post e;rcases List.eq_nil_or_concat post with rfl | ⟨a,z,rfl⟩
 .have:=List.append_inj' e rfl;obtain⟨rfl,b⟩:=this;simp only[oA,and_true] at b
  subst b;exact c
 .rw[List.concat_eq_append,<-r7,<-List.append_assoc] at e
  have:=List.append_inj' e rfl;exact h pre y a this.1
theorem Wr.init{k:Q0 α}(h:Wr err (l++k)):Wr err l:=λpre x post e=>h pre x (post++k) (by rw[e];simp)
theorem S9.nm(h:S9 err l pre x):¬Wr err l:=λk=>by
 obtain⟨post,e,_,a⟩:=h;exact a<|k pre x post e
theorem FT(mk:Nat->τ->σ)(err:Q0 α->α->Int)(b:Nat->Int->β)(c:τ->β)(R:Q0 α->τ->Prop)(l:Q0 α)
  (h:∀pre x post t,l=pre++x::post->Wr err pre->R pre t->(err pre x≠0/\body (mk pre.length t)=some (.done<|b pre.length<|err pre x))∨(err pre x=0/\∃t',body (mk pre.length t)=some (.next<|mk (pre.length+1) t')/\R (pre++[x]) t'))
  (a:∀t,Wr err l->R l t->body (mk l.length t)=some (.done<|c t)):∀(post pre:Q0 α) (t:τ),l=pre++post->Wr err pre->R pre t->
  (∃p x,S9 err l p x/\ZV body (mk pre.length t)=some (b p.length<|err p x))∨(Wr err l/\∃t',R l t'/\ZV body (mk pre.length t)=some (c t'))
 | [],pre,t,d,e,f=>by
  rw[mo] at d;subst d
  exact .inr ⟨e,t,f,by rw[ZK,a t e f]⟩
 | x::post,pre,t,d,e,f=>by
  rcases h pre x post t d e f with⟨he,hs⟩ | ⟨he,t',hs,g⟩
  .exact .inl ⟨pre,x,⟨post,d,e,he⟩,by rw[ZK,hs]⟩
  .have:=FT mk err b c R l h a post (pre++[x]) t' (by rw[d];simp) (e.snoc he) g;rw[ZK,hs];simpa using this
theorem Ha(mk:Nat->τ->σ)(b:τ->β)(R:Q0 α->τ->Prop)(l:Q0 α)
  (h:∀pre x post t,l=pre++x::post->R pre t->∃t',body (mk pre.length t)=some (.next<|mk (pre.length+1) t')/\R (pre++[x]) t')
  (a:∀t,R l t->body (mk l.length t)=some (.done<|b t)):∀(post pre:Q0 α) (t:τ),l=pre++post->R pre t->∃t',R l t'/\ZV body (mk pre.length t)=some (b t')
 | [],pre,t,c,d=>by
  rw[mo] at c;subst c
  exact⟨t,d,by rw[ZK,a t d]⟩
 | x::post,pre,t,c,d=>by
  obtain⟨t',hs,e⟩:=h pre x post t c d;have:=Ha mk b R l h a post (pre++[x]) t' (by rw[c];simp) e;rw[ZK,hs];simpa using this
theorem GN(mk:Nat->τ->σ)(b:τ->β)(R:Nat->τ->Prop)(n:Nat)
  (h:∀i t,i < n->R i t->∃t',body (mk i t)=some (.next<|mk (i+1) t')/\R (i+1) t')
  (a:∀t,R n t->body (mk n t)=some (.done<|b t)):∀(k i:Nat) (t:τ),i+k=n->R i t->∃t',R n t'/\ZV body (mk i t)=some (b t')
 | 0,i,t,e,c=>by
  have:i=n:=by omega
  subst this;exact⟨t,c,by rw[ZK,a t c]⟩
 | k+1,i,t,e,c=>by
  obtain⟨t',hs,d⟩:=h i t hQ c;rw[ZK,hs];exact GN mk b R n h a k (i+1) t' hQ d
theorem ZZ{e:Q2 α}{a:α}{r:Q2 β}(h:e=some a)(k:f a=r):e.bind f=r:=by
 rw[h];exact k
theorem Td{k:Q0 α}(h:l.length+k.length<=4294967296):Y1 l k=some (l++k):=by
 unfold Y1;rw[DO h]
theorem YJ(h:l=pre++x::post):l[pre.length]? =some x:=by rw[h];simp
theorem Xf(h:l=pre++x::post):pre.length < l.length:=by rw[h];simp
theorem SE{p:Q0 α->Prop}(niX:p [])(snX:∀l x,p l->p (l++[x]))(l:Q0 α):p l:=by
 have:∀r:Q0 α,p r.reverse:=by
  intro r
  induction r with
  | nil=>exact niX
  | cons x r a=>rw[List.reverse_cons];exact snX _ _ a
 have:=this l.reverse
 rwa[List.reverse_reverse] at this
theorem MV(I:σ->Prop)(μ:σ->Nat)(Q:β->Prop)
  (h:∀s,I s->(∃a,body s=some (.next a)/\I a/\μ a < μ s)∨∃b,body s=some (.done b)/\Q b):∀(n:Nat) (s:σ),μ s<=n->I s->∃b,ZV body s=some b/\Q b
 | 0,s,g,hi=>by
  rcases h s hi with⟨a,_,_,d⟩ | ⟨b,c,e⟩
  .omega
  .exact⟨b,by rw[ZK,c],e⟩
 | n+1,s,g,hi=>by
  rcases h s hi with⟨a,c,f,d⟩ | ⟨b,c,e⟩
  .rw[ZK,c];exact MV I μ Q h n a hQ f
  .exact⟨b,by rw[ZK,c],e⟩
end
section
variable{γ:Type}{Fb:Fz}{l:Nat}{L:Loop}{assign body:oZ}{f:Nm}
theorem EI{a:C3 K2}:RoundIn (NH O) n P l f a assign body w R↔RoundIn Fence.wide n P l f a assign body w R:=by
 cases O with
 | none=>exact Iff.rfl
 | some l=>exact Iff.rfl
def WK(P:B2)(l:Nat)(F:Fz)(arg:α->Fz->Q0 K2->Prop)(Y:σ->Fz->HP)(y:α->σ->Q2 (σ×Bool)):Prop:=
 (∀s F0 a m,F<=F0->F0<=a->Y s F0 m->Y s a m)/\
 ∀a,F<=a->∀x vs s r,arg x a vs->y x s=some r->∀w R,SH w a (star (Y s a) R)->
  ∃f b assign body,(Instr.yield l vs.toArray).run P w= .ok (.round l f b assign body) w/\
   RoundIn Fence.wide 0 P l f b assign body w (λe w' =>∃c,a<=c/\e= .returned (.bool r.2)/\SH w' c (star (Y r.1 c) R))
def wa(P:B2)(F:Fz)(f:Nm)(eY:Q0 K2)(arg:α->Fz->Q0 K2->Prop)(mk:∀σ:Type,(α->σ->Q2 (σ×Bool))->σ->Q2 σ):Prop:=
 (∀args w,(callFunc f args).run P w= .ok (.enter f args) w)/\
 ∀(σ:Type) (l:Nat) (Y:σ->Fz->HP) (y:α->σ->Q2 (σ×Bool)) (a:Fz),F<=a->WK P l a arg Y y->∀s,CT P f (.func (.yield l) #[] #[]::eY).toArray a (Y s a) (mk σ y s) (λ_ _ _=>True) λb c _=>Y b c
theorem GG.pH{of:OF}{y:α->σ->Q2 (σ×Bool)}{x:α}{g:σ×Bool->Q2 β}
  (z:Nat.blt d n=true) (v:WK P l Fb arg Y y) (A:QS S of=some (.func (.yield l) #[] #[])) (B:Un S os=some vs) (C:arg x F vs) (hi:hs[i]? =some (Y s F0)) (h:Fb<=F0) (le:F0<=F)
  (k:∀p t,y x s=some p->F<=t->GL O P eX rest ks Q (Hd n D ((d,.bool p.2)::S) t<|hs.set i<|Y p.1 t) (g p) r):GL O P eX (⟨some d,.call ⟨.value of,os.toArray,T⟩,ty,pos,after,none⟩::rest) ks Q (Hd n D S F hs) ((y x s).bind g) r:=by
 intro c a w q;cases he:y x s with
 | none=>rw[he] at c;cases c
 | some p=>
  rw[he] at c
  obtain⟨f,j,assign,body,E,b⟩:=v.2 F (Fz.le_trans h le) x vs s p C he w _<|(q.2.pull hi).mono λ_ c=>QR (λ_ c=>v.1 s F0 F _ h le c) c;refine dN ?_;unfold Xp;rw[DO<|by simp[Region.wanted]];refine⟨.inr rfl,?_⟩;have e:=He q.1 B
  have o:(execOp a.eval ⟨some d,.call ⟨.value of,os.toArray,T⟩,ty,pos,after,none⟩).run P w= .ok (.round l f j assign body) w:=by
   simp[execOp,resolve,Deferred.ofValue,q.1.eval A,e,invoke,E]
  rw[o];refine⟨λe=>(by rw[BU] at e;cases e),EI.2<|b.mono ?_⟩;rintro _ w' ⟨G,u,rfl,H⟩;exact k p G he u c _ _ ⟨q.1.put z _,SH.push hi H⟩
theorem GG.ml{y:α->σ->Q2 (σ×Bool)}(i:Nat)(c:WK P l Fb arg Y y)(hi:hs[i]? =some (Y s F0))(a:Fb<=F0)(le:F0<=F)
  (k:GG g (Hd n D S F<|hs.set i<|Y s F) m r):GG g (Hd n D S F hs) m r:=by
 exact GG.th (λ_ _ h=>⟨h.1,SH.push hi<|(h.2.pull hi).mono λ_ b=>QR (λ_ b=>c.1 s F0 F _ a le b) b⟩) k
def UP(L:Loop):Obj:=.loop {L with state:=.ready,pending:=none}
def UJ(L:Loop):Obj:=.loop {L with state:=.busy,pending:=none}
def qe(L:Loop):Obj:=.loop {L with state:=.done,pending:=some .ret}
def T4(L:Loop)(c:Q2 oZ):Obj:=.loop {L with state:=.exhausted,pending:=c}
def jz(body:α->τ->Q2 (UN τ γ)):α->UN τ γ->Q2 (UN τ γ×Bool)
 | x,.next s=>(body x s).map λc=>(c,match c with | .next _=>true | .done _=>false)
 | _,.done _=>none
def yS(Fb:Fz)(l:Nat)(L:Loop)(I:τ->Fz->Q0 HP->Prop)(J:γ->Fz->Q0 HP->Prop):UN τ γ->Fz->HP
 | .next s,F=>λm=>∃F0 hs,Fb<=F0/\F0<=F/\I s F0 hs/\star (pt l<|UP L) (Qk hs) m
 | .done b,F=>λm=>∃F0 hs,Fb<=F0/\F0<=F/\J b F0 hs/\star (pt l<|qe L) (Qk hs) m
def RP(l:Nat)(L:Loop)(I:τ->Fz->Q0 HP->Prop)(J:γ->Fz->Q0 HP->Prop)(d:Fz)(R:HP)(c:UN τ γ):s6->Act->By->Prop:=λe _ w=>
 match c with
 | .next s=>e= .normal/\∃a hs,d<=a/\I s a hs/\SH w a (Qk<|pt l (UJ L)::R::hs)
 | .done b=>e= .ret/\∃a hs,d<=a/\J b a hs/\SH w a (Qk<|pt l (UJ L)::R::hs)
def BP(P:B2)(l:Nat)(body:oZ)(Q:s6->Act->By->Prop):s6->Act->By->Prop:=λe a w=>
 e= .normal/\∃w₂,(Instr.beginRound l).run P w= .ok () w₂/\body.wpIn (NH<|some l) 0 P Q a w₂
theorem yO(h:w.heap[l]? =some (UP L)):(Instr.beginRound l).run P w= .ok () (put w l<|UJ L):=run_beginRound (r:={L with state:=.ready,pending:=none}) h rfl
theorem qE(h:w.heap[l]? =some (UJ L)):(Instr.endRound l none).run P w= .ok (.bool true) (put w l<|UP L):=run_endRound (r:={L with state:=.busy,pending:=none}) none h
theorem uD(h:w.heap[l]? =some (UJ L)):(Instr.endRound l<|some .ret).run P w= .ok (.bool false) (put w l<|qe L):=run_endRound (r:={L with state:=.busy,pending:=none}) (some .ret) h
theorem BF(h:w.heap[l]? =some (UP L)):(Instr.endLoop l).run P w= .ok none (put w l<|T4 L none):=run_endLoop (r:={L with state:=.ready,pending:=none}) h ic
theorem EG(h:w.heap[l]? =some (qe L)):(Instr.endLoop l).run P w= .ok (some .ret) (put w l<|T4 L<|some .ret):=run_endLoop (r:={L with state:=.done,pending:=some .ret}) h ic
section
variable{F1:Fz}{R:HP}
variable{γ:Type}{l:Nat}{L:Loop}{I:τ->Fz->Q0 HP->Prop}{J:γ->Fz->Q0 HP->Prop}{body assign:oZ}
theorem GG.begin(i:Nat)(hi:hs[i]? =some (pt l<|UP L))(k:GC (some l) P body [] Q (Hd n D S F<|hs.set i<|pt l<|UJ L) m r):GE (some l) P [] (BP P l body Q) (Hd n D S F hs) m r:=λc a _ b=>⟨rfl,_,yO<|SH.sK hi b.2,k c a _ ⟨b.1,SH.putAt hi b.2 _⟩⟩
theorem RP.norm{s:τ}{b:UN τ γ}(le:F1<=F)(h:I s F hs')(e:hs=pt l (UJ L)::R::hs'):some (UN.next s)=some b->∀a w,Hd n D S F hs a w->RP l L I J F1 R b .normal a w:=λc a w d=>by
 simp only[UV] at c;subst c;subst e;exact⟨rfl,F,hs',le,h,d.2⟩
theorem RP.ret{b:γ}{c:UN τ γ}(le:F1<=F)(h:J b F hs')(e:hs=pt l (UJ L)::R::hs'):some (UN.done b)=some c->∀a w,Hd n D S F hs a w->RP l L I J F1 R c .ret a w:=λd a w g=>by
 simp only[UV] at d;subst d;subst e;exact⟨rfl,F,hs',le,h,g.2⟩
theorem RP.tu{s b:τ}(le:F1<=F)(h:I s F hs')(e:hs=pt l (UJ L)::R::hs'):some s=some b->∀a w,Hd n D S F hs a w->RP l L I J F1 R (.next b) .normal a w:=λc a w d=>by
 simp only[UV] at c;subst c;subst e;exact⟨rfl,F,hs',le,h,d.2⟩
theorem SH.three{p:HP}(h:SH w F (Qk<|p::q::hs)):SH w F (star (star p<|Qk hs) q):=
 h.mono λm t=>by
  obtain⟨a,B,d,u,g,v,x⟩:=t;obtain⟨y,i,z,j,b,c,A⟩:=x
  classical
  refine⟨λk=>if a k=none then i k else a k,y,?_,?_,j.trans g,⟨a,i,d.sub (Mem.sub.refl _) b,?_,?_,v,A⟩,c⟩
  .intro k;by_cases e:a k=none
   .simp only[e,B1];exact(z k).symm
   .simp only[e,Bm];rcases(d.sub (Mem.sub.refl a) j) k with h | h
    .exact absurd h e
    .exact .inr h
  .intro k o e;by_cases s:a k=none
   .simp only[s,B1] at e;exact g k o<|b k o e
   .simp only[s,Bm] at e;exact u k o e
  .intro k o e;simp[e]
  .intro k o e;have:a k=none:=(d.sub (Mem.sub.refl a) b).tM e;simp[this,e]
theorem SH.tE{p:HP}(h:SH w F (star (star p<|Qk hs) q)):SH w F (Qk<|p::q::hs):=
 h.mono λm s=>by
  obtain⟨A,a,d,c,t,⟨u,g,v,i,b,x,y⟩,z⟩:=s
  classical
  refine⟨u,λk=>if a k=none then g k else a k,?_,i.trans c,?_,x,a,g,?_,?_,?_,z,y⟩
  .intro k;by_cases e:a k=none
   .simp only[e,B1];exact v k
   .simp only[e,Bm];rcases(d.sub i<|Mem.sub.refl a) k with h | h
    .exact .inl h
    .exact absurd h e
  .intro k o e;by_cases j:a k=none
   .simp only[j,B1] at e;exact c k o<|b k o e
   .simp only[j,Bm] at e;exact t k o e
  .exact(d.sub b<|Mem.sub.refl a).symm
  .intro k o e;simp[e]
  .intro k o e;have:a k=none:=(d.sub b<|Mem.sub.refl a).sc e;simp[this,e]
theorem SH.aM{s:τ}(h:SH w F (star (yS Fb l L I J (.next s) F) R)):∃F0 hs,Fb<=F0/\F0<=F/\I s F0 hs/\SH w F (Qk<|pt l (UP L)::R::hs):=by
 obtain⟨m,⟨a,b,d,c,e,⟨F0,hs,g,i,j,o⟩,p⟩,k⟩:=h;exact⟨F0,hs,g,i,j,SH.tE ⟨m,⟨a,b,d,c,e,o,p⟩,k⟩⟩
theorem SH.tt{b:γ}(h:SH w F (star (yS Fb l L I J (.done b) F) R)):∃F0 hs,Fb<=F0/\F0<=F/\J b F0 hs/\SH w F (Qk<|pt l (qe L)::R::hs):=by
 obtain⟨m,⟨a,c,d,e,g,⟨F0,hs,i,j,o,p⟩,q⟩,k⟩:=h;exact⟨F0,hs,i,j,o,SH.tE ⟨m,⟨a,c,d,e,g,p,q⟩,k⟩⟩
theorem NQ{bm:α->τ->Q2 (UN τ γ)}{S' :Q0 K2->Q0 (Nat×K2)}(N:∀x T vs,arg x T vs->vs.length=L.params.size)(V:L.assign=assign)(W:L.body=body)
  (z:∀vs:Q0 K2,vs.length=L.params.size->Sl n [] (S' vs) {tmps:=(L.params.zip vs.toArray).foldl (λtmps (t,a)=>tmps.setIfInBounds t a) L.tmps,defers:=[]})
  (round:∀F0 F1 x vs s d R hs,F<=F0->F0<=F1->arg x F1 vs->I s F0 hs->GC (some l) P assign [] (BP P l body<|RP l L I J F1 R d) (Hd n [] (S' vs) F1<|pt l (UP L)::R::hs) (bm x s) d):WK P l F arg (yS F l L I J) (jz bm):=by
 refine⟨λc F0 F1 m _ q g=> ?_,λF1 q x vs c r K i w R X=> ?_⟩
 .cases c with
  | next s=>obtain⟨G,hs,A,B,k⟩:=g;exact⟨G,hs,A,Fz.le_trans B q,k⟩
  | done b=>obtain⟨G,hs,A,B,k⟩:=g;exact⟨G,hs,A,Fz.le_trans B q,k⟩
 cases c with
 | done b=>simp[jz] at i
 | next s=>
  simp only[jz] at i
  cases C:bm x s with
  | none=>rw[C] at i;cases i
  | some d=>
   rw[C] at i
   simp only[RK,UV] at i
   subst i;obtain⟨F0,hs,Y,E,Z,u⟩:=SH.aM X;have hl:w.heap[l]? =some (UP L):=SH.sK (k:=0) rfl u;have M:=N x F1 vs K;refine⟨L.fn,_,L.assign,L.body,run_yield (r:={L with state:=.ready,pending:=none}) hl (by simpa using M),?_⟩;refine roundIn_of_wpIn trivial ?_;rw[V,W];have hg:=round F0 F1 x vs s d R hs Y E K Z C _ w ⟨z vs M,u⟩;refine qAH hg λe a1 w1 y=> ?_;obtain⟨rfl,w2,H,j⟩:=y;refine⟨w2,H,qAH j λe a2 w3 y=> ?_⟩;cases d with
   | next s' =>
    obtain⟨rfl,v,o,le,p,h⟩:=y;refine⟨_,_,qE<|SH.sK (k:=0) rfl h,v,le,rfl,(SH.three<|SH.putAt (k:=0) rfl h<|UP L).mono λm g=>QR (λm g=> ?_) g⟩;exact⟨v,o,Fz.le_trans q le,Fz.le_refl _,p,g⟩
   | done b=>
    obtain⟨rfl,v,o,le,p,h⟩:=y;refine⟨_,_,uD<|SH.sK (k:=0) rfl h,v,le,rfl,(SH.three<|SH.putAt (k:=0) rfl h<|qe L).mono λm g=>QR (λm g=> ?_) g⟩;exact⟨v,o,Fz.le_trans q le,Fz.le_refl _,p,g⟩
end
abbrev WZ(q:Nat):AT:={target:=.collected q,args:=#[]}
theorem N0:∀{ps:Q0 Nat} {vs:Q0 K2} {t:C3 K2} {S:Q0 (Nat×K2)},(ps.all λp=>Nat.blt p n)=true->Sl n [] S {tmps:=t,defers:=[]}->
  Sl n [] ((ps.zip vs).reverse++S) {tmps:=(ps.zip vs).foldl (λtmps (t,a)=>tmps.setIfInBounds t a) t,defers:=[]}
 | [],_,_,_,_,h=>h
 | _::_,[],_,_,_,h=>h
 | p::ps,v::vs,t,S,b,h=>by
  simp only[ld,BY] at b
  have c:=Sl.put h b.1 v;have d:=N0 (ps:=ps) (vs:=vs) (S:=(p,v)::S) (t:=t.setIfInBounds p v) b.2 c;simpa using d
theorem BE{ps:Q0 Nat}{t:C3 K2}(b:(ps.all λp=>Nat.blt p n)=true)(h:Sl n [] S {tmps:=t,defers:=[]}):Sl n [] ((ps.zip vs).reverse++S) {tmps:=(ps.toArray.zip vs.toArray).foldl (λtmps (t,a)=>tmps.setIfInBounds t a) t,defers:=[]}:=by
 rw[List.zip_toArray,List.foldl_toArray];exact N0 b h
section
variable{γ:Type}{g:OF}{ps:Q0 Tmp}{assign body:oZ}{f:Nm}{mk:∀σ:Type,(α->σ->Q2 (σ×Bool))->σ->Q2 σ}{bm:α->τ->Q2 (UN τ γ)}{s0:τ}{k:UN τ γ->Q2 β}
theorem GG.rangeFunc(I:τ->Fz->Q0 HP->Prop)(J:γ->Fz->Q0 HP->Prop)(X:QS S g=some (.func (.func f) #[] eY.toArray))(y:wa P F f eY arg mk)(G:(ps.all λp=>Nat.blt p n)=true)(z:∀x h vs,arg x h vs->vs.length=ps.length)
  (H:I s0 F hs)
  (round:∀l L F0 u x vs s j R hs',F<=F0->F0<=u->arg x u vs->I s F0 hs'->GC (some l) P assign [] (BP P l body<|RP l L I J u R j) (Hd n [] ((ps.zip vs).reverse++S) u<|pt l (UP L)::R::hs') (bm x s) j)
  (next:∀q F0 h s hs',F<=F0->F0<=h->mk _ (jz bm) (.next s0)=some (.next s)->I s F0 hs'->GE none P ks Q (Hd n (WZ q::D) S h<|pt q (.deferred<|some [])::hs') (k<|.next s) r)
  (done:∀q F0 h b hs',F<=F0->F0<=h->mk _ (jz bm) (.next s0)=some (.done b)->J b F0 hs'->GC none P .ret ks Q (Hd n (WZ q::D) S h<|pt q (.deferred<|some [])::hs') (k<|.done b) r):GC none P (.rangeFunc g ps.toArray assign body) ks Q (Hd n D S F hs) ((mk (UN τ γ) (jz bm)<|.next s0).bind k) r:=by
 intro d a w i;cases A:mk (UN τ γ) (jz bm) (.next s0) with
 | none=>rw[A] at d;cases d
 | some c=>
  rw[A] at d
  refine qAe λfn _=> ?_
  let L:Loop:={state:=.ready,pending:=none,fn,tmps:=a.tmps,params:=ps.toArray,assign,body,defers:=w.heap.size}
  have K:SH ((w.alloc<|.deferred<|some []).alloc<|.loop L) F (star (yS F (w.heap.size+1) L I J (.next s0) F)<|Qk [pt w.heap.size<|.deferred<|some []]):=by
   have o:=(i.2.alloc<|.deferred<|some []).alloc<|.loop L;rw[qAA] at o
   have Y:SH ((w.alloc<|.deferred<|some []).alloc<|.loop L) F (Qk<|pt (w.heap.size+1) (UP L)::Qk [pt w.heap.size<|.deferred<|some []]::hs):=by
    refine o.mono λm d=>QT (λm d=>QR (λm d=> ?_) d) d;exact⟨m,λ_=>none,λ_=>.inr rfl,Mem.sub.refl _,λ_ _ e=>by simp at e,d,trivial⟩
   exact(SH.three Y).mono λm d=>QR (λm d=>⟨F,hs,Fz.le_refl _,Fz.le_refl _,H,d⟩) d
  have Z:WK P (w.heap.size+1) F arg (yS F (w.heap.size+1) L I J) (jz bm):=by
   refine NQ (S' :=λvs=>(ps.zip vs).reverse++S) (assign:=assign) (body:=body) (λx h vs M=>by rw[z x h vs M];simp[L]) rfl rfl (λvs _=>BE G ⟨i.1.1,rfl,i.1.2.2⟩) ?_;exact λF0 u x vs s j R hs' B o M H=>round _ L F0 u x vs s j R hs' B o M H
  have hc:=y.2 _ _ _ _ F (Fz.le_refl F) Z (.next s0) c A _ _ K;refine⟨w.heap.size+1,[WZ w.heap.size],(w.alloc<|.deferred<|some []).alloc<|.loop L,⟨.fn (.func f) eY.toArray,#[.func (.yield<|w.heap.size+1) #[] #[]]⟩,(w.alloc<|.deferred<|some []).alloc<|.loop L,f,(.func (.yield<|w.heap.size+1) #[] #[]::eY).toArray,(w.alloc<|.deferred<|some []).alloc<|.loop L,oq fn a.tmps ps.toArray assign body,?_,λ_ _=>trivial,?_,λe=>(by cases e),?_⟩
  .have N:a.eval (.const<|.func (.yield<|w.heap.size+1) #[] #[])= .func (.yield<|w.heap.size+1) #[] #[]:=rfl;simp[resolve,Deferred.ofValue,i.1.eval X,N]
  .simp[invoke,y.1]
  .refine s9.2<|hc.mono ?_;rintro _ w' ⟨h,v,le,rfl, -,C⟩;cases c with
   | next s=>
    obtain⟨F0,hs',B,o,t,E⟩:=SH.aM C;refine⟨none,_,BF<|SH.sK (k:=0) rfl E,?_⟩;have T:SH _ h (Qk<|pt w.heap.size (.deferred<|some [])::hs'):=(SH.se 0<|SH.putAt (k:=0) rfl E<|T4 L none).mono λm d=>QR (λm d=>by obtain⟨m1,_,_,V,_,W,_⟩:=d;exact V _ _ W) d;exact next w.heap.size F0 h s hs' B o A t d _ _ ⟨⟨i.1.1,by simp[i.1.2.1],i.1.2.2⟩,T⟩
   | done b=>
    obtain⟨F0,hs',B,o,t,E⟩:=SH.tt C;refine⟨some .ret,_,EG<|SH.sK (k:=0) rfl E,?_⟩;have T:SH _ h (Qk<|pt w.heap.size (.deferred<|some [])::hs'):=(SH.se 0<|SH.putAt (k:=0) rfl E<|T4 L<|some .ret).mono λm d=>QR (λm d=>by obtain⟨m1,_,_,V,_,W,_⟩:=d;exact V _ _ W) d;exact done w.heap.size F0 h b hs' B o A t d _ _ ⟨⟨i.1.1,by simp[i.1.2.1],i.1.2.2⟩,T⟩
def WG(y:α->σ->Q2 (σ×Bool)):Q0 α->σ->Q2 σ
 | [],s=>some s
 | x::xs,s=>(y x s).bind λp=>if p.2 then WG y xs p.1 else some p.1
def Nb(P:B2)(F:Fz)(f:Nm)(eY:Q0 K2)(arg:α->Fz->Q0 K2->Prop)(l:Q0 α):Prop:=wa P F f eY arg λ_ y s=>WG y l s
def VH(b:α->τ->Q2 τ):Q0 α->τ->Q2 τ
 | [],s=>some s
 | x::xs,s=>(b x s).bind<|VH b xs
def TF(b:α->τ->Q2 (UN τ γ)):Q0 α->τ->Q2 (UN τ γ)
 | [],s=>some (.next s)
 | x::xs,s=>(b x s).bind λc=>match c with
  | .next a=>TF b xs a
  | .done r=>some<|.done r
theorem DD(b:α->τ->Q2 (UN τ γ)):∀(l:Q0 α) (s:τ),WG (jz b) l (.next s)=TF b l s
 | [],s=>rfl
 | x::xs,s=>by
  simp only[WG,jz,TF];cases h:b x s with
  | none=>rfl
  | some c=>
   cases c with
   | next a=>simpa using DD b xs a
   | done r=>simp
theorem BI(b:α->τ->Q2 τ):∀(l:Q0 α) (s:τ),TF (γ:=Empty) (λx s=>(b x s).map .next) l s=(VH b l s).map .next
 | [],s=>rfl
 | x::xs,s=>by
  simp only[TF,VH];cases h:b x s with
  | none=>rfl
  | some a=>simpa using BI b xs a
theorem GG.rM{l:Q0 α}(I:τ->Fz->Q0 HP->Prop)(J:γ->Fz->Q0 HP->Prop)(j:QS S g=some (.func (.func f) #[] eY.toArray))(h:Nb P F f eY arg l)(i:(ps.all λp=>Nat.blt p n)=true)(c:∀x a vs,arg x a vs->vs.length=ps.length)
  (o:I s0 F hs)
  (round:∀l L F0 e x vs s d R hs',F<=F0->F0<=e->arg x e vs->I s F0 hs'->GC (some l) P assign [] (BP P l body<|RP l L I J e R d) (Hd n [] ((ps.zip vs).reverse++S) e<|pt l (UP L)::R::hs') (bm x s) d)
  (next:∀q F0 a s hs',F<=F0->F0<=a->TF bm l s0=some (.next s)->I s F0 hs'->GE none P ks Q (Hd n (WZ q::D) S a<|pt q (.deferred<|some [])::hs') (k<|.next s) r)
  (done:∀q F0 a b hs',F<=F0->F0<=a->TF bm l s0=some (.done b)->J b F0 hs'->GC none P .ret ks Q (Hd n (WZ q::D) S a<|pt q (.deferred<|some [])::hs') (k<|.done b) r):GC none P (.rangeFunc g ps.toArray assign body) ks Q (Hd n D S F hs) ((TF bm l s0).bind k) r:=by
 rw[<-DD] at next done ⊢
 exact GG.rangeFunc (mk:=λ_ y s=>WG y l s) I J j h i c o round next done
theorem GG.aj{l:Q0 α}{bm:α->τ->Q2 τ}{k:τ->Q2 β}(I:τ->Fz->Q0 HP->Prop)(C:QS S g=some (.func (.func f) #[] eY.toArray))(t:Nb P F f eY arg l)(u:(ps.all λp=>Nat.blt p n)=true)(j:∀x e vs,arg x e vs->vs.length=ps.length)
  (v:I s0 F hs)
  (round:∀l L F0 i x vs s a R hs',F<=F0->F0<=i->arg x i vs->I s F0 hs'->GC (some l) P assign [] (BP P l body<|RP l L I (fun(_:Empty) _ _=>False) i R<|.next a) (Hd n [] ((ps.zip vs).reverse++S) i<|pt l (UP L)::R::hs') (bm x s) a)
  (next:∀q F0 e s hs',F<=F0->F0<=e->VH bm l s0=some s->I s F0 hs'->GE none P ks Q (Hd n (WZ q::D) S e<|pt q (.deferred<|some [])::hs') (k s) r):GC none P (.rangeFunc g ps.toArray assign body) ks Q (Hd n D S F hs) ((VH bm l s0).bind k) r:=by
 have h:=GG.rM (γ:=Empty) (k:=λc=>match c with | .next s=>k s | .done b=>b.elim) (bm:=λx s=>(bm x s).map .next) (ks:=ks) (Q:=Q) (D:=D) (r:=r) I (λ_ _ _=>False) C t u j v
  (λl L F0 i x vs s a R hs' y z E v=>by
   intro d;cases A:bm x s with
   | none=>rw[A] at d;cases d
   | some B=>rw[A] at d;simp only[RK,UV] at d;subst d;exact round l L F0 i x vs s B R hs' y z E v A)
  (λq F0 e s hs' y z he=>next q F0 e s hs' y z (by rw[BI] at he;cases o:VH bm l s0 with | none=>rw[o] at he;cases he | some B=>rw[o] at he;simp only[RK,UV,UN.next.injEq] at he;rw[he]))
  (λ_ _ _ b=>b.elim)
 rw[BI] at h
 cases o:VH bm l s0 with
 | none=>intro d;cases d
 | some s=>rw[o] at h;exact h
end
def uR:Q0 HP->Q0 (Nat×Nat)->Prop
 | _,[]=>True
 | hs,(i,q)::a=>hs[i]? =some (pt q<|.deferred<|some [])/\uR (hs.set i<|pt q<|.deferred none) a
def H6:Q0 HP->Q0 (Nat×Nat)->Q0 HP
 | hs,[]=>hs
 | hs,(i,q)::a=>H6 (hs.set i<|pt q<|.deferred none) a
theorem NU{a:C3 K2}{R:qAq->By->Prop}:∀{b:Q0 (Nat×Nat)} {hs:Q0 HP} {w:By},SH w F (Qk hs)->uR hs b->
  (∀w',SH w' F (Qk<|H6 hs b)->∃v,(results fn a).run P w' = .ok v w'/\R (.returned v) w')->LeavesInM Fence.wide 0 P fn a R (b.map λp=>WZ p.2) .returning w
 | [],hs,w,h,_,k=>k w h
 | (i,q)::b,hs,w,h,c,k=>by
  refine⟨by simp,.inl ⟨q,_,rfl,run_takeDeferred<|SH.sK c.1 h,?_⟩⟩;exact NU (SH.putAt c.1 h _) c.2 k
def ql(P:B2)(fn:oW)(F:Fz)(R:HP)(ρ:β->Fz->K2->Prop)(r:β):s6->Act->By->Prop:=bodyPostM Fence.wide 0 P fn (λe w' =>∃a v,F<=a/\e= .returned v/\ρ r a v/\SH w' a R)
theorem KO.af{c:oZ}
  (a:P.funcs[f]? =some fn) (b:fn.body=some c) (d:fn.ntmps=n) (e:Nat.ble args.length n=true)
  (k:∀r R,GC none P c [] (ql P fn F R ρ r) (Hd n [] (D4 0 args) F [R]) m r):KO P f args.toArray F m ρ:=by
 intro r g w R h;refine(s9 (n:=0)).1<|qAl a b trivial<|k r R g _ w ⟨?_,h.one⟩;rw[d];exact WC e
section
variable{R:HP}{x:β}{ms:Q0 (Nat×Nat)}
theorem zu(c:fn.results=rs.toArray)(d:uR hs ms)(h:S5 P S F' (H6 hs ms) rs vs)(hi:(H6 hs ms)[i]? =some R)(le:F<=F')(hρ:ρ x F' (Ai vs)):some x=some r->∀a w,Hd n (ms.map λp=>WZ p.2) S F' hs a w->LeavesInM Fence.wide 0 P fn a.tmps (λe w' =>∃F' v,F<=F'/\e= .returned v/\ρ r F' v/\SH w' F' R) a.defers .returning w:=by
 intro e a w b;simp only[UV] at e
 subst e;rw[b.1.2.1];refine NU b.2 d λw' h' => ?_;exact⟨_,Jn (n:=n) (a:=a) (D:=a.defers) c ⟨⟨b.1.1,rfl,b.1.2.2⟩,h'⟩ h,F',_,le,rfl,hρ,h'.only hi⟩
theorem GG.tp(ms:Q0 (Nat×Nat))(a:fn.results=rs.toArray)(b:uR hs ms)(h:S5 P S F' (H6 hs ms) rs vs)(hi:(H6 hs ms)[i]? =some R)(le:F<=F')(hρ:ρ x F' (Ai vs)):GC O P .ret ks (ql P fn F R ρ r) (Hd n (ms.map λp=>WZ p.2) S F' hs) (some x) r:=GG.sR<|zu a b h hi le hρ
end
end
section
variable{p:HP}
def UE(γ:Nat)(F:Fz)(i b:Nat):Prop:=γ < F.gn/\(F.gh γ)[i]? =some b
theorem UE.mono(h:UE γ F i b)(le:F<=F'):UE γ F' i b:=
 ⟨qAp h.1 le.gn,by
  obtain⟨t,e⟩:=le.gh γ h.1;rw[<-e,x8 (Fm.1 h.2).1];exact h.2⟩
theorem UE.inj{b':Nat}(h:UE γ F i b)(k:UE γ F i b'):b=b' :=by
 have:=h.2.symm.trans k.2;simpa using this
def ZT(γ:Nat)(F:Fz)(p:Q2 C1):Q2 Nat->Prop
 | none=>p=none
 | some i=>∃b,UE γ F i b/\p=some ⟨b,0,none⟩
theorem ZT.mono{p:Q2 C1}{x:Q2 Nat}(h:ZT γ F p x)(le:F<=F'):ZT γ F' p x:=by
 cases x with
 | none=>exact h
 | some i=>obtain⟨b,a,c⟩:=h;exact⟨b,a.mono le,c⟩
theorem ZT.nil:ZT γ F none none:=rfl
theorem ZT.of(h:UE γ F i b):ZT γ F (some ⟨b,0,none⟩) (some i):=⟨b,h,rfl⟩
def Z4(γ:Nat)(F:Fz)(p:Q2 Nat):Q2 Nat->Prop
 | none=>p=none
 | some i=>∃b,UE γ F i b/\p=some b
theorem Z4.mono{p:Q2 Nat}{x:Q2 Nat}(h:Z4 γ F p x)(le:F<=F'):Z4 γ F' p x:=by
 cases x with
 | none=>exact h
 | some i=>obtain⟨b,a,c⟩:=h;exact⟨b,a.mono le,c⟩
theorem Z4.nil:Z4 γ F none none:=rfl
theorem Z4.of(h:UE γ F i b):Z4 γ F (some b) (some i):=⟨b,h,rfl⟩
theorem XS{r:HP}{m:Mem}(h:star (star p q) r m):star p (star q r) m:=by
 obtain⟨y,a,d,f,s,⟨t,j,u,l,c,v,w⟩,x⟩:=h
 classical
 refine⟨t,λk=>if a k=none then j k else a k,?_,l.trans f,?_,v,j,a,(d.sub c<|Mem.sub.refl a),?_,?_,w,x⟩
 .intro k;by_cases e:a k=none
  .simp only[e,B1];exact u k
  .simp only[e,Bm];rcases(d.sub l<|Mem.sub.refl a) k with h | h
   .exact .inl h
   .exact absurd h e
 .intro k o e;by_cases n:a k=none
  .simp only[n,B1] at e;exact f k o<|c k o e
  .simp only[n,Bm] at e;exact s k o e
 .intro k o e;have:a k=none:=(d.sub c<|Mem.sub.refl a).sc e;simp[this,e]
 .intro k o e;simp[e]
theorem Ua{r:HP}{m:Mem}(h:star p (star q r) m):star (star p q) r m:=by
 have s:=Zm h;obtain⟨a,z,d,t,f,u,j,v,w,c,l,x,y⟩:=s
 classical
 refine⟨λk=>if a k=none then j k else a k,v,?_,?_,l.trans f,⟨j,a,(d.sub (Mem.sub.refl a) c).symm,?_,?_,x,u⟩,y⟩
 .intro k;by_cases e:a k=none
  .simp only[e,B1];exact w k
  .simp only[e,Bm];rcases(d.sub (Mem.sub.refl a) l) k with h | h
   .exact absurd h e
   .exact .inr h
 .intro k o e;by_cases n:a k=none
  .simp only[n,B1] at e;exact f k o<|c k o e
  .simp only[n,Bm] at e;exact t k o e
 .intro k o e;have:a k=none:=(d.sub (Mem.sub.refl a) c).tM e;simp[this,e]
 .intro k o e;simp[e]
theorem BA:∀{l l' :Q0 HP} {m:Mem},l.length=l'.length->(∀(i:Nat) (p q:HP),l[i]? =some p->l'[i]? =some q->∀m,p m->q m)->Qk l m->Qk l' m
 | [],[],_,_,_,h=>h
 | [],_::_,_,a,_,_=>by simp at a
 | _::_,[],_,a,_,_=>by simp at a
 | p::l,q::l',m,a,hi,h=>by
  have c:∀m,p m->q m:=hi 0 p q rfl rfl;have d:∀m,Qk l m->Qk l' m:=λm e=>BA (by simpa using a) (λi p q f j=>hi (i+1) p q (by simpa using f)<|by simpa using j) e;exact QR c<|QT d h
def YN:Q0 Nat->Q0 HP->Q0 HP
 | [],_=>[]
 | k::ks,hs=>(hs[k]?).getD AX::YN ks (hs.eraseIdx k)
theorem YZ:∀{ks:Q0 Nat} {hs:Q0 HP} {m:Mem},Qk hs m->Qk (YN ks hs) m
 | [],_,_,_=>trivial
 | k::ks,hs,m,h=>by
  cases e:hs[k]? with
  | some p=>simp only[YN,e,om];exact QT (λ_ h=>YZ h) (Vm e h)
  | none=>simp only[YN,e,Option.getD_none];exact QT (λ_ h=>YZ h)<|Da h
section
variable{C:Fz->Nat->α->HP}{x y:α}
def ZE(γ:Nat)(C:Fz->Nat->α->HP)(F:Fz)(xs:Q0 α):HP:=λm=>∃bs,bs.length=xs.length/\star (yr γ bs) (Qk<|List.zipWith (C F) bs xs) m
def hole(γ:Nat)(C:Fz->Nat->α->HP)(F:Fz)(j b:Nat)(xs:Q0 α):HP:=λm=>∃bs,bs.length=xs.length/\bs[j]? =some b/\star (yr γ bs) (Qk<|(List.zipWith (C F) bs xs).eraseIdx j) m
def HK(C:Fz->Nat->α->HP):Prop:=∀F F' b x m,F<=F'->C F b x m->C F' b x m
theorem NP{bs:Q0 Nat}{f:Nat->α->HP}(a:bs[j]? =some b)(c:xs[j]? =some x):(List.zipWith f bs xs)[j]? =some (f b x):=by
 rw[oe,a,c]
theorem NO:∀{bs:Q0 Nat} {f:Nat->α->HP} {xs:Q0 α} {j b:Nat} {y:α},bs[j]? =some b->(List.zipWith f bs xs).set j (f b y)=List.zipWith f bs (xs.set j y)
 | [],_,_,_,_,_,h=>by simp at h
 | c::bs,f,[],j,b,y,_=>by simp
 | c::bs,f,x::xs,0,b,y,h=>by simp at h;subst h;simp
 | c::bs,f,x::xs,j+1,b,y,h=>by
  simp only[la] at h
  simp[NO h]
theorem SH.ar(k:HK C)(le:F0<=F')(h:SH w F (star (ZE γ C F0 xs) H)):SH w F (star (ZE γ C F' xs) H):=
 h.mono λm d=>QR (λm ⟨bs,l,hs⟩=>⟨bs,l,QT (λm d=>BA ic (λi p q a c m n=>by
  rw[oe] at a c
  cases e:bs[i]? with
  | none=>rw[e] at a;simp at a
  | some b=>
   cases f:xs[i]? with
   | none=>rw[e,f] at a;simp at a
   | some x=>rw[e,f] at a c;simp at a c;subst a;subst c;exact k _ _ _ _ _ le n) d) hs⟩) d
theorem SH.aY(h:SH w F (star (ZE γ C F0 xs) H))(o:UE γ F j b)(q:xs[j]? =some x):SH w F (star (C F0 b x)<|star (hole γ C F0 j b xs) H):=by
 obtain⟨m,⟨r,s,d,l,t,⟨bs,u,n⟩,v⟩,k⟩:=h
 have a:bs[j]? =some b:=by
  obtain⟨D,E,G,z,I,A,_⟩:=n;obtain⟨_,e⟩:=k.gst γ _<|l _ _<|z _ _ A;simp only[Cell.gh.injEq] at e
  rw[e];exact o.2
 refine⟨m,XS ⟨r,s,d,l,t,?_,v⟩,k⟩;have B:=Zm<|QT (λ_ c=>Vm (NP (f:=C F0) a q) c) n;exact QT (λm c=>⟨bs,u,a,c⟩) B
theorem SH.az(t:HK C)(le:F0<=F')(h:SH w F (star (C F' b y)<|star (hole γ C F0 j b xs) H))(u:j < xs.length):SH w F (star (ZE γ C F'<|xs.set j y) H):=by
 refine h.mono λm e=> ?_;refine QR (λm e=> ?_)<|Ua e;obtain⟨v,z,d,A,B,r,bs,D,l,E⟩:=e;refine⟨bs,by simpa using D,?_⟩;have G:star (C F' b y) (star (yr γ bs)<|Qk<|(List.zipWith (C F0) bs xs).eraseIdx j) m:=⟨v,z,d,A,B,r,E⟩;refine QT (λm e=> ?_)<|Zm G;have o:xs[j]? =some xs[j]:=by simp[u]
 have I:star (C F' b y) (Qk<|(List.zipWith (C F') bs xs).eraseIdx j) m:=QT (λm e=>BA (by simp[List.length_eraseIdx]) (λi p q a c m r=>by
  rw[qAY] at a c
  have key:∀n,(List.zipWith (C F0) bs xs)[n]? =some p->(List.zipWith (C F') bs xs)[n]? =some q->q m:=λn a c=>by
   rw[oe] at a c
   cases s:bs[n]? with
   | none=>rw[s] at a;simp at a
   | some b=>
    cases o:xs[n]? with
    | none=>rw[s,o] at a;simp at a
    | some x=>rw[s,o] at a c;simp at a c;subst a;subst c;exact t _ _ _ _ _ le r
  split at a
  .rename_i k;rw[DO k] at c;exact key i a c
  .rename_i k;rw[Do k] at c;exact key (i+1) a c) e) e
 rw[<-NO (f:=C F') l];exact Fs (NP (f:=C F') l o) I
theorem SH.nW(u:HK C)(le:F0<=F)(h:SH w F (star p<|star (ZE γ C F0 xs) H))(v:∀F' m,F<=F'->p m->C F' b x m):∃F',F<=F'/\UE γ F' xs.length b/\SH w F' (star (ZE γ C F'<|xs++[x]) H):=by
 obtain⟨m,a,k⟩:=h;obtain⟨z,A,d,B,D,⟨bs,n,E⟩,G⟩:=Zm a;have s:SH w F (star (yr γ bs)<|star (Qk<|List.zipWith (C F0) bs xs)<|star p H):=⟨m,XS ⟨z,A,d,B,D,E,G⟩,k⟩;obtain⟨I,K⟩:=s.pj;obtain⟨e,L⟩:=s.aa b;refine⟨F.aa γ b,e,⟨I,?_⟩,?_⟩
 .show(if γ=γ then F.gh γ++[b] else F.gh γ)[xs.length]? =some b;rw[DO rfl,K,<-n];simp
 .refine L.mono λm a=> ?_;have M:star (yr γ<|bs++[b]) (star p<|star (Qk<|List.zipWith (C F0) bs xs) H) m:=QT (λm a=>Zm a) a;refine QR (λm a=> ?_)<|Ua<|QT (λm a=>Ua a) M;refine⟨bs++[b],by simp[n],QT (λm a=> ?_) a⟩;have o:F0<=F.aa γ b:=Fz.le_trans le e;have N:Qk (p::List.zipWith (C F0) bs xs) m:=a
  have P:Qk (C (F.aa γ b) b x::List.zipWith (C<|F.aa γ b) bs xs) m:=BA ic (λi p' q c f m l=>by
   cases i with
   | zero=>simp at c f;subst c;subst f;exact v _ _ e l
   | succ i=>
    simp only[la] at c f
    rw[oe] at c f
    cases r:bs[i]? with
    | none=>rw[r] at c;simp at c
    | some b=>
     cases t:xs[i]? with
     | none=>rw[r,t] at c;simp at c
     | some x=>rw[r,t] at c f;simp at c f;subst c;subst f;exact u _ _ _ _ _ o l) N
  have Q:=stars_snoc P;rw[List.zipWith_append<|by simpa using n];exact Q
where
 stars_snoc:∀{l:Q0 HP} {p:HP} {m:Mem},Qk (p::l) m->Qk (l++[p]) m
  | [],_,_,h=>h
  | q::l,p,m,h=>QT (λ_ h=>stars_snoc h)<|Zm h
end
def Uy(T:S2)(c:Up α)(F:Fz)(b:Nat)(x:α):HP:=λm=>∃vs,(∀F',F<=F'->c F' x vs)/\pt b (.cells vs.toArray T) m
theorem Uy.stays{T:S2}:HK (Uy T c):=λ_ _ _ _ _ le ⟨vs,h,k⟩=>⟨vs,λG a=>h G<|Fz.le_trans le a,k⟩
section
variable{X:Act->By->Prop}
variable{C:Fz->Nat->α->HP}{x y:α}
theorem GG.pick(ks:Q0 Nat)(h:YN ks hs=hs')(k:GG g (Hd n D S F hs') m r):GG g (Hd n D S F hs) m r:=by
 exact λd a w c=>k d a w ⟨c.1,h▸c.2.mono λ_=>YZ⟩
theorem GG.aY(i:Nat)(hi:hs[i]? =some (ZE γ C F0 xs))(d:UE γ F j b)(e:xs[j]? =some x)(k:GG g (Hd n D S F<|C F0 b x::hole γ C F0 j b xs::hs.eraseIdx i) m r):GG g (Hd n D S F hs) m r:=by
 exact λf a w c=>k f a w ⟨c.1,(c.2.pull hi).aY d e⟩
theorem GG.az(d:HK C)(le:F0<=F)(e:j < xs.length)(f:∀m,p m->C F b y m)(k:GG g (Hd n D S F<|ZE γ C F (xs.set j y)::hs) m r):GG g (Hd n D S F<|p::hole γ C F0 j b xs::hs) m r:=by
 exact λl a w c=>k l a w ⟨c.1,SH.az d le (c.2.mono λ_ h=>QR f h) e⟩
theorem GG.sA(i:Nat)(d:HK C)(le:F0<=F)(hi:hs[i]? =some (ZE γ C F0 xs))(k:GG g (Hd n D S F<|hs.set i<|ZE γ C F xs) m r):GG g (Hd n D S F hs) m r:=by
 exact λe a w c=>k e a w ⟨c.1,SH.push hi<|(c.2.pull hi).ar d le⟩
end
end
end Go.Dec
end
