/- For OfficeNone. -/
import Derived.WalkKit
import Derived.OrdersIn
import Derived.RangeFuncLeaves
import Derived.ProofKit
import Derived.OpenShut
import Derived.ChangeArms
import Derived.RangeFuncNested
noncomputable section
namespace Go.Dec
section
inductive Key where
 | blk (b:Nat)
 | gst (γ:Nat)
 deriving DecidableEq
inductive Cell where
 | obj (o:Obj)
 | gh (l:List Nat)
abbrev Mem:=Key->Option Cell
abbrev HP:=Mem->Prop
structure Fz where
 mem:Nat->Option Obj
 os:Os
 tape:Nat->Question->Nat
 out:Array (Nat×ByteArray)
 gh:Nat->List Nat:=λ_=>[]
 gn:Nat:=0
structure Fz.Le(F F' :Fz):Prop where
 os:F'.os=F.os
 tape:F'.tape=F.tape
 out:F'.out=F.out
 mem:∀b o,F.mem b=some o->F'.mem b=some o
 gh:∀γ,γ < F.gn->F.gh γ <+:F'.gh γ
 gn:F.gn<=F'.gn
instance:LE Fz:=⟨Fz.Le⟩
theorem Fz.le_refl(F:Fz):F<=F:=⟨rfl,rfl,rfl,λ_ _ h=>h,λ_ _=>List.prefix_refl _,Nat.le_refl _⟩
theorem Fz.le_trans{F G H:Fz}(h:F<=G)(k:G<=H):F<=H:=
 ⟨k.os.trans h.os,k.tape.trans h.tape,k.out.trans h.out,λb o e=>k.mem b o (h.mem b o e),λγ hγ=>(h.gh γ hγ).trans (k.gh γ (Nat.lt_of_lt_of_le hγ h.gn)),Nat.le_trans h.gn k.gn⟩
def Mem.dj(m n:Mem):Prop:=∀k,m k=none∨n k=none
def Mem.sub(m n:Mem):Prop:=∀k o,m k=some o->n k=some o
def Mem.set(m:Mem)(b:Key)(o:Cell):Mem:=λk=>if k=b then some o else m k
def TH(m:Nat->Option Obj)(b:Nat)(o:Obj):Nat->Option Obj:=λk=>if k=b then some o else m k
theorem Mem.dj.symm{m n:Mem}(h:Mem.dj m n):Mem.dj n m:=λk=>(h k).symm
theorem Mem.sub.trans{m n p:Mem}(h:Mem.sub m n)(k:Mem.sub n p):Mem.sub m p:=λb o e=>k b o (h b o e)
theorem Mem.sub.refl(m:Mem):Mem.sub m m:=λ_ _ e=>e
theorem Mem.dj.sub{m n m' n' :Mem}(h:Mem.dj m n)(hm:Mem.sub m' m)(hn:Mem.sub n' n):Mem.dj m' n' :=λk=>by
 rcases h k with h | h
 ·cases e:m' k with
  | none=>exact .inl rfl
  | some o=>rw[hm k o e] at h;cases h
 ·cases e:n' k with
  | none=>exact .inr rfl
  | some o=>rw[hn k o e] at h;cases h
theorem Mem.dj.wL{m n:Mem}(h:Mem.dj m n){b:Key}{o:Cell}(e:m b=some o):n b=none:=by
 rcases h b with h | h
 ·rw[e] at h;cases h
 ·exact h
theorem Mem.dj.xo{m n:Mem}(h:Mem.dj m n){b:Key}{o:Cell}(e:n b=some o):m b=none:=h.symm.wL e
def CI:HP:=λ_=>True
def pt(b:Nat)(o:Obj):HP:=λm=>m (.blk b)=some (.obj o)
def Oj(γ:Nat)(l:List Nat):HP:=λm=>m (.gst γ)=some (.gh l)
def star(p q:HP):HP:=λm=>∃m1 m2,Mem.dj m1 m2/\Mem.sub m1 m/\Mem.sub m2 m/\p m1/\q m2
def Qj:List HP->HP
 | []=>CI
 | p::hs=>star p (Qj hs)
theorem Zd{p q r:HP}{m:Mem}(h:star p (star q r) m):star q (star p r) m:=by
 obtain⟨m1,m2,d,s1,s2,hp,n1,n2,d',t1,t2,hq,hr⟩:=h
 classical
 refine⟨n1,λk=>if n2 k=none then m1 k else n2 k,?_,t1.trans s2,?_,hq,m1,n2,?_,?_,?_,hp,hr⟩
 ·intro k;by_cases e:n2 k=none
  ·simp only[e,if_true];rcases d k with h | h
   ·exact .inr h
   ·left;cases e1:n1 k with
    | none=>rfl
    | some o=>rw[t1 k o e1] at h;cases h
  ·simp only[e,if_false];rcases d' k with h | h
   ·exact .inl h
   ·exact absurd h e
 ·intro k o e;by_cases e' :n2 k=none
  ·simp only[e',if_true] at e;exact s1 k o e
  ·simp only[e',if_false] at e;exact s2 k o (t2 k o e)
 ·exact d.sub (Mem.sub.refl _) t2
 ·intro k o e
  have hn:n2 k=none:=by
   cases e2:n2 k with
   | none=>rfl
   | some x=>
    have:=d.wL e;rw[t2 k x e2] at this;cases this
  simp[hn,e]
 ·intro k o e;simp[e]
theorem QR{p q q' :HP}(h:∀m,q m->q' m){m:Mem}(k:star p q m):star p q' m:=
 let⟨m1,m2,d,s1,s2,hp,hq⟩:=k;⟨m1,m2,d,s1,s2,hp,h _ hq⟩
theorem QX{p p' q:HP}(h:∀m,p m->p' m){m:Mem}(k:star p q m):star p' q m:=
 let⟨m1,m2,d,s1,s2,hp,hq⟩:=k;⟨m1,m2,d,s1,s2,h _ hp,hq⟩
theorem Y1:∀{hs:List HP} {k:Nat} {p:HP} {m:Mem},hs[k]? =some p->Qj hs m->star p (Qj (hs.eraseIdx k)) m
 | [],_,_,_,h,_=>by simp at h
 | q::hs,0,p,m,h,hm=>by
  simp at h;subst h;exact hm
 | q::hs,k+1,p,m,h,hm=>by
  simp only[List.getElem?_cons_succ] at h
  simp only[List.eraseIdx_cons_succ];exact Zd (QR (λm hm' =>Y1 h hm') hm)
theorem H5:∀{hs:List HP} {k:Nat} {p q:HP} {m:Mem},hs[k]? =some q->star p (Qj (hs.eraseIdx k)) m->Qj (hs.set k p) m
 | [],_,_,_,_,h,_=>by simp at h
 | x::hs,0,p,q,m,h,hm=>hm
 | x::hs,k+1,p,q,m,h,hm=>by
  simp only[List.getElem?_cons_succ] at h
  simp only[List.eraseIdx_cons_succ] at hm
  simp only[List.set_cons_succ];exact QR (λm hm' =>H5 h hm') (Zd hm)
theorem Gi{hs:List HP}{k:Nat}{m:Mem}(h:Qj hs m):star CI (Qj (hs.eraseIdx k)) m:=by
 cases e:hs[k]? with
 | some p=>exact QX (λ_ _=>trivial) (Y1 e h)
 | none=>
  have:hs.eraseIdx k=hs:=List.eraseIdx_of_length_le (by simpa using e);rw[this];exact⟨λ_=>none,m,λ_=>.inl rfl,λ_ _ e=>by simp at e,Mem.sub.refl _,trivial,h⟩
structure yB(w:World)(F:Fz)(m:Mem):Prop where
 dj:∀b,m (.blk b)=none∨F.mem b=none
 own:∀b c,m (.blk b)=some c->∃o,c= .obj o/\w.heap[b]? =some o
 gst:∀γ c,m (.gst γ)=some c->γ < F.gn/\c= .gh (F.gh γ)
 frz:∀b o,F.mem b=some o->w.heap[b]? =some o
 os:w.os=F.os
 tape:w.tape=F.tape
 out:w.output=F.out
def SH(w:World)(F:Fz)(H:HP):Prop:=∃m,H m/\yB w F m
theorem lt_of_heap{w:World}{b:Nat}{o:Obj}(h:w.heap[b]? =some o):b < w.heap.size:=by
 rcases Nat.lt_or_ge b w.heap.size with h' | h'
 ·exact h'
 ·rw[Array.getElem?_eq_none h'] at h;cases h
theorem yB.sub{w:World}{F:Fz}{m n:Mem}(h:yB w F m)(s:Mem.sub n m):yB w F n:=
 ⟨λb=>by
  rcases h.dj b with e | e
  ·cases en:n (.blk b) with
   | none=>exact .inl rfl
   | some c=>rw[s _ c en] at e;cases e
  ·exact .inr e,λb o e=>h.own b o (s _ o e),λγ c e=>h.gst γ c (s _ c e),h.frz,h.os,h.tape,h.out⟩
theorem yB.dC{w:World}{F:Fz}{m:Mem}(h:yB w F m){b:Nat}{o:Obj}(e:m (.blk b)=some (.obj o)):w.heap[b]? =some o:=by
 obtain⟨_,e1,e2⟩:=h.own b _ e;cases e1;exact e2
theorem SH.mono{w:World}{F:Fz}{H H' :HP}(h:SH w F H)(k:∀m,H m->H' m):SH w F H' :=
 let⟨m,a,b⟩:=h;⟨m,k m a,b⟩
theorem SH.drop{w:World}{F:Fz}{p q:HP}(h:SH w F (star p q)):SH w F q:=
 let⟨_,⟨_,m2,_,_,s2,_,hq⟩,b⟩:=h;⟨m2,hq,b.sub s2⟩
theorem SH.frozen{w:World}{F:Fz}{H:HP}(h:SH w F H){b:Nat}{o:Obj}(e:F.mem b=some o):w.heap[b]? =some o:=
 let⟨_,_,k⟩:=h;k.frz b o e
theorem SH.owned{w:World}{F:Fz}{b:Nat}{o:Obj}{H:HP}(h:SH w F (star (pt b o) H)):w.heap[b]? =some o:=
 let⟨_,⟨_,_,_,s1,_,hp,_⟩,k⟩:=h
 let⟨_,e,h'⟩:=k.own b _ (s1 _ _ hp)
 by cases e;exact h'
theorem SH.drew{w:World}{F:Fz}{H:HP}(h:SH w F H)(n:Nat):SH {w with drawn:=n} F H:=
 let⟨m,a,k⟩:=h;⟨m,a,k.dj,k.own,k.gst,k.frz,k.os,k.tape,k.out⟩
theorem heap_alloc_old{w:World}{o x:Obj}{b:Nat}(h:w.heap[b]? =some x):(w.alloc o).heap[b]? =some x:=by
 have:=lt_of_heap h;show(w.heap.push o)[b]? =_;rw[Array.getElem?_push,if_neg (by omega)];exact h
theorem heap_alloc_new(w:World)(o:Obj):(w.alloc o).heap[w.heap.size]? =some o:=by
 show(w.heap.push o)[w.heap.size]? =_;simp
theorem yB.fresh{w:World}{F:Fz}{m:Mem}(h:yB w F m):m (.blk w.heap.size)=none/\F.mem w.heap.size=none:=by
 constructor
 ·cases e:m (.blk w.heap.size) with
  | none=>rfl
  | some o=>obtain⟨_,_,h'⟩:=h.own _ _ e;have:=lt_of_heap h';omega
 ·cases e:F.mem w.heap.size with
  | none=>rfl
  | some o=>have:=lt_of_heap (h.frz _ _ e);omega
theorem D3{H:HP}{m:Mem}{k:Key}{c:Cell}(h:m k=none)(a:H m):star (λm=>m k=some c) H (m.set k c):=by
 refine⟨Mem.set (λ_=>none) k c,m,?_,?_,?_,?_,a⟩
 ·intro b;by_cases e:b=k
  ·subst e;exact .inr h
  ·exact .inl (by simp[Mem.set,e])
 ·intro b x e;by_cases e' :b=k
  ·simpa[Mem.set,e'] using e
  ·simp[Mem.set,e'] at e
 ·intro b x e;by_cases e' :b=k
  ·subst e';rw[h] at e;cases e
  ·simpa[Mem.set,e'] using e
 ·simp[Mem.set]
theorem SH.alloc{w:World}{F:Fz}{H:HP}(h:SH w F H)(o:Obj):SH (w.alloc o) F (star (pt w.heap.size o) H):=by
 obtain⟨m,a,k⟩:=h;obtain⟨f1,f2⟩:=k.fresh;refine⟨m.set (.blk w.heap.size) (.obj o),D3 f1 a,?_,?_,?_,?_,k.os,k.tape,k.out⟩
 ·intro b;by_cases e:b=w.heap.size
  ·subst e;exact .inr f2
  ·rcases k.dj b with h | h
   ·exact .inl (by simpa[Mem.set,e] using h)
   ·exact .inr h
 ·intro b x e;by_cases e' :b=w.heap.size
  ·subst e';simp[Mem.set] at e;subst e;exact⟨o,rfl,heap_alloc_new w o⟩
  ·simp[Mem.set,e'] at e;obtain⟨o',e1,e2⟩:=k.own b x e;exact⟨o',e1,heap_alloc_old e2⟩
 ·intro γ c e;exact k.gst γ c (by simpa[Mem.set] using e)
 ·intro b x e;exact heap_alloc_old (k.frz b x e)
def Fz.dX(F:Fz):Fz:={F with gh:=λγ=>if γ=F.gn then[] else F.gh γ,gn:=F.gn+1}
theorem SH.wv{w:World}{F:Fz}{H:HP}(h:SH w F H):F<=F.dX/\SH w F.dX (star (Oj F.gn []) H):=by
 obtain⟨m,a,k⟩:=h
 have f1:m (.gst F.gn)=none:=by
  cases e:m (.gst F.gn) with
  | none=>rfl
  | some c=>have:=(k.gst _ _ e).1;omega
 refine⟨⟨rfl,rfl,rfl,λ_ _ h=>h,λγ hγ=> ?_,Nat.le_succ _⟩,m.set (.gst F.gn) (.gh []),D3 f1 a,?_,?_,?_,k.frz,k.os,k.tape,k.out⟩
 ·show F.gh γ <+:(if γ=F.gn then[] else F.gh γ);rw[if_neg (by omega)];exact List.prefix_refl _
 ·intro b;rcases k.dj b with h | h
  ·exact .inl (by simpa[Mem.set] using h)
  ·exact .inr h
 ·intro b x e;exact k.own b x (by simpa[Mem.set] using e)
 ·intro γ c e;by_cases e' :γ=F.gn
  ·subst e';simp[Mem.set] at e;subst e;exact⟨Nat.lt_succ_self _,by simp[Fz.dX]⟩
  ·have e2:m (.gst γ)=some c:=by simpa[Mem.set,e'] using e
   obtain⟨h1,h2⟩:=k.gst γ c e2;exact⟨Nat.lt_succ_of_lt h1,by simp[Fz.dX,e',h2]⟩
def Fz.xK(F:Fz)(γ b:Nat):Fz:={F with gh:=λδ=>if δ=γ then F.gh γ++[b] else F.gh δ}
theorem SH.fD{w:World}{F:Fz}{γ:Nat}{l:List Nat}{H:HP}(h:SH w F (star (Oj γ l) H)):γ < F.gn/\F.gh γ=l:=by
 obtain⟨m,⟨m1,m2,d,s1,s2,hp,hq⟩,k⟩:=h;obtain⟨h1,h2⟩:=k.gst γ _ (s1 _ _ hp);simp only[Cell.gh.injEq] at h2
 exact⟨h1,h2.symm⟩
theorem SH.xK{w:World}{F:Fz}{γ:Nat}{l:List Nat}{H:HP}(h:SH w F (star (Oj γ l) H))(b:Nat):F<=F.xK γ b/\SH w (F.xK γ b) (star (Oj γ (l++[b])) H):=by
 obtain⟨h0,hl⟩:=h.fD;obtain⟨m,⟨m1,m2,d,s1,s2,hp,hq⟩,k⟩:=h;have hm:m (.gst γ)=some (.gh l):=s1 _ _ hp;have h2:m2 (.gst γ)=none:=d.wL hp;refine⟨⟨rfl,rfl,rfl,λ_ _ h=>h,λδ _=> ?_,Nat.le_refl _⟩,m2.set (.gst γ) (.gh (l++[b])),D3 h2 hq,?_,?_,?_,k.frz,k.os,k.tape,k.out⟩
 ·show F.gh δ <+:(if δ=γ then F.gh γ++[b] else F.gh δ);split
  ·rename_i e;subst e;exact List.prefix_append _ _
  ·exact List.prefix_refl _
 ·intro b';rcases k.dj b' with h | h
  ·cases e:m2 (.blk b') with
   | none=>exact .inl (by simpa[Mem.set] using e)
   | some c=>rw[s2 _ _ e] at h;cases h
  ·exact .inr h
 ·intro b' x e;exact k.own b' x (s2 _ _ (by simpa[Mem.set] using e))
 ·intro δ c e;by_cases e' :δ=γ
  ·subst e';simp[Mem.set] at e;subst e;exact⟨h0,by simp[Fz.xK,hl]⟩
  ·have e2:m2 (.gst δ)=some c:=by simpa[Mem.set,e'] using e
   obtain⟨h1,h3⟩:=k.gst δ c (s2 _ _ e2);exact⟨h1,by simp[Fz.xK,e',h3]⟩
def Fz.add(F:Fz)(b:Nat)(o:Obj):Fz:={F with mem:=TH F.mem b o}
theorem Fz.fh{F:Fz}{b:Nat}{o:Obj}(h:F.mem b=none):F<=F.add b o:=
 ⟨rfl,rfl,rfl,λk x e=>by
  show TH F.mem b o k=some x;by_cases e' :k=b
  ·subst e';rw[h] at e;cases e
  ·simpa[TH,e'] using e,λ_ _=>List.prefix_refl _,Nat.le_refl _⟩
theorem Fz.wH(F:Fz)(b:Nat)(o:Obj):(F.add b o).mem b=some o:=by simp[Fz.add,TH]
theorem SH.freeze{w:World}{F:Fz}{b:Nat}{o:Obj}{H:HP}(h:SH w F (star (pt b o) H)):F<=F.add b o/\SH w (F.add b o) H:=by
 have hb:=h.owned;obtain⟨m,⟨m1,m2,d,s1,s2,hp,hq⟩,k⟩:=h;have hm:m (.blk b)=some (.obj o):=s1 _ _ hp
 have h0:F.mem b=none:=by
  rcases k.dj b with e | e
  ·rw[hm] at e;cases e
  ·exact e
 have k2:=k.sub s2;refine⟨Fz.fh h0,m2,hq,?_,k2.own,k2.gst,?_,k.os,k.tape,k.out⟩
 ·intro b';show m2 (.blk b')=none∨TH F.mem b o b' =none;by_cases e:b' =b
  ·subst e;exact .inl (d.wL hp)
  ·rcases k2.dj b' with h | h
   ·exact .inl h
   ·exact .inr (by simpa[TH,e] using h)
 ·intro b' x e;change TH F.mem b o b' =some x at e
  by_cases e' :b' =b
  ·subst e';simp[TH] at e;subst e;exact hb
  ·simp[TH,e'] at e;exact k.frz b' x e
theorem SH.gD{w:World}{F:Fz}{H:HP}(h:SH w F H)(o:Obj):F<=F.add w.heap.size o/\SH (w.alloc o) (F.add w.heap.size o) H:=
 (h.alloc o).freeze
def put(w:World)(b:Nat)(o:Obj):World:={w with heap:=w.heap.setIfInBounds b o}
theorem Cd{w:World}{b:Nat}{o x:Obj}(h:w.heap[b]? =some x):(put w b o).heap[b]? =some o:=by
 have:=lt_of_heap h;simp[put,this]
theorem BK{w:World}{b k:Nat}{o:Obj}(h:k≠b):(put w b o).heap[k]? =w.heap[k]? :=by
 simp[put,Ne.symm h]
theorem SH.put{w:World}{F:Fz}{b:Nat}{o o' :Obj}{H:HP}(h:SH w F (star (pt b o) H)):SH (Dec.put w b o') F (star (pt b o') H):=by
 have hb:=h.owned;obtain⟨m,⟨m1,m2,d,s1,s2,hp,hq⟩,k⟩:=h;have hm:m (.blk b)=some (.obj o):=s1 _ _ hp
 have h0:F.mem b=none:=by
  rcases k.dj b with e | e
  ·rw[hm] at e;cases e
  ·exact e
 have h2:m2 (.blk b)=none:=d.wL hp;have k2:=k.sub s2;refine⟨m2.set (.blk b) (.obj o'),D3 h2 hq,?_,?_,?_,?_,k.os,k.tape,k.out⟩
 ·intro b';by_cases e:b' =b
  ·subst e;exact .inr h0
  ·rcases k2.dj b' with h | h
   ·exact .inl (by simpa[Mem.set,e] using h)
   ·exact .inr h
 ·intro b' x e;by_cases e' :b' =b
  ·subst e';simp[Mem.set] at e;subst e;exact⟨o',rfl,Cd hb⟩
  ·simp[Mem.set,e'] at e
   obtain⟨o2,e1,e2⟩:=k2.own b' x e;exact⟨o2,e1,by rw[BK e'];exact e2⟩
 ·intro γ c e;exact k2.gst γ c (by simpa[Mem.set] using e)
 ·intro b' x e;have:b'≠b:=λe' =>by subst e';rw[h0] at e;cases e
  rw[BK this];exact k.frz b' x e
theorem SH.pull{w:World}{F:Fz}{hs:List HP}{k:Nat}{p:HP}(hk:hs[k]? =some p)(h:SH w F (Qj hs)):SH w F (star p (Qj (hs.eraseIdx k))):=
 h.mono λ_=>Y1 hk
theorem SH.push{w:World}{F:Fz}{hs:List HP}{k:Nat}{p q:HP}(hk:hs[k]? =some q)(h:SH w F (star p (Qj (hs.eraseIdx k)))):SH w F (Qj (hs.set k p)):=
 h.mono λ_=>H5 hk
theorem SH.wD{w:World}{F:Fz}{hs:List HP}{k:Nat}{b:Nat}{o:Obj}(hk:hs[k]? =some (pt b o))(h:SH w F (Qj hs)):w.heap[b]? =some o:=
 (h.pull hk).owned
theorem SH.putAt{w:World}{F:Fz}{hs:List HP}{k:Nat}{b:Nat}{o:Obj}(hk:hs[k]? =some (pt b o))(h:SH w F (Qj hs))(o' :Obj):SH (Dec.put w b o') F (Qj (hs.set k (pt b o'))):=
 SH.push hk ((h.pull hk).put)
theorem SH.gR{w:World}{F:Fz}{hs:List HP}{k:Nat}{b:Nat}{o:Obj}(hk:hs[k]? =some (pt b o))(h:SH w F (Qj hs)):F<=F.add b o/\SH w (F.add b o) (Qj (hs.eraseIdx k)):=
 (h.pull hk).freeze
theorem SH.wW{w:World}{F:Fz}{hs:List HP}(k:Nat)(h:SH w F (Qj hs)):SH w F (Qj (hs.eraseIdx k)):=
 (h.mono λ_=>Gi (k:=k)).drop
theorem SH.only{w:World}{F:Fz}{hs:List HP}{k:Nat}{p:HP}(hk:hs[k]? =some p)(h:SH w F (Qj hs)):SH w F p:=by
 obtain⟨m,hm,s⟩:=h;obtain⟨m1,m2,d,s1,s2,hp,_⟩:=Y1 hk hm;exact⟨m1,hp,s.sub s1⟩
theorem SH.one{w:World}{F:Fz}{p:HP}(h:SH w F p):SH w F (Qj [p]):=
 h.mono λm hm=>⟨m,λ_=>none,λ_=>.inr rfl,Mem.sub.refl _,λ_ _ e=>by simp at e,hm,trivial⟩
theorem SH.size_le{w w' :World}{F F' :Fz}{H' :HP}(h' :SH w' F' H')(hall:∀b o,w.heap[b]? =some o->F.mem b=some o)(le:F<=F'):w.heap.size<=w'.heap.size/\∀k,k < w.heap.size->w'.heap[k]? =w.heap[k]? :=by
 have key:∀k,k < w.heap.size->w'.heap[k]? =w.heap[k]? :=λk hk=>by
  have e:w.heap[k]? =some w.heap[k]:=by simp[hk]
  rw[e];exact h'.frozen (le.mem _ _ (hall _ _ e))
 refine⟨?_,key⟩;rcases Nat.lt_or_ge w'.heap.size w.heap.size with hlt | hge
 ·have e:=key w'.heap.size hlt;have e2:w.heap[w'.heap.size]? =some w.heap[w'.heap.size]:=by simp[hlt]
  rw[e2] at e
  have:=lt_of_heap e;omega
 ·exact hge
end
section
variable{O:Option Nat}
def Kw:List (Nat×Value)->Nat->Option Value
 | [],_=>none
 | (k,v)::S,i=>match Nat.beq k i with
  | true=>some v
  | false=>Kw S i
def Sl(n:Nat)(D:List Deferred)(S:List (Nat×Value))(a:Act):Prop:=
 a.tmps.size=n/\a.defers=D/\∀i v,Kw S i=some v->a.tmps.getD i undef=v
def Hd(n:Nat)(D:List Deferred)(S:List (Nat×Value))(F:Fz)(hs:List HP)(a:Act)(w:World):Prop:=
 Sl n D S a/\SH w F (Qj hs)
def QK(S:List (Nat×Value)):Operand->Option Value
 | .tmp t=>Kw S t
 | .const v=>some v
 | .global g=>some (.pointer (some ⟨g,0,none⟩))
 | .func f=>some (.func (.func f) #[] #[])
theorem Sl.eval{n:Nat}{D:List Deferred}{S:List (Nat×Value)}{a:Act}(h:Sl n D S a){o:Operand}{v:Value}(e:QK S o=some v):a.eval o=v:=by
 cases o with
 | tmp t=>exact h.2.2 t v e
 | const x=>exact Option.some.inj e
 | global g=>exact Option.some.inj e
 | func f=>exact Option.some.inj e
theorem Sl.put{n:Nat}{D:List Deferred}{S:List (Nat×Value)}{a:Act}(h:Sl n D S a){d:Nat}(hd:Nat.blt d n=true)(v:Value):Sl n D ((d,v)::S) (a.put (some d) v):=by
 have hd' :d < n:=Nat.le_of_ble_eq_true hd;obtain⟨h1,h2,h3⟩:=h;refine⟨by simp[Act.put,h1],by simp[Act.put,h2],λi u e=> ?_⟩;simp only[Kw] at e
 cases hb:Nat.beq d i with
 | true=>
  rw[hb] at e
  have:d=i:=Nat.eq_of_beq_eq_true hb;subst this;simp only[Option.some.injEq] at e
  subst e;simp[Act.put,Array.getD_eq_getD_getElem?,h1,hd']
 | false=>
  rw[hb] at e
  have hne:d≠i:=λhe=>by subst he;simp at hb
  have:=h3 i u e;simp only[Act.put,Array.getD_eq_getD_getElem?] at this ⊢
  rw[Array.getElem?_setIfInBounds_ne hne];exact this
theorem Sl.wK{n:Nat}{D:List Deferred}{S:List (Nat×Value)}{a:Act}(h:Sl n D S a)(v:Value):Sl n D S (a.put none v):=h
def Sub(S' S:List (Nat×Value)):Prop:=∀i v,Kw S' i=some v->Kw S i=some v
theorem Sub.refl(S:List (Nat×Value)):Sub S S:=λ_ _ h=>h
theorem Sub.nil(S:List (Nat×Value)):Sub [] S:=λ_ _ h=>by simp[Kw] at h
theorem Sub.cons{S T:List (Nat×Value)}{k:Nat}{v:Value}(h:Kw S k=some v)(t:Sub T S):Sub ((k,v)::T) S:=λi u e=>by
 simp only[Kw] at e
 cases hb:Nat.beq k i with
 | true=>
  rw[hb] at e
  have:k=i:=Nat.eq_of_beq_eq_true hb;subst this;simp only[Option.some.injEq] at e
  subst e;exact h
 | false=>rw[hb] at e;exact t i u e
theorem Sl.sub{n:Nat}{D:List Deferred}{S S' :List (Nat×Value)}{a:Act}(h:Sl n D S a)(s:Sub S' S):Sl n D S' a:=
 ⟨h.1,h.2.1,λi v e=>h.2.2 i v (s i v e)⟩
def Cu(k:Nat):List (Nat×Value)->Bool
 | []=>false
 | (j,_)::S=>Nat.beq j k||Cu k S
def fresh(S:List (Nat×Value)):List (Nat×Value)->Bool
 | []=>true
 | (j,_)::T=> !Cu j S&&fresh S T
theorem GH:∀{S:List (Nat×Value)} {i:Nat} {v:Value},Kw S i=some v->Cu i S=true
 | [],_,_,h=>by simp[Kw] at h
 | (k,u)::S,i,v,h=>by
  simp only[Kw] at h
  simp only[Cu];cases hb:Nat.beq k i with
  | true=>rfl
  | false=>rw[hb] at h;simp[GH h]
theorem Gn:∀{T S:List (Nat×Value)} {i:Nat} {v:Value},fresh S T=true->Kw S i=some v->Kw (T++S) i=some v
 | [],_,_,_,_,h=>h
 | (j,u)::T,S,i,v,hf,h=>by
  simp only[fresh,Bool.and_eq_true,Bool.not_eq_true'] at hf
  simp only[List.cons_append,Kw];cases hb:Nat.beq j i with
  | true=>
   have:j=i:=Nat.eq_of_beq_eq_true hb;subst this;rw[GH h] at hf;cases hf.1
  | false=>exact Gn hf.2 h
inductive Kt where
 | code (c:Code)
 | block (id:Nat)
def TI:Option Nat->Fence
 | none=>Fence.wide
 | some l=>Fence.wide.inRound l
theorem Iz(O:Option Nat):(TI O).round=O:=by cases O<;>rfl
theorem DF(O:Option Nat)(f:FuncId):(TI O).fn f:=by cases O<;>trivial
theorem CD(O:Option Nat):(TI O).depth=none:=by cases O<;>rfl
theorem FP(O:Option Nat)(n:Nat):(TI O).room n:=λd hd=>by rw[CD] at hd;cases hd
theorem Ns{O:Option Nat}{n:Nat}{P:Program}{f:FuncId}{args:Array Value}{w:World}{R:Ending->World->Prop}:CallsIn (TI O) n P f args w R↔Calls P f args w R:=by
 cases O with
 | none=>exact callsIn_wide
 | some l=>exact callsIn_wide
def X0:Op->Bool
 | .defer _=>false
 | _=>true
theorem Ep{o:Op}(h:X0 o=true):∀c,o≠.defer c:=λc e=>by rw[e] at h;cases h
def Ih(O:Option Nat)(P:Program)(o:Oper)(a:Act)(w:World)(K:Act->World->Prop)(Q:Exit->Act->World->Prop):Prop:=
 (O=none∨X0 o.op=true)/\o.uponIn (TI O) 0 P a K Q ((execOp a.eval o).run P w)
theorem Ih.wpIn{O:Option Nat}{P:Program}{o:Oper}{a:Act}{w:World}{K:Act->World->Prop}{Q:Exit->Act->World->Prop}(h:Ih O P o a w K Q):o.wpIn (TI O) 0 P a w K Q:=by
 refine⟨λf _=>DF O f,?_⟩;rw[Iz];obtain⟨h1,h2⟩:=h;rcases h1 with rfl | h1
 ·exact h2
 ·rw[Oper.semAt_eq O _ o (Ep h1)];exact h2
theorem ML{O:Option Nat}{P:Program}{o:Oper}{a:Act}{w:World}{K K' :Act->World->Prop}{Q Q' :Exit->Act->World->Prop}(h:∀u w,K (a.put o.dst u) w->K' (a.put o.dst u) w)
  (hd:∀d w,K ({a with defers:=d::a.defers}.put o.dst undef) w->K' ({a with defers:=d::a.defers}.put o.dst undef) w) (hx:∀e a w,e≠.normal->Q e a w->Q' e a w)
  (hh:Ih O P o a w K Q):Ih O P o a w K' Q' :=by
 obtain⟨h1,h2⟩:=hh;refine⟨h1,?_⟩;generalize(execOp a.eval o).run P w=r at*
 unfold Oper.uponIn at*
 split at h2
 all_goals first
  | exact h _ _ h2
  | exact hd _ _ h2
  | exact h2.elim
  | exact hx _ _ _ (by simp) h2
  | (refine⟨h2.1,CallsIn.mono h2.2 ?_⟩;rintro(v | c | _) w'' hq<;>first | exact h _ _ hq | exact hx _ _ _ (by simp) hq | (obtain⟨a1,w1,h3⟩:=hq;exact⟨a1,w1,hx _ _ _ (by simp) h3⟩))
  | (refine⟨h2.1,RowsIn.mono h2.2 ?_⟩;intro v w'' hq;exact h _ _ hq)
  | (refine⟨h2.1,RoundIn.mono h2.2 ?_⟩;rintro(v | c | _) w'' hq<;>first | exact h _ _ hq | exact hx _ _ _ (by simp) hq | (obtain⟨a1,w1,h3⟩:=hq;exact⟨a1,w1,hx _ _ _ (by simp) h3⟩))
theorem TV{O:Option Nat}{P:Program}{o:Oper}{a:Act}{w:World}{K K' :Act->World->Prop}{Q Q' :Exit->Act->World->Prop}(h:∀a w,K a w->K' a w)(hx:∀e a w,e≠.normal->Q e a w->Q' e a w)
 (hh:Ih O P o a w K Q):Ih O P o a w K' Q' :=ML (λ_ _=>h _ _) (λ_ _=>h _ _) hx hh
theorem BC{O:Option Nat}{P:Program}{o:Oper}{a:Act}{w:World}{K K' :Act->World->Prop}{Q:Exit->Act->World->Prop}(h:∀a w,K a w->K' a w)(hh:Ih O P o a w K Q):Ih O P o a w K' Q:=
 TV h (λ_ _ _ _ hq=>hq) hh
def Xd(O:Option Nat)(P:Program)(ops:Array Oper)(Q:Exit->Act->World->Prop):List Oper->Act->World->Prop
 | [],a,w=>Q .normal a w
 | o::rest,a,w=>if Region.wanted o (yielded ops a.tmps) then Ih O P o a w (Xd O P ops Q rest) Q else Xd O P ops Q rest (a.put o.dst undef) w
theorem Xd.wpIn{O:Option Nat}{P:Program}{ops:Array Oper}{Q:Exit->Act->World->Prop}:∀{l:List Oper} {a:Act} {w:World},Xd O P ops Q l a w->wpListIn (TI O) 0 P ops Q l a w
 | [],_,_,h=>h
 | o::rest,a,w,h=>by
  unfold Xd at h
  unfold wpListIn;split
  ·rename_i hw;rw[if_pos hw] at h
   exact(BC (λa w h=>Xd.wpIn h) h).wpIn
  ·rename_i hw;rw[if_neg hw] at h
   exact⟨λf _=>DF O f,Xd.wpIn h⟩
def Z8(O:Option Nat)(P:Program):List Kt->(Exit->Act->World->Prop)->Exit->Act->World->Prop
 | [],Q=>Q
 | .code c::ks,Q=>Exit.then (c.wpIn (TI O) 0 P (Z8 O P ks Q)) (Z8 O P ks Q)
 | .block id::ks,Q=>Exit.inBlock id (Z8 O P ks Q)
def Df(id:Nat):List Kt->Option (List Kt)
 | []=>none
 | .code _::ks=>Df id ks
 | .block j::ks=>match Nat.beq j id with
  | true=>some ks
  | false=>Df id ks
theorem ZK{P:Program}{Q:Exit->Act->World->Prop}{id:Nat}{a:Act}{w:World}:∀{ks ks' :List Kt},Df id ks=some ks'->Z8 O P ks' Q .normal a w->Z8 O P ks Q (.exit id) a w
 | [],_,h,_=>by simp[Df] at h
 | .code c::ks,ks',h,k=>by
  simp only[Df] at h
  show Z8 O P ks Q (.exit id) a w;exact ZK h k
 | .block j::ks,ks',h,k=>by
  simp only[Df] at h
  show(if id=j then Z8 O P ks Q .normal a w else Z8 O P ks Q (.exit id) a w);cases hb:Nat.beq j id with
  | true=>
   rw[hb] at h
   have:j=id:=Nat.eq_of_beq_eq_true hb;simp only[Option.some.injEq] at h
   subst h;rw[if_pos this.symm];exact k
  | false=>
   rw[hb] at h
   have hne:id≠j:=λhe=>by subst he;simp at hb
   rw[if_neg hne];exact ZK h k
theorem Ct{P:Program}{Q:Exit->Act->World->Prop}{id:Nat}{a:Act}{w:World}:∀{ks:List Kt},Df id ks=none->Q (.exit id) a w->Z8 O P ks Q (.exit id) a w
 | [],_,k=>k
 | .code c::ks,h,k=>by
  simp only[Df] at h
  show Z8 O P ks Q (.exit id) a w;exact Ct h k
 | .block j::ks,h,k=>by
  simp only[Df] at h
  show(if id=j then Z8 O P ks Q .normal a w else Z8 O P ks Q (.exit id) a w);cases hb:Nat.beq j id with
  | true=>rw[hb] at h;simp at h
  | false=>
   rw[hb] at h
   have hne:id≠j:=λhe=>by subst he;simp at hb
   rw[if_neg hne];exact Ct h k
theorem YY{P:Program}{Q:Exit->Act->World->Prop}{a:Act}{w:World}:∀{ks:List Kt},Q .ret a w->Z8 O P ks Q .ret a w
 | [],k=>k
 | .code c::ks,k=>by show Z8 O P ks Q .ret a w;exact YY k
 | .block j::ks,k=>by show Z8 O P ks Q .ret a w;exact YY k
theorem Jc{P:Program}{Q:Exit->Act->World->Prop}{c:List PanicEntry}{a:Act}{w:World}:∀{ks:List Kt},Q (.panic c) a w->Z8 O P ks Q (.panic c) a w
 | [],k=>k
 | .code c::ks,k=>by show Z8 O P ks Q (.panic _) a w;exact Jc k
 | .block j::ks,k=>by show Z8 O P ks Q (.panic _) a w;exact Jc k
section
variable{β:Type}(O:Option Nat)(P:Program)
def GL(ops:Array Oper)(l:List Oper)(ks:List Kt)(Q:Exit->Act->World->Prop)(A:Act->World->Prop)(m:Option β)(r:β):Prop:=
 m=some r->∀a w,A a w->Xd O P ops (Z8 O P ks Q) l a w
def GC(c:Code)(ks:List Kt)(Q:Exit->Act->World->Prop)(A:Act->World->Prop)(m:Option β)(r:β):Prop:=
 m=some r->∀a w,A a w->c.wpIn (TI O) 0 P (Z8 O P ks Q) a w
def GE(ks:List Kt)(Q:Exit->Act->World->Prop)(A:Act->World->Prop)(m:Option β)(r:β):Prop:=
 m=some r->∀a w,A a w->Z8 O P ks Q .normal a w
end
section
variable{β:Type}{P:Program}{ops:Array Oper}{l rest:List Oper}{ks:List Kt}{Q:Exit->Act->World->Prop}{A A' :Act->World->Prop}{m:Option β}{r:β}
theorem GC.seq{x y:Code}(h:GC O P x (.code y::ks) Q A m r):GC O P (.seq x y) ks Q A m r:=
 λhm a w ha=>wpIn_seq (h hm a w ha)
theorem GC.block{id:Nat}{c:Code}(h:GC O P c (.block id::ks) Q A m r):GC O P (.block id c) ks Q A m r:=
 λhm a w ha=>wpIn_block (h hm a w ha)
theorem GC.skip(h:GE O P ks Q A m r):GC O P .skip ks Q A m r:=λhm a w ha=>wpIn_skip (h hm a w ha)
theorem GC.uy{id:Nat}(hk:Df id ks=none)(h:m=some r->∀a w,A a w->Q (.exit id) a w):GC O P (.exit id) ks Q A m r:=
 λhm a w ha=>wpIn_exit (Ct hk (h hm a w ha))
theorem GC.wN(h:m=some r->∀a w,A a w->Q .ret a w):GC O P .ret ks Q A m r:=
 λhm a w ha=>wpIn_ret (YY (h hm a w ha))
theorem GE.code{c:Code}(h:GC O P c ks Q A m r):GE O P (.code c::ks) Q A m r:=h
theorem GE.block{id:Nat}(h:GE O P ks Q A m r):GE O P (.block id::ks) Q A m r:=h
theorem GE.nil(h:m=some r->∀a w,A a w->Q .normal a w):GE O P [] Q A m r:=h
theorem GC.region{id:Nat}{l:List Oper}(h:GL O P l.toArray l ks Q A m r):GC O P (.region id l.toArray false) ks Q A m r:=
 λhm a w ha=>wpIn_region_lit (h hm a w ha).wpIn
theorem GL.nil(h:GE O P ks Q A m r):GL O P ops [] ks Q A m r:=h
theorem GC.cond{S:List (Nat×Value)}{n:Nat}{D:List Deferred}{F:Fz}{hs:List HP}{c:Operand}{x y:Code}{b:Bool}{m1 m2:Option β}(hc:QK S c=some (.bool b))
  (h1:b=true->GC O P x ks Q (Hd n D S F hs) m1 r) (h2:b=false->GC O P y ks Q (Hd n D S F hs) m2 r):GC O P (.cond c x y) ks Q (Hd n D S F hs) (if b then m1 else m2) r:=by
 intro hm a w ha;cases hb:b with
 | true=>rw[hb] at hc;rw[hb,if_pos rfl] at hm;exact wpIn_cond_true (ha.1.eval hc) (h1 hb hm a w ha)
 | false=>rw[hb] at hc;rw[hb,if_neg (by simp)] at hm;exact wpIn_cond_false (ha.1.eval hc) (h2 hb hm a w ha)
theorem GC.wR{S:List (Nat×Value)}{n:Nat}{D:List Deferred}{F:Fz}{hs:List HP}{c:Operand}{x y:Code}(hc:QK S c=some (.bool true))
  (h1:GC O P x ks Q (Hd n D S F hs) m r):GC O P (.cond c x y) ks Q (Hd n D S F hs) m r:=
 λhm a w ha=>wpIn_cond_true (ha.1.eval hc) (h1 hm a w ha)
theorem GC.wY{S:List (Nat×Value)}{n:Nat}{D:List Deferred}{F:Fz}{hs:List HP}{c:Operand}{x y:Code}(hc:QK S c=some (.bool false))
  (h1:GC O P y ks Q (Hd n D S F hs) m r):GC O P (.cond c x y) ks Q (Hd n D S F hs) m r:=
 λhm a w ha=>wpIn_cond_false (ha.1.eval hc) (h1 hm a w ha)
theorem GC.xb{c:Code}(h:∀a w,A a w->A' a w)(k:GC O P c ks Q A' m r):GC O P c ks Q A m r:=λhm a w ha=>k hm a w (h a w ha)
theorem GE.xb(h:∀a w,A a w->A' a w)(k:GE O P ks Q A' m r):GE O P ks Q A m r:=λhm a w ha=>k hm a w (h a w ha)
section
variable{S S' :List (Nat×Value)}{n:Nat}{D:List Deferred}{F F' :Fz}{hs hs' :List HP}
theorem GE.ug(s:Sub S' S)(k:GE O P ks Q (Hd n D S' F hs) m r):GE O P ks Q (Hd n D S F hs) m r:=GE.xb (λ_ _ h=>⟨h.1.sub s,h.2⟩) k
theorem GC.ug{c:Code}(s:Sub S' S)(k:GC O P c ks Q (Hd n D S' F hs) m r):GC O P c ks Q (Hd n D S F hs) m r:=GC.xb (λ_ _ h=>⟨h.1.sub s,h.2⟩) k
theorem GE.drop(i:Nat)(k:GE O P ks Q (Hd n D S F (hs.eraseIdx i)) m r):GE O P ks Q (Hd n D S F hs) m r:=GE.xb (λ_ _ h=>⟨h.1,h.2.wW i⟩) k
theorem GL.freeze{b:Nat}{o:Obj}(i:Nat)(hk:hs[i]? =some (pt b o))(k:∀F',F<=F'->F'.mem b=some o->GL O P ops l ks Q (Hd n D S F' (hs.eraseIdx i)) m r):GL O P ops l ks Q (Hd n D S F hs) m r:=
 λhm a w ha=>by
  obtain⟨h1,h2⟩:=SH.gR hk ha.2;exact k _ h1 (Fz.wH F b o) hm a w ⟨ha.1,h2⟩
end
def QV{α γ:Type}(x:α)(f:α->γ):γ:=f x
theorem GL.uj{α:Type}{x:α}{f:α->Option β}(h:∀y,y=x->GL O P ops l ks Q A (f y) r):GL O P ops l ks Q A (QV x f) r:=h x rfl
theorem GL.bind{α:Type}{e:Option α}{f:α->Option β}(h:∀y,e=some y->GL O P ops l ks Q A (f y) r):GL O P ops l ks Q A (e.bind f) r:=
 λhm=>by
  cases e with
  | none=>simp at hm
  | some y=>exact h y rfl hm
theorem GE.bind{α:Type}{e:Option α}{f:α->Option β}(h:∀y,e=some y->GE O P ks Q A (f y) r):GE O P ks Q A (e.bind f) r:=
 λhm=>by
  cases e with
  | none=>simp at hm
  | some y=>exact h y rfl hm
end
inductive Vb(σ β:Type) where
 | next(s:σ)
 | done (b:β)
def Xh{σ β:Type}(body:σ->Option (Vb σ β)):Nat->σ->Option β
 | 0,_=>none
 | n+1,s=>match body s with
  | none=>none
  | some (.done b)=>some b
  | some (.next s')=>Xh body n s'
open Classical in
def ZV{σ β:Type}(body:σ->Option (Vb σ β))(s:σ):Option β:=
 if h:∃b n,Xh body n s=some b then some h.choose else none
theorem Cq{σ β:Type}{body:σ->Option (Vb σ β)}:∀{n k:Nat} {s:σ} {b:β},n<=k->Xh body n s=some b->Xh body k s=some b
 | 0,_,_,_,_,h=>by simp[Xh] at h
 | n+1,0,_,_,le,_=>by omega
 | n+1,k+1,s,b,le,h=>by
  simp only[Xh] at h ⊢
  cases hb:body s with
  | none=>rw[hb] at h;cases h
  | some c=>
   rw[hb] at h
   cases c with
   | done x=>exact h
   | next s' =>exact Cq (Nat.le_of_succ_le_succ le) h
theorem Cr{σ β:Type}{body:σ->Option (Vb σ β)}{n:Nat}{s:σ}{b:β}(h:Xh body n s=some b):ZV body s=some b:=by
 have he:∃b n,Xh body n s=some b:=⟨b,n,h⟩;unfold ZV;rw[dif_pos he];obtain⟨k,hk⟩:=he.choose_spec;have h1:=Cq (Nat.le_max_left n k) h;have h2:=Cq (Nat.le_max_right n k) hk;rw[h1] at h2
 exact h2.symm
theorem Fy{σ β:Type}{body:σ->Option (Vb σ β)}{s:σ}{b:β}(h:ZV body s=some b):∃n,Xh body n s=some b:=by
 unfold ZV at h
 split at h
 ·rename_i he;simp only[Option.some.injEq] at h
  obtain⟨n,hn⟩:=he.choose_spec;exact⟨n,h▸hn⟩
 ·cases h
theorem ZR{σ β:Type}(body:σ->Option (Vb σ β))(s:σ):ZV body s=match body s with
  | none=>none
  | some (.done b)=>some b
  | some (.next s')=>ZV body s' :=by
 cases hb:body s with
 | none=>
  cases h:ZV body s with
  | none=>rfl
  | some b=>
   obtain⟨n,hn⟩:=Fy h;cases n with
   | zero=>simp[Xh] at hn
   | succ n=>simp[Xh,hb] at hn
 | some c=>
  cases c with
  | done b=>exact Cr (n:=1) (by simp[Xh,hb])
  | next s' =>
   show ZV body s=ZV body s';cases h:ZV body s' with
   | some b=>
    obtain⟨n,hn⟩:=Fy h;exact Cr (n:=n+1) (by simp only[Xh,hb];exact hn)
   | none=>
    cases h2:ZV body s with
    | none=>rfl
    | some b=>
     obtain⟨n,hn⟩:=Fy h2;cases n with
     | zero=>simp[Xh] at hn
     | succ n=>
      simp only[Xh,hb] at hn
      rw[Cr hn] at h;cases h
def Q9{σ β:Type}(I:σ->Act->World->Prop)(Dn:β->Exit->Act->World->Prop)(c:Vb σ β):Exit->Act->World->Prop:=λe a w=>
 match c with
 | .next s=>e= .normal/\I s a w
 | .done b=>e≠.normal/\Dn b e a w
theorem Mw{σ β:Type}{P:Program}{c:Code}{body:σ->Option (Vb σ β)}{I:σ->Act->World->Prop}{Dn:β->Exit->Act->World->Prop}{b:β}
  (round:∀s ctl,body s=some ctl->∀a w,I s a w->c.wpIn (TI O) 0 P (Q9 I Dn ctl) a w):∀(n:Nat) (s:σ),Xh body n s=some b->∀a w,I s a w->
   ∀(fr:Frame) (k:List Item) (cs:List Frame),fr.roundOf=(TI O).round->∃e a' w',Dn b e a' w'/\ArrivesIn (Machine.fenced P (TI O)) P (lone (fr.atR a (.code c:: .inLoop c::k)) cs w) fr k cs e a' w'
 | 0,_,h,_,_,_,_,_,_,_=>by simp[Xh] at h
 | n+1,s,h,a,w,hI,fr,k,cs,hro=>by
  simp only[Xh] at h
  cases hb:body s with
  | none=>rw[hb] at h;cases h
  | some ctl=>
   rw[hb] at h
   obtain⟨e,a₁,w₁,hq,harr⟩:=round s ctl hb a w hI fr (.inLoop c::k) cs hro (DF O _) (FP O _);cases ctl with
   | next s' =>
    obtain⟨rfl,hI'⟩:=hq;obtain⟨e₂,a₂,w₂,hq₂,harr₂⟩:=Mw round n s' h a₁ w₁ hI' fr k cs hro;exact⟨e₂,a₂,w₂,hq₂,.of_steps (StepsIn.trans harr (.one (fenced_calm (n:=0) (DF O _) (FP O _) rfl) stepR_inLoop)) harr₂⟩
   | done b' =>
    obtain⟨hne,hq⟩:=hq;simp only[Option.some.injEq] at h
    subst h;refine⟨e,a₁,w₁,hq,?_⟩;exact .pass (x:=.inLoop c) rfl (λ_ _=>.inl hne) harr
section
variable{β:Type}{P:Program}{ks:List Kt}{Q:Exit->Act->World->Prop}{A:Act->World->Prop}{r:β}
theorem GC.loop{σ γ:Type}{c:Code}{body:σ->Option (Vb σ γ)}{s0:σ}{f:γ->Option β}(I:σ->Act->World->Prop)(Dn:γ->Exit->Act->World->Prop)
  (hI:∀a w,A a w->I s0 a w)
  (round:∀s ctl,GC O P c [] (Q9 I Dn ctl) (I s) (body s) ctl)
  (after:∀b,ZV body s0=some b->f b=some r->∀e a w,Dn b e a w->Z8 O P ks Q e a w):
  GC O P (.loop c) ks Q A ((ZV body s0).bind f) r:=by
 intro hm a w ha;cases hl:ZV body s0 with
 | none=>rw[hl] at hm;cases hm
 | some b=>
  rw[hl] at hm
  obtain⟨n,hn⟩:=Fy hl;intro fr k cs hro hf hr;obtain⟨e,a',w',hq,harr⟩:=Mw (Dn:=Dn) (λs ctl hs a w hI' =>round s ctl hs a w hI') n s0 hn a w (hI a w ha) fr k cs hro;exact⟨e,a',w',after b hl hm e a' w' hq,.of_steps (.one (fenced_calm hf hr rfl) stepR_loop) harr⟩
theorem GC.join{σ γ:Type}{c:Code}{m0:Option (Vb σ γ)}{f:Vb σ γ->Option β}(I:σ->Act->World->Prop)(Dn:γ->Exit->Act->World->Prop)
  (h:∀ctl,GC O P c [] (Q9 I Dn ctl) A m0 ctl)
  (next:∀s,m0=some (.next s)->GE O P ks Q (I s) (f (.next s)) r)
  (done:∀b,m0=some (.done b)->f (.done b)=some r->∀e a w,Dn b e a w->Z8 O P ks Q e a w):
  GC O P c ks Q A (m0.bind f) r:=by
 intro hm a w ha;cases hl:m0 with
 | none=>rw[hl] at hm;cases hm
 | some ctl=>
  rw[hl] at hm
  refine wpIn_mono (h ctl hl a w ha) λe a' w' hq=> ?_;cases ctl with
  | next s=>obtain⟨rfl,hq⟩:=hq;exact next s hl hm a' w' hq
  | done b=>exact done b hl hm e a' w' hq.2
theorem GC.wQ{σ:Type}{c:Code}{m0:Option σ}{f:σ->Option β}(I:σ->Act->World->Prop)
  (h:∀s,GC O P c [] (λe a w=>e= .normal/\I s a w) A m0 s)
  (next:∀s,m0=some s->GE O P ks Q (I s) (f s) r):
  GC O P c ks Q A (m0.bind f) r:=by
 intro hm a w ha;cases hl:m0 with
 | none=>rw[hl] at hm;cases hm
 | some s=>
  rw[hl] at hm
  refine wpIn_mono (h s hl a w ha) λe a' w' hq=> ?_;obtain⟨rfl,hq⟩:=hq;exact next s hl hm a' w' hq
end
def CT{β:Type}(P:Program)(f:FuncId)(args:Array Value)(F:Fz)(H:HP)(m:Option β)(ρ:β->Fz->Value->Prop)(H' :β->Fz->Value->HP):Prop:=
 ∀r,m=some r->∀w R,SH w F (star H R)->Calls P f args w (λe w' =>∃F' v,F<=F'/\e= .returned v/\ρ r F' v/\SH w' F' (star (H' r F' v) R))
def KE{β:Type}(P:Program)(f:FuncId)(args:Array Value)(F:Fz)(m:Option β)(ρ:β->Fz->Value->Prop):Prop:=
 ∀r,m=some r->∀w R,SH w F R->Calls P f args w (λe w' =>∃F' v,F<=F'/\e= .returned v/\ρ r F' v/\SH w' F' R)
def Dc:Nat->List Value->List (Nat×Value)
 | _,[]=>[]
 | i,v::vs=>(i,v)::Dc (i+1) vs
theorem NZ:∀{vs:List Value} {i j:Nat} {v:Value},Kw (Dc i vs) j=some v->i<=j/\vs[j - i]? =some v
 | [],_,_,_,h=>by simp[Dc,Kw] at h
 | x::vs,i,j,v,h=>by
  simp only[Dc,Kw] at h
  cases hb:Nat.beq i j with
  | true=>
   rw[hb] at h
   have:i=j:=Nat.eq_of_beq_eq_true hb;subst this;exact⟨Nat.le_refl _,by simpa using h⟩
  | false=>
   rw[hb] at h
   obtain⟨h1,h2⟩:=NZ h;refine⟨by omega,?_⟩;rw[show j - i=(j - (i+1))+1 by omega];simpa using h2
def MU{β:Type}(P:Program)(fn:Func)(F:Fz)(R:HP)(ρ:β->Fz->Value->Prop)(r:β):Exit->Act->World->Prop:=
 bodyPost P fn (λe w' =>∃F' v,F<=F'/\e= .returned v/\ρ r F' v/\SH w' F' R)
def MV{β:Type}(P:Program)(fn:Func)(F:Fz)(R:HP)(ρ:β->Fz->Value->Prop)(H' :β->Fz->Value->HP)(r:β):Exit->Act->World->Prop:=
 bodyPost P fn (λe w' =>∃F' v,F<=F'/\e= .returned v/\ρ r F' v/\SH w' F' (star (H' r F' v) R))
theorem U1{args:List Value}{n:Nat}(hn:Nat.ble args.length n=true):Sl n [] (Dc 0 args) {tmps:=args.toArray++Array.replicate (n - args.toArray.size) undef,defers:=[]}:=by
 have hn' :args.length<=n:=Nat.le_of_ble_eq_true hn;refine⟨by simp;omega,rfl,λi v e=> ?_⟩;obtain⟨_,h2⟩:=NZ e;simp only[Nat.sub_zero] at h2
 have hi:i < args.length:=by
  rcases Nat.lt_or_ge i args.length with h | h
  ·exact h
  ·rw[List.getElem?_eq_none h] at h2;cases h2
 simp only[Array.getD_eq_getD_getElem?];rw[Array.getElem?_append_left (by simpa using hi)];simp[h2]
theorem KE.enter{β:Type}{P:Program}{f:FuncId}{fn:Func}{c:Code}{args:List Value}{F:Fz}{m:Option β}{ρ:β->Fz->Value->Prop}{n:Nat}
  (hf:P.funcs[f]? =some fn) (hb:fn.body=some c) (hn:fn.ntmps=n) (ha:Nat.ble args.length n=true)
  (k:∀r R,GC none P c [] (MU P fn F R ρ r) (Hd n [] (Dc 0 args) F [R]) m r):KE P f args.toArray F m ρ:=by
 intro r hm w R hw;refine calls_of_wp hf hb (wpIn_wide.1 (k r R hm _ w ⟨?_,hw.one⟩));rw[hn];exact U1 ha
theorem SH.two{w:World}{F:Fz}{p q:HP}(h:SH w F (star p q)):SH w F (Qj [p,q]):=
 h.mono λm hm=>QR (λm' hq=>⟨m',λ_=>none,λ_=>.inr rfl,Mem.sub.refl _,λ_ _ e=>by simp at e,hq,trivial⟩) hm
theorem CT.enter{β:Type}{P:Program}{f:FuncId}{fn:Func}{c:Code}{args:List Value}{F:Fz}{H:HP}{m:Option β}{ρ:β->Fz->Value->Prop}{H' :β->Fz->Value->HP}{n:Nat}
  (hf:P.funcs[f]? =some fn) (hb:fn.body=some c) (hn:fn.ntmps=n) (ha:Nat.ble args.length n=true)
  (k:∀r R,GC none P c [] (MV P fn F R ρ H' r) (Hd n [] (Dc 0 args) F [H,R]) m r):CT P f args.toArray F H m ρ H' :=by
 intro r hm w R hw;refine calls_of_wp hf hb (wpIn_wide.1 (k r R hm _ w ⟨?_,hw.two⟩));rw[hn];exact U1 ha
end
section
variable{O:Option Nat}
theorem Je{P:Program}{t:TypeId}{d:TypeDesc}(h:P.underlying t=some d)(w:World):(underlying t).run P w= .ok d w:=by
 simp[underlying,h]
section
variable{β:Type}{P:Program}{ops:Array Oper}{rest:List Oper}{ks:List Kt}{Q:Exit->Act->World->Prop}{A:Act->World->Prop}{m:Option β}{r:β}
theorem GL.step{o:Oper}(hg:o.guard=none)(hnd:O=none∨X0 o.op=true)(h:m=some r->∀a w,A a w->∃v w',(execOp a.eval o).run P w= .ok (.value v) w'/\Xd O P ops (Z8 O P ks Q) rest (a.put o.dst v) w'):
  GL O P ops (o::rest) ks Q A m r:=by
 intro hm a w ha;obtain⟨v,w',h1,h2⟩:=h hm a w ha;unfold Xd;rw[if_pos (by simp[Region.wanted,hg])];refine⟨hnd,?_⟩;rw[h1];exact h2
theorem GL.xf{o:Oper}(hg:o.guard=none)(hnd:O=none∨X0 o.op=true)(h:m=some r->∀a w,A a w->∃w',(execOp a.eval o).run P w= .ok .skip w'/\Xd O P ops (Z8 O P ks Q) rest (a.put o.dst undef) w'):
  GL O P ops (o::rest) ks Q A m r:=by
 intro hm a w ha;obtain⟨w',h1,h2⟩:=h hm a w ha;unfold Xd;rw[if_pos (by simp[Region.wanted,hg])];refine⟨hnd,?_⟩;rw[h1];exact h2
section
variable{n:Nat}{D:List Deferred}{S:List (Nat×Value)}{F:Fz}{hs:List HP}
theorem SF{a:Act}{j t:Nat}{b:Bool}(hj:(ops[j]?).bind (·.dst)=some t)(hs:Sl n D S a)(hv:Kw S t=some (.bool b)):yielded ops a.tmps j=some b:=by
 have h:=hs.2.2 t _ hv;unfold yielded;rw[hj];simp only[Option.bind_some];simp only[Array.getD_eq_getD_getElem?] at h
 cases e:a.tmps[t]? with
 | none=>rw[e] at h;simp[undef] at h
 | some v=>rw[e] at h;simp at h;subst h;rfl
theorem GL.on{dst:Option Tmp}{op:Op}{ty:TypeId}{pos:String}{after:Array Edge}{j t:Nat}{want:Bool}(hj:(ops[j]?).bind (·.dst)=some t)(hv:Kw S t=some (.bool want))
  (k:GL O P ops (⟨dst,op,ty,pos,after,none⟩::rest) ks Q (Hd n D S F hs) m r):GL O P ops (⟨dst,op,ty,pos,after,some (j,want)⟩::rest) ks Q (Hd n D S F hs) m r:=by
 intro hm a w ha;have h:=k hm a w ha;have hy:=SF (ops:=ops) hj ha.1 hv;unfold Xd at h ⊢
 rw[if_pos (by simp[Region.wanted])] at h
 rw[if_pos (by simp[Region.wanted,hy])];exact h
def Oi:Value->Bool->Bool
 | .bool b,want=>b != want
 | .tuple _,_=>true
 | _,_=>false
theorem GL.off{d:Nat}{op:Op}{ty:TypeId}{pos:String}{after:Array Edge}{j t:Nat}{want:Bool}{v:Value}(hd:Nat.blt d n=true)(hj:(ops[j]?).bind (·.dst)=some t)(hv:Kw S t=some v)(hx:Oi v want=true)
  (k:GL O P ops rest ks Q (Hd n D ((d,undef)::S) F hs) m r):GL O P ops (⟨some d,op,ty,pos,after,some (j,want)⟩::rest) ks Q (Hd n D S F hs) m r:=by
 intro hm a w ha
 have hy:yielded ops a.tmps j≠some want:=by
  have h:=ha.1.2.2 t _ hv;unfold yielded;rw[hj];simp only[Option.bind_some];simp only[Array.getD_eq_getD_getElem?] at h
  cases e:a.tmps[t]? with
  | none=>simp
  | some u=>
   rw[e] at h;simp at h;subst h
   cases u<;>simp[Oi] at hx ⊢
   exact hx
 unfold Xd;rw[if_neg (by simp[Region.wanted,hy])];exact k hm _ w ⟨ha.1.put hd _,ha.2⟩
theorem GL.val{d:Nat}{op:Op}{ty:TypeId}{pos:String}{after:Array Edge}{v:Value}(hd:Nat.blt d n=true)
  (hrun:∀a w,Hd n D S F hs a w->(execOp a.eval ⟨some d,op,ty,pos,after,none⟩).run P w= .ok (.value v) w)
  (k:GL O P ops rest ks Q (Hd n D ((d,v)::S) F hs) m r) (hnd:X0 op=true:=by rfl):GL O P ops (⟨some d,op,ty,pos,after,none⟩::rest) ks Q (Hd n D S F hs) m r:=
 GL.step rfl (.inr hnd) λhm a w ha=>⟨v,w,hrun a w ha,k hm _ w ⟨ha.1.put hd v,ha.2⟩⟩
section
variable{d:Nat}{ty t t' :TypeId}{pos:String}{after:Array Edge}{ox oy oz:Operand}{v u:Value}{kd:IntKind}{x y:Int}
theorem GL.move(hd:Nat.blt d n=true)(hx:QK S ox=some v)(k:GL O P ops rest ks Q (Hd n D ((d,v)::S) F hs) m r):
  GL O P ops (⟨some d,.move ox,ty,pos,after,none⟩::rest) ks Q (Hd n D S F hs) m r:=
 GL.val hd (λa w ha=>by simp[execOp,ha.1.eval hx]) k
theorem GL.assign(hd:Nat.blt d n=true)(hx:QK S ox=some v)(k:GL O P ops rest ks Q (Hd n D ((d,v)::S) F hs) m r):
  GL O P ops (⟨some d,.assign ox,ty,pos,after,none⟩::rest) ks Q (Hd n D S F hs) m r:=
 GL.val hd (λa w ha=>by simp[execOp,ha.1.eval hx]) k
theorem GL.u9{f:Int->Option β}(hd:Nat.blt d n=true)(hx:QK S ox=some (.int kd x))(k:∀y,y=x->GL O P ops rest ks Q (Hd n D ((d,.int kd y)::S) F hs) (f y) r):
 GL O P ops (⟨some d,.assign ox,ty,pos,after,none⟩::rest) ks Q (Hd n D S F hs) (QV x f) r:=GL.assign hd hx (k x rfl)
theorem GL.xS{b:Bool}{f:Bool->Option β}(hd:Nat.blt d n=true)(hx:QK S ox=some (.bool b))(k:∀y,y=b->GL O P ops rest ks Q (Hd n D ((d,.bool y)::S) F hs) (f y) r):
 GL O P ops (⟨some d,.assign ox,ty,pos,after,none⟩::rest) ks Q (Hd n D S F hs) (QV b f) r:=GL.assign hd hx (k b rfl)
theorem GL.xY(hd:Nat.blt d n=true)(hz:QK S oz=some (.bool true))(hx:QK S ox=some v)(k:GL O P ops rest ks Q (Hd n D ((d,v)::S) F hs) m r):
  GL O P ops (⟨some d,.pick oz ox oy,ty,pos,after,none⟩::rest) ks Q (Hd n D S F hs) m r:=
 GL.val hd (λa w ha=>by simp[execOp,ha.1.eval hx,ha.1.eval hz,asBool]) k
theorem GL.wi(hd:Nat.blt d n=true)(hz:QK S oz=some (.bool false))(hy:QK S oy=some v)(k:GL O P ops rest ks Q (Hd n D ((d,v)::S) F hs) m r):
  GL O P ops (⟨some d,.pick oz ox oy,ty,pos,after,none⟩::rest) ks Q (Hd n D S F hs) m r:=
 GL.val hd (λa w ha=>by simp[execOp,ha.1.eval hy,ha.1.eval hz,asBool]) k
theorem GL.add(hd:Nat.blt d n=true)(hx:QK S ox=some (.int kd x))(hy:QK S oy=some (.int kd y))(k:GL O P ops rest ks Q (Hd n D ((d,.int kd (kd.wrap (x+y)))::S) F hs) m r):
  GL O P ops (⟨some d,.binOp .add t ox oy t',ty,pos,after,none⟩::rest) ks Q (Hd n D S F hs) m r:=
 GL.val hd (λa w ha=>by simp[execOp,ha.1.eval hx,ha.1.eval hy,eqGuard,binOp,Op.intArith]) k
theorem GL.sub(hd:Nat.blt d n=true)(hx:QK S ox=some (.int kd x))(hy:QK S oy=some (.int kd y))(k:GL O P ops rest ks Q (Hd n D ((d,.int kd (kd.wrap (x - y)))::S) F hs) m r):
  GL O P ops (⟨some d,.binOp .sub t ox oy t',ty,pos,after,none⟩::rest) ks Q (Hd n D S F hs) m r:=
 GL.val hd (λa w ha=>by simp[execOp,ha.1.eval hx,ha.1.eval hy,eqGuard,binOp,Op.intArith]) k
theorem GL.mul(hd:Nat.blt d n=true)(hx:QK S ox=some (.int kd x))(hy:QK S oy=some (.int kd y))(k:GL O P ops rest ks Q (Hd n D ((d,.int kd (kd.wrap (x*y)))::S) F hs) m r):
  GL O P ops (⟨some d,.binOp .mul t ox oy t',ty,pos,after,none⟩::rest) ks Q (Hd n D S F hs) m r:=
 GL.val hd (λa w ha=>by simp[execOp,ha.1.eval hx,ha.1.eval hy,eqGuard,binOp,Op.intArith]) k
def Gv(kd:IntKind)(x y:Int):Option Int:=if y=0 then none else some (kd.wrap (x.tdiv y))
def IW(x y:Int):Option Int:=if y=0 then none else some (x.tmod y)
theorem GL.gI(hd:Nat.blt d n=true)(h0:y≠0)(hx:QK S ox=some (.int kd x))(hy:QK S oy=some (.int kd y))(k:GL O P ops rest ks Q (Hd n D ((d,.int kd (kd.wrap (x.tdiv y)))::S) F hs) m r):
  GL O P ops (⟨some d,.binOp .quo t ox oy t',ty,pos,after,none⟩::rest) ks Q (Hd n D S F hs) m r:=
 GL.val hd (λa w ha=>by simp[execOp,ha.1.eval hx,ha.1.eval hy,eqGuard,binOp,Op.intDiv,h0]) k
theorem GL.bl(hd:Nat.blt d n=true)(h0:y≠0)(hx:QK S ox=some (.int kd x))(hy:QK S oy=some (.int kd y))(k:GL O P ops rest ks Q (Hd n D ((d,.int kd (x.tmod y))::S) F hs) m r):
  GL O P ops (⟨some d,.binOp .rem t ox oy t',ty,pos,after,none⟩::rest) ks Q (Hd n D S F hs) m r:=
 GL.val hd (λa w ha=>by simp[execOp,ha.1.eval hx,ha.1.eval hy,eqGuard,binOp,Op.intDiv,h0]) k
theorem GL.quo{f:Int->Option β}(hd:Nat.blt d n=true)(hx:QK S ox=some (.int kd x))(hy:QK S oy=some (.int kd y))(k:∀z,Gv kd x y=some z->GL O P ops rest ks Q (Hd n D ((d,.int kd z)::S) F hs) (f z) r):
  GL O P ops (⟨some d,.binOp .quo t ox oy t',ty,pos,after,none⟩::rest) ks Q (Hd n D S F hs) ((Gv kd x y).bind f) r:=
 GL.bind λz hz=>by
  have h0:y≠0:=λe=>by simp[Gv,e] at hz
  have:z=kd.wrap (x.tdiv y):=by simpa[Gv,h0] using hz.symm
  have hk:=k z hz;rw[this] at hk ⊢
  exact GL.gI hd h0 hx hy hk
theorem GL.rem{f:Int->Option β}(hd:Nat.blt d n=true)(hx:QK S ox=some (.int kd x))(hy:QK S oy=some (.int kd y))(k:∀z,IW x y=some z->GL O P ops rest ks Q (Hd n D ((d,.int kd z)::S) F hs) (f z) r):
  GL O P ops (⟨some d,.binOp .rem t ox oy t',ty,pos,after,none⟩::rest) ks Q (Hd n D S F hs) ((IW x y).bind f) r:=
 GL.bind λz hz=>by
  have h0:y≠0:=λe=>by simp[IW,e] at hz
  have:z=x.tmod y:=by simpa[IW,h0] using hz.symm
  have hk:=k z hz;rw[this] at hk ⊢
  exact GL.bl hd h0 hx hy hk
theorem GL.eql(hd:Nat.blt d n=true)(hx:QK S ox=some (.int kd x))(hy:QK S oy=some (.int kd y))(k:GL O P ops rest ks Q (Hd n D ((d,.bool (x==y))::S) F hs) m r):
  GL O P ops (⟨some d,.binOp .eql t ox oy t',ty,pos,after,none⟩::rest) ks Q (Hd n D S F hs) m r:=
 GL.val hd (λa w ha=>by simp[execOp,ha.1.eval hx,ha.1.eval hy,eqGuard,binOp,Op.intCmp]) k
theorem GL.neq(hd:Nat.blt d n=true)(hx:QK S ox=some (.int kd x))(hy:QK S oy=some (.int kd y))(k:GL O P ops rest ks Q (Hd n D ((d,.bool (x != y))::S) F hs) m r):
  GL O P ops (⟨some d,.binOp .neq t ox oy t',ty,pos,after,none⟩::rest) ks Q (Hd n D S F hs) m r:=
 GL.val hd (λa w ha=>by simp[execOp,ha.1.eval hx,ha.1.eval hy,eqGuard,binOp,Op.intCmp]) k
theorem GL.lss(hd:Nat.blt d n=true)(hx:QK S ox=some (.int kd x))(hy:QK S oy=some (.int kd y))(k:GL O P ops rest ks Q (Hd n D ((d,.bool (decide (x < y)))::S) F hs) m r):
  GL O P ops (⟨some d,.binOp .lss t ox oy t',ty,pos,after,none⟩::rest) ks Q (Hd n D S F hs) m r:=
 GL.val hd (λa w ha=>by simp[execOp,ha.1.eval hx,ha.1.eval hy,eqGuard,binOp,Op.intCmp]) k
theorem GL.leq(hd:Nat.blt d n=true)(hx:QK S ox=some (.int kd x))(hy:QK S oy=some (.int kd y))(k:GL O P ops rest ks Q (Hd n D ((d,.bool (decide (x<=y)))::S) F hs) m r):
  GL O P ops (⟨some d,.binOp .leq t ox oy t',ty,pos,after,none⟩::rest) ks Q (Hd n D S F hs) m r:=
 GL.val hd (λa w ha=>by simp[execOp,ha.1.eval hx,ha.1.eval hy,eqGuard,binOp,Op.intCmp]) k
theorem GL.gtr(hd:Nat.blt d n=true)(hx:QK S ox=some (.int kd x))(hy:QK S oy=some (.int kd y))(k:GL O P ops rest ks Q (Hd n D ((d,.bool (decide (x > y)))::S) F hs) m r):
  GL O P ops (⟨some d,.binOp .gtr t ox oy t',ty,pos,after,none⟩::rest) ks Q (Hd n D S F hs) m r:=
 GL.val hd (λa w ha=>by simp[execOp,ha.1.eval hx,ha.1.eval hy,eqGuard,binOp,Op.intCmp]) k
theorem GL.geq(hd:Nat.blt d n=true)(hx:QK S ox=some (.int kd x))(hy:QK S oy=some (.int kd y))(k:GL O P ops rest ks Q (Hd n D ((d,.bool (decide (x≥y)))::S) F hs) m r):
  GL O P ops (⟨some d,.binOp .geq t ox oy t',ty,pos,after,none⟩::rest) ks Q (Hd n D S F hs) m r:=
 GL.val hd (λa w ha=>by simp[execOp,ha.1.eval hx,ha.1.eval hy,eqGuard,binOp,Op.intCmp]) k
def IJ(kd:IntKind)(x y:Int):Int:=x.fdiv (2^(min y.toNat kd.bits))
theorem GL.bk{kd' :IntKind}(hd:Nat.blt d n=true)(h0:¬y < 0)(hx:QK S ox=some (.int kd x))(hy:QK S oy=some (.int kd' y))(k:GL O P ops rest ks Q (Hd n D ((d,.int kd (IJ kd x y))::S) F hs) m r):
  GL O P ops (⟨some d,.binOp .shr t ox oy t',ty,pos,after,none⟩::rest) ks Q (Hd n D S F hs) m r:=
 GL.val hd (λa w ha=>by simp[execOp,ha.1.eval hx,ha.1.eval hy,eqGuard,binOp,Op.shift,h0,IJ]) k
theorem GL.not{b:Bool}(hd:Nat.blt d n=true)(hx:QK S ox=some (.bool b))(k:GL O P ops rest ks Q (Hd n D ((d,.bool (!b))::S) F hs) m r):
  GL O P ops (⟨some d,.unOp .not t ox,ty,pos,after,none⟩::rest) ks Q (Hd n D S F hs) m r:=
 GL.val hd (λa w ha=>by simp[execOp,ha.1.eval hx,Op.unary]) k
theorem GL.ft{ds:TypeDesc}{kd' :IntKind}(hd:Nat.blt d n=true)(h1:P.underlying t=some ds)(h2:P.underlying t' =some (.int kd'))(hx:QK S ox=some (.int kd x))(k:GL O P ops rest ks Q (Hd n D ((d,.int kd' (kd'.wrap x))::S) F hs) m r):
  GL O P ops (⟨some d,.convert t t' ox,ty,pos,after,none⟩::rest) ks Q (Hd n D S F hs) m r:=
 GL.val hd (λa w ha=>by
  simp only[execOp,ha.1.eval hx,convert,Sem.run_bind,Je h1,Je h2,Result.andThen];cases ds<;>simp[Conv.intToInt]) k
theorem GL.extract{i:Nat}{vs:Array Value}(hd:Nat.blt d n=true)(hx:QK S ox=some (.tuple vs))(hi:vs[i]? =some v)(k:GL O P ops rest ks Q (Hd n D ((d,v)::S) F hs) m r):
  GL O P ops (⟨some d,.extract ox i,ty,pos,after,none⟩::rest) ks Q (Hd n D S F hs) m r:=
 GL.val hd (λa w ha=>by simp[execOp,ha.1.eval hx,Instr.extract,hi]) k
theorem GL.bA{i z:Nat}{cs vs:Array Value}{fs:Array Field}{f:Field}(hd:Nat.blt d n=true)(ht:P.underlying t=some (.struct fs))(hf:fs[i]? =some f)(hA:∀w,(isAgg f.type).run P w= .ok true w)(hz:∀w,(sizeOf f.type).run P w= .ok z w)
  (hx:QK S ox=some (.agg cs)) (hi:cs.extract f.offset (f.offset+z)=vs) (k:GL O P ops rest ks Q (Hd n D ((d,.agg vs)::S) F hs) m r):
  GL O P ops (⟨some d,.field t ox i,ty,pos,after,none⟩::rest) ks Q (Hd n D S F hs) m r:=
 GL.val hd (λa w ha=>by simp[execOp,ha.1.eval hx,Instr.field,Je ht,hf,asAgg,part,hA,hz,hi]) k
def UC(S:List (Nat×Value)):List Operand->Option (List Value)
 | []=>some []
 | o::os=>match QK S o with
  | some v=>match UC S os with
   | some vs=>some (v::vs)
   | none=>none
  | none=>none
theorem Xu{a:Act}(hs:Sl n D S a):∀{os:List Operand} {vs:List Value},UC S os=some vs->os.map a.eval=vs
 | [],vs,h=>by simp[UC] at h;simp[h]
 | o::os,vs,h=>by
  simp only[UC] at h
  cases e:QK S o with
  | none=>rw[e] at h;cases h
  | some v=>
   rw[e] at h
   cases e2:UC S os with
   | none=>rw[e2] at h;cases h
   | some us=>
    rw[e2] at h
    simp only[Option.some.injEq] at h
    subst h;simp[hs.eval e,Xu hs e2]
theorem GL.makeFunc{fn:Fn}{caps:List Operand}{vs:List Value}(hd:Nat.blt d n=true)(hx:UC S caps=some vs)(k:GL O P ops rest ks Q (Hd n D ((d,.func fn #[] vs.toArray)::S) F hs) m r):
  GL O P ops (⟨some d,.makeFunc fn #[] caps.toArray,ty,pos,after,none⟩::rest) ks Q (Hd n D S F hs) m r:=
 GL.val hd (λa w ha=>by simp[execOp,Instr.makeFunc,Xu ha.1 hx]) k
def Sd(S:List (Nat×Value)):List (Nat×Operand)->Option (List (Nat×Value))
 | []=>some []
 | (i,o)::os=>match QK S o with
  | some v=>match Sd S os with
   | some vs=>some ((i,v)::vs)
   | none=>none
  | none=>none
theorem FQ{a:Act}(hs:Sl n D S a):∀{os:List (Nat×Operand)} {vs:List (Nat×Value)},Sd S os=some vs->os.map (λp=>(p.1,a.eval p.2))=vs
 | [],vs,h=>by simp[Sd] at h;simp[h]
 | (i,o)::os,vs,h=>by
  simp only[Sd] at h
  cases e:QK S o with
  | none=>rw[e] at h;cases h
  | some v=>
   rw[e] at h
   cases e2:Sd S os with
   | none=>rw[e2] at h;cases h
   | some us=>
    rw[e2] at h
    simp only[Option.some.injEq] at h
    subst h;simp[hs.eval e,FQ hs e2]
def Places(P:Program)(fs:Array Field)(pl:Array (Nat×Nat)):Prop:=∀w,(fs.mapM λf=>do pure (f.offset,<-sizeOf f.type):Sem (Array (Nat×Nat))).run P w= .ok pl w
theorem GL.build{fs:Array Field}{pl:Array (Nat×Nat)}{zc cs:Array Value}{z:Value}{parts:List (Nat×Operand)}{ps:List (Nat×Value)}(hd:Nat.blt d n=true)(ht:P.underlying t=some (.struct fs))(hz:∀w,(zeroValue t).run P w= .ok z w)(hpl:Places P fs pl)
  (hx:Sd S parts=some ps) (hc:z.cells=zc) (hi:Instr.fill (pl[·]?) zc ps=some cs) (k:GL O P ops rest ks Q (Hd n D ((d,.agg cs)::S) F hs) m r):
  GL O P ops (⟨some d,.build t parts.toArray,ty,pos,after,none⟩::rest) ks Q (Hd n D S F hs) m r:=
 GL.val hd (λa w ha=>by
  have hm:=FQ ha.1 hx;subst hc;simp only[execOp,Instr.build,Sem.run_bind,hz,Result.andThen,Je ht,hpl w];simp[hm,hi]) k
theorem GL.gy{len e sz:Nat}{zc cs:Array Value}{z:Value}{parts:List (Nat×Operand)}{ps:List (Nat×Value)}(hd:Nat.blt d n=true)(ht:P.underlying t=some (.array len e))(hz:∀w,(zeroValue t).run P w= .ok z w)(hsz:∀w,(sizeOf e).run P w= .ok sz w)
  (hx:Sd S parts=some ps) (hc:z.cells=zc) (hi:Instr.fill (λi=>some (i*sz,sz)) zc ps=some cs) (k:GL O P ops rest ks Q (Hd n D ((d,.agg cs)::S) F hs) m r):
  GL O P ops (⟨some d,.build t parts.toArray,ty,pos,after,none⟩::rest) ks Q (Hd n D S F hs) m r:=
 GL.val hd (λa w ha=>by
  have hm:=FQ ha.1 hx;subst hc;simp only[execOp,Instr.build,Sem.run_bind,hz,Result.andThen,Je ht,hsz w];simp[hm,hi]) k
theorem GL.xW(hd:Nat.blt d n=true)(hc:P.concrete t=true)(hx:QK S ox=some v)(k:GL O P ops rest ks Q (Hd n D ((d,.iface t v)::S) F hs) m r):
  GL O P ops (⟨some d,.makeInterface t ox,ty,pos,after,none⟩::rest) ks Q (Hd n D S F hs) m r:=
 GL.val hd (λa w ha=>by simp[execOp,ha.1.eval hx,run_makeInterface w t v hc]) k
theorem Uq(b o z:Nat):(⟨b,o,none⟩:Addr).add z=⟨b,o+z,none⟩:=by
 unfold Addr.add;split
 ·rename_i h;subst h;rfl
 ·rfl
theorem GL.fieldAddr{i b o z:Nat}{fs:Array Field}{f:Field}(hd:Nat.blt d n=true)(ht:P.underlying t=some (.struct fs))(hf:fs[i]? =some f)(hz:∀w,(sizeOf f.type).run P w= .ok (z+1) w)
  (hx:QK S ox=some (.pointer (some ⟨b,o,none⟩))) (k:GL O P ops rest ks Q (Hd n D ((d,.pointer (some ⟨b,o+f.offset,none⟩))::S) F hs) m r):
  GL O P ops (⟨some d,.fieldAddr t ox i,ty,pos,after,none⟩::rest) ks Q (Hd n D S F hs) m r:=
 GL.val hd (λa w ha=>by simp[execOp,ha.1.eval hx,Instr.fieldAt,Je ht,hf,Instr.sureAddr,fieldPlace,hz,Uq]) k
def YP(n:Nat)(i:Int):Option Nat:=if 0<=i/\i < n then some i.toNat else none
theorem Q4{n k:Nat}{i:Int}(h:YP n i=some k):0<=i/\i < n/\k=i.toNat/\k < n:=by
 unfold YP at h
 split at h
 ·rename_i hh;simp only[Option.some.injEq] at h;subst h;omega
 ·cases h
theorem GL.uh{len e b o z j:Nat}(hd:Nat.blt d n=true)(ht:P.underlying t=some (.array len e))(hz:∀w,(sizeOf e).run P w= .ok z w)
  (hx:QK S ox=some (.pointer (some ⟨b,o,none⟩))) (hy:QK S oy=some (.int kd x)) (hj:YP len x=some j) (k:GL O P ops rest ks Q (Hd n D ((d,.pointer (some ⟨b,o+j*z,none⟩))::S) F hs) m r):
  GL O P ops (⟨some d,.indexAddr t ox oy,ty,pos,after,none⟩::rest) ks Q (Hd n D S F hs) m r:=
 GL.val hd (λa w ha=>by
  obtain⟨h0,h1,h2,_⟩:=Q4 hj;subst h2;simp[execOp,ha.1.eval hx,ha.1.eval hy,Instr.indexAt,asIntOf,Je ht,Instr.sureAddr,h0,h1,hz,Uq]) k
theorem GL.wz{len cap e b o z j:Nat}(hd:Nat.blt d n=true)(ht:P.underlying t=some (.slice e))(hz:∀w,(sizeOf e).run P w= .ok z w)
  (hx:QK S ox=some (.slice (some ⟨b,o,none⟩) len cap)) (hy:QK S oy=some (.int kd x)) (hj:YP len x=some j) (k:GL O P ops rest ks Q (Hd n D ((d,.pointer (some ⟨b,o+j*z,none⟩))::S) F hs) m r):
  GL O P ops (⟨some d,.indexAddr t ox oy,ty,pos,after,none⟩::rest) ks Q (Hd n D S F hs) m r:=
 GL.val hd (λa w ha=>by
  obtain⟨h0,h1,h2,_⟩:=Q4 hj;subst h2;simp[execOp,ha.1.eval hx,ha.1.eval hy,Instr.indexAt,asIntOf,Je ht,h0,h1,hz,Uq]) k
theorem GL.fi{len e z j:Nat}{cs:Array Value}(hd:Nat.blt d n=true)(ht:P.underlying t=some (.array len e))(hA:∀w,(isAgg e).run P w= .ok false w)(hz:∀w,(sizeOf e).run P w= .ok z w)
  (hx:QK S ox=some (.agg cs)) (hy:QK S oy=some (.int kd x)) (hj:YP len x=some j) (hc:cs[j*z]? =some v) (k:GL O P ops rest ks Q (Hd n D ((d,v)::S) F hs) m r):
  GL O P ops (⟨some d,.index t ox oy,ty,pos,after,none⟩::rest) ks Q (Hd n D S F hs) m r:=
 GL.val hd (λa w ha=>by
  obtain⟨h0,h1,h2,_⟩:=Q4 hj;subst h2;simp[execOp,ha.1.eval hx,ha.1.eval hy,Instr.index,asIntOf,Je ht,h0,h1,hz,part,hA,hc]) k
theorem GL.wI{e len cap:Nat}{p:Option Addr}{T:Array TypeId}(hd:Nat.blt d n=true)(hT:T[0]? =some t)(ht:P.underlying t=some (.slice e))(hx:QK S ox=some (.slice p len cap))(k:GL O P ops rest ks Q (Hd n D ((d,.int .i64 len)::S) F hs) m r):
  GL O P ops (⟨some d,.call ⟨.builtin .len,#[ox],T⟩,ty,pos,after,none⟩::rest) ks Q (Hd n D S F hs) m r:=
 GL.val hd (λa w ha=>by simp[execOp,resolve,invoke,builtin,Builtin.len_,ha.1.eval hx,hT,Je ht,goInt]) k
theorem GL.min2{T:Array TypeId}(hd:Nat.blt d n=true)(hx:QK S ox=some (.int kd x))(hy:QK S oy=some (.int kd y))(k:GL O P ops rest ks Q (Hd n D ((d,.int kd (if y < x then y else x))::S) F hs) m r):
  GL O P ops (⟨some d,.call ⟨.builtin .min,#[ox,oy],T⟩,ty,pos,after,none⟩::rest) ks Q (Hd n D S F hs) m r:=
 GL.val hd (λa w ha=>by simp[execOp,resolve,invoke,builtin,Builtin.min_,Builtin.min2,ha.1.eval hx,ha.1.eval hy]) k
theorem GL.max2{T:Array TypeId}(hd:Nat.blt d n=true)(hx:QK S ox=some (.int kd x))(hy:QK S oy=some (.int kd y))(k:GL O P ops rest ks Q (Hd n D ((d,.int kd (if x < y then y else x))::S) F hs) m r):
  GL O P ops (⟨some d,.call ⟨.builtin .max,#[ox,oy],T⟩,ty,pos,after,none⟩::rest) ks Q (Hd n D S F hs) m r:=
 GL.val hd (λa w ha=>by simp[execOp,resolve,invoke,builtin,Builtin.max_,Builtin.max2,ha.1.eval hx,ha.1.eval hy]) k
end
end
end
end
section
variable{O:Option Nat}
theorem cell_of_heap{w:World}{b:Nat}{cs:List Value}{T:TypeId}{fr:Nat×Nat}(h:w.heap[b]? =some (.cells cs.toArray T fr))(o:Nat):w.cell? ⟨b,o,none⟩=cs[o]? :=by
 simp[World.cell?,h]
theorem frozen_of_heap{w:World}{b:Nat}{cs:Array Value}{T:TypeId}(h:w.heap[b]? =some (.cells cs T (0,0)))(o:Nat):w.frozen? ⟨b,o,none⟩=false:=by
 simp[World.frozen?,h]
theorem LA{w:World}{b o:Nat}{cs:List Value}{T:TypeId}{fr:Nat×Nat}{v:Value}(h:w.heap[b]? =some (.cells cs.toArray T fr)):w.setCell ⟨b,o,none⟩ v=put w b (.cells (cs.set o v).toArray T fr):=by
 have hlt:=lt_of_heap h;unfold World.setCell put;congr 1;apply Array.ext_getElem?;intro k;rw[Array.getElem?_modify];by_cases hk:b=k
 ·subst hk;have e:w.heap[b]= .cells cs.toArray T fr:=by simpa[hlt] using h
  simp[hlt,e]
 ·simp[hk]
theorem kv(w:World)(b:Nat)(x y:Obj):put (put w b x) b y=put w b y:=by
 simp[put]
theorem zG{w:World}{b:Nat}{o:Obj}(h:w.heap[b]? =some o):put w b o=w:=by
 have hlt:=lt_of_heap h;unfold put;congr 1;apply Array.ext_getElem?;intro k;by_cases hk:b=k
 ·subst hk;have e:w.heap[b]=o:=by simpa[hlt] using h
  simp[hlt,e]
 ·simp[hk]
def Kn:List Value->Nat->List Value->List Value
 | cs,_,[]=>cs
 | cs,o,v::vs=>Kn (cs.set o v) (o+1) vs
theorem XZ:∀(cs:List Value) (o:Nat) (vs:List Value),(Kn cs o vs).length=cs.length
 | _,_,[]=>rfl
 | cs,o,v::vs=>by simp[Kn,XZ]
theorem WR{P:Program}{b o T:Nat}:∀{vs:List Value} {cs:List Value} {i:Nat} {w:World},w.heap[b]? =some (.cells cs.toArray T (0,0))->o+i+vs.length<=cs.length->vs.all Value.oneCell' =true->
  (storeCells ⟨b,o,none⟩ vs i).run P w= .ok () (put w b (.cells (Kn cs (o+i) vs).toArray T (0,0)))
 | [],cs,i,w,h,_,_=>by simp[storeCells,Kn,zG h]
 | v::vs,cs,i,w,h,hl,hv=>by
  simp only[List.all_cons,Bool.and_eq_true] at hv
  simp only[List.length_cons] at hl
  have hc:w.cell? ⟨b,o+i,none⟩=some cs[o+i]:=by rw[cell_of_heap h];simp
  simp only[storeCells,Sem.run_bind,Uq,run_store P w _ v .plain hv.1,hc,frozen_of_heap h,Bool.false_eq_true,if_false,Result.andThen,LA h];rw[WR (cs:=cs.set (o+i) v) (Cd h) (by simp;omega) hv.2,kv];simp[Kn,Nat.add_assoc]
theorem XU{P:Program}{b o T:Nat}{cs:List Value}{fr:Nat×Nat}{w:World}{z:Nat}{vs:List Value}(h:w.heap[b]? =some (.cells cs.toArray T fr))(hv:(cs.drop o).take z=vs)(hz:vs.length=z):(loadCells ⟨b,o,none⟩ z).run P w= .ok vs.toArray w:=by
 subst hz;refine run_loadCells_list w ⟨b,o,none⟩ vs λj v e=> ?_;rw[Uq,cell_of_heap h];have e' :=e;rw[<-hv] at e
 rw[List.getElem?_take,List.getElem?_drop] at e
 split at e
 ·exact e
 ·cases e
section
variable{β:Type}{P:Program}{ops:Array Oper}{rest:List Oper}{ks:List Kt}{Q:Exit->Act->World->Prop}{m:Option β}{r:β}
variable{n:Nat}{D:List Deferred}{S:List (Nat×Value)}{F:Fz}{hs:List HP}
variable{d:Nat}{ty t t' :TypeId}{pos:String}{after:Array Edge}{ox oy oz:Operand}{v u:Value}{kd:IntKind}{x y:Int}
theorem GL.alloc{z:Value}{cs:List Value}(hd:Nat.blt d n=true)(hz:∀w,(zeroValue t).run P w= .ok z w)(hc:z.cells=cs.toArray)
  (k:∀b,GL O P ops rest ks Q (Hd n D ((d,.pointer (some ⟨b,0,none⟩))::S) F (pt b (.cells cs.toArray t)::hs)) m r):
  GL O P ops (⟨some d,.alloc t,ty,pos,after,none⟩::rest) ks Q (Hd n D S F hs) m r:=
 GL.step rfl (.inr rfl) λhm a w ha=>by
  refine⟨.pointer (some ⟨w.heap.size,0,none⟩),w.alloc (.cells cs.toArray t),?_,k w.heap.size hm _ _ ⟨ha.1.put hd _,ha.2.alloc _⟩⟩;simp[execOp,Instr.alloc,hz,newVar,newRow,hc]
theorem GL.box{cs:List Value}(hd:Nat.blt d n=true)(hx:QK S ox=some v)(hc:v.cells=cs.toArray)
  (k:∀b,GL O P ops rest ks Q (Hd n D ((d,.pointer (some ⟨b,0,none⟩))::S) F (pt b (.cells cs.toArray t)::hs)) m r):
  GL O P ops (⟨some d,.box t ox,ty,pos,after,none⟩::rest) ks Q (Hd n D S F hs) m r:=
 GL.step rfl (.inr rfl) λhm a w ha=>by
  refine⟨.pointer (some ⟨w.heap.size,0,none⟩),w.alloc (.cells cs.toArray t),?_,k w.heap.size hm _ _ ⟨ha.1.put hd _,ha.2.alloc _⟩⟩;simp[execOp,Instr.box,ha.1.eval hx,newVar,newRow,hc]
theorem GL.u6{cs:List Value}(hd:Nat.blt d n=true)(hx:QK S ox=some v)(hc:v.cells=cs.toArray)
  (k:∀b F',F<=F'->F'.mem b=some (.cells cs.toArray t)->GL O P ops rest ks Q (Hd n D ((d,.pointer (some ⟨b,0,none⟩))::S) F' hs) m r):
  GL O P ops (⟨some d,.box t ox,ty,pos,after,none⟩::rest) ks Q (Hd n D S F hs) m r:=
 GL.step rfl (.inr rfl) λhm a w ha=>by
  obtain⟨h1,h2⟩:=ha.2.gD (.cells cs.toArray t);refine⟨.pointer (some ⟨w.heap.size,0,none⟩),w.alloc (.cells cs.toArray t),?_,k w.heap.size _ h1 (Fz.wH ..) hm _ _ ⟨ha.1.put hd _,h2⟩⟩;simp[execOp,Instr.box,ha.1.eval hx,newVar,newRow,hc]
theorem Xo{P:Program}{t b o:Nat}{w:World}(hA:∀w,(isAgg t).run P w= .ok false w)(h:w.cell? ⟨b,o,none⟩=some v):(Instr.loadAt t (.pointer (some ⟨b,o,none⟩))).run P w= .ok v w:=by
 simp[Instr.loadAt,Instr.sureAddr,loadVar,hA,h]
theorem FG{P:Program}{t b o T z:Nat}{cs vs:List Value}{fr:Nat×Nat}{w:World}(hA:∀w,(isAgg t).run P w= .ok true w)(hz:∀w,(sizeOf t).run P w= .ok z w)(h:w.heap[b]? =some (.cells cs.toArray T fr))(hv:(cs.drop o).take z=vs)(hl:vs.length=z):
  (Instr.loadAt t (.pointer (some ⟨b,o,none⟩))).run P w= .ok (.agg vs.toArray) w:=by
 simp[Instr.loadAt,Instr.sureAddr,loadVar,hA,hz,XU h hv hl]
theorem GL.R{b o T:Nat}{cs:List Value}{fr:Nat×Nat}(hd:Nat.blt d n=true)(hA:∀w,(isAgg t).run P w= .ok false w)(hx:QK S ox=some (.pointer (some ⟨b,o,none⟩)))(hb:F.mem b=some (.cells cs.toArray T fr))(hv:cs[o]? =some v)
  (k:GL O P ops rest ks Q (Hd n D ((d,v)::S) F hs) m r):GL O P ops (⟨some d,.load t ox,ty,pos,after,none⟩::rest) ks Q (Hd n D S F hs) m r:=
 GL.val hd (λa w ha=>by simp[execOp,ha.1.eval hx,Xo hA (by rw[cell_of_heap (ha.2.frozen hb)];exact hv)]) k
theorem GL.u4{b o T z:Nat}{cs vs:List Value}{fr:Nat×Nat}(hd:Nat.blt d n=true)(hA:∀w,(isAgg t).run P w= .ok true w)(hz:∀w,(sizeOf t).run P w= .ok z w)(hx:QK S ox=some (.pointer (some ⟨b,o,none⟩)))(hb:F.mem b=some (.cells cs.toArray T fr))(hv:(cs.drop o).take z=vs)(hl:vs.length=z)
  (k:GL O P ops rest ks Q (Hd n D ((d,.agg vs.toArray)::S) F hs) m r):GL O P ops (⟨some d,.load t ox,ty,pos,after,none⟩::rest) ks Q (Hd n D S F hs) m r:=
 GL.val hd (λa w ha=>by simp[execOp,ha.1.eval hx,FG hA hz (ha.2.frozen hb) hv hl]) k
theorem GL.j{b o T i:Nat}{cs:List Value}{fr:Nat×Nat}(hd:Nat.blt d n=true)(hA:∀w,(isAgg t).run P w= .ok false w)(hx:QK S ox=some (.pointer (some ⟨b,o,none⟩)))(hb:hs[i]? =some (pt b (.cells cs.toArray T fr)))(hv:cs[o]? =some v)
  (k:GL O P ops rest ks Q (Hd n D ((d,v)::S) F hs) m r):GL O P ops (⟨some d,.load t ox,ty,pos,after,none⟩::rest) ks Q (Hd n D S F hs) m r:=
 GL.val hd (λa w ha=>by simp[execOp,ha.1.eval hx,Xo hA (by rw[cell_of_heap (SH.wD hb ha.2)];exact hv)]) k
theorem GL.ux{b o T z i:Nat}{cs vs:List Value}{fr:Nat×Nat}(hd:Nat.blt d n=true)(hA:∀w,(isAgg t).run P w= .ok true w)(hz:∀w,(sizeOf t).run P w= .ok z w)(hx:QK S ox=some (.pointer (some ⟨b,o,none⟩)))(hb:hs[i]? =some (pt b (.cells cs.toArray T fr)))(hv:(cs.drop o).take z=vs)(hl:vs.length=z)
  (k:GL O P ops rest ks Q (Hd n D ((d,.agg vs.toArray)::S) F hs) m r):GL O P ops (⟨some d,.load t ox,ty,pos,after,none⟩::rest) ks Q (Hd n D S F hs) m r:=
 GL.val hd (λa w ha=>by simp[execOp,ha.1.eval hx,FG hA hz (SH.wD hb ha.2) hv hl]) k
theorem GL.store{b o T i z:Nat}{cs vs cs' :List Value}(hz:∀w,(sizeOf t).run P w= .ok z w)(hx:QK S ox=some (.pointer (some ⟨b,o,none⟩)))(hy:QK S oy=some v)(hc:v.cells=vs.toArray)(hl:vs.length=z)
  (hb:hs[i]? =some (pt b (.cells cs.toArray T (0,0)))) (ho:o+vs.length<=cs.length) (h1:vs.all Value.oneCell' =true) (hcs:Kn cs o vs=cs')
  (k:GL O P ops rest ks Q (Hd n D S F (hs.set i (pt b (.cells cs'.toArray T (0,0))))) m r):
  GL O P ops (⟨none,.store t ox oy,ty,pos,after,none⟩::rest) ks Q (Hd n D S F hs) m r:=
 GL.xf rfl (.inr rfl) λhm a w ha=>by
  subst hcs;have h:=SH.wD hb ha.2;refine⟨put w b (.cells (Kn cs o vs).toArray T (0,0)),?_,k hm _ _ ⟨ha.1.wK _,SH.putAt hb ha.2 _⟩⟩;have hr:=WR (P:=P) (o:=o) (i:=0) h (by simpa using ho) h1;simp only[Nat.add_zero] at hr
  simp only[execOp,Instr.storeAt,ha.1.eval hx,ha.1.eval hy,Instr.sureAddr,storeVar,Sem.run_bind,hz,Result.andThen,hc];simp[hl,hr]
theorem U2{a:Act}{f:FuncId}{caps:List Value}{of:Operand}{os:List Operand}{T:Array TypeId}{vs:List Value}{w:World}(hs:Sl n D S a)(hcall:∀args w,(callFunc f args).run P w= .ok (.enter f args) w)
  (hf:QK S of=some (.func (.func f) #[] caps.toArray)) (ha:UC S os=some vs) {dst:Option Tmp}:
  (execOp a.eval ⟨dst,.call ⟨.value of,os.toArray,T⟩,ty,pos,after,none⟩).run P w= .ok (.enter f (vs++caps).toArray) w:=by
 have e:=Xu hs ha;simp[execOp,resolve,Deferred.ofValue,hs.eval hf,e,invoke,hcall]
theorem GL.xE{A:Act->World->Prop}{o:Oper}{f:FuncId}{args:Array Value}(hg:o.guard=none)(hnd:O=none∨X0 o.op=true)
  (h:m=some r->∀a w,A a w->(execOp a.eval o).run P w= .ok (.enter f args) w/\Calls P f args w (λe w' =>∃v,e= .returned v/\Xd O P ops (Z8 O P ks Q) rest (a.put o.dst v) w')):
  GL O P ops (o::rest) ks Q A m r:=by
 intro hm a w ha;obtain⟨h1,h2⟩:=h hm a w ha;unfold Xd;rw[if_pos (by simp[Region.wanted,hg])];refine⟨hnd,?_⟩;rw[h1];refine⟨λe=>(by rw[CD] at e;cases e),Ns.2 (h2.mono ?_)⟩;rintro e w' ⟨v,rfl,h⟩;exact h
theorem GL.uw{α:Type}{f:FuncId}{caps as vs:List Value}{of:Operand}{os:List Operand}{T:Array TypeId}{e:Option α}{ρ:α->Fz->Value->Prop}{g:α->Option β}(hd:Nat.blt d n=true)
  (hcall:∀args w,(callFunc f args).run P w= .ok (.enter f args) w) (hf:QK S of=some (.func (.func f) #[] caps.toArray)) (ha:UC S os=some vs) (has:vs++caps=as)
  (hc:KE P f as.toArray F e ρ) (k:∀x F' v,e=some x->F<=F'->ρ x F' v->GL O P ops rest ks Q (Hd n D ((d,v)::S) F' hs) (g x) r):
  GL O P ops (⟨some d,.call ⟨.value of,os.toArray,T⟩,ty,pos,after,none⟩::rest) ks Q (Hd n D S F hs) (e.bind g) r:=
 GL.xE rfl (.inr rfl) λhm a w hA=>by
  subst has;refine⟨U2 hA.1 hcall hf ha,?_⟩;cases he:e with
  | none=>rw[he] at hm;cases hm
  | some y=>
   rw[he] at hm
   refine(hc y he w _ hA.2).mono ?_;rintro _ w' ⟨F',v,le,rfl,hρ,hw⟩;exact⟨v,rfl,k y F' v he le hρ hm _ _ ⟨hA.1.put hd _,hw⟩⟩
theorem GL.uv{α:Type}{f:FuncId}{caps as vs:List Value}{of:Operand}{os:List Operand}{T:Array TypeId}{e:α}{ρ:α->Fz->Value->Prop}(hd:Nat.blt d n=true)
  (hcall:∀args w,(callFunc f args).run P w= .ok (.enter f args) w) (hf:QK S of=some (.func (.func f) #[] caps.toArray)) (ha:UC S os=some vs) (has:vs++caps=as)
  (hc:KE P f as.toArray F (some e) ρ) (k:∀F' v,F<=F'->ρ e F' v->GL O P ops rest ks Q (Hd n D ((d,v)::S) F' hs) m r):
  GL O P ops (⟨some d,.call ⟨.value of,os.toArray,T⟩,ty,pos,after,none⟩::rest) ks Q (Hd n D S F hs) m r:=
 GL.xE rfl (.inr rfl) λhm a w hA=>by
  subst has;refine⟨U2 hA.1 hcall hf ha,?_⟩;refine(hc e rfl w _ hA.2).mono ?_;rintro _ w' ⟨F',v,le,rfl,hρ,hw⟩;exact⟨v,rfl,k F' v le hρ hm _ _ ⟨hA.1.put hd _,hw⟩⟩
theorem GL.wa{α:Type}{f:FuncId}{caps as vs:List Value}{of:Operand}{os:List Operand}{T:Array TypeId}{e:Option α}{y:α}{ρ:α->Fz->Value->Prop}(he:e=some y)(hd:Nat.blt d n=true)
  (hcall:∀args w,(callFunc f args).run P w= .ok (.enter f args) w) (hf:QK S of=some (.func (.func f) #[] caps.toArray)) (ha:UC S os=some vs) (has:vs++caps=as)
  (hc:KE P f as.toArray F e ρ) (k:∀F' v,F<=F'->ρ y F' v->GL O P ops rest ks Q (Hd n D ((d,v)::S) F' hs) m r):
  GL O P ops (⟨some d,.call ⟨.value of,os.toArray,T⟩,ty,pos,after,none⟩::rest) ks Q (Hd n D S F hs) m r:=
 GL.uv hd hcall hf ha has (he▸hc) k
theorem GL.xD{α:Type}{f:FuncId}{caps as vs:List Value}{of:Operand}{os:List Operand}{T:Array TypeId}{e:Option α}{ρ:α->Fz->Value->Prop}{H:HP}{H' :α->Fz->Value->HP}{g:α->Option β}{i:Nat}(hd:Nat.blt d n=true)
  (hcall:∀args w,(callFunc f args).run P w= .ok (.enter f args) w) (hf:QK S of=some (.func (.func f) #[] caps.toArray)) (ha:UC S os=some vs) (has:vs++caps=as) (hi:hs[i]? =some H)
  (hc:CT P f as.toArray F H e ρ H') (k:∀x F' v,e=some x->F<=F'->ρ x F' v->GL O P ops rest ks Q (Hd n D ((d,v)::S) F' (hs.set i (H' x F' v))) (g x) r):
  GL O P ops (⟨some d,.call ⟨.value of,os.toArray,T⟩,ty,pos,after,none⟩::rest) ks Q (Hd n D S F hs) (e.bind g) r:=
 GL.xE rfl (.inr rfl) λhm a w hA=>by
  subst has;refine⟨U2 hA.1 hcall hf ha,?_⟩;cases he:e with
  | none=>rw[he] at hm;cases hm
  | some y=>
   rw[he] at hm
   refine(hc y he w _ (hA.2.pull hi)).mono ?_;rintro _ w' ⟨F',v,le,rfl,hρ,hw⟩;exact⟨v,rfl,k y F' v he le hρ hm _ _ ⟨hA.1.put hd _,SH.push hi hw⟩⟩
end
inductive CG(P:Program)(S:List (Nat×Value))(F:Fz)(hs:List HP):List ResultVar->List Value->Prop where
 | nil:CG P S F hs [] []
 | tmp {t:Nat} {v:Value} {rs:List ResultVar} {vs:List Value} (h:Kw S t=some v) (k:CG P S F hs rs vs):CG P S F hs (.tmp t::rs) (v::vs)
 | cell {t i b T:Nat} {ty:TypeId} {v:Value} {cs:List Value} {fr:Nat×Nat} {rs:List ResultVar} {vs:List Value} (h:Kw S t=some (.pointer (some ⟨b,0,none⟩))) (hA:∀w,(isAgg ty).run P w= .ok false w) (hb:hs[i]? =some (pt b (.cells cs.toArray T fr))) (hv:cs[0]? =some v) (k:CG P S F hs rs vs):CG P S F hs (.cell t ty::rs) (v::vs)
 | agg {t i b T z:Nat} {ty:TypeId} {cs vs' :List Value} {fr:Nat×Nat} {rs:List ResultVar} {vs:List Value} (h:Kw S t=some (.pointer (some ⟨b,0,none⟩))) (hA:∀w,(isAgg ty).run P w= .ok true w) (hz:∀w,(sizeOf ty).run P w= .ok z w) (hb:hs[i]? =some (pt b (.cells cs.toArray T fr))) (hv:cs.take z=vs') (hl:vs'.length=z) (k:CG P S F hs rs vs):CG P S F hs (.cell t ty::rs) (.agg vs'.toArray::vs)
def CS:List Value->Value
 | [v]=>v
 | vs=>.tuple vs.toArray
def PC(tmps:Array Value):ResultVar->Sem Value
 | .tmp t=>pure (tmps.getD t undef)
 | .cell a t=>do loadVar t (<-asAddr (tmps.getD a undef))
theorem Gj{P:Program}{n:Nat}{D:List Deferred}{S:List (Nat×Value)}{F:Fz}{hs:List HP}{a:Act}{w:World}(ha:Hd n D S F hs a w):∀{rs:List ResultVar} {vs:List Value},CG P S F hs rs vs->(rs.mapM (PC a.tmps)).run P w= .ok vs w
 | _,_,.nil=>by simp
 | _,_,.tmp h k=>by
  have e:=ha.1.2.2 _ _ h;simp[PC,e,Gj ha k]
 | _,_,.cell h hA hb hv k=>by
  have e:=ha.1.2.2 _ _ h;have hl:=Xo (P:=P) (w:=w) hA (by rw[cell_of_heap (SH.wD hb ha.2)];exact hv);simp only[Instr.loadAt,Instr.sureAddr,Sem.run_bind,Sem.run_pure,Result.andThen] at hl
  simp[PC,e,Gj ha k,asAddr,hl]
 | _,_,.agg h hA hz hb hv hl' k=>by
  have e:=ha.1.2.2 _ _ h;have hl:=FG (P:=P) (w:=w) (o:=0) hA hz (SH.wD hb ha.2) (by simpa using hv) hl';simp only[Instr.loadAt,Instr.sureAddr,Sem.run_bind,Sem.run_pure,Result.andThen] at hl
  simp[PC,e,Gj ha k,asAddr,hl]
theorem Jo{P:Program}{n:Nat}{D:List Deferred}{S:List (Nat×Value)}{F:Fz}{hs:List HP}{a:Act}{w:World}{fn:Func}{rs:List ResultVar}{vs:List Value}(hr:fn.results=rs.toArray)(ha:Hd n D S F hs a w)(h:CG P S F hs rs vs):(results fn a.tmps).run P w= .ok (CS vs) w:=by
 have h1:=Gj ha h
 have e:(results fn a.tmps)=(do let vs <-fn.results.mapM (PC a.tmps);pure (if h:vs.size=1 then vs[0] else .tuple vs)):=by
  unfold results;congr 1
 rw[e,hr];simp only[List.mapM_toArray,Sem.run_bind,Sem.run_map,h1,Result.andThen,Sem.run_pure];congr 1
 match vs with
 | []=>rfl
 | [v]=>rfl
 | v::u::vs=>simp[CS]
section
variable{β:Type}{P:Program}{n:Nat}{S:List (Nat×Value)}{F F' :Fz}{hs:List HP}{ks:List Kt}{fn:Func}{R:HP}{ρ:β->Fz->Value->Prop}{x r:β}{rs:List ResultVar}{vs:List Value}{i:Nat}
theorem XJ(hr:fn.results=rs.toArray)(h:CG P S F' hs rs vs)(hi:hs[i]? =some R)(le:F<=F')(hρ:ρ x F' (CS vs)):
  some x=some r->∀a w,Hd n [] S F' hs a w->MU P fn F R ρ r .ret a w:=by
 intro e a w ha;simp only[Option.some.injEq] at e
 subst e;exact⟨ha.1.2.1,_,Jo hr ha h,F',_,le,rfl,hρ,ha.2.only hi⟩
theorem GC.uq(hr:fn.results=rs.toArray)(h:CG P S F' hs rs vs)(hi:hs[i]? =some R)(le:F<=F')(hρ:ρ x F' (CS vs)):
 GC O P .ret ks (MU P fn F R ρ r) (Hd n [] S F' hs) (some x) r:=GC.wN (XJ hr h hi le hρ)
theorem SH.dZ{w:World}{F:Fz}{hs:List HP}{i j:Nat}{p q:HP}(hi:hs[i]? =some p)(hj:(hs.eraseIdx i)[j]? =some q)(h:SH w F (Qj hs)):SH w F (star p q):=
 (h.pull hi).mono λ_ hm=>by
  obtain⟨m1,m2,d,s1,s2,hp,hq⟩:=hm;obtain⟨m3,_,_,t1,_,hq',_⟩:=Y1 hj hq;exact⟨m1,m3,d.sub (Mem.sub.refl _) t1,s1,t1.trans s2,hp,hq'⟩
theorem PB{H' :β->Fz->Value->HP}{j:Nat}(hr:fn.results=rs.toArray)(h:CG P S F' hs rs vs)(hi:hs[i]? =some (H' x F' (CS vs)))(hj:(hs.eraseIdx i)[j]? =some R)(le:F<=F')(hρ:ρ x F' (CS vs)):
  some x=some r->∀a w,Hd n [] S F' hs a w->MV P fn F R ρ H' r .ret a w:=by
 intro e a w ha;simp only[Option.some.injEq] at e
 subst e;exact⟨ha.1.2.1,_,Jo hr ha h,F',_,le,rfl,hρ,ha.2.dZ hi hj⟩
theorem GC.fX{H' :β->Fz->Value->HP}{j:Nat}(hr:fn.results=rs.toArray)(h:CG P S F' hs rs vs)(hi:hs[i]? =some (H' x F' (CS vs)))(hj:(hs.eraseIdx i)[j]? =some R)(le:F<=F')(hρ:ρ x F' (CS vs)):
 GC O P .ret ks (MV P fn F R ρ H' r) (Hd n [] S F' hs) (some x) r:=GC.wN (PB hr h hi hj le hρ)
theorem GE.bE{H' :β->Fz->Value->HP}{j:Nat}(hr:fn.results=rs.toArray)(h:CG P S F' hs rs vs)(hi:hs[i]? =some (H' x F' (CS vs)))(hj:(hs.eraseIdx i)[j]? =some R)(le:F<=F')(hρ:ρ x F' (CS vs)):
 GE O P [] (MV P fn F R ρ H' r) (Hd n [] S F' hs) (some x) r:=GE.nil (PB hr h hi hj le hρ)
end
end
section
variable{O:Option Nat}
section
variable{β:Type}{P:Program}{ops:Array Oper}{rest l:List Oper}{ks:List Kt}{Q:Exit->Act->World->Prop}{A:Act->World->Prop}{m:Option β}{r:β}
variable{n:Nat}{D:List Deferred}{S S0:List (Nat×Value)}{F F' :Fz}{hs:List HP}
theorem Fp{Q1 Q2:Exit->Act->World->Prop}(l2:List Oper)(hq:∀a w,Q1 .normal a w->Xd O P ops Q2 l2 a w)(hx:∀e a w,e≠.normal->Q1 e a w->Q2 e a w):∀(l1:List Oper) (a:Act) (w:World),Xd O P ops Q1 l1 a w->Xd O P ops Q2 (l1++l2) a w
 | [],a,w,h=>hq a w h
 | o::l1,a,w,h=>by
  simp only[List.cons_append];unfold Xd at h ⊢
  split
  ·rename_i hw;rw[if_pos hw] at h
   exact TV (λ_ _ he=>Fp l2 hq hx l1 _ _ he) hx h
  ·rename_i hw;rw[if_neg hw] at h
   exact Fp l2 hq hx l1 _ _ h
def WO(n:Nat)(D:List Deferred)(d:Nat)(v:Value)(S:List (Nat×Value))(F:Fz)(hs:List HP):Exit->Act->World->Prop:=
 λe a w=>e= .normal/\∃F',F<=F'/\Hd n D ((d,v)::S) F' hs a w
theorem Gg{S' :List (Nat×Value)}(j:Nat)(hd:S'.drop j=S)(hf:fresh S (S'.take j)=true):Sub S S' :=λi v h=>by
 have:=Gn hf h;rw[<-hd,List.take_append_drop] at this
 exact this
theorem GL.fin{S' :List (Nat×Value)}{d:Nat}{v:Value}{x:β}(j:Nat)(hv:Kw S' d=some v)(hd:S'.drop j=S)(hf:fresh S (S'.take j)=true)(le:F<=F'):
  GL O P ops [] [] (WO n D d v S F hs) (Hd n D S' F' hs) (some x) x:=
 λ_ _ _ ha=>⟨rfl,F',le,ha.1.sub (Sub.cons hv (Gg j hd hf)),ha.2⟩
theorem GL.bh{α:Type}{m0:Option α}{f:α->Option β}(k d:Nat)(V:α->Value)(h:∀z,GL O P ops (l.take k) [] (WO n D d (V z) S F hs) (Hd n D S F hs) m0 z)
  (next:∀z F',m0=some z->F<=F'->GL O P ops (l.drop k) ks Q (Hd n D ((d,V z)::S) F' hs) (f z) r):GL O P ops l ks Q (Hd n D S F hs) (m0.bind f) r:=by
 intro hm a w ha;cases hl:m0 with
 | none=>rw[hl] at hm;cases hm
 | some z=>
  rw[hl] at hm
  have h1:=h z hl a w ha
  have:=Fp (P:=P) (ops:=ops) (Q2:=Z8 O P ks Q) (l.drop k) (Q1:=WO n D d (V z) S F hs) (λa' w' hq=>by
   obtain⟨_,F',le,hq⟩:=hq;exact next z F' hl le hm a' w' hq) (λe a' w' hne hq=>absurd hq.1 hne) (l.take k) a w h1
  rwa[List.take_append_drop] at this
theorem GL.bP{v:Value}(k d:Nat)(h:GL O P ops (l.take k) [] (WO n D d v S F hs) (Hd n D S F hs) (some ()) ())
  (next:∀F',F<=F'->GL O P ops (l.drop k) ks Q (Hd n D ((d,v)::S) F' hs) m r):GL O P ops l ks Q (Hd n D S F hs) m r:=by
 intro hm a w ha;have h1:=h rfl a w ha
 have:=Fp (P:=P) (ops:=ops) (Q2:=Z8 O P ks Q) (l.drop k) (Q1:=WO n D d v S F hs) (λa' w' hq=>by
  obtain⟨_,F',le,hq⟩:=hq;exact next F' le hm a' w' hq) (λe a' w' hne hq=>absurd hq.1 hne) (l.take k) a w h1
 rwa[List.take_append_drop] at this
theorem GL.wJ{b b' :Bool}(k d:Nat)
  (h1:b=true->GL O P ops (l.take k) [] (WO n D d (.bool b') S F hs) (Hd n D S F hs) (some ()) ())
  (h2:b=false->GL O P ops (l.take k) [] (WO n D d (.bool false) S F hs) (Hd n D S F hs) (some ()) ())
  (next:∀F',F<=F'->GL O P ops (l.drop k) ks Q (Hd n D ((d,.bool (b&&b'))::S) F' hs) m r):GL O P ops l ks Q (Hd n D S F hs) m r:=
 GL.bP k d (by cases hb:b with | true=>exact h1 hb | false=>exact h2 hb) next
theorem GL.dD{b b' :Bool}(k d:Nat)
  (h1:b=false->GL O P ops (l.take k) [] (WO n D d (.bool b') S F hs) (Hd n D S F hs) (some ()) ())
  (h2:b=true->GL O P ops (l.take k) [] (WO n D d (.bool true) S F hs) (Hd n D S F hs) (some ()) ())
  (next:∀F',F<=F'->GL O P ops (l.drop k) ks Q (Hd n D ((d,.bool (b||b'))::S) F' hs) m r):GL O P ops l ks Q (Hd n D S F hs) m r:=
 GL.bP k d (by cases hb:b with | true=>exact h2 hb | false=>exact h1 hb) next
theorem GL.andM{b:Bool}{m1:Option Bool}{f:Bool->Option β}(k d:Nat)
  (h1:b=true->∀z,GL O P ops (l.take k) [] (WO n D d (.bool z) S F hs) (Hd n D S F hs) m1 z)
  (h2:b=false->GL O P ops (l.take k) [] (WO n D d (.bool false) S F hs) (Hd n D S F hs) (some ()) ())
  (next:∀z F',F<=F'->GL O P ops (l.drop k) ks Q (Hd n D ((d,.bool z)::S) F' hs) (f z) r):GL O P ops l ks Q (Hd n D S F hs) ((if b then m1 else some false).bind f) r:=
 GL.bh k d (λz=>.bool z) (by
  intro z;cases hb:b with
  | true=>rw[if_pos rfl];exact h1 hb z
  | false=>rw[if_neg (by simp)];intro e;simp only[Option.some.injEq] at e;subst e;exact h2 hb rfl) (λz F' _ le=>next z F' le)
theorem GL.orM{b:Bool}{m1:Option Bool}{f:Bool->Option β}(k d:Nat)
  (h1:b=false->∀z,GL O P ops (l.take k) [] (WO n D d (.bool z) S F hs) (Hd n D S F hs) m1 z)
  (h2:b=true->GL O P ops (l.take k) [] (WO n D d (.bool true) S F hs) (Hd n D S F hs) (some ()) ())
  (next:∀z F',F<=F'->GL O P ops (l.drop k) ks Q (Hd n D ((d,.bool z)::S) F' hs) (f z) r):GL O P ops l ks Q (Hd n D S F hs) ((if b then some true else m1).bind f) r:=
 GL.bh k d (λz=>.bool z) (by
  intro z;cases hb:b with
  | true=>rw[if_pos rfl];intro e;simp only[Option.some.injEq] at e;subst e;exact h2 hb rfl
  | false=>rw[if_neg (by simp)];exact h1 hb z) (λz F' _ le=>next z F' le)
theorem GL.uk{dst:Option Tmp}{op:Op}{ty:TypeId}{pos:String}{after:Array Edge}{j t:Nat}{b want:Bool}(hb:b=want)(hj:(ops[j]?).bind (·.dst)=some t)(hv:Kw S t=some (.bool b))
  (k:GL O P ops (⟨dst,op,ty,pos,after,none⟩::rest) ks Q (Hd n D S F hs) m r):GL O P ops (⟨dst,op,ty,pos,after,some (j,want)⟩::rest) ks Q (Hd n D S F hs) m r:=
 GL.on hj (hb▸hv) k
theorem GL.I{d:Nat}{op:Op}{ty:TypeId}{pos:String}{after:Array Edge}{j t:Nat}{b want:Bool}(hb:b= !want)(hd:Nat.blt d n=true)(hj:(ops[j]?).bind (·.dst)=some t)(hv:Kw S t=some (.bool b))
  (k:GL O P ops rest ks Q (Hd n D ((d,undef)::S) F hs) m r):GL O P ops (⟨some d,op,ty,pos,after,some (j,want)⟩::rest) ks Q (Hd n D S F hs) m r:=
 GL.off hd hj hv (by subst hb;cases want<;>rfl) k
theorem GL.ui{d:Nat}{ty:TypeId}{pos:String}{after:Array Edge}{ox oy oz:Operand}{v:Value}{b:Bool}(hb:b=true)(hd:Nat.blt d n=true)(hz:QK S oz=some (.bool b))(hx:QK S ox=some v)(k:GL O P ops rest ks Q (Hd n D ((d,v)::S) F hs) m r):
 GL O P ops (⟨some d,.pick oz ox oy,ty,pos,after,none⟩::rest) ks Q (Hd n D S F hs) m r:=GL.xY hd (hb▸hz) hx k
theorem GL.uo{d:Nat}{ty:TypeId}{pos:String}{after:Array Edge}{ox oy oz:Operand}{v:Value}{b:Bool}(hb:b=false)(hd:Nat.blt d n=true)(hz:QK S oz=some (.bool b))(hy:QK S oy=some v)(k:GL O P ops rest ks Q (Hd n D ((d,v)::S) F hs) m r):
 GL O P ops (⟨some d,.pick oz ox oy,ty,pos,after,none⟩::rest) ks Q (Hd n D S F hs) m r:=GL.wi hd (hb▸hz) hy k
end
def Km(L:Nat->Bool)(i:Nat):Nat->Bool:=λj=>if j=i then true else L j
theorem ID{P:Program}{ops:Array Oper}{Q:Exit->Act->World->Prop}(Inv:(Nat->Bool)->Act->World->Prop)
  (hord:∀i o,ops[i]? =some o->∀e∈o.after,Region.binds .any e=true->e.on < i)
  (hstep:∀L a w i o,ops[i]? =some o->L i=false->(∀e∈o.after,Region.binds .any e=true->L e.on=true)->Inv L a w->
   if Region.wanted o (yielded ops a.tmps) then Ih O P o a w (Inv (Km L i)) Q else Inv (Km L i) (a.put o.dst undef) w)
  (hend:∀L a w,(∀i,i < ops.size->L i=true)->Inv L a w->Q .normal a w):
  ∀(fuel:Nat) (listed:Array Bool) (a:Act) (w:World),listed.size=ops.size->(List.range ops.size).countP (λi=> !listed.getD i false)<=fuel->Inv (λi=>listed.getD i false) a w->wpAnyIn (TI O) 0 P .any ops Q fuel listed a w:=by
 have hready:∀(listed:Array Bool),listed.size=ops.size->Region.ready .any ops listed=[]->∀i,i < ops.size->listed.getD i false=true:=by
  intro listed hs hr i
  induction i using Nat.strongRecOn with
  | _ i ih=>
   intro hi;cases hl:listed.getD i false with
   | true=>rfl
   | false=>
    have hmem:i∈Region.ready .any ops listed:=by
     unfold Region.ready;simp only[List.mem_filter,List.mem_range];refine⟨hi,?_⟩
     have h1:listed.getD i true=false:=by
      simp only[Array.getD_eq_getD_getElem?] at hl ⊢
      have:i < listed.size:=by omega
      simp[this] at hl ⊢;exact hl
     have h2:ops[i]? =some ops[i]:=by simp[hi]
     rw[h1,h2];simp only[Bool.not_false,Option.map_some,Option.getD_some,Bool.true_and,Array.all_eq_true_iff_forall_mem,Bool.or_eq_true,Bool.not_eq_true'];intro e he;cases hb:Region.binds .any e with
     | false=>exact .inl rfl
     | true=>
      have hlt:=hord i _ h2 e he hb;exact .inr (ih e.on hlt (by omega))
    rw[hr] at hmem;cases hmem
 intro fuel
 induction fuel with
 | zero=>
  intro listed a w hs hc hI
  have hall:∀i,i < ops.size->listed.getD i false=true:=λi hi=>by
   have:=List.countP_eq_zero.1 (Nat.le_zero.1 hc) i (List.mem_range.2 hi);simpa using this
  refine⟨?_,hend _ a w hall hI⟩;unfold Region.ready;apply List.filter_eq_nil_iff.2;intro i hi;have h:=hall i (List.mem_range.1 hi);have hi' :i < listed.size:=by rw[hs];exact List.mem_range.1 hi
  simp only[Array.getD_eq_getD_getElem?] at h
  simp[hi'] at h
  simp[hi',h]
 | succ fuel ih=>
  intro listed a w hs hc hI;refine⟨λhr=>hend _ a w (hready listed hs hr) hI,λi hi=> ?_⟩;unfold Region.ready at hi
  simp only[List.mem_filter,List.mem_range,Bool.and_eq_true,Bool.not_eq_true'] at hi
  obtain⟨hlt,hl,hdeps⟩:=hi;have h2:ops[i]? =some ops[i]:=by simp[hlt]
  rw[h2] at hdeps
  simp only[Option.map_some,Option.getD_some,Array.all_eq_true_iff_forall_mem,Bool.or_eq_true,Bool.not_eq_true'] at hdeps
  have hl' :listed.getD i false=false:=by
   have:i < listed.size:=by omega
   simp only[Array.getD_eq_getD_getElem?] at hl ⊢
   simp[this] at hl ⊢;exact hl
  have hst:=hstep _ a w i _ h2 hl' (λe he hb=>by
   rcases hdeps e he with h | h
   ·rw[hb] at h;cases h
   ·exact h) hI
  have hnext:∀a' w',Inv (Km (λj=>listed.getD j false) i) a' w'->wpAnyIn (TI O) 0 P .any ops Q fuel (listed.setIfInBounds i true) a' w' :=by
   intro a' w' h
   have he:(λj=>(listed.setIfInBounds i true).getD j false)=Km (λj=>listed.getD j false) i:=by
    funext j;simp only[Km,Array.getD_eq_getD_getElem?];by_cases hj:j=i
    ·subst hj;have:j < listed.size:=by omega
     simp[this]
    ·simp[hj,Ne.symm hj]
   refine ih _ a' w' (by simpa using hs) ?_ (by rw[he];exact h)
   have hd:(List.range ops.size).countP (λj=> !(listed.setIfInBounds i true).getD j false) < (List.range ops.size).countP (λj=> !listed.getD j false):=by
    have e2:(λj=> !(listed.setIfInBounds i true).getD j false)=λj=>(!(Km (λj=>listed.getD j false) i) j):=by
     funext j;rw[<-he]
    rw[e2];refine countP_lt (x:=i) ?_ (List.mem_range.2 hlt) (by simp[hl']) (by simp[Km]);intro j hj;simp only[Km,Bool.not_eq_true'] at hj ⊢
    by_cases e:j=i
    ·simp[e] at hj
    ·simpa[e] using hj
   omega
  unfold wpOpIn;rw[h2];simp only[];split
  ·rename_i hw;rw[if_pos hw] at hst
   exact(BC hnext hst).wpIn
  ·rename_i hw;rw[if_neg hw] at hst
   exact⟨λf _=>DF O f,hnext _ _ hst⟩
where
 countP_lt {α:Type} {p q:α->Bool} {l:List α} {x:α} (h:∀y,p y=true->q y=true) (hx:x∈l) (hq:q x=true) (hp:p x=false):l.countP p < l.countP q:=by
  induction l with
  | nil=>cases hx
  | cons y l ih=>
   simp only[List.countP_cons];have hle:l.countP p<=l.countP q:=List.countP_mono_left λz _ hz=>h z hz;rcases List.mem_cons.1 hx with rfl | hx'
   ·simp[hq,hp];omega
   ·have:=ih hx'
    have:(if p y=true then 1 else 0)<=(if q y=true then 1 else 0):=by
     split
     ·rename_i hy;simp[h y hy]
     ·omega
    omega
theorem Wy{P:Program}{ops:Array Oper}{Q:Exit->Act->World->Prop}{id:Nat}{a:Act}{w:World}(hm:P.follows .mixedOrders=true)(Inv:(Nat->Bool)->Act->World->Prop)
  (hord:∀i o,ops[i]? =some o->∀e∈o.after,Region.binds .any e=true->e.on < i)
  (h0:Inv (λ_=>false) a {w with drawn:=w.drawn+1})
  (hstep:∀L a w i o,ops[i]? =some o->L i=false->(∀e∈o.after,Region.binds .any e=true->L e.on=true)->Inv L a w->
   if Region.wanted o (yielded ops a.tmps) then Ih O P o a w (Inv (Km L i)) Q else Inv (Km L i) (a.put o.dst undef) w)
  (hend:∀L a w,(∀i,i < ops.size->L i=true)->Inv L a w->Q .normal a w):(Code.region id ops true).wpIn (TI O) 0 P Q a w:=by
 refine wpIn_region_any hm (ID Inv hord hstep hend _ _ _ _ (by simp) ?_ ?_)
 ·exact Nat.le_trans List.countP_le_length (by simp)
 ·have:(λi=>(Array.replicate ops.size false).getD i false)=λ_=>false:=by
   funext i;simp only[Array.getD_eq_getD_getElem?,Array.getElem?_replicate];split<;>rfl
  rw[this];exact h0
def Rb:Nat->List Oper->Bool
 | _,[]=>true
 | i,o::l=>o.after.toList.all (λe=> !Region.binds .any e||Nat.blt e.on i)&&Rb (i+1) l
theorem XL:∀{k:Nat} {l:List Oper},Rb k l=true->∀i o,l[i]? =some o->∀e∈o.after,Region.binds .any e=true->e.on < k+i
 | _,[],_,i,o,h,_,_,_=>by simp at h
 | k,x::l,hb,0,o,h,e,he,hbi=>by
  simp at h;subst h
  simp only[Rb,Bool.and_eq_true,List.all_eq_true,Bool.or_eq_true,Bool.not_eq_true'] at hb
  rcases hb.1 e (by simpa using he) with h | h
  ·rw[hbi] at h;cases h
  ·have:=Nat.le_of_ble_eq_true h;simp at this ⊢;omega
 | k,x::l,hb,i+1,o,h,e,he,hbi=>by
  simp only[Rb,Bool.and_eq_true] at hb
  have:=XL hb.2 i o (by simpa using h) e he hbi;omega
def M1:Nat->List Oper->Bool
 | _,[]=>true
 | i,o::l=>(List.range i).all (λj=>o.after.toList.any λe=>Nat.beq e.on j&&Region.binds .any e)&&M1 (i+1) l
theorem Tl:∀{k:Nat} {l:List Oper},M1 k l=true->∀i o,l[i]? =some o->∀j,j < k+i->∃e∈o.after,e.on=j/\Region.binds .any e=true
 | _,[],_,i,o,h,_,_=>by simp at h
 | k,x::l,hb,0,o,h,j,hj=>by
  simp at h;subst h
  simp only[M1,Bool.and_eq_true,List.all_eq_true,List.mem_range,List.any_eq_true] at hb
  obtain⟨e,he,h1,h2⟩:=hb.1 j (by simpa using hj);exact⟨e,by simpa using he,Nat.eq_of_beq_eq_true h1,h2⟩
 | k,x::l,hb,i+1,o,h,j,hj=>by
  simp only[M1,Bool.and_eq_true] at hb
  exact Tl hb.2 i o (by simpa using h) j (by omega)
theorem Tt{S0 S:List (Nat×Value)}(h:Sub S0 S){d:Nat}(hk:Cu d S0=false)(v:Value):Sub S0 ((d,v)::S):=λi u e=>by
 simp only[Kw];cases hb:Nat.beq d i with
 | true=>
  have:d=i:=Nat.eq_of_beq_eq_true hb;subst this;rw[GH e] at hk;cases hk
 | false=>exact h i u e
theorem AB{S:List (Nat×Value)}{d i:Nat}{v u:Value}(hne:d≠i)(e:Kw S i=some u):Kw ((d,v)::S) i=some u:=by
 simp only[Kw];cases hb:Nat.beq d i with
 | true=>exact absurd (Nat.eq_of_beq_eq_true hb) hne
 | false=>exact e
theorem FO{S:List (Nat×Value)}{d:Nat}{v:Value}:Kw ((d,v)::S) d=some v:=by simp[Kw]
theorem S1{P:Program}{ops:Array Oper}{o:Oper}{a:Act}{w:World}{Q0 Q:Exit->Act->World->Prop}{K:Act->World->Prop}(hQ:∀e a w,e≠.normal->Q0 e a w->False)(hK:∀a w,Q0 .normal a w->K a w)(h:Xd O P ops Q0 [o] a w):
  if Region.wanted o (yielded ops a.tmps) then Ih O P o a w K Q else K (a.put o.dst undef) w:=by
 unfold Xd at h
 split
 ·rename_i hw;rw[if_pos hw] at h
  exact TV hK (λe a w hne hq=>(hQ e a w hne hq).elim) h
 ·rename_i hw;rw[if_neg hw] at h
  exact hK _ _ h
end
section
variable{O:Option Nat}
abbrev Kb(α:Type):Type:=Fz->α->List Value->Prop
abbrev Ex{α:Type}(c:α->List Value):Kb α:=λ_ x vs=>vs=c x
def QH{α:Type}(sz:Nat)(c:Kb α)(F:Fz)(p:Option Addr)(cap:Nat)(l:List α):Prop:=
 l.length<=cap/\cap<=9223372036854775807/\(l=[]∨∃b o cs T fr,p=some ⟨b,o,none⟩/\F.mem b=some (.cells cs T fr)/\∀i x,l[i]? =some x->∀F',F<=F'->c F' x ((cs.toList.drop (o+i*sz)).take sz))
theorem QH.mono{α:Type}{sz:Nat}{c:Kb α}{F F' :Fz}{p:Option Addr}{cap:Nat}{l:List α}(h:QH sz c F p cap l)(le:F<=F'):QH sz c F' p cap l:=by
 obtain⟨h0,h1,h2⟩:=h;refine⟨h0,h1,?_⟩;rcases h2 with h | ⟨b,o,cs,T,fr,h2,h3,h4⟩
 ·exact .inl h
 ·exact .inr ⟨b,o,cs,T,fr,h2,le.mem _ _ h3,λi x hx F' le' =>h4 i x hx F' (Fz.le_trans le le')⟩
theorem QH.nil{α:Type}{sz:Nat}{c:Kb α}{F:Fz}:QH sz c F none 0 ([]:List α):=⟨Nat.le_refl _,by simp,.inl rfl⟩
theorem QI{cs vs:List Value}{o z k:Nat}{v:Value}(h:(cs.drop o).take z=vs)(hv:vs[k]? =some v):cs[o+k]? =some v:=by
 rw[<-h,List.getElem?_take,List.getElem?_drop] at hv
 split at hv
 ·exact hv
 ·cases hv
def Zc{α:Type}(l:List α)(i:Int):Option α:=if 0<=i then l[i.toNat]? else none
theorem B6{α:Type}{l:List α}{i:Int}{x:α}(h:Zc l i=some x):0<=i/\i.toNat < l.length/\l[i.toNat]? =some x:=by
 unfold Zc at h
 split at h
 ·rename_i h0;refine⟨h0,?_,h⟩;rcases Nat.lt_or_ge i.toNat l.length with h' | h'
  ·exact h'
  ·rw[List.getElem?_eq_none h'] at h;cases h
 ·cases h
theorem QH.at_{α:Type}{sz:Nat}{c:Kb α}{F:Fz}{p:Option Addr}{cap:Nat}{l:List α}(h:QH sz c F p cap l){k:Nat}{x:α}(hx:l[k]? =some x):∃b o T fr,∃cs:List Value,p=some ⟨b,o,none⟩/\F.mem b=some (.cells cs.toArray T fr)/\c F x ((cs.drop (o+k*sz)).take sz):=by
 obtain⟨_,_,h2⟩:=h;rcases h2 with h | ⟨b,o,cs,T,fr,h2,h3,h4⟩
 ·subst h;simp at hx
 ·exact⟨b,o,T,fr,cs.toList,h2,by simpa using h3,by simpa using h4 k x hx F (Fz.le_refl F)⟩
section
variable{β:Type}{P:Program}{ops:Array Oper}{rest:List Oper}{ks:List Kt}{Q:Exit->Act->World->Prop}{m:Option β}{r:β}
variable{n:Nat}{D:List Deferred}{S:List (Nat×Value)}{F:Fz}{hs:List HP}
variable{d:Nat}{ty t t' :TypeId}{pos:String}{after:Array Edge}{ox oy oz:Operand}{v u:Value}{kd:IntKind}{x y:Int}
theorem GL.gj{α:Type}{sz:Nat}{c:Kb α}{p:Option Addr}{cap e:Nat}{l:List α}{z:α}(hd:Nat.blt d n=true)(ht:P.underlying t=some (.slice e))(hz:∀w,(sizeOf e).run P w= .ok sz w)
  (hr:QH sz c F p cap l) (hx:QK S ox=some (.slice p l.length cap)) (hy:QK S oy=some (.int kd x)) (hi:Zc l x=some z)
  (k:∀b o T fr cs,F.mem b=some (.cells (List.toArray cs) T fr)->c F z ((cs.drop o).take sz)->GL O P ops rest ks Q (Hd n D ((d,.pointer (some ⟨b,o,none⟩))::S) F hs) m r):
  GL O P ops (⟨some d,.indexAddr t ox oy,ty,pos,after,none⟩::rest) ks Q (Hd n D S F hs) m r:=by
 obtain⟨h0,h1,h2⟩:=B6 hi;obtain⟨b,o,T,fr,cs,rfl,h3,h4⟩:=hr.at_ h2;have hj:YP l.length x=some x.toNat:=by unfold YP;rw[if_pos (by omega)]
 exact GL.wz hd ht hz hx hy hj (k b _ T fr cs h3 h4)
theorem GL.idx{α:Type}{sz:Nat}{c:Kb α}{p:Option Addr}{cap e:Nat}{l:List α}{f:α->Option β}(hd:Nat.blt d n=true)(ht:P.underlying t=some (.slice e))(hz:∀w,(sizeOf e).run P w= .ok sz w)
  (hr:QH sz c F p cap l) (hx:QK S ox=some (.slice p l.length cap)) (hy:QK S oy=some (.int kd x))
  (k:∀z b o T fr cs,Zc l x=some z->F.mem b=some (.cells (List.toArray cs) T fr)->c F z ((cs.drop o).take sz)->GL O P ops rest ks Q (Hd n D ((d,.pointer (some ⟨b,o,none⟩))::S) F hs) (f z) r):
  GL O P ops (⟨some d,.indexAddr t ox oy,ty,pos,after,none⟩::rest) ks Q (Hd n D S F hs) ((Zc l x).bind f) r:=
 GL.bind λz hi=>GL.gj hd ht hz hr hx hy hi (λb o T fr cs h1 h2=>k z b o T fr cs hi h1 h2)
def ZW{α:Type}(l:List α)(lo hi:Int):Option (List α):=if 0<=lo/\lo<=hi/\hi<=l.length then some ((l.drop lo.toNat).take (hi.toNat - lo.toNat)) else none
theorem QH.cut{α:Type}{sz:Nat}{c:Kb α}{F:Fz}{p:Option Addr}{cap cap' :Nat}{l:List α}(h:QH sz c F p cap l){lo hi:Nat}(_h1:lo<=hi)(h2:hi<=l.length)(h3:hi - lo<=cap')(h4:cap'<=cap):
  QH sz c F (p.map (·.add (lo*sz))) cap' ((l.drop lo).take (hi - lo)):=by
 obtain⟨g0,g1,g2⟩:=h;refine⟨by simp;omega,by omega,?_⟩;rcases g2 with h | ⟨b,o,cs,T,fr,rfl,h3',h4'⟩
 ·subst h;left;simp
 ·refine .inr ⟨b,o+lo*sz,cs,T,fr,by simp[Uq],h3',λi x hx=> ?_⟩;rw[List.getElem?_take,List.getElem?_drop] at hx
  split at hx
  ·intro F' le;have:=h4' (lo+i) x hx F' le;rw[show o+lo*sz+i*sz=o+(lo+i)*sz by rw[Nat.add_mul];omega];exact this
  ·cases hx
theorem QH.dW{α:Type}{sz:Nat}{c:Kb α}{F:Fz}{p p' :Option Addr}{cap:Nat}(h:QH sz c F p cap ([]:List α)):QH sz c F p' cap ([]:List α):=⟨h.1,h.2.1,.inl rfl⟩
theorem Wo{P:Program}{i:Int}{y:Nat}{code:BoundsCode}{w:World}(h:0<=i/\i<=y):(Instr.sliceBound (.int kd i) y code).run P w= .ok i.toNat w:=by
 simp[Instr.sliceBound,asIntOf,h]
theorem SM{P:Program}{t e sz len cap:Nat}{p:Option Addr}{lo:Int}{w:World}(ht:P.underlying t=some (.slice e))(hz:∀w,(sizeOf e).run P w= .ok sz w)(h:0<=lo/\lo<=len):
  (Instr.sliceAt t (.slice p len cap) (some (.int kd lo)) none none).run P w= .ok (.slice (if cap=lo.toNat then p else p.map (·.add (lo.toNat*sz))) (len - lo.toNat) (cap - lo.toNat)) w:=by
 simp only[Instr.sliceAt,Sem.run_bind,Je ht,Result.andThen,Instr.slice,Instr.sliceBounds,Sem.run_pure,Option.isSome_none,Bool.false_eq_true,if_false];rw[Wo h];simp[hz]
theorem SN{P:Program}{t e sz len cap:Nat}{p:Option Addr}{hi:Int}{w:World}(ht:P.underlying t=some (.slice e))(hz:∀w,(sizeOf e).run P w= .ok sz w)(h:0<=hi/\hi<=cap):
  (Instr.sliceAt t (.slice p len cap) none (some (.int kd hi)) none).run P w= .ok (.slice (if cap=0 then p else p.map (·.add (0*sz))) hi.toNat cap) w:=by
 simp only[Instr.sliceAt,Sem.run_bind,Je ht,Result.andThen,Instr.slice,Instr.sliceBounds,Sem.run_pure,Option.isSome_none,Bool.false_eq_true,if_false,if_true];rw[Wo h];simp[hz]
theorem RX{P:Program}{t e sz len cap:Nat}{p:Option Addr}{hi mx:Int}{w:World}{kd' :IntKind}(ht:P.underlying t=some (.slice e))(hz:∀w,(sizeOf e).run P w= .ok sz w)(h:0<=hi/\hi<=mx)(h' :mx<=cap):
  (Instr.sliceAt t (.slice p len cap) none (some (.int kd hi)) (some (.int kd' mx))).run P w= .ok (.slice (if mx.toNat=0 then p else p.map (·.add (0*sz))) hi.toNat mx.toNat) w:=by
 simp only[Instr.sliceAt,Sem.run_bind,Je ht,Result.andThen,Instr.slice,Instr.sliceBounds,Sem.run_pure,Option.isSome_some,Bool.false_eq_true,if_false,if_true];rw[Wo (kd:=kd') (by omega)];simp only[];rw[Wo (by omega)];simp[hz]
theorem N8{α:Type}{sz:Nat}{c:Kb α}{F:Fz}{p p' :Option Addr}{cap:Nat}{l:List α}{q:Prop}[Decidable q](h1:q->QH sz c F p cap l)(h2:QH sz c F p' cap l):QH sz c F (if q then p else p') cap l:=by
 split
 ·rename_i h;exact h1 h
 ·exact h2
theorem GL.wu{α:Type}{sz:Nat}{c:Kb α}{p:Option Addr}{cap e:Nat}{l:List α}{f:List α->Option β}(hd:Nat.blt d n=true)(ht:P.underlying t=some (.slice e))(hz:∀w,(sizeOf e).run P w= .ok sz w)
  (hr:QH sz c F p cap l) (hx:QK S ox=some (.slice p l.length cap)) (hy:QK S oy=some (.int kd x))
  (k:∀l' p' c',ZW l x l.length=some l'->QH sz c F p' c' l'->GL O P ops rest ks Q (Hd n D ((d,.slice p' l'.length c')::S) F hs) (f l') r):
  GL O P ops (⟨some d,.slice t ox (some oy) none none,ty,pos,after,none⟩::rest) ks Q (Hd n D S F hs) ((ZW l x l.length).bind f) r:=
 GL.bind λl' hl=>by
  have hl' :=hl;unfold ZW at hl
  split at hl
  ·rename_i h;simp only[Option.some.injEq] at hl
   have hcut:QH sz c F (p.map (·.add (x.toNat*sz))) (cap - x.toNat) l' :=by
    have:=hr.cut (lo:=x.toNat) (hi:=l.length) (cap' :=cap - x.toNat) (by omega) (Nat.le_refl _) (by have:=hr.1;omega) (by omega);simp only[Int.toNat_natCast] at hl
    rw[<-hl];exact this
   have hlen:l'.length=l.length - x.toNat:=by rw[<-hl];simp
   have hrep:QH sz c F (if cap=x.toNat then p else p.map (·.add (x.toNat*sz))) (cap - x.toNat) l' :=N8 (λh=>by
    have:l' =[]:=by
     have:=hcut.1;rw[<-h] at this;simp at this;exact this
    subst this;exact hcut.dW) hcut
   have hk:=k l' _ _ hl' hrep;rw[hlen] at hk
   refine GL.val hd (λa w ha=> ?_) hk;simp only[execOp,ha.1.eval hx,ha.1.eval hy,Option.map_some,Option.map_none,Sem.run_bind];rw[SM ht hz (by omega)];rfl
  ·cases hl
theorem GL.gF{α:Type}{sz:Nat}{c:Kb α}{p:Option Addr}{cap e:Nat}{l:List α}{kd' :IntKind}{f:List α->Option β}(hd:Nat.blt d n=true)(ht:P.underlying t=some (.slice e))(hz:∀w,(sizeOf e).run P w= .ok sz w)
  (hr:QH sz c F p cap l) (hx:QK S ox=some (.slice p l.length cap)) (hy:QK S oy=some (.int kd x)) (hm:QK S oz=some (.int kd' x))
  (k:∀l' p' c',ZW l 0 x=some l'->QH sz c F p' c' l'->GL O P ops rest ks Q (Hd n D ((d,.slice p' l'.length c')::S) F hs) (f l') r):
  GL O P ops (⟨some d,.slice t ox none (some oy) (some oz),ty,pos,after,none⟩::rest) ks Q (Hd n D S F hs) ((ZW l 0 x).bind f) r:=
 GL.bind λl' hl=>by
  have hl' :=hl;unfold ZW at hl
  split at hl
  ·rename_i h;simp only[Option.some.injEq] at hl
   have hcut:QH sz c F (p.map (·.add (0*sz))) x.toNat l' :=by
    have:=hr.cut (lo:=0) (hi:=x.toNat) (cap' :=x.toNat) (by omega) (by omega) (by omega) (by have:=hr.1;omega);simp only[Nat.sub_zero] at this
    rw[<-hl];exact this
   have hlen:l'.length=x.toNat:=by rw[<-hl];simp;omega
   have hrep:QH sz c F (if x.toNat=0 then p else p.map (·.add (0*sz))) x.toNat l' :=N8 (λh=>by
    have:l' =[]:=by have:=hcut.1;rw[h] at this;simp at this;exact this
    subst this;exact hcut.dW) hcut
   have hk:=k l' _ _ hl' hrep;rw[hlen] at hk
   refine GL.val hd (λa w ha=> ?_) hk;simp only[execOp,ha.1.eval hx,ha.1.eval hy,ha.1.eval hm,Option.map_some,Option.map_none,Sem.run_bind];rw[RX ht hz (by have:=hr.1;omega) (by have:=hr.1;omega)];rfl
  ·cases hl
theorem QH.de{α:Type}{sz:Nat}{c:Kb α}{F:Fz}{b o T len:Nat}{cs:List Value}{fr:Nat×Nat}{l:List α}(hb:F.mem b=some (.cells cs.toArray T fr))(hl:l.length=len)(hlen:Nat.ble len 1000000=true)(h:∀i x,l[i]? =some x->∀F',F<=F'->c F' x ((cs.drop (o+i*sz)).take sz)):QH sz c F (some ⟨b,o,none⟩) len l:=by
 have:=Nat.le_of_ble_eq_true hlen;exact⟨by omega,by omega,.inr ⟨b,o,cs.toArray,T,fr,rfl,hb,by simpa using h⟩⟩
theorem GL.gG{len e sz b o:Nat}(hd:Nat.blt d n=true)(ht:P.underlying t=some (.array len e))(hz:∀w,(sizeOf e).run P w= .ok sz w)(hx:QK S ox=some (.pointer (some ⟨b,o,none⟩)))(h0:Nat.blt 0 len=true)
  (k:GL O P ops rest ks Q (Hd n D ((d,.slice (some ⟨b,o,none⟩) len len)::S) F hs) m r):
  GL O P ops (⟨some d,.slice t ox none none none,ty,pos,after,none⟩::rest) ks Q (Hd n D S F hs) m r:=
 GL.val hd (λa w ha=>by
  have:0 < len:=Nat.le_of_ble_eq_true h0;simp[execOp,ha.1.eval hx,Instr.sliceAt,Je ht,Instr.sureAddr,Instr.sliceBounds,hz,Uq]) k
end
def JV{α:Type}(sz:Nat)(c:Kb α)(F:Fz)(l:List α)(us:List Value):Prop:=∀i x,l[i]? =some x->∀F',F<=F'->c F' x ((us.drop (i*sz)).take sz)
theorem Zv{α:Type}{l:List α}{i:Nat}{x:α}(h:l[i]? =some x):i < l.length:=by
 rcases Nat.lt_or_ge i l.length with h' | h'
 ·exact h'
 ·rw[List.getElem?_eq_none h'] at h;cases h
theorem JV.mono{α:Type}{sz:Nat}{c:Kb α}{F F' :Fz}{l:List α}{us:List Value}(h:JV sz c F l us)(le:F<=F'):JV sz c F' l us:=λi x hx G le' =>h i x hx G (Fz.le_trans le le')
theorem JV.nil{α:Type}{sz:Nat}{c:Kb α}{F:Fz}{us:List Value}:JV sz c F [] us:=λi x h=>by simp at h
theorem NO{i n sz:Nat}{us:List Value}(h:i < n):(((us.take (n*sz)).drop (i*sz)).take sz)=((us.drop (i*sz)).take sz):=by
 rw[List.drop_take,List.take_take];congr 1;rw[<-Nat.sub_mul];have:1<=n - i:=by omega
 have:=Nat.mul_le_mul_right sz this;omega
theorem JV.take{α:Type}{sz:Nat}{c:Kb α}{F:Fz}{l:List α}{us:List Value}(h:JV sz c F l us):JV sz c F l (us.take (l.length*sz)):=λi x hx F' le=>by
 rw[NO (Zv hx)];exact h i x hx F' le
theorem JV.fb{α:Type}{sz:Nat}{c:Kb α}{F:Fz}{l:List α}{us:List Value}(h:JV sz c F l (us.take (l.length*sz))):JV sz c F l us:=λi x hx F' le=>by
 rw[<-NO (Zv hx)];exact h i x hx F' le
theorem JV.len{α:Type}{sz:Nat}{c:Kb α}{F:Fz}{l:List α}{us:List Value}(hc:∀F x vs,c F x vs->vs.length=sz)(h:JV sz c F l us):l.length*sz<=us.length:=by
 rcases Nat.eq_zero_or_pos l.length with h0 | h0
 ·rw[h0];simp
 ·have hx:l[l.length - 1]? =some (l[l.length - 1]'(by omega)):=List.getElem?_eq_getElem _;have:=hc _ _ _ (h _ _ hx F (Fz.le_refl F));simp only[List.length_take,List.length_drop] at this
  rcases Nat.eq_zero_or_pos sz with hz | hz
  ·rw[hz];simp
  ·have e:l.length*sz=(l.length - 1)*sz+sz:=by
    rw[show l.length=l.length - 1+1 by omega,Nat.add_mul];simp
   omega
theorem JV.append{α:Type}{sz:Nat}{c:Kb α}{F:Fz}{l l2:List α}{us us2:List Value}(h:JV sz c F l us)(h2:JV sz c F l2 us2)(hl:us.length=l.length*sz):JV sz c F (l++l2) (us++us2):=λi x hx F' le=>by
 rcases Nat.lt_or_ge i l.length with hi | hi
 ·rw[List.getElem?_append_left hi] at hx
  have e:((us++us2).drop (i*sz)).take sz=(us.drop (i*sz)).take sz:=by
   have:i*sz+sz<=us.length:=by
    rw[hl,show i*sz+sz=(i+1)*sz by rw[Nat.add_mul];omega];exact Nat.mul_le_mul_right sz hi
   rw[List.drop_append_of_le_length (by omega),List.take_append_of_le_length (by simp;omega)]
  rw[e];exact h i x hx F' le
 ·rw[List.getElem?_append_right hi] at hx
  have e:(us++us2).drop (i*sz)=us2.drop ((i - l.length)*sz):=by
   have:us.length<=i*sz:=by rw[hl];exact Nat.mul_le_mul_right sz hi
   rw[List.drop_append];rw[List.drop_of_length_le this,List.nil_append,hl,Nat.sub_mul]
  rw[e];exact h2 _ x hx F' le
theorem JV.xb{α:Type}{sz:Nat}{c:Kb α}{F:Fz}{l:List α}{us us2:List Value}(h:JV sz c F l us)(hl:us.length=l.length*sz):JV sz c F l (us++us2):=by
 have:=h.append (l2:=[]) (us2:=us2) JV.nil hl;simpa using this
theorem JV.all{α:Type}{sz:Nat}{c:Kb α}{F:Fz}{l:List α}{us:List Value}(h1:∀F x vs,c F x vs->vs.all Value.oneCell' =true)(h:JV sz c F l us):(us.take (l.length*sz)).all Value.oneCell' =true:=by
 rw[List.all_eq_true];intro v hv;obtain⟨j,hj,e⟩:=List.getElem_of_mem hv;simp only[List.length_take] at hj
 have hj1:j < l.length*sz:=by omega
 have hsz:0 < sz:=by
  rcases Nat.eq_zero_or_pos sz with hz | hz
  ·subst hz;simp at hj1
  ·exact hz
 have hi:j / sz < l.length:=(Nat.div_lt_iff_lt_mul hsz).2 hj1;have hx:l[j / sz]? =some (l[j / sz]'hi):=List.getElem?_eq_getElem _;have:=h1 _ _ _ (h _ _ hx F (Fz.le_refl F));rw[List.all_eq_true] at this
 apply this;rw[List.getElem_take] at e
 have hm:j%sz < sz:=Nat.mod_lt _ hsz;have hd:j=j / sz*sz+j%sz:=by have:=Nat.div_add_mod j sz;rw[Nat.mul_comm] at this;omega
 rw[List.mem_iff_getElem];refine⟨j%sz,by simp;omega,?_⟩;rw[List.getElem_take,List.getElem_drop,<-e];congr 1;omega
def Qk{α:Type}(sz:Nat)(c:Kb α)(F:Fz)(T:TypeId)(p:Option Addr)(cap:Nat)(l:List α):HP:=λm=>
 l.length<=cap/\cap<=9223372036854775807/\((p=none/\cap=0)∨∃b cs,p=some ⟨b,0,none⟩/\pt b (.cells (List.toArray cs) T (0,0)) m/\cs.length=cap*sz/\JV sz c F l cs)
theorem Bx{α:Type}{sz:Nat}{c:Kb α}{F:Fz}{T:TypeId}{m:Mem}:Qk sz c F T none 0 ([]:List α) m:=⟨Nat.le_refl _,by simp,.inl ⟨rfl,rfl⟩⟩
theorem Vd{α:Type}{sz:Nat}{c:Kb α}{F F' :Fz}{T:TypeId}{p:Option Addr}{cap:Nat}{l:List α}{m:Mem}(le:F<=F')(h:Qk sz c F T p cap l m):Qk sz c F' T p cap l m:=by
 obtain⟨h1,h2,h3⟩:=h;rcases h3 with h3 | ⟨b,cs,e,hb,hl,hp⟩
 ·exact⟨h1,h2,.inl h3⟩
 ·exact⟨h1,h2,.inr ⟨b,cs,e,hb,hl,hp.mono le⟩⟩
theorem SH.wB{α:Type}{sz:Nat}{c:Kb α}{T:TypeId}{p:Option Addr}{cap:Nat}{l:List α}{w:World}{F0 F:Fz}{H:HP}(le0:F0<=F)(h:SH w F (star (Qk sz c F0 T p cap l) H)):
  ∃F',F<=F'/\SH w F' H/\QH sz c F' p cap l:=by
 obtain⟨m,⟨m1,m2,d,s1,s2,⟨h1,h2,h3⟩,hq⟩,k⟩:=h;rcases h3 with⟨rfl,rfl⟩ | ⟨b,cs,rfl,hb,hl,hp⟩
 ·refine⟨F,Fz.le_refl F,⟨m2,hq,k.sub s2⟩,h1,h2,.inl (List.eq_nil_of_length_eq_zero (by omega))⟩
 ·have hh:SH w F (star (pt b (.cells cs.toArray T (0,0))) H):=⟨m,⟨m1,m2,d,s1,s2,hb,hq⟩,k⟩;obtain⟨le,hs⟩:=hh.freeze;refine⟨_,le,hs,h1,h2,.inr ⟨b,0,cs.toArray,T,(0,0),rfl,Fz.wH ..,λi x hx F' le' => ?_⟩⟩;have:=hp i x hx F' (Fz.le_trans le0 (Fz.le_trans le le'));simpa using this
section
variable{β:Type}{P:Program}{ops:Array Oper}{rest:List Oper}{ks:List Kt}{Q:Exit->Act->World->Prop}{m:Option β}{r:β}
variable{n:Nat}{D:List Deferred}{S:List (Nat×Value)}{F F0:Fz}{hs:List HP}
theorem GL.wO{α:Type}(sz:Nat)(c:Kb α)(T:TypeId)(k:GL O P ops rest ks Q (Hd n D S F (Qk sz c F T none 0 []::hs)) m r):GL O P ops rest ks Q (Hd n D S F hs) m r:=
 λhm a w ha=>k hm a w ⟨ha.1,ha.2.mono λm hm' =>⟨λ_=>none,m,λ_=>.inl rfl,λ_ _ e=>by simp at e,Mem.sub.refl _,Bx,hm'⟩⟩
theorem GC.wO{α:Type}{cd:Code}(sz:Nat)(c:Kb α)(T:TypeId)(k:GC O P cd ks Q (Hd n D S F (Qk sz c F T none 0 []::hs)) m r):GC O P cd ks Q (Hd n D S F hs) m r:=
 λhm a w ha=>k hm a w ⟨ha.1,ha.2.mono λm hm' =>⟨λ_=>none,m,λ_=>.inl rfl,λ_ _ e=>by simp at e,Mem.sub.refl _,Bx,hm'⟩⟩
theorem SH.xO{α:Type}{sz:Nat}{c:Kb α}{T:TypeId}{p:Option Addr}{cap:Nat}{l:List α}{w:World}{i:Nat}(le:F0<=F)(hi:hs[i]? =some (Qk sz c F0 T p cap l))(h:SH w F (Qj hs)):SH w F (Qj (hs.set i (Qk sz c F T p cap l))):=
 SH.push hi ((h.pull hi).mono λ_m hm=>QX (λ_=>Vd le) hm)
theorem GE.xO{α:Type}{sz:Nat}{c:Kb α}{T:TypeId}{p:Option Addr}{cap:Nat}{l:List α}(i:Nat)(le:F0<=F)(hi:hs[i]? =some (Qk sz c F0 T p cap l))(k:GE O P ks Q (Hd n D S F (hs.set i (Qk sz c F T p cap l))) m r):GE O P ks Q (Hd n D S F hs) m r:=
 λhm a w ha=>k hm a w ⟨ha.1,ha.2.xO le hi⟩
theorem GC.xO{α:Type}{sz:Nat}{c:Kb α}{T:TypeId}{p:Option Addr}{cap:Nat}{l:List α}{cd:Code}(i:Nat)(le:F0<=F)(hi:hs[i]? =some (Qk sz c F0 T p cap l))(k:GC O P cd ks Q (Hd n D S F (hs.set i (Qk sz c F T p cap l))) m r):GC O P cd ks Q (Hd n D S F hs) m r:=
 λhm a w ha=>k hm a w ⟨ha.1,ha.2.xO le hi⟩
theorem GL.wB{α:Type}{sz:Nat}{c:Kb α}{T:TypeId}{p:Option Addr}{cap:Nat}{l:List α}(i:Nat)(hi:hs[i]? =some (Qk sz c F0 T p cap l))(le0:F0<=F)
  (k:∀F',F<=F'->QH sz c F' p cap l->GL O P ops rest ks Q (Hd n D S F' (hs.eraseIdx i)) m r):GL O P ops rest ks Q (Hd n D S F hs) m r:=
 λhm a w ha=>by
  obtain⟨F',le,h1,h2⟩:=(ha.2.pull hi).wB le0;exact k F' le h2 hm a w ⟨ha.1,h1⟩
theorem GC.wB{α:Type}{sz:Nat}{c:Kb α}{T:TypeId}{p:Option Addr}{cap:Nat}{l:List α}{cd:Code}(i:Nat)(hi:hs[i]? =some (Qk sz c F0 T p cap l))(le0:F0<=F)
  (k:∀F',F<=F'->QH sz c F' p cap l->GC O P cd ks Q (Hd n D S F' (hs.eraseIdx i)) m r):GC O P cd ks Q (Hd n D S F hs) m r:=
 λhm a w ha=>by
  obtain⟨F',le,h1,h2⟩:=(ha.2.pull hi).wB le0;exact k F' le h2 hm a w ⟨ha.1,h1⟩
theorem QH.xP{α:Type}{sz:Nat}{c:Kb α}{p:Option Addr}{cap:Nat}{l:List α}{x:Int}{z:α}(hr:QH sz c F p cap l)(hi:Zc l x=some z):
  ∃b o T fr cs,F.mem b=some (.cells (List.toArray cs) T fr)/\c F z ((cs.drop o).take sz)/\∃o0,p=some ⟨b,o0,none⟩/\o=o0+x.toNat*sz/\YP l.length x=some x.toNat:=by
 obtain⟨h0,h1,h2⟩:=B6 hi;obtain⟨b,o,T,fr,cs,rfl,h3,h4⟩:=hr.at_ h2;exact⟨b,_,T,fr,cs,h3,h4,o,rfl,rfl,by unfold YP;rw[if_pos (by omega)]⟩
theorem GL.xJ{d:Nat}{ty t e:TypeId}{pos:String}{after:Array Edge}{ox oy:Operand}{kd:IntKind}{x:Int}{sz len cap b o:Nat}{p:Option Addr}(hd:Nat.blt d n=true)(ht:P.underlying t=some (.slice e))(hz:∀w,(sizeOf e).run P w= .ok sz w)
  (hq:∃o0,p=some ⟨b,o0,none⟩/\o=o0+x.toNat*sz/\YP len x=some x.toNat) (hx:QK S ox=some (.slice p len cap)) (hy:QK S oy=some (.int kd x))
  (k:GL O P ops rest ks Q (Hd n D ((d,.pointer (some ⟨b,o,none⟩))::S) F hs) m r):
  GL O P ops (⟨some d,.indexAddr t ox oy,ty,pos,after,none⟩::rest) ks Q (Hd n D S F hs) m r:=by
 obtain⟨o0,rfl,rfl,hj⟩:=hq;exact GL.wz hd ht hz hx hy hj k
end
end
section
variable{O:Option Nat}
theorem IS{α:Type}{P:Program}{sz:Nat}{c:Kb α}{F:Fz}{p:Option Addr}{cap k:Nat}{l:List α}(hc:∀F x vs,c F x vs->vs.length=sz)(hone:∀F x vs,c F x vs->vs.all Value.oneCell' =true)(h:QH sz c F p cap l):
  ∃us:List Value,us.length=l.length*sz/\JV sz c F l us/\us.all Value.oneCell' =true/\∀w:World,(∀b o,F.mem b=some o->w.heap[b]? =some o)->(Builtin.firstCells sz l.length (.slice p k cap)).run P w= .ok us.toArray w:=by
 obtain⟨_,_,h2⟩:=h;rcases h2 with h | ⟨b,o,cs,T,fr,rfl,h3,h4⟩
 ·subst h;refine⟨[],by simp,JV.nil,rfl,λw _=> ?_⟩;cases p<;>simp[Builtin.firstCells,loadCells,loadCellsFrom]
 ·have hp:JV sz c F l (cs.toList.drop o):=λi x hx F' le=>by rw[List.drop_drop];exact h4 i x hx F' le
  have hl:=hp.len hc;refine⟨(cs.toList.drop o).take (l.length*sz),by simp at hl ⊢;omega,hp.take,hp.all hone,λw hw=> ?_⟩;have hb' :w.heap[b]? =some (.cells cs.toList.toArray T fr):=by simpa using hw _ _ h3
  simp only[Builtin.firstCells];exact XU hb' rfl (by simp at hl ⊢;omega)
def VT{α:Type}(l k:List α):Option (List α):=if l.length+k.length<=4294967296 then some (l++k) else none
theorem Nh(need:Nat):∀(rounds c:Nat),c<=2*need+1000->Builtin.growBy need rounds c<=2*need+1000
 | 0,c,h=>by simpa only[Builtin.growBy] using h
 | rounds+1,c,h=>by
  simp only[Builtin.growBy];split
  ·exact h
  ·exact Nh need rounds _ (by omega)
theorem Et{need cap:Nat}(h:cap < need):Builtin.nextslicecap need cap<=4*need+4000:=by
 unfold Builtin.nextslicecap;split
 ·omega
 ·split
  ·omega
  ·have:=Nh need 4 cap (by omega);omega
theorem Hf:∀(vs cs:List Value) (o:Nat),o+vs.length<=cs.length->(Kn cs o vs).take (o+vs.length)=cs.take o++vs
 | [],cs,o,_=>by simp[Kn]
 | v::vs,cs,o,h=>by
  simp only[List.length_cons] at h
  have:=Hf vs (cs.set o v) (o+1) (by simp;omega);simp only[Kn,List.length_cons];rw[show o+(vs.length+1)=o+1+vs.length by omega,this]
  have e:(cs.set o v).take (o+1)=cs.take o++[v]:=by
   rw[List.take_succ_eq_append_getElem (by simp;omega)];rw[List.getElem_set_self,List.take_set,List.set_eq_of_length_le (by simp;omega)]
  rw[e];simp
def X6(need cap by_:Nat):Prop:=Builtin.nextslicecap need cap*by_<=281474976710656
theorem BE{need cap by_:Nat}(h:cap < need)(h1:need<=4294967296)(h2:by_<=4096):X6 need cap by_:=by
 have:=Et h;unfold X6;exact Nat.le_trans (Nat.mul_le_mul this h2) (by omega)
theorem EW{α:Type}{P:Program}{w:World}{F0 F:Fz}{H:HP}{sz e t t2 e2 by_:Nat}{c:Kb α}{p p2:Option Addr}{cap cap2:Nat}{l l2:List α}{z:Value}{T:Array TypeId}{ty:TypeId}{ti:TypeInfo}
   (le0:F0<=F) (hc:∀F x vs,c F x vs->vs.length=sz) (hone:∀F x vs,c F x vs->vs.all Value.oneCell' =true) (ht:P.underlying t=some (.slice e)) (ht2:P.underlying t2=some (.slice e2)) (hz:∀w,(sizeOf e).run P w= .ok sz w) (hti:∀w,(typeInfo e).run P w= .ok ti w) (hby:ti.bytes=by_) (hb0:by_≠0) (hb1:by_<=4096) (hzero:∀w,(zeroValue e).run P w= .ok z w) (hzl:z.cells.size=sz)
   (hT0:T[0]? =some t) (hT1:T[1]? =some t2) (h:SH w F (star (Qk sz c F0 e p cap l) H)) (hr:QH sz c F p2 cap2 l2) (hlen:l.length+l2.length<=4294967296):
   ∃p' cap' w',(Builtin.append_ T ty #[.slice p l.length cap,.slice p2 l2.length cap2]).run P w= .ok (.slice p' (l++l2).length cap') w'/\SH w' F (star (Qk sz c F e p' cap' (l++l2)) H):=by
 have hfr:∀b o,F.mem b=some o->w.heap[b]? =some o:=λb o e=>h.frozen e;obtain⟨us2,hus2,hp2,hall,hsrc0⟩:=IS (P:=P) (k:=l2.length) hc hone hr;have hsrc:=hsrc0 w hfr;obtain⟨m,⟨m1,m2,d,s1,s2,⟨h1,h2,h3⟩,hq⟩,k⟩:=h;by_cases hneed:l.length+l2.length<=cap
 ·
   rcases h3 with⟨rfl,rfl⟩ | ⟨b,cs,rfl,hb,hl,hp⟩
   ·have e1:l=[]:=List.eq_nil_of_length_eq_zero (by omega);have e2:l2=[]:=List.eq_nil_of_length_eq_zero (by omega);subst e1 e2;refine⟨none,0,w,?_,⟨m,⟨m1,m2,d,s1,s2,⟨by simp,by simp,.inl ⟨rfl,rfl⟩⟩,hq⟩,k⟩⟩;simp only[Builtin.append_];simp[hT0,hT1,Je ht,Je ht2,hz,Builtin.lenOf];simp only[List.length_nil] at hsrc hus2
    have:us2=[]:=List.eq_nil_of_length_eq_zero (by simpa using hus2);simp[hsrc,this]
   ·have hh:SH w F (star (pt b (.cells cs.toArray e (0,0))) H):=⟨m,⟨m1,m2,d,s1,s2,hb,hq⟩,k⟩;have hbl:=hh.owned
    have hroom:l.length*sz+us2.length<=cs.length:=by
     rw[hus2,hl,<-Nat.add_mul];exact Nat.mul_le_mul_right sz hneed
    have hst:=WR (P:=P) (o:=l.length*sz) (i:=0) hbl (by simpa using hroom) hall;simp only[Nat.add_zero] at hst
    refine⟨some ⟨b,0,none⟩,cap,put w b (.cells (Kn cs (l.length*sz) us2).toArray e (0,0)),?_,?_⟩
    ·simp only[Builtin.append_];simp[hT0,hT1,Je ht,Je ht2,hz,Builtin.lenOf,hsrc,hneed,Uq,hst]
    ·have hp' :=hh.put (o' :=.cells (Kn cs (l.length*sz) us2).toArray e (0,0));refine hp'.mono λm hm=>QX (λm' hm' =>⟨by simp;exact hneed,h2,.inr ⟨b,_,rfl,hm',by rw[XZ];exact hl,?_⟩⟩) hm;have:=Hf us2 cs (l.length*sz) hroom;rw[hus2,<-Nat.add_mul] at this
     apply JV.fb;rw[List.length_append,this];exact(hp.mono le0).take.append hp2 (by simp;omega)
 ·
   have hn:X6 (l.length+l2.length) cap by_:=BE (Nat.lt_of_not_le hneed) hlen hb1
   have hold:∃us:List Value,us.length=l.length*sz/\JV sz c F l us/\∀w' :World,w'.heap=w.heap->(Builtin.firstCells sz l.length (.slice p l.length cap)).run P w' = .ok us.toArray w' :=by
    rcases h3 with⟨rfl,rfl⟩ | ⟨b,cs,rfl,hb,hl,hp⟩
    ·have e1:l=[]:=List.eq_nil_of_length_eq_zero (by omega);subst e1;exact⟨[],by simp,JV.nil,λw' _=>by simp[Builtin.firstCells]⟩
    ·have hpl:=hp.len hc;refine⟨cs.take (l.length*sz),by simp;omega,(hp.mono le0).take,λw' hw' => ?_⟩;simp only[Builtin.firstCells];exact XU (cs:=cs) (T:=e) (fr:=(0,0)) (by rw[hw'];exact k.dC (s1 _ _ hb)) (by simp) (by simp;omega)
   obtain⟨us,hus,hp1,hold⟩:=hold;have hsrc' :∀w' :World,w'.heap=w.heap->(Builtin.firstCells sz l2.length (.slice p2 l2.length cap2)).run P w' = .ok us2.toArray w' :=λw' hw' =>hsrc0 w' λb o e=>by rw[hw'];exact hfr b o e
   have hHq:SH w F H:=⟨m2,hq,k.sub s2⟩;generalize hq' :Question.appendCap (l.length+l2.length) cap e=q
   have hcap:l.length+l2.length<=q.cut (w.tape w.drawn q)/\q.cut (w.tape w.drawn q)<=9223372036854775807:=by
    rw[<-hq'];have:=Nat.mod_lt (w.tape w.drawn (Question.appendCap (l.length+l2.length) cap e)) (show 0 < 2^63 - (l.length+l2.length) by omega);simp only[Question.cut];omega
   have hforced:q.forced=false:=by rw[<-hq'];rfl
   generalize hC:q.cut (w.tape w.drawn q)=C at hcap
   have hdrew:SH {w with drawn:=w.drawn+1} F H:=hHq.drew _;have halloc:=hdrew.alloc (.cells ((us.toArray++us2.toArray++Builtin.zeroCells z.cells (C - (l.length+l2.length)))) e);refine⟨some ⟨w.heap.size,0,none⟩,C,_,?_,halloc.mono λm hm=>QX (λm' hm' =>⟨by simp;exact hcap.1,hcap.2,.inr ⟨w.heap.size,(us.toArray++us2.toArray++Builtin.zeroCells z.cells (C - (l.length+l2.length))).toList,rfl,?_,?_,?_⟩⟩) hm⟩
   ·simp only[Builtin.append_];have hnb:=hn;unfold X6 at hnb
    have hnot:¬(2:Nat)^48 < Builtin.nextslicecap (l.length+l2.length) cap*by_:=by omega
    have g1:=hold w.drew rfl;have g2:=hsrc' w.drew rfl;simp[hT0,hT1,Je ht,Je ht2,hz,Builtin.lenOf,hneed,hti,hby,hb0,hnot,hq',hforced,hC,g1,g2,hzero,newRow];simp only[<-List.append_toArray,Array.append_assoc]
   ·have hm2:pt w.heap.size _ m' :=hm';unfold pt at hm2 ⊢;rw[hm2]
   ·have e3:(Builtin.zeroCells z.cells (C - (l.length+l2.length))).size=(C - (l.length+l2.length))*sz:=by simp[Builtin.zeroCells,hzl]
    simp only[Array.length_toList,Array.size_append,List.size_toArray,hus,hus2,e3];rw[<-Nat.add_mul,<-Nat.add_mul];congr 1;omega
   ·have:=(hp1.append hp2 hus).xb (us2:=(Builtin.zeroCells z.cells (C - (l.length+l2.length))).toList) (by simp[hus,hus2,Nat.add_mul]);simpa using this
section
variable{β:Type}{P:Program}{ops:Array Oper}{rest:List Oper}{ks:List Kt}{Q:Exit->Act->World->Prop}{m:Option β}{r:β}
variable{n:Nat}{D:List Deferred}{S:List (Nat×Value)}{F:Fz}{hs:List HP}
variable{d:Nat}{ty t t' t2 e e2:TypeId}{pos:String}{after:Array Edge}{ox oy oz:Operand}{v u:Value}{kd:IntKind}{x y:Int}
structure Ub{α:Type}(P:Program)(e sz:Nat)(c:Kb α):Prop where
 len:∀F x vs,c F x vs->vs.length=sz
 one:∀F x vs,c F x vs->vs.all Value.oneCell' =true
 mono:∀F F' x vs,F<=F'->c F x vs->c F' x vs
 size:∀w,(sizeOf e).run P w= .ok sz w
 info:∃ti:TypeInfo,(∀w,(typeInfo e).run P w= .ok ti w)/\ti.bytes≠0/\ti.bytes<=4096
 zero:∃z,(∀w,(zeroValue e).run P w= .ok z w)/\z.cells.size=sz
theorem Ub.ex{α:Type}{P:Program}{e sz:Nat}{c:α->List Value}(len:∀x,(c x).length=sz)(one:∀x,(c x).all Value.oneCell' =true)(size:∀w,(sizeOf e).run P w= .ok sz w)
  (info:∃ti:TypeInfo,(∀w,(typeInfo e).run P w= .ok ti w)/\ti.bytes≠0/\ti.bytes<=4096) (zero:∃z,(∀w,(zeroValue e).run P w= .ok z w)/\z.cells.size=sz):Ub P e sz (Ex c):=
 ⟨λ_ x _ h=>h▸len x,λ_ x _ h=>h▸one x,λ_ _ _ _ _ h=>h,size,info,zero⟩
theorem GL.append{α:Type}{sz:Nat}{c:Kb α}{F0:Fz}{p p2:Option Addr}{cap cap2:Nat}{l l2:List α}{f:List α->Option β}{T:Array TypeId}(i:Nat)(E:Ub P e sz c)(le0:F0<=F)(hd:Nat.blt d n=true)(ht:P.underlying t=some (.slice e))(ht2:P.underlying t2=some (.slice e2))(hT0:T[0]? =some t)(hT1:T[1]? =some t2)
  (hi:hs[i]? =some (Qk sz c F0 e p cap l)) (hr:QH sz c F p2 cap2 l2) (hx:QK S ox=some (.slice p l.length cap)) (hy:QK S oy=some (.slice p2 l2.length cap2))
  (k:∀l' p' cap',VT l l2=some l'->GL O P ops rest ks Q (Hd n D ((d,.slice p' l'.length cap')::S) F (hs.set i (Qk sz c F e p' cap' l'))) (f l') r):
  GL O P ops (⟨some d,.call ⟨.builtin .append,#[ox,oy],T⟩,ty,pos,after,none⟩::rest) ks Q (Hd n D S F hs) ((VT l l2).bind f) r:=
 GL.bind λl' hl=>by
  have hl' :=hl;unfold VT at hl
  split at hl
  ·rename_i hlen;simp only[Option.some.injEq] at hl
   subst hl;obtain⟨ti,hti,hb0,hb1⟩:=E.info;obtain⟨z,hzero,hzl⟩:=E.zero;refine GL.step rfl (.inr rfl) λhm a w ha=> ?_;obtain⟨p',cap',w',hrun,hS⟩:=EW (P:=P) (T:=T) (ty:=ty) le0 E.len E.one ht ht2 E.size hti rfl hb0 hb1 hzero hzl hT0 hT1 (ha.2.pull hi) hr hlen;refine⟨_,w',?_,k _ p' cap' hl' hm _ _ ⟨ha.1.put hd _,SH.push hi hS⟩⟩;simp[execOp,resolve,invoke,builtin,ha.1.eval hx,ha.1.eval hy,hrun]
  ·cases hl
theorem GL.wA{len sz:Nat}{z:Value}{cs zc:List Value}{parts:List (Nat×Operand)}{ps:List (Nat×Value)}(hd:Nat.blt d n=true)(ht:P.underlying t=some (.slice e))(hz:∀w,(sizeOf e).run P w= .ok sz w)(hzero:∀w,(zeroValue e).run P w= .ok z w)(h0:Nat.blt 0 (len*sz)=true)(hbig:Nat.ble (len*sz) 16777216=true)
  (hx:Sd S parts=some ps) (hzc:(Array.range (len*sz)).map (λi=>z.cells[i%z.cells.size]!)=zc.toArray) (hfill:Instr.fill (λi=>some (i*sz,sz)) zc.toArray ps=some cs.toArray)
  (k:∀b F',F<=F'->F'.mem b=some (.cells cs.toArray e)->GL O P ops rest ks Q (Hd n D ((d,.slice (some ⟨b,0,none⟩) len len)::S) F' hs) m r):
  GL O P ops (⟨some d,.buildSlice t len parts.toArray,ty,pos,after,none⟩::rest) ks Q (Hd n D S F hs) m r:=
 GL.step rfl (.inr rfl) λhm a w ha=>by
  obtain⟨h1,h2⟩:=ha.2.gD (.cells cs.toArray e);refine⟨.slice (some ⟨w.heap.size,0,none⟩) len len,w.alloc (.cells cs.toArray e),?_,k w.heap.size _ h1 (Fz.wH ..) hm _ _ ⟨ha.1.put hd _,h2⟩⟩;have hm' :=FQ ha.1 hx;have hb1:0 < len*sz:=Nat.le_of_ble_eq_true h0;have hb2:=Nat.le_of_ble_eq_true hbig;have hne:¬len*sz=0:=by omega
  have hgt:¬len*sz > 16777216:=by omega
  simp only[execOp,Instr.buildSlice,Sem.run_bind,Je ht,hz,Result.andThen,List.map_toArray,hm'];simp only[Nat.reducePow,hgt,hne,if_false,Sem.run_pure,Result.andThen,Sem.run_bind,hzero,hzc,hfill,newRow,run_newObj,World.alloc_eq]
theorem QH.ofRow{α:Type}{sz:Nat}{c:Kb α}{F:Fz}{b T len:Nat}{cs:List Value}{fr:Nat×Nat}{l:List α}(hb:F.mem b=some (.cells cs.toArray T fr))(hf:JV sz c F l cs)(hl:l.length=len)(hlen:Nat.ble len 1000000=true):QH sz c F (some ⟨b,0,none⟩) len l:=by
 have:=Nat.le_of_ble_eq_true hlen;refine⟨by omega,by omega,.inr ⟨b,0,cs.toArray,T,fr,rfl,hb,λi x hx F' le=> ?_⟩⟩;simpa using hf i x hx F' le
theorem JV.cons{α:Type}{sz:Nat}{c:Kb α}{F:Fz}{x:α}{l:List α}{us:List Value}(hm:∀F F' x vs,F<=F'->c F x vs->c F' x vs)(h:c F x (us.take sz))(h' :JV sz c F l (us.drop sz)):JV sz c F (x::l) us:=λi y hy F' le=>by
 cases i with
 | zero=>simp at hy;subst hy;simpa using hm _ _ _ _ le h
 | succ i=>
  have:=h' i y (by simpa using hy) F' le;rw[List.drop_drop] at this
  rwa[show(i+1)*sz=sz+i*sz by rw[Nat.add_mul];omega]
end
end
section
variable{O:Option Nat}
abbrev ZF(n:Int):Int:=IntKind.i64.wrap n
abbrev JT(x y:Int):Int:=if y < x then y else x
abbrev imax(x y:Int):Int:=if x < y then y else x
def KI(k:IntKind)(x:Int):List Value:=[.int k x]
def GQ{α:Type}(n:Nat)(f:Nat->α):List α:=(List.range n).map f
def Rr{α:Type}(n:Nat)(c:α->List Value)(f:Nat->α):List Value:=(GQ n f).flatMap c
def ZI{α:Type}(f:Nat->α)(i:Nat)(x:α):Nat->α:=λj=>match Nat.beq j i with | true=>x | false=>f j
def j7{α:Type}(l:List α)(z:α):Nat->α:=λi=>l.getD i z
theorem L6{α:Type}(n:Nat)(f:Nat->α):(GQ n f).length=n:=by simp[GQ]
theorem L7{α:Type}{n:Nat}{f:Nat->α}{q:Nat->α->Prop}(h:∀j,j < n->q j (f j)):∀i x,(GQ n f)[i]? =some x->q i x:=by
 intro i x e;simp only[GQ,List.getElem?_map] at e
 by_cases hi:i < n
 ·simp[hi] at e;subst e;exact h i hi
 ·simp[hi] at e
theorem ye{p:Nat->Prop}(h0:p 0)(h1:p 1)(h2:p 2)(h3:p 3)(h4:p 4)(h5:p 5)(h6:p 6):∀j,j < 7->p j:=by
 intro j hj;match j,hj with | 0,_=>exact h0 | 1,_=>exact h1 | 2,_=>exact h2 | 3,_=>exact h3 | 4,_=>exact h4 | 5,_=>exact h5 | 6,_=>exact h6
theorem yd{p:Nat->Prop}(h0:p 0)(h1:p 1)(h2:p 2)(h3:p 3)(h4:p 4)(h5:p 5)(h6:p 6)(h7:p 7):∀j,j < 8->p j:=by
 intro j hj;match j,hj with | 0,_=>exact h0 | 1,_=>exact h1 | 2,_=>exact h2 | 3,_=>exact h3 | 4,_=>exact h4 | 5,_=>exact h5 | 6,_=>exact h6 | 7,_=>exact h7
def VY{α γ:Type}(P:Program)(F:Fz)(f:FuncId)(caps:List Value)(arg:α->Fz->List Value->Prop)(res:γ->Fz->Value->Prop)(m:α->Option γ):Prop:=
 (∀args w,(callFunc f args).run P w= .ok (.enter f args) w)/\∀F',F<=F'->∀x vs,arg x F' vs->KE P f (vs++caps).toArray F' (m x) res
theorem VY.mono{α γ:Type}{P:Program}{F F' :Fz}{f:FuncId}{caps:List Value}{arg:α->Fz->List Value->Prop}{res:γ->Fz->Value->Prop}{m:α->Option γ}(h:VY P F f caps arg res m)(le:F<=F'):VY P F' f caps arg res m:=
 ⟨h.1,λG le' x vs hv=>h.2 G (Fz.le_trans le le') x vs hv⟩
def vq{α:Type}(sz:Nat)(c:Kb α):Kb (List α):=λF x vs=>∃p k,vs=[.slice p x.length k]/\QH sz c F p k x
section
variable{β:Type}{P:Program}{ops:Array Oper}{rest:List Oper}{ks:List Kt}{Q:Exit->Act->World->Prop}{A:Act->World->Prop}{m:Option β}{r:β}
variable{n:Nat}{D:List Deferred}{S S0:List (Nat×Value)}{F F' :Fz}{hs:List HP}
theorem GC.ex{c:Code}(h:∀a w,A a w->∃A' :Act->World->Prop,A' a w/\GC O P c ks Q A' m r):GC O P c ks Q A m r:=λhm a w ha=>let⟨_,h1,h2⟩:=h a w ha;h2 hm a w h1
theorem GE.ex(h:∀a w,A a w->∃A' :Act->World->Prop,A' a w/\GE O P ks Q A' m r):GE O P ks Q A m r:=λhm a w ha=>let⟨_,h1,h2⟩:=h a w ha;h2 hm a w h1
theorem GE.app(h:GE O P ks Q A m r)(hm:m=some r)(a:Act)(w:World)(ha:A a w):Z8 O P ks Q .normal a w:=h hm a w ha
theorem GC.bind{α:Type}{c:Code}{e:Option α}{f:α->Option β}(h:∀y,e=some y->GC O P c ks Q A (f y) r):GC O P c ks Q A (e.bind f) r:=
 λhm=>by
  cases e with
  | none=>simp at hm
  | some y=>exact h y rfl hm
theorem GC.uj{α:Type}{c:Code}{x:α}{f:α->Option β}(h:∀y,y=x->GC O P c ks Q A (f y) r):GC O P c ks Q A (QV x f) r:=h x rfl
theorem GC.ite{c:Code}{b:Bool}{m1 m2:Option β}(h1:b=true->GC O P c ks Q A m1 r)(h2:b=false->GC O P c ks Q A m2 r):GC O P c ks Q A (if b then m1 else m2) r:=by
 cases hb:b with
 | true=>rw[if_pos rfl];exact h1 hb
 | false=>rw[if_neg (by simp)];exact h2 hb
theorem GC.drop{c:Code}(i:Nat)(k:GC O P c ks Q (Hd n D S F (hs.eraseIdx i)) m r):GC O P c ks Q (Hd n D S F hs) m r:=GC.xb (λ_ _ h=>⟨h.1,h.2.wW i⟩) k
theorem Q9.norm{σ γ:Type}{I:σ->Act->World->Prop}{Dn:γ->Exit->Act->World->Prop}{s:σ}{ctl:Vb σ γ}(h:∀a w,A a w->I s a w):some (Vb.next s)=some ctl->∀a w,A a w->Q9 I Dn ctl .normal a w:=λe a w ha=>by
 simp only[Option.some.injEq] at e;subst e;exact⟨rfl,h a w ha⟩
theorem Q9.exit{σ γ:Type}{I:σ->Act->World->Prop}{Dn:γ->Exit->Act->World->Prop}{b:γ}{id:Nat}{ctl:Vb σ γ}(h:∀a w,A a w->Dn b (.exit id) a w):some (Vb.done b)=some ctl->∀a w,A a w->Q9 I Dn ctl (.exit id) a w:=λe a w ha=>by
 simp only[Option.some.injEq] at e;subst e;exact⟨by simp,h a w ha⟩
theorem Q9.ret{σ γ:Type}{I:σ->Act->World->Prop}{Dn:γ->Exit->Act->World->Prop}{b:γ}{ctl:Vb σ γ}(h:∀a w,A a w->Dn b .ret a w):some (Vb.done b)=some ctl->∀a w,A a w->Q9 I Dn ctl .ret a w:=λe a w ha=>by
 simp only[Option.some.injEq] at e;subst e;exact⟨by simp,h a w ha⟩
theorem GL.w5{S' :List (Nat×Value)}{d:Nat}{x z:Bool}(j:Nat)(hv:Kw S' d=some (.bool x))(hd:S'.drop j=S)(hf:fresh S (S'.take j)=true)(le:F<=F'):
  GL O P ops [] [] (WO n D d (.bool z) S F hs) (Hd n D S' F' hs) (some x) z:=λe a w ha=>by
 simp only[Option.some.injEq] at e;subst e
 exact⟨rfl,F',le,ha.1.sub (Sub.cons hv (Gg j hd hf)),ha.2⟩
theorem GL.nilCheck{d:Nat}{ty:TypeId}{pos:String}{after:Array Edge}{ox:Operand}{p:Addr}(hd:Nat.blt d n=true)(hx:QK S ox=some (.pointer (some p)))(k:GL O P ops rest ks Q (Hd n D ((d,.pointer (some p))::S) F hs) m r):
  GL O P ops (⟨some d,.nilCheck ox,ty,pos,after,none⟩::rest) ks Q (Hd n D S F hs) m r:=
 GL.val hd (λa w ha=>by simp[execOp,ha.1.eval hx]) k
end
end
section
variable{O:Option Nat}
theorem Qa{cs vs:List Value}(h:cs.length=vs.length):Kn cs 0 vs=vs:=by
 have h1:=Hf vs cs 0 (by omega);simp only[Nat.zero_add,List.take_zero,List.nil_append] at h1
 rwa[List.take_of_length_le (by rw[XZ];omega)] at h1
end
section
variable{O:Option Nat}
theorem GC.fc{β:Type}{P:Program}{c:Code}{ks:List Kt}{Q:Exit->Act->World->Prop}{A:Act->World->Prop}{r:β}:GC O P c ks Q A (none:Option β) r:=λh=>by cases h
end
section
variable{O:Option Nat}
def Qv{K V:Type}[BEq K]:List (K×V)->K->V->List (K×V)
 | [],k,v=>[(k,v)]
 | x::l,k,v=>if k==x.1 then(k,v)::l else x::Qv l k v
def Qc{K V:Type}[BEq K]:List (K×V)->K->Option V
 | [],_=>none
 | x::l,k=>if k==x.1 then some x.2 else Qc l k
def UB{K V:Type}(ck:K->Value)(rv:Fz->V->Value->Prop)(F:Fz):List MapEntry->List (K×V)->Prop
 | [],[]=>True
 | e::es,x::l=>e.key=ck x.1/\(∀F',F<=F'->rv F' x.2 e.val)/\UB ck rv F es l
 | _,_=>False
structure Wm(P:Program)(t:TypeId){K:Type}[BEq K](ck:K->Value):Prop where
 und:∃kd,P.underlying t=some kd/\∀a b:K,Instr.sameNow kd (ck a) (ck b)=some (a==b)
 check:∀e k w,(Instr.checkKey e 10000 t (ck k)).run P w= .ok () w
 same:∀a:K,Instr.sameBits 10000 (ck a) (ck a)=true
 eq:∀a b:K,(a==b)=true->a=b
section
variable{K V:Type}[BEq K]{ck:K->Value}{rv:Fz->V->Value->Prop}{F F' :Fz}
omit [BEq K] in
theorem UB.up:∀{es:List MapEntry} {l:List (K×V)},F<=F'->UB ck rv F es l->UB ck rv F' es l
 | [],[],_,_=>trivial
 | _::_,_::_,le,⟨h1,h2,h3⟩=>⟨h1,λG le' =>h2 G (Fz.le_trans le le'),h3.up le⟩
omit [BEq K] in
theorem UB.len:∀{es:List MapEntry} {l:List (K×V)},UB ck rv F es l->es.length=l.length
 | [],[],_=>rfl
 | _::_,_::_,⟨_,_,h3⟩=>by simp[h3.len]
theorem UB.find{kd:TypeDesc}{k:K}(hk:∀a b,Instr.sameNow kd (ck a) (ck b)=some (a==b))(heq:∀a b:K,(a==b)=true->a=b):
  ∀{es:List MapEntry} {l:List (K×V)} (i0:Nat),UB ck rv F es l->
   (Qc l k=none/\Instr.findNow kd (ck k) es i0=some none/\∀v e',e'.key=ck k->(∀F',F<=F'->rv F' v e'.val)->UB ck rv F (es++[e']) (Qv l k v))∨
   (∃j e x,es[j]? =some e/\e.key=ck k/\Qc l k=some x/\Instr.findNow kd (ck k) es i0=some (some (i0+j,e.val))/\(∀F',F<=F'->rv F' x e.val)/\
    ∀v f,(f e).key=ck k->(∀F',F<=F'->rv F' v (f e).val)->UB ck rv F (es.modify j f) (Qv l k v))
 | [],[],i0,_=>.inl ⟨rfl,rfl,λv e' h1 h2=>⟨h1,h2,trivial⟩⟩
 | e::es,x::l,i0,⟨h1,h2,h3⟩=>by
  by_cases hb:(k==x.1)=true
  ·right;refine⟨0,e,x.2,rfl,?_,by simp[Qc,hb],?_,h2,?_⟩
   ·rw[h1,heq _ _ hb]
   ·simp[Instr.findNow,h1,hk,hb]
   ·intro v f g1 g2;simp only[Qv,hb,if_true,List.modify_zero_cons];exact⟨g1,g2,h3⟩
  ·have hb' :(k==x.1)=false:=by simpa using hb
   rcases UB.find (k:=k) hk heq (i0+1) h3 with⟨g1,g2,g3⟩ | ⟨j,e1,x1,g1,g2,g3,g4,g5,g6⟩
   ·left;refine⟨by simp[Qc,hb',g1],by simp[Instr.findNow,h1,hk,hb',g2],λv e' q1 q2=> ?_⟩;simp only[Qv,hb',Bool.false_eq_true,if_false,List.cons_append];exact⟨h1,h2,g3 v e' q1 q2⟩
   ·right;refine⟨j+1,e1,x1,by simpa using g1,g2,by simp[Qc,hb',g3],?_,g5,λv f q1 q2=> ?_⟩
    ·simp[Instr.findNow,h1,hk,hb',g4];omega
    ·simp only[Qv,hb',Bool.false_eq_true,if_false,List.modify_succ_cons];exact⟨h1,h2,g6 v f q1 q2⟩
def J3(es:List MapEntry)(clock:Nat):Prop:=(es.map (·.born)).Pairwise (·< ·)/\∀e∈es,e.born < clock
theorem J3.nil{c:Nat}:J3 [] c:=⟨List.Pairwise.nil,λ_ h=>by cases h⟩
theorem J3.push{es:List MapEntry}{c:Nat}{k v:Value}(h:J3 es c):J3 (es++[{key:=k,val:=v,born:=c}]) (c+1):=by
 refine⟨?_,λe he=> ?_⟩
 ·rw[List.map_append,List.pairwise_append];refine⟨h.1,by simp,λa ha b hb=> ?_⟩;simp only[List.map_cons,List.map_nil,List.mem_singleton] at hb
  obtain⟨e,he,rfl⟩:=List.mem_map.1 ha;subst hb;exact h.2 e he
 ·rcases List.mem_append.1 he with he | he
  ·have:=h.2 e he;omega
  ·simp only[List.mem_singleton] at he;subst he;exact Nat.lt_succ_self _
theorem J3.modify{es:List MapEntry}{c j:Nat}{f:MapEntry->MapEntry}(h:J3 es c)(hf:∀e,(f e).born=e.born):J3 (es.modify j f) c:=by
 have hm:∀(es:List MapEntry) (j:Nat),(es.modify j f).map (·.born)=es.map (·.born):=λes=>by
  induction es with
  | nil=>intro j;simp
  | cons e es ih=>
   intro j;cases j with
   | zero=>simp[hf]
   | succ j=>simp[ih]
 refine⟨by rw[hm];exact h.1,λe he=> ?_⟩;have h1:e.born∈(es.modify j f).map (·.born):=List.mem_map_of_mem he;rw[hm] at h1
 obtain⟨e',he',e1⟩:=List.mem_map.1 h1;rw[<-e1];exact h.2 e' he'
theorem J3.erase{es:List MapEntry}{c j:Nat}(h:J3 es c):J3 (es.eraseIdx j) c:=
 ⟨h.1.sublist ((List.eraseIdx_sublist es j).map _),λe he=>h.2 e (List.mem_of_mem_eraseIdx he)⟩
def HN(ck:K->Value)(rv:Fz->V->Value->Prop)(F:Fz)(b:Nat)(l:List (K×V)):HP:=λm=>∃es clock,pt b (.map es clock) m/\UB ck rv F es.toList l/\J3 es.toList clock
omit [BEq K] in
theorem Ie{b:Nat}{l:List (K×V)}{m:Mem}(le:F<=F')(h:HN ck rv F b l m):HN ck rv F' b l m:=by
 obtain⟨es,c,h1,h2,h3⟩:=h;exact⟨es,c,h1,h2.up le,h3⟩
omit [BEq K] in
theorem MG{w:World}{F0:Fz}{H:HP}{b:Nat}{l:List (K×V)}(h:SH w F (star (HN ck rv F0 b l) H)):∃es clock,w.heap[b]? =some (.map es clock)/\UB ck rv F0 es.toList l/\SH w F (star (pt b (.map es clock)) H)/\J3 es.toList clock:=by
 obtain⟨m,⟨m1,m2,d,s1,s2,⟨es,c,h1,h2,h3⟩,hq⟩,k⟩:=h;have hs:SH w F (star (pt b (.map es c)) H):=⟨m,⟨m1,m2,d,s1,s2,h1,hq⟩,k⟩;exact⟨es,c,hs.owned,h2,hs,h3⟩
end
theorem J4{P:Program}{w:World}{r:Nat}{es:Array MapEntry}{clock:Nat}(hb:w.heap[r]? =some (.map es clock)):(getObj r).run P w= .ok (.map es clock) w:=by
 simp[getObj,Sem.run,hb]
theorem H6{P:Program}{w:World}{r:Nat}{es:Array MapEntry}{clock:Nat}{o' :Obj}(hb:w.heap[r]? =some (.map es clock)):(setObj r o').run P w= .ok () (put w r o'):=by
 simp[setObj,Sem.run,put,hb]
theorem run_findKey{P:Program}{kt:TypeId}{k:Value}{es:List MapEntry}{kd:TypeDesc}{w:World}{q:Option (Nat×Value)}(hu:P.underlying kt=some kd)(h:Instr.findNow kd k es 0=some q):(Instr.findKey kt k es).run P w= .ok q w:=by
 simp[Instr.findKey,Je hu,h]
section
variable{β:Type}{P:Program}{ops:Array Oper}{rest:List Oper}{ks:List Kt}{Q:Exit->Act->World->Prop}{m:Option β}{r:β}
variable{n:Nat}{D:List Deferred}{S:List (Nat×Value)}{F F0:Fz}{hs:List HP}
variable{d:Nat}{ty t t' e:TypeId}{pos:String}{after:Array Edge}{ox oy oz:Operand}{v u:Value}{kd:IntKind}{x y:Int}
variable{K V:Type}{ck:K->Value}{rv:Fz->V->Value->Prop}
theorem GL.makeMap(ck:K->Value)(rv:Fz->V->Value->Prop)(hd:Nat.blt d n=true)(k:∀b,GL O P ops rest ks Q (Hd n D ((d,.map (some b))::S) F (HN ck rv F b []::hs)) m r):
  GL O P ops (⟨some d,.makeMap t none,ty,pos,after,none⟩::rest) ks Q (Hd n D S F hs) m r:=by
 refine GL.step rfl (.inr rfl) λhm a w ha=> ?_;have h1:=ha.2.alloc (.map #[] 0);refine⟨_,w.alloc (.map #[] 0),?_,k w.heap.size hm _ _ ⟨ha.1.put hd _,h1.mono λm hm=>QX (λm' hm' =>⟨#[],0,hm',trivial,J3.nil⟩) hm⟩⟩;simp[execOp,Instr.makeMap]
theorem GL.dx{b:Nat}{l:List (K×V)}{T:Array TypeId}{kt vt:TypeId}(i:Nat)(hi:hs[i]? =some (HN ck rv F0 b l))(hd:Nat.blt d n=true)(hT:T[0]? =some t)(ht:P.underlying t=some (.map kt vt))(hx:QK S ox=some (.map (some b)))
  (k:GL O P ops rest ks Q (Hd n D ((d,.int .i64 l.length)::S) F hs) m r):GL O P ops (⟨some d,.call ⟨.builtin .len,#[ox],T⟩,ty,pos,after,none⟩::rest) ks Q (Hd n D S F hs) m r:=
 GL.val hd (λa w ha=>by
  obtain⟨es,c,hb,hr,_⟩:=MG (ha.2.pull hi);have:es.size=l.length:=by rw[<-hr.len];simp
  simp[execOp,resolve,invoke,builtin,Builtin.len_,ha.1.eval hx,hT,Je ht,goInt,J4 hb,this]) k
variable[BEq K]
theorem GL.mapUpdate{b:Nat}{l:List (K×V)}{kt vt:TypeId}{key:K}{val:V}{vv:Value}(i:Nat)(hi:hs[i]? =some (HN ck rv F0 b l))(le0:F0<=F)(ht:P.underlying t=some (.map kt vt))(ok:Wm P kt ck)(hx:QK S ox=some (.map (some b)))(hy:QK S oy=some (ck key))(hz:QK S oz=some vv)(hv:∀F',F<=F'->rv F' val vv)
  (k:GL O P ops rest ks Q (Hd n D S F (hs.set i (HN ck rv F b (Qv l key val)))) m r):GL O P ops (⟨none,.mapUpdate t ox oy oz,ty,pos,after,none⟩::rest) ks Q (Hd n D S F hs) m r:=by
 refine GL.xf rfl (.inr rfl) λhm a w ha=> ?_;obtain⟨es,c,hb,hr,hsh,hbi⟩:=MG (ha.2.pull hi);obtain⟨kd,hu,hsame⟩:=ok.und;rcases(hr.up le0).find (k:=key) hsame ok.eq 0 with⟨g1,g2,g3⟩ | ⟨j,e1,x1,g1,g2,g3,g4,g5,g6⟩
 ·refine⟨put w b (.map (es.push {key:=ck key,val:=vv,born:=c}) (c+1)),?_,k hm _ _ ⟨ha.1.wK _,SH.push hi (hsh.put.mono λm hm=>QX (λm' hm' =>⟨_,_,hm',by simpa using g3 val {key:=ck key,val:=vv,born:=c} rfl hv,by simpa using hbi.push⟩) hm)⟩⟩;have hf:=run_findKey (w:=w) hu g2;simp[execOp,Instr.mapUpdate,ha.1.eval hx,ha.1.eval hy,ha.1.eval hz,Je ht,J4 hb,ok.check,hf,H6 hb]
 ·refine⟨put w b (.map (es.modify j λe=>{e with key:=ck key,val:=vv}) c),?_,k hm _ _ ⟨ha.1.wK _,SH.push hi (hsh.put.mono λm hm=>QX (λm' hm' =>⟨_,_,hm',by simpa using g6 val (λe=>{e with key:=ck key,val:=vv}) rfl hv,by simpa using hbi.modify (j:=j) (f:=λe=>{e with key:=ck key,val:=vv}) λ_=>rfl⟩) hm)⟩⟩;have hf:=run_findKey (w:=w) hu g4;rw[Nat.zero_add] at hf
  have hel:es[j]? =some e1:=by simpa using g1
  have hsb:=ok.same key;simp[execOp,Instr.mapUpdate,ha.1.eval hx,ha.1.eval hy,ha.1.eval hz,Je ht,J4 hb,ok.check,hf,H6 hb,hel,g2,Instr.keyThatStays,hsb]
theorem GL.gi{b:Nat}{l l' :List (K×V)}{kt vt:TypeId}{key:K}{val:V}{vv:Value}(i:Nat)(hi:hs[i]? =some (HN ck rv F0 b l))(le0:F0<=F)(ht:P.underlying t=some (.map kt vt))(ok:Wm P kt ck)(hx:QK S ox=some (.map (some b)))(hy:QK S oy=some (ck key))(hz:QK S oz=some vv)(hv:∀F',F<=F'->rv F' val vv)(he:l' =Qv l key val)
  (k:GL O P ops rest ks Q (Hd n D S F (hs.set i (HN ck rv F b l'))) m r):GL O P ops (⟨none,.mapUpdate t ox oy oz,ty,pos,after,none⟩::rest) ks Q (Hd n D S F hs) m r:=by
 subst he;exact GL.mapUpdate i hi le0 ht ok hx hy hz hv k
theorem yZ{P:Program}{t:TypeId}{kd kd' :IntKind}{x:Int}{e:Bool}{w:World}(hu:P.underlying t=some (.int kd))(n:Nat):(Instr.checkKey e (n+1) t (.int kd' x)).run P w= .ok () w:=by
 simp[Instr.checkKey,Je hu]
theorem yE{kd:IntKind}{x:Int}(n:Nat):Instr.sameBits n (.int kd x) (.int kd x)=true:=by
 cases n<;>simp[Instr.sameBits]
theorem Wm.int{P:Program}{t:TypeId}{kd:IntKind}(hu:P.underlying t=some (.int kd)):Wm P t (λx:Int=>Value.int kd x) where
 und:=⟨_,hu,λa b=>by simp[Instr.sameNow]⟩
 check e k w:=yZ hu 9999
 same a:=yE 10000
 eq a b h:=by simpa using h
def yM(len cap:Int):Option Nat:=if 0<=len/\len<=cap/\cap<=4294967296 then some len.toNat else none
theorem IA{zero:Array Value}{sz cap i:Nat}(hz:zero.size=sz)(hi:i < cap):((((Array.range (cap*sz)).map (λj=>zero[j%zero.size]!)).toList.drop (i*sz)).take sz)=zero.toList:=by
 have hroom:i*sz+sz<=cap*sz:=by
  have:=Nat.mul_le_mul_right sz (show i+1<=cap from hi);rw[Nat.add_mul,Nat.one_mul] at this;exact this
 apply List.ext_getElem?;intro j;by_cases hj:j < sz
 ·rw[List.getElem?_take,if_pos hj,List.getElem?_drop];have h1:i*sz+j < cap*sz:=by omega
  have h2:(i*sz+j)%sz=j:=by rw[Nat.add_comm,Nat.add_mul_mod_self_right,Nat.mod_eq_of_lt hj]
  have h3:j < zero.size:=by omega
  simp[h1,hz,h2];rw[getElem!_pos zero j h3];simp[h3]
 ·rw[List.getElem?_take,if_neg hj,List.getElem?_eq_none (by simp;omega)]
theorem JV.br{α:Type}{sz:Nat}{c:Kb α}{F:Fz}{z:α}{zero:Array Value}{k cap:Nat}(hz:zero.size=sz)(h:k<=cap)(hc:∀F',F<=F'->c F' z zero.toList):JV sz c F (List.replicate k z) ((Array.range (cap*sz)).map (λj=>zero[j%zero.size]!)).toList:=λi x hx F' le=>by
 have hi:=Zv hx;simp only[List.length_replicate] at hi
 rw[List.getElem?_replicate,if_pos hi] at hx;cases hx
 rw[IA hz (by omega)];exact hc F' le
theorem GL.makeSlice{α:Type}{c:Kb α}{sz:Nat}{z:α}{zv:Value}{kd' :IntKind}{f:Nat->Option β}(E:Ub P e sz c)(hd:Nat.blt d n=true)(ht:P.underlying t=some (.slice e))(hzv:∀w,(zeroValue e).run P w= .ok zv w)(hzc:∀F',F<=F'->c F' z zv.cells.toList)(hx:QK S ox=some (.int kd x))(hy:QK S oy=some (.int kd' y))
  (k:∀len b,yM x y=some len->GL O P ops rest ks Q (Hd n D ((d,.slice (some ⟨b,0,none⟩) (List.replicate len z).length y.toNat)::S) F (Qk sz c F e (some ⟨b,0,none⟩) y.toNat (List.replicate len z)::hs)) (f len) r):
  GL O P ops (⟨some d,.makeSlice t ox oy,ty,pos,after,none⟩::rest) ks Q (Hd n D S F hs) ((yM x y).bind f) r:=by
 refine GL.bind λlen hlen=> ?_;have hk:=λb=>k len b hlen;unfold yM at hlen
 split at hlen
 ·rename_i hb;cases hlen;refine GL.step rfl (.inr rfl) λhm a w ha=> ?_;obtain⟨ti,hti,hb0,hb1⟩:=E.info
  have hsz:zv.cells.size=sz:=by
   have:=E.len _ _ _ (hzc F (Fz.le_refl F));simpa using this
  have h1:=ha.2.alloc (.cells ((Array.range (y.toNat*sz)).map (λj=>zv.cells[j%zv.cells.size]!)) e);refine⟨_,w.alloc (.cells ((Array.range (y.toNat*sz)).map (λj=>zv.cells[j%zv.cells.size]!)) e),?_,hk w.heap.size hm _ _ ⟨ha.1.put hd _,h1.mono λm hm=>QX (λm' hm' =>⟨by simp;omega,by omega,.inr ⟨_,((Array.range (y.toNat*sz)).map (λj=>zv.cells[j%zv.cells.size]!)).toList,rfl,by(have hm2:pt _ _ m' :=hm';unfold pt at hm2 ⊢;rw[hm2]),by simp,JV.br hsz (by omega) hzc⟩⟩) hm⟩⟩;have hw1:IntKind.i64.wrap x=x:=by simp[IntKind.wrap,IntKind.bits,IntKind.signed];omega
  have hw2:IntKind.i64.wrap y=y:=by simp[IntKind.wrap,IntKind.bits,IntKind.signed];omega
  have hby:(ti.bytes:Int)*y<=2^48:=by
   have h1:(ti.bytes:Int)<=4096:=by omega
   have h2:(ti.bytes:Int)*y<=4096*y:=Int.mul_le_mul_of_nonneg_right h1 (by omega);omega
  have hneg:¬y < 0:=by omega
  have hneg' :¬x < 0:=by omega
  have hxy:¬x > y:=by omega
  have hbig:¬(281474976710656:Int) < (ti.bytes:Int)*y:=by omega
  have i1:∀w:World,(asInt (.int kd x)).run P w= .ok x w:=λw=>by simp[asInt,asIntOf]
  have i2:∀w:World,(asInt (.int kd' y)).run P w= .ok y w:=λw=>by simp[asInt,asIntOf]
  simp only[execOp,ha.1.eval hx,ha.1.eval hy,Instr.makeSlice,Sem.run_bind,Je ht,Result.andThen,i1,i2,hti,hw1,hw2];by_cases hn:y.toNat*sz=0
  ·simp[hneg,hneg',hxy,hbig,E.size,hn,newRow,askRoom];rw[show Array.range 0=#[] from rfl];simp
  ·simp[hneg,hneg',hxy,hbig,E.size,hn,hzv,newRow,askRoom]
 ·cases hlen
theorem QH.isNil{α:Type}{sz:Nat}{c:Kb α}{F:Fz}{cap:Nat}{l:List α}(h:QH sz c F none cap l):l=[]:=by
 rcases h.2.2 with h | ⟨_,_,_,_,_,h,_⟩
 ·exact h
 ·cases h
theorem eq_nil{t e:TypeId}{p:Option Addr}{len cap:Nat}{w:World}(ht:P.underlying t=some (.slice e))(n:Nat):(Op.equalIn (n+1) t (.slice p len cap) (.slice none 0 0)).run P w= .ok p.isNone w:=by
 cases p<;>simp[Op.equalIn,Je ht]
theorem GL.gA{p:Option Addr}{len cap:Nat}(hd:Nat.blt d n=true)(ht:P.underlying t=some (.slice e))(hx:QK S ox=some (.slice p len cap))(hy:QK S oy=some (.slice none 0 0))(k:GL O P ops rest ks Q (Hd n D ((d,.bool p.isNone)::S) F hs) m r):
  GL O P ops (⟨some d,.binOp .eql t ox oy t',ty,pos,after,none⟩::rest) ks Q (Hd n D S F hs) m r:=
 GL.val hd (λa w ha=>by
  have hq:(Op.equal t (.slice p len cap) (.slice none 0 0)).run P w= .ok p.isNone w:=eq_nil ht 9999;have hg:P.eqGuardType P.depth t=false∨P.eqGuardType P.depth t=true:=by cases P.eqGuardType P.depth t<;>simp
  simp[execOp,ha.1.eval hx,ha.1.eval hy,eqGuard,binOp,hq]) k
theorem GL.bf{len cap:Nat}{p:Option Addr}{T:Array TypeId}(hd:Nat.blt d n=true)(hT:T[0]? =some t)(ht:P.underlying t=some (.slice e))(hx:QK S ox=some (.slice p len cap))(k:GL O P ops rest ks Q (Hd n D ((d,.int .i64 cap)::S) F hs) m r):
  GL O P ops (⟨some d,.call ⟨.builtin .cap,#[ox],T⟩,ty,pos,after,none⟩::rest) ks Q (Hd n D S F hs) m r:=
 GL.val hd (λa w ha=>by simp[execOp,resolve,invoke,builtin,Builtin.cap_,ha.1.eval hx,hT,Je ht,goInt]) k
def Dl{α:Type}(P:Program)(f:FuncId)(args:Array Value)(F:Fz)(m:Option (List α))(sz:Nat)(c:Kb α)(T:TypeId):Prop:=
 ∀r,m=some r->∀w R,SH w F R->Calls P f args w (λe w' =>∃F' p k,F<=F'/\e= .returned (.slice p r.length k)/\SH w' F' (star (Qk sz c F' T p k r) R))
def Om{α:Type}(P:Program)(fn:Func)(F:Fz)(R:HP)(sz:Nat)(c:Kb α)(T:TypeId)(r:List α):Exit->Act->World->Prop:=
 bodyPost P fn (λe w' =>∃F' p k,F<=F'/\e= .returned (.slice p r.length k)/\SH w' F' (star (Qk sz c F' T p k r) R))
theorem Dl.enter{α:Type}{f:FuncId}{fn:Func}{cd:Code}{args:List Value}{m:Option (List α)}{sz:Nat}{c:Kb α}{T:TypeId}
  (hf:P.funcs[f]? =some fn) (hb:fn.body=some cd) (hn:fn.ntmps=n) (ha:Nat.ble args.length n=true)
  (k:∀r R,GC none P cd [] (Om P fn F R sz c T r) (Hd n [] (Dc 0 args) F [R]) m r):Dl P f args.toArray F m sz c T:=by
 intro r hm w R hw;refine calls_of_wp hf hb (wpIn_wide.1 (k r R hm _ w ⟨?_,hw.one⟩));rw[hn];exact U1 ha
theorem GC.gY{α:Type}{fn:Func}{R:HP}{F' F0:Fz}{t i j cap:Nat}{p:Option Addr}{x r:List α}{sz:Nat}{c:Kb α}{T:TypeId}(hr:fn.results=#[.tmp t])(h:Kw S t=some (.slice p x.length cap))(hi:hs[i]? =some (Qk sz c F0 T p cap x))(le0:F0<=F')(hj:(hs.eraseIdx i)[j]? =some R)(le:F<=F'):
  GC O P .ret ks (Om P fn F R sz c T r) (Hd n [] S F' hs) (some x) r:=GC.wN λe a w ha=>by
 simp only[Option.some.injEq] at e
 subst e;have hres:CG P S F' hs [.tmp t] [.slice p x.length cap]:=.tmp h .nil;exact⟨ha.1.2.1,_,Jo (rs:=[.tmp t]) hr ha hres,F',p,cap,le,rfl,(SH.dZ hi hj ha.2).mono λm hm=>QX (λ_=>Vd le0) hm⟩
theorem GL.dk{α:Type}{f:FuncId}{caps as vs:List Value}{of:Operand}{os:List Operand}{T:Array TypeId}{em:Option (List α)}{g:List α->Option β}{sz:Nat}{c:Kb α}{T' :TypeId}(hd:Nat.blt d n=true)
  (hcall:∀args w,(callFunc f args).run P w= .ok (.enter f args) w) (hf:QK S of=some (.func (.func f) #[] caps.toArray)) (ha:UC S os=some vs) (has:vs++caps=as)
  (hc:Dl P f as.toArray F em sz c T') (k:∀x F' p cap,em=some x->F<=F'->GL O P ops rest ks Q (Hd n D ((d,.slice p x.length cap)::S) F' (Qk sz c F' T' p cap x::hs)) (g x) r):
  GL O P ops (⟨some d,.call ⟨.value of,os.toArray,T⟩,ty,pos,after,none⟩::rest) ks Q (Hd n D S F hs) (em.bind g) r:=
 GL.xE rfl (.inr rfl) λhm a w hA=>by
  subst has;refine⟨U2 hA.1 hcall hf ha,?_⟩;cases he:em with
  | none=>rw[he] at hm;cases hm
  | some y=>
   rw[he] at hm
   refine(hc y he w _ hA.2).mono ?_;rintro _ w' ⟨F',p,cap,le,rfl,hw⟩;exact⟨_,rfl,k y F' p cap he le hm _ _ ⟨hA.1.put hd _,hw⟩⟩
def NX(y:Int):Option Nat:=if 0 < y/\y<=4294967296 then some y.toNat else none
theorem GL.dL{α:Type}{c:Kb α}{sz e2:Nat}{z:α}{zv:Value}{f:Nat->Option β}{T:Array TypeId}{kd2:IntKind}{l:List α}(i:Nat)(E:Ub P e sz c)(hd:Nat.blt d n=true)(ht:P.underlying t=some (.slice e))(ht2:P.underlying e2=some (.int kd2))(hT0:T[0]? =some t)(hT1:T[1]? =some e2)(hzv:∀w,(zeroValue e).run P w= .ok zv w)(hzc:∀F',F<=F'->c F' z zv.cells.toList)
  (hi:hs[i]? =some (Qk sz c F0 e none 0 l)) (hx:QK S ox=some (.slice none 0 0)) (hy:QK S oy=some (.int kd y))
  (k:∀len b cap,NX y=some len->GL O P ops rest ks Q (Hd n D ((d,.slice (some ⟨b,0,none⟩) (List.replicate len z).length cap)::S) F (hs.set i (Qk sz c F e (some ⟨b,0,none⟩) cap (List.replicate len z)))) (f len) r):
  GL O P ops (⟨some d,.call ⟨.builtin .append,#[ox,oy],T⟩,ty,pos,after,none⟩::rest) ks Q (Hd n D S F hs) ((NX y).bind f) r:=by
 refine GL.bind λlen hlen=> ?_;have hk:=λb cap=>k len b cap hlen;unfold NX at hlen
 split at hlen
 ·rename_i hb;cases hlen;refine GL.step rfl (.inr rfl) λhm a w ha=> ?_;obtain⟨ti,hti,hb0,hb1⟩:=E.info
  have hsz:zv.cells.size=sz:=by
   have:=E.len _ _ _ (hzc F (Fz.le_refl F));simpa using this
  generalize hq' :Question.appendCap y.toNat 0 e=q
  have hcap:y.toNat<=q.cut (w.tape w.drawn q)/\q.cut (w.tape w.drawn q)<=9223372036854775807:=by
   rw[<-hq'];have:=Nat.mod_lt (w.tape w.drawn (Question.appendCap y.toNat 0 e)) (show 0 < 2^63 - y.toNat by omega);simp only[Question.cut];omega
  have hforced:q.forced=false:=by rw[<-hq'];rfl
  generalize hC:q.cut (w.tape w.drawn q)=C at hcap
  have hHq:SH w F (Qj (hs.eraseIdx i)):=ha.2.wW i;have hdrew:SH {w with drawn:=w.drawn+1} F (Qj (hs.eraseIdx i)):=hHq.drew _;have halloc:=hdrew.alloc (.cells (Builtin.zeroCells zv.cells y.toNat++Builtin.zeroCells zv.cells (C - y.toNat)) e);have hlz:∀k,(Builtin.zeroCells zv.cells k).size=k*sz:=λk=>by simp[Builtin.zeroCells,hsz]
  have hw1:IntKind.i64.wrap y=y:=by simp[IntKind.wrap,IntKind.bits,IntKind.signed];omega
  refine⟨.slice (some ⟨w.heap.size,0,none⟩) y.toNat C,({w with drawn:=w.drawn+1}:World).alloc (.cells (Builtin.zeroCells zv.cells y.toNat++Builtin.zeroCells zv.cells (C - y.toNat)) e),?_,?_⟩
  rotate_left
  ·have hk' :=hk w.heap.size C;rw[List.length_replicate] at hk'
   refine hk' hm _ _ ⟨ha.1.put hd _,SH.push hi (halloc.mono λm hm=>QX (λm' hm' =>⟨by rw[List.length_replicate];exact hcap.1,hcap.2,.inr ⟨w.heap.size,(Builtin.zeroCells zv.cells y.toNat++Builtin.zeroCells zv.cells (C - y.toNat)).toList,rfl,?_,?_,?_⟩⟩) hm)⟩
   ·(have hm2:pt _ _ m' :=hm';unfold pt at hm2 ⊢;rw[hm2])
   ·simp only[Array.length_toList,Array.size_append,hlz,<-Nat.add_mul];congr 1;omega
   ·have hp:JV sz c F (List.replicate y.toNat z) (Builtin.zeroCells zv.cells y.toNat).toList:=by
     unfold Builtin.zeroCells;rw[hsz];have:=JV.br (cap:=y.toNat) (k:=y.toNat) hsz (Nat.le_refl _) hzc;rw[hsz] at this;exact this
    have:=hp.xb (us2:=(Builtin.zeroCells zv.cells (C - y.toNat)).toList) (by simp[hlz]);simpa using this
  ·have hneg:¬y < 0:=by omega
   have hby:¬(281474976710656:Int) < y*ti.bytes:=by
    have h1:(ti.bytes:Int)<=4096:=by omega
    have h2:y*(ti.bytes:Int)<=y*4096:=Int.mul_le_mul_of_nonneg_left h1 (by omega);omega
   have hn:X6 y.toNat 0 ti.bytes:=BE (by omega) (by omega) hb1;unfold X6 at hn
   have hnb:¬(281474976710656:Nat) < Builtin.nextslicecap y.toNat 0*ti.bytes:=by omega
   have hne0:¬y.toNat=0:=by omega
   have hmax:¬((y.toNat:Nat):Int) > IntKind.i64.max:=by simp[IntKind.max,IntKind.bits,IntKind.signed];omega
   have i2:∀w:World,(asInt (.int kd y)).run P w= .ok y w:=λw=>by simp[asInt,asIntOf]
   have hbk:¬(y.toNat<=0):=by omega
   simp only[execOp,resolve,invoke,builtin,List.map_toArray,List.map_cons,List.map_nil,ha.1.eval hx,ha.1.eval hy];simp only[Builtin.append_];simp[hT0,hT1,Je ht,Je ht2,E.size,i2,hw1,hneg,hti,hby,hnb,hq',hforced,hC,hzv,newRow,Builtin.firstCells,askRoom];have q1:¬y<=0:=by omega
   have q2:¬(9223372036854775807:Int) < max y 0:=by omega
   rw[if_neg q1,if_neg q2];by_cases hz0:y.toNat*sz=0
   ·have hzc0:Builtin.zeroCells zv.cells y.toNat=#[]:=Array.eq_empty_of_size_eq_zero (by rw[hlz];exact hz0);rw[if_pos hz0,hzc0,Array.empty_append]
   ·rw[if_neg hz0]
 ·cases hlen
theorem GL.bV{α:Type}{c:Kb α}{sz:Nat}{p:Option Addr}{cap:Nat}{T:TypeId}{l:List α}{f:List α->Option β}(i:Nat)(hd:Nat.blt d n=true)(ht:P.underlying t=some (.slice e))(hz:∀w,(sizeOf e).run P w= .ok sz w)
  (hi:hs[i]? =some (Qk sz c F0 T p cap l)) (hx:QK S ox=some (.slice p l.length cap)) (hy:QK S oy=some (.int kd x))
  (k:∀l' p',ZW l 0 x=some l'->GL O P ops rest ks Q (Hd n D ((d,.slice p' l'.length cap)::S) F (hs.set i (Qk sz c F0 T p' cap l'))) (f l') r):
  GL O P ops (⟨some d,.slice t ox none (some oy) none,ty,pos,after,none⟩::rest) ks Q (Hd n D S F hs) ((ZW l 0 x).bind f) r:=by
 refine GL.bind λl' hl=> ?_;have hl' :=hl;unfold ZW at hl
 split at hl
 ·rename_i h;simp only[Option.some.injEq,Int.toNat_zero,List.drop_zero,Nat.sub_zero] at hl
  have hlen:l'.length=x.toNat:=by rw[<-hl];simp;omega
  refine GL.step rfl (.inr rfl) λhm a w ha=> ?_
  have hcap:l.length<=cap:=by
   obtain⟨_,⟨_,_,_,_,_,⟨h1,_,_⟩,_⟩,_⟩:=ha.2.pull hi;exact h1
  refine⟨.slice (if cap=0 then p else p.map (·.add (0*sz))) x.toNat cap,w,?_,?_⟩
  ·simp only[execOp,ha.1.eval hx,ha.1.eval hy,Option.map_some,Option.map_none,Sem.run_bind];rw[SN ht hz (by omega)];rfl
  ·have hk:=k l' (if cap=0 then p else p.map (·.add (0*sz))) hl';rw[hlen] at hk
   have e0:(if cap=0 then p else p.map (·.add (0*sz)))=p:=by
    split
    ·rfl
    ·cases p with
     | none=>rfl
     | some q=>simp[Addr.add]
   rw[e0] at hk ⊢
   refine hk hm _ _ ⟨ha.1.put hd _,SH.push hi ((ha.2.pull hi).mono λm hm=>QX (λm' hm' => ?_) hm)⟩;obtain⟨h1,h2,h3⟩:=hm';refine⟨by rw[hlen];omega,h2,?_⟩;rcases h3 with h3 | ⟨b,cs,e1,hb,hcl,hp⟩
   ·exact .inl h3
   ·exact .inr ⟨b,cs,e1,hb,hcl,λj y hy F' le=>hp j y (by
     rw[<-hl,List.getElem?_take] at hy
     split at hy
     ·exact hy
     ·cases hy) F' le⟩
 ·cases hl
end
end
section
variable{O:Option Nat}
structure Env where
 a:Nat->Option Addr
 n:Nat->Nat
 c:Nat->List Value
 f:Nat->Fz
 o:Nat->Option Nat
abbrev Ur:Type:=Value×(Fz->Prop)
def Gm{α:Type}:List Bool->List α->List (Option α)
 | b::bs,x::xs=>(bif b then some x else none)::Gm bs xs
 | _,_=>[]
theorem B5{α:Type}:∀{M:List Bool} {x y:List α} {j:Nat} {q:α},Gm M x=Gm M y->M[j]? =some true->x[j]? =some q->y[j]? =some q
 | [],_,_,j,_,_,h,_=>by simp at h
 | b::M,[],_,j,_,_,_,h=>by simp at h
 | b::M,x::xs,[],j,_,h,_,_=>by simp[Gm] at h
 | b::M,x::xs,y::ys,0,q,h,hb,hx=>by
  simp at hb hx;subst hb hx
  simp only[Gm,cond_true,List.cons.injEq,Option.some.injEq] at h
  simp[h.1]
 | b::M,x::xs,y::ys,j+1,q,h,hb,hx=>by
  simp only[Gm,List.cons.injEq] at h
  have:=B5 (j:=j) (q:=q) h.2 (by simpa using hb) (by simpa using hx);simpa using this
def XA(l:List Oper):Nat->Nat->Nat->Bool
 | 0,_,_=>false
 | k+1,i,j=>match l[i]? with
  | none=>false
  | some o=>o.after.toList.any λe=>Region.binds .any e&&(Nat.beq e.on j||XA l k e.on j)
def Down(l:List Oper)(L:Nat->Bool):Prop:=∀i o,l[i]? =some o->L i=true->∀e∈o.after,Region.binds .any e=true->L e.on=true
theorem We{l:List Oper}{L:Nat->Bool}(hd:Down l L):∀{k i j:Nat},XA l k i j=true->(∀o,l[i]? =some o->∀e∈o.after,Region.binds .any e=true->L e.on=true)->L j=true
 | 0,i,j,h,_=>by simp[XA] at h
 | k+1,i,j,h,hi=>by
  simp only[XA] at h
  split at h
  ·cases h
  ·rename_i o ho;simp only[List.any_eq_true,Bool.and_eq_true,Bool.or_eq_true] at h
   obtain⟨e,he,hb,h⟩:=h;have hon:=hi o ho e (by simpa using he) hb;rcases h with h | h
   ·rw[<-Nat.eq_of_beq_eq_true h];exact hon
   ·exact We hd h λo' ho' e' he' hb' =>hd e.on o' ho' hon e' he' hb'
def BO(l:List Oper)(i:Nat):Nat->List Bool->List Bool->Bool
 | _,_,[]=>true
 | j,M,b::bs=>(b||Nat.beq j i||(match l[j]? with
  | none=>false
  | some o=>o.after.toList.any λe=>Region.binds .any e&&(Nat.beq e.on i||(Nat.blt e.on j&&(M[e.on]?).getD true==false))))&&BO l i (j+1) M bs
theorem P1{l:List Oper}{i:Nat}{M:List Bool}:∀{bs:List Bool} {j0:Nat},BO l i j0 M bs=true->∀t,bs[t]? =some false->j0+t=i∨∃o e,l[j0+t]? =some o/\e∈o.after/\Region.binds .any e=true/\(e.on=i∨(e.on < j0+t/\M[e.on]? =some false))
 | [],_,_,t,h=>by simp at h
 | b::bs,j0,hb,0,h=>by
  simp at h;subst h
  simp only[BO,Bool.false_or,Bool.and_eq_true,Bool.or_eq_true] at hb
  rcases hb.1 with h | h
  ·exact .inl (Nat.eq_of_beq_eq_true h)
  ·right;split at h
   ·cases h
   ·rename_i o ho;simp only[List.any_eq_true,Bool.and_eq_true,Bool.or_eq_true] at h
    obtain⟨e,he,hbi,h⟩:=h;refine⟨o,e,ho,by simpa using he,hbi,?_⟩;rcases h with h | ⟨h1,h2⟩
    ·exact .inl (Nat.eq_of_beq_eq_true h)
    ·refine .inr ⟨Nat.le_of_ble_eq_true h1,?_⟩;cases hm:M[e.on]? with
     | none=>rw[hm] at h2;simp at h2
     | some b=>rw[hm] at h2;simp at h2;rw[h2]
 | b::bs,j0,hb,t+1,h=>by
  simp only[BO,Bool.and_eq_true] at hb
  have:=P1 hb.2 t (by simpa using h)
  rwa[show j0+1+t=j0+(t+1) by omega] at this
theorem S9{l:List Oper}{i:Nat}{M:List Bool}{L:Nat->Bool}(hd:Down l L)(hi:L i=false)(hc:BO l i 0 M M=true):∀(j:Nat),L j=true->j < M.length->M[j]? =some true:=λj=>by
 induction j using Nat.strongRecOn with
 | ind j ih=>
  intro hj hlt;cases hm:M[j]? with
  | none=>rw[List.getElem?_eq_none_iff] at hm;omega
  | some b=>
   cases b with
   | true=>rfl
   | false=>
    exfalso;have:=P1 hc j hm;rw[Nat.zero_add] at this
    rcases this with rfl | ⟨o,e,ho,he,hb,h⟩
    ·rw[hi] at hj;cases hj
    ·have hon:=hd j o ho hj e he hb;rcases h with h | ⟨hlt',h⟩
     ·rw[h,hi] at hon;cases hon
     ·have:=ih e.on hlt' hon (Zv h);rw[h] at this;cases this
def VR(l:List Oper)(j:Nat):Option Nat:=(l[j]?).bind (·.dst)
section
variable{β:Type}{P:Program}{ks:List Kt}{Q:Exit->Act->World->Prop}{m:Option β}{r:β}
variable{n:Nat}{D:List Deferred}{S0:List (Nat×Value)}{F:Fz}
def Gu(n:Nat)(D:List Deferred)(l:List Oper)(X:Env->List Ur)(C:(Nat->Bool)->Env->List HP)(L:Nat->Bool)(env:Env)(F' :Fz)(i:Nat)(dst:Option Nat)(S:List (Nat×Value)):Exit->Act->World->Prop:=λe a w=>
 e= .normal/\∃env' F'',F'<=F''/\(∃M,M.length=(X env).length/\BO l i 0 M M=true/\Gm M (X env)=Gm M (X env'))/\∃q,(X env')[i]? =some q/\(∀G,F''<=G->q.2 G)/\
  Hd n D (match dst with | some d=>(d,q.1)::S | none=>S) F'' (C (Km L i) env') a w
def jn(O:Option Nat)(P:Program)(ops:Array Oper)(l:List Oper)(n:Nat)(D:List Deferred)(S0:List (Nat×Value))(F:Fz)(X:Env->List Ur)(C:(Nat->Bool)->Env->List HP)(i:Nat)(o:Oper):Prop:=
 ∀L env F',F<=F'->L i=false->(∀k j,XA l k i j=true->L j=true)->(∀k j,XA l k j i=true->L j=false)->(∀(j:Nat) (q:Ur),L j=true->(X env)[j]? =some q->∀G,F'<=G->q.2 G)->
  ∃Si,(∀S,Sub S0 S->(∀(j d:Nat) (v:Value),L j=true->VR l j=some d->((X env)[j]?).map Prod.fst=some v->Kw S d=some v)->Sub Si S)/\
   GL O P ops [o] [] (Gu n D l X C L env F' i o.dst Si) (Hd n D Si F' (C L env)) (some ()) ()
def Br(O:Option Nat)(P:Program)(ops:Array Oper)(l:List Oper)(n:Nat)(D:List Deferred)(S0:List (Nat×Value))(F:Fz)(X:Env->List Ur)(C:(Nat->Bool)->Env->List HP):Nat->List Oper->Prop
 | _,[]=>True
 | i,o::os=>jn O P ops l n D S0 F X C i o/\Br O P ops l n D S0 F X C (i+1) os
theorem Br.get{ops:Array Oper}{l:List Oper}{X:Env->List Ur}{C:(Nat->Bool)->Env->List HP}:∀{k:Nat} {os:List Oper},Br O P ops l n D S0 F X C k os->∀i o,os[i]? =some o->jn O P ops l n D S0 F X C (k+i) o
 | _,[],_,i,o,h=>by simp at h
 | k,x::os,hb,0,o,h=>by simp at h;subst h;exact hb.1
 | k,x::os,hb,i+1,o,h=>by
  have:=Br.get hb.2 i o (by simpa using h)
  rwa[show k+1+i=k+(i+1) by omega] at this
theorem MT{ops:Array Oper}{o:Oper}{a:Act}{w:World}{l:List Oper}{X:Env->List Ur}{C:(Nat->Bool)->Env->List HP}{L:Nat->Bool}{env:Env}{F' :Fz}{i:Nat}{S Si:List (Nat×Value)}(hn:∀d,o.dst=some d->Nat.blt d n=true)(ha:Sl n D S a)
  (h:Xd O P ops (Gu n D l X C L env F' i o.dst Si) [o] a w):Xd O P ops (Gu n D l X C L env F' i o.dst S) [o] a w:=by
 have key:∀u w',Gu n D l X C L env F' i o.dst Si .normal (a.put o.dst u) w'->Gu n D l X C L env F' i o.dst S .normal (a.put o.dst u) w' :=by
  rintro u w' ⟨_,env',F'',le,hM,q,hq,hf,hA⟩;refine⟨rfl,env',F'',le,hM,q,hq,hf,?_⟩;cases hd:o.dst with
  | none=>rw[hd] at hA;exact⟨ha.wK u,hA.2⟩
  | some d=>
   rw[hd] at hA
   have h1:=ha.put (hn d hd) u;have e1:=h1.2.2 d u FO;have e2:=hA.1.2.2 d q.1 FO;have:u=q.1:=e1.symm.trans e2;subst this;exact⟨h1,hA.2⟩
 have hno:∀e a w,e≠.normal->Gu n D l X C L env F' i o.dst Si e a w->False:=λe a w hne hq=>hne hq.1;unfold Xd at h ⊢
 split
 ·rename_i hw;rw[if_pos hw] at h
  refine ML key (λdd w' h=> ?_) (λe a w hne hq=>(hno e a w hne hq).elim) h;obtain⟨_,env',F'',le,hM,q,hq,hf,hA⟩:=h;have h2:=hA.1.2.1;cases hd:o.dst with
  | none=>
   rw[hd] at h2;simp only[Act.put] at h2;rw[ha.2.1] at h2
   exact absurd (congrArg List.length h2) (by simp)
  | some d=>
   rw[hd] at h2;simp only[Act.put] at h2;rw[ha.2.1] at h2
   exact absurd (congrArg List.length h2) (by simp)
 ·rename_i hw;rw[if_neg hw] at h
  exact key undef w h
def SL(d:Nat)(o:Oper):Bool:=match o.dst with
 | some d' =>Nat.beq d' d
 | none=>false
def HQ(n:Nat)(S0:List (Nat×Value)):List Oper->Bool
 | []=>true
 | o::os=>(match o.dst with
  | none=>true
  | some d=>Nat.blt d n&& !Cu d S0&& !os.any (SL d))&&HQ n S0 os
theorem XG:∀{os:List Oper} {i:Nat} {o:Oper} {d:Nat},HQ n S0 os=true->os[i]? =some o->o.dst=some d->Nat.blt d n=true/\Cu d S0=false
 | [],_,_,_,_,h,_=>by simp at h
 | x::os,0,o,d,hf,h,hd=>by
  simp at h;subst h
  simp only[HQ,hd,Bool.and_eq_true,Bool.not_eq_true'] at hf
  exact⟨hf.1.1.1,hf.1.1.2⟩
 | x::os,i+1,o,d,hf,h,hd=>by
  simp only[HQ,Bool.and_eq_true] at hf
  exact XG hf.2 (by simpa using h) hd
theorem B9{os:List Oper}{d i:Nat}{o:Oper}(h:os.any (SL d)=false)(ho:os[i]? =some o)(hd:o.dst=some d):False:=by
 have hm:o∈os:=by
  obtain⟨hlt,e⟩:=List.getElem?_eq_some_iff.1 ho;rw[<-e];exact List.getElem_mem hlt
 have:os.any (SL d)=true:=List.any_eq_true.2 ⟨o,hm,by simp[SL,hd]⟩;rw[h] at this;cases this
theorem DE:∀{os:List Oper} {i j:Nat} {o o' :Oper} {d:Nat},HQ n S0 os=true->os[i]? =some o->os[j]? =some o'->o.dst=some d->o'.dst=some d->i=j
 | [],_,_,_,_,_,_,h,_,_,_=>by simp at h
 | x::os,0,0,_,_,_,_,_,_,_,_=>rfl
 | x::os,0,j+1,o,o',d,hf,h,h',hd,hd' =>by
  simp at h;subst h
  simp only[HQ,hd,Bool.and_eq_true,Bool.not_eq_true'] at hf
  exact(B9 hf.1.2 (by simpa using h') hd').elim
 | x::os,i+1,0,o,o',d,hf,h,h',hd,hd' =>by
  simp at h';subst h'
  simp only[HQ,hd',Bool.and_eq_true,Bool.not_eq_true'] at hf
  exact(B9 hf.1.2 (by simpa using h) hd).elim
 | x::os,i+1,j+1,o,o',d,hf,h,h',hd,hd' =>by
  simp only[HQ,Bool.and_eq_true] at hf
  have:=DE (i:=i) (j:=j) hf.2 (by simpa using h) (by simpa using h') hd hd';rw[this]
def MH:List Oper->List Ur->List (Nat×Value)->List (Nat×Value)
 | o::os,q::qs,S=>match o.dst with
  | some d=>(d,q.1)::MH os qs S
  | none=>MH os qs S
 | _,_,S=>S
theorem Tu{S:List (Nat×Value)}(h0:Sub S0 S):∀{os:List Oper} {qs:List Ur},(∀(i:Nat) (o:Oper) (d:Nat) (q:Ur),os[i]? =some o->o.dst=some d->qs[i]? =some q->Kw S d=some q.1)->Sub (MH os qs S0) S
 | [],_,_=>h0
 | _::_,[],_=>h0
 | o::os,q::qs,h=>by
  have h2:Sub (MH os qs S0) S:=Tu h0 λi o d q e1 e2 e3=>h (i+1) o d q (by simpa using e1) e2 (by simpa using e3);simp only[MH];cases hd:o.dst with
  | none=>exact h2
  | some d=>exact Sub.cons (h 0 o d q rfl hd rfl) h2
theorem GC.di{hs:List HP}{id:Nat}{l:List Oper}(k g:Nat)(X:Env->List Ur)(C:(Nat->Bool)->Env->List HP)(hm:P.follows .mixedOrders=true)(hord:Rb 0 l=true)(htail:M1 k (l.drop k)=true)
  (hlen:Nat.ble k l.length=true) (hX:∀env,(X env).length=k) (hfr:HQ n S0 (l.take k)=true) (hC:∀env,C (λ_=>false) env=hs++List.replicate g CI)
  (hops:Br O P l.toArray l n D S0 F X C 0 (l.take k))
  (tail:∀env F',F<=F'->(∀(j:Nat) (q:Ur),(X env)[j]? =some q->q.2 F')->GL O P l.toArray (l.drop k) ks Q (Hd n D (MH (l.take k) (X env) S0) F' (C (λj=>Nat.blt j k) env)) m r):
  GC O P (.region id l.toArray true) ks Q (Hd n D S0 F hs) m r:=by
 intro hmr a w ha;have hlen' :k<=l.length:=Nat.le_of_ble_eq_true hlen
 let Free:(Nat->Bool)->Act->World->Prop:=λL a w=>Down l L/\(∀i,k<=i->L i=false)/\∃env F' S,F<=F'/\Sub S0 S/\(∀(j d:Nat) (v:Value),L j=true->VR l j=some d->((X env)[j]?).map Prod.fst=some v->Kw S d=some v)/\(∀(j:Nat) (q:Ur),L j=true->(X env)[j]? =some q->∀G,F'<=G->q.2 G)/\Hd n D S F' (C L env) a w
 let Inv:(Nat->Bool)->Act->World->Prop:=λL a w=>Free L a w∨∃i,k < i/\(∀j,L j=true↔j < i)/\Xd O P l.toArray (Z8 O P ks Q) (l.drop i) a w
 have hend0:∀L a w,(∀i,i < k->L i=true)->Free L a w->Xd O P l.toArray (Z8 O P ks Q) (l.drop k) a w:=by
  rintro L a w hall ⟨hdn,hout,env,F',S,le,hS,hV,hΦ,hA⟩;have hXl:=hX env
  have hLk:L=λj=>Nat.blt j k:=by
    funext j;rcases Nat.lt_or_ge j k with h | h
    ·rw[hall j h];exact(Nat.ble_eq_true_of_le h).symm
    ·rw[hout j h];cases hb:Nat.blt j k with
     | false=>rfl
     | true=>have:=Nat.le_of_ble_eq_true hb;omega
  refine tail env F' le (λj q hq=>hΦ j q (hall j (by have:=Zv hq;omega)) hq F' (Fz.le_refl F')) hmr a w ⟨hA.1.sub (Tu hS λi o d q e1 e2 e3=> ?_),hLk▸hA.2⟩;have hik:i < k:=by have:=Zv e3;omega
  refine hV i d q.1 (hall i hik) ?_ (by rw[e3];rfl);rw[List.getElem?_take,if_pos hik] at e1
  simp[VR,e1,e2]
 refine Wy hm Inv (λi o h e he hb=>by have:=XL hord i o (by simpa using h) e he hb;omega) ?_ ?_ ?_
 ·refine .inl ⟨λi o _ h=>(by cases h),λ_ _=>rfl,⟨λ_=>none,λ_=>0,λ_=>[],λ_=>F,λ_=>none⟩,F,S0,Fz.le_refl F,Sub.refl _,λj d v h=>(by cases h),λj q h=>(by cases h),ha.1,?_⟩;rw[hC];have h1:=ha.2.drew (w.drawn+1);refine h1.mono λm hm' => ?_;exact stars_emps hm'
 ·intro L a w i o ho hLi hdeps hI;have ho' :l[i]? =some o:=by simpa using ho
  have hil:i < l.length:=Zv ho';by_cases hi:i < k
  · rcases hI with hF | ⟨k',hk,hL,_⟩
    case inr=>have:=(hL i).2 (by omega);rw[hLi] at this;cases this
    obtain⟨hdn,hout,env,F',S,le,hS,hV,hΦ,hA⟩:=hF;have hot:(l.take k)[i]? =some o:=by rw[List.getElem?_take,if_pos hi];exact ho'
    have hop:=Br.get hops i o hot;simp only[Nat.zero_add] at hop
    have hup:∀k' j,XA l k' j i=true->L j=false:=λk' j h=>by
     cases hj:L j with
     | false=>rfl
     | true=>
      have:=We hdn h λo' ho'' e he hb=>hdn j o' ho'' hj e he hb;rw[hLi] at this;cases this
    have hdn' :∀k' j,XA l k' i j=true->L j=true:=λk' j h=>We hdn h λo' ho'' e he hb=>by
     rw[ho'] at ho'';cases ho'';exact hdeps e he hb
    obtain⟨Si,hSi,hstep⟩:=hop L env F' le hLi hdn' hup hΦ;have hsub:=hSi S hS hV;have hn:∀d,o.dst=some d->Nat.blt d n=true:=λd hd=>(XG hfr hot hd).1;have h1:=MT (S:=S) hn hA.1 (hstep rfl a w ⟨hA.1.sub hsub,hA.2⟩);refine S1 (λe a w hne hq=>absurd hq.1 hne) (λa' w' hq=> ?_) h1;obtain⟨_,env',F'',le',⟨M,hMl,hMc,hMe⟩,q,hq,hqf,hA'⟩:=hq
    have hst:∀(j:Nat) (q:Ur),L j=true->(X env')[j]? =some q->(X env)[j]? =some q:=λj q hj hx=>by
     have hjl:j < M.length:=by rw[hMl,hX env,<-hX env'];exact Zv hx
     exact B5 hMe.symm (S9 hdn hLi hMc j hj hjl) hx
    refine .inl ⟨?_,?_,env',F'',(match o.dst with | some d=>(d,q.1)::S | none=>S),Fz.le_trans le le',?_,?_,?_,hA'⟩
    ·intro j oj hoj hj e he hb;by_cases hji:j=i
     ·subst hji;rw[ho'] at hoj;cases hoj
      have:=hdeps e he hb;simp only[Km];split
      ·rfl
      ·exact this
     ·have hLj:L j=true:=by simpa[Km,hji] using hj
      have:=hdn j oj hoj hLj e he hb;simp only[Km];split
      ·rfl
      ·exact this
    ·intro j hj;simp only[Km];rw[if_neg (by omega)];exact hout j hj
    ·cases hd:o.dst with
     | none=>exact hS
     | some d=>exact Tt hS (XG hfr hot hd).2 _
    ·intro j d' v' hj hd' hv';by_cases hji:j=i
     ·subst hji;have hod:o.dst=some d' :=by simpa[VR,ho'] using hd'
      rw[hq] at hv';simp only[Option.map_some,Option.some.injEq] at hv'
      subst hv';rw[hod];exact FO
     ·have hLj:L j=true:=by simpa[Km,hji] using hj
      have hjk:j < k:=by
       rcases Nat.lt_or_ge j k with h | h
       ·exact h
       ·rw[hout j h] at hLj;cases hLj
      obtain⟨q',hq',rfl⟩:=Option.map_eq_some_iff.1 hv';have h0:=hV j d' q'.1 hLj hd' (by rw[hst j q' hLj hq'];rfl);cases hd:o.dst with
      | none=>exact h0
      | some d=>
       have hne:d≠d' :=λh=>by
        subst h;cases hoj:l[j]? with
        | none=>simp[VR,hoj] at hd'
        | some oj=>
         have hdj:oj.dst=some d:=by simpa[VR,hoj] using hd'
         exact hji (DE hfr (by rw[List.getElem?_take,if_pos hjk];exact hoj) hot hdj hd)
       exact AB hne h0
    ·intro j q' hj hq' G hG;by_cases hji:j=i
     ·subst hji;rw[hq] at hq';cases hq';exact hqf G hG
     ·have hLj:L j=true:=by simpa[Km,hji] using hj
      exact hΦ j q' hLj (hst j q' hLj hq') G (Fz.le_trans le' hG)
  ·
    have hts:=Tl htail (i - k) o (by rw[List.getElem?_drop];rw[show k+(i - k)=i by omega];exact ho')
    have hall:∀j,j < i->L j=true:=λj hj=>by
     obtain⟨e,he,h1,h2⟩:=hts j (by omega);rw[<-h1];exact hdeps e he h2
    have hw:Xd O P l.toArray (Z8 O P ks Q) (l.drop i) a w:=by
     rcases hI with hF | ⟨k',hk,hL,hwp⟩
     ·have hiV:i=k:=by
       rcases Nat.lt_or_ge k i with h | h
       ·have:=hall k h;rw[hF.2.1 _ (Nat.le_refl _)] at this;cases this
       ·omega
      subst hiV;exact hend0 L a w hall hF
     ·have:k' =i:=by
       have h1:¬i < k' :=λh=>by have:=(hL i).2 h;rw[hLi] at this;cases this
       have h2:¬k' < i:=λh=>by have:=(hL k').1 (hall k' h);omega
       omega
      subst this;exact hwp
    have hdrop:l.drop i=o::l.drop (i+1):=by
     have hg:l[i]'hil=o:=by simpa[hil] using ho'
     rw[<-hg];exact List.drop_eq_getElem_cons hil
    rw[hdrop] at hw
    have hnext:∀a' w',Xd O P l.toArray (Z8 O P ks Q) (l.drop (i+1)) a' w'->Inv (Km L i) a' w' :=λa' w' h=>
     .inr ⟨i+1,by omega,λj=>by
      simp only[Km];by_cases hj:j=i
      ·simp[hj]
      ·simp only[hj,if_false];constructor
       ·intro hLj
        have:j < i:=by
         rcases Nat.lt_or_ge j i with h | h
         ·exact h
         ·rcases hI with hF | ⟨k',hk,hL,_⟩
          ·rw[hF.2.1 j (by omega)] at hLj;cases hLj
          ·have h1:=(hL j).1 hLj;have:=(hL i).2 (by omega);rw[hLi] at this;cases this
        omega
       ·intro hj';exact hall j (by omega),h⟩
    unfold Xd at hw
    split
    ·rename_i hwn;rw[if_pos hwn] at hw
     exact BC hnext hw
    ·rename_i hwn;rw[if_neg hwn] at hw
     exact hnext _ _ hw
 ·intro L a w hall hI
  have hw:Xd O P l.toArray (Z8 O P ks Q) (l.drop l.length) a w:=by
    rcases hI with hF | ⟨k',hk,hL,hwp⟩
    ·have hVl:k=l.length:=by
      rcases Nat.lt_or_ge k l.length with h | h
      ·have:=hall k (by simpa using h);rw[hF.2.1 _ (Nat.le_refl _)] at this;cases this
      ·omega
     have:=hend0 L a w (λi hi=>hall i (by simp;omega)) hF
     rwa[hVl] at this
    ·have:l.length<=k' :=by
      rcases Nat.lt_or_ge k' l.length with h | h
      ·have:=(hL k').1 (hall k' (by simpa using h));omega
      ·exact h
     rw[List.drop_eq_nil_of_le this] at hwp
     rw[List.drop_eq_nil_of_le (Nat.le_refl _)];exact hwp
  rw[List.drop_eq_nil_of_le (Nat.le_refl _)] at hw
  exact hw
where
 stars_emps {hs:List HP} {g:Nat} {m:Mem} (h:Qj hs m):Qj (hs++List.replicate g CI) m:=by
  induction hs generalizing m with
  | nil=>
   rw[List.nil_append]
   induction g generalizing m with
   | zero=>exact h
   | succ g ih=>exact⟨λ_=>none,m,λ_=>.inl rfl,λ_ _ e=>by simp at e,Mem.sub.refl _,trivial,ih trivial⟩
  | cons q hs ih=>exact QR (λm' h' =>ih h') h
theorem Br.nil{ops:Array Oper}{l:List Oper}{X:Env->List Ur}{C:(Nat->Bool)->Env->List HP}{k:Nat}:Br O P ops l n D S0 F X C k []:=trivial
section
variable{ops:Array Oper}{l:List Oper}{X:Env->List Ur}{C:(Nat->Bool)->Env->List HP}{L:Nat->Bool}{env:Env}{F' F2:Fz}{i d:Nat}{v:Value}{Si:List (Nat×Value)}{x:β}{hs2:List HP}
theorem allM{i:Nat}:∀{k j:Nat} {M:List Bool},BO l i j M (List.replicate k true)=true
 | 0,_,_=>rfl
 | k+1,j,M=>by
  simp only[List.replicate_succ,BO,Bool.true_or,Bool.true_and];exact allM
theorem GL.U(hx:(X env)[i]? =some (v,λ_=>True))(hC:C (Km L i) env=C L env)(le:F'<=F2):
  GL O P ops [] [] (Gu n D l X C L env F' i (some d) Si) (Hd n D ((d,v)::Si) F2 (C L env)) (some x) x:=
 λ_ a w ha=>⟨rfl,env,F2,le,⟨List.replicate (X env).length true,by simp,allM,rfl⟩,_,hx,λ_ _=>trivial,⟨ha.1,hC▸ha.2⟩⟩
theorem GL.xR(env' :Env)(M:List Bool)(hMl:M.length=(X env).length)(hMc:BO l i 0 M M=true)(hMe:Gm M (X env)=Gm M (X env')){q:Fz->Prop}(hx:(X env')[i]? =some (v,q))(le:F'<=F2)(hf:∀G,F2<=G->q G)
  (hC:∀w,SH w F2 (Qj hs2)->SH w F2 (Qj (C (Km L i) env'))):GL O P ops [] [] (Gu n D l X C L env F' i (some d) Si) (Hd n D ((d,v)::Si) F2 hs2) (some x) x:=
 λ_ _a _w ha=>⟨rfl,env',F2,le,⟨M,hMl,hMc,hMe⟩,_,hx,hf,⟨ha.1,hC _ ha.2⟩⟩
theorem GL.xl(hx:(X env)[i]? =some (v,λ_=>True))(le:F'<=F2)(hC:hs2=C (Km L i) env):GL O P ops [] [] (Gu n D l X C L env F' i none Si) (Hd n D Si F2 hs2) (some x) x:=
 λ_ a w ha=>⟨rfl,env,F2,le,⟨List.replicate (X env).length true,by simp,allM,rfl⟩,_,hx,λ_ _=>trivial,⟨ha.1,hC▸ha.2⟩⟩
end
theorem SH.place{hs:List HP}{p q:HP}{w:World}(k:Nat)(hk:hs[k]? =some q)(h:SH w F (Qj (p::hs))):SH w F (Qj (hs.set k p)):=
 SH.push hk ((h.mono λ_ hm=>Zd (QR (λ_=>Gi (k:=k)) hm)).drop)
theorem Jg{α:Type}{b:Bool}{x y:α}(h:b=true):cond b x y=x:=by rw[h];rfl
theorem KR{α:Type}{b:Bool}{x y:α}(h:b=false):cond b x y=y:=by rw[h];rfl
theorem SH.w6{hs:List HP}{p p' q:HP}{w:World}(k:Nat)(hk:hs[k]? =some q)(hp:p' =p)(h:SH w F (Qj (p::hs))):SH w F (Qj (hs.set k p')):=hp▸h.place k hk
theorem RU{hs:List HP}{p p' :HP}(k:Nat)(hp:p' =p):hs.set k p=hs.set k p' :=by rw[hp]
theorem GL.norm{ops:Array Oper}{l:List Oper}{S S' :List (Nat×Value)}{hs hs' :List HP}(hS:Sub S' S)(hh:hs=hs')(k:GL O P ops l ks Q (Hd n D S' F hs') m r):GL O P ops l ks Q (Hd n D S F hs) m r:=
 λhm a w ha=>k hm a w ⟨ha.1.sub hS,hh▸ha.2⟩
theorem GL.xd{ops:Array Oper}{rest:List Oper}{S:List (Nat×Value)}{hs:List HP}{α:Type}{sz d:Nat}{ty t t2 e e2:TypeId}{pos:String}{after:Array Edge}{ox oy:Operand}{c:Kb α}{F0:Fz}{p p2:Option Addr}{cap cap2:Nat}{l l2 l' :List α}{T:Array TypeId}(hl:VT l l2=some l')(i:Nat)(E:Ub P e sz c)(le0:F0<=F)(hd:Nat.blt d n=true)(ht:P.underlying t=some (.slice e))(ht2:P.underlying t2=some (.slice e2))(hT0:T[0]? =some t)(hT1:T[1]? =some t2)
  (hi:hs[i]? =some (Qk sz c F0 e p cap l)) (hr:QH sz c F p2 cap2 l2) (hx:QK S ox=some (.slice p l.length cap)) (hy:QK S oy=some (.slice p2 l2.length cap2))
  (k:∀p' cap',GL O P ops rest ks Q (Hd n D ((d,.slice p' l'.length cap')::S) F (hs.set i (Qk sz c F e p' cap' l'))) m r):
  GL O P ops (⟨some d,.call ⟨.builtin .append,#[ox,oy],T⟩,ty,pos,after,none⟩::rest) ks Q (Hd n D S F hs) m r:=by
 have h:=GL.append (f:=λ_=>m) (pos:=pos) (after:=after) (ty:=ty) i E le0 hd ht ht2 hT0 hT1 hi hr hx hy (λl'' p' cap' hl'' =>by rw[hl] at hl'';cases hl'';exact k p' cap');rw[hl] at h;exact h
theorem GL.fW{α:Type}{n:Nat}{S:List (Nat×Value)}{hs:List HP}{ops:Array Oper}{rest:List Oper}{d:Nat}{ty t:TypeId}{pos:String}{after:Array Edge}{ox oy:Operand}{kd:IntKind}{x:Int}{sz:Nat}{c:Kb α}{p:Option Addr}{cap e:Nat}{l:List α}{l' :List α}(hl:ZW l x l.length=some l')(hd:Nat.blt d n=true)(ht:P.underlying t=some (.slice e))(hz:∀w,(sizeOf e).run P w= .ok sz w)
  (hr:QH sz c F p cap l) (hx:QK S ox=some (.slice p l.length cap)) (hy:QK S oy=some (.int kd x))
  (k:∀p' c',QH sz c F p' c' l'->GL O P ops rest ks Q (Hd n D ((d,.slice p' l'.length c')::S) F hs) m r):
  GL O P ops (⟨some d,.slice t ox (some oy) none none,ty,pos,after,none⟩::rest) ks Q (Hd n D S F hs) m r:=by
 have h:=GL.wu (f:=λ_=>m) (pos:=pos) (after:=after) (ty:=ty) hd ht hz hr hx hy (λl'' p' c' hl'' hr' =>by rw[hl] at hl'';cases hl'';exact k p' c' hr');rw[hl] at h;exact h
theorem GL.fK{α:Type}{n:Nat}{S:List (Nat×Value)}{hs:List HP}{ops:Array Oper}{rest:List Oper}{d:Nat}{ty t:TypeId}{pos:String}{after:Array Edge}{ox oy oz:Operand}{kd:IntKind}{x:Int}{sz:Nat}{c:Kb α}{p:Option Addr}{cap e:Nat}{l:List α}{kd' :IntKind}{l' :List α}(hl:ZW l 0 x=some l')(hd:Nat.blt d n=true)(ht:P.underlying t=some (.slice e))(hz:∀w,(sizeOf e).run P w= .ok sz w)
  (hr:QH sz c F p cap l) (hx:QK S ox=some (.slice p l.length cap)) (hy:QK S oy=some (.int kd x)) (hm:QK S oz=some (.int kd' x))
  (k:∀p' c',QH sz c F p' c' l'->GL O P ops rest ks Q (Hd n D ((d,.slice p' l'.length c')::S) F hs) m r):
  GL O P ops (⟨some d,.slice t ox none (some oy) (some oz),ty,pos,after,none⟩::rest) ks Q (Hd n D S F hs) m r:=by
 have h:=GL.gF (f:=λ_=>m) (pos:=pos) (after:=after) (ty:=ty) hd ht hz hr hx hy hm (λl'' p' c' hl'' hr' =>by rw[hl] at hl'';cases hl'';exact k p' c' hr');rw[hl] at h;exact h
theorem GC.freeze{cd:Code}{S:List (Nat×Value)}{hs:List HP}{b:Nat}{o:Obj}(i:Nat)(hi:hs[i]? =some (pt b o))(k:∀F',F<=F'->F'.mem b=some o->GC O P cd ks Q (Hd n D S F' (hs.eraseIdx i)) m r):GC O P cd ks Q (Hd n D S F hs) m r:=
 λhm a w ha=>by
  obtain⟨h1,h2⟩:=SH.gR hi ha.2;exact k _ h1 (Fz.wH ..) hm a w ⟨ha.1,h2⟩
theorem GL.fV{ops:Array Oper}{rest:List Oper}{S:List (Nat×Value)}{hs:List HP}{d:Nat}{ty t e:TypeId}{pos:String}{after:Array Edge}{ox oy:Operand}{kd:IntKind}{x:Int}{sz:Nat}(hd:Nat.blt d n=true)(ht:P.underlying t=some (.slice e))(hz:∀w,(sizeOf e).run P w= .ok sz w)(hx:QK S ox=some (.slice none 0 0))(hy:QK S oy=some (.int kd x))(h0:x=0)
  (k:GL O P ops rest ks Q (Hd n D ((d,.slice none 0 0)::S) F hs) m r):GL O P ops (⟨some d,.slice t ox none (some oy) none,ty,pos,after,none⟩::rest) ks Q (Hd n D S F hs) m r:=
 GL.val hd (λa w ha=>by
  subst h0;simp only[execOp,ha.1.eval hx,ha.1.eval hy,Option.map_some,Option.map_none,Sem.run_bind];rw[SN ht hz (by omega)];rfl) k
theorem GL.xF{α:Type}{ops:Array Oper}{rest:List Oper}{S:List (Nat×Value)}{hs:List HP}{d:Nat}{ty t e:TypeId}{pos:String}{after:Array Edge}{sz:Nat}(c:Kb α)(hd:Nat.blt d n=true)(ht:P.underlying t=some (.slice e))(hz:∀w,(sizeOf e).run P w= .ok sz w)
  (k:∀b,GL O P ops rest ks Q (Hd n D ((d,.slice (some ⟨b,0,none⟩) 0 0)::S) F (Qk sz c F e (some ⟨b,0,none⟩) 0 []::hs)) m r):
  GL O P ops (⟨some d,.buildSlice t 0 #[],ty,pos,after,none⟩::rest) ks Q (Hd n D S F hs) m r:=
 GL.step rfl (.inr rfl) λhm a w ha=>by
  have h1:=ha.2.alloc (.cells #[] e);refine⟨.slice (some ⟨w.heap.size,0,none⟩) 0 0,w.alloc (.cells #[] e),?_,k w.heap.size hm _ _ ⟨ha.1.put hd _,h1.mono λm hm=>QX (λm' hm' =>⟨by simp,by omega,.inr ⟨_,[],rfl,hm',by simp,JV.nil⟩⟩) hm⟩⟩;have hr:∀g:Nat->Value,Array.map g (Array.range 0)=#[]:=λg=>by rw[show Array.range 0=#[] from rfl];simp
  simp[execOp,Instr.buildSlice,Sem.run_bind,Je ht,hz,Result.andThen,newRow,hr,Instr.fill]
theorem QC{a b:HP}{as bs:List HP}(h:a=b)(t:as=bs):a::as=b::bs:=by rw[h,t]
theorem GL.wM{ops:Array Oper}{l:List Oper}{X:Env->List Ur}{C:(Nat->Bool)->Env->List HP}{L:Nat->Bool}{env:Env}{F' F2:Fz}{i d:Nat}{v:Value}{Si:List (Nat×Value)}{x:β}{hs2:List HP}(env' :Env)(M:List Bool)(hMl:M.length=(X env).length)(hMc:BO l i 0 M M=true)(hMe:Gm M (X env)=Gm M (X env')){q:Fz->Prop}(hx:(X env')[i]? =some (v,q))(le:F'<=F2)(hf:∀G,F2<=G->q G)
  (hC:C (Km L i) env' =hs2):GL O P ops [] [] (Gu n D l X C L env F' i (some d) Si) (Hd n D ((d,v)::Si) F2 hs2) (some x) x:=
 GL.xR env' M hMl hMc hMe hx le hf (λ_ h=>hC▸h)
theorem GL.fE{ops:Array Oper}{l:List Oper}{X:Env->List Ur}{C:(Nat->Bool)->Env->List HP}{L:Nat->Bool}{env:Env}{F' F2:Fz}{i:Nat}{v:Value}{Si:List (Nat×Value)}{x:β}{hs2:List HP}(env' :Env)(M:List Bool)(hMl:M.length=(X env).length)(hMc:BO l i 0 M M=true)(hMe:Gm M (X env)=Gm M (X env')){q:Fz->Prop}(hx:(X env')[i]? =some (v,q))(le:F'<=F2)(hf:∀G,F2<=G->q G)
  (hC:C (Km L i) env' =hs2):GL O P ops [] [] (Gu n D l X C L env F' i none Si) (Hd n D Si F2 hs2) (some x) x:=
 λ_ _a _w ha=>⟨rfl,env',F2,le,⟨M,hMl,hMc,hMe⟩,_,hx,hf,⟨ha.1,hC▸ha.2⟩⟩
end
end
section
variable{O:Option Nat}
section
variable{β:Type}{P:Program}{ops:Array Oper}{rest:List Oper}{ks:List Kt}{Q:Exit->Act->World->Prop}{m:Option β}{r:β}
variable{n:Nat}{D:List Deferred}{S:List (Nat×Value)}{F F0:Fz}{hs:List HP}
theorem GL.wj{α:Type}{sz:Nat}{c:Kb α}{T:TypeId}{p:Option Addr}{cap:Nat}{l l' :List α}(i:Nat)(_hi:hs[i]? =some (Qk sz c F0 T p cap l))(e:l=l')(k:GL O P ops rest ks Q (Hd n D S F (hs.set i (Qk sz c F0 T p cap l'))) m r):GL O P ops rest ks Q (Hd n D S F hs) m r:=by
 subst e
 have:hs.set i (Qk sz c F0 T p cap l)=hs:=by
  apply List.ext_getElem?;intro j;rw[List.getElem?_set];split
  ·rename_i h;subst h;split
   ·exact _hi.symm
   ·rename_i h;rw[List.getElem?_eq_none (by omega)]
  ·rfl
 rw[this] at k;exact k
end
end
section
def FW(W:World):Fz:={mem:=λb=>W.heap[b]?,os:=W.os,tape:=W.tape,out:=W.output}
theorem SH.start(W:World):SH W (FW W) CI:=
 ⟨λ_=>none,trivial,⟨λ_=>.inl rfl,λ_ _ e=>by simp at e,λ_ _ e=>by simp at e,λ_ _ e=>e,rfl,rfl,rfl⟩⟩
end
section
open Go.ChangeShapes Go.WideShapes Go.ChangeAt Go.RowKit
section
variable{H:Type}{enc:TypeId×Value->H}{P:Program}{W:World}
theorem yc{b0:Nat}{t:TypeId}{k:IntKind}{v:Value}{d:DataW H}{ps:List MemPlace}(ht:P.underlying t=some (.int k))(hk:Value.okWide P W .any b0 t v)(hd:DataW.Trod enc P W 0 (λ_=>true) true t v d ps):
  ∃m,(Lit.int k m).wf=true/\v= .int k m:=by
 obtain⟨n,h,_,_,hw⟩:=open_int ht hk hd;exact⟨n,hw,h⟩
theorem kE{w' :World}{F' :Fz}{H' :HP}(le:FW W<=F')(h:SH w' F' H'):Below W.heap.size W w' :=by
 obtain⟨h1,h2⟩:=SH.size_le h (λb o e=>e) le;obtain⟨m,_,hm⟩:=h;exact⟨hm.os.trans le.os,hm.tape.trans le.tape,hm.out.trans le.out,h1,h2⟩
theorem CU{W' :World}(hl:laidOutB P=true)(hb:Below W.heap.size W W'):∀{ts:List TypeId} {vs:List Value} {ds:List (DataW H)} {ps:List MemPlace},(ts.all λt=>P.readableRec t&&decide (t < P.types.size))=true->
  DataW.TrodAll enc P W 0 (λ_=>true) true ts vs ds ps->(∀x∈ps,x.block < W.heap.size)->DataW.TrodAll enc P W' 0 (λb=>decide (b < W.heap.size)) true ts vs ds ps
 | [],vs,ds,ps,_,h,_=>by
  obtain⟨rfl,rfl,rfl⟩:=trodAll_nil h;rfl
 | t::ts,vs,ds,ps,ht,h,hlt=>by
  obtain⟨v,vs',d,ds',p,q,rfl,rfl,rfl,hd,hr⟩:=trodAll_cons h;simp only[List.all_cons,Bool.and_eq_true,decide_eq_true_eq] at ht
  exact⟨p,q,hb.trod hl ht.1.1 ht.1.2 hd (λx hx=>hlt x (by simp[hx])),CU hl hb (by simpa using ht.2) hr (λx hx=>hlt x (by simp[hx])),rfl⟩
theorem An:∀{ts:List TypeId} {vs:List Value} {ds:List (DataW H)} {ps:List MemPlace} {b:Nat} {sp:Nat->Bool} {hd:Bool},DataW.TrodAll enc P W b sp hd ts vs ds ps->ds.length=ts.length
 | [],vs,ds,ps,_,_,_,h=>by obtain⟨_,rfl,_⟩:=trodAll_nil h;rfl
 | t::ts,vs,ds,ps,_,_,_,h=>by
  obtain⟨v,vs',d,ds',p,q,rfl,rfl,rfl,_,hr⟩:=trodAll_cons h;simp[An hr]
end
end
section
theorem Qs{n:Int}(h1: -9223372036854775808<=n)(h2:n<=9223372036854775807):ZF n=n:=by
 have e:IntKind.i64.bits=64:=rfl;simp only[ZF,IntKind.wrap,e];simp[IntKind.signed];omega
theorem Kg{α:Type}(l:List α)(i:Nat):Zc l (i:Int)=l[i]? :=by
 simp[Zc]
theorem jK{α:Type}{l:List α}{i:Int}(h0:0<=i)(h:i < l.length):∃x,Zc l i=some x/\l[i.toNat]? =some x:=by
 obtain⟨k,rfl⟩:=Int.eq_ofNat_of_zero_le h0;rw[Kg];have hk:k < l.length:=by omega
 exact⟨l[k],List.getElem?_eq_getElem hk,by simp[hk]⟩
theorem HA{n i:Nat}(h:i < n):YP n (i:Int)=some i:=by
 unfold YP;rw[if_pos (by omega)];simp
theorem PH{x y:Int}(h:0 < y)(h1:0<=x)(h2:x<=9223372036854775807):Gv .i64 x y=some (x / y):=by
 unfold Gv;rw[if_neg (by omega),Int.tdiv_eq_ediv_of_nonneg h1];have a:=Int.ediv_nonneg h1 (Int.le_of_lt h);have b:=Int.ediv_le_self y h1;rw[show IntKind.i64.wrap (x / y)=ZF (x / y) from rfl,Qs (by omega) (by omega)]
def Tb{α τ β:Type}(step:τ->Nat->α->Option (Vb τ β))(fin:τ->β):List α->Nat->τ->Option β
 | [],_,t=>some (fin t)
 | x::l,i,t=>match step t i x with
  | none=>none
  | some (.next t')=>Tb step fin l (i+1) t'
  | some (.done b)=>some b
def Vb.xx{σ τ β:Type}(f:τ->σ):Vb τ β->Vb σ β
 | .next t=>.next (f t)
 | .done b=>.done b
theorem SR{α σ τ β:Type}{body:σ->Option (Vb σ β)}(mk:τ->Nat->σ)(step:τ->Nat->α->Option (Vb τ β))(fin:τ->β)(l:List α)
  (hb:∀t (i:Nat) x,l[i]? =some x->body (mk t i)=(step t i x).map (Vb.xx λt' =>mk t' (i+1)))
  (he:∀t,body (mk t l.length)=some (.done (fin t))):∀(k i:Nat) (t:τ),i+k=l.length->ZV body (mk t i)=Tb step fin (l.drop i) i t
 | 0,i,t,hi=>by
  have:i=l.length:=by omega
  subst this;rw[ZR,he,List.drop_length];rfl
 | k+1,i,t,hi=>by
  have hlt:i < l.length:=by omega
  have hx:l[i]? =some l[i]:=List.getElem?_eq_getElem hlt;rw[ZR,hb t i _ hx,List.drop_eq_getElem_cons hlt];simp only[Tb];cases hs:step t i l[i] with
  | none=>rfl
  | some c=>
   cases c with
   | done b=>rfl
   | next t' =>exact SR mk step fin l hb he k (i+1) t' (by omega)
theorem FN{α σ τ β:Type}{body:σ->Option (Vb σ β)}(mk:τ->Nat->σ)(step:τ->Nat->α->Option (Vb τ β))(fin:τ->β)(l:List α)
  (hb:∀t (i:Nat) x,l[i]? =some x->body (mk t i)=(step t i x).map (Vb.xx λt' =>mk t' (i+1)))
  (he:∀t,body (mk t l.length)=some (.done (fin t))) (t:τ):ZV body (mk t 0)=Tb step fin l 0 t:=
 SR mk step fin l hb he l.length 0 t (by omega)
theorem Cb{α σ τ β:Type}{body:σ->Option (Vb σ β)}(mk:τ->Nat->σ)(step:τ->Nat->α->Option (Vb τ β))(fin:τ->β)(l:List α)(J:Nat->τ->Prop)
  (hb:∀t (i:Nat) x,l[i]? =some x->J i t->body (mk t i)=(step t i x).map (Vb.xx λt' =>mk t' (i+1)))
  (hJ:∀t (i:Nat) x t',l[i]? =some x->J i t->step t i x=some (.next t')->J (i+1) t')
  (he:∀t,J l.length t->body (mk t l.length)=some (.done (fin t))):∀(k i:Nat) (t:τ),i+k=l.length->J i t->ZV body (mk t i)=Tb step fin (l.drop i) i t
 | 0,i,t,hi,hj=>by
  have:i=l.length:=by omega
  subst this;rw[ZR,he t hj,List.drop_length];rfl
 | k+1,i,t,hi,hj=>by
  have hlt:i < l.length:=by omega
  have hx:l[i]? =some l[i]:=List.getElem?_eq_getElem hlt;rw[ZR,hb t i _ hx hj,List.drop_eq_getElem_cons hlt];simp only[Tb];cases hs:step t i l[i] with
  | none=>rfl
  | some c=>
   cases c with
   | done b=>rfl
   | next t' =>exact Cb mk step fin l J hb hJ he k (i+1) t' (by omega) (hJ t i _ t' hx hj hs)
def WC{α:Type}(err:List α->α->Int)(l:List α):Prop:=∀pre x post,l=pre++x::post->err pre x=0
def Bs{α:Type}(err:List α->α->Int)(l pre:List α)(x:α):Prop:=∃post,l=pre++x::post/\WC err pre/\err pre x≠0
theorem WC.nil{α:Type}{err:List α->α->Int}:WC err []:=λpre x post h=>by simp at h
theorem WC.snoc{α:Type}{err:List α->α->Int}{l:List α}{x:α}(h:WC err l)(hx:err l x=0):WC err (l++[x]):=by
 intro pre y post e;rcases List.eq_nil_or_concat post with rfl | ⟨post',z,rfl⟩
 ·have:=List.append_inj' e rfl;obtain⟨rfl,e2⟩:=this;simp only[List.cons.injEq,and_true] at e2
  subst e2;exact hx
 ·rw[List.concat_eq_append,<-List.cons_append,<-List.append_assoc] at e
  have:=List.append_inj' e rfl;exact h pre y post' this.1
theorem WC.init{α:Type}{err:List α->α->Int}{l k:List α}(h:WC err (l++k)):WC err l:=λpre x post e=>h pre x (post++k) (by rw[e];simp)
theorem Bs.dr{α:Type}{err:List α->α->Int}{l pre:List α}{x:α}(h:Bs err l pre x):¬WC err l:=λk=>by
 obtain⟨post,e,_,hx⟩:=h;exact hx (k pre x post e)
theorem Hj{α σ τ β:Type}{body:σ->Option (Vb σ β)}(mk:Nat->τ->σ)(err:List α->α->Int)(bad:Nat->Int->β)(fin:τ->β)(R:List α->τ->Prop)(l:List α)
  (h:∀pre x post t,l=pre++x::post->WC err pre->R pre t->(err pre x≠0/\body (mk pre.length t)=some (.done (bad pre.length (err pre x))))∨(err pre x=0/\∃t',body (mk pre.length t)=some (.next (mk (pre.length+1) t'))/\R (pre++[x]) t'))
  (hend:∀t,WC err l->R l t->body (mk l.length t)=some (.done (fin t))):
  ∀(post pre:List α) (t:τ),l=pre++post->WC err pre->R pre t->
  (∃p x,Bs err l p x/\ZV body (mk pre.length t)=some (bad p.length (err p x)))∨(WC err l/\∃t',R l t'/\ZV body (mk pre.length t)=some (fin t'))
 | [],pre,t,hl,ho,hr=>by
  rw[List.append_nil] at hl;subst hl
  exact .inr ⟨ho,t,hr,by rw[ZR,hend t ho hr]⟩
 | x::post,pre,t,hl,ho,hr=>by
  rcases h pre x post t hl ho hr with⟨he,hs⟩ | ⟨he,t',hs,hr'⟩
  ·exact .inl ⟨pre,x,⟨post,hl,ho,he⟩,by rw[ZR,hs]⟩
  ·have:=Hj mk err bad fin R l h hend post (pre++[x]) t' (by rw[hl];simp) (ho.snoc he) hr';rw[ZR,hs];simpa using this
theorem Hv{α σ τ β:Type}{body:σ->Option (Vb σ β)}(mk:Nat->τ->σ)(fin:τ->β)(R:List α->τ->Prop)(l:List α)
  (h:∀pre x post t,l=pre++x::post->R pre t->∃t',body (mk pre.length t)=some (.next (mk (pre.length+1) t'))/\R (pre++[x]) t')
  (hend:∀t,R l t->body (mk l.length t)=some (.done (fin t))):
  ∀(post pre:List α) (t:τ),l=pre++post->R pre t->∃t',R l t'/\ZV body (mk pre.length t)=some (fin t')
 | [],pre,t,hl,hr=>by
  rw[List.append_nil] at hl;subst hl
  exact⟨t,hr,by rw[ZR,hend t hr]⟩
 | x::post,pre,t,hl,hr=>by
  obtain⟨t',hs,hr'⟩:=h pre x post t hl hr;have:=Hv mk fin R l h hend post (pre++[x]) t' (by rw[hl];simp) hr';rw[ZR,hs];simpa using this
theorem Xt{σ τ β:Type}{body:σ->Option (Vb σ β)}(mk:Nat->τ->σ)(fin:τ->β)(R:Nat->τ->Prop)(n:Nat)
  (h:∀i t,i < n->R i t->∃t',body (mk i t)=some (.next (mk (i+1) t'))/\R (i+1) t')
  (hend:∀t,R n t->body (mk n t)=some (.done (fin t))):∀(k i:Nat) (t:τ),i+k=n->R i t->∃t',R n t'/\ZV body (mk i t)=some (fin t')
 | 0,i,t,e,hr=>by
  have:i=n:=by omega
  subst this;exact⟨t,hr,by rw[ZR,hend t hr]⟩
 | k+1,i,t,e,hr=>by
  obtain⟨t',hs,hr'⟩:=h i t (by omega) hr;rw[ZR,hs];exact Xt mk fin R n h hend k (i+1) t' (by omega) hr'
theorem ZN{α β:Type}{e:Option α}{f:α->Option β}{a:α}{r:Option β}(h:e=some a)(k:f a=r):e.bind f=r:=by
 rw[h];exact k
theorem C8{α:Type}{l k:List α}(h:l.length+k.length<=4294967296):VT l k=some (l++k):=by
 unfold VT;rw[if_pos h]
theorem XN{α:Type}{l pre post:List α}{x:α}(h:l=pre++x::post):l[pre.length]? =some x:=by rw[h];simp
theorem Fx{α:Type}{l pre post:List α}{x:α}(h:l=pre++x::post):pre.length < l.length:=by rw[h];simp
theorem D4{α:Type}{p:List α->Prop}(h0:p [])(hs:∀l x,p l->p (l++[x]))(l:List α):p l:=by
 have:∀r:List α,p r.reverse:=by
  intro r
  induction r with
  | nil=>exact h0
  | cons x r ih=>rw[List.reverse_cons];exact hs _ _ ih
 have:=this l.reverse
 rwa[List.reverse_reverse] at this
theorem La{σ β:Type}{body:σ->Option (Vb σ β)}(I:σ->Prop)(μ:σ->Nat)(Q:β->Prop)
  (h:∀s,I s->(∃s',body s=some (.next s')/\I s'/\μ s' < μ s)∨∃b,body s=some (.done b)/\Q b):∀(n:Nat) (s:σ),μ s<=n->I s->∃b,ZV body s=some b/\Q b
 | 0,s,hn,hi=>by
  rcases h s hi with⟨s',_,_,hlt⟩ | ⟨b,hb,hq⟩
  ·omega
  ·exact⟨b,by rw[ZR,hb],hq⟩
 | n+1,s,hn,hi=>by
  rcases h s hi with⟨s',hb,hi',hlt⟩ | ⟨b,hb,hq⟩
  ·rw[ZR,hb];exact La I μ Q h n s' (by omega) hi'
  ·exact⟨b,by rw[ZR,hb],hq⟩
end
section
variable{O:Option Nat}
theorem IV{O:Option Nat}{n:Nat}{P:Program}{l:Nat}{f:FuncId}{tmps:Array Value}{assign body:Code}{w:World}{R:Ending->World->Prop}:RoundIn (TI O) n P l f tmps assign body w R↔RoundIn Fence.wide n P l f tmps assign body w R:=by
 cases O with
 | none=>exact Iff.rfl
 | some l=>exact Iff.rfl
def Vk{α σ:Type}(P:Program)(l:Nat)(F:Fz)(arg:α->Fz->List Value->Prop)(Y:σ->Fz->HP)(y:α->σ->Option (σ×Bool)):Prop:=
 (∀s F0 F1 m,F<=F0->F0<=F1->Y s F0 m->Y s F1 m)/\
 ∀F1,F<=F1->∀x vs s r,arg x F1 vs->y x s=some r->∀w R,SH w F1 (star (Y s F1) R)->
  ∃f tmps assign body,(Instr.yield l vs.toArray).run P w= .ok (.round l f tmps assign body) w/\
   RoundIn Fence.wide 0 P l f tmps assign body w (λe w' =>∃F2,F1<=F2/\e= .returned (.bool r.2)/\SH w' F2 (star (Y r.1 F2) R))
def kT{α:Type}(P:Program)(F:Fz)(f:FuncId)(caps:List Value)(arg:α->Fz->List Value->Prop)(mk:∀σ:Type,(α->σ->Option (σ×Bool))->σ->Option σ):Prop:=
 (∀args w,(callFunc f args).run P w= .ok (.enter f args) w)/\
 ∀(σ:Type) (l:Nat) (Y:σ->Fz->HP) (y:α->σ->Option (σ×Bool)) (F1:Fz),F<=F1->Vk P l F1 arg Y y->∀s,CT P f (.func (.yield l) #[] #[]::caps).toArray F1 (Y s F1) (mk σ y s) (λ_ _ _=>True) (λs' F' _=>Y s' F')
section
variable{β:Type}{P:Program}{ops:Array Oper}{rest:List Oper}{ks:List Kt}{Q:Exit->Act->World->Prop}{m:Option β}{r:β}
variable{n:Nat}{D:List Deferred}{S:List (Nat×Value)}{F:Fz}{hs:List HP}
theorem GL.xp{α σ:Type}{l d i:Nat}{ty:TypeId}{pos:String}{after:Array Edge}{vs:List Value}{of:Operand}{os:List Operand}{T:Array TypeId}{Fb F0:Fz}{arg:α->Fz->List Value->Prop}{Y:σ->Fz->HP}{y:α->σ->Option (σ×Bool)}{x:α}{s:σ}{g:σ×Bool->Option β}
  (hd:Nat.blt d n=true) (hy:Vk P l Fb arg Y y) (hf:QK S of=some (.func (.yield l) #[] #[])) (ha:UC S os=some vs) (hx:arg x F vs) (hi:hs[i]? =some (Y s F0)) (le0:Fb<=F0) (le:F0<=F)
  (k:∀p F',y x s=some p->F<=F'->GL O P ops rest ks Q (Hd n D ((d,.bool p.2)::S) F' (hs.set i (Y p.1 F'))) (g p) r):
  GL O P ops (⟨some d,.call ⟨.value of,os.toArray,T⟩,ty,pos,after,none⟩::rest) ks Q (Hd n D S F hs) ((y x s).bind g) r:=by
 intro hm a w hA;cases he:y x s with
 | none=>rw[he] at hm;cases hm
 | some p=>
  rw[he] at hm
  obtain⟨f,tmps,assign,body,hr,hround⟩:=hy.2 F (Fz.le_trans le0 le) x vs s p hx he w _ ((hA.2.pull hi).mono λ_ hm=>QX (λ_ hm=>hy.1 s F0 F _ le0 le hm) hm);unfold Xd;rw[if_pos (by simp[Region.wanted])];refine⟨.inr rfl,?_⟩;have e:=Xu hA.1 ha
  have hrun:(execOp a.eval ⟨some d,.call ⟨.value of,os.toArray,T⟩,ty,pos,after,none⟩).run P w= .ok (.round l f tmps assign body) w:=by
   simp[execOp,resolve,Deferred.ofValue,hA.1.eval hf,e,invoke,hr]
  rw[hrun];refine⟨λe=>(by rw[CD] at e;cases e),IV.2 (hround.mono ?_)⟩;rintro _ w' ⟨F2,le2,rfl,hw⟩;exact k p F2 he le2 hm _ _ ⟨hA.1.put hd _,SH.push hi hw⟩
theorem GE.bH{α σ:Type}{l:Nat}{Fb F0:Fz}{arg:α->Fz->List Value->Prop}{Y:σ->Fz->HP}{y:α->σ->Option (σ×Bool)}{s:σ}(i:Nat)(hy:Vk P l Fb arg Y y)(hi:hs[i]? =some (Y s F0))(le0:Fb<=F0)(le:F0<=F)
  (k:GE O P ks Q (Hd n D S F (hs.set i (Y s F))) m r):GE O P ks Q (Hd n D S F hs) m r:=
 GE.xb (λ_ _ h=>⟨h.1,SH.push hi ((h.2.pull hi).mono λ_ hm=>QX (λ_ hm=>hy.1 s F0 F _ le0 le hm) hm)⟩) k
theorem GC.bH{α σ:Type}{l:Nat}{c:Code}{Fb F0:Fz}{arg:α->Fz->List Value->Prop}{Y:σ->Fz->HP}{y:α->σ->Option (σ×Bool)}{s:σ}(i:Nat)(hy:Vk P l Fb arg Y y)(hi:hs[i]? =some (Y s F0))(le0:Fb<=F0)(le:F0<=F)
  (k:GC O P c ks Q (Hd n D S F (hs.set i (Y s F))) m r):GC O P c ks Q (Hd n D S F hs) m r:=
 GC.xb (λ_ _ h=>⟨h.1,SH.push hi ((h.2.pull hi).mono λ_ hm=>QX (λ_ hm=>hy.1 s F0 F _ le0 le hm) hm)⟩) k
end
def Un(L:Loop):Obj:=.loop {L with state:=.ready,pending:=none}
def UO(L:Loop):Obj:=.loop {L with state:=.busy,pending:=none}
def Lc(L:Loop):Obj:=.loop {L with state:=.done,pending:=some .ret}
def Az(L:Loop)(c:Option Code):Obj:=.loop {L with state:=.exhausted,pending:=c}
def IB{α τ γ:Type}(body:α->τ->Option (Vb τ γ)):α->Vb τ γ->Option (Vb τ γ×Bool)
 | x,.next s=>(body x s).map λc=>(c,match c with | .next _=>true | .done _=>false)
 | _,.done _=>none
def yS{τ γ:Type}(Fb:Fz)(l:Nat)(L:Loop)(I:τ->Fz->List HP->Prop)(J:γ->Fz->List HP->Prop):Vb τ γ->Fz->HP
 | .next s,F=>λm=>∃F0 hs,Fb<=F0/\F0<=F/\I s F0 hs/\star (pt l (Un L)) (Qj hs) m
 | .done b,F=>λm=>∃F0 hs,Fb<=F0/\F0<=F/\J b F0 hs/\star (pt l (Lc L)) (Qj hs) m
def RP{τ γ:Type}(l:Nat)(L:Loop)(I:τ->Fz->List HP->Prop)(J:γ->Fz->List HP->Prop)(F1:Fz)(R:HP)(ctl:Vb τ γ):Exit->Act->World->Prop:=λe _ w=>
 match ctl with
 | .next s=>e= .normal/\∃F2 hs,F1<=F2/\I s F2 hs/\SH w F2 (Qj (pt l (UO L)::R::hs))
 | .done b=>e= .ret/\∃F2 hs,F1<=F2/\J b F2 hs/\SH w F2 (Qj (pt l (UO L)::R::hs))
def BP(P:Program)(l:Nat)(body:Code)(Q:Exit->Act->World->Prop):Exit->Act->World->Prop:=λe a w=>
 e= .normal/\∃w₂,(Instr.beginRound l).run P w= .ok () w₂/\body.wpIn (TI (some l)) 0 P Q a w₂
theorem IU{P:Program}{w:World}{l:Nat}{L:Loop}(h:w.heap[l]? =some (Un L)):(Instr.beginRound l).run P w= .ok () (put w l (UO L)):=
 run_beginRound (r:={L with state:=.ready,pending:=none}) h rfl
theorem zA{P:Program}{w:World}{l:Nat}{L:Loop}(h:w.heap[l]? =some (UO L)):(Instr.endRound l none).run P w= .ok (.bool true) (put w l (Un L)):=
 run_endRound (r:={L with state:=.busy,pending:=none}) none h
theorem qz{P:Program}{w:World}{l:Nat}{L:Loop}(h:w.heap[l]? =some (UO L)):(Instr.endRound l (some .ret)).run P w= .ok (.bool false) (put w l (Lc L)):=
 run_endRound (r:={L with state:=.busy,pending:=none}) (some .ret) h
theorem Bv{P:Program}{w:World}{l:Nat}{L:Loop}(h:w.heap[l]? =some (Un L)):(Instr.endLoop l).run P w= .ok none (put w l (Az L none)):=
 run_endLoop (r:={L with state:=.ready,pending:=none}) h (by simp)
theorem R9{P:Program}{w:World}{l:Nat}{L:Loop}(h:w.heap[l]? =some (Lc L)):(Instr.endLoop l).run P w= .ok (some .ret) (put w l (Az L (some .ret))):=
 run_endLoop (r:={L with state:=.done,pending:=some .ret}) h (by simp)
section
variable{β:Type}{P:Program}{m:Option β}{r:β}{n:Nat}{D:List Deferred}{S:List (Nat×Value)}{F F1:Fz}{hs:List HP}{R:HP}
variable{α τ γ:Type}{l:Nat}{L:Loop}{I:τ->Fz->List HP->Prop}{J:γ->Fz->List HP->Prop}{body assign:Code}
theorem GE.begin{Q:Exit->Act->World->Prop}(i:Nat)(hi:hs[i]? =some (pt l (Un L)))(k:GC (some l) P body [] Q (Hd n D S F (hs.set i (pt l (UO L)))) m r):GE (some l) P [] (BP P l body Q) (Hd n D S F hs) m r:=
 λhm a _ ha=>⟨rfl,_,IU (SH.wD hi ha.2),k hm a _ ⟨ha.1,SH.putAt hi ha.2 _⟩⟩
theorem RP.norm{s:τ}{ctl:Vb τ γ}{hs' :List HP}(le:F1<=F)(h:I s F hs')(e:hs=pt l (UO L)::R::hs'):some (Vb.next s)=some ctl->∀a w,Hd n D S F hs a w->RP l L I J F1 R ctl .normal a w:=λe' a w ha=>by
 simp only[Option.some.injEq] at e';subst e';subst e;exact⟨rfl,F,hs',le,h,ha.2⟩
theorem RP.ret{b:γ}{ctl:Vb τ γ}{hs' :List HP}(le:F1<=F)(h:J b F hs')(e:hs=pt l (UO L)::R::hs'):some (Vb.done b)=some ctl->∀a w,Hd n D S F hs a w->RP l L I J F1 R ctl .ret a w:=λe' a w ha=>by
 simp only[Option.some.injEq] at e';subst e';subst e;exact⟨rfl,F,hs',le,h,ha.2⟩
theorem RP.xn{s s' :τ}{hs' :List HP}(le:F1<=F)(h:I s F hs')(e:hs=pt l (UO L)::R::hs'):some s=some s'->∀a w,Hd n D S F hs a w->RP l L I J F1 R (.next s') .normal a w:=λe' a w ha=>by
 simp only[Option.some.injEq] at e';subst e';subst e;exact⟨rfl,F,hs',le,h,ha.2⟩
theorem SH.three{w:World}{F:Fz}{p q:HP}{hs:List HP}(h:SH w F (Qj (p::q::hs))):SH w F (star (star p (Qj hs)) q):=
 h.mono λm hm=>by
  obtain⟨m1,m2,d,s1,s2,hp,hq⟩:=hm;obtain⟨m3,m4,d',t1,t2,hq',hr⟩:=hq
  classical
  refine⟨λk=>if m1 k=none then m4 k else m1 k,m3,?_,?_,t1.trans s2,⟨m1,m4,d.sub (Mem.sub.refl _) t2,?_,?_,hp,hr⟩,hq'⟩
  ·intro k;by_cases e:m1 k=none
   ·simp only[e,if_true];exact(d' k).symm
   ·simp only[e,if_false];rcases(d.sub (Mem.sub.refl m1) t1) k with h | h
    ·exact absurd h e
    ·exact .inr h
  ·intro k o e;by_cases e' :m1 k=none
   ·simp only[e',if_true] at e;exact s2 k o (t2 k o e)
   ·simp only[e',if_false] at e;exact s1 k o e
  ·intro k o e;simp[e]
  ·intro k o e;have:m1 k=none:=(d.sub (Mem.sub.refl m1) t2).xo e;simp[this,e]
theorem SH.fT{w:World}{F:Fz}{p q:HP}{hs:List HP}(h:SH w F (star (star p (Qj hs)) q)):SH w F (Qj (p::q::hs)):=
 h.mono λm hm=>by
  obtain⟨m1,m2,d,s1,s2,⟨m3,m4,d',t1,t2,hp,hr⟩,hq⟩:=hm
  classical
  refine⟨m3,λk=>if m2 k=none then m4 k else m2 k,?_,t1.trans s1,?_,hp,m2,m4,?_,?_,?_,hq,hr⟩
  ·intro k;by_cases e:m2 k=none
   ·simp only[e,if_true];exact d' k
   ·simp only[e,if_false];rcases(d.sub t1 (Mem.sub.refl m2)) k with h | h
    ·exact .inl h
    ·exact absurd h e
  ·intro k o e;by_cases e' :m2 k=none
   ·simp only[e',if_true] at e;exact s1 k o (t2 k o e)
   ·simp only[e',if_false] at e;exact s2 k o e
  ·exact(d.sub t2 (Mem.sub.refl m2)).symm
  ·intro k o e;simp[e]
  ·intro k o e;have:m2 k=none:=(d.sub t2 (Mem.sub.refl m2)).wL e;simp[this,e]
theorem SH.w7{w:World}{F:Fz}{s:τ}{Fb:Fz}(h:SH w F (star (yS Fb l L I J (.next s) F) R)):∃F0 hs,Fb<=F0/\F0<=F/\I s F0 hs/\SH w F (Qj (pt l (Un L)::R::hs)):=by
 obtain⟨m,⟨m1,m2,d,s1,s2,⟨F0,hs,h0,h1,hI,hp⟩,hq⟩,k⟩:=h;exact⟨F0,hs,h0,h1,hI,SH.fT ⟨m,⟨m1,m2,d,s1,s2,hp,hq⟩,k⟩⟩
theorem SH.gK{w:World}{F:Fz}{b:γ}{Fb:Fz}(h:SH w F (star (yS Fb l L I J (.done b) F) R)):∃F0 hs,Fb<=F0/\F0<=F/\J b F0 hs/\SH w F (Qj (pt l (Lc L)::R::hs)):=by
 obtain⟨m,⟨m1,m2,d,s1,s2,⟨F0,hs,h0,h1,hI,hp⟩,hq⟩,k⟩:=h;exact⟨F0,hs,h0,h1,hI,SH.fT ⟨m,⟨m1,m2,d,s1,s2,hp,hq⟩,k⟩⟩
theorem TS{arg:α->Fz->List Value->Prop}{bm:α->τ->Option (Vb τ γ)}{F:Fz}{S' :List Value->List (Nat×Value)}(hP:∀x F' vs,arg x F' vs->vs.length=L.params.size)(ha:L.assign=assign)(hb:L.body=body)
  (hsl:∀vs:List Value,vs.length=L.params.size->Sl n [] (S' vs) {tmps:=(L.params.zip vs.toArray).foldl (λtmps (t,a)=>tmps.setIfInBounds t a) L.tmps,defers:=[]})
  (round:∀F0 F1 x vs s ctl R hs,F<=F0->F0<=F1->arg x F1 vs->I s F0 hs->GC (some l) P assign [] (BP P l body (RP l L I J F1 R ctl)) (Hd n [] (S' vs) F1 (pt l (Un L)::R::hs)) (bm x s) ctl):
  Vk P l F arg (yS F l L I J) (IB bm):=by
 refine⟨λc F0 F1 m _ h1 hm=> ?_,λF1 h1 x vs c r hx hy w R hw=> ?_⟩
 ·cases c with
  | next s=>obtain⟨G,hs,g0,g1,k⟩:=hm;exact⟨G,hs,g0,Fz.le_trans g1 h1,k⟩
  | done b=>obtain⟨G,hs,g0,g1,k⟩:=hm;exact⟨G,hs,g0,Fz.le_trans g1 h1,k⟩
 cases c with
 | done b=>simp[IB] at hy
 | next s=>
  simp only[IB] at hy
  cases hc:bm x s with
  | none=>rw[hc] at hy;cases hy
  | some ctl=>
   rw[hc] at hy
   simp only[Option.map_some,Option.some.injEq] at hy
   subst hy;obtain⟨F0,hs,h0,h01,hI,hw3⟩:=SH.w7 hw;have hl:w.heap[l]? =some (Un L):=SH.wD (k:=0) rfl hw3;have hn:=hP x F1 vs hx;refine⟨L.fn,_,L.assign,L.body,run_yield (r:={L with state:=.ready,pending:=none}) hl (by simpa using hn),?_⟩;refine roundIn_of_wpIn trivial ?_;rw[ha,hb];have hg:=round F0 F1 x vs s ctl R hs h0 h01 hx hI hc _ w ⟨hsl vs hn,hw3⟩;refine wpIn_mono hg λe a1 w1 hq=> ?_;obtain⟨rfl,w2,hbr,hbody⟩:=hq;refine⟨w2,hbr,wpIn_mono hbody λe a2 w3 hq=> ?_⟩;cases ctl with
   | next s' =>
    obtain⟨rfl,F2,hs2,le,hI2,h⟩:=hq;refine⟨_,_,zA (SH.wD (k:=0) rfl h),F2,le,rfl,(SH.three (SH.putAt (k:=0) rfl h (Un L))).mono λm hm=>QX (λm hm=> ?_) hm⟩;exact⟨F2,hs2,Fz.le_trans h1 le,Fz.le_refl _,hI2,hm⟩
   | done b=>
    obtain⟨rfl,F2,hs2,le,hI2,h⟩:=hq;refine⟨_,_,qz (SH.wD (k:=0) rfl h),F2,le,rfl,(SH.three (SH.putAt (k:=0) rfl h (Lc L))).mono λm hm=>QX (λm hm=> ?_) hm⟩;exact⟨F2,hs2,Fz.le_trans h1 le,Fz.le_refl _,hI2,hm⟩
end
abbrev U7(q:Nat):Deferred:={target:=.collected q,args:=#[]}
theorem T1{n:Nat}:∀{ps:List Nat} {vs:List Value} {t:Array Value} {S:List (Nat×Value)},(ps.all λp=>Nat.blt p n)=true->Sl n [] S {tmps:=t,defers:=[]}->
  Sl n [] ((ps.zip vs).reverse++S) {tmps:=(ps.zip vs).foldl (λtmps (t,a)=>tmps.setIfInBounds t a) t,defers:=[]}
 | [],_,_,_,_,h=>h
 | _::_,[],_,_,_,h=>h
 | p::ps,v::vs,t,S,hp,h=>by
  simp only[List.all_cons,Bool.and_eq_true] at hp
  have h1:=Sl.put h hp.1 v;have h2:=T1 (ps:=ps) (vs:=vs) (S:=(p,v)::S) (t:=t.setIfInBounds p v) hp.2 h1;simpa using h2
theorem Bu{n:Nat}{ps:List Nat}{vs:List Value}{t:Array Value}{S:List (Nat×Value)}(hp:(ps.all λp=>Nat.blt p n)=true)(h:Sl n [] S {tmps:=t,defers:=[]}):
  Sl n [] ((ps.zip vs).reverse++S) {tmps:=(ps.toArray.zip vs.toArray).foldl (λtmps (t,a)=>tmps.setIfInBounds t a) t,defers:=[]}:=by
 rw[List.zip_toArray,List.foldl_toArray];exact T1 hp h
section
variable{β:Type}{P:Program}{ks:List Kt}{Q:Exit->Act->World->Prop}{r:β}{n:Nat}{D:List Deferred}{S:List (Nat×Value)}{F:Fz}{hs:List HP}
variable{α τ γ:Type}{g:Operand}{ps:List Tmp}{assign body:Code}{f:FuncId}{caps:List Value}{mk:∀σ:Type,(α->σ->Option (σ×Bool))->σ->Option σ}{arg:α->Fz->List Value->Prop}{bm:α->τ->Option (Vb τ γ)}{s0:τ}{k:Vb τ γ->Option β}
theorem GC.rangeFunc(I:τ->Fz->List HP->Prop)(J:γ->Fz->List HP->Prop)(hg:QK S g=some (.func (.func f) #[] caps.toArray))(hit:kT P F f caps arg mk)(hps:(ps.all λp=>Nat.blt p n)=true)(harg:∀x F' vs,arg x F' vs->vs.length=ps.length)
  (hI:I s0 F hs)
  (round:∀l L F0 F1 x vs s ctl R hs',F<=F0->F0<=F1->arg x F1 vs->I s F0 hs'->GC (some l) P assign [] (BP P l body (RP l L I J F1 R ctl)) (Hd n [] ((ps.zip vs).reverse++S) F1 (pt l (Un L)::R::hs')) (bm x s) ctl)
  (next:∀q F0 F' s hs',F<=F0->F0<=F'->mk _ (IB bm) (.next s0)=some (.next s)->I s F0 hs'->GE none P ks Q (Hd n (U7 q::D) S F' (pt q (.deferred (some []))::hs')) (k (.next s)) r)
  (done:∀q F0 F' b hs',F<=F0->F0<=F'->mk _ (IB bm) (.next s0)=some (.done b)->J b F0 hs'->GC none P .ret ks Q (Hd n (U7 q::D) S F' (pt q (.deferred (some []))::hs')) (k (.done b)) r):
  GC none P (.rangeFunc g ps.toArray assign body) ks Q (Hd n D S F hs) ((mk (Vb τ γ) (IB bm) (.next s0)).bind k) r:=by
 intro hm a w ha;cases hl:mk (Vb τ γ) (IB bm) (.next s0) with
 | none=>rw[hl] at hm;cases hm
 | some c=>
  rw[hl] at hm
  refine wpIn_rangeFunc λfn _=> ?_
  let L:Loop:={state:=.ready,pending:=none,fn,tmps:=a.tmps,params:=ps.toArray,assign,body,defers:=w.heap.size}
  have hw1:SH ((w.alloc (.deferred (some []))).alloc (.loop L)) F (star (yS F (w.heap.size+1) L I J (.next s0) F) (Qj [pt w.heap.size (.deferred (some []))])):=by
   have h1:=(ha.2.alloc (.deferred (some []))).alloc (.loop L);rw[World.size_alloc] at h1
   have h2:SH ((w.alloc (.deferred (some []))).alloc (.loop L)) F (Qj (pt (w.heap.size+1) (Un L)::Qj [pt w.heap.size (.deferred (some []))]::hs)):=by
    refine h1.mono λm hm=>QR (λm hm=>QX (λm hm=> ?_) hm) hm;exact⟨m,λ_=>none,λ_=>.inr rfl,Mem.sub.refl _,λ_ _ e=>by simp at e,hm,trivial⟩
   exact(SH.three h2).mono λm hm=>QX (λm hm=>⟨F,hs,Fz.le_refl _,Fz.le_refl _,hI,hm⟩) hm
  have hY:Vk P (w.heap.size+1) F arg (yS F (w.heap.size+1) L I J) (IB bm):=by
   refine TS (S' :=λvs=>(ps.zip vs).reverse++S) (assign:=assign) (body:=body) (λx F' vs hx=>by rw[harg x F' vs hx];simp[L]) rfl rfl (λvs _=>Bu hps ⟨ha.1.1,rfl,ha.1.2.2⟩) ?_;exact λF0 F1 x vs s ctl R hs' h0 h1 hx hI=>round _ L F0 F1 x vs s ctl R hs' h0 h1 hx hI
  have hc:=hit.2 _ _ _ _ F (Fz.le_refl F) hY (.next s0) c hl _ _ hw1;refine⟨w.heap.size+1,[U7 w.heap.size],(w.alloc (.deferred (some []))).alloc (.loop L),⟨.fn (.func f) caps.toArray,#[.func (.yield (w.heap.size+1)) #[] #[]]⟩,(w.alloc (.deferred (some []))).alloc (.loop L),f,(.func (.yield (w.heap.size+1)) #[] #[]::caps).toArray,(w.alloc (.deferred (some []))).alloc (.loop L),run_enterLoop_outer fn a.tmps ps.toArray assign body,?_,λ_ _=>trivial,?_,λe=>(by cases e),?_⟩
  ·have hc0:a.eval (.const (.func (.yield (w.heap.size+1)) #[] #[]))= .func (.yield (w.heap.size+1)) #[] #[]:=rfl;simp[resolve,Deferred.ofValue,ha.1.eval hg,hc0]
  ·simp[invoke,hit.1]
  ·refine callsIn_wide.2 (hc.mono ?_);rintro _ w' ⟨F',v,le,rfl, -,hw'⟩;cases c with
   | next s=>
    obtain⟨F0,hs',h0,h1,hI',h3⟩:=SH.w7 hw';refine⟨none,_,Bv (SH.wD (k:=0) rfl h3),?_⟩;have h4:SH _ F' (Qj (pt w.heap.size (.deferred (some []))::hs')):=(SH.wW 0 (SH.putAt (k:=0) rfl h3 (Az L none))).mono λm hm=>QX (λm hm=>by obtain⟨m1,_,_,s1,_,hp,_⟩:=hm;exact s1 _ _ hp) hm;exact next w.heap.size F0 F' s hs' h0 h1 hl hI' hm _ _ ⟨⟨ha.1.1,by simp[ha.1.2.1],ha.1.2.2⟩,h4⟩
   | done b=>
    obtain⟨F0,hs',h0,h1,hI',h3⟩:=SH.gK hw';refine⟨some .ret,_,R9 (SH.wD (k:=0) rfl h3),?_⟩;have h4:SH _ F' (Qj (pt w.heap.size (.deferred (some []))::hs')):=(SH.wW 0 (SH.putAt (k:=0) rfl h3 (Az L (some .ret)))).mono λm hm=>QX (λm hm=>by obtain⟨m1,_,_,s1,_,hp,_⟩:=hm;exact s1 _ _ hp) hm;exact done w.heap.size F0 F' b hs' h0 h1 hl hI' hm _ _ ⟨⟨ha.1.1,by simp[ha.1.2.1],ha.1.2.2⟩,h4⟩
def V0{α σ:Type}(y:α->σ->Option (σ×Bool)):List α->σ->Option σ
 | [],s=>some s
 | x::xs,s=>(y x s).bind λp=>if p.2 then V0 y xs p.1 else some p.1
def Sy{α:Type}(P:Program)(F:Fz)(f:FuncId)(caps:List Value)(arg:α->Fz->List Value->Prop)(l:List α):Prop:=kT P F f caps arg (λ_ y s=>V0 y l s)
def YI{α τ:Type}(b:α->τ->Option τ):List α->τ->Option τ
 | [],s=>some s
 | x::xs,s=>(b x s).bind (YI b xs)
def Cm{α τ γ:Type}(b:α->τ->Option (Vb τ γ)):List α->τ->Option (Vb τ γ)
 | [],s=>some (.next s)
 | x::xs,s=>(b x s).bind λc=>match c with
  | .next s' =>Cm b xs s'
  | .done r=>some (.done r)
theorem GI{α τ γ:Type}(b:α->τ->Option (Vb τ γ)):∀(l:List α) (s:τ),V0 (IB b) l (.next s)=Cm b l s
 | [],s=>rfl
 | x::xs,s=>by
  simp only[V0,IB,Cm];cases h:b x s with
  | none=>rfl
  | some c=>
   cases c with
   | next s' =>simpa using GI b xs s'
   | done r=>simp
theorem FI{α τ:Type}(b:α->τ->Option τ):∀(l:List α) (s:τ),Cm (γ:=Empty) (λx s=>(b x s).map .next) l s=(YI b l s).map .next
 | [],s=>rfl
 | x::xs,s=>by
  simp only[Cm,YI];cases h:b x s with
  | none=>rfl
  | some s' =>simpa using FI b xs s'
theorem GC.fY{l:List α}(I:τ->Fz->List HP->Prop)(J:γ->Fz->List HP->Prop)(hg:QK S g=some (.func (.func f) #[] caps.toArray))(hit:Sy P F f caps arg l)(hps:(ps.all λp=>Nat.blt p n)=true)(harg:∀x F' vs,arg x F' vs->vs.length=ps.length)
  (hI:I s0 F hs)
  (round:∀l L F0 F1 x vs s ctl R hs',F<=F0->F0<=F1->arg x F1 vs->I s F0 hs'->GC (some l) P assign [] (BP P l body (RP l L I J F1 R ctl)) (Hd n [] ((ps.zip vs).reverse++S) F1 (pt l (Un L)::R::hs')) (bm x s) ctl)
  (next:∀q F0 F' s hs',F<=F0->F0<=F'->Cm bm l s0=some (.next s)->I s F0 hs'->GE none P ks Q (Hd n (U7 q::D) S F' (pt q (.deferred (some []))::hs')) (k (.next s)) r)
  (done:∀q F0 F' b hs',F<=F0->F0<=F'->Cm bm l s0=some (.done b)->J b F0 hs'->GC none P .ret ks Q (Hd n (U7 q::D) S F' (pt q (.deferred (some []))::hs')) (k (.done b)) r):
  GC none P (.rangeFunc g ps.toArray assign body) ks Q (Hd n D S F hs) ((Cm bm l s0).bind k) r:=by
 rw[<-GI] at next done ⊢
 exact GC.rangeFunc (mk:=λ_ y s=>V0 y l s) I J hg hit hps harg hI round next done
theorem GC.xg{l:List α}{bm:α->τ->Option τ}{k:τ->Option β}(I:τ->Fz->List HP->Prop)(hg:QK S g=some (.func (.func f) #[] caps.toArray))(hit:Sy P F f caps arg l)(hps:(ps.all λp=>Nat.blt p n)=true)(harg:∀x F' vs,arg x F' vs->vs.length=ps.length)
  (hI:I s0 F hs)
  (round:∀l L F0 F1 x vs s ctl R hs',F<=F0->F0<=F1->arg x F1 vs->I s F0 hs'->GC (some l) P assign [] (BP P l body (RP l L I (fun(_:Empty) _ _=>False) F1 R (.next ctl))) (Hd n [] ((ps.zip vs).reverse++S) F1 (pt l (Un L)::R::hs')) (bm x s) ctl)
  (next:∀q F0 F' s hs',F<=F0->F0<=F'->YI bm l s0=some s->I s F0 hs'->GE none P ks Q (Hd n (U7 q::D) S F' (pt q (.deferred (some []))::hs')) (k s) r):
  GC none P (.rangeFunc g ps.toArray assign body) ks Q (Hd n D S F hs) ((YI bm l s0).bind k) r:=by
 have h:=GC.fY (γ:=Empty) (k:=λc=>match c with | .next s=>k s | .done b=>b.elim) (bm:=λx s=>(bm x s).map .next) (ks:=ks) (Q:=Q) (D:=D) (r:=r) I (λ_ _ _=>False) hg hit hps harg hI
  (λl L F0 F1 x vs s ctl R hs' h0 h1 hx hI=>by
   intro hm;cases hb:bm x s with
   | none=>rw[hb] at hm;cases hm
   | some s' =>rw[hb] at hm;simp only[Option.map_some,Option.some.injEq] at hm;subst hm;exact round l L F0 F1 x vs s s' R hs' h0 h1 hx hI hb)
  (λq F0 F' s hs' h0 h1 he=>next q F0 F' s hs' h0 h1 (by rw[FI] at he;cases hf:YI bm l s0 with | none=>rw[hf] at he;cases he | some s' =>rw[hf] at he;simp only[Option.map_some,Option.some.injEq,Vb.next.injEq] at he;rw[he]))
  (λ_ _ _ b=>b.elim)
 rw[FI] at h
 cases hf:YI bm l s0 with
 | none=>intro hm;cases hm
 | some s=>rw[hf] at h;exact h
end
def zQ:List HP->List (Nat×Nat)->Prop
 | _,[]=>True
 | hs,(i,q)::ms=>hs[i]? =some (pt q (.deferred (some [])))/\zQ (hs.set i (pt q (.deferred none))) ms
def Xg:List HP->List (Nat×Nat)->List HP
 | hs,[]=>hs
 | hs,(i,q)::ms=>Xg (hs.set i (pt q (.deferred none))) ms
theorem TY{P:Program}{fn:Func}{tmps:Array Value}{R:Ending->World->Prop}{F:Fz}:∀{ms:List (Nat×Nat)} {hs:List HP} {w:World},SH w F (Qj hs)->zQ hs ms->
  (∀w',SH w' F (Qj (Xg hs ms))->∃v,(results fn tmps).run P w' = .ok v w'/\R (.returned v) w')->LeavesInM Fence.wide 0 P fn tmps R (ms.map λp=>U7 p.2) .returning w
 | [],hs,w,h,_,k=>k w h
 | (i,q)::ms,hs,w,h,ho,k=>by
  refine⟨by simp,.inl ⟨q,_,rfl,run_takeDeferred (SH.wD ho.1 h),?_⟩⟩;exact TY (SH.putAt ho.1 h _) ho.2 k
def Ll{β:Type}(P:Program)(fn:Func)(F:Fz)(R:HP)(ρ:β->Fz->Value->Prop)(r:β):Exit->Act->World->Prop:=
 bodyPostM Fence.wide 0 P fn (λe w' =>∃F' v,F<=F'/\e= .returned v/\ρ r F' v/\SH w' F' R)
theorem KE.xC{β:Type}{P:Program}{f:FuncId}{fn:Func}{c:Code}{args:List Value}{F:Fz}{m:Option β}{ρ:β->Fz->Value->Prop}{n:Nat}
  (hf:P.funcs[f]? =some fn) (hb:fn.body=some c) (hn:fn.ntmps=n) (ha:Nat.ble args.length n=true)
  (k:∀r R,GC none P c [] (Ll P fn F R ρ r) (Hd n [] (Dc 0 args) F [R]) m r):KE P f args.toArray F m ρ:=by
 intro r hm w R hw;refine(callsIn_wide (n:=0)).1 (callsIn_of_wp_marks hf hb trivial (k r R hm _ w ⟨?_,hw.one⟩));rw[hn];exact U1 ha
section
variable{β:Type}{P:Program}{n:Nat}{S:List (Nat×Value)}{F F' :Fz}{hs:List HP}{ks:List Kt}{fn:Func}{R:HP}{ρ:β->Fz->Value->Prop}{x r:β}{rs:List ResultVar}{vs:List Value}{i:Nat}{ms:List (Nat×Nat)}
theorem EZ(hr:fn.results=rs.toArray)(ho:zQ hs ms)(h:CG P S F' (Xg hs ms) rs vs)(hi:(Xg hs ms)[i]? =some R)(le:F<=F')(hρ:ρ x F' (CS vs)):
  some x=some r->∀a w,Hd n (ms.map λp=>U7 p.2) S F' hs a w->LeavesInM Fence.wide 0 P fn a.tmps (λe w' =>∃F' v,F<=F'/\e= .returned v/\ρ r F' v/\SH w' F' R) a.defers .returning w:=by
 intro e a w ha;simp only[Option.some.injEq] at e
 subst e;rw[ha.1.2.1];refine TY ha.2 ho λw' h' => ?_;exact⟨_,Jo (n:=n) (a:=a) (D:=a.defers) hr ⟨⟨ha.1.1,rfl,ha.1.2.2⟩,h'⟩ h,F',_,le,rfl,hρ,h'.only hi⟩
theorem GC.gH(ms:List (Nat×Nat))(hr:fn.results=rs.toArray)(ho:zQ hs ms)(h:CG P S F' (Xg hs ms) rs vs)(hi:(Xg hs ms)[i]? =some R)(le:F<=F')(hρ:ρ x F' (CS vs)):
 GC O P .ret ks (Ll P fn F R ρ r) (Hd n (ms.map λp=>U7 p.2) S F' hs) (some x) r:=GC.wN (EZ hr ho h hi le hρ)
end
end
section
variable{O:Option Nat}
def VE(γ:Nat)(F:Fz)(i b:Nat):Prop:=γ < F.gn/\(F.gh γ)[i]? =some b
theorem VE.mono{γ:Nat}{F F' :Fz}{i b:Nat}(h:VE γ F i b)(le:F<=F'):VE γ F' i b:=
 ⟨Nat.lt_of_lt_of_le h.1 le.gn,by
  obtain⟨t,e⟩:=le.gh γ h.1;rw[<-e,List.getElem?_append_left (List.getElem?_eq_some_iff.1 h.2).1];exact h.2⟩
theorem VE.inj{γ:Nat}{F:Fz}{i b b' :Nat}(h:VE γ F i b)(k:VE γ F i b'):b=b' :=by
 have:=h.2.symm.trans k.2;simpa using this
def ZL(γ:Nat)(F:Fz)(p:Option Addr):Option Nat->Prop
 | none=>p=none
 | some i=>∃b,VE γ F i b/\p=some ⟨b,0,none⟩
theorem ZL.mono{γ:Nat}{F F' :Fz}{p:Option Addr}{x:Option Nat}(h:ZL γ F p x)(le:F<=F'):ZL γ F' p x:=by
 cases x with
 | none=>exact h
 | some i=>obtain⟨b,h1,h2⟩:=h;exact⟨b,h1.mono le,h2⟩
theorem ZL.nil{γ:Nat}{F:Fz}:ZL γ F none none:=rfl
theorem ZL.of{γ:Nat}{F:Fz}{i b:Nat}(h:VE γ F i b):ZL γ F (some ⟨b,0,none⟩) (some i):=⟨b,h,rfl⟩
def Zp(γ:Nat)(F:Fz)(p:Option Nat):Option Nat->Prop
 | none=>p=none
 | some i=>∃b,VE γ F i b/\p=some b
theorem Zp.mono{γ:Nat}{F F' :Fz}{p:Option Nat}{x:Option Nat}(h:Zp γ F p x)(le:F<=F'):Zp γ F' p x:=by
 cases x with
 | none=>exact h
 | some i=>obtain⟨b,h1,h2⟩:=h;exact⟨b,h1.mono le,h2⟩
theorem Zp.nil{γ:Nat}{F:Fz}:Zp γ F none none:=rfl
theorem Zp.of{γ:Nat}{F:Fz}{i b:Nat}(h:VE γ F i b):Zp γ F (some b) (some i):=⟨b,h,rfl⟩
theorem WQ{p q r:HP}{m:Mem}(h:star (star p q) r m):star p (star q r) m:=by
 obtain⟨m1,m2,d,s1,s2,⟨m3,m4,d',t1,t2,hp,hq⟩,hr⟩:=h
 classical
 refine⟨m3,λk=>if m2 k=none then m4 k else m2 k,?_,t1.trans s1,?_,hp,m4,m2,(d.sub t2 (Mem.sub.refl m2)),?_,?_,hq,hr⟩
 ·intro k;by_cases e:m2 k=none
  ·simp only[e,if_true];exact d' k
  ·simp only[e,if_false];rcases(d.sub t1 (Mem.sub.refl m2)) k with h | h
   ·exact .inl h
   ·exact absurd h e
 ·intro k o e;by_cases e' :m2 k=none
  ·simp only[e',if_true] at e;exact s1 k o (t2 k o e)
  ·simp only[e',if_false] at e;exact s2 k o e
 ·intro k o e;have:m2 k=none:=(d.sub t2 (Mem.sub.refl m2)).wL e;simp[this,e]
 ·intro k o e;simp[e]
theorem Vm{p q r:HP}{m:Mem}(h:star p (star q r) m):star (star p q) r m:=by
 have h1:=Zd h;obtain⟨m1,m2,d,s1,s2,hq,m3,m4,d',t1,t2,hp,hr⟩:=h1
 classical
 refine⟨λk=>if m1 k=none then m3 k else m1 k,m4,?_,?_,t2.trans s2,⟨m3,m1,(d.sub (Mem.sub.refl m1) t1).symm,?_,?_,hp,hq⟩,hr⟩
 ·intro k;by_cases e:m1 k=none
  ·simp only[e,if_true];exact d' k
  ·simp only[e,if_false];rcases(d.sub (Mem.sub.refl m1) t2) k with h | h
   ·exact absurd h e
   ·exact .inr h
 ·intro k o e;by_cases e' :m1 k=none
  ·simp only[e',if_true] at e;exact s2 k o (t1 k o e)
  ·simp only[e',if_false] at e;exact s1 k o e
 ·intro k o e;have:m1 k=none:=(d.sub (Mem.sub.refl m1) t1).xo e;simp[this,e]
 ·intro k o e;simp[e]
theorem FE:∀{l l' :List HP} {m:Mem},l.length=l'.length->(∀(i:Nat) (p q:HP),l[i]? =some p->l'[i]? =some q->∀m,p m->q m)->Qj l m->Qj l' m
 | [],[],_,_,_,h=>h
 | [],_::_,_,hl,_,_=>by simp at hl
 | _::_,[],_,hl,_,_=>by simp at hl
 | p::l,q::l',m,hl,hi,h=>by
  have h1:∀m,p m->q m:=hi 0 p q rfl rfl;have h2:∀m,Qj l m->Qj l' m:=λm hm=>FE (by simpa using hl) (λi p q e1 e2=>hi (i+1) p q (by simpa using e1) (by simpa using e2)) hm;exact QX h1 (QR h2 h)
def K9:List Nat->List HP->List HP
 | [],_=>[]
 | k::ks,hs=>(hs[k]?).getD CI::K9 ks (hs.eraseIdx k)
theorem Y2:∀{ks:List Nat} {hs:List HP} {m:Mem},Qj hs m->Qj (K9 ks hs) m
 | [],_,_,_=>trivial
 | k::ks,hs,m,h=>by
  cases e:hs[k]? with
  | some p=>simp only[K9,e,Option.getD_some];exact QR (λ_ h=>Y2 h) (Y1 e h)
  | none=>simp only[K9,e,Option.getD_none];exact QR (λ_ h=>Y2 h) (Gi h)
section
variable{α:Type}{γ:Nat}{C:Fz->Nat->α->HP}{F F0 F' :Fz}{xs:List α}{w:World}{H:HP}{j b:Nat}{x y:α}
def Qw(γ:Nat)(C:Fz->Nat->α->HP)(F:Fz)(xs:List α):HP:=λm=>∃bs,bs.length=xs.length/\star (Oj γ bs) (Qj (List.zipWith (C F) bs xs)) m
def hole(γ:Nat)(C:Fz->Nat->α->HP)(F:Fz)(j b:Nat)(xs:List α):HP:=λm=>∃bs,bs.length=xs.length/\bs[j]? =some b/\star (Oj γ bs) (Qj ((List.zipWith (C F) bs xs).eraseIdx j)) m
def Wl(C:Fz->Nat->α->HP):Prop:=∀F F' b x m,F<=F'->C F b x m->C F' b x m
theorem TR{bs:List Nat}{f:Nat->α->HP}(h1:bs[j]? =some b)(h2:xs[j]? =some x):(List.zipWith f bs xs)[j]? =some (f b x):=by
 rw[List.getElem?_zipWith,h1,h2]
theorem TQ:∀{bs:List Nat} {f:Nat->α->HP} {xs:List α} {j b:Nat} {y:α},bs[j]? =some b->(List.zipWith f bs xs).set j (f b y)=List.zipWith f bs (xs.set j y)
 | [],_,_,_,_,_,h=>by simp at h
 | c::bs,f,[],j,b,y,_=>by simp
 | c::bs,f,x::xs,0,b,y,h=>by simp at h;subst h;simp
 | c::bs,f,x::xs,j+1,b,y,h=>by
  simp only[List.getElem?_cons_succ] at h
  simp[TQ h]
theorem SH.xT(hC:Wl C)(le:F0<=F')(h:SH w F (star (Qw γ C F0 xs) H)):SH w F (star (Qw γ C F' xs) H):=
 h.mono λm hm=>QX (λm ⟨bs,hl,hs⟩=>⟨bs,hl,QR (λm hm=>FE (by simp) (λi p q e1 e2 m hp=>by
  rw[List.getElem?_zipWith] at e1 e2
  cases hb:bs[i]? with
  | none=>rw[hb] at e1;simp at e1
  | some b=>
   cases hx:xs[i]? with
   | none=>rw[hb,hx] at e1;simp at e1
   | some x=>rw[hb,hx] at e1 e2;simp at e1 e2;subst e1;subst e2;exact hC _ _ _ _ _ le hp) hm) hs⟩) hm
theorem SH.xe(h:SH w F (star (Qw γ C F0 xs) H))(hb:VE γ F j b)(hx:xs[j]? =some x):SH w F (star (C F0 b x) (star (hole γ C F0 j b xs) H)):=by
 obtain⟨m,⟨m1,m2,d,s1,s2,⟨bs,hl,hz⟩,hq⟩,k⟩:=h
 have hbs:bs[j]? =some b:=by
  obtain⟨m3,m4,d',t1,t2,hg,_⟩:=hz;obtain⟨_,e⟩:=k.gst γ _ (s1 _ _ (t1 _ _ hg));simp only[Cell.gh.injEq] at e
  rw[e];exact hb.2
 refine⟨m,WQ ⟨m1,m2,d,s1,s2,?_,hq⟩,k⟩;have h1:=Zd (QR (λ_ hm=>Y1 (TR (f:=C F0) hbs hx) hm) hz);exact QR (λm hm=>⟨bs,hl,hbs,hm⟩) h1
theorem SH.gQ(hC:Wl C)(le:F0<=F')(h:SH w F (star (C F' b y) (star (hole γ C F0 j b xs) H)))(hj:j < xs.length):SH w F (star (Qw γ C F' (xs.set j y)) H):=by
 refine h.mono λm hm=> ?_;refine QX (λm hm=> ?_) (Vm hm);obtain⟨m1,m2,d,s1,s2,hp,bs,hl,hbs,hz⟩:=hm;refine⟨bs,by simpa using hl,?_⟩;have h1:star (C F' b y) (star (Oj γ bs) (Qj ((List.zipWith (C F0) bs xs).eraseIdx j))) m:=⟨m1,m2,d,s1,s2,hp,hz⟩;refine QR (λm hm=> ?_) (Zd h1);have hx:xs[j]? =some xs[j]:=by simp[hj]
 have h2:star (C F' b y) (Qj ((List.zipWith (C F') bs xs).eraseIdx j)) m:=QR (λm hm=>FE (by simp[List.length_eraseIdx]) (λi p q e1 e2 m hp=>by
  rw[List.getElem?_eraseIdx] at e1 e2
  have key:∀i',(List.zipWith (C F0) bs xs)[i']? =some p->(List.zipWith (C F') bs xs)[i']? =some q->q m:=λi' e1 e2=>by
   rw[List.getElem?_zipWith] at e1 e2
   cases hb:bs[i']? with
   | none=>rw[hb] at e1;simp at e1
   | some b=>
    cases hx:xs[i']? with
    | none=>rw[hb,hx] at e1;simp at e1
    | some x=>rw[hb,hx] at e1 e2;simp at e1 e2;subst e1;subst e2;exact hC _ _ _ _ _ le hp
  split at e1
  ·rename_i hlt;rw[if_pos hlt] at e2;exact key i e1 e2
  ·rename_i hlt;rw[if_neg hlt] at e2;exact key (i+1) e1 e2) hm) hm
 rw[<-TQ (f:=C F') hbs];exact H5 (TR (f:=C F') hbs hx) h2
theorem SH.df(hC:Wl C){p:HP}(le:F0<=F)(h:SH w F (star p (star (Qw γ C F0 xs) H)))(hp:∀F' m,F<=F'->p m->C F' b x m):∃F',F<=F'/\VE γ F' xs.length b/\SH w F' (star (Qw γ C F' (xs++[x])) H):=by
 obtain⟨m,hm,k⟩:=h;obtain⟨m1,m2,d,s1,s2,⟨bs,hl,hz⟩,hq⟩:=Zd hm;have h1:SH w F (star (Oj γ bs) (star (Qj (List.zipWith (C F0) bs xs)) (star p H))):=⟨m,WQ ⟨m1,m2,d,s1,s2,hz,hq⟩,k⟩;obtain⟨g1,g2⟩:=h1.fD;obtain⟨le',h2⟩:=h1.xK b;refine⟨F.xK γ b,le',⟨g1,?_⟩,?_⟩
 ·show(if γ=γ then F.gh γ++[b] else F.gh γ)[xs.length]? =some b;rw[if_pos rfl,g2,<-hl];simp
 ·refine h2.mono λm hm=> ?_;have h3:star (Oj γ (bs++[b])) (star p (star (Qj (List.zipWith (C F0) bs xs)) H)) m:=QR (λm hm=>Zd hm) hm;refine QX (λm hm=> ?_) (Vm (QR (λm hm=>Vm hm) h3));refine⟨bs++[b],by simp[hl],QR (λm hm=> ?_) hm⟩;have hle:F0<=F.xK γ b:=Fz.le_trans le le';have h4:Qj (p::List.zipWith (C F0) bs xs) m:=hm
  have h5:Qj (C (F.xK γ b) b x::List.zipWith (C (F.xK γ b)) bs xs) m:=FE (by simp) (λi p' q e1 e2 m hp' =>by
   cases i with
   | zero=>simp at e1 e2;subst e1;subst e2;exact hp _ _ le' hp'
   | succ i=>
    simp only[List.getElem?_cons_succ] at e1 e2
    rw[List.getElem?_zipWith] at e1 e2
    cases hb:bs[i]? with
    | none=>rw[hb] at e1;simp at e1
    | some b=>
     cases hx:xs[i]? with
     | none=>rw[hb,hx] at e1;simp at e1
     | some x=>rw[hb,hx] at e1 e2;simp at e1 e2;subst e1;subst e2;exact hC _ _ _ _ _ hle hp') h4
  have h6:=stars_snoc h5;rw[List.zipWith_append (by simpa using hl)];exact h6
where
 stars_snoc:∀{l:List HP} {p:HP} {m:Mem},Qj (p::l) m->Qj (l++[p]) m
  | [],_,_,h=>h
  | q::l,p,m,h=>QR (λ_ h=>stars_snoc h) (Zd h)
end
def Ud{α:Type}(T:TypeId)(c:Kb α)(F:Fz)(b:Nat)(x:α):HP:=λm=>∃vs,(∀F',F<=F'->c F' x vs)/\pt b (.cells vs.toArray T) m
theorem Ud.stays{α:Type}{T:TypeId}{c:Kb α}:Wl (Ud T c):=λ_ _ _ _ _ le ⟨vs,h,k⟩=>⟨vs,λG le' =>h G (Fz.le_trans le le'),k⟩
def GG{β:Type}(X:Act->World->Prop)(A:Act->World->Prop)(m:Option β)(r:β):Prop:=m=some r->∀a w,A a w->X a w
section
variable{β:Type}{X:Act->World->Prop}{m:Option β}{r:β}{n:Nat}{D:List Deferred}{S:List (Nat×Value)}{F F0:Fz}{hs hs' :List HP}
variable{α:Type}{γ:Nat}{C:Fz->Nat->α->HP}{xs:List α}{j b:Nat}{x y:α}
theorem GG.pick(ks:List Nat)(h:K9 ks hs=hs')(k:GG X (Hd n D S F hs') m r):GG X (Hd n D S F hs) m r:=
 λhm a w ha=>k hm a w ⟨ha.1,h▸ha.2.mono λ_=>Y2⟩
theorem GG.u3(i:Nat)(hC:Wl C)(le:F0<=F)(hi:hs[i]? =some (Qw γ C F0 xs))(k:GG X (Hd n D S F (hs.set i (Qw γ C F xs))) m r):GG X (Hd n D S F hs) m r:=
 λhm a w ha=>k hm a w ⟨ha.1,SH.push hi ((ha.2.pull hi).xT hC le)⟩
end
end
section
variable{O:Option Nat}
inductive Out(ε β:Type) where
 | ok (b:β)
 | pan (x:ε)
def JN:List Nat->List HP->List HP
 | [],hs=>hs
 | k::ks,hs=>JN ks (hs.eraseIdx k)
theorem VZ:∀{ks:List Nat} {hs:List HP} {m:Mem},Qj hs m->star (Qj (K9 ks hs)) (Qj (JN ks hs)) m
 | [],_,m,h=>⟨λ_=>none,m,λ_=>.inl rfl,λ_ _ e=>by simp at e,Mem.sub.refl _,trivial,h⟩
 | k::ks,hs,m,h=>by
  have h1:star ((hs[k]?).getD CI) (Qj (hs.eraseIdx k)) m:=by
   cases e:hs[k]? with
   | some p=>exact Y1 e h
   | none=>exact Gi h
  exact Vm (QR (λ_ h=>VZ (ks:=ks) h) h1)
theorem K4:∀{l k:List HP} {m:Mem},star (Qj l) (Qj k) m->Qj (l++k) m
 | [],_,_,⟨_,_,_,_,s2,_,h⟩=>stars_sub s2 h
 | _p::_l,_k,_m,h=>QR (λ_ h=>K4 h) (WQ h)
where
 stars_sub:∀{l:List HP} {m n:Mem},Mem.sub m n->Qj l m->Qj l n
  | [],_,_,_,_=>trivial
  | _::_,_,_,s,⟨m1,m2,d,s1,s2,hp,hq⟩=>⟨m1,m2,d,s1.trans s,s2.trans s,hp,hq⟩
theorem Y6:∀{l k:List HP} {m:Mem},Qj (l++k) m->star (Qj l) (Qj k) m
 | [],_,m,h=>⟨λ_=>none,m,λ_=>.inl rfl,λ_ _ e=>by simp at e,Mem.sub.refl _,trivial,h⟩
 | p::l,k,m,h=>Vm (QR (λ_ h=>Y6 h) h)
theorem Y5{p:HP}{m:Mem}(h:p m):Qj [p] m:=⟨m,λ_=>none,λ_=>.inr rfl,Mem.sub.refl _,λ_ _ e=>by simp at e,h,trivial⟩
def VJ{ε β:Type}(P:Program)(penc:ε->Value)(f:FuncId)(args:Array Value)(F:Fz)(Hs:List HP)(m:Option (Out ε β))(ρ:β->Fz->Value->Prop)(Hs' :β->Fz->Value->List HP):Prop:=
 ∀r,m=some r->∀w R,SH w F (star (Qj Hs) R)->Calls P f args w (λe w' =>∃F',F<=F'/\match r with
  | .ok x=>∃v,e= .returned v/\ρ x F' v/\SH w' F' (star (Qj (Hs' x F' v)) R)
  | .pan x=>e= .panicked [{v:=penc x,recovered:=false}]/\SH w' F' R)
def SZ{ε β:Type}(P:Program)(penc:ε->Value)(fn:Func)(F:Fz)(R:HP)(ρ:β->Fz->Value->Prop)(Hs' :β->Fz->Value->List HP)(r:Out ε β):Exit->Act->World->Prop:=
 bodyPost P fn (λe w' =>∃F',F<=F'/\match r with
  | .ok x=>∃v,e= .returned v/\ρ x F' v/\SH w' F' (star (Qj (Hs' x F' v)) R)
  | .pan x=>e= .panicked [{v:=penc x,recovered:=false}]/\SH w' F' R)
theorem VJ.enter{ε β:Type}{P:Program}{penc:ε->Value}{f:FuncId}{fn:Func}{c:Code}{args:List Value}{F:Fz}{Hs:List HP}{m:Option (Out ε β)}{ρ:β->Fz->Value->Prop}{Hs' :β->Fz->Value->List HP}{n:Nat}
  (hf:P.funcs[f]? =some fn) (hb:fn.body=some c) (hn:fn.ntmps=n) (ha:Nat.ble args.length n=true)
  (k:∀r R,GC none P c [] (SZ P penc fn F R ρ Hs' r) (Hd n [] (Dc 0 args) F (Hs++[R])) m r):VJ P penc f args.toArray F Hs m ρ Hs' :=by
 intro r hm w R hw;refine calls_of_wp hf hb (wpIn_wide.1 (k r R hm _ w ⟨?_,hw.mono λm hm=>K4 (QR (λ_ h=>Y5 h) hm)⟩));rw[hn];exact U1 ha
section
variable{ε β:Type}{P:Program}{penc:ε->Value}{n:Nat}{S:List (Nat×Value)}{F F' :Fz}{hs:List HP}{ks:List Kt}{fn:Func}{R:HP}{ρ:β->Fz->Value->Prop}{Hs' :β->Fz->Value->List HP}{x:β}{r:Out ε β}{rs:List ResultVar}{vs:List Value}
theorem W0{A:HP}{m:Mem}(h:star A (Qj [R]) m):star A R m:=by
 obtain⟨m1,m2,d,s1,s2,ha,m3,_,_,t1,_,hr,_⟩:=h;exact⟨m1,m3,d.sub (Mem.sub.refl _) t1,s1,t1.trans s2,ha,hr⟩
theorem NC(is:List Nat)(hr:fn.results=rs.toArray)(h:CG P S F' hs rs vs)(hi:K9 is hs=Hs' x F' (CS vs)++[R])(le:F<=F')(hρ:ρ x F' (CS vs)):
  some (Out.ok x)=some r->∀a w,Hd n [] S F' hs a w->SZ P penc fn F R ρ Hs' r .ret a w:=by
 intro e a w ha;simp only[Option.some.injEq] at e
 subst e;refine⟨ha.1.2.1,_,Jo hr ha h,F',le,_,rfl,hρ,ha.2.mono λm hm=> ?_⟩;have h1:=Y2 (ks:=is) hm;rw[hi] at h1
 exact W0 (Y6 h1)
theorem GC.we(is:List Nat)(hr:fn.results=rs.toArray)(h:CG P S F' hs rs vs)(hi:K9 is hs=Hs' x F' (CS vs)++[R])(le:F<=F')(hρ:ρ x F' (CS vs)):
 GC O P .ret ks (SZ P penc fn F R ρ Hs' r) (Hd n [] S F' hs) (some (.ok x)) r:=GC.wN (NC is hr h hi le hρ)
theorem GE.wX(is:List Nat)(hr:fn.results=rs.toArray)(h:CG P S F' hs rs vs)(hi:K9 is hs=Hs' x F' (CS vs)++[R])(le:F<=F')(hρ:ρ x F' (CS vs)):
 GE O P [] (SZ P penc fn F R ρ Hs' r) (Hd n [] S F' hs) (some (.ok x)) r:=GE.nil (NC is hr h hi le hρ)
theorem Qi{q:ε}{i:Nat}(hi:hs[i]? =some R)(le:F<=F'):
  some (Out.pan q)=some r->∀a w,Hd n [] S F' hs a w->SZ P penc fn F R ρ Hs' r (.panic [{v:=penc q,recovered:=false}]) a w:=by
 intro e a w ha;simp only[Option.some.injEq] at e
 subst e;exact⟨ha.1.2.1,F',le,rfl,ha.2.only hi⟩
end
section
variable{ε β:Type}{P:Program}{penc:ε->Value}{ops:Array Oper}{rest:List Oper}{ks:List Kt}{Q:Exit->Act->World->Prop}{m:Option β}{r:β}
variable{n:Nat}{D:List Deferred}{S:List (Nat×Value)}{F F0:Fz}{hs:List HP}
theorem GL.ga{dst:Option Tmp}{ox:Operand}{ty:TypeId}{pos:String}{after:Array Edge}{T:TypeId}{v:Value}(hx:QK S ox=some (.iface T v))
  (h:m=some r->∀a w,Hd n D S F hs a w->Q (.panic [{v:=.iface T v,recovered:=false}]) a w):GL O P ops (⟨dst,.panic ox,ty,pos,after,none⟩::rest) ks Q (Hd n D S F hs) m r:=by
 intro hm a w ha;unfold Xd;rw[if_pos (by simp[Region.wanted])];refine⟨.inr rfl,?_⟩
 have hrun:(execOp a.eval ⟨dst,.panic ox,ty,pos,after,none⟩).run P w= .halt (.panic (.iface T v)) w:=by
  simp[execOp,Instr.panic,ha.1.eval hx,goPanic]
 rw[hrun];exact Jc (h hm a w ha)
end
end
end Go.Dec
end
