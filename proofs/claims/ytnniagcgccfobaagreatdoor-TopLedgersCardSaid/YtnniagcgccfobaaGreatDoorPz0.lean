/- For TopLedgers. -/
import Derived.WalkKit
import Derived.OrdersIn
import Derived.RangeFuncLeaves
import Derived.ProofKit
import Derived.OpenShut
import Derived.ChangeArms
import Derived.RangeFuncNested
noncomputable section
namespace Go.Dec
section
inductive Key where
 | blk (b:Nat)
 | gst (γ:Nat)
 deriving DecidableEq
inductive Cell where
 | obj (o:Obj)
 | gh (l:List Nat)
abbrev Mem:=Key->Option Cell
abbrev HP:=Mem->Prop
structure Fz where
 mem:Nat->Option Obj
 os:Os
 tape:Nat->Question->Nat
 out:Array (Nat×ByteArray)
 gh:Nat->List Nat:=λ_=>[]
 gn:Nat:=0
structure Fz.Le(F F' :Fz):Prop where
 os:F'.os=F.os
 tape:F'.tape=F.tape
 out:F'.out=F.out
 mem:∀b o,F.mem b=some o->F'.mem b=some o
 gh:∀γ,γ < F.gn->F.gh γ <+:F'.gh γ
 gn:F.gn<=F'.gn
instance:LE Fz:=⟨Fz.Le⟩
theorem Fz.le_refl(F:Fz):F<=F:=⟨rfl,rfl,rfl,λ_ _ h=>h,λ_ _=>List.prefix_refl _,Nat.le_refl _⟩
theorem Fz.le_trans{F G H:Fz}(h:F<=G)(k:G<=H):F<=H:=
 ⟨k.os.trans h.os,k.tape.trans h.tape,k.out.trans h.out,λb o e=>k.mem b o (h.mem b o e),λγ hγ=>(h.gh γ hγ).trans (k.gh γ (Nat.lt_of_lt_of_le hγ h.gn)),Nat.le_trans h.gn k.gn⟩
def Mem.dj(m n:Mem):Prop:=∀k,m k=none∨n k=none
def Mem.sub(m n:Mem):Prop:=∀k o,m k=some o->n k=some o
def Mem.set(m:Mem)(b:Key)(o:Cell):Mem:=λk=>if k=b then some o else m k
def S8(m:Nat->Option Obj)(b:Nat)(o:Obj):Nat->Option Obj:=λk=>if k=b then some o else m k
theorem Mem.dj.symm{m n:Mem}(h:Mem.dj m n):Mem.dj n m:=λk=>(h k).symm
theorem Mem.sub.trans{m n p:Mem}(h:Mem.sub m n)(k:Mem.sub n p):Mem.sub m p:=λb o e=>k b o (h b o e)
theorem Mem.sub.refl(m:Mem):Mem.sub m m:=λ_ _ e=>e
theorem Mem.dj.sub{m n m' n' :Mem}(h:Mem.dj m n)(hm:Mem.sub m' m)(hn:Mem.sub n' n):Mem.dj m' n' :=λk=>by
 rcases h k with h | h
 ·cases e:m' k with
  | none=>exact .inl rfl
  | some o=>rw[hm k o e] at h;cases h
 ·cases e:n' k with
  | none=>exact .inr rfl
  | some o=>rw[hn k o e] at h;cases h
theorem Mem.dj.uZ{m n:Mem}(h:Mem.dj m n){b:Key}{o:Cell}(e:m b=some o):n b=none:=by
 rcases h b with h | h
 ·rw[e] at h;cases h
 ·exact h
theorem Mem.dj.wm{m n:Mem}(h:Mem.dj m n){b:Key}{o:Cell}(e:n b=some o):m b=none:=h.symm.uZ e
def Sz:HP:=λ_=>True
def pt(b:Nat)(o:Obj):HP:=λm=>m (.blk b)=some (.obj o)
def OA(γ:Nat)(l:List Nat):HP:=λm=>m (.gst γ)=some (.gh l)
def star(p q:HP):HP:=λm=>∃m1 m2,Mem.dj m1 m2/\Mem.sub m1 m/\Mem.sub m2 m/\p m1/\q m2
def QY:List HP->HP
 | []=>Sz
 | p::hs=>star p (QY hs)
theorem ZT{p q r:HP}{m:Mem}(h:star p (star q r) m):star q (star p r) m:=by
 obtain⟨m1,m2,d,s1,s2,hp,n1,n2,d',t1,t2,hq,hr⟩:=h
 classical
 refine⟨n1,λk=>if n2 k=none then m1 k else n2 k,?_,t1.trans s2,?_,hq,m1,n2,?_,?_,?_,hp,hr⟩
 ·intro k;by_cases e:n2 k=none
  ·simp only[e,if_true];rcases d k with h | h
   ·exact .inr h
   ·left;cases e1:n1 k with
    | none=>rfl
    | some o=>rw[t1 k o e1] at h;cases h
  ·simp only[e,if_false];rcases d' k with h | h
   ·exact .inl h
   ·exact absurd h e
 ·intro k o e;by_cases e' :n2 k=none
  ·simp only[e',if_true] at e;exact s1 k o e
  ·simp only[e',if_false] at e;exact s2 k o (t2 k o e)
 ·exact d.sub (Mem.sub.refl _) t2
 ·intro k o e
  have hn:n2 k=none:=by
   cases e2:n2 k with
   | none=>rfl
   | some x=>
    have:=d.uZ e;rw[t2 k x e2] at this;cases this
  simp[hn,e]
 ·intro k o e;simp[e]
theorem QM{p q q' :HP}(h:∀m,q m->q' m){m:Mem}(k:star p q m):star p q' m:=
 let⟨m1,m2,d,s1,s2,hp,hq⟩:=k;⟨m1,m2,d,s1,s2,hp,h _ hq⟩
theorem QS{p p' q:HP}(h:∀m,p m->p' m){m:Mem}(k:star p q m):star p' q m:=
 let⟨m1,m2,d,s1,s2,hp,hq⟩:=k;⟨m1,m2,d,s1,s2,h _ hp,hq⟩
theorem Jv:∀{hs:List HP} {k:Nat} {p:HP} {m:Mem},hs[k]? =some p->QY hs m->star p (QY (hs.eraseIdx k)) m
 | [],_,_,_,h,_=>by simp at h
 | q::hs,0,p,m,h,hm=>by
  simp at h;subst h;exact hm
 | q::hs,k+1,p,m,h,hm=>by
  simp only[List.getElem?_cons_succ] at h
  simp only[List.eraseIdx_cons_succ];exact ZT (QM (λm hm' =>Jv h hm') hm)
theorem Wh:∀{hs:List HP} {k:Nat} {p q:HP} {m:Mem},hs[k]? =some q->star p (QY (hs.eraseIdx k)) m->QY (hs.set k p) m
 | [],_,_,_,_,h,_=>by simp at h
 | x::hs,0,p,q,m,h,hm=>hm
 | x::hs,k+1,p,q,m,h,hm=>by
  simp only[List.getElem?_cons_succ] at h
  simp only[List.eraseIdx_cons_succ] at hm
  simp only[List.set_cons_succ];exact QM (λm hm' =>Wh h hm') (ZT hm)
theorem HN{hs:List HP}{k:Nat}{m:Mem}(h:QY hs m):star Sz (QY (hs.eraseIdx k)) m:=by
 cases e:hs[k]? with
 | some p=>exact QS (λ_ _=>trivial) (Jv e h)
 | none=>
  have:hs.eraseIdx k=hs:=List.eraseIdx_of_length_le (by simpa using e);rw[this];exact⟨λ_=>none,m,λ_=>.inl rfl,λ_ _ e=>by simp at e,Mem.sub.refl _,trivial,h⟩
structure jB(w:World)(F:Fz)(m:Mem):Prop where
 dj:∀b,m (.blk b)=none∨F.mem b=none
 own:∀b c,m (.blk b)=some c->∃o,c= .obj o/\w.heap[b]? =some o
 gst:∀γ c,m (.gst γ)=some c->γ < F.gn/\c= .gh (F.gh γ)
 frz:∀b o,F.mem b=some o->w.heap[b]? =some o
 os:w.os=F.os
 tape:w.tape=F.tape
 out:w.output=F.out
def SH(w:World)(F:Fz)(H:HP):Prop:=∃m,H m/\jB w F m
theorem lt_of_heap{w:World}{b:Nat}{o:Obj}(h:w.heap[b]? =some o):b < w.heap.size:=by
 rcases Nat.lt_or_ge b w.heap.size with h' | h'
 ·exact h'
 ·rw[Array.getElem?_eq_none h'] at h;cases h
theorem jB.sub{w:World}{F:Fz}{m n:Mem}(h:jB w F m)(s:Mem.sub n m):jB w F n:=
 ⟨λb=>by
  rcases h.dj b with e | e
  ·cases en:n (.blk b) with
   | none=>exact .inl rfl
   | some c=>rw[s _ c en] at e;cases e
  ·exact .inr e,λb o e=>h.own b o (s _ o e),λγ c e=>h.gst γ c (s _ c e),h.frz,h.os,h.tape,h.out⟩
theorem jB.gT{w:World}{F:Fz}{m:Mem}(h:jB w F m){b:Nat}{o:Obj}(e:m (.blk b)=some (.obj o)):w.heap[b]? =some o:=by
 obtain⟨_,e1,e2⟩:=h.own b _ e;cases e1;exact e2
theorem SH.mono{w:World}{F:Fz}{H H' :HP}(h:SH w F H)(k:∀m,H m->H' m):SH w F H' :=
 let⟨m,a,b⟩:=h;⟨m,k m a,b⟩
theorem SH.drop{w:World}{F:Fz}{p q:HP}(h:SH w F (star p q)):SH w F q:=
 let⟨_,⟨_,m2,_,_,s2,_,hq⟩,b⟩:=h;⟨m2,hq,b.sub s2⟩
theorem SH.frozen{w:World}{F:Fz}{H:HP}(h:SH w F H){b:Nat}{o:Obj}(e:F.mem b=some o):w.heap[b]? =some o:=
 let⟨_,_,k⟩:=h;k.frz b o e
theorem SH.owned{w:World}{F:Fz}{b:Nat}{o:Obj}{H:HP}(h:SH w F (star (pt b o) H)):w.heap[b]? =some o:=
 let⟨_,⟨_,_,_,s1,_,hp,_⟩,k⟩:=h
 let⟨_,e,h'⟩:=k.own b _ (s1 _ _ hp)
 by cases e;exact h'
theorem SH.drew{w:World}{F:Fz}{H:HP}(h:SH w F H)(n:Nat):SH {w with drawn:=n} F H:=
 let⟨m,a,k⟩:=h;⟨m,a,k.dj,k.own,k.gst,k.frz,k.os,k.tape,k.out⟩
theorem heap_alloc_old{w:World}{o x:Obj}{b:Nat}(h:w.heap[b]? =some x):(w.alloc o).heap[b]? =some x:=by
 have:=lt_of_heap h;show(w.heap.push o)[b]? =_;rw[Array.getElem?_push,if_neg (by omega)];exact h
theorem heap_alloc_new(w:World)(o:Obj):(w.alloc o).heap[w.heap.size]? =some o:=by
 show(w.heap.push o)[w.heap.size]? =_;simp
theorem jB.fresh{w:World}{F:Fz}{m:Mem}(h:jB w F m):m (.blk w.heap.size)=none/\F.mem w.heap.size=none:=by
 constructor
 ·cases e:m (.blk w.heap.size) with
  | none=>rfl
  | some o=>obtain⟨_,_,h'⟩:=h.own _ _ e;have:=lt_of_heap h';omega
 ·cases e:F.mem w.heap.size with
  | none=>rfl
  | some o=>have:=lt_of_heap (h.frz _ _ e);omega
theorem Fh{H:HP}{m:Mem}{k:Key}{c:Cell}(h:m k=none)(a:H m):star (λm=>m k=some c) H (m.set k c):=by
 refine⟨Mem.set (λ_=>none) k c,m,?_,?_,?_,?_,a⟩
 ·intro b;by_cases e:b=k
  ·subst e;exact .inr h
  ·exact .inl (by simp[Mem.set,e])
 ·intro b x e;by_cases e' :b=k
  ·simpa[Mem.set,e'] using e
  ·simp[Mem.set,e'] at e
 ·intro b x e;by_cases e' :b=k
  ·subst e';rw[h] at e;cases e
  ·simpa[Mem.set,e'] using e
 ·simp[Mem.set]
theorem SH.alloc{w:World}{F:Fz}{H:HP}(h:SH w F H)(o:Obj):SH (w.alloc o) F (star (pt w.heap.size o) H):=by
 obtain⟨m,a,k⟩:=h;obtain⟨f1,f2⟩:=k.fresh;refine⟨m.set (.blk w.heap.size) (.obj o),Fh f1 a,?_,?_,?_,?_,k.os,k.tape,k.out⟩
 ·intro b;by_cases e:b=w.heap.size
  ·subst e;exact .inr f2
  ·rcases k.dj b with h | h
   ·exact .inl (by simpa[Mem.set,e] using h)
   ·exact .inr h
 ·intro b x e;by_cases e' :b=w.heap.size
  ·subst e';simp[Mem.set] at e;subst e;exact⟨o,rfl,heap_alloc_new w o⟩
  ·simp[Mem.set,e'] at e;obtain⟨o',e1,e2⟩:=k.own b x e;exact⟨o',e1,heap_alloc_old e2⟩
 ·intro γ c e;exact k.gst γ c (by simpa[Mem.set] using e)
 ·intro b x e;exact heap_alloc_old (k.frz b x e)
def Fz.gq(F:Fz):Fz:={F with gh:=λγ=>if γ=F.gn then[] else F.gh γ,gn:=F.gn+1}
theorem SH.ur{w:World}{F:Fz}{H:HP}(h:SH w F H):F<=F.gq/\SH w F.gq (star (OA F.gn []) H):=by
 obtain⟨m,a,k⟩:=h
 have f1:m (.gst F.gn)=none:=by
  cases e:m (.gst F.gn) with
  | none=>rfl
  | some c=>have:=(k.gst _ _ e).1;omega
 refine⟨⟨rfl,rfl,rfl,λ_ _ h=>h,λγ hγ=> ?_,Nat.le_succ _⟩,m.set (.gst F.gn) (.gh []),Fh f1 a,?_,?_,?_,k.frz,k.os,k.tape,k.out⟩
 ·show F.gh γ <+:(if γ=F.gn then[] else F.gh γ);rw[if_neg (by omega)];exact List.prefix_refl _
 ·intro b;rcases k.dj b with h | h
  ·exact .inl (by simpa[Mem.set] using h)
  ·exact .inr h
 ·intro b x e;exact k.own b x (by simpa[Mem.set] using e)
 ·intro γ c e;by_cases e' :γ=F.gn
  ·subst e';simp[Mem.set] at e;subst e;exact⟨Nat.lt_succ_self _,by simp[Fz.gq]⟩
  ·have e2:m (.gst γ)=some c:=by simpa[Mem.set,e'] using e
   obtain⟨h1,h2⟩:=k.gst γ c e2;exact⟨Nat.lt_succ_of_lt h1,by simp[Fz.gq,e',h2]⟩
def Fz.wD(F:Fz)(γ b:Nat):Fz:={F with gh:=λδ=>if δ=γ then F.gh γ++[b] else F.gh δ}
theorem SH.xi{w:World}{F:Fz}{γ:Nat}{l:List Nat}{H:HP}(h:SH w F (star (OA γ l) H)):γ < F.gn/\F.gh γ=l:=by
 obtain⟨m,⟨m1,m2,d,s1,s2,hp,hq⟩,k⟩:=h;obtain⟨h1,h2⟩:=k.gst γ _ (s1 _ _ hp);simp only[Cell.gh.injEq] at h2
 exact⟨h1,h2.symm⟩
theorem SH.wD{w:World}{F:Fz}{γ:Nat}{l:List Nat}{H:HP}(h:SH w F (star (OA γ l) H))(b:Nat):F<=F.wD γ b/\SH w (F.wD γ b) (star (OA γ (l++[b])) H):=by
 obtain⟨h0,hl⟩:=h.xi;obtain⟨m,⟨m1,m2,d,s1,s2,hp,hq⟩,k⟩:=h;have hm:m (.gst γ)=some (.gh l):=s1 _ _ hp;have h2:m2 (.gst γ)=none:=d.uZ hp;refine⟨⟨rfl,rfl,rfl,λ_ _ h=>h,λδ _=> ?_,Nat.le_refl _⟩,m2.set (.gst γ) (.gh (l++[b])),Fh h2 hq,?_,?_,?_,k.frz,k.os,k.tape,k.out⟩
 ·show F.gh δ <+:(if δ=γ then F.gh γ++[b] else F.gh δ);split
  ·rename_i e;subst e;exact List.prefix_append _ _
  ·exact List.prefix_refl _
 ·intro b';rcases k.dj b' with h | h
  ·cases e:m2 (.blk b') with
   | none=>exact .inl (by simpa[Mem.set] using e)
   | some c=>rw[s2 _ _ e] at h;cases h
  ·exact .inr h
 ·intro b' x e;exact k.own b' x (s2 _ _ (by simpa[Mem.set] using e))
 ·intro δ c e;by_cases e' :δ=γ
  ·subst e';simp[Mem.set] at e;subst e;exact⟨h0,by simp[Fz.wD,hl]⟩
  ·have e2:m2 (.gst δ)=some c:=by simpa[Mem.set,e'] using e
   obtain⟨h1,h3⟩:=k.gst δ c (s2 _ _ e2);exact⟨h1,by simp[Fz.wD,e',h3]⟩
def Fz.add(F:Fz)(b:Nat)(o:Obj):Fz:={F with mem:=S8 F.mem b o}
theorem Fz.gA{F:Fz}{b:Nat}{o:Obj}(h:F.mem b=none):F<=F.add b o:=
 ⟨rfl,rfl,rfl,λk x e=>by
  show S8 F.mem b o k=some x;by_cases e' :k=b
  ·subst e';rw[h] at e;cases e
  ·simpa[S8,e'] using e,λ_ _=>List.prefix_refl _,Nat.le_refl _⟩
theorem Fz.uS(F:Fz)(b:Nat)(o:Obj):(F.add b o).mem b=some o:=by simp[Fz.add,S8]
theorem SH.freeze{w:World}{F:Fz}{b:Nat}{o:Obj}{H:HP}(h:SH w F (star (pt b o) H)):F<=F.add b o/\SH w (F.add b o) H:=by
 have hb:=h.owned;obtain⟨m,⟨m1,m2,d,s1,s2,hp,hq⟩,k⟩:=h;have hm:m (.blk b)=some (.obj o):=s1 _ _ hp
 have h0:F.mem b=none:=by
  rcases k.dj b with e | e
  ·rw[hm] at e;cases e
  ·exact e
 have k2:=k.sub s2;refine⟨Fz.gA h0,m2,hq,?_,k2.own,k2.gst,?_,k.os,k.tape,k.out⟩
 ·intro b';show m2 (.blk b')=none∨S8 F.mem b o b' =none;by_cases e:b' =b
  ·subst e;exact .inl (d.uZ hp)
  ·rcases k2.dj b' with h | h
   ·exact .inl h
   ·exact .inr (by simpa[S8,e] using h)
 ·intro b' x e;change S8 F.mem b o b' =some x at e
  by_cases e' :b' =b
  ·subst e';simp[S8] at e;subst e;exact hb
  ·simp[S8,e'] at e;exact k.frz b' x e
theorem SH.xH{w:World}{F:Fz}{H:HP}(h:SH w F H)(o:Obj):F<=F.add w.heap.size o/\SH (w.alloc o) (F.add w.heap.size o) H:=
 (h.alloc o).freeze
def put(w:World)(b:Nat)(o:Obj):World:={w with heap:=w.heap.setIfInBounds b o}
theorem BI{w:World}{b:Nat}{o x:Obj}(h:w.heap[b]? =some x):(put w b o).heap[b]? =some o:=by
 have:=lt_of_heap h;simp[put,this]
theorem DG{w:World}{b k:Nat}{o:Obj}(h:k≠b):(put w b o).heap[k]? =w.heap[k]? :=by
 simp[put,Ne.symm h]
theorem SH.put{w:World}{F:Fz}{b:Nat}{o o' :Obj}{H:HP}(h:SH w F (star (pt b o) H)):SH (Dec.put w b o') F (star (pt b o') H):=by
 have hb:=h.owned;obtain⟨m,⟨m1,m2,d,s1,s2,hp,hq⟩,k⟩:=h;have hm:m (.blk b)=some (.obj o):=s1 _ _ hp
 have h0:F.mem b=none:=by
  rcases k.dj b with e | e
  ·rw[hm] at e;cases e
  ·exact e
 have h2:m2 (.blk b)=none:=d.uZ hp;have k2:=k.sub s2;refine⟨m2.set (.blk b) (.obj o'),Fh h2 hq,?_,?_,?_,?_,k.os,k.tape,k.out⟩
 ·intro b';by_cases e:b' =b
  ·subst e;exact .inr h0
  ·rcases k2.dj b' with h | h
   ·exact .inl (by simpa[Mem.set,e] using h)
   ·exact .inr h
 ·intro b' x e;by_cases e' :b' =b
  ·subst e';simp[Mem.set] at e;subst e;exact⟨o',rfl,BI hb⟩
  ·simp[Mem.set,e'] at e
   obtain⟨o2,e1,e2⟩:=k2.own b' x e;exact⟨o2,e1,by rw[DG e'];exact e2⟩
 ·intro γ c e;exact k2.gst γ c (by simpa[Mem.set] using e)
 ·intro b' x e;have:b'≠b:=λe' =>by subst e';rw[h0] at e;cases e
  rw[DG this];exact k.frz b' x e
theorem SH.pull{w:World}{F:Fz}{hs:List HP}{k:Nat}{p:HP}(hk:hs[k]? =some p)(h:SH w F (QY hs)):SH w F (star p (QY (hs.eraseIdx k))):=
 h.mono λ_=>Jv hk
theorem SH.push{w:World}{F:Fz}{hs:List HP}{k:Nat}{p q:HP}(hk:hs[k]? =some q)(h:SH w F (star p (QY (hs.eraseIdx k)))):SH w F (QY (hs.set k p)):=
 h.mono λ_=>Wh hk
theorem SH.uV{w:World}{F:Fz}{hs:List HP}{k:Nat}{b:Nat}{o:Obj}(hk:hs[k]? =some (pt b o))(h:SH w F (QY hs)):w.heap[b]? =some o:=
 (h.pull hk).owned
theorem SH.putAt{w:World}{F:Fz}{hs:List HP}{k:Nat}{b:Nat}{o:Obj}(hk:hs[k]? =some (pt b o))(h:SH w F (QY hs))(o' :Obj):SH (Dec.put w b o') F (QY (hs.set k (pt b o'))):=
 SH.push hk ((h.pull hk).put)
theorem SH.xO{w:World}{F:Fz}{hs:List HP}{k:Nat}{b:Nat}{o:Obj}(hk:hs[k]? =some (pt b o))(h:SH w F (QY hs)):F<=F.add b o/\SH w (F.add b o) (QY (hs.eraseIdx k)):=
 (h.pull hk).freeze
theorem SH.wC{w:World}{F:Fz}{hs:List HP}(k:Nat)(h:SH w F (QY hs)):SH w F (QY (hs.eraseIdx k)):=
 (h.mono λ_=>HN (k:=k)).drop
theorem SH.only{w:World}{F:Fz}{hs:List HP}{k:Nat}{p:HP}(hk:hs[k]? =some p)(h:SH w F (QY hs)):SH w F p:=by
 obtain⟨m,hm,s⟩:=h;obtain⟨m1,m2,d,s1,s2,hp,_⟩:=Jv hk hm;exact⟨m1,hp,s.sub s1⟩
theorem SH.one{w:World}{F:Fz}{p:HP}(h:SH w F p):SH w F (QY [p]):=
 h.mono λm hm=>⟨m,λ_=>none,λ_=>.inr rfl,Mem.sub.refl _,λ_ _ e=>by simp at e,hm,trivial⟩
theorem SH.size_le{w w' :World}{F F' :Fz}{H' :HP}(h' :SH w' F' H')(hall:∀b o,w.heap[b]? =some o->F.mem b=some o)(le:F<=F'):w.heap.size<=w'.heap.size/\∀k,k < w.heap.size->w'.heap[k]? =w.heap[k]? :=by
 have key:∀k,k < w.heap.size->w'.heap[k]? =w.heap[k]? :=λk hk=>by
  have e:w.heap[k]? =some w.heap[k]:=by simp[hk]
  rw[e];exact h'.frozen (le.mem _ _ (hall _ _ e))
 refine⟨?_,key⟩;rcases Nat.lt_or_ge w'.heap.size w.heap.size with hlt | hge
 ·have e:=key w'.heap.size hlt;have e2:w.heap[w'.heap.size]? =some w.heap[w'.heap.size]:=by simp[hlt]
  rw[e2] at e
  have:=lt_of_heap e;omega
 ·exact hge
end
section
variable{O:Option Nat}
def KU:List (Nat×Value)->Nat->Option Value
 | [],_=>none
 | (k,v)::S,i=>match Nat.beq k i with
  | true=>some v
  | false=>KU S i
def Sl(n:Nat)(D:List Deferred)(S:List (Nat×Value))(a:Act):Prop:=
 a.tmps.size=n/\a.defers=D/\∀i v,KU S i=some v->a.tmps.getD i undef=v
def Hd(n:Nat)(D:List Deferred)(S:List (Nat×Value))(F:Fz)(hs:List HP)(a:Act)(w:World):Prop:=
 Sl n D S a/\SH w F (QY hs)
def QK(S:List (Nat×Value)):Operand->Option Value
 | .tmp t=>KU S t
 | .const v=>some v
 | .global g=>some (.pointer (some ⟨g,0,none⟩))
 | .func f=>some (.func (.func f) #[] #[])
theorem Sl.eval{n:Nat}{D:List Deferred}{S:List (Nat×Value)}{a:Act}(h:Sl n D S a){o:Operand}{v:Value}(e:QK S o=some v):a.eval o=v:=by
 cases o with
 | tmp t=>exact h.2.2 t v e
 | const x=>exact Option.some.inj e
 | global g=>exact Option.some.inj e
 | func f=>exact Option.some.inj e
theorem Sl.put{n:Nat}{D:List Deferred}{S:List (Nat×Value)}{a:Act}(h:Sl n D S a){d:Nat}(hd:Nat.blt d n=true)(v:Value):Sl n D ((d,v)::S) (a.put (some d) v):=by
 have hd' :d < n:=Nat.le_of_ble_eq_true hd;obtain⟨h1,h2,h3⟩:=h;refine⟨by simp[Act.put,h1],by simp[Act.put,h2],λi u e=> ?_⟩;simp only[KU] at e
 cases hb:Nat.beq d i with
 | true=>
  rw[hb] at e
  have:d=i:=Nat.eq_of_beq_eq_true hb;subst this;simp only[Option.some.injEq] at e
  subst e;simp[Act.put,Array.getD_eq_getD_getElem?,h1,hd']
 | false=>
  rw[hb] at e
  have hne:d≠i:=λhe=>by subst he;simp at hb
  have:=h3 i u e;simp only[Act.put,Array.getD_eq_getD_getElem?] at this ⊢
  rw[Array.getElem?_setIfInBounds_ne hne];exact this
theorem Sl.ud{n:Nat}{D:List Deferred}{S:List (Nat×Value)}{a:Act}(h:Sl n D S a)(v:Value):Sl n D S (a.put none v):=h
def Sub(S' S:List (Nat×Value)):Prop:=∀i v,KU S' i=some v->KU S i=some v
theorem Sub.refl(S:List (Nat×Value)):Sub S S:=λ_ _ h=>h
theorem Sub.nil(S:List (Nat×Value)):Sub [] S:=λ_ _ h=>by simp[KU] at h
theorem Sub.cons{S T:List (Nat×Value)}{k:Nat}{v:Value}(h:KU S k=some v)(t:Sub T S):Sub ((k,v)::T) S:=λi u e=>by
 simp only[KU] at e
 cases hb:Nat.beq k i with
 | true=>
  rw[hb] at e
  have:k=i:=Nat.eq_of_beq_eq_true hb;subst this;simp only[Option.some.injEq] at e
  subst e;exact h
 | false=>rw[hb] at e;exact t i u e
theorem Sl.sub{n:Nat}{D:List Deferred}{S S' :List (Nat×Value)}{a:Act}(h:Sl n D S a)(s:Sub S' S):Sl n D S' a:=
 ⟨h.1,h.2.1,λi v e=>h.2.2 i v (s i v e)⟩
def Bj(k:Nat):List (Nat×Value)->Bool
 | []=>false
 | (j,_)::S=>Nat.beq j k||Bj k S
def fresh(S:List (Nat×Value)):List (Nat×Value)->Bool
 | []=>true
 | (j,_)::T=> !Bj j S&&fresh S T
theorem X8:∀{S:List (Nat×Value)} {i:Nat} {v:Value},KU S i=some v->Bj i S=true
 | [],_,_,h=>by simp[KU] at h
 | (k,u)::S,i,v,h=>by
  simp only[KU] at h
  simp only[Bj];cases hb:Nat.beq k i with
  | true=>rfl
  | false=>rw[hb] at h;simp[X8 h]
theorem HY:∀{T S:List (Nat×Value)} {i:Nat} {v:Value},fresh S T=true->KU S i=some v->KU (T++S) i=some v
 | [],_,_,_,_,h=>h
 | (j,u)::T,S,i,v,hf,h=>by
  simp only[fresh,Bool.and_eq_true,Bool.not_eq_true'] at hf
  simp only[List.cons_append,KU];cases hb:Nat.beq j i with
  | true=>
   have:j=i:=Nat.eq_of_beq_eq_true hb;subst this;rw[X8 h] at hf;cases hf.1
  | false=>exact HY hf.2 h
inductive Kt where
 | code (c:Code)
 | block (id:Nat)
def AW:Option Nat->Fence
 | none=>Fence.wide
 | some l=>Fence.wide.inRound l
theorem IQ(O:Option Nat):(AW O).round=O:=by cases O<;>rfl
theorem G6(O:Option Nat)(f:FuncId):(AW O).fn f:=by cases O<;>trivial
theorem Ds(O:Option Nat):(AW O).depth=none:=by cases O<;>rfl
theorem GJ(O:Option Nat)(n:Nat):(AW O).room n:=λd hd=>by rw[Ds] at hd;cases hd
theorem Rh{O:Option Nat}{n:Nat}{P:Program}{f:FuncId}{args:Array Value}{w:World}{R:Ending->World->Prop}:CallsIn (AW O) n P f args w R↔Calls P f args w R:=by
 cases O with
 | none=>exact callsIn_wide
 | some l=>exact callsIn_wide
def Xd:Op->Bool
 | .defer _=>false
 | _=>true
theorem L9{o:Op}(h:Xd o=true):∀c,o≠.defer c:=λc e=>by rw[e] at h;cases h
def O1(O:Option Nat)(P:Program)(o:Oper)(a:Act)(w:World)(K:Act->World->Prop)(Q:Exit->Act->World->Prop):Prop:=
 (O=none∨Xd o.op=true)/\o.uponIn (AW O) 0 P a K Q ((execOp a.eval o).run P w)
theorem O1.wpIn{O:Option Nat}{P:Program}{o:Oper}{a:Act}{w:World}{K:Act->World->Prop}{Q:Exit->Act->World->Prop}(h:O1 O P o a w K Q):o.wpIn (AW O) 0 P a w K Q:=by
 refine⟨λf _=>G6 O f,?_⟩;rw[IQ];obtain⟨h1,h2⟩:=h;rcases h1 with rfl | h1
 ·exact h2
 ·rw[Oper.semAt_eq O _ o (L9 h1)];exact h2
theorem E1{O:Option Nat}{P:Program}{o:Oper}{a:Act}{w:World}{K K' :Act->World->Prop}{Q Q' :Exit->Act->World->Prop}(h:∀u w,K (a.put o.dst u) w->K' (a.put o.dst u) w)
  (hd:∀d w,K ({a with defers:=d::a.defers}.put o.dst undef) w->K' ({a with defers:=d::a.defers}.put o.dst undef) w) (hx:∀e a w,e≠.normal->Q e a w->Q' e a w)
  (hh:O1 O P o a w K Q):O1 O P o a w K' Q' :=by
 obtain⟨h1,h2⟩:=hh;refine⟨h1,?_⟩;generalize(execOp a.eval o).run P w=r at*
 unfold Oper.uponIn at*
 split at h2
 all_goals first
  | exact h _ _ h2
  | exact hd _ _ h2
  | exact h2.elim
  | exact hx _ _ _ (by simp) h2
  | (refine⟨h2.1,CallsIn.mono h2.2 ?_⟩;rintro(v | c | _) w'' hq<;>first | exact h _ _ hq | exact hx _ _ _ (by simp) hq | (obtain⟨a1,w1,h3⟩:=hq;exact⟨a1,w1,hx _ _ _ (by simp) h3⟩))
  | (refine⟨h2.1,RowsIn.mono h2.2 ?_⟩;intro v w'' hq;exact h _ _ hq)
  | (refine⟨h2.1,RoundIn.mono h2.2 ?_⟩;rintro(v | c | _) w'' hq<;>first | exact h _ _ hq | exact hx _ _ _ (by simp) hq | (obtain⟨a1,w1,h3⟩:=hq;exact⟨a1,w1,hx _ _ _ (by simp) h3⟩))
theorem AL{O:Option Nat}{P:Program}{o:Oper}{a:Act}{w:World}{K K' :Act->World->Prop}{Q Q' :Exit->Act->World->Prop}(h:∀a w,K a w->K' a w)(hx:∀e a w,e≠.normal->Q e a w->Q' e a w)
 (hh:O1 O P o a w K Q):O1 O P o a w K' Q' :=E1 (λ_ _=>h _ _) (λ_ _=>h _ _) hx hh
theorem Fw{O:Option Nat}{P:Program}{o:Oper}{a:Act}{w:World}{K K' :Act->World->Prop}{Q:Exit->Act->World->Prop}(h:∀a w,K a w->K' a w)(hh:O1 O P o a w K Q):O1 O P o a w K' Q:=
 AL h (λ_ _ _ _ hq=>hq) hh
def XK(O:Option Nat)(P:Program)(ops:Array Oper)(Q:Exit->Act->World->Prop):List Oper->Act->World->Prop
 | [],a,w=>Q .normal a w
 | o::rest,a,w=>if Region.wanted o (yielded ops a.tmps) then O1 O P o a w (XK O P ops Q rest) Q else XK O P ops Q rest (a.put o.dst undef) w
theorem XK.wpIn{O:Option Nat}{P:Program}{ops:Array Oper}{Q:Exit->Act->World->Prop}:∀{l:List Oper} {a:Act} {w:World},XK O P ops Q l a w->wpListIn (AW O) 0 P ops Q l a w
 | [],_,_,h=>h
 | o::rest,a,w,h=>by
  unfold XK at h
  unfold wpListIn;split
  ·rename_i hw;rw[if_pos hw] at h
   exact(Fw (λa w h=>XK.wpIn h) h).wpIn
  ·rename_i hw;rw[if_neg hw] at h
   exact⟨λf _=>G6 O f,XK.wpIn h⟩
def Zs(O:Option Nat)(P:Program):List Kt->(Exit->Act->World->Prop)->Exit->Act->World->Prop
 | [],Q=>Q
 | .code c::ks,Q=>Exit.then (c.wpIn (AW O) 0 P (Zs O P ks Q)) (Zs O P ks Q)
 | .block id::ks,Q=>Exit.inBlock id (Zs O P ks Q)
def GK(id:Nat):List Kt->Option (List Kt)
 | []=>none
 | .code _::ks=>GK id ks
 | .block j::ks=>match Nat.beq j id with
  | true=>some ks
  | false=>GK id ks
theorem QX{P:Program}{Q:Exit->Act->World->Prop}{id:Nat}{a:Act}{w:World}:∀{ks ks' :List Kt},GK id ks=some ks'->Zs O P ks' Q .normal a w->Zs O P ks Q (.exit id) a w
 | [],_,h,_=>by simp[GK] at h
 | .code c::ks,ks',h,k=>by
  simp only[GK] at h
  show Zs O P ks Q (.exit id) a w;exact QX h k
 | .block j::ks,ks',h,k=>by
  simp only[GK] at h
  show(if id=j then Zs O P ks Q .normal a w else Zs O P ks Q (.exit id) a w);cases hb:Nat.beq j id with
  | true=>
   rw[hb] at h
   have:j=id:=Nat.eq_of_beq_eq_true hb;simp only[Option.some.injEq] at h
   subst h;rw[if_pos this.symm];exact k
  | false=>
   rw[hb] at h
   have hne:id≠j:=λhe=>by subst he;simp at hb
   rw[if_neg hne];exact QX h k
theorem Bi{P:Program}{Q:Exit->Act->World->Prop}{id:Nat}{a:Act}{w:World}:∀{ks:List Kt},GK id ks=none->Q (.exit id) a w->Zs O P ks Q (.exit id) a w
 | [],_,k=>k
 | .code c::ks,h,k=>by
  simp only[GK] at h
  show Zs O P ks Q (.exit id) a w;exact Bi h k
 | .block j::ks,h,k=>by
  simp only[GK] at h
  show(if id=j then Zs O P ks Q .normal a w else Zs O P ks Q (.exit id) a w);cases hb:Nat.beq j id with
  | true=>rw[hb] at h;simp at h
  | false=>
   rw[hb] at h
   have hne:id≠j:=λhe=>by subst he;simp at hb
   rw[if_neg hne];exact Bi h k
theorem KR{P:Program}{Q:Exit->Act->World->Prop}{a:Act}{w:World}:∀{ks:List Kt},Q .ret a w->Zs O P ks Q .ret a w
 | [],k=>k
 | .code c::ks,k=>by show Zs O P ks Q .ret a w;exact KR k
 | .block j::ks,k=>by show Zs O P ks Q .ret a w;exact KR k
theorem KV{P:Program}{Q:Exit->Act->World->Prop}{c:List PanicEntry}{a:Act}{w:World}:∀{ks:List Kt},Q (.panic c) a w->Zs O P ks Q (.panic c) a w
 | [],k=>k
 | .code c::ks,k=>by show Zs O P ks Q (.panic _) a w;exact KV k
 | .block j::ks,k=>by show Zs O P ks Q (.panic _) a w;exact KV k
section
variable{β:Type}(O:Option Nat)(P:Program)
def GL(ops:Array Oper)(l:List Oper)(ks:List Kt)(Q:Exit->Act->World->Prop)(A:Act->World->Prop)(m:Option β)(r:β):Prop:=
 m=some r->∀a w,A a w->XK O P ops (Zs O P ks Q) l a w
def GC(c:Code)(ks:List Kt)(Q:Exit->Act->World->Prop)(A:Act->World->Prop)(m:Option β)(r:β):Prop:=
 m=some r->∀a w,A a w->c.wpIn (AW O) 0 P (Zs O P ks Q) a w
def GE(ks:List Kt)(Q:Exit->Act->World->Prop)(A:Act->World->Prop)(m:Option β)(r:β):Prop:=
 m=some r->∀a w,A a w->Zs O P ks Q .normal a w
end
section
variable{β:Type}{P:Program}{ops:Array Oper}{l rest:List Oper}{ks:List Kt}{Q:Exit->Act->World->Prop}{A A' :Act->World->Prop}{m:Option β}{r:β}
theorem GC.seq{x y:Code}(h:GC O P x (.code y::ks) Q A m r):GC O P (.seq x y) ks Q A m r:=
 λhm a w ha=>wpIn_seq (h hm a w ha)
theorem GC.block{id:Nat}{c:Code}(h:GC O P c (.block id::ks) Q A m r):GC O P (.block id c) ks Q A m r:=
 λhm a w ha=>wpIn_block (h hm a w ha)
theorem GC.skip(h:GE O P ks Q A m r):GC O P .skip ks Q A m r:=λhm a w ha=>wpIn_skip (h hm a w ha)
theorem GC.exit{id:Nat}{ks' :List Kt}(hk:GK id ks=some ks')(h:GE O P ks' Q A m r):GC O P (.exit id) ks Q A m r:=
 λhm a w ha=>wpIn_exit (QX hk (h hm a w ha))
theorem GC.uB{id:Nat}(hk:GK id ks=none)(h:m=some r->∀a w,A a w->Q (.exit id) a w):GC O P (.exit id) ks Q A m r:=
 λhm a w ha=>wpIn_exit (Bi hk (h hm a w ha))
theorem GC.uY(h:m=some r->∀a w,A a w->Q .ret a w):GC O P .ret ks Q A m r:=
 λhm a w ha=>wpIn_ret (KR (h hm a w ha))
theorem GE.code{c:Code}(h:GC O P c ks Q A m r):GE O P (.code c::ks) Q A m r:=h
theorem GE.block{id:Nat}(h:GE O P ks Q A m r):GE O P (.block id::ks) Q A m r:=h
theorem GE.nil(h:m=some r->∀a w,A a w->Q .normal a w):GE O P [] Q A m r:=h
theorem GC.region{id:Nat}{l:List Oper}(h:GL O P l.toArray l ks Q A m r):GC O P (.region id l.toArray false) ks Q A m r:=
 λhm a w ha=>wpIn_region_lit (h hm a w ha).wpIn
theorem GL.nil(h:GE O P ks Q A m r):GL O P ops [] ks Q A m r:=h
theorem GC.cond{S:List (Nat×Value)}{n:Nat}{D:List Deferred}{F:Fz}{hs:List HP}{c:Operand}{x y:Code}{b:Bool}{m1 m2:Option β}(hc:QK S c=some (.bool b))
  (h1:b=true->GC O P x ks Q (Hd n D S F hs) m1 r) (h2:b=false->GC O P y ks Q (Hd n D S F hs) m2 r):GC O P (.cond c x y) ks Q (Hd n D S F hs) (if b then m1 else m2) r:=by
 intro hm a w ha;cases hb:b with
 | true=>rw[hb] at hc;rw[hb,if_pos rfl] at hm;exact wpIn_cond_true (ha.1.eval hc) (h1 hb hm a w ha)
 | false=>rw[hb] at hc;rw[hb,if_neg (by simp)] at hm;exact wpIn_cond_false (ha.1.eval hc) (h2 hb hm a w ha)
theorem GC.uy{S:List (Nat×Value)}{n:Nat}{D:List Deferred}{F:Fz}{hs:List HP}{c:Operand}{x y:Code}(hc:QK S c=some (.bool true))
  (h1:GC O P x ks Q (Hd n D S F hs) m r):GC O P (.cond c x y) ks Q (Hd n D S F hs) m r:=
 λhm a w ha=>wpIn_cond_true (ha.1.eval hc) (h1 hm a w ha)
theorem GC.uv{S:List (Nat×Value)}{n:Nat}{D:List Deferred}{F:Fz}{hs:List HP}{c:Operand}{x y:Code}(hc:QK S c=some (.bool false))
  (h1:GC O P y ks Q (Hd n D S F hs) m r):GC O P (.cond c x y) ks Q (Hd n D S F hs) m r:=
 λhm a w ha=>wpIn_cond_false (ha.1.eval hc) (h1 hm a w ha)
theorem GC.wq{c:Code}(h:∀a w,A a w->A' a w)(k:GC O P c ks Q A' m r):GC O P c ks Q A m r:=λhm a w ha=>k hm a w (h a w ha)
theorem GE.wq(h:∀a w,A a w->A' a w)(k:GE O P ks Q A' m r):GE O P ks Q A m r:=λhm a w ha=>k hm a w (h a w ha)
section
variable{S S' :List (Nat×Value)}{n:Nat}{D:List Deferred}{F F' :Fz}{hs hs' :List HP}
theorem GE.j(s:Sub S' S)(k:GE O P ks Q (Hd n D S' F hs) m r):GE O P ks Q (Hd n D S F hs) m r:=GE.wq (λ_ _ h=>⟨h.1.sub s,h.2⟩) k
theorem GC.j{c:Code}(s:Sub S' S)(k:GC O P c ks Q (Hd n D S' F hs) m r):GC O P c ks Q (Hd n D S F hs) m r:=GC.wq (λ_ _ h=>⟨h.1.sub s,h.2⟩) k
theorem GE.drop(i:Nat)(k:GE O P ks Q (Hd n D S F (hs.eraseIdx i)) m r):GE O P ks Q (Hd n D S F hs) m r:=GE.wq (λ_ _ h=>⟨h.1,h.2.wC i⟩) k
theorem GL.freeze{b:Nat}{o:Obj}(i:Nat)(hk:hs[i]? =some (pt b o))(k:∀F',F<=F'->F'.mem b=some o->GL O P ops l ks Q (Hd n D S F' (hs.eraseIdx i)) m r):GL O P ops l ks Q (Hd n D S F hs) m r:=
 λhm a w ha=>by
  obtain⟨h1,h2⟩:=SH.xO hk ha.2;exact k _ h1 (Fz.uS F b o) hm a w ⟨ha.1,h2⟩
end
def QL{α γ:Type}(x:α)(f:α->γ):γ:=f x
theorem GL.uA{α:Type}{x:α}{f:α->Option β}(h:∀y,y=x->GL O P ops l ks Q A (f y) r):GL O P ops l ks Q A (QL x f) r:=h x rfl
theorem GL.dD{α:Type}{x:α}{f:α->Option β}(h:GL O P ops l ks Q A (f x) r):GL O P ops l ks Q A (QL x f) r:=h
theorem GL.bind{α:Type}{e:Option α}{f:α->Option β}(h:∀y,e=some y->GL O P ops l ks Q A (f y) r):GL O P ops l ks Q A (e.bind f) r:=
 λhm=>by
  cases e with
  | none=>simp at hm
  | some y=>exact h y rfl hm
end
inductive JM(σ β:Type) where
 | next(s:σ)
 | done (b:β)
def We{σ β:Type}(body:σ->Option (JM σ β)):Nat->σ->Option β
 | 0,_=>none
 | n+1,s=>match body s with
  | none=>none
  | some (.done b)=>some b
  | some (.next s')=>We body n s'
open Classical in
def Qk{σ β:Type}(body:σ->Option (JM σ β))(s:σ):Option β:=
 if h:∃b n,We body n s=some b then some h.choose else none
theorem Bf{σ β:Type}{body:σ->Option (JM σ β)}:∀{n k:Nat} {s:σ} {b:β},n<=k->We body n s=some b->We body k s=some b
 | 0,_,_,_,_,h=>by simp[We] at h
 | n+1,0,_,_,le,_=>by omega
 | n+1,k+1,s,b,le,h=>by
  simp only[We] at h ⊢
  cases hb:body s with
  | none=>rw[hb] at h;cases h
  | some c=>
   rw[hb] at h
   cases c with
   | done x=>exact h
   | next s' =>exact Bf (Nat.le_of_succ_le_succ le) h
theorem Bg{σ β:Type}{body:σ->Option (JM σ β)}{n:Nat}{s:σ}{b:β}(h:We body n s=some b):Qk body s=some b:=by
 have he:∃b n,We body n s=some b:=⟨b,n,h⟩;unfold Qk;rw[dif_pos he];obtain⟨k,hk⟩:=he.choose_spec;have h1:=Bf (Nat.le_max_left n k) h;have h2:=Bf (Nat.le_max_right n k) hk;rw[h1] at h2
 exact h2.symm
theorem Gw{σ β:Type}{body:σ->Option (JM σ β)}{s:σ}{b:β}(h:Qk body s=some b):∃n,We body n s=some b:=by
 unfold Qk at h
 split at h
 ·rename_i he;simp only[Option.some.injEq] at h
  obtain⟨n,hn⟩:=he.choose_spec;exact⟨n,h▸hn⟩
 ·cases h
theorem Q9{σ β:Type}(body:σ->Option (JM σ β))(s:σ):Qk body s=match body s with
  | none=>none
  | some (.done b)=>some b
  | some (.next s')=>Qk body s' :=by
 cases hb:body s with
 | none=>
  cases h:Qk body s with
  | none=>rfl
  | some b=>
   obtain⟨n,hn⟩:=Gw h;cases n with
   | zero=>simp[We] at hn
   | succ n=>simp[We,hb] at hn
 | some c=>
  cases c with
  | done b=>exact Bg (n:=1) (by simp[We,hb])
  | next s' =>
   show Qk body s=Qk body s';cases h:Qk body s' with
   | some b=>
    obtain⟨n,hn⟩:=Gw h;exact Bg (n:=n+1) (by simp only[We,hb];exact hn)
   | none=>
    cases h2:Qk body s with
    | none=>rfl
    | some b=>
     obtain⟨n,hn⟩:=Gw h2;cases n with
     | zero=>simp[We] at hn
     | succ n=>
      simp only[We,hb] at hn
      rw[Bg hn] at h;cases h
def QZ{σ β:Type}(I:σ->Act->World->Prop)(Dn:β->Exit->Act->World->Prop)(c:JM σ β):Exit->Act->World->Prop:=λe a w=>
 match c with
 | .next s=>e= .normal/\I s a w
 | .done b=>e≠.normal/\Dn b e a w
theorem Nt{σ β:Type}{P:Program}{c:Code}{body:σ->Option (JM σ β)}{I:σ->Act->World->Prop}{Dn:β->Exit->Act->World->Prop}{b:β}
  (round:∀s ctl,body s=some ctl->∀a w,I s a w->c.wpIn (AW O) 0 P (QZ I Dn ctl) a w):∀(n:Nat) (s:σ),We body n s=some b->∀a w,I s a w->
   ∀(fr:Frame) (k:List Item) (cs:List Frame),fr.roundOf=(AW O).round->∃e a' w',Dn b e a' w'/\ArrivesIn (Machine.fenced P (AW O)) P (lone (fr.atR a (.code c:: .inLoop c::k)) cs w) fr k cs e a' w'
 | 0,_,h,_,_,_,_,_,_,_=>by simp[We] at h
 | n+1,s,h,a,w,hI,fr,k,cs,hro=>by
  simp only[We] at h
  cases hb:body s with
  | none=>rw[hb] at h;cases h
  | some ctl=>
   rw[hb] at h
   obtain⟨e,a₁,w₁,hq,harr⟩:=round s ctl hb a w hI fr (.inLoop c::k) cs hro (G6 O _) (GJ O _);cases ctl with
   | next s' =>
    obtain⟨rfl,hI'⟩:=hq;obtain⟨e₂,a₂,w₂,hq₂,harr₂⟩:=Nt round n s' h a₁ w₁ hI' fr k cs hro;exact⟨e₂,a₂,w₂,hq₂,.of_steps (StepsIn.trans harr (.one (fenced_calm (n:=0) (G6 O _) (GJ O _) rfl) stepR_inLoop)) harr₂⟩
   | done b' =>
    obtain⟨hne,hq⟩:=hq;simp only[Option.some.injEq] at h
    subst h;refine⟨e,a₁,w₁,hq,?_⟩;exact .pass (x:=.inLoop c) rfl (λ_ _=>.inl hne) harr
section
variable{β:Type}{P:Program}{ks:List Kt}{Q:Exit->Act->World->Prop}{A:Act->World->Prop}{r:β}
theorem GC.loop{σ γ:Type}{c:Code}{body:σ->Option (JM σ γ)}{s0:σ}{f:γ->Option β}(I:σ->Act->World->Prop)(Dn:γ->Exit->Act->World->Prop)
  (hI:∀a w,A a w->I s0 a w)
  (round:∀s ctl,GC O P c [] (QZ I Dn ctl) (I s) (body s) ctl)
  (after:∀b,Qk body s0=some b->f b=some r->∀e a w,Dn b e a w->Zs O P ks Q e a w):
  GC O P (.loop c) ks Q A ((Qk body s0).bind f) r:=by
 intro hm a w ha;cases hl:Qk body s0 with
 | none=>rw[hl] at hm;cases hm
 | some b=>
  rw[hl] at hm
  obtain⟨n,hn⟩:=Gw hl;intro fr k cs hro hf hr;obtain⟨e,a',w',hq,harr⟩:=Nt (Dn:=Dn) (λs ctl hs a w hI' =>round s ctl hs a w hI') n s0 hn a w (hI a w ha) fr k cs hro;exact⟨e,a',w',after b hl hm e a' w' hq,.of_steps (.one (fenced_calm hf hr rfl) stepR_loop) harr⟩
theorem GC.join{σ γ:Type}{c:Code}{m0:Option (JM σ γ)}{f:JM σ γ->Option β}(I:σ->Act->World->Prop)(Dn:γ->Exit->Act->World->Prop)
  (h:∀ctl,GC O P c [] (QZ I Dn ctl) A m0 ctl)
  (next:∀s,m0=some (.next s)->GE O P ks Q (I s) (f (.next s)) r)
  (done:∀b,m0=some (.done b)->f (.done b)=some r->∀e a w,Dn b e a w->Zs O P ks Q e a w):
  GC O P c ks Q A (m0.bind f) r:=by
 intro hm a w ha;cases hl:m0 with
 | none=>rw[hl] at hm;cases hm
 | some ctl=>
  rw[hl] at hm
  refine wpIn_mono (h ctl hl a w ha) λe a' w' hq=> ?_;cases ctl with
  | next s=>obtain⟨rfl,hq⟩:=hq;exact next s hl hm a' w' hq
  | done b=>exact done b hl hm e a' w' hq.2
theorem GC.ua{σ:Type}{c:Code}{m0:Option σ}{f:σ->Option β}(I:σ->Act->World->Prop)
  (h:∀s,GC O P c [] (λe a w=>e= .normal/\I s a w) A m0 s)
  (next:∀s,m0=some s->GE O P ks Q (I s) (f s) r):
  GC O P c ks Q A (m0.bind f) r:=by
 intro hm a w ha;cases hl:m0 with
 | none=>rw[hl] at hm;cases hm
 | some s=>
  rw[hl] at hm
  refine wpIn_mono (h s hl a w ha) λe a' w' hq=> ?_;obtain⟨rfl,hq⟩:=hq;exact next s hl hm a' w' hq
end
def CT{β:Type}(P:Program)(f:FuncId)(args:Array Value)(F:Fz)(H:HP)(m:Option β)(ρ:β->Fz->Value->Prop)(H' :β->Fz->Value->HP):Prop:=
 ∀r,m=some r->∀w R,SH w F (star H R)->Calls P f args w (λe w' =>∃F' v,F<=F'/\e= .returned v/\ρ r F' v/\SH w' F' (star (H' r F' v) R))
def KN{β:Type}(P:Program)(f:FuncId)(args:Array Value)(F:Fz)(m:Option β)(ρ:β->Fz->Value->Prop):Prop:=
 ∀r,m=some r->∀w R,SH w F R->Calls P f args w (λe w' =>∃F' v,F<=F'/\e= .returned v/\ρ r F' v/\SH w' F' R)
def HD:Nat->List Value->List (Nat×Value)
 | _,[]=>[]
 | i,v::vs=>(i,v)::HD (i+1) vs
theorem RJ:∀{vs:List Value} {i j:Nat} {v:Value},KU (HD i vs) j=some v->i<=j/\vs[j - i]? =some v
 | [],_,_,_,h=>by simp[HD,KU] at h
 | x::vs,i,j,v,h=>by
  simp only[HD,KU] at h
  cases hb:Nat.beq i j with
  | true=>
   rw[hb] at h
   have:i=j:=Nat.eq_of_beq_eq_true hb;subst this;exact⟨Nat.le_refl _,by simpa using h⟩
  | false=>
   rw[hb] at h
   obtain⟨h1,h2⟩:=RJ h;refine⟨by omega,?_⟩;rw[show j - i=(j - (i+1))+1 by omega];simpa using h2
def AV{β:Type}(P:Program)(fn:Func)(F:Fz)(R:HP)(ρ:β->Fz->Value->Prop)(r:β):Exit->Act->World->Prop:=
 bodyPost P fn (λe w' =>∃F' v,F<=F'/\e= .returned v/\ρ r F' v/\SH w' F' R)
def NS{β:Type}(P:Program)(fn:Func)(F:Fz)(R:HP)(ρ:β->Fz->Value->Prop)(H' :β->Fz->Value->HP)(r:β):Exit->Act->World->Prop:=
 bodyPost P fn (λe w' =>∃F' v,F<=F'/\e= .returned v/\ρ r F' v/\SH w' F' (star (H' r F' v) R))
theorem Y0{args:List Value}{n:Nat}(hn:Nat.ble args.length n=true):Sl n [] (HD 0 args) {tmps:=args.toArray++Array.replicate (n - args.toArray.size) undef,defers:=[]}:=by
 have hn' :args.length<=n:=Nat.le_of_ble_eq_true hn;refine⟨by simp;omega,rfl,λi v e=> ?_⟩;obtain⟨_,h2⟩:=RJ e;simp only[Nat.sub_zero] at h2
 have hi:i < args.length:=by
  rcases Nat.lt_or_ge i args.length with h | h
  ·exact h
  ·rw[List.getElem?_eq_none h] at h2;cases h2
 simp only[Array.getD_eq_getD_getElem?];rw[Array.getElem?_append_left (by simpa using hi)];simp[h2]
theorem KN.enter{β:Type}{P:Program}{f:FuncId}{fn:Func}{c:Code}{args:List Value}{F:Fz}{m:Option β}{ρ:β->Fz->Value->Prop}{n:Nat}
  (hf:P.funcs[f]? =some fn) (hb:fn.body=some c) (hn:fn.ntmps=n) (ha:Nat.ble args.length n=true)
  (k:∀r R,GC none P c [] (AV P fn F R ρ r) (Hd n [] (HD 0 args) F [R]) m r):KN P f args.toArray F m ρ:=by
 intro r hm w R hw;refine calls_of_wp hf hb (wpIn_wide.1 (k r R hm _ w ⟨?_,hw.one⟩));rw[hn];exact Y0 ha
theorem SH.two{w:World}{F:Fz}{p q:HP}(h:SH w F (star p q)):SH w F (QY [p,q]):=
 h.mono λm hm=>QM (λm' hq=>⟨m',λ_=>none,λ_=>.inr rfl,Mem.sub.refl _,λ_ _ e=>by simp at e,hq,trivial⟩) hm
theorem CT.enter{β:Type}{P:Program}{f:FuncId}{fn:Func}{c:Code}{args:List Value}{F:Fz}{H:HP}{m:Option β}{ρ:β->Fz->Value->Prop}{H' :β->Fz->Value->HP}{n:Nat}
  (hf:P.funcs[f]? =some fn) (hb:fn.body=some c) (hn:fn.ntmps=n) (ha:Nat.ble args.length n=true)
  (k:∀r R,GC none P c [] (NS P fn F R ρ H' r) (Hd n [] (HD 0 args) F [H,R]) m r):CT P f args.toArray F H m ρ H' :=by
 intro r hm w R hw;refine calls_of_wp hf hb (wpIn_wide.1 (k r R hm _ w ⟨?_,hw.two⟩));rw[hn];exact Y0 ha
end
section
variable{O:Option Nat}
theorem JP{P:Program}{t:TypeId}{d:TypeDesc}(h:P.underlying t=some d)(w:World):(underlying t).run P w= .ok d w:=by
 simp[underlying,h]
section
variable{β:Type}{P:Program}{ops:Array Oper}{rest:List Oper}{ks:List Kt}{Q:Exit->Act->World->Prop}{A:Act->World->Prop}{m:Option β}{r:β}
theorem GL.step{o:Oper}(hg:o.guard=none)(hnd:O=none∨Xd o.op=true)(h:m=some r->∀a w,A a w->∃v w',(execOp a.eval o).run P w= .ok (.value v) w'/\XK O P ops (Zs O P ks Q) rest (a.put o.dst v) w'):
  GL O P ops (o::rest) ks Q A m r:=by
 intro hm a w ha;obtain⟨v,w',h1,h2⟩:=h hm a w ha;unfold XK;rw[if_pos (by simp[Region.wanted,hg])];refine⟨hnd,?_⟩;rw[h1];exact h2
theorem GL.wj{o:Oper}(hg:o.guard=none)(hnd:O=none∨Xd o.op=true)(h:m=some r->∀a w,A a w->∃w',(execOp a.eval o).run P w= .ok .skip w'/\XK O P ops (Zs O P ks Q) rest (a.put o.dst undef) w'):
  GL O P ops (o::rest) ks Q A m r:=by
 intro hm a w ha;obtain⟨w',h1,h2⟩:=h hm a w ha;unfold XK;rw[if_pos (by simp[Region.wanted,hg])];refine⟨hnd,?_⟩;rw[h1];exact h2
section
variable{n:Nat}{D:List Deferred}{S:List (Nat×Value)}{F:Fz}{hs:List HP}
theorem Ro{a:Act}{j t:Nat}{b:Bool}(hj:(ops[j]?).bind (·.dst)=some t)(hs:Sl n D S a)(hv:KU S t=some (.bool b)):yielded ops a.tmps j=some b:=by
 have h:=hs.2.2 t _ hv;unfold yielded;rw[hj];simp only[Option.bind_some];simp only[Array.getD_eq_getD_getElem?] at h
 cases e:a.tmps[t]? with
 | none=>rw[e] at h;simp[undef] at h
 | some v=>rw[e] at h;simp at h;subst h;rfl
theorem GL.on{dst:Option Tmp}{op:Op}{ty:TypeId}{pos:String}{after:Array Edge}{j t:Nat}{want:Bool}(hj:(ops[j]?).bind (·.dst)=some t)(hv:KU S t=some (.bool want))
  (k:GL O P ops (⟨dst,op,ty,pos,after,none⟩::rest) ks Q (Hd n D S F hs) m r):GL O P ops (⟨dst,op,ty,pos,after,some (j,want)⟩::rest) ks Q (Hd n D S F hs) m r:=by
 intro hm a w ha;have h:=k hm a w ha;have hy:=Ro (ops:=ops) hj ha.1 hv;unfold XK at h ⊢
 rw[if_pos (by simp[Region.wanted])] at h
 rw[if_pos (by simp[Region.wanted,hy])];exact h
def ko:Value->Bool->Bool
 | .bool b,want=>b != want
 | .tuple _,_=>true
 | _,_=>false
theorem GL.off{d:Nat}{op:Op}{ty:TypeId}{pos:String}{after:Array Edge}{j t:Nat}{want:Bool}{v:Value}(hd:Nat.blt d n=true)(hj:(ops[j]?).bind (·.dst)=some t)(hv:KU S t=some v)(hx:ko v want=true)
  (k:GL O P ops rest ks Q (Hd n D ((d,undef)::S) F hs) m r):GL O P ops (⟨some d,op,ty,pos,after,some (j,want)⟩::rest) ks Q (Hd n D S F hs) m r:=by
 intro hm a w ha
 have hy:yielded ops a.tmps j≠some want:=by
  have h:=ha.1.2.2 t _ hv;unfold yielded;rw[hj];simp only[Option.bind_some];simp only[Array.getD_eq_getD_getElem?] at h
  cases e:a.tmps[t]? with
  | none=>simp
  | some u=>
   rw[e] at h;simp at h;subst h
   cases u<;>simp[ko] at hx ⊢
   exact hx
 unfold XK;rw[if_neg (by simp[Region.wanted,hy])];exact k hm _ w ⟨ha.1.put hd _,ha.2⟩
theorem GL.val{d:Nat}{op:Op}{ty:TypeId}{pos:String}{after:Array Edge}{v:Value}(hd:Nat.blt d n=true)
  (hrun:∀a w,Hd n D S F hs a w->(execOp a.eval ⟨some d,op,ty,pos,after,none⟩).run P w= .ok (.value v) w)
  (k:GL O P ops rest ks Q (Hd n D ((d,v)::S) F hs) m r) (hnd:Xd op=true:=by rfl):GL O P ops (⟨some d,op,ty,pos,after,none⟩::rest) ks Q (Hd n D S F hs) m r:=
 GL.step rfl (.inr hnd) λhm a w ha=>⟨v,w,hrun a w ha,k hm _ w ⟨ha.1.put hd v,ha.2⟩⟩
section
variable{d:Nat}{ty t t' :TypeId}{pos:String}{after:Array Edge}{ox oy oz:Operand}{v u:Value}{kd:IntKind}{x y:Int}
theorem GL.move(hd:Nat.blt d n=true)(hx:QK S ox=some v)(k:GL O P ops rest ks Q (Hd n D ((d,v)::S) F hs) m r):
  GL O P ops (⟨some d,.move ox,ty,pos,after,none⟩::rest) ks Q (Hd n D S F hs) m r:=
 GL.val hd (λa w ha=>by simp[execOp,ha.1.eval hx]) k
theorem GL.assign(hd:Nat.blt d n=true)(hx:QK S ox=some v)(k:GL O P ops rest ks Q (Hd n D ((d,v)::S) F hs) m r):
  GL O P ops (⟨some d,.assign ox,ty,pos,after,none⟩::rest) ks Q (Hd n D S F hs) m r:=
 GL.val hd (λa w ha=>by simp[execOp,ha.1.eval hx]) k
theorem GL.uN{f:Int->Option β}(hd:Nat.blt d n=true)(hx:QK S ox=some (.int kd x))(k:∀y,y=x->GL O P ops rest ks Q (Hd n D ((d,.int kd y)::S) F hs) (f y) r):
 GL O P ops (⟨some d,.assign ox,ty,pos,after,none⟩::rest) ks Q (Hd n D S F hs) (QL x f) r:=GL.assign hd hx (k x rfl)
theorem GL.xF{b:Bool}{f:Bool->Option β}(hd:Nat.blt d n=true)(hx:QK S ox=some (.bool b))(k:∀y,y=b->GL O P ops rest ks Q (Hd n D ((d,.bool y)::S) F hs) (f y) r):
 GL O P ops (⟨some d,.assign ox,ty,pos,after,none⟩::rest) ks Q (Hd n D S F hs) (QL b f) r:=GL.assign hd hx (k b rfl)
theorem GL.fl(hd:Nat.blt d n=true)(hz:QK S oz=some (.bool true))(hx:QK S ox=some v)(k:GL O P ops rest ks Q (Hd n D ((d,v)::S) F hs) m r):
  GL O P ops (⟨some d,.pick oz ox oy,ty,pos,after,none⟩::rest) ks Q (Hd n D S F hs) m r:=
 GL.val hd (λa w ha=>by simp[execOp,ha.1.eval hx,ha.1.eval hz,asBool]) k
theorem GL.gu(hd:Nat.blt d n=true)(hz:QK S oz=some (.bool false))(hy:QK S oy=some v)(k:GL O P ops rest ks Q (Hd n D ((d,v)::S) F hs) m r):
  GL O P ops (⟨some d,.pick oz ox oy,ty,pos,after,none⟩::rest) ks Q (Hd n D S F hs) m r:=
 GL.val hd (λa w ha=>by simp[execOp,ha.1.eval hy,ha.1.eval hz,asBool]) k
theorem GL.add(hd:Nat.blt d n=true)(hx:QK S ox=some (.int kd x))(hy:QK S oy=some (.int kd y))(k:GL O P ops rest ks Q (Hd n D ((d,.int kd (kd.wrap (x+y)))::S) F hs) m r):
  GL O P ops (⟨some d,.binOp .add t ox oy t',ty,pos,after,none⟩::rest) ks Q (Hd n D S F hs) m r:=
 GL.val hd (λa w ha=>by simp[execOp,ha.1.eval hx,ha.1.eval hy,eqGuard,binOp,Op.intArith]) k
theorem GL.sub(hd:Nat.blt d n=true)(hx:QK S ox=some (.int kd x))(hy:QK S oy=some (.int kd y))(k:GL O P ops rest ks Q (Hd n D ((d,.int kd (kd.wrap (x - y)))::S) F hs) m r):
  GL O P ops (⟨some d,.binOp .sub t ox oy t',ty,pos,after,none⟩::rest) ks Q (Hd n D S F hs) m r:=
 GL.val hd (λa w ha=>by simp[execOp,ha.1.eval hx,ha.1.eval hy,eqGuard,binOp,Op.intArith]) k
theorem GL.mul(hd:Nat.blt d n=true)(hx:QK S ox=some (.int kd x))(hy:QK S oy=some (.int kd y))(k:GL O P ops rest ks Q (Hd n D ((d,.int kd (kd.wrap (x*y)))::S) F hs) m r):
  GL O P ops (⟨some d,.binOp .mul t ox oy t',ty,pos,after,none⟩::rest) ks Q (Hd n D S F hs) m r:=
 GL.val hd (λa w ha=>by simp[execOp,ha.1.eval hx,ha.1.eval hy,eqGuard,binOp,Op.intArith]) k
def Lu(kd:IntKind)(x y:Int):Option Int:=if y=0 then none else some (kd.wrap (x.tdiv y))
def R3(x y:Int):Option Int:=if y=0 then none else some (x.tmod y)
theorem GL.xW(hd:Nat.blt d n=true)(h0:y≠0)(hx:QK S ox=some (.int kd x))(hy:QK S oy=some (.int kd y))(k:GL O P ops rest ks Q (Hd n D ((d,.int kd (kd.wrap (x.tdiv y)))::S) F hs) m r):
  GL O P ops (⟨some d,.binOp .quo t ox oy t',ty,pos,after,none⟩::rest) ks Q (Hd n D S F hs) m r:=
 GL.val hd (λa w ha=>by simp[execOp,ha.1.eval hx,ha.1.eval hy,eqGuard,binOp,Op.intDiv,h0]) k
theorem GL.we(hd:Nat.blt d n=true)(h0:y≠0)(hx:QK S ox=some (.int kd x))(hy:QK S oy=some (.int kd y))(k:GL O P ops rest ks Q (Hd n D ((d,.int kd (x.tmod y))::S) F hs) m r):
  GL O P ops (⟨some d,.binOp .rem t ox oy t',ty,pos,after,none⟩::rest) ks Q (Hd n D S F hs) m r:=
 GL.val hd (λa w ha=>by simp[execOp,ha.1.eval hx,ha.1.eval hy,eqGuard,binOp,Op.intDiv,h0]) k
theorem GL.rem{f:Int->Option β}(hd:Nat.blt d n=true)(hx:QK S ox=some (.int kd x))(hy:QK S oy=some (.int kd y))(k:∀z,R3 x y=some z->GL O P ops rest ks Q (Hd n D ((d,.int kd z)::S) F hs) (f z) r):
  GL O P ops (⟨some d,.binOp .rem t ox oy t',ty,pos,after,none⟩::rest) ks Q (Hd n D S F hs) ((R3 x y).bind f) r:=
 GL.bind λz hz=>by
  have h0:y≠0:=λe=>by simp[R3,e] at hz
  have:z=x.tmod y:=by simpa[R3,h0] using hz.symm
  have hk:=k z hz;rw[this] at hk ⊢
  exact GL.we hd h0 hx hy hk
theorem GL.eql(hd:Nat.blt d n=true)(hx:QK S ox=some (.int kd x))(hy:QK S oy=some (.int kd y))(k:GL O P ops rest ks Q (Hd n D ((d,.bool (x==y))::S) F hs) m r):
  GL O P ops (⟨some d,.binOp .eql t ox oy t',ty,pos,after,none⟩::rest) ks Q (Hd n D S F hs) m r:=
 GL.val hd (λa w ha=>by simp[execOp,ha.1.eval hx,ha.1.eval hy,eqGuard,binOp,Op.intCmp]) k
theorem GL.neq(hd:Nat.blt d n=true)(hx:QK S ox=some (.int kd x))(hy:QK S oy=some (.int kd y))(k:GL O P ops rest ks Q (Hd n D ((d,.bool (x != y))::S) F hs) m r):
  GL O P ops (⟨some d,.binOp .neq t ox oy t',ty,pos,after,none⟩::rest) ks Q (Hd n D S F hs) m r:=
 GL.val hd (λa w ha=>by simp[execOp,ha.1.eval hx,ha.1.eval hy,eqGuard,binOp,Op.intCmp]) k
theorem GL.lss(hd:Nat.blt d n=true)(hx:QK S ox=some (.int kd x))(hy:QK S oy=some (.int kd y))(k:GL O P ops rest ks Q (Hd n D ((d,.bool (decide (x < y)))::S) F hs) m r):
  GL O P ops (⟨some d,.binOp .lss t ox oy t',ty,pos,after,none⟩::rest) ks Q (Hd n D S F hs) m r:=
 GL.val hd (λa w ha=>by simp[execOp,ha.1.eval hx,ha.1.eval hy,eqGuard,binOp,Op.intCmp]) k
theorem GL.leq(hd:Nat.blt d n=true)(hx:QK S ox=some (.int kd x))(hy:QK S oy=some (.int kd y))(k:GL O P ops rest ks Q (Hd n D ((d,.bool (decide (x<=y)))::S) F hs) m r):
  GL O P ops (⟨some d,.binOp .leq t ox oy t',ty,pos,after,none⟩::rest) ks Q (Hd n D S F hs) m r:=
 GL.val hd (λa w ha=>by simp[execOp,ha.1.eval hx,ha.1.eval hy,eqGuard,binOp,Op.intCmp]) k
theorem GL.gtr(hd:Nat.blt d n=true)(hx:QK S ox=some (.int kd x))(hy:QK S oy=some (.int kd y))(k:GL O P ops rest ks Q (Hd n D ((d,.bool (decide (x > y)))::S) F hs) m r):
  GL O P ops (⟨some d,.binOp .gtr t ox oy t',ty,pos,after,none⟩::rest) ks Q (Hd n D S F hs) m r:=
 GL.val hd (λa w ha=>by simp[execOp,ha.1.eval hx,ha.1.eval hy,eqGuard,binOp,Op.intCmp]) k
theorem GL.geq(hd:Nat.blt d n=true)(hx:QK S ox=some (.int kd x))(hy:QK S oy=some (.int kd y))(k:GL O P ops rest ks Q (Hd n D ((d,.bool (decide (x≥y)))::S) F hs) m r):
  GL O P ops (⟨some d,.binOp .geq t ox oy t',ty,pos,after,none⟩::rest) ks Q (Hd n D S F hs) m r:=
 GL.val hd (λa w ha=>by simp[execOp,ha.1.eval hx,ha.1.eval hy,eqGuard,binOp,Op.intCmp]) k
def kS(kd:IntKind)(x y:Int):Int:=kd.wrap (BitVec.ofInt kd.bits x&&& BitVec.ofInt kd.bits y).toNat
def N3(kd:IntKind)(x y:Int):Int:=x.fdiv (2^(min y.toNat kd.bits))
theorem GL.dI(hd:Nat.blt d n=true)(hx:QK S ox=some (.int kd x))(hy:QK S oy=some (.int kd y))(k:GL O P ops rest ks Q (Hd n D ((d,.int kd (kS kd x y))::S) F hs) m r):
  GL O P ops (⟨some d,.binOp .and t ox oy t',ty,pos,after,none⟩::rest) ks Q (Hd n D S F hs) m r:=
 GL.val hd (λa w ha=>by simp[execOp,ha.1.eval hx,ha.1.eval hy,eqGuard,binOp,Op.intBits,kS]) k
theorem GL.fe{kd' :IntKind}(hd:Nat.blt d n=true)(h0:¬y < 0)(hx:QK S ox=some (.int kd x))(hy:QK S oy=some (.int kd' y))(k:GL O P ops rest ks Q (Hd n D ((d,.int kd (N3 kd x y))::S) F hs) m r):
  GL O P ops (⟨some d,.binOp .shr t ox oy t',ty,pos,after,none⟩::rest) ks Q (Hd n D S F hs) m r:=
 GL.val hd (λa w ha=>by simp[execOp,ha.1.eval hx,ha.1.eval hy,eqGuard,binOp,Op.shift,h0,N3]) k
theorem GL.not{b:Bool}(hd:Nat.blt d n=true)(hx:QK S ox=some (.bool b))(k:GL O P ops rest ks Q (Hd n D ((d,.bool (!b))::S) F hs) m r):
  GL O P ops (⟨some d,.unOp .not t ox,ty,pos,after,none⟩::rest) ks Q (Hd n D S F hs) m r:=
 GL.val hd (λa w ha=>by simp[execOp,ha.1.eval hx,Op.unary]) k
theorem GL.wE{ds:TypeDesc}{kd' :IntKind}(hd:Nat.blt d n=true)(h1:P.underlying t=some ds)(h2:P.underlying t' =some (.int kd'))(hx:QK S ox=some (.int kd x))(k:GL O P ops rest ks Q (Hd n D ((d,.int kd' (kd'.wrap x))::S) F hs) m r):
  GL O P ops (⟨some d,.convert t t' ox,ty,pos,after,none⟩::rest) ks Q (Hd n D S F hs) m r:=
 GL.val hd (λa w ha=>by
  simp only[execOp,ha.1.eval hx,convert,Sem.run_bind,JP h1,JP h2,Result.andThen];cases ds<;>simp[Conv.intToInt]) k
theorem GL.extract{i:Nat}{vs:Array Value}(hd:Nat.blt d n=true)(hx:QK S ox=some (.tuple vs))(hi:vs[i]? =some v)(k:GL O P ops rest ks Q (Hd n D ((d,v)::S) F hs) m r):
  GL O P ops (⟨some d,.extract ox i,ty,pos,after,none⟩::rest) ks Q (Hd n D S F hs) m r:=
 GL.val hd (λa w ha=>by simp[execOp,ha.1.eval hx,Instr.extract,hi]) k
def YQ(S:List (Nat×Value)):List Operand->Option (List Value)
 | []=>some []
 | o::os=>match QK S o with
  | some v=>match YQ S os with
   | some vs=>some (v::vs)
   | none=>none
  | none=>none
theorem Wl{a:Act}(hs:Sl n D S a):∀{os:List Operand} {vs:List Value},YQ S os=some vs->os.map a.eval=vs
 | [],vs,h=>by simp[YQ] at h;simp[h]
 | o::os,vs,h=>by
  simp only[YQ] at h
  cases e:QK S o with
  | none=>rw[e] at h;cases h
  | some v=>
   rw[e] at h
   cases e2:YQ S os with
   | none=>rw[e2] at h;cases h
   | some us=>
    rw[e2] at h
    simp only[Option.some.injEq] at h
    subst h;simp[hs.eval e,Wl hs e2]
theorem GL.makeFunc{fn:Fn}{caps:List Operand}{vs:List Value}(hd:Nat.blt d n=true)(hx:YQ S caps=some vs)(k:GL O P ops rest ks Q (Hd n D ((d,.func fn #[] vs.toArray)::S) F hs) m r):
  GL O P ops (⟨some d,.makeFunc fn #[] caps.toArray,ty,pos,after,none⟩::rest) ks Q (Hd n D S F hs) m r:=
 GL.val hd (λa w ha=>by simp[execOp,Instr.makeFunc,Wl ha.1 hx]) k
def BK(S:List (Nat×Value)):List (Nat×Operand)->Option (List (Nat×Value))
 | []=>some []
 | (i,o)::os=>match QK S o with
  | some v=>match BK S os with
   | some vs=>some ((i,v)::vs)
   | none=>none
  | none=>none
theorem Xn{a:Act}(hs:Sl n D S a):∀{os:List (Nat×Operand)} {vs:List (Nat×Value)},BK S os=some vs->os.map (λp=>(p.1,a.eval p.2))=vs
 | [],vs,h=>by simp[BK] at h;simp[h]
 | (i,o)::os,vs,h=>by
  simp only[BK] at h
  cases e:QK S o with
  | none=>rw[e] at h;cases h
  | some v=>
   rw[e] at h
   cases e2:BK S os with
   | none=>rw[e2] at h;cases h
   | some us=>
    rw[e2] at h
    simp only[Option.some.injEq] at h
    subst h;simp[hs.eval e,Xn hs e2]
def Places(P:Program)(fs:Array Field)(pl:Array (Nat×Nat)):Prop:=∀w,(fs.mapM λf=>do pure (f.offset,<-sizeOf f.type):Sem (Array (Nat×Nat))).run P w= .ok pl w
theorem GL.build{fs:Array Field}{pl:Array (Nat×Nat)}{zc cs:Array Value}{z:Value}{parts:List (Nat×Operand)}{ps:List (Nat×Value)}(hd:Nat.blt d n=true)(ht:P.underlying t=some (.struct fs))(hz:∀w,(zeroValue t).run P w= .ok z w)(hpl:Places P fs pl)
  (hx:BK S parts=some ps) (hc:z.cells=zc) (hi:Instr.fill (pl[·]?) zc ps=some cs) (k:GL O P ops rest ks Q (Hd n D ((d,.agg cs)::S) F hs) m r):
  GL O P ops (⟨some d,.build t parts.toArray,ty,pos,after,none⟩::rest) ks Q (Hd n D S F hs) m r:=
 GL.val hd (λa w ha=>by
  have hm:=Xn ha.1 hx;subst hc;simp only[execOp,Instr.build,Sem.run_bind,hz,Result.andThen,JP ht,hpl w];simp[hm,hi]) k
theorem GL.gN{len e sz:Nat}{zc cs:Array Value}{z:Value}{parts:List (Nat×Operand)}{ps:List (Nat×Value)}(hd:Nat.blt d n=true)(ht:P.underlying t=some (.array len e))(hz:∀w,(zeroValue t).run P w= .ok z w)(hsz:∀w,(sizeOf e).run P w= .ok sz w)
  (hx:BK S parts=some ps) (hc:z.cells=zc) (hi:Instr.fill (λi=>some (i*sz,sz)) zc ps=some cs) (k:GL O P ops rest ks Q (Hd n D ((d,.agg cs)::S) F hs) m r):
  GL O P ops (⟨some d,.build t parts.toArray,ty,pos,after,none⟩::rest) ks Q (Hd n D S F hs) m r:=
 GL.val hd (λa w ha=>by
  have hm:=Xn ha.1 hx;subst hc;simp only[execOp,Instr.build,Sem.run_bind,hz,Result.andThen,JP ht,hsz w];simp[hm,hi]) k
theorem GL.wA(hd:Nat.blt d n=true)(hc:P.concrete t=true)(hx:QK S ox=some v)(k:GL O P ops rest ks Q (Hd n D ((d,.iface t v)::S) F hs) m r):
  GL O P ops (⟨some d,.makeInterface t ox,ty,pos,after,none⟩::rest) ks Q (Hd n D S F hs) m r:=
 GL.val hd (λa w ha=>by simp[execOp,ha.1.eval hx,run_makeInterface w t v hc]) k
theorem Y8(b o z:Nat):(⟨b,o,none⟩:Addr).add z=⟨b,o+z,none⟩:=by
 unfold Addr.add;split
 ·rename_i h;subst h;rfl
 ·rfl
theorem GL.fieldAddr{i b o z:Nat}{fs:Array Field}{f:Field}(hd:Nat.blt d n=true)(ht:P.underlying t=some (.struct fs))(hf:fs[i]? =some f)(hz:∀w,(sizeOf f.type).run P w= .ok (z+1) w)
  (hx:QK S ox=some (.pointer (some ⟨b,o,none⟩))) (k:GL O P ops rest ks Q (Hd n D ((d,.pointer (some ⟨b,o+f.offset,none⟩))::S) F hs) m r):
  GL O P ops (⟨some d,.fieldAddr t ox i,ty,pos,after,none⟩::rest) ks Q (Hd n D S F hs) m r:=
 GL.val hd (λa w ha=>by simp[execOp,ha.1.eval hx,Instr.fieldAt,JP ht,hf,Instr.sureAddr,fieldPlace,hz,Y8]) k
def Kj(n:Nat)(i:Int):Option Nat:=if 0<=i/\i < n then some i.toNat else none
theorem Qa{n k:Nat}{i:Int}(h:Kj n i=some k):0<=i/\i < n/\k=i.toNat/\k < n:=by
 unfold Kj at h
 split at h
 ·rename_i hh;simp only[Option.some.injEq] at h;subst h;omega
 ·cases h
theorem GL.vu{len e b o z j:Nat}(hd:Nat.blt d n=true)(ht:P.underlying t=some (.array len e))(hz:∀w,(sizeOf e).run P w= .ok z w)
  (hx:QK S ox=some (.pointer (some ⟨b,o,none⟩))) (hy:QK S oy=some (.int kd x)) (hj:Kj len x=some j) (k:GL O P ops rest ks Q (Hd n D ((d,.pointer (some ⟨b,o+j*z,none⟩))::S) F hs) m r):
  GL O P ops (⟨some d,.indexAddr t ox oy,ty,pos,after,none⟩::rest) ks Q (Hd n D S F hs) m r:=
 GL.val hd (λa w ha=>by
  obtain⟨h0,h1,h2,_⟩:=Qa hj;subst h2;simp[execOp,ha.1.eval hx,ha.1.eval hy,Instr.indexAt,asIntOf,JP ht,Instr.sureAddr,h0,h1,hz,Y8]) k
theorem GL.uU{len cap e b o z j:Nat}(hd:Nat.blt d n=true)(ht:P.underlying t=some (.slice e))(hz:∀w,(sizeOf e).run P w= .ok z w)
  (hx:QK S ox=some (.slice (some ⟨b,o,none⟩) len cap)) (hy:QK S oy=some (.int kd x)) (hj:Kj len x=some j) (k:GL O P ops rest ks Q (Hd n D ((d,.pointer (some ⟨b,o+j*z,none⟩))::S) F hs) m r):
  GL O P ops (⟨some d,.indexAddr t ox oy,ty,pos,after,none⟩::rest) ks Q (Hd n D S F hs) m r:=
 GL.val hd (λa w ha=>by
  obtain⟨h0,h1,h2,_⟩:=Qa hj;subst h2;simp[execOp,ha.1.eval hx,ha.1.eval hy,Instr.indexAt,asIntOf,JP ht,h0,h1,hz,Y8]) k
theorem GL.gC{len e z j:Nat}{cs:Array Value}(hd:Nat.blt d n=true)(ht:P.underlying t=some (.array len e))(hA:∀w,(isAgg e).run P w= .ok false w)(hz:∀w,(sizeOf e).run P w= .ok z w)
  (hx:QK S ox=some (.agg cs)) (hy:QK S oy=some (.int kd x)) (hj:Kj len x=some j) (hc:cs[j*z]? =some v) (k:GL O P ops rest ks Q (Hd n D ((d,v)::S) F hs) m r):
  GL O P ops (⟨some d,.index t ox oy,ty,pos,after,none⟩::rest) ks Q (Hd n D S F hs) m r:=
 GL.val hd (λa w ha=>by
  obtain⟨h0,h1,h2,_⟩:=Qa hj;subst h2;simp[execOp,ha.1.eval hx,ha.1.eval hy,Instr.index,asIntOf,JP ht,h0,h1,hz,part,hA,hc]) k
theorem GL.uH{e len cap:Nat}{p:Option Addr}{T:Array TypeId}(hd:Nat.blt d n=true)(hT:T[0]? =some t)(ht:P.underlying t=some (.slice e))(hx:QK S ox=some (.slice p len cap))(k:GL O P ops rest ks Q (Hd n D ((d,.int .i64 len)::S) F hs) m r):
  GL O P ops (⟨some d,.call ⟨.builtin .len,#[ox],T⟩,ty,pos,after,none⟩::rest) ks Q (Hd n D S F hs) m r:=
 GL.val hd (λa w ha=>by simp[execOp,resolve,invoke,builtin,Builtin.len_,ha.1.eval hx,hT,JP ht,goInt]) k
theorem GL.min2{T:Array TypeId}(hd:Nat.blt d n=true)(hx:QK S ox=some (.int kd x))(hy:QK S oy=some (.int kd y))(k:GL O P ops rest ks Q (Hd n D ((d,.int kd (if y < x then y else x))::S) F hs) m r):
  GL O P ops (⟨some d,.call ⟨.builtin .min,#[ox,oy],T⟩,ty,pos,after,none⟩::rest) ks Q (Hd n D S F hs) m r:=
 GL.val hd (λa w ha=>by simp[execOp,resolve,invoke,builtin,Builtin.min_,Builtin.min2,ha.1.eval hx,ha.1.eval hy]) k
theorem GL.max2{T:Array TypeId}(hd:Nat.blt d n=true)(hx:QK S ox=some (.int kd x))(hy:QK S oy=some (.int kd y))(k:GL O P ops rest ks Q (Hd n D ((d,.int kd (if x < y then y else x))::S) F hs) m r):
  GL O P ops (⟨some d,.call ⟨.builtin .max,#[ox,oy],T⟩,ty,pos,after,none⟩::rest) ks Q (Hd n D S F hs) m r:=
 GL.val hd (λa w ha=>by simp[execOp,resolve,invoke,builtin,Builtin.max_,Builtin.max2,ha.1.eval hx,ha.1.eval hy]) k
end
end
end
end
section
variable{O:Option Nat}
theorem cell_of_heap{w:World}{b:Nat}{cs:List Value}{T:TypeId}{fr:Nat×Nat}(h:w.heap[b]? =some (.cells cs.toArray T fr))(o:Nat):w.cell? ⟨b,o,none⟩=cs[o]? :=by
 simp[World.cell?,h]
theorem frozen_of_heap{w:World}{b:Nat}{cs:Array Value}{T:TypeId}(h:w.heap[b]? =some (.cells cs T (0,0)))(o:Nat):w.frozen? ⟨b,o,none⟩=false:=by
 simp[World.frozen?,h]
theorem N6{w:World}{b o:Nat}{cs:List Value}{T:TypeId}{fr:Nat×Nat}{v:Value}(h:w.heap[b]? =some (.cells cs.toArray T fr)):w.setCell ⟨b,o,none⟩ v=put w b (.cells (cs.set o v).toArray T fr):=by
 have hlt:=lt_of_heap h;unfold World.setCell put;congr 1;apply Array.ext_getElem?;intro k;rw[Array.getElem?_modify];by_cases hk:b=k
 ·subst hk;have e:w.heap[b]= .cells cs.toArray T fr:=by simpa[hlt] using h
  simp[hlt,e]
 ·simp[hk]
theorem z6(w:World)(b:Nat)(x y:Obj):put (put w b x) b y=put w b y:=by
 simp[put]
theorem qR{w:World}{b:Nat}{o:Obj}(h:w.heap[b]? =some o):put w b o=w:=by
 have hlt:=lt_of_heap h;unfold put;congr 1;apply Array.ext_getElem?;intro k;by_cases hk:b=k
 ·subst hk;have e:w.heap[b]=o:=by simpa[hlt] using h
  simp[hlt,e]
 ·simp[hk]
def ZA:List Value->Nat->List Value->List Value
 | cs,_,[]=>cs
 | cs,o,v::vs=>ZA (cs.set o v) (o+1) vs
theorem WX:∀(cs:List Value) (o:Nat) (vs:List Value),(ZA cs o vs).length=cs.length
 | _,_,[]=>rfl
 | cs,o,v::vs=>by simp[ZA,WX]
theorem VP{P:Program}{b o T:Nat}:∀{vs:List Value} {cs:List Value} {i:Nat} {w:World},w.heap[b]? =some (.cells cs.toArray T (0,0))->o+i+vs.length<=cs.length->vs.all Value.oneCell' =true->
  (storeCells ⟨b,o,none⟩ vs i).run P w= .ok () (put w b (.cells (ZA cs (o+i) vs).toArray T (0,0)))
 | [],cs,i,w,h,_,_=>by simp[storeCells,ZA,qR h]
 | v::vs,cs,i,w,h,hl,hv=>by
  simp only[List.all_cons,Bool.and_eq_true] at hv
  simp only[List.length_cons] at hl
  have hc:w.cell? ⟨b,o+i,none⟩=some cs[o+i]:=by rw[cell_of_heap h];simp
  simp only[storeCells,Sem.run_bind,Y8,run_store P w _ v .plain hv.1,hc,frozen_of_heap h,Bool.false_eq_true,if_false,Result.andThen,N6 h];rw[VP (cs:=cs.set (o+i) v) (BI h) (by simp;omega) hv.2,z6];simp[ZA,Nat.add_assoc]
theorem Xu{P:Program}{b o T:Nat}{cs:List Value}{fr:Nat×Nat}{w:World}{z:Nat}{vs:List Value}(h:w.heap[b]? =some (.cells cs.toArray T fr))(hv:(cs.drop o).take z=vs)(hz:vs.length=z):(loadCells ⟨b,o,none⟩ z).run P w= .ok vs.toArray w:=by
 subst hz;refine run_loadCells_list w ⟨b,o,none⟩ vs λj v e=> ?_;rw[Y8,cell_of_heap h];have e' :=e;rw[<-hv] at e
 rw[List.getElem?_take,List.getElem?_drop] at e
 split at e
 ·exact e
 ·cases e
section
variable{β:Type}{P:Program}{ops:Array Oper}{rest:List Oper}{ks:List Kt}{Q:Exit->Act->World->Prop}{m:Option β}{r:β}
variable{n:Nat}{D:List Deferred}{S:List (Nat×Value)}{F:Fz}{hs:List HP}
variable{d:Nat}{ty t t' :TypeId}{pos:String}{after:Array Edge}{ox oy oz:Operand}{v u:Value}{kd:IntKind}{x y:Int}
theorem GL.alloc{z:Value}{cs:List Value}(hd:Nat.blt d n=true)(hz:∀w,(zeroValue t).run P w= .ok z w)(hc:z.cells=cs.toArray)
  (k:∀b,GL O P ops rest ks Q (Hd n D ((d,.pointer (some ⟨b,0,none⟩))::S) F (pt b (.cells cs.toArray t)::hs)) m r):
  GL O P ops (⟨some d,.alloc t,ty,pos,after,none⟩::rest) ks Q (Hd n D S F hs) m r:=
 GL.step rfl (.inr rfl) λhm a w ha=>by
  refine⟨.pointer (some ⟨w.heap.size,0,none⟩),w.alloc (.cells cs.toArray t),?_,k w.heap.size hm _ _ ⟨ha.1.put hd _,ha.2.alloc _⟩⟩;simp[execOp,Instr.alloc,hz,newVar,newRow,hc]
theorem GL.box{cs:List Value}(hd:Nat.blt d n=true)(hx:QK S ox=some v)(hc:v.cells=cs.toArray)
  (k:∀b,GL O P ops rest ks Q (Hd n D ((d,.pointer (some ⟨b,0,none⟩))::S) F (pt b (.cells cs.toArray t)::hs)) m r):
  GL O P ops (⟨some d,.box t ox,ty,pos,after,none⟩::rest) ks Q (Hd n D S F hs) m r:=
 GL.step rfl (.inr rfl) λhm a w ha=>by
  refine⟨.pointer (some ⟨w.heap.size,0,none⟩),w.alloc (.cells cs.toArray t),?_,k w.heap.size hm _ _ ⟨ha.1.put hd _,ha.2.alloc _⟩⟩;simp[execOp,Instr.box,ha.1.eval hx,newVar,newRow,hc]
theorem GL.uQ{cs:List Value}(hd:Nat.blt d n=true)(hx:QK S ox=some v)(hc:v.cells=cs.toArray)
  (k:∀b F',F<=F'->F'.mem b=some (.cells cs.toArray t)->GL O P ops rest ks Q (Hd n D ((d,.pointer (some ⟨b,0,none⟩))::S) F' hs) m r):
  GL O P ops (⟨some d,.box t ox,ty,pos,after,none⟩::rest) ks Q (Hd n D S F hs) m r:=
 GL.step rfl (.inr rfl) λhm a w ha=>by
  obtain⟨h1,h2⟩:=ha.2.xH (.cells cs.toArray t);refine⟨.pointer (some ⟨w.heap.size,0,none⟩),w.alloc (.cells cs.toArray t),?_,k w.heap.size _ h1 (Fz.uS ..) hm _ _ ⟨ha.1.put hd _,h2⟩⟩;simp[execOp,Instr.box,ha.1.eval hx,newVar,newRow,hc]
theorem Wj{P:Program}{t b o:Nat}{w:World}(hA:∀w,(isAgg t).run P w= .ok false w)(h:w.cell? ⟨b,o,none⟩=some v):(Instr.loadAt t (.pointer (some ⟨b,o,none⟩))).run P w= .ok v w:=by
 simp[Instr.loadAt,Instr.sureAddr,loadVar,hA,h]
theorem Wi{P:Program}{t b o T z:Nat}{cs vs:List Value}{fr:Nat×Nat}{w:World}(hA:∀w,(isAgg t).run P w= .ok true w)(hz:∀w,(sizeOf t).run P w= .ok z w)(h:w.heap[b]? =some (.cells cs.toArray T fr))(hv:(cs.drop o).take z=vs)(hl:vs.length=z):
  (Instr.loadAt t (.pointer (some ⟨b,o,none⟩))).run P w= .ok (.agg vs.toArray) w:=by
 simp[Instr.loadAt,Instr.sureAddr,loadVar,hA,hz,Xu h hv hl]
theorem GL.J{b o T:Nat}{cs:List Value}{fr:Nat×Nat}(hd:Nat.blt d n=true)(hA:∀w,(isAgg t).run P w= .ok false w)(hx:QK S ox=some (.pointer (some ⟨b,o,none⟩)))(hb:F.mem b=some (.cells cs.toArray T fr))(hv:cs[o]? =some v)
  (k:GL O P ops rest ks Q (Hd n D ((d,v)::S) F hs) m r):GL O P ops (⟨some d,.load t ox,ty,pos,after,none⟩::rest) ks Q (Hd n D S F hs) m r:=
 GL.val hd (λa w ha=>by simp[execOp,ha.1.eval hx,Wj hA (by rw[cell_of_heap (ha.2.frozen hb)];exact hv)]) k
theorem GL.uD{b o T z:Nat}{cs vs:List Value}{fr:Nat×Nat}(hd:Nat.blt d n=true)(hA:∀w,(isAgg t).run P w= .ok true w)(hz:∀w,(sizeOf t).run P w= .ok z w)(hx:QK S ox=some (.pointer (some ⟨b,o,none⟩)))(hb:F.mem b=some (.cells cs.toArray T fr))(hv:(cs.drop o).take z=vs)(hl:vs.length=z)
  (k:GL O P ops rest ks Q (Hd n D ((d,.agg vs.toArray)::S) F hs) m r):GL O P ops (⟨some d,.load t ox,ty,pos,after,none⟩::rest) ks Q (Hd n D S F hs) m r:=
 GL.val hd (λa w ha=>by simp[execOp,ha.1.eval hx,Wi hA hz (ha.2.frozen hb) hv hl]) k
theorem GL.uC{b o T i:Nat}{cs:List Value}{fr:Nat×Nat}(hd:Nat.blt d n=true)(hA:∀w,(isAgg t).run P w= .ok false w)(hx:QK S ox=some (.pointer (some ⟨b,o,none⟩)))(hb:hs[i]? =some (pt b (.cells cs.toArray T fr)))(hv:cs[o]? =some v)
  (k:GL O P ops rest ks Q (Hd n D ((d,v)::S) F hs) m r):GL O P ops (⟨some d,.load t ox,ty,pos,after,none⟩::rest) ks Q (Hd n D S F hs) m r:=
 GL.val hd (λa w ha=>by simp[execOp,ha.1.eval hx,Wj hA (by rw[cell_of_heap (SH.uV hb ha.2)];exact hv)]) k
theorem GL.uO{b o T z i:Nat}{cs vs:List Value}{fr:Nat×Nat}(hd:Nat.blt d n=true)(hA:∀w,(isAgg t).run P w= .ok true w)(hz:∀w,(sizeOf t).run P w= .ok z w)(hx:QK S ox=some (.pointer (some ⟨b,o,none⟩)))(hb:hs[i]? =some (pt b (.cells cs.toArray T fr)))(hv:(cs.drop o).take z=vs)(hl:vs.length=z)
  (k:GL O P ops rest ks Q (Hd n D ((d,.agg vs.toArray)::S) F hs) m r):GL O P ops (⟨some d,.load t ox,ty,pos,after,none⟩::rest) ks Q (Hd n D S F hs) m r:=
 GL.val hd (λa w ha=>by simp[execOp,ha.1.eval hx,Wi hA hz (SH.uV hb ha.2) hv hl]) k
theorem GL.store{b o T i z:Nat}{cs vs cs' :List Value}(hz:∀w,(sizeOf t).run P w= .ok z w)(hx:QK S ox=some (.pointer (some ⟨b,o,none⟩)))(hy:QK S oy=some v)(hc:v.cells=vs.toArray)(hl:vs.length=z)
  (hb:hs[i]? =some (pt b (.cells cs.toArray T (0,0)))) (ho:o+vs.length<=cs.length) (h1:vs.all Value.oneCell' =true) (hcs:ZA cs o vs=cs')
  (k:GL O P ops rest ks Q (Hd n D S F (hs.set i (pt b (.cells cs'.toArray T (0,0))))) m r):
  GL O P ops (⟨none,.store t ox oy,ty,pos,after,none⟩::rest) ks Q (Hd n D S F hs) m r:=
 GL.wj rfl (.inr rfl) λhm a w ha=>by
  subst hcs;have h:=SH.uV hb ha.2;refine⟨put w b (.cells (ZA cs o vs).toArray T (0,0)),?_,k hm _ _ ⟨ha.1.ud _,SH.putAt hb ha.2 _⟩⟩;have hr:=VP (P:=P) (o:=o) (i:=0) h (by simpa using ho) h1;simp only[Nat.add_zero] at hr
  simp only[execOp,Instr.storeAt,ha.1.eval hx,ha.1.eval hy,Instr.sureAddr,storeVar,Sem.run_bind,hz,Result.andThen,hc];simp[hl,hr]
theorem YO{a:Act}{f:FuncId}{caps:List Value}{of:Operand}{os:List Operand}{T:Array TypeId}{vs:List Value}{w:World}(hs:Sl n D S a)(hcall:∀args w,(callFunc f args).run P w= .ok (.enter f args) w)
  (hf:QK S of=some (.func (.func f) #[] caps.toArray)) (ha:YQ S os=some vs) {dst:Option Tmp}:
  (execOp a.eval ⟨dst,.call ⟨.value of,os.toArray,T⟩,ty,pos,after,none⟩).run P w= .ok (.enter f (vs++caps).toArray) w:=by
 have e:=Wl hs ha;simp[execOp,resolve,Deferred.ofValue,hs.eval hf,e,invoke,hcall]
theorem GL.uk{A:Act->World->Prop}{o:Oper}{f:FuncId}{args:Array Value}(hg:o.guard=none)(hnd:O=none∨Xd o.op=true)
  (h:m=some r->∀a w,A a w->(execOp a.eval o).run P w= .ok (.enter f args) w/\Calls P f args w (λe w' =>∃v,e= .returned v/\XK O P ops (Zs O P ks Q) rest (a.put o.dst v) w')):
  GL O P ops (o::rest) ks Q A m r:=by
 intro hm a w ha;obtain⟨h1,h2⟩:=h hm a w ha;unfold XK;rw[if_pos (by simp[Region.wanted,hg])];refine⟨hnd,?_⟩;rw[h1];refine⟨λe=>(by rw[Ds] at e;cases e),Rh.2 (h2.mono ?_)⟩;rintro e w' ⟨v,rfl,h⟩;exact h
theorem GL.uF{α:Type}{f:FuncId}{caps as vs:List Value}{of:Operand}{os:List Operand}{T:Array TypeId}{e:Option α}{ρ:α->Fz->Value->Prop}{g:α->Option β}(hd:Nat.blt d n=true)
  (hcall:∀args w,(callFunc f args).run P w= .ok (.enter f args) w) (hf:QK S of=some (.func (.func f) #[] caps.toArray)) (ha:YQ S os=some vs) (has:vs++caps=as)
  (hc:KN P f as.toArray F e ρ) (k:∀x F' v,e=some x->F<=F'->ρ x F' v->GL O P ops rest ks Q (Hd n D ((d,v)::S) F' hs) (g x) r):
  GL O P ops (⟨some d,.call ⟨.value of,os.toArray,T⟩,ty,pos,after,none⟩::rest) ks Q (Hd n D S F hs) (e.bind g) r:=
 GL.uk rfl (.inr rfl) λhm a w hA=>by
  subst has;refine⟨YO hA.1 hcall hf ha,?_⟩;cases he:e with
  | none=>rw[he] at hm;cases hm
  | some y=>
   rw[he] at hm
   refine(hc y he w _ hA.2).mono ?_;rintro _ w' ⟨F',v,le,rfl,hρ,hw⟩;exact⟨v,rfl,k y F' v he le hρ hm _ _ ⟨hA.1.put hd _,hw⟩⟩
theorem GL.uE{α:Type}{f:FuncId}{caps as vs:List Value}{of:Operand}{os:List Operand}{T:Array TypeId}{e:α}{ρ:α->Fz->Value->Prop}(hd:Nat.blt d n=true)
  (hcall:∀args w,(callFunc f args).run P w= .ok (.enter f args) w) (hf:QK S of=some (.func (.func f) #[] caps.toArray)) (ha:YQ S os=some vs) (has:vs++caps=as)
  (hc:KN P f as.toArray F (some e) ρ) (k:∀F' v,F<=F'->ρ e F' v->GL O P ops rest ks Q (Hd n D ((d,v)::S) F' hs) m r):
  GL O P ops (⟨some d,.call ⟨.value of,os.toArray,T⟩,ty,pos,after,none⟩::rest) ks Q (Hd n D S F hs) m r:=
 GL.uk rfl (.inr rfl) λhm a w hA=>by
  subst has;refine⟨YO hA.1 hcall hf ha,?_⟩;refine(hc e rfl w _ hA.2).mono ?_;rintro _ w' ⟨F',v,le,rfl,hρ,hw⟩;exact⟨v,rfl,k F' v le hρ hm _ _ ⟨hA.1.put hd _,hw⟩⟩
theorem GL.uz{α:Type}{f:FuncId}{caps as vs:List Value}{of:Operand}{os:List Operand}{T:Array TypeId}{e:Option α}{y:α}{ρ:α->Fz->Value->Prop}(he:e=some y)(hd:Nat.blt d n=true)
  (hcall:∀args w,(callFunc f args).run P w= .ok (.enter f args) w) (hf:QK S of=some (.func (.func f) #[] caps.toArray)) (ha:YQ S os=some vs) (has:vs++caps=as)
  (hc:KN P f as.toArray F e ρ) (k:∀F' v,F<=F'->ρ y F' v->GL O P ops rest ks Q (Hd n D ((d,v)::S) F' hs) m r):
  GL O P ops (⟨some d,.call ⟨.value of,os.toArray,T⟩,ty,pos,after,none⟩::rest) ks Q (Hd n D S F hs) m r:=
 GL.uE hd hcall hf ha has (he▸hc) k
end
inductive BA(P:Program)(S:List (Nat×Value))(F:Fz)(hs:List HP):List ResultVar->List Value->Prop where
 | nil:BA P S F hs [] []
 | tmp {t:Nat} {v:Value} {rs:List ResultVar} {vs:List Value} (h:KU S t=some v) (k:BA P S F hs rs vs):BA P S F hs (.tmp t::rs) (v::vs)
 | cell {t i b T:Nat} {ty:TypeId} {v:Value} {cs:List Value} {fr:Nat×Nat} {rs:List ResultVar} {vs:List Value} (h:KU S t=some (.pointer (some ⟨b,0,none⟩))) (hA:∀w,(isAgg ty).run P w= .ok false w) (hb:hs[i]? =some (pt b (.cells cs.toArray T fr))) (hv:cs[0]? =some v) (k:BA P S F hs rs vs):BA P S F hs (.cell t ty::rs) (v::vs)
 | agg {t i b T z:Nat} {ty:TypeId} {cs vs' :List Value} {fr:Nat×Nat} {rs:List ResultVar} {vs:List Value} (h:KU S t=some (.pointer (some ⟨b,0,none⟩))) (hA:∀w,(isAgg ty).run P w= .ok true w) (hz:∀w,(sizeOf ty).run P w= .ok z w) (hb:hs[i]? =some (pt b (.cells cs.toArray T fr))) (hv:cs.take z=vs') (hl:vs'.length=z) (k:BA P S F hs rs vs):BA P S F hs (.cell t ty::rs) (.agg vs'.toArray::vs)
def Bu:List Value->Value
 | [v]=>v
 | vs=>.tuple vs.toArray
def As(tmps:Array Value):ResultVar->Sem Value
 | .tmp t=>pure (tmps.getD t undef)
 | .cell a t=>do loadVar t (<-asAddr (tmps.getD a undef))
theorem HQ{P:Program}{n:Nat}{D:List Deferred}{S:List (Nat×Value)}{F:Fz}{hs:List HP}{a:Act}{w:World}(ha:Hd n D S F hs a w):∀{rs:List ResultVar} {vs:List Value},BA P S F hs rs vs->(rs.mapM (As a.tmps)).run P w= .ok vs w
 | _,_,.nil=>by simp
 | _,_,.tmp h k=>by
  have e:=ha.1.2.2 _ _ h;simp[As,e,HQ ha k]
 | _,_,.cell h hA hb hv k=>by
  have e:=ha.1.2.2 _ _ h;have hl:=Wj (P:=P) (w:=w) hA (by rw[cell_of_heap (SH.uV hb ha.2)];exact hv);simp only[Instr.loadAt,Instr.sureAddr,Sem.run_bind,Sem.run_pure,Result.andThen] at hl
  simp[As,e,HQ ha k,asAddr,hl]
 | _,_,.agg h hA hz hb hv hl' k=>by
  have e:=ha.1.2.2 _ _ h;have hl:=Wi (P:=P) (w:=w) (o:=0) hA hz (SH.uV hb ha.2) (by simpa using hv) hl';simp only[Instr.loadAt,Instr.sureAddr,Sem.run_bind,Sem.run_pure,Result.andThen] at hl
  simp[As,e,HQ ha k,asAddr,hl]
theorem Kx{P:Program}{n:Nat}{D:List Deferred}{S:List (Nat×Value)}{F:Fz}{hs:List HP}{a:Act}{w:World}{fn:Func}{rs:List ResultVar}{vs:List Value}(hr:fn.results=rs.toArray)(ha:Hd n D S F hs a w)(h:BA P S F hs rs vs):(results fn a.tmps).run P w= .ok (Bu vs) w:=by
 have h1:=HQ ha h
 have e:(results fn a.tmps)=(do let vs <-fn.results.mapM (As a.tmps);pure (if h:vs.size=1 then vs[0] else .tuple vs)):=by
  unfold results;congr 1
 rw[e,hr];simp only[List.mapM_toArray,Sem.run_bind,Sem.run_map,h1,Result.andThen,Sem.run_pure];congr 1
 match vs with
 | []=>rfl
 | [v]=>rfl
 | v::u::vs=>simp[Bu]
section
variable{β:Type}{P:Program}{n:Nat}{S:List (Nat×Value)}{F F' :Fz}{hs:List HP}{ks:List Kt}{fn:Func}{R:HP}{ρ:β->Fz->Value->Prop}{x r:β}{rs:List ResultVar}{vs:List Value}{i:Nat}
theorem WE(hr:fn.results=rs.toArray)(h:BA P S F' hs rs vs)(hi:hs[i]? =some R)(le:F<=F')(hρ:ρ x F' (Bu vs)):
  some x=some r->∀a w,Hd n [] S F' hs a w->AV P fn F R ρ r .ret a w:=by
 intro e a w ha;simp only[Option.some.injEq] at e
 subst e;exact⟨ha.1.2.1,_,Kx hr ha h,F',_,le,rfl,hρ,ha.2.only hi⟩
theorem GC.uG(hr:fn.results=rs.toArray)(h:BA P S F' hs rs vs)(hi:hs[i]? =some R)(le:F<=F')(hρ:ρ x F' (Bu vs)):
 GC O P .ret ks (AV P fn F R ρ r) (Hd n [] S F' hs) (some x) r:=GC.uY (WE hr h hi le hρ)
theorem SH.fo{w:World}{F:Fz}{hs:List HP}{i j:Nat}{p q:HP}(hi:hs[i]? =some p)(hj:(hs.eraseIdx i)[j]? =some q)(h:SH w F (QY hs)):SH w F (star p q):=
 (h.pull hi).mono λ_ hm=>by
  obtain⟨m1,m2,d,s1,s2,hp,hq⟩:=hm;obtain⟨m3,_,_,t1,_,hq',_⟩:=Jv hj hq;exact⟨m1,m3,d.sub (Mem.sub.refl _) t1,s1,t1.trans s2,hp,hq'⟩
theorem Xv{H' :β->Fz->Value->HP}{j:Nat}(hr:fn.results=rs.toArray)(h:BA P S F' hs rs vs)(hi:hs[i]? =some (H' x F' (Bu vs)))(hj:(hs.eraseIdx i)[j]? =some R)(le:F<=F')(hρ:ρ x F' (Bu vs)):
  some x=some r->∀a w,Hd n [] S F' hs a w->NS P fn F R ρ H' r .ret a w:=by
 intro e a w ha;simp only[Option.some.injEq] at e
 subst e;exact⟨ha.1.2.1,_,Kx hr ha h,F',_,le,rfl,hρ,ha.2.fo hi hj⟩
theorem GC.xm{H' :β->Fz->Value->HP}{j:Nat}(hr:fn.results=rs.toArray)(h:BA P S F' hs rs vs)(hi:hs[i]? =some (H' x F' (Bu vs)))(hj:(hs.eraseIdx i)[j]? =some R)(le:F<=F')(hρ:ρ x F' (Bu vs)):
 GC O P .ret ks (NS P fn F R ρ H' r) (Hd n [] S F' hs) (some x) r:=GC.uY (Xv hr h hi hj le hρ)
theorem GE.fU{H' :β->Fz->Value->HP}{j:Nat}(hr:fn.results=rs.toArray)(h:BA P S F' hs rs vs)(hi:hs[i]? =some (H' x F' (Bu vs)))(hj:(hs.eraseIdx i)[j]? =some R)(le:F<=F')(hρ:ρ x F' (Bu vs)):
 GE O P [] (NS P fn F R ρ H' r) (Hd n [] S F' hs) (some x) r:=GE.nil (Xv hr h hi hj le hρ)
end
end
section
variable{O:Option Nat}
section
variable{β:Type}{P:Program}{ops:Array Oper}{rest l:List Oper}{ks:List Kt}{Q:Exit->Act->World->Prop}{A:Act->World->Prop}{m:Option β}{r:β}
variable{n:Nat}{D:List Deferred}{S S0:List (Nat×Value)}{F F' :Fz}{hs:List HP}
theorem Gi{Q1 Q2:Exit->Act->World->Prop}(l2:List Oper)(hq:∀a w,Q1 .normal a w->XK O P ops Q2 l2 a w)(hx:∀e a w,e≠.normal->Q1 e a w->Q2 e a w):∀(l1:List Oper) (a:Act) (w:World),XK O P ops Q1 l1 a w->XK O P ops Q2 (l1++l2) a w
 | [],a,w,h=>hq a w h
 | o::l1,a,w,h=>by
  simp only[List.cons_append];unfold XK at h ⊢
  split
  ·rename_i hw;rw[if_pos hw] at h
   exact AL (λ_ _ he=>Gi l2 hq hx l1 _ _ he) hx h
  ·rename_i hw;rw[if_neg hw] at h
   exact Gi l2 hq hx l1 _ _ h
def Vy(n:Nat)(D:List Deferred)(d:Nat)(v:Value)(S:List (Nat×Value))(F:Fz)(hs:List HP):Exit->Act->World->Prop:=
 λe a w=>e= .normal/\∃F',F<=F'/\Hd n D ((d,v)::S) F' hs a w
theorem Sd{S' :List (Nat×Value)}(j:Nat)(hd:S'.drop j=S)(hf:fresh S (S'.take j)=true):Sub S S' :=λi v h=>by
 have:=HY hf h;rw[<-hd,List.take_append_drop] at this
 exact this
theorem GL.fin{S' :List (Nat×Value)}{d:Nat}{v:Value}{x:β}(j:Nat)(hv:KU S' d=some v)(hd:S'.drop j=S)(hf:fresh S (S'.take j)=true)(le:F<=F'):
  GL O P ops [] [] (Vy n D d v S F hs) (Hd n D S' F' hs) (some x) x:=
 λ_ _ _ ha=>⟨rfl,F',le,ha.1.sub (Sub.cons hv (Sd j hd hf)),ha.2⟩
theorem GL.dK{α:Type}{m0:Option α}{f:α->Option β}(k d:Nat)(V:α->Value)(h:∀z,GL O P ops (l.take k) [] (Vy n D d (V z) S F hs) (Hd n D S F hs) m0 z)
  (next:∀z F',m0=some z->F<=F'->GL O P ops (l.drop k) ks Q (Hd n D ((d,V z)::S) F' hs) (f z) r):GL O P ops l ks Q (Hd n D S F hs) (m0.bind f) r:=by
 intro hm a w ha;cases hl:m0 with
 | none=>rw[hl] at hm;cases hm
 | some z=>
  rw[hl] at hm
  have h1:=h z hl a w ha
  have:=Gi (P:=P) (ops:=ops) (Q2:=Zs O P ks Q) (l.drop k) (Q1:=Vy n D d (V z) S F hs) (λa' w' hq=>by
   obtain⟨_,F',le,hq⟩:=hq;exact next z F' hl le hm a' w' hq) (λe a' w' hne hq=>absurd hq.1 hne) (l.take k) a w h1
  rwa[List.take_append_drop] at this
theorem GL.fg{v:Value}(k d:Nat)(h:GL O P ops (l.take k) [] (Vy n D d v S F hs) (Hd n D S F hs) (some ()) ())
  (next:∀F',F<=F'->GL O P ops (l.drop k) ks Q (Hd n D ((d,v)::S) F' hs) m r):GL O P ops l ks Q (Hd n D S F hs) m r:=by
 intro hm a w ha;have h1:=h rfl a w ha
 have:=Gi (P:=P) (ops:=ops) (Q2:=Zs O P ks Q) (l.drop k) (Q1:=Vy n D d v S F hs) (λa' w' hq=>by
  obtain⟨_,F',le,hq⟩:=hq;exact next F' le hm a' w' hq) (λe a' w' hne hq=>absurd hq.1 hne) (l.take k) a w h1
 rwa[List.take_append_drop] at this
theorem GL.uW{b b' :Bool}(k d:Nat)
  (h1:b=true->GL O P ops (l.take k) [] (Vy n D d (.bool b') S F hs) (Hd n D S F hs) (some ()) ())
  (h2:b=false->GL O P ops (l.take k) [] (Vy n D d (.bool false) S F hs) (Hd n D S F hs) (some ()) ())
  (next:∀F',F<=F'->GL O P ops (l.drop k) ks Q (Hd n D ((d,.bool (b&&b'))::S) F' hs) m r):GL O P ops l ks Q (Hd n D S F hs) m r:=
 GL.fg k d (by cases hb:b with | true=>exact h1 hb | false=>exact h2 hb) next
theorem GL.wc{b b' :Bool}(k d:Nat)
  (h1:b=false->GL O P ops (l.take k) [] (Vy n D d (.bool b') S F hs) (Hd n D S F hs) (some ()) ())
  (h2:b=true->GL O P ops (l.take k) [] (Vy n D d (.bool true) S F hs) (Hd n D S F hs) (some ()) ())
  (next:∀F',F<=F'->GL O P ops (l.drop k) ks Q (Hd n D ((d,.bool (b||b'))::S) F' hs) m r):GL O P ops l ks Q (Hd n D S F hs) m r:=
 GL.fg k d (by cases hb:b with | true=>exact h2 hb | false=>exact h1 hb) next
theorem GL.andM{b:Bool}{m1:Option Bool}{f:Bool->Option β}(k d:Nat)
  (h1:b=true->∀z,GL O P ops (l.take k) [] (Vy n D d (.bool z) S F hs) (Hd n D S F hs) m1 z)
  (h2:b=false->GL O P ops (l.take k) [] (Vy n D d (.bool false) S F hs) (Hd n D S F hs) (some ()) ())
  (next:∀z F',F<=F'->GL O P ops (l.drop k) ks Q (Hd n D ((d,.bool z)::S) F' hs) (f z) r):GL O P ops l ks Q (Hd n D S F hs) ((if b then m1 else some false).bind f) r:=
 GL.dK k d (λz=>.bool z) (by
  intro z;cases hb:b with
  | true=>rw[if_pos rfl];exact h1 hb z
  | false=>rw[if_neg (by simp)];intro e;simp only[Option.some.injEq] at e;subst e;exact h2 hb rfl) (λz F' _ le=>next z F' le)
theorem GL.orM{b:Bool}{m1:Option Bool}{f:Bool->Option β}(k d:Nat)
  (h1:b=false->∀z,GL O P ops (l.take k) [] (Vy n D d (.bool z) S F hs) (Hd n D S F hs) m1 z)
  (h2:b=true->GL O P ops (l.take k) [] (Vy n D d (.bool true) S F hs) (Hd n D S F hs) (some ()) ())
  (next:∀z F',F<=F'->GL O P ops (l.drop k) ks Q (Hd n D ((d,.bool z)::S) F' hs) (f z) r):GL O P ops l ks Q (Hd n D S F hs) ((if b then some true else m1).bind f) r:=
 GL.dK k d (λz=>.bool z) (by
  intro z;cases hb:b with
  | true=>rw[if_pos rfl];intro e;simp only[Option.some.injEq] at e;subst e;exact h2 hb rfl
  | false=>rw[if_neg (by simp)];exact h1 hb z) (λz F' _ le=>next z F' le)
theorem GL.vz{dst:Option Tmp}{op:Op}{ty:TypeId}{pos:String}{after:Array Edge}{j t:Nat}{b want:Bool}(hb:b=want)(hj:(ops[j]?).bind (·.dst)=some t)(hv:KU S t=some (.bool b))
  (k:GL O P ops (⟨dst,op,ty,pos,after,none⟩::rest) ks Q (Hd n D S F hs) m r):GL O P ops (⟨dst,op,ty,pos,after,some (j,want)⟩::rest) ks Q (Hd n D S F hs) m r:=
 GL.on hj (hb▸hv) k
theorem GL.I{d:Nat}{op:Op}{ty:TypeId}{pos:String}{after:Array Edge}{j t:Nat}{b want:Bool}(hb:b= !want)(hd:Nat.blt d n=true)(hj:(ops[j]?).bind (·.dst)=some t)(hv:KU S t=some (.bool b))
  (k:GL O P ops rest ks Q (Hd n D ((d,undef)::S) F hs) m r):GL O P ops (⟨some d,op,ty,pos,after,some (j,want)⟩::rest) ks Q (Hd n D S F hs) m r:=
 GL.off hd hj hv (by subst hb;cases want<;>rfl) k
theorem GL.vw{d:Nat}{ty:TypeId}{pos:String}{after:Array Edge}{ox oy oz:Operand}{v:Value}{b:Bool}(hb:b=true)(hd:Nat.blt d n=true)(hz:QK S oz=some (.bool b))(hx:QK S ox=some v)(k:GL O P ops rest ks Q (Hd n D ((d,v)::S) F hs) m r):
 GL O P ops (⟨some d,.pick oz ox oy,ty,pos,after,none⟩::rest) ks Q (Hd n D S F hs) m r:=GL.fl hd (hb▸hz) hx k
theorem GL.vx{d:Nat}{ty:TypeId}{pos:String}{after:Array Edge}{ox oy oz:Operand}{v:Value}{b:Bool}(hb:b=false)(hd:Nat.blt d n=true)(hz:QK S oz=some (.bool b))(hy:QK S oy=some v)(k:GL O P ops rest ks Q (Hd n D ((d,v)::S) F hs) m r):
 GL O P ops (⟨some d,.pick oz ox oy,ty,pos,after,none⟩::rest) ks Q (Hd n D S F hs) m r:=GL.gu hd (hb▸hz) hy k
end
def KP(L:Nat->Bool)(i:Nat):Nat->Bool:=λj=>if j=i then true else L j
theorem OV{P:Program}{ops:Array Oper}{Q:Exit->Act->World->Prop}(Inv:(Nat->Bool)->Act->World->Prop)
  (hord:∀i o,ops[i]? =some o->∀e∈o.after,Region.binds .any e=true->e.on < i)
  (hstep:∀L a w i o,ops[i]? =some o->L i=false->(∀e∈o.after,Region.binds .any e=true->L e.on=true)->Inv L a w->
   if Region.wanted o (yielded ops a.tmps) then O1 O P o a w (Inv (KP L i)) Q else Inv (KP L i) (a.put o.dst undef) w)
  (hend:∀L a w,(∀i,i < ops.size->L i=true)->Inv L a w->Q .normal a w):
  ∀(fuel:Nat) (listed:Array Bool) (a:Act) (w:World),listed.size=ops.size->(List.range ops.size).countP (λi=> !listed.getD i false)<=fuel->Inv (λi=>listed.getD i false) a w->wpAnyIn (AW O) 0 P .any ops Q fuel listed a w:=by
 have hready:∀(listed:Array Bool),listed.size=ops.size->Region.ready .any ops listed=[]->∀i,i < ops.size->listed.getD i false=true:=by
  intro listed hs hr i
  induction i using Nat.strongRecOn with
  | _ i ih=>
   intro hi;cases hl:listed.getD i false with
   | true=>rfl
   | false=>
    have hmem:i∈Region.ready .any ops listed:=by
     unfold Region.ready;simp only[List.mem_filter,List.mem_range];refine⟨hi,?_⟩
     have h1:listed.getD i true=false:=by
      simp only[Array.getD_eq_getD_getElem?] at hl ⊢
      have:i < listed.size:=by omega
      simp[this] at hl ⊢;exact hl
     have h2:ops[i]? =some ops[i]:=by simp[hi]
     rw[h1,h2];simp only[Bool.not_false,Option.map_some,Option.getD_some,Bool.true_and,Array.all_eq_true_iff_forall_mem,Bool.or_eq_true,Bool.not_eq_true'];intro e he;cases hb:Region.binds .any e with
     | false=>exact .inl rfl
     | true=>
      have hlt:=hord i _ h2 e he hb;exact .inr (ih e.on hlt (by omega))
    rw[hr] at hmem;cases hmem
 intro fuel
 induction fuel with
 | zero=>
  intro listed a w hs hc hI
  have hall:∀i,i < ops.size->listed.getD i false=true:=λi hi=>by
   have:=List.countP_eq_zero.1 (Nat.le_zero.1 hc) i (List.mem_range.2 hi);simpa using this
  refine⟨?_,hend _ a w hall hI⟩;unfold Region.ready;apply List.filter_eq_nil_iff.2;intro i hi;have h:=hall i (List.mem_range.1 hi);have hi' :i < listed.size:=by rw[hs];exact List.mem_range.1 hi
  simp only[Array.getD_eq_getD_getElem?] at h
  simp[hi'] at h
  simp[hi',h]
 | succ fuel ih=>
  intro listed a w hs hc hI;refine⟨λhr=>hend _ a w (hready listed hs hr) hI,λi hi=> ?_⟩;unfold Region.ready at hi
  simp only[List.mem_filter,List.mem_range,Bool.and_eq_true,Bool.not_eq_true'] at hi
  obtain⟨hlt,hl,hdeps⟩:=hi;have h2:ops[i]? =some ops[i]:=by simp[hlt]
  rw[h2] at hdeps
  simp only[Option.map_some,Option.getD_some,Array.all_eq_true_iff_forall_mem,Bool.or_eq_true,Bool.not_eq_true'] at hdeps
  have hl' :listed.getD i false=false:=by
   have:i < listed.size:=by omega
   simp only[Array.getD_eq_getD_getElem?] at hl ⊢
   simp[this] at hl ⊢;exact hl
  have hst:=hstep _ a w i _ h2 hl' (λe he hb=>by
   rcases hdeps e he with h | h
   ·rw[hb] at h;cases h
   ·exact h) hI
  have hnext:∀a' w',Inv (KP (λj=>listed.getD j false) i) a' w'->wpAnyIn (AW O) 0 P .any ops Q fuel (listed.setIfInBounds i true) a' w' :=by
   intro a' w' h
   have he:(λj=>(listed.setIfInBounds i true).getD j false)=KP (λj=>listed.getD j false) i:=by
    funext j;simp only[KP,Array.getD_eq_getD_getElem?];by_cases hj:j=i
    ·subst hj;have:j < listed.size:=by omega
     simp[this]
    ·simp[hj,Ne.symm hj]
   refine ih _ a' w' (by simpa using hs) ?_ (by rw[he];exact h)
   have hd:(List.range ops.size).countP (λj=> !(listed.setIfInBounds i true).getD j false) < (List.range ops.size).countP (λj=> !listed.getD j false):=by
    have e2:(λj=> !(listed.setIfInBounds i true).getD j false)=λj=>(!(KP (λj=>listed.getD j false) i) j):=by
     funext j;rw[<-he]
    rw[e2];refine countP_lt (x:=i) ?_ (List.mem_range.2 hlt) (by simp[hl']) (by simp[KP]);intro j hj;simp only[KP,Bool.not_eq_true'] at hj ⊢
    by_cases e:j=i
    ·simp[e] at hj
    ·simpa[e] using hj
   omega
  unfold wpOpIn;rw[h2];simp only[];split
  ·rename_i hw;rw[if_pos hw] at hst
   exact(Fw hnext hst).wpIn
  ·rename_i hw;rw[if_neg hw] at hst
   exact⟨λf _=>G6 O f,hnext _ _ hst⟩
where
 countP_lt {α:Type} {p q:α->Bool} {l:List α} {x:α} (h:∀y,p y=true->q y=true) (hx:x∈l) (hq:q x=true) (hp:p x=false):l.countP p < l.countP q:=by
  induction l with
  | nil=>cases hx
  | cons y l ih=>
   simp only[List.countP_cons];have hle:l.countP p<=l.countP q:=List.countP_mono_left λz _ hz=>h z hz;rcases List.mem_cons.1 hx with rfl | hx'
   ·simp[hq,hp];omega
   ·have:=ih hx'
    have:(if p y=true then 1 else 0)<=(if q y=true then 1 else 0):=by
     split
     ·rename_i hy;simp[h y hy]
     ·omega
    omega
theorem Ws{P:Program}{ops:Array Oper}{Q:Exit->Act->World->Prop}{id:Nat}{a:Act}{w:World}(hm:P.follows .mixedOrders=true)(Inv:(Nat->Bool)->Act->World->Prop)
  (hord:∀i o,ops[i]? =some o->∀e∈o.after,Region.binds .any e=true->e.on < i)
  (h0:Inv (λ_=>false) a {w with drawn:=w.drawn+1})
  (hstep:∀L a w i o,ops[i]? =some o->L i=false->(∀e∈o.after,Region.binds .any e=true->L e.on=true)->Inv L a w->
   if Region.wanted o (yielded ops a.tmps) then O1 O P o a w (Inv (KP L i)) Q else Inv (KP L i) (a.put o.dst undef) w)
  (hend:∀L a w,(∀i,i < ops.size->L i=true)->Inv L a w->Q .normal a w):(Code.region id ops true).wpIn (AW O) 0 P Q a w:=by
 refine wpIn_region_any hm (OV Inv hord hstep hend _ _ _ _ (by simp) ?_ ?_)
 ·exact Nat.le_trans List.countP_le_length (by simp)
 ·have:(λi=>(Array.replicate ops.size false).getD i false)=λ_=>false:=by
   funext i;simp only[Array.getD_eq_getD_getElem?,Array.getElem?_replicate];split<;>rfl
  rw[this];exact h0
def ND:Nat->List Oper->Bool
 | _,[]=>true
 | i,o::l=>o.after.toList.all (λe=> !Region.binds .any e||Nat.blt e.on i)&&ND (i+1) l
theorem Xj:∀{k:Nat} {l:List Oper},ND k l=true->∀i o,l[i]? =some o->∀e∈o.after,Region.binds .any e=true->e.on < k+i
 | _,[],_,i,o,h,_,_,_=>by simp at h
 | k,x::l,hb,0,o,h,e,he,hbi=>by
  simp at h;subst h
  simp only[ND,Bool.and_eq_true,List.all_eq_true,Bool.or_eq_true,Bool.not_eq_true'] at hb
  rcases hb.1 e (by simpa using he) with h | h
  ·rw[hbi] at h;cases h
  ·have:=Nat.le_of_ble_eq_true h;simp at this ⊢;omega
 | k,x::l,hb,i+1,o,h,e,he,hbi=>by
  simp only[ND,Bool.and_eq_true] at hb
  have:=Xj hb.2 i o (by simpa using h) e he hbi;omega
def Nz:Nat->List Oper->Bool
 | _,[]=>true
 | i,o::l=>(List.range i).all (λj=>o.after.toList.any λe=>Nat.beq e.on j&&Region.binds .any e)&&Nz (i+1) l
theorem Ac:∀{k:Nat} {l:List Oper},Nz k l=true->∀i o,l[i]? =some o->∀j,j < k+i->∃e∈o.after,e.on=j/\Region.binds .any e=true
 | _,[],_,i,o,h,_,_=>by simp at h
 | k,x::l,hb,0,o,h,j,hj=>by
  simp at h;subst h
  simp only[Nz,Bool.and_eq_true,List.all_eq_true,List.mem_range,List.any_eq_true] at hb
  obtain⟨e,he,h1,h2⟩:=hb.1 j (by simpa using hj);exact⟨e,by simpa using he,Nat.eq_of_beq_eq_true h1,h2⟩
 | k,x::l,hb,i+1,o,h,j,hj=>by
  simp only[Nz,Bool.and_eq_true] at hb
  exact Ac hb.2 i o (by simpa using h) j (by omega)
theorem Ag{S0 S:List (Nat×Value)}(h:Sub S0 S){d:Nat}(hk:Bj d S0=false)(v:Value):Sub S0 ((d,v)::S):=λi u e=>by
 simp only[KU];cases hb:Nat.beq d i with
 | true=>
  have:d=i:=Nat.eq_of_beq_eq_true hb;subst this;rw[X8 e] at hk;cases hk
 | false=>exact h i u e
theorem C9{S:List (Nat×Value)}{d i:Nat}{v u:Value}(hne:d≠i)(e:KU S i=some u):KU ((d,v)::S) i=some u:=by
 simp only[KU];cases hb:Nat.beq d i with
 | true=>exact absurd (Nat.eq_of_beq_eq_true hb) hne
 | false=>exact e
theorem GF{S:List (Nat×Value)}{d:Nat}{v:Value}:KU ((d,v)::S) d=some v:=by simp[KU]
theorem Cp{P:Program}{ops:Array Oper}{o:Oper}{a:Act}{w:World}{Q0 Q:Exit->Act->World->Prop}{K:Act->World->Prop}(hQ:∀e a w,e≠.normal->Q0 e a w->False)(hK:∀a w,Q0 .normal a w->K a w)(h:XK O P ops Q0 [o] a w):
  if Region.wanted o (yielded ops a.tmps) then O1 O P o a w K Q else K (a.put o.dst undef) w:=by
 unfold XK at h
 split
 ·rename_i hw;rw[if_pos hw] at h
  exact AL hK (λe a w hne hq=>(hQ e a w hne hq).elim) h
 ·rename_i hw;rw[if_neg hw] at h
  exact hK _ _ h
end
section
variable{O:Option Nat}
abbrev Z9(α:Type):Type:=Fz->α->List Value->Prop
abbrev Ex{α:Type}(c:α->List Value):Z9 α:=λ_ x vs=>vs=c x
def QI{α:Type}(sz:Nat)(c:Z9 α)(F:Fz)(p:Option Addr)(cap:Nat)(l:List α):Prop:=
 l.length<=cap/\cap<=9223372036854775807/\(l=[]∨∃b o cs T fr,p=some ⟨b,o,none⟩/\F.mem b=some (.cells cs T fr)/\∀i x,l[i]? =some x->∀F',F<=F'->c F' x ((cs.toList.drop (o+i*sz)).take sz))
theorem QI.mono{α:Type}{sz:Nat}{c:Z9 α}{F F' :Fz}{p:Option Addr}{cap:Nat}{l:List α}(h:QI sz c F p cap l)(le:F<=F'):QI sz c F' p cap l:=by
 obtain⟨h0,h1,h2⟩:=h;refine⟨h0,h1,?_⟩;rcases h2 with h | ⟨b,o,cs,T,fr,h2,h3,h4⟩
 ·exact .inl h
 ·exact .inr ⟨b,o,cs,T,fr,h2,le.mem _ _ h3,λi x hx F' le' =>h4 i x hx F' (Fz.le_trans le le')⟩
theorem QI.nil{α:Type}{sz:Nat}{c:Z9 α}{F:Fz}:QI sz c F none 0 ([]:List α):=⟨Nat.le_refl _,by simp,.inl rfl⟩
theorem Qh{cs vs:List Value}{o z k:Nat}{v:Value}(h:(cs.drop o).take z=vs)(hv:vs[k]? =some v):cs[o+k]? =some v:=by
 rw[<-h,List.getElem?_take,List.getElem?_drop] at hv
 split at hv
 ·exact hv
 ·cases hv
theorem Rx{cs vs:List Value}{o z k z' :Nat}{us:List Value}(h:(cs.drop o).take z=vs)(hv:(vs.drop k).take z' =us)(hl:Nat.ble (k+z') z=true):(cs.drop (o+k)).take z' =us:=by
 have hl' :=Nat.le_of_ble_eq_true hl;rw[<-hv,<-h];apply List.ext_getElem?;intro i;simp only[List.getElem?_take,List.getElem?_drop];by_cases hi:i < z'
 ·simp only[hi,if_true];rw[if_pos (by omega)];congr 1;omega
 ·simp[hi]
def Zi{α:Type}(l:List α)(i:Int):Option α:=if 0<=i then l[i.toNat]? else none
theorem Ua{α:Type}{l:List α}{i:Int}{x:α}(h:Zi l i=some x):0<=i/\i.toNat < l.length/\l[i.toNat]? =some x:=by
 unfold Zi at h
 split at h
 ·rename_i h0;refine⟨h0,?_,h⟩;rcases Nat.lt_or_ge i.toNat l.length with h' | h'
  ·exact h'
  ·rw[List.getElem?_eq_none h'] at h;cases h
 ·cases h
theorem QI.at_{α:Type}{sz:Nat}{c:Z9 α}{F:Fz}{p:Option Addr}{cap:Nat}{l:List α}(h:QI sz c F p cap l){k:Nat}{x:α}(hx:l[k]? =some x):∃b o T fr,∃cs:List Value,p=some ⟨b,o,none⟩/\F.mem b=some (.cells cs.toArray T fr)/\c F x ((cs.drop (o+k*sz)).take sz):=by
 obtain⟨_,_,h2⟩:=h;rcases h2 with h | ⟨b,o,cs,T,fr,h2,h3,h4⟩
 ·subst h;simp at hx
 ·exact⟨b,o,T,fr,cs.toList,h2,by simpa using h3,by simpa using h4 k x hx F (Fz.le_refl F)⟩
section
variable{β:Type}{P:Program}{ops:Array Oper}{rest:List Oper}{ks:List Kt}{Q:Exit->Act->World->Prop}{m:Option β}{r:β}
variable{n:Nat}{D:List Deferred}{S:List (Nat×Value)}{F:Fz}{hs:List HP}
variable{d:Nat}{ty t t' :TypeId}{pos:String}{after:Array Edge}{ox oy oz:Operand}{v u:Value}{kd:IntKind}{x y:Int}
theorem GL.fP{α:Type}{sz:Nat}{c:Z9 α}{p:Option Addr}{cap e:Nat}{l:List α}{z:α}(hd:Nat.blt d n=true)(ht:P.underlying t=some (.slice e))(hz:∀w,(sizeOf e).run P w= .ok sz w)
  (hr:QI sz c F p cap l) (hx:QK S ox=some (.slice p l.length cap)) (hy:QK S oy=some (.int kd x)) (hi:Zi l x=some z)
  (k:∀b o T fr cs,F.mem b=some (.cells (List.toArray cs) T fr)->c F z ((cs.drop o).take sz)->GL O P ops rest ks Q (Hd n D ((d,.pointer (some ⟨b,o,none⟩))::S) F hs) m r):
  GL O P ops (⟨some d,.indexAddr t ox oy,ty,pos,after,none⟩::rest) ks Q (Hd n D S F hs) m r:=by
 obtain⟨h0,h1,h2⟩:=Ua hi;obtain⟨b,o,T,fr,cs,rfl,h3,h4⟩:=hr.at_ h2;have hj:Kj l.length x=some x.toNat:=by unfold Kj;rw[if_pos (by omega)]
 exact GL.uU hd ht hz hx hy hj (k b _ T fr cs h3 h4)
theorem GL.idx{α:Type}{sz:Nat}{c:Z9 α}{p:Option Addr}{cap e:Nat}{l:List α}{f:α->Option β}(hd:Nat.blt d n=true)(ht:P.underlying t=some (.slice e))(hz:∀w,(sizeOf e).run P w= .ok sz w)
  (hr:QI sz c F p cap l) (hx:QK S ox=some (.slice p l.length cap)) (hy:QK S oy=some (.int kd x))
  (k:∀z b o T fr cs,Zi l x=some z->F.mem b=some (.cells (List.toArray cs) T fr)->c F z ((cs.drop o).take sz)->GL O P ops rest ks Q (Hd n D ((d,.pointer (some ⟨b,o,none⟩))::S) F hs) (f z) r):
  GL O P ops (⟨some d,.indexAddr t ox oy,ty,pos,after,none⟩::rest) ks Q (Hd n D S F hs) ((Zi l x).bind f) r:=
 GL.bind λz hi=>GL.fP hd ht hz hr hx hy hi (λb o T fr cs h1 h2=>k z b o T fr cs hi h1 h2)
def Ke{α:Type}(l:List α)(lo hi:Int):Option (List α):=if 0<=lo/\lo<=hi/\hi<=l.length then some ((l.drop lo.toNat).take (hi.toNat - lo.toNat)) else none
theorem QI.cut{α:Type}{sz:Nat}{c:Z9 α}{F:Fz}{p:Option Addr}{cap cap' :Nat}{l:List α}(h:QI sz c F p cap l){lo hi:Nat}(_h1:lo<=hi)(h2:hi<=l.length)(h3:hi - lo<=cap')(h4:cap'<=cap):
  QI sz c F (p.map (·.add (lo*sz))) cap' ((l.drop lo).take (hi - lo)):=by
 obtain⟨g0,g1,g2⟩:=h;refine⟨by simp;omega,by omega,?_⟩;rcases g2 with h | ⟨b,o,cs,T,fr,rfl,h3',h4'⟩
 ·subst h;left;simp
 ·refine .inr ⟨b,o+lo*sz,cs,T,fr,by simp[Y8],h3',λi x hx=> ?_⟩;rw[List.getElem?_take,List.getElem?_drop] at hx
  split at hx
  ·intro F' le;have:=h4' (lo+i) x hx F' le;rw[show o+lo*sz+i*sz=o+(lo+i)*sz by rw[Nat.add_mul];omega];exact this
  ·cases hx
theorem QI.fa{α:Type}{sz:Nat}{c:Z9 α}{F:Fz}{p p' :Option Addr}{cap:Nat}(h:QI sz c F p cap ([]:List α)):QI sz c F p' cap ([]:List α):=⟨h.1,h.2.1,.inl rfl⟩
theorem H6{P:Program}{i:Int}{y:Nat}{code:BoundsCode}{w:World}(h:0<=i/\i<=y):(Instr.sliceBound (.int kd i) y code).run P w= .ok i.toNat w:=by
 simp[Instr.sliceBound,asIntOf,h]
theorem R1{P:Program}{t e sz len cap:Nat}{p:Option Addr}{lo:Int}{w:World}(ht:P.underlying t=some (.slice e))(hz:∀w,(sizeOf e).run P w= .ok sz w)(h:0<=lo/\lo<=len):
  (Instr.sliceAt t (.slice p len cap) (some (.int kd lo)) none none).run P w= .ok (.slice (if cap=lo.toNat then p else p.map (·.add (lo.toNat*sz))) (len - lo.toNat) (cap - lo.toNat)) w:=by
 simp only[Instr.sliceAt,Sem.run_bind,JP ht,Result.andThen,Instr.slice,Instr.sliceBounds,Sem.run_pure,Option.isSome_none,Bool.false_eq_true,if_false];rw[H6 h];simp[hz]
theorem B5{P:Program}{t e sz len cap:Nat}{p:Option Addr}{hi:Int}{w:World}(ht:P.underlying t=some (.slice e))(hz:∀w,(sizeOf e).run P w= .ok sz w)(h:0<=hi/\hi<=cap):
  (Instr.sliceAt t (.slice p len cap) none (some (.int kd hi)) none).run P w= .ok (.slice (if cap=0 then p else p.map (·.add (0*sz))) hi.toNat cap) w:=by
 simp only[Instr.sliceAt,Sem.run_bind,JP ht,Result.andThen,Instr.slice,Instr.sliceBounds,Sem.run_pure,Option.isSome_none,Bool.false_eq_true,if_false,if_true];rw[H6 h];simp[hz]
theorem Xt{P:Program}{t e sz len cap:Nat}{p:Option Addr}{lo hi:Int}{w:World}{kd' :IntKind}(ht:P.underlying t=some (.slice e))(hz:∀w,(sizeOf e).run P w= .ok sz w)(h:0<=lo/\lo<=hi)(h' :hi<=cap):
  (Instr.sliceAt t (.slice p len cap) (some (.int kd lo)) (some (.int kd' hi)) none).run P w= .ok (.slice (if cap=lo.toNat then p else p.map (·.add (lo.toNat*sz))) (hi.toNat - lo.toNat) (cap - lo.toNat)) w:=by
 simp only[Instr.sliceAt,Sem.run_bind,JP ht,Result.andThen,Instr.slice,Instr.sliceBounds,Sem.run_pure,Option.isSome_none,Bool.false_eq_true,if_false,if_true];rw[H6 (kd:=kd') (by omega)];simp only[];rw[H6 (by omega)];simp[hz]
theorem Lr{α:Type}{sz:Nat}{c:Z9 α}{F:Fz}{p p' :Option Addr}{cap:Nat}{l:List α}{q:Prop}[Decidable q](h1:q->QI sz c F p cap l)(h2:QI sz c F p' cap l):QI sz c F (if q then p else p') cap l:=by
 split
 ·rename_i h;exact h1 h
 ·exact h2
theorem GL.wu{α:Type}{sz:Nat}{c:Z9 α}{p:Option Addr}{cap e:Nat}{l:List α}{f:List α->Option β}(hd:Nat.blt d n=true)(ht:P.underlying t=some (.slice e))(hz:∀w,(sizeOf e).run P w= .ok sz w)
  (hr:QI sz c F p cap l) (hx:QK S ox=some (.slice p l.length cap)) (hy:QK S oy=some (.int kd x))
  (k:∀l' p' c',Ke l x l.length=some l'->QI sz c F p' c' l'->GL O P ops rest ks Q (Hd n D ((d,.slice p' l'.length c')::S) F hs) (f l') r):
  GL O P ops (⟨some d,.slice t ox (some oy) none none,ty,pos,after,none⟩::rest) ks Q (Hd n D S F hs) ((Ke l x l.length).bind f) r:=
 GL.bind λl' hl=>by
  have hl' :=hl;unfold Ke at hl
  split at hl
  ·rename_i h;simp only[Option.some.injEq] at hl
   have hcut:QI sz c F (p.map (·.add (x.toNat*sz))) (cap - x.toNat) l' :=by
    have:=hr.cut (lo:=x.toNat) (hi:=l.length) (cap' :=cap - x.toNat) (by omega) (Nat.le_refl _) (by have:=hr.1;omega) (by omega);simp only[Int.toNat_natCast] at hl
    rw[<-hl];exact this
   have hlen:l'.length=l.length - x.toNat:=by rw[<-hl];simp
   have hrep:QI sz c F (if cap=x.toNat then p else p.map (·.add (x.toNat*sz))) (cap - x.toNat) l' :=Lr (λh=>by
    have:l' =[]:=by
     have:=hcut.1;rw[<-h] at this;simp at this;exact this
    subst this;exact hcut.fa) hcut
   have hk:=k l' _ _ hl' hrep;rw[hlen] at hk
   refine GL.val hd (λa w ha=> ?_) hk;simp only[execOp,ha.1.eval hx,ha.1.eval hy,Option.map_some,Option.map_none,Sem.run_bind];rw[R1 ht hz (by omega)];rfl
  ·cases hl
theorem GL.xf{α:Type}{sz:Nat}{c:Z9 α}{p:Option Addr}{cap e:Nat}{l:List α}{f:List α->Option β}(hd:Nat.blt d n=true)(ht:P.underlying t=some (.slice e))(hz:∀w,(sizeOf e).run P w= .ok sz w)
  (hr:QI sz c F p cap l) (hx:QK S ox=some (.slice p l.length cap)) (hy:QK S oy=some (.int kd x))
  (k:∀l' p' c',Ke l 0 x=some l'->QI sz c F p' c' l'->GL O P ops rest ks Q (Hd n D ((d,.slice p' l'.length c')::S) F hs) (f l') r):
  GL O P ops (⟨some d,.slice t ox none (some oy) none,ty,pos,after,none⟩::rest) ks Q (Hd n D S F hs) ((Ke l 0 x).bind f) r:=
 GL.bind λl' hl=>by
  have hl' :=hl;unfold Ke at hl
  split at hl
  ·rename_i h;simp only[Option.some.injEq] at hl
   have hcut:QI sz c F (p.map (·.add (0*sz))) cap l' :=by
    have:=hr.cut (lo:=0) (hi:=x.toNat) (cap' :=cap) (by omega) (by omega) (by have:=hr.1;omega) (by omega);simp only[Nat.sub_zero] at this
    rw[<-hl];exact this
   have hlen:l'.length=x.toNat:=by rw[<-hl];simp;omega
   have hrep:QI sz c F (if cap=0 then p else p.map (·.add (0*sz))) cap l' :=Lr (λh=>by
    have:l' =[]:=by have:=hcut.1;rw[h] at this;simp at this;exact this
    subst this;exact hcut.fa) hcut
   have hk:=k l' _ _ hl' hrep;rw[hlen] at hk
   refine GL.val hd (λa w ha=> ?_) hk;simp only[execOp,ha.1.eval hx,ha.1.eval hy,Option.map_some,Option.map_none,Sem.run_bind];rw[B5 ht hz (by have:=hr.1;omega)];rfl
  ·cases hl
theorem GL.wk{α:Type}{sz:Nat}{c:Z9 α}{p:Option Addr}{cap e:Nat}{l:List α}{kd' :IntKind}{f:List α->Option β}(hd:Nat.blt d n=true)(ht:P.underlying t=some (.slice e))(hz:∀w,(sizeOf e).run P w= .ok sz w)
  (hr:QI sz c F p cap l) (hx:QK S ox=some (.slice p l.length cap)) (hy:QK S oy=some (.int kd x)) (hm:QK S oz=some (.int kd' y))
  (k:∀l' p' c',Ke l x y=some l'->QI sz c F p' c' l'->GL O P ops rest ks Q (Hd n D ((d,.slice p' l'.length c')::S) F hs) (f l') r):
  GL O P ops (⟨some d,.slice t ox (some oy) (some oz) none,ty,pos,after,none⟩::rest) ks Q (Hd n D S F hs) ((Ke l x y).bind f) r:=
 GL.bind λl' hl=>by
  have hl' :=hl;unfold Ke at hl
  split at hl
  ·rename_i h;simp only[Option.some.injEq] at hl
   have hcut:QI sz c F (p.map (·.add (x.toNat*sz))) (cap - x.toNat) l' :=by
    have:=hr.cut (lo:=x.toNat) (hi:=y.toNat) (cap' :=cap - x.toNat) (by omega) (by omega) (by have:=hr.1;omega) (by omega);rw[<-hl];exact this
   have hlen:l'.length=y.toNat - x.toNat:=by rw[<-hl];simp;omega
   have hrep:QI sz c F (if cap=x.toNat then p else p.map (·.add (x.toNat*sz))) (cap - x.toNat) l' :=Lr (λh=>by
    have:l' =[]:=by have:=hcut.1;rw[<-h] at this;simp at this;exact this
    subst this;exact hcut.fa) hcut
   have hk:=k l' _ _ hl' hrep;rw[hlen] at hk
   refine GL.val hd (λa w ha=> ?_) hk;simp only[execOp,ha.1.eval hx,ha.1.eval hy,ha.1.eval hm,Option.map_some,Option.map_none,Sem.run_bind];rw[Xt ht hz (by omega) (by have:=hr.1;omega)];rfl
  ·cases hl
theorem QI.gx{α:Type}{sz:Nat}{c:Z9 α}{F:Fz}{b o T len:Nat}{cs:List Value}{fr:Nat×Nat}{l:List α}(hb:F.mem b=some (.cells cs.toArray T fr))(hl:l.length=len)(hlen:Nat.ble len 1000000=true)(h:∀i x,l[i]? =some x->∀F',F<=F'->c F' x ((cs.drop (o+i*sz)).take sz)):QI sz c F (some ⟨b,o,none⟩) len l:=by
 have:=Nat.le_of_ble_eq_true hlen;exact⟨by omega,by omega,.inr ⟨b,o,cs.toArray,T,fr,rfl,hb,by simpa using h⟩⟩
end
def flat{α:Type}(c:α->List Value)(l:List α):List Value:=l.flatMap c
def KX{α:Type}(sz:Nat)(c:Z9 α)(F:Fz)(l:List α)(us:List Value):Prop:=∀i x,l[i]? =some x->∀F',F<=F'->c F' x ((us.drop (i*sz)).take sz)
theorem Z1{α:Type}{l:List α}{i:Nat}{x:α}(h:l[i]? =some x):i < l.length:=by
 rcases Nat.lt_or_ge i l.length with h' | h'
 ·exact h'
 ·rw[List.getElem?_eq_none h'] at h;cases h
theorem KX.mono{α:Type}{sz:Nat}{c:Z9 α}{F F' :Fz}{l:List α}{us:List Value}(h:KX sz c F l us)(le:F<=F'):KX sz c F' l us:=λi x hx G le' =>h i x hx G (Fz.le_trans le le')
theorem KX.nil{α:Type}{sz:Nat}{c:Z9 α}{F:Fz}{us:List Value}:KX sz c F [] us:=λi x h=>by simp at h
theorem RB{i n sz:Nat}{us:List Value}(h:i < n):(((us.take (n*sz)).drop (i*sz)).take sz)=((us.drop (i*sz)).take sz):=by
 rw[List.drop_take,List.take_take];congr 1;rw[<-Nat.sub_mul];have:1<=n - i:=by omega
 have:=Nat.mul_le_mul_right sz this;omega
theorem KX.take{α:Type}{sz:Nat}{c:Z9 α}{F:Fz}{l:List α}{us:List Value}(h:KX sz c F l us):KX sz c F l (us.take (l.length*sz)):=λi x hx F' le=>by
 rw[RB (Z1 hx)];exact h i x hx F' le
theorem KX.fI{α:Type}{sz:Nat}{c:Z9 α}{F:Fz}{l:List α}{us:List Value}(h:KX sz c F l (us.take (l.length*sz))):KX sz c F l us:=λi x hx F' le=>by
 rw[<-RB (Z1 hx)];exact h i x hx F' le
theorem KX.len{α:Type}{sz:Nat}{c:Z9 α}{F:Fz}{l:List α}{us:List Value}(hc:∀F x vs,c F x vs->vs.length=sz)(h:KX sz c F l us):l.length*sz<=us.length:=by
 rcases Nat.eq_zero_or_pos l.length with h0 | h0
 ·rw[h0];simp
 ·have hx:l[l.length - 1]? =some (l[l.length - 1]'(by omega)):=List.getElem?_eq_getElem _;have:=hc _ _ _ (h _ _ hx F (Fz.le_refl F));simp only[List.length_take,List.length_drop] at this
  rcases Nat.eq_zero_or_pos sz with hz | hz
  ·rw[hz];simp
  ·have e:l.length*sz=(l.length - 1)*sz+sz:=by
    rw[show l.length=l.length - 1+1 by omega,Nat.add_mul];simp
   omega
theorem KX.append{α:Type}{sz:Nat}{c:Z9 α}{F:Fz}{l l2:List α}{us us2:List Value}(h:KX sz c F l us)(h2:KX sz c F l2 us2)(hl:us.length=l.length*sz):KX sz c F (l++l2) (us++us2):=λi x hx F' le=>by
 rcases Nat.lt_or_ge i l.length with hi | hi
 ·rw[List.getElem?_append_left hi] at hx
  have e:((us++us2).drop (i*sz)).take sz=(us.drop (i*sz)).take sz:=by
   have:i*sz+sz<=us.length:=by
    rw[hl,show i*sz+sz=(i+1)*sz by rw[Nat.add_mul];omega];exact Nat.mul_le_mul_right sz hi
   rw[List.drop_append_of_le_length (by omega),List.take_append_of_le_length (by simp;omega)]
  rw[e];exact h i x hx F' le
 ·rw[List.getElem?_append_right hi] at hx
  have e:(us++us2).drop (i*sz)=us2.drop ((i - l.length)*sz):=by
   have:us.length<=i*sz:=by rw[hl];exact Nat.mul_le_mul_right sz hi
   rw[List.drop_append];rw[List.drop_of_length_le this,List.nil_append,hl,Nat.sub_mul]
  rw[e];exact h2 _ x hx F' le
theorem KX.wq{α:Type}{sz:Nat}{c:Z9 α}{F:Fz}{l:List α}{us us2:List Value}(h:KX sz c F l us)(hl:us.length=l.length*sz):KX sz c F l (us++us2):=by
 have:=h.append (l2:=[]) (us2:=us2) KX.nil hl;simpa using this
theorem KX.all{α:Type}{sz:Nat}{c:Z9 α}{F:Fz}{l:List α}{us:List Value}(h1:∀F x vs,c F x vs->vs.all Value.oneCell' =true)(h:KX sz c F l us):(us.take (l.length*sz)).all Value.oneCell' =true:=by
 rw[List.all_eq_true];intro v hv;obtain⟨j,hj,e⟩:=List.getElem_of_mem hv;simp only[List.length_take] at hj
 have hj1:j < l.length*sz:=by omega
 have hsz:0 < sz:=by
  rcases Nat.eq_zero_or_pos sz with hz | hz
  ·subst hz;simp at hj1
  ·exact hz
 have hi:j / sz < l.length:=(Nat.div_lt_iff_lt_mul hsz).2 hj1;have hx:l[j / sz]? =some (l[j / sz]'hi):=List.getElem?_eq_getElem _;have:=h1 _ _ _ (h _ _ hx F (Fz.le_refl F));rw[List.all_eq_true] at this
 apply this;rw[List.getElem_take] at e
 have hm:j%sz < sz:=Nat.mod_lt _ hsz;have hd:j=j / sz*sz+j%sz:=by have:=Nat.div_add_mod j sz;rw[Nat.mul_comm] at this;omega
 rw[List.mem_iff_getElem];refine⟨j%sz,by simp;omega,?_⟩;rw[List.getElem_take,List.getElem_drop,<-e];congr 1;omega
def Qj{α:Type}(sz:Nat)(c:Z9 α)(F:Fz)(T:TypeId)(p:Option Addr)(cap:Nat)(l:List α):HP:=λm=>
 l.length<=cap/\cap<=9223372036854775807/\((p=none/\cap=0)∨∃b cs,p=some ⟨b,0,none⟩/\pt b (.cells (List.toArray cs) T (0,0)) m/\cs.length=cap*sz/\KX sz c F l cs)
theorem Cw{α:Type}{sz:Nat}{c:Z9 α}{F:Fz}{T:TypeId}{m:Mem}:Qj sz c F T none 0 ([]:List α) m:=⟨Nat.le_refl _,by simp,.inl ⟨rfl,rfl⟩⟩
theorem qU{α:Type}{sz:Nat}{c:Z9 α}{F F' :Fz}{T:TypeId}{p:Option Addr}{cap:Nat}{l:List α}{m:Mem}(le:F<=F')(h:Qj sz c F T p cap l m):Qj sz c F' T p cap l m:=by
 obtain⟨h1,h2,h3⟩:=h;rcases h3 with h3 | ⟨b,cs,e,hb,hl,hp⟩
 ·exact⟨h1,h2,.inl h3⟩
 ·exact⟨h1,h2,.inr ⟨b,cs,e,hb,hl,hp.mono le⟩⟩
theorem TY{α:Type}{sz:Nat}{c:α->List Value}(hc:∀x,(c x).length=sz):∀(l:List α),(flat c l).length=l.length*sz
 | []=>by simp[flat]
 | x::l=>by
  have:=TY hc l;simp only[flat,List.flatMap_cons,List.length_append,List.length_cons] at this ⊢
  rw[hc,this,Nat.add_mul];omega
theorem SH.uK{α:Type}{sz:Nat}{c:Z9 α}{T:TypeId}{p:Option Addr}{cap:Nat}{l:List α}{w:World}{F0 F:Fz}{H:HP}(le0:F0<=F)(h:SH w F (star (Qj sz c F0 T p cap l) H)):
  ∃F',F<=F'/\SH w F' H/\QI sz c F' p cap l:=by
 obtain⟨m,⟨m1,m2,d,s1,s2,⟨h1,h2,h3⟩,hq⟩,k⟩:=h;rcases h3 with⟨rfl,rfl⟩ | ⟨b,cs,rfl,hb,hl,hp⟩
 ·refine⟨F,Fz.le_refl F,⟨m2,hq,k.sub s2⟩,h1,h2,.inl (List.eq_nil_of_length_eq_zero (by omega))⟩
 ·have hh:SH w F (star (pt b (.cells cs.toArray T (0,0))) H):=⟨m,⟨m1,m2,d,s1,s2,hb,hq⟩,k⟩;obtain⟨le,hs⟩:=hh.freeze;refine⟨_,le,hs,h1,h2,.inr ⟨b,0,cs.toArray,T,(0,0),rfl,Fz.uS ..,λi x hx F' le' => ?_⟩⟩;have:=hp i x hx F' (Fz.le_trans le0 (Fz.le_trans le le'));simpa using this
section
variable{β:Type}{P:Program}{ops:Array Oper}{rest:List Oper}{ks:List Kt}{Q:Exit->Act->World->Prop}{m:Option β}{r:β}
variable{n:Nat}{D:List Deferred}{S:List (Nat×Value)}{F F0:Fz}{hs:List HP}
theorem GL.uR{α:Type}(sz:Nat)(c:Z9 α)(T:TypeId)(k:GL O P ops rest ks Q (Hd n D S F (Qj sz c F T none 0 []::hs)) m r):GL O P ops rest ks Q (Hd n D S F hs) m r:=
 λhm a w ha=>k hm a w ⟨ha.1,ha.2.mono λm hm' =>⟨λ_=>none,m,λ_=>.inl rfl,λ_ _ e=>by simp at e,Mem.sub.refl _,Cw,hm'⟩⟩
theorem GC.uR{α:Type}{cd:Code}(sz:Nat)(c:Z9 α)(T:TypeId)(k:GC O P cd ks Q (Hd n D S F (Qj sz c F T none 0 []::hs)) m r):GC O P cd ks Q (Hd n D S F hs) m r:=
 λhm a w ha=>k hm a w ⟨ha.1,ha.2.mono λm hm' =>⟨λ_=>none,m,λ_=>.inl rfl,λ_ _ e=>by simp at e,Mem.sub.refl _,Cw,hm'⟩⟩
theorem SH.uc{α:Type}{sz:Nat}{c:Z9 α}{T:TypeId}{p:Option Addr}{cap:Nat}{l:List α}{w:World}{i:Nat}(le:F0<=F)(hi:hs[i]? =some (Qj sz c F0 T p cap l))(h:SH w F (QY hs)):SH w F (QY (hs.set i (Qj sz c F T p cap l))):=
 SH.push hi ((h.pull hi).mono λ_m hm=>QS (λ_=>qU le) hm)
theorem GE.uc{α:Type}{sz:Nat}{c:Z9 α}{T:TypeId}{p:Option Addr}{cap:Nat}{l:List α}(i:Nat)(le:F0<=F)(hi:hs[i]? =some (Qj sz c F0 T p cap l))(k:GE O P ks Q (Hd n D S F (hs.set i (Qj sz c F T p cap l))) m r):GE O P ks Q (Hd n D S F hs) m r:=
 λhm a w ha=>k hm a w ⟨ha.1,ha.2.uc le hi⟩
theorem GC.uc{α:Type}{sz:Nat}{c:Z9 α}{T:TypeId}{p:Option Addr}{cap:Nat}{l:List α}{cd:Code}(i:Nat)(le:F0<=F)(hi:hs[i]? =some (Qj sz c F0 T p cap l))(k:GC O P cd ks Q (Hd n D S F (hs.set i (Qj sz c F T p cap l))) m r):GC O P cd ks Q (Hd n D S F hs) m r:=
 λhm a w ha=>k hm a w ⟨ha.1,ha.2.uc le hi⟩
theorem GL.uK{α:Type}{sz:Nat}{c:Z9 α}{T:TypeId}{p:Option Addr}{cap:Nat}{l:List α}(i:Nat)(hi:hs[i]? =some (Qj sz c F0 T p cap l))(le0:F0<=F)
  (k:∀F',F<=F'->QI sz c F' p cap l->GL O P ops rest ks Q (Hd n D S F' (hs.eraseIdx i)) m r):GL O P ops rest ks Q (Hd n D S F hs) m r:=
 λhm a w ha=>by
  obtain⟨F',le,h1,h2⟩:=(ha.2.pull hi).uK le0;exact k F' le h2 hm a w ⟨ha.1,h1⟩
theorem GC.uK{α:Type}{sz:Nat}{c:Z9 α}{T:TypeId}{p:Option Addr}{cap:Nat}{l:List α}{cd:Code}(i:Nat)(hi:hs[i]? =some (Qj sz c F0 T p cap l))(le0:F0<=F)
  (k:∀F',F<=F'->QI sz c F' p cap l->GC O P cd ks Q (Hd n D S F' (hs.eraseIdx i)) m r):GC O P cd ks Q (Hd n D S F hs) m r:=
 λhm a w ha=>by
  obtain⟨F',le,h1,h2⟩:=(ha.2.pull hi).uK le0;exact k F' le h2 hm a w ⟨ha.1,h1⟩
theorem QI.fu{α:Type}{sz:Nat}{c:Z9 α}{p:Option Addr}{cap:Nat}{l:List α}{x:Int}{z:α}(hr:QI sz c F p cap l)(hi:Zi l x=some z):
  ∃b o T fr cs,F.mem b=some (.cells (List.toArray cs) T fr)/\c F z ((cs.drop o).take sz)/\∃o0,p=some ⟨b,o0,none⟩/\o=o0+x.toNat*sz/\Kj l.length x=some x.toNat:=by
 obtain⟨h0,h1,h2⟩:=Ua hi;obtain⟨b,o,T,fr,cs,rfl,h3,h4⟩:=hr.at_ h2;exact⟨b,_,T,fr,cs,h3,h4,o,rfl,rfl,by unfold Kj;rw[if_pos (by omega)]⟩
theorem GL.ft{d:Nat}{ty t e:TypeId}{pos:String}{after:Array Edge}{ox oy:Operand}{kd:IntKind}{x:Int}{sz len cap b o:Nat}{p:Option Addr}(hd:Nat.blt d n=true)(ht:P.underlying t=some (.slice e))(hz:∀w,(sizeOf e).run P w= .ok sz w)
  (hq:∃o0,p=some ⟨b,o0,none⟩/\o=o0+x.toNat*sz/\Kj len x=some x.toNat) (hx:QK S ox=some (.slice p len cap)) (hy:QK S oy=some (.int kd x))
  (k:GL O P ops rest ks Q (Hd n D ((d,.pointer (some ⟨b,o,none⟩))::S) F hs) m r):
  GL O P ops (⟨some d,.indexAddr t ox oy,ty,pos,after,none⟩::rest) ks Q (Hd n D S F hs) m r:=by
 obtain⟨o0,rfl,rfl,hj⟩:=hq;exact GL.uU hd ht hz hx hy hj k
end
end
section
variable{O:Option Nat}
theorem Pv{α:Type}{P:Program}{sz:Nat}{c:Z9 α}{F:Fz}{p:Option Addr}{cap k:Nat}{l:List α}(hc:∀F x vs,c F x vs->vs.length=sz)(hone:∀F x vs,c F x vs->vs.all Value.oneCell' =true)(h:QI sz c F p cap l):
  ∃us:List Value,us.length=l.length*sz/\KX sz c F l us/\us.all Value.oneCell' =true/\∀w:World,(∀b o,F.mem b=some o->w.heap[b]? =some o)->(Builtin.firstCells sz l.length (.slice p k cap)).run P w= .ok us.toArray w:=by
 obtain⟨_,_,h2⟩:=h;rcases h2 with h | ⟨b,o,cs,T,fr,rfl,h3,h4⟩
 ·subst h;refine⟨[],by simp,KX.nil,rfl,λw _=> ?_⟩;cases p<;>simp[Builtin.firstCells,loadCells,loadCellsFrom]
 ·have hp:KX sz c F l (cs.toList.drop o):=λi x hx F' le=>by rw[List.drop_drop];exact h4 i x hx F' le
  have hl:=hp.len hc;refine⟨(cs.toList.drop o).take (l.length*sz),by simp at hl ⊢;omega,hp.take,hp.all hone,λw hw=> ?_⟩;have hb' :w.heap[b]? =some (.cells cs.toList.toArray T fr):=by simpa using hw _ _ h3
  simp only[Builtin.firstCells];exact Xu hb' rfl (by simp at hl ⊢;omega)
def HJ{α:Type}(l k:List α):Option (List α):=if l.length+k.length<=4294967296 then some (l++k) else none
theorem RQ(need:Nat):∀(rounds c:Nat),c<=2*need+1000->Builtin.growBy need rounds c<=2*need+1000
 | 0,c,h=>by simpa only[Builtin.growBy] using h
 | rounds+1,c,h=>by
  simp only[Builtin.growBy];split
  ·exact h
  ·exact RQ need rounds _ (by omega)
theorem EB{need cap:Nat}(h:cap < need):Builtin.nextslicecap need cap<=4*need+4000:=by
 unfold Builtin.nextslicecap;split
 ·omega
 ·split
  ·omega
  ·have:=RQ need 4 cap (by omega);omega
theorem Xa:∀(vs cs:List Value) (o:Nat),o+vs.length<=cs.length->(ZA cs o vs).take (o+vs.length)=cs.take o++vs
 | [],cs,o,_=>by simp[ZA]
 | v::vs,cs,o,h=>by
  simp only[List.length_cons] at h
  have:=Xa vs (cs.set o v) (o+1) (by simp;omega);simp only[ZA,List.length_cons];rw[show o+(vs.length+1)=o+1+vs.length by omega,this]
  have e:(cs.set o v).take (o+1)=cs.take o++[v]:=by
   rw[List.take_succ_eq_append_getElem (by simp;omega)];rw[List.getElem_set_self,List.take_set,List.set_eq_of_length_le (by simp;omega)]
  rw[e];simp
def CH(need cap by_:Nat):Prop:=Builtin.nextslicecap need cap*by_<=281474976710656
theorem MQ{need cap by_:Nat}(h:cap < need)(h1:need<=4294967296)(h2:by_<=4096):CH need cap by_:=by
 have:=EB h;unfold CH;exact Nat.le_trans (Nat.mul_le_mul this h2) (by omega)
theorem Ld{α:Type}{P:Program}{w:World}{F0 F:Fz}{H:HP}{sz e t t2 e2 by_:Nat}{c:Z9 α}{p p2:Option Addr}{cap cap2:Nat}{l l2:List α}{z:Value}{T:Array TypeId}{ty:TypeId}{ti:TypeInfo}
   (le0:F0<=F) (hc:∀F x vs,c F x vs->vs.length=sz) (hone:∀F x vs,c F x vs->vs.all Value.oneCell' =true) (ht:P.underlying t=some (.slice e)) (ht2:P.underlying t2=some (.slice e2)) (hz:∀w,(sizeOf e).run P w= .ok sz w) (hti:∀w,(typeInfo e).run P w= .ok ti w) (hby:ti.bytes=by_) (hb0:by_≠0) (hb1:by_<=4096) (hzero:∀w,(zeroValue e).run P w= .ok z w) (hzl:z.cells.size=sz)
   (hT0:T[0]? =some t) (hT1:T[1]? =some t2) (h:SH w F (star (Qj sz c F0 e p cap l) H)) (hr:QI sz c F p2 cap2 l2) (hlen:l.length+l2.length<=4294967296):
   ∃p' cap' w',(Builtin.append_ T ty #[.slice p l.length cap,.slice p2 l2.length cap2]).run P w= .ok (.slice p' (l++l2).length cap') w'/\SH w' F (star (Qj sz c F e p' cap' (l++l2)) H):=by
 have hfr:∀b o,F.mem b=some o->w.heap[b]? =some o:=λb o e=>h.frozen e;obtain⟨us2,hus2,hp2,hall,hsrc0⟩:=Pv (P:=P) (k:=l2.length) hc hone hr;have hsrc:=hsrc0 w hfr;obtain⟨m,⟨m1,m2,d,s1,s2,⟨h1,h2,h3⟩,hq⟩,k⟩:=h;by_cases hneed:l.length+l2.length<=cap
 ·
   rcases h3 with⟨rfl,rfl⟩ | ⟨b,cs,rfl,hb,hl,hp⟩
   ·have e1:l=[]:=List.eq_nil_of_length_eq_zero (by omega);have e2:l2=[]:=List.eq_nil_of_length_eq_zero (by omega);subst e1 e2;refine⟨none,0,w,?_,⟨m,⟨m1,m2,d,s1,s2,⟨by simp,by simp,.inl ⟨rfl,rfl⟩⟩,hq⟩,k⟩⟩;simp only[Builtin.append_];simp[hT0,hT1,JP ht,JP ht2,hz,Builtin.lenOf];simp only[List.length_nil] at hsrc hus2
    have:us2=[]:=List.eq_nil_of_length_eq_zero (by simpa using hus2);simp[hsrc,this]
   ·have hh:SH w F (star (pt b (.cells cs.toArray e (0,0))) H):=⟨m,⟨m1,m2,d,s1,s2,hb,hq⟩,k⟩;have hbl:=hh.owned
    have hroom:l.length*sz+us2.length<=cs.length:=by
     rw[hus2,hl,<-Nat.add_mul];exact Nat.mul_le_mul_right sz hneed
    have hst:=VP (P:=P) (o:=l.length*sz) (i:=0) hbl (by simpa using hroom) hall;simp only[Nat.add_zero] at hst
    refine⟨some ⟨b,0,none⟩,cap,put w b (.cells (ZA cs (l.length*sz) us2).toArray e (0,0)),?_,?_⟩
    ·simp only[Builtin.append_];simp[hT0,hT1,JP ht,JP ht2,hz,Builtin.lenOf,hsrc,hneed,Y8,hst]
    ·have hp' :=hh.put (o' :=.cells (ZA cs (l.length*sz) us2).toArray e (0,0));refine hp'.mono λm hm=>QS (λm' hm' =>⟨by simp;exact hneed,h2,.inr ⟨b,_,rfl,hm',by rw[WX];exact hl,?_⟩⟩) hm;have:=Xa us2 cs (l.length*sz) hroom;rw[hus2,<-Nat.add_mul] at this
     apply KX.fI;rw[List.length_append,this];exact(hp.mono le0).take.append hp2 (by simp;omega)
 ·
   have hn:CH (l.length+l2.length) cap by_:=MQ (Nat.lt_of_not_le hneed) hlen hb1
   have hold:∃us:List Value,us.length=l.length*sz/\KX sz c F l us/\∀w' :World,w'.heap=w.heap->(Builtin.firstCells sz l.length (.slice p l.length cap)).run P w' = .ok us.toArray w' :=by
    rcases h3 with⟨rfl,rfl⟩ | ⟨b,cs,rfl,hb,hl,hp⟩
    ·have e1:l=[]:=List.eq_nil_of_length_eq_zero (by omega);subst e1;exact⟨[],by simp,KX.nil,λw' _=>by simp[Builtin.firstCells]⟩
    ·have hpl:=hp.len hc;refine⟨cs.take (l.length*sz),by simp;omega,(hp.mono le0).take,λw' hw' => ?_⟩;simp only[Builtin.firstCells];exact Xu (cs:=cs) (T:=e) (fr:=(0,0)) (by rw[hw'];exact k.gT (s1 _ _ hb)) (by simp) (by simp;omega)
   obtain⟨us,hus,hp1,hold⟩:=hold;have hsrc' :∀w' :World,w'.heap=w.heap->(Builtin.firstCells sz l2.length (.slice p2 l2.length cap2)).run P w' = .ok us2.toArray w' :=λw' hw' =>hsrc0 w' λb o e=>by rw[hw'];exact hfr b o e
   have hHq:SH w F H:=⟨m2,hq,k.sub s2⟩;generalize hq' :Question.appendCap (l.length+l2.length) cap e=q
   have hcap:l.length+l2.length<=q.cut (w.tape w.drawn q)/\q.cut (w.tape w.drawn q)<=9223372036854775807:=by
    rw[<-hq'];have:=Nat.mod_lt (w.tape w.drawn (Question.appendCap (l.length+l2.length) cap e)) (show 0 < 2^63 - (l.length+l2.length) by omega);simp only[Question.cut];omega
   have hforced:q.forced=false:=by rw[<-hq'];rfl
   generalize hC:q.cut (w.tape w.drawn q)=C at hcap
   have hdrew:SH {w with drawn:=w.drawn+1} F H:=hHq.drew _;have halloc:=hdrew.alloc (.cells ((us.toArray++us2.toArray++Builtin.zeroCells z.cells (C - (l.length+l2.length)))) e);refine⟨some ⟨w.heap.size,0,none⟩,C,_,?_,halloc.mono λm hm=>QS (λm' hm' =>⟨by simp;exact hcap.1,hcap.2,.inr ⟨w.heap.size,(us.toArray++us2.toArray++Builtin.zeroCells z.cells (C - (l.length+l2.length))).toList,rfl,?_,?_,?_⟩⟩) hm⟩
   ·simp only[Builtin.append_];have hnb:=hn;unfold CH at hnb
    have hnot:¬(2:Nat)^48 < Builtin.nextslicecap (l.length+l2.length) cap*by_:=by omega
    have g1:=hold w.drew rfl;have g2:=hsrc' w.drew rfl;simp[hT0,hT1,JP ht,JP ht2,hz,Builtin.lenOf,hneed,hti,hby,hb0,hnot,hq',hforced,hC,g1,g2,hzero,newRow];simp only[<-List.append_toArray,Array.append_assoc]
   ·have hm2:pt w.heap.size _ m' :=hm';unfold pt at hm2 ⊢;rw[hm2]
   ·have e3:(Builtin.zeroCells z.cells (C - (l.length+l2.length))).size=(C - (l.length+l2.length))*sz:=by simp[Builtin.zeroCells,hzl]
    simp only[Array.length_toList,Array.size_append,List.size_toArray,hus,hus2,e3];rw[<-Nat.add_mul,<-Nat.add_mul];congr 1;omega
   ·have:=(hp1.append hp2 hus).wq (us2:=(Builtin.zeroCells z.cells (C - (l.length+l2.length))).toList) (by simp[hus,hus2,Nat.add_mul]);simpa using this
section
variable{β:Type}{P:Program}{ops:Array Oper}{rest:List Oper}{ks:List Kt}{Q:Exit->Act->World->Prop}{m:Option β}{r:β}
variable{n:Nat}{D:List Deferred}{S:List (Nat×Value)}{F:Fz}{hs:List HP}
variable{d:Nat}{ty t t' t2 e e2:TypeId}{pos:String}{after:Array Edge}{ox oy oz:Operand}{v u:Value}{kd:IntKind}{x y:Int}
structure Vc{α:Type}(P:Program)(e sz:Nat)(c:Z9 α):Prop where
 len:∀F x vs,c F x vs->vs.length=sz
 one:∀F x vs,c F x vs->vs.all Value.oneCell' =true
 mono:∀F F' x vs,F<=F'->c F x vs->c F' x vs
 size:∀w,(sizeOf e).run P w= .ok sz w
 info:∃ti:TypeInfo,(∀w,(typeInfo e).run P w= .ok ti w)/\ti.bytes≠0/\ti.bytes<=4096
 zero:∃z,(∀w,(zeroValue e).run P w= .ok z w)/\z.cells.size=sz
theorem Vc.ex{α:Type}{P:Program}{e sz:Nat}{c:α->List Value}(len:∀x,(c x).length=sz)(one:∀x,(c x).all Value.oneCell' =true)(size:∀w,(sizeOf e).run P w= .ok sz w)
  (info:∃ti:TypeInfo,(∀w,(typeInfo e).run P w= .ok ti w)/\ti.bytes≠0/\ti.bytes<=4096) (zero:∃z,(∀w,(zeroValue e).run P w= .ok z w)/\z.cells.size=sz):Vc P e sz (Ex c):=
 ⟨λ_ x _ h=>h▸len x,λ_ x _ h=>h▸one x,λ_ _ _ _ _ h=>h,size,info,zero⟩
theorem GL.append{α:Type}{sz:Nat}{c:Z9 α}{F0:Fz}{p p2:Option Addr}{cap cap2:Nat}{l l2:List α}{f:List α->Option β}{T:Array TypeId}(i:Nat)(E:Vc P e sz c)(le0:F0<=F)(hd:Nat.blt d n=true)(ht:P.underlying t=some (.slice e))(ht2:P.underlying t2=some (.slice e2))(hT0:T[0]? =some t)(hT1:T[1]? =some t2)
  (hi:hs[i]? =some (Qj sz c F0 e p cap l)) (hr:QI sz c F p2 cap2 l2) (hx:QK S ox=some (.slice p l.length cap)) (hy:QK S oy=some (.slice p2 l2.length cap2))
  (k:∀l' p' cap',HJ l l2=some l'->GL O P ops rest ks Q (Hd n D ((d,.slice p' l'.length cap')::S) F (hs.set i (Qj sz c F e p' cap' l'))) (f l') r):
  GL O P ops (⟨some d,.call ⟨.builtin .append,#[ox,oy],T⟩,ty,pos,after,none⟩::rest) ks Q (Hd n D S F hs) ((HJ l l2).bind f) r:=
 GL.bind λl' hl=>by
  have hl' :=hl;unfold HJ at hl
  split at hl
  ·rename_i hlen;simp only[Option.some.injEq] at hl
   subst hl;obtain⟨ti,hti,hb0,hb1⟩:=E.info;obtain⟨z,hzero,hzl⟩:=E.zero;refine GL.step rfl (.inr rfl) λhm a w ha=> ?_;obtain⟨p',cap',w',hrun,hS⟩:=Ld (P:=P) (T:=T) (ty:=ty) le0 E.len E.one ht ht2 E.size hti rfl hb0 hb1 hzero hzl hT0 hT1 (ha.2.pull hi) hr hlen;refine⟨_,w',?_,k _ p' cap' hl' hm _ _ ⟨ha.1.put hd _,SH.push hi hS⟩⟩;simp[execOp,resolve,invoke,builtin,ha.1.eval hx,ha.1.eval hy,hrun]
  ·cases hl
theorem GL.uJ{len sz:Nat}{z:Value}{cs zc:List Value}{parts:List (Nat×Operand)}{ps:List (Nat×Value)}(hd:Nat.blt d n=true)(ht:P.underlying t=some (.slice e))(hz:∀w,(sizeOf e).run P w= .ok sz w)(hzero:∀w,(zeroValue e).run P w= .ok z w)(h0:Nat.blt 0 (len*sz)=true)(hbig:Nat.ble (len*sz) 16777216=true)
  (hx:BK S parts=some ps) (hzc:(Array.range (len*sz)).map (λi=>z.cells[i%z.cells.size]!)=zc.toArray) (hfill:Instr.fill (λi=>some (i*sz,sz)) zc.toArray ps=some cs.toArray)
  (k:∀b F',F<=F'->F'.mem b=some (.cells cs.toArray e)->GL O P ops rest ks Q (Hd n D ((d,.slice (some ⟨b,0,none⟩) len len)::S) F' hs) m r):
  GL O P ops (⟨some d,.buildSlice t len parts.toArray,ty,pos,after,none⟩::rest) ks Q (Hd n D S F hs) m r:=
 GL.step rfl (.inr rfl) λhm a w ha=>by
  obtain⟨h1,h2⟩:=ha.2.xH (.cells cs.toArray e);refine⟨.slice (some ⟨w.heap.size,0,none⟩) len len,w.alloc (.cells cs.toArray e),?_,k w.heap.size _ h1 (Fz.uS ..) hm _ _ ⟨ha.1.put hd _,h2⟩⟩;have hm' :=Xn ha.1 hx;have hb1:0 < len*sz:=Nat.le_of_ble_eq_true h0;have hb2:=Nat.le_of_ble_eq_true hbig;have hne:¬len*sz=0:=by omega
  have hgt:¬len*sz > 16777216:=by omega
  simp only[execOp,Instr.buildSlice,Sem.run_bind,JP ht,hz,Result.andThen,List.map_toArray,hm'];simp only[Nat.reducePow,hgt,hne,if_false,Sem.run_pure,Result.andThen,Sem.run_bind,hzero,hzc,hfill,newRow,run_newObj,World.alloc_eq]
theorem QI.ofRow{α:Type}{sz:Nat}{c:Z9 α}{F:Fz}{b T len:Nat}{cs:List Value}{fr:Nat×Nat}{l:List α}(hb:F.mem b=some (.cells cs.toArray T fr))(hf:KX sz c F l cs)(hl:l.length=len)(hlen:Nat.ble len 1000000=true):QI sz c F (some ⟨b,0,none⟩) len l:=by
 have:=Nat.le_of_ble_eq_true hlen;refine⟨by omega,by omega,.inr ⟨b,0,cs.toArray,T,fr,rfl,hb,λi x hx F' le=> ?_⟩⟩;simpa using hf i x hx F' le
theorem KX.cons{α:Type}{sz:Nat}{c:Z9 α}{F:Fz}{x:α}{l:List α}{us:List Value}(hm:∀F F' x vs,F<=F'->c F x vs->c F' x vs)(h:c F x (us.take sz))(h' :KX sz c F l (us.drop sz)):KX sz c F (x::l) us:=λi y hy F' le=>by
 cases i with
 | zero=>simp at hy;subst hy;simpa using hm _ _ _ _ le h
 | succ i=>
  have:=h' i y (by simpa using hy) F' le;rw[List.drop_drop] at this
  rwa[show(i+1)*sz=sz+i*sz by rw[Nat.add_mul];omega]
end
end
section
variable{O:Option Nat}
abbrev Qy(n:Int):Int:=IntKind.i64.wrap n
abbrev KF(x y:Int):Int:=if y < x then y else x
abbrev imax(x y:Int):Int:=if x < y then y else x
def QR(k:IntKind)(x:Int):List Value:=[.int k x]
def XI{α:Type}(n:Nat)(f:Nat->α):List α:=(List.range n).map f
def Qt{α:Type}(n:Nat)(c:α->List Value)(f:Nat->α):List Value:=(XI n f).flatMap c
def ZC{α:Type}(f:Nat->α)(i:Nat)(x:α):Nat->α:=λj=>match Nat.beq j i with | true=>x | false=>f j
def yB{α:Type}(l:List α)(z:α):Nat->α:=λi=>l.getD i z
theorem Uy{α:Type}(n:Nat)(f:Nat->α):(XI n f).length=n:=by simp[XI]
theorem T5{α:Type}{n:Nat}{f:Nat->α}{q:Nat->α->Prop}(h:∀j,j < n->q j (f j)):∀i x,(XI n f)[i]? =some x->q i x:=by
 intro i x e;simp only[XI,List.getElem?_map] at e
 by_cases hi:i < n
 ·simp[hi] at e;subst e;exact h i hi
 ·simp[hi] at e
theorem jb{p:Nat->Prop}(h0:p 0)(h1:p 1)(h2:p 2)(h3:p 3)(h4:p 4)(h5:p 5)(h6:p 6):∀j,j < 7->p j:=by
 intro j hj;match j,hj with | 0,_=>exact h0 | 1,_=>exact h1 | 2,_=>exact h2 | 3,_=>exact h3 | 4,_=>exact h4 | 5,_=>exact h5 | 6,_=>exact h6
def HF{α γ:Type}(P:Program)(F:Fz)(f:FuncId)(caps:List Value)(arg:α->Fz->List Value->Prop)(res:γ->Fz->Value->Prop)(m:α->Option γ):Prop:=
 (∀args w,(callFunc f args).run P w= .ok (.enter f args) w)/\∀F',F<=F'->∀x vs,arg x F' vs->KN P f (vs++caps).toArray F' (m x) res
def kh{α:Type}(sz:Nat)(c:Z9 α):Z9 (List α):=λF x vs=>∃p k,vs=[.slice p x.length k]/\QI sz c F p k x
section
variable{β:Type}{P:Program}{ops:Array Oper}{rest:List Oper}{ks:List Kt}{Q:Exit->Act->World->Prop}{A:Act->World->Prop}{m:Option β}{r:β}
variable{n:Nat}{D:List Deferred}{S S0:List (Nat×Value)}{F F' :Fz}{hs:List HP}
theorem GC.ex{c:Code}(h:∀a w,A a w->∃A' :Act->World->Prop,A' a w/\GC O P c ks Q A' m r):GC O P c ks Q A m r:=λhm a w ha=>let⟨_,h1,h2⟩:=h a w ha;h2 hm a w h1
theorem GE.ex(h:∀a w,A a w->∃A' :Act->World->Prop,A' a w/\GE O P ks Q A' m r):GE O P ks Q A m r:=λhm a w ha=>let⟨_,h1,h2⟩:=h a w ha;h2 hm a w h1
theorem GE.app(h:GE O P ks Q A m r)(hm:m=some r)(a:Act)(w:World)(ha:A a w):Zs O P ks Q .normal a w:=h hm a w ha
theorem GC.bind{α:Type}{c:Code}{e:Option α}{f:α->Option β}(h:∀y,e=some y->GC O P c ks Q A (f y) r):GC O P c ks Q A (e.bind f) r:=
 λhm=>by
  cases e with
  | none=>simp at hm
  | some y=>exact h y rfl hm
theorem GC.uA{α:Type}{c:Code}{x:α}{f:α->Option β}(h:∀y,y=x->GC O P c ks Q A (f y) r):GC O P c ks Q A (QL x f) r:=h x rfl
theorem GC.ite{c:Code}{b:Bool}{m1 m2:Option β}(h1:b=true->GC O P c ks Q A m1 r)(h2:b=false->GC O P c ks Q A m2 r):GC O P c ks Q A (if b then m1 else m2) r:=by
 cases hb:b with
 | true=>rw[if_pos rfl];exact h1 hb
 | false=>rw[if_neg (by simp)];exact h2 hb
theorem GC.drop{c:Code}(i:Nat)(k:GC O P c ks Q (Hd n D S F (hs.eraseIdx i)) m r):GC O P c ks Q (Hd n D S F hs) m r:=GC.wq (λ_ _ h=>⟨h.1,h.2.wC i⟩) k
theorem QZ.norm{σ γ:Type}{I:σ->Act->World->Prop}{Dn:γ->Exit->Act->World->Prop}{s:σ}{ctl:JM σ γ}(h:∀a w,A a w->I s a w):some (JM.next s)=some ctl->∀a w,A a w->QZ I Dn ctl .normal a w:=λe a w ha=>by
 simp only[Option.some.injEq] at e;subst e;exact⟨rfl,h a w ha⟩
theorem QZ.exit{σ γ:Type}{I:σ->Act->World->Prop}{Dn:γ->Exit->Act->World->Prop}{b:γ}{id:Nat}{ctl:JM σ γ}(h:∀a w,A a w->Dn b (.exit id) a w):some (JM.done b)=some ctl->∀a w,A a w->QZ I Dn ctl (.exit id) a w:=λe a w ha=>by
 simp only[Option.some.injEq] at e;subst e;exact⟨by simp,h a w ha⟩
theorem QZ.ret{σ γ:Type}{I:σ->Act->World->Prop}{Dn:γ->Exit->Act->World->Prop}{b:γ}{ctl:JM σ γ}(h:∀a w,A a w->Dn b .ret a w):some (JM.done b)=some ctl->∀a w,A a w->QZ I Dn ctl .ret a w:=λe a w ha=>by
 simp only[Option.some.injEq] at e;subst e;exact⟨by simp,h a w ha⟩
theorem GL.wZ{S' :List (Nat×Value)}{d:Nat}{x z:Bool}(j:Nat)(hv:KU S' d=some (.bool x))(hd:S'.drop j=S)(hf:fresh S (S'.take j)=true)(le:F<=F'):
  GL O P ops [] [] (Vy n D d (.bool z) S F hs) (Hd n D S' F' hs) (some x) z:=λe a w ha=>by
 simp only[Option.some.injEq] at e;subst e
 exact⟨rfl,F',le,ha.1.sub (Sub.cons hv (Sd j hd hf)),ha.2⟩
theorem GL.nilCheck{d:Nat}{ty:TypeId}{pos:String}{after:Array Edge}{ox:Operand}{p:Addr}(hd:Nat.blt d n=true)(hx:QK S ox=some (.pointer (some p)))(k:GL O P ops rest ks Q (Hd n D ((d,.pointer (some p))::S) F hs) m r):
  GL O P ops (⟨some d,.nilCheck ox,ty,pos,after,none⟩::rest) ks Q (Hd n D S F hs) m r:=
 GL.val hd (λa w ha=>by simp[execOp,ha.1.eval hx]) k
theorem GL.ga{d:Nat}{ty t t' :TypeId}{pos:String}{after:Array Edge}{ox oy:Operand}{xs ys:Array Value}{b:Bool}(hd:Nat.blt d n=true)(hg:P.eqGuardType P.depth t=false)(hq:∀w,(Op.equal t (.agg xs) (.agg ys)).run P w= .ok b w)
  (hx:QK S ox=some (.agg xs)) (hy:QK S oy=some (.agg ys)) (k:GL O P ops rest ks Q (Hd n D ((d,.bool b)::S) F hs) m r):
  GL O P ops (⟨some d,.binOp .eql t ox oy t',ty,pos,after,none⟩::rest) ks Q (Hd n D S F hs) m r:=
 GL.val hd (λa w ha=>by simp[execOp,ha.1.eval hx,ha.1.eval hy,eqGuard,binOp,hg,hq]) k
theorem GL.xq{d:Nat}{ty t t' :TypeId}{pos:String}{after:Array Edge}{ox oy:Operand}{xs ys:Array Value}{b:Bool}(hd:Nat.blt d n=true)(hg:P.eqGuardType P.depth t=false)(hq:∀w,(Op.equal t (.agg xs) (.agg ys)).run P w= .ok b w)
  (hx:QK S ox=some (.agg xs)) (hy:QK S oy=some (.agg ys)) (k:GL O P ops rest ks Q (Hd n D ((d,.bool (!b))::S) F hs) m r):
  GL O P ops (⟨some d,.binOp .neq t ox oy t',ty,pos,after,none⟩::rest) ks Q (Hd n D S F hs) m r:=
 GL.val hd (λa w ha=>by simp[execOp,ha.1.eval hx,ha.1.eval hy,eqGuard,binOp,hg,hq]) k
end
end
section
variable{O:Option Nat}
theorem QT{cs vs:List Value}(h:cs.length=vs.length):ZA cs 0 vs=vs:=by
 have h1:=Xa vs cs 0 (by omega);simp only[Nat.zero_add,List.take_zero,List.nil_append] at h1
 rwa[List.take_of_length_le (by rw[WX];omega)] at h1
end
section
variable{O:Option Nat}
theorem L4{α:Type}{w:World}{F F0:Fz}{H:HP}{sz:Nat}{c:Z9 α}{T:TypeId}{p:Option Addr}{cap:Nat}{l:List α}{k:Nat}{z:α}(h:SH w F (star (Qj sz c F0 T p cap l) H))(hl:l[k]? =some z):
  ∃b cs,p=some ⟨b,0,none⟩/\cs.length=cap*sz/\l.length<=cap/\KX sz c F0 l cs/\SH w F (star (pt b (.cells (List.toArray cs) T (0,0))) H)/\cap<=9223372036854775807:=by
 obtain⟨m,⟨m1,m2,d,s1,s2,⟨h1,h2,h3⟩,hq⟩,k'⟩:=h;have:=Z1 hl;rcases h3 with⟨rfl,h0⟩ | ⟨b,cs,rfl,hb,hlen,hp⟩
 ·omega
 ·exact⟨b,cs,rfl,hlen,h1,hp,⟨m,⟨m1,m2,d,s1,s2,hb,hq⟩,k'⟩,h2⟩
section
variable{β:Type}{P:Program}{ops:Array Oper}{rest:List Oper}{ks:List Kt}{Q:Exit->Act->World->Prop}{m:Option β}{r:β}
variable{n:Nat}{D:List Deferred}{S:List (Nat×Value)}{F F0:Fz}{hs:List HP}
variable{d:Nat}{ty t t' e:TypeId}{pos:String}{after:Array Edge}{ox oy oz:Operand}{v u:Value}{kd:IntKind}{x y:Int}
theorem GL.wW{α:Type}{sz:Nat}{c:Z9 α}{T:TypeId}{p:Option Addr}{cap:Nat}{l:List α}{z:α}{l0:List Oper}(i:Nat)(hi:hs[i]? =some (Qj sz c F0 T p cap l))(hl:Zi l x=some z)
  (k:∀b,p=some ⟨b,0,none⟩->GL O P ops l0 ks Q (Hd n D S F hs) m r):GL O P ops l0 ks Q (Hd n D S F hs) m r:=λhm a w ha=>by
 obtain⟨b,_,hp,_⟩:=L4 (ha.2.pull hi) (Ua hl).2.2;exact k b hp hm a w ha
theorem GL.xc{α:Type}{sz:Nat}{p:Option Addr}{cap b:Nat}{l:List α}{z:α}(hd:Nat.blt d n=true)(ht:P.underlying t=some (.slice e))(hz:∀w,(sizeOf e).run P w= .ok sz w)
  (hp:p=some ⟨b,0,none⟩) (hl:Zi l x=some z) (hx:QK S ox=some (.slice p l.length cap)) (hy:QK S oy=some (.int kd x))
  (k:GL O P ops rest ks Q (Hd n D ((d,.pointer (some ⟨b,0+x.toNat*sz,none⟩))::S) F hs) m r):
  GL O P ops (⟨some d,.indexAddr t ox oy,ty,pos,after,none⟩::rest) ks Q (Hd n D S F hs) m r:=by
 subst hp;obtain⟨h0,h1,_⟩:=Ua hl;exact GL.uU hd ht hz hx hy (by unfold Kj;rw[if_pos (by omega)]) k
theorem Sl.u4{a:Act}{v v' :Value}(h:Sl n D S a)(hl:KU S d=some v)(e:v=v'):Sl n D ((d,v')::S) a:=
 ⟨h.1,h.2.1,λi u hu=>by
  simp only[KU] at hu
  cases hb:Nat.beq d i with
  | true=>
   rw[hb] at hu
   have:d=i:=Nat.eq_of_beq_eq_true hb;subst this;simp only[Option.some.injEq] at hu
   rw[<-hu,<-e];exact h.2.2 _ _ hl
  | false=>rw[hb] at hu;exact h.2.2 i u hu⟩
theorem GL.u4{l0:List Oper}{v v' :Value}(d:Nat)(hl:KU S d=some v)(e:v=v')(k:GL O P ops l0 ks Q (Hd n D ((d,v')::S) F hs) m r):GL O P ops l0 ks Q (Hd n D S F hs) m r:=
 λhm a w ha=>k hm a w ⟨ha.1.u4 hl e,ha.2⟩
theorem GE.u4{v v' :Value}(d:Nat)(hl:KU S d=some v)(e:v=v')(k:GE O P ks Q (Hd n D ((d,v')::S) F hs) m r):GE O P ks Q (Hd n D S F hs) m r:=
 λhm a w ha=>k hm a w ⟨ha.1.u4 hl e,ha.2⟩
theorem GL.hZ{α:Type}{sz b off o sz' :Nat}{c:Z9 α}{T:TypeId}{p:Option Addr}{cap:Nat}{l:List α}{z:α}{Φ:List Value->Prop}(i:Nat)(hi:hs[i]? =some (Qj sz c F0 T p cap l))(le0:F0<=F)(hd:Nat.blt d n=true)(hA:∀w,(isAgg t).run P w= .ok true w)(hz:∀w,(sizeOf t).run P w= .ok sz' w)
  (hp:p=some ⟨b,0,none⟩) (hl:Zi l x=some z) (hx:QK S ox=some (.pointer (some ⟨b,o,none⟩))) (ho:o=0+x.toNat*sz+off) (hs' :Nat.ble (off+sz') sz=true)
  (hg:∀vs,c F z vs->∃us,(vs.drop off).take sz' =us/\us.length=sz'/\Φ us) (k:∀us,Φ us->GL O P ops rest ks Q (Hd n D ((d,.agg us.toArray)::S) F hs) m r):
  GL O P ops (⟨some d,.load t ox,ty,pos,after,none⟩::rest) ks Q (Hd n D S F hs) m r:=by
 refine GL.step rfl (.inr rfl) λhm a w ha=> ?_;obtain⟨b',cs,hp',hlen,hcap,hparts,hsh,_⟩:=L4 (ha.2.pull hi) (Ua hl).2.2;rw[hp] at hp';cases hp'
 obtain⟨us,hv,hul,hΦ⟩:=hg _ (hparts _ _ (Ua hl).2.2 F le0);refine⟨.agg us.toArray,w,?_,k us hΦ hm _ _ ⟨ha.1.put hd _,ha.2⟩⟩;have hc:(cs.drop o).take sz' =us:=by subst ho;rw[Nat.zero_add];exact Rx rfl hv hs'
 simp[execOp,ha.1.eval hx,Wi hA hz hsh.owned hc hul]
theorem XM:∀(vs cs:List Value) (o k:Nat),o+vs.length<=k->(ZA cs o vs).drop k=cs.drop k
 | [],cs,o,k,_=>rfl
 | v::vs,cs,o,k,h=>by
  simp only[List.length_cons] at h
  simp only[ZA];rw[XM vs _ _ k (by omega),List.drop_set_of_lt (by omega)]
theorem FK:∀(vs cs:List Value) (o k:Nat),k<=o->(ZA cs o vs).take k=cs.take k
 | [],cs,o,k,_=>rfl
 | v::vs,cs,o,k,h=>by
  simp only[ZA];rw[FK vs _ _ k (by omega),List.take_set_of_le (by omega)]
theorem BC:∀(vs cs:List Value) (o a:Nat),(ZA cs (a+o) vs).drop a=ZA (cs.drop a) o vs
 | [],cs,o,a=>rfl
 | v::vs,cs,o,a=>by
  simp only[ZA];rw[show a+o+1=a+(o+1) by omega,BC vs _ (o+1) a];congr 1;rw[List.drop_set,if_neg (by omega)];congr 1;omega
theorem Fl:∀(vs cs:List Value) (o n:Nat),o+vs.length<=n->(ZA cs o vs).take n=ZA (cs.take n) o vs
 | [],cs,o,n,_=>rfl
 | v::vs,cs,o,n,h=>by
  simp only[List.length_cons] at h
  simp only[ZA];rw[Fl vs _ (o+1) n (by omega)];congr 1;rw[List.take_set]
theorem KX.set{α:Type}{sz off k:Nat}{c:Z9 α}{F0 F:Fz}{l:List α}{cs us:List Value}{z z' :α}(h:KX sz c F0 l cs)(le0:F0<=F)(hl:l[k]? =some z)(ho:off+us.length<=sz)(hr:∀F' vs,F<=F'->c F' z vs->c F' z' (ZA vs off us)):KX sz c F (l.set k z') (ZA cs (k*sz+off) us):=by
 intro i x hx F' le;have hk:=Z1 hl;rw[List.getElem?_set] at hx
 split at hx
 ·rename_i e;subst e;cases hx;have:=hr F' _ le (h k z hl F' (Fz.le_trans le0 le));rw[BC,Fl _ _ _ _ ho];exact this
 ·rename_i hne;have h0:=h i x hx F' (Fz.le_trans le0 le);rcases Nat.lt_or_gt_of_ne hne with hlt | hgt
  ·
    have:k*sz+off+us.length<=i*sz:=by
     have:=Nat.mul_le_mul_right sz (show k+1<=i from hlt);rw[Nat.add_mul,Nat.one_mul] at this;omega
    rw[XM _ _ _ _ this];exact h0
  · have hle:(i+1)*sz<=k*sz+off:=by
     have:=Nat.mul_le_mul_right sz (show i+1<=k from hgt);omega
    rw[Nat.add_mul,Nat.one_mul] at hle
    have e1:((ZA cs (k*sz+off) us).drop (i*sz)).take sz=((ZA cs (k*sz+off) us).take (i*sz+sz)).drop (i*sz):=by rw[List.drop_take];congr 1;omega
    have e2:(cs.drop (i*sz)).take sz=(cs.take (i*sz+sz)).drop (i*sz):=by rw[List.drop_take];congr 1;omega
    rw[e1,FK _ _ _ _ hle,<-e2];exact h0
theorem GL.wO{α:Type}{sz b off o sz' :Nat}{c:Z9 α}{T:TypeId}{p:Option Addr}{cap:Nat}{l l' :List α}{z z' :α}{us:List Value}(i:Nat)(hi:hs[i]? =some (Qj sz c F0 T p cap l))(hz:∀w,(sizeOf t).run P w= .ok sz' w)
  (hp:p=some ⟨b,0,none⟩) (hl:Zi l x=some z) (hx:QK S ox=some (.pointer (some ⟨b,o,none⟩))) (ho:o=0+x.toNat*sz+off) (hy:QK S oy=some v) (hc:v.cells=us.toArray) (hlen:us.length=sz') (h1:us.all Value.oneCell' =true) (hs' :Nat.ble (off+sz') sz=true)
  (hr:∀F' vs,F0<=F'->c F' z vs->c F' z' (ZA vs off us)) (he:l' =l.set x.toNat z')
  (k:GL O P ops rest ks Q (Hd n D S F (hs.set i (Qj sz c F0 T p cap l'))) m r):
  GL O P ops (⟨none,.store t ox oy,ty,pos,after,none⟩::rest) ks Q (Hd n D S F hs) m r:=by
 subst he;refine GL.wj rfl (.inr rfl) λhm a w ha=> ?_;obtain⟨h0,hlt,hel⟩:=Ua hl;obtain⟨b',cs,hp',hcl,hcap,hparts,hsh,hbig⟩:=L4 (ha.2.pull hi) hel;rw[hp] at hp';cases hp'
 have hs'' :=Nat.le_of_ble_eq_true hs'
 have hroom:x.toNat*sz+off+us.length<=cs.length:=by
  have:=Nat.mul_le_mul_right sz (show x.toNat+1<=cap by omega);rw[Nat.add_mul,Nat.one_mul] at this;rw[hcl];omega
 refine⟨put w b (.cells (ZA cs (x.toNat*sz+off) us).toArray T (0,0)),?_,k hm _ _ ⟨ha.1.ud _,SH.push hi (hsh.put.mono λm hm=>QS (λm' hm' =>⟨by simpa using hcap,hbig,.inr ⟨b,_,hp,hm',by rw[WX];exact hcl,hparts.set (Fz.le_refl _) hel (by omega) hr⟩⟩) hm)⟩⟩;have hrun:=VP (P:=P) (o:=x.toNat*sz+off) (i:=0) hsh.owned (by simpa using hroom) h1;simp only[Nat.add_zero] at hrun
 subst ho;simp only[execOp,Instr.storeAt,ha.1.eval hx,ha.1.eval hy,Instr.sureAddr,storeVar,Sem.run_bind,hz,Result.andThen,hc];simp[hlen,hrun]
end
end
section
variable{O:Option Nat}
def ZL{K V:Type}[BEq K]:List (K×V)->K->V->List (K×V)
 | [],k,v=>[(k,v)]
 | x::l,k,v=>if k==x.1 then(k,v)::l else x::ZL l k v
def Q5{K V:Type}[BEq K]:List (K×V)->K->Option V
 | [],_=>none
 | x::l,k=>if k==x.1 then some x.2 else Q5 l k
def Yr{K V:Type}(ck:K->Value)(rv:Fz->V->Value->Prop)(F:Fz):List MapEntry->List (K×V)->Prop
 | [],[]=>True
 | e::es,x::l=>e.key=ck x.1/\(∀F',F<=F'->rv F' x.2 e.val)/\Yr ck rv F es l
 | _,_=>False
structure Hk(P:Program)(t:TypeId){K:Type}[BEq K](ck:K->Value):Prop where
 und:∃kd,P.underlying t=some kd/\∀a b:K,Instr.sameNow kd (ck a) (ck b)=some (a==b)
 check:∀e k w,(Instr.checkKey e 10000 t (ck k)).run P w= .ok () w
 same:∀a:K,Instr.sameBits 10000 (ck a) (ck a)=true
 eq:∀a b:K,(a==b)=true->a=b
section
variable{K V:Type}[BEq K]{ck:K->Value}{rv:Fz->V->Value->Prop}{F F' :Fz}
omit [BEq K] in
theorem Yr.up:∀{es:List MapEntry} {l:List (K×V)},F<=F'->Yr ck rv F es l->Yr ck rv F' es l
 | [],[],_,_=>trivial
 | _::_,_::_,le,⟨h1,h2,h3⟩=>⟨h1,λG le' =>h2 G (Fz.le_trans le le'),h3.up le⟩
omit [BEq K] in
theorem Yr.len:∀{es:List MapEntry} {l:List (K×V)},Yr ck rv F es l->es.length=l.length
 | [],[],_=>rfl
 | _::_,_::_,⟨_,_,h3⟩=>by simp[h3.len]
theorem Yr.find{kd:TypeDesc}{k:K}(hk:∀a b,Instr.sameNow kd (ck a) (ck b)=some (a==b))(heq:∀a b:K,(a==b)=true->a=b):
  ∀{es:List MapEntry} {l:List (K×V)} (i0:Nat),Yr ck rv F es l->
   (Q5 l k=none/\Instr.findNow kd (ck k) es i0=some none/\∀v e',e'.key=ck k->(∀F',F<=F'->rv F' v e'.val)->Yr ck rv F (es++[e']) (ZL l k v))∨
   (∃j e x,es[j]? =some e/\e.key=ck k/\Q5 l k=some x/\Instr.findNow kd (ck k) es i0=some (some (i0+j,e.val))/\(∀F',F<=F'->rv F' x e.val)/\
    ∀v f,(f e).key=ck k->(∀F',F<=F'->rv F' v (f e).val)->Yr ck rv F (es.modify j f) (ZL l k v))
 | [],[],i0,_=>.inl ⟨rfl,rfl,λv e' h1 h2=>⟨h1,h2,trivial⟩⟩
 | e::es,x::l,i0,⟨h1,h2,h3⟩=>by
  by_cases hb:(k==x.1)=true
  ·right;refine⟨0,e,x.2,rfl,?_,by simp[Q5,hb],?_,h2,?_⟩
   ·rw[h1,heq _ _ hb]
   ·simp[Instr.findNow,h1,hk,hb]
   ·intro v f g1 g2;simp only[ZL,hb,if_true,List.modify_zero_cons];exact⟨g1,g2,h3⟩
  ·have hb' :(k==x.1)=false:=by simpa using hb
   rcases Yr.find (k:=k) hk heq (i0+1) h3 with⟨g1,g2,g3⟩ | ⟨j,e1,x1,g1,g2,g3,g4,g5,g6⟩
   ·left;refine⟨by simp[Q5,hb',g1],by simp[Instr.findNow,h1,hk,hb',g2],λv e' q1 q2=> ?_⟩;simp only[ZL,hb',Bool.false_eq_true,if_false,List.cons_append];exact⟨h1,h2,g3 v e' q1 q2⟩
   ·right;refine⟨j+1,e1,x1,by simpa using g1,g2,by simp[Q5,hb',g3],?_,g5,λv f q1 q2=> ?_⟩
    ·simp[Instr.findNow,h1,hk,hb',g4];omega
    ·simp only[ZL,hb',Bool.false_eq_true,if_false,List.modify_succ_cons];exact⟨h1,h2,g6 v f q1 q2⟩
def JQ(es:List MapEntry)(clock:Nat):Prop:=(es.map (·.born)).Pairwise (·< ·)/\∀e∈es,e.born < clock
theorem JQ.nil{c:Nat}:JQ [] c:=⟨List.Pairwise.nil,λ_ h=>by cases h⟩
theorem JQ.push{es:List MapEntry}{c:Nat}{k v:Value}(h:JQ es c):JQ (es++[{key:=k,val:=v,born:=c}]) (c+1):=by
 refine⟨?_,λe he=> ?_⟩
 ·rw[List.map_append,List.pairwise_append];refine⟨h.1,by simp,λa ha b hb=> ?_⟩;simp only[List.map_cons,List.map_nil,List.mem_singleton] at hb
  obtain⟨e,he,rfl⟩:=List.mem_map.1 ha;subst hb;exact h.2 e he
 ·rcases List.mem_append.1 he with he | he
  ·have:=h.2 e he;omega
  ·simp only[List.mem_singleton] at he;subst he;exact Nat.lt_succ_self _
theorem JQ.modify{es:List MapEntry}{c j:Nat}{f:MapEntry->MapEntry}(h:JQ es c)(hf:∀e,(f e).born=e.born):JQ (es.modify j f) c:=by
 have hm:∀(es:List MapEntry) (j:Nat),(es.modify j f).map (·.born)=es.map (·.born):=λes=>by
  induction es with
  | nil=>intro j;simp
  | cons e es ih=>
   intro j;cases j with
   | zero=>simp[hf]
   | succ j=>simp[ih]
 refine⟨by rw[hm];exact h.1,λe he=> ?_⟩;have h1:e.born∈(es.modify j f).map (·.born):=List.mem_map_of_mem he;rw[hm] at h1
 obtain⟨e',he',e1⟩:=List.mem_map.1 h1;rw[<-e1];exact h.2 e' he'
theorem JQ.erase{es:List MapEntry}{c j:Nat}(h:JQ es c):JQ (es.eraseIdx j) c:=
 ⟨h.1.sublist ((List.eraseIdx_sublist es j).map _),λe he=>h.2 e (List.mem_of_mem_eraseIdx he)⟩
def A6(ck:K->Value)(rv:Fz->V->Value->Prop)(F:Fz)(b:Nat)(l:List (K×V)):HP:=λm=>∃es clock,pt b (.map es clock) m/\Yr ck rv F es.toList l/\JQ es.toList clock
omit [BEq K] in
theorem O0{b:Nat}{l:List (K×V)}{m:Mem}(le:F<=F')(h:A6 ck rv F b l m):A6 ck rv F' b l m:=by
 obtain⟨es,c,h1,h2,h3⟩:=h;exact⟨es,c,h1,h2.up le,h3⟩
omit [BEq K] in
theorem z8{w:World}{F0:Fz}{H:HP}{b:Nat}{l:List (K×V)}(h:SH w F (star (A6 ck rv F0 b l) H)):∃es clock,w.heap[b]? =some (.map es clock)/\Yr ck rv F0 es.toList l/\SH w F (star (pt b (.map es clock)) H)/\JQ es.toList clock:=by
 obtain⟨m,⟨m1,m2,d,s1,s2,⟨es,c,h1,h2,h3⟩,hq⟩,k⟩:=h;have hs:SH w F (star (pt b (.map es c)) H):=⟨m,⟨m1,m2,d,s1,s2,h1,hq⟩,k⟩;exact⟨es,c,hs.owned,h2,hs,h3⟩
end
theorem Ya{P:Program}{w:World}{r:Nat}{es:Array MapEntry}{clock:Nat}(hb:w.heap[r]? =some (.map es clock)):(getObj r).run P w= .ok (.map es clock) w:=by
 simp[getObj,Sem.run,hb]
theorem Fm{P:Program}{w:World}{r:Nat}{es:Array MapEntry}{clock:Nat}{o' :Obj}(hb:w.heap[r]? =some (.map es clock)):(setObj r o').run P w= .ok () (put w r o'):=by
 simp[setObj,Sem.run,put,hb]
theorem run_findKey{P:Program}{kt:TypeId}{k:Value}{es:List MapEntry}{kd:TypeDesc}{w:World}{q:Option (Nat×Value)}(hu:P.underlying kt=some kd)(h:Instr.findNow kd k es 0=some q):(Instr.findKey kt k es).run P w= .ok q w:=by
 simp[Instr.findKey,JP hu,h]
section
variable{β:Type}{P:Program}{ops:Array Oper}{rest:List Oper}{ks:List Kt}{Q:Exit->Act->World->Prop}{m:Option β}{r:β}
variable{n:Nat}{D:List Deferred}{S:List (Nat×Value)}{F F0:Fz}{hs:List HP}
variable{d:Nat}{ty t t' e:TypeId}{pos:String}{after:Array Edge}{ox oy oz:Operand}{v u:Value}{kd:IntKind}{x y:Int}
variable{K V:Type}{ck:K->Value}{rv:Fz->V->Value->Prop}
theorem GL.makeMap(ck:K->Value)(rv:Fz->V->Value->Prop)(hd:Nat.blt d n=true)(k:∀b,GL O P ops rest ks Q (Hd n D ((d,.map (some b))::S) F (A6 ck rv F b []::hs)) m r):
  GL O P ops (⟨some d,.makeMap t none,ty,pos,after,none⟩::rest) ks Q (Hd n D S F hs) m r:=by
 refine GL.step rfl (.inr rfl) λhm a w ha=> ?_;have h1:=ha.2.alloc (.map #[] 0);refine⟨_,w.alloc (.map #[] 0),?_,k w.heap.size hm _ _ ⟨ha.1.put hd _,h1.mono λm hm=>QS (λm' hm' =>⟨#[],0,hm',trivial,JQ.nil⟩) hm⟩⟩;simp[execOp,Instr.makeMap]
variable[BEq K]
theorem jY{P:Program}{t:TypeId}{kd kd' :IntKind}{x:Int}{e:Bool}{w:World}(hu:P.underlying t=some (.int kd))(n:Nat):(Instr.checkKey e (n+1) t (.int kd' x)).run P w= .ok () w:=by
 simp[Instr.checkKey,JP hu]
theorem jE{kd:IntKind}{x:Int}(n:Nat):Instr.sameBits n (.int kd x) (.int kd x)=true:=by
 cases n<;>simp[Instr.sameBits]
theorem Hk.int{P:Program}{t:TypeId}{kd:IntKind}(hu:P.underlying t=some (.int kd)):Hk P t (λx:Int=>Value.int kd x) where
 und:=⟨_,hu,λa b=>by simp[Instr.sameNow]⟩
 check e k w:=jY hu 9999
 same a:=jE 10000
 eq a b h:=by simpa using h
def jo(len cap:Int):Option Nat:=if 0<=len/\len<=cap/\cap<=4294967296 then some len.toNat else none
theorem OT{zero:Array Value}{sz cap i:Nat}(hz:zero.size=sz)(hi:i < cap):((((Array.range (cap*sz)).map (λj=>zero[j%zero.size]!)).toList.drop (i*sz)).take sz)=zero.toList:=by
 have hroom:i*sz+sz<=cap*sz:=by
  have:=Nat.mul_le_mul_right sz (show i+1<=cap from hi);rw[Nat.add_mul,Nat.one_mul] at this;exact this
 apply List.ext_getElem?;intro j;by_cases hj:j < sz
 ·rw[List.getElem?_take,if_pos hj,List.getElem?_drop];have h1:i*sz+j < cap*sz:=by omega
  have h2:(i*sz+j)%sz=j:=by rw[Nat.add_comm,Nat.add_mul_mod_self_right,Nat.mod_eq_of_lt hj]
  have h3:j < zero.size:=by omega
  simp[h1,hz,h2];rw[getElem!_pos zero j h3];simp[h3]
 ·rw[List.getElem?_take,if_neg hj,List.getElem?_eq_none (by simp;omega)]
theorem KX.dN{α:Type}{sz:Nat}{c:Z9 α}{F:Fz}{z:α}{zero:Array Value}{k cap:Nat}(hz:zero.size=sz)(h:k<=cap)(hc:∀F',F<=F'->c F' z zero.toList):KX sz c F (List.replicate k z) ((Array.range (cap*sz)).map (λj=>zero[j%zero.size]!)).toList:=λi x hx F' le=>by
 have hi:=Z1 hx;simp only[List.length_replicate] at hi
 rw[List.getElem?_replicate,if_pos hi] at hx;cases hx
 rw[OT hz (by omega)];exact hc F' le
theorem GL.makeSlice{α:Type}{c:Z9 α}{sz:Nat}{z:α}{zv:Value}{kd' :IntKind}{f:Nat->Option β}(E:Vc P e sz c)(hd:Nat.blt d n=true)(ht:P.underlying t=some (.slice e))(hzv:∀w,(zeroValue e).run P w= .ok zv w)(hzc:∀F',F<=F'->c F' z zv.cells.toList)(hx:QK S ox=some (.int kd x))(hy:QK S oy=some (.int kd' y))
  (k:∀len b,jo x y=some len->GL O P ops rest ks Q (Hd n D ((d,.slice (some ⟨b,0,none⟩) (List.replicate len z).length y.toNat)::S) F (Qj sz c F e (some ⟨b,0,none⟩) y.toNat (List.replicate len z)::hs)) (f len) r):
  GL O P ops (⟨some d,.makeSlice t ox oy,ty,pos,after,none⟩::rest) ks Q (Hd n D S F hs) ((jo x y).bind f) r:=by
 refine GL.bind λlen hlen=> ?_;have hk:=λb=>k len b hlen;unfold jo at hlen
 split at hlen
 ·rename_i hb;cases hlen;refine GL.step rfl (.inr rfl) λhm a w ha=> ?_;obtain⟨ti,hti,hb0,hb1⟩:=E.info
  have hsz:zv.cells.size=sz:=by
   have:=E.len _ _ _ (hzc F (Fz.le_refl F));simpa using this
  have h1:=ha.2.alloc (.cells ((Array.range (y.toNat*sz)).map (λj=>zv.cells[j%zv.cells.size]!)) e);refine⟨_,w.alloc (.cells ((Array.range (y.toNat*sz)).map (λj=>zv.cells[j%zv.cells.size]!)) e),?_,hk w.heap.size hm _ _ ⟨ha.1.put hd _,h1.mono λm hm=>QS (λm' hm' =>⟨by simp;omega,by omega,.inr ⟨_,((Array.range (y.toNat*sz)).map (λj=>zv.cells[j%zv.cells.size]!)).toList,rfl,by(have hm2:pt _ _ m' :=hm';unfold pt at hm2 ⊢;rw[hm2]),by simp,KX.dN hsz (by omega) hzc⟩⟩) hm⟩⟩;have hw1:IntKind.i64.wrap x=x:=by simp[IntKind.wrap,IntKind.bits,IntKind.signed];omega
  have hw2:IntKind.i64.wrap y=y:=by simp[IntKind.wrap,IntKind.bits,IntKind.signed];omega
  have hby:(ti.bytes:Int)*y<=2^48:=by
   have h1:(ti.bytes:Int)<=4096:=by omega
   have h2:(ti.bytes:Int)*y<=4096*y:=Int.mul_le_mul_of_nonneg_right h1 (by omega);omega
  have hneg:¬y < 0:=by omega
  have hneg' :¬x < 0:=by omega
  have hxy:¬x > y:=by omega
  have hbig:¬(281474976710656:Int) < (ti.bytes:Int)*y:=by omega
  have i1:∀w:World,(asInt (.int kd x)).run P w= .ok x w:=λw=>by simp[asInt,asIntOf]
  have i2:∀w:World,(asInt (.int kd' y)).run P w= .ok y w:=λw=>by simp[asInt,asIntOf]
  simp only[execOp,ha.1.eval hx,ha.1.eval hy,Instr.makeSlice,Sem.run_bind,JP ht,Result.andThen,i1,i2,hti,hw1,hw2];by_cases hn:y.toNat*sz=0
  ·simp[hneg,hneg',hxy,hbig,E.size,hn,newRow,askRoom];rw[show Array.range 0=#[] from rfl];simp
  ·simp[hneg,hneg',hxy,hbig,E.size,hn,hzv,newRow,askRoom]
 ·cases hlen
theorem QI.isNil{α:Type}{sz:Nat}{c:Z9 α}{F:Fz}{cap:Nat}{l:List α}(h:QI sz c F none cap l):l=[]:=by
 rcases h.2.2 with h | ⟨_,_,_,_,_,h,_⟩
 ·exact h
 ·cases h
theorem eq_nil{t e:TypeId}{p:Option Addr}{len cap:Nat}{w:World}(ht:P.underlying t=some (.slice e))(n:Nat):(Op.equalIn (n+1) t (.slice p len cap) (.slice none 0 0)).run P w= .ok p.isNone w:=by
 cases p<;>simp[Op.equalIn,JP ht]
theorem GL.fQ{p:Option Addr}{len cap:Nat}(hd:Nat.blt d n=true)(ht:P.underlying t=some (.slice e))(hx:QK S ox=some (.slice p len cap))(hy:QK S oy=some (.slice none 0 0))(k:GL O P ops rest ks Q (Hd n D ((d,.bool p.isNone)::S) F hs) m r):
  GL O P ops (⟨some d,.binOp .eql t ox oy t',ty,pos,after,none⟩::rest) ks Q (Hd n D S F hs) m r:=
 GL.val hd (λa w ha=>by
  have hq:(Op.equal t (.slice p len cap) (.slice none 0 0)).run P w= .ok p.isNone w:=eq_nil ht 9999;have hg:P.eqGuardType P.depth t=false∨P.eqGuardType P.depth t=true:=by cases P.eqGuardType P.depth t<;>simp
  simp[execOp,ha.1.eval hx,ha.1.eval hy,eqGuard,binOp,hq]) k
end
end
section
variable{O:Option Nat}
structure Env where
 a:Nat->Option Addr
 n:Nat->Nat
 c:Nat->List Value
 f:Nat->Fz
 o:Nat->Option Nat
abbrev VI:Type:=Value×(Fz->Prop)
def HW{α:Type}:List Bool->List α->List (Option α)
 | b::bs,x::xs=>(bif b then some x else none)::HW bs xs
 | _,_=>[]
theorem Di{α:Type}:∀{M:List Bool} {x y:List α} {j:Nat} {q:α},HW M x=HW M y->M[j]? =some true->x[j]? =some q->y[j]? =some q
 | [],_,_,j,_,_,h,_=>by simp at h
 | b::M,[],_,j,_,_,_,h=>by simp at h
 | b::M,x::xs,[],j,_,h,_,_=>by simp[HW] at h
 | b::M,x::xs,y::ys,0,q,h,hb,hx=>by
  simp at hb hx;subst hb hx
  simp only[HW,cond_true,List.cons.injEq,Option.some.injEq] at h
  simp[h.1]
 | b::M,x::xs,y::ys,j+1,q,h,hb,hx=>by
  simp only[HW,List.cons.injEq] at h
  have:=Di (j:=j) (q:=q) h.2 (by simpa using hb) (by simpa using hx);simpa using this
def WA(l:List Oper):Nat->Nat->Nat->Bool
 | 0,_,_=>false
 | k+1,i,j=>match l[i]? with
  | none=>false
  | some o=>o.after.toList.any λe=>Region.binds .any e&&(Nat.beq e.on j||WA l k e.on j)
def Down(l:List Oper)(L:Nat->Bool):Prop:=∀i o,l[i]? =some o->L i=true->∀e∈o.after,Region.binds .any e=true->L e.on=true
theorem Wa{l:List Oper}{L:Nat->Bool}(hd:Down l L):∀{k i j:Nat},WA l k i j=true->(∀o,l[i]? =some o->∀e∈o.after,Region.binds .any e=true->L e.on=true)->L j=true
 | 0,i,j,h,_=>by simp[WA] at h
 | k+1,i,j,h,hi=>by
  simp only[WA] at h
  split at h
  ·cases h
  ·rename_i o ho;simp only[List.any_eq_true,Bool.and_eq_true,Bool.or_eq_true] at h
   obtain⟨e,he,hb,h⟩:=h;have hon:=hi o ho e (by simpa using he) hb;rcases h with h | h
   ·rw[<-Nat.eq_of_beq_eq_true h];exact hon
   ·exact Wa hd h λo' ho' e' he' hb' =>hd e.on o' ho' hon e' he' hb'
def DL(l:List Oper)(i:Nat):Nat->List Bool->List Bool->Bool
 | _,_,[]=>true
 | j,M,b::bs=>(b||Nat.beq j i||(match l[j]? with
  | none=>false
  | some o=>o.after.toList.any λe=>Region.binds .any e&&(Nat.beq e.on i||(Nat.blt e.on j&&(M[e.on]?).getD true==false))))&&DL l i (j+1) M bs
theorem Tm{l:List Oper}{i:Nat}{M:List Bool}:∀{bs:List Bool} {j0:Nat},DL l i j0 M bs=true->∀t,bs[t]? =some false->j0+t=i∨∃o e,l[j0+t]? =some o/\e∈o.after/\Region.binds .any e=true/\(e.on=i∨(e.on < j0+t/\M[e.on]? =some false))
 | [],_,_,t,h=>by simp at h
 | b::bs,j0,hb,0,h=>by
  simp at h;subst h
  simp only[DL,Bool.false_or,Bool.and_eq_true,Bool.or_eq_true] at hb
  rcases hb.1 with h | h
  ·exact .inl (Nat.eq_of_beq_eq_true h)
  ·right;split at h
   ·cases h
   ·rename_i o ho;simp only[List.any_eq_true,Bool.and_eq_true,Bool.or_eq_true] at h
    obtain⟨e,he,hbi,h⟩:=h;refine⟨o,e,ho,by simpa using he,hbi,?_⟩;rcases h with h | ⟨h1,h2⟩
    ·exact .inl (Nat.eq_of_beq_eq_true h)
    ·refine .inr ⟨Nat.le_of_ble_eq_true h1,?_⟩;cases hm:M[e.on]? with
     | none=>rw[hm] at h2;simp at h2
     | some b=>rw[hm] at h2;simp at h2;rw[h2]
 | b::bs,j0,hb,t+1,h=>by
  simp only[DL,Bool.and_eq_true] at hb
  have:=Tm hb.2 t (by simpa using h)
  rwa[show j0+1+t=j0+(t+1) by omega] at this
theorem C5{l:List Oper}{i:Nat}{M:List Bool}{L:Nat->Bool}(hd:Down l L)(hi:L i=false)(hc:DL l i 0 M M=true):∀(j:Nat),L j=true->j < M.length->M[j]? =some true:=λj=>by
 induction j using Nat.strongRecOn with
 | ind j ih=>
  intro hj hlt;cases hm:M[j]? with
  | none=>rw[List.getElem?_eq_none_iff] at hm;omega
  | some b=>
   cases b with
   | true=>rfl
   | false=>
    exfalso;have:=Tm hc j hm;rw[Nat.zero_add] at this
    rcases this with rfl | ⟨o,e,ho,he,hb,h⟩
    ·rw[hi] at hj;cases hj
    ·have hon:=hd j o ho hj e he hb;rcases h with h | ⟨hlt',h⟩
     ·rw[h,hi] at hon;cases hon
     ·have:=ih e.on hlt' hon (Z1 h);rw[h] at this;cases this
def Yp(l:List Oper)(j:Nat):Option Nat:=(l[j]?).bind (·.dst)
section
variable{β:Type}{P:Program}{ks:List Kt}{Q:Exit->Act->World->Prop}{m:Option β}{r:β}
variable{n:Nat}{D:List Deferred}{S0:List (Nat×Value)}{F:Fz}
def Hl(n:Nat)(D:List Deferred)(l:List Oper)(X:Env->List VI)(C:(Nat->Bool)->Env->List HP)(L:Nat->Bool)(env:Env)(F' :Fz)(i:Nat)(dst:Option Nat)(S:List (Nat×Value)):Exit->Act->World->Prop:=λe a w=>
 e= .normal/\∃env' F'',F'<=F''/\(∃M,M.length=(X env).length/\DL l i 0 M M=true/\HW M (X env)=HW M (X env'))/\∃q,(X env')[i]? =some q/\(∀G,F''<=G->q.2 G)/\
  Hd n D (match dst with | some d=>(d,q.1)::S | none=>S) F'' (C (KP L i) env') a w
def zk(O:Option Nat)(P:Program)(ops:Array Oper)(l:List Oper)(n:Nat)(D:List Deferred)(S0:List (Nat×Value))(F:Fz)(X:Env->List VI)(C:(Nat->Bool)->Env->List HP)(i:Nat)(o:Oper):Prop:=
 ∀L env F',F<=F'->L i=false->(∀k j,WA l k i j=true->L j=true)->(∀k j,WA l k j i=true->L j=false)->(∀(j:Nat) (q:VI),L j=true->(X env)[j]? =some q->∀G,F'<=G->q.2 G)->
  ∃Si,(∀S,Sub S0 S->(∀(j d:Nat) (v:Value),L j=true->Yp l j=some d->((X env)[j]?).map Prod.fst=some v->KU S d=some v)->Sub Si S)/\
   GL O P ops [o] [] (Hl n D l X C L env F' i o.dst Si) (Hd n D Si F' (C L env)) (some ()) ()
def Gh(O:Option Nat)(P:Program)(ops:Array Oper)(l:List Oper)(n:Nat)(D:List Deferred)(S0:List (Nat×Value))(F:Fz)(X:Env->List VI)(C:(Nat->Bool)->Env->List HP):Nat->List Oper->Prop
 | _,[]=>True
 | i,o::os=>zk O P ops l n D S0 F X C i o/\Gh O P ops l n D S0 F X C (i+1) os
theorem Gh.get{ops:Array Oper}{l:List Oper}{X:Env->List VI}{C:(Nat->Bool)->Env->List HP}:∀{k:Nat} {os:List Oper},Gh O P ops l n D S0 F X C k os->∀i o,os[i]? =some o->zk O P ops l n D S0 F X C (k+i) o
 | _,[],_,i,o,h=>by simp at h
 | k,x::os,hb,0,o,h=>by simp at h;subst h;exact hb.1
 | k,x::os,hb,i+1,o,h=>by
  have:=Gh.get hb.2 i o (by simpa using h)
  rwa[show k+1+i=k+(i+1) by omega] at this
theorem NO{ops:Array Oper}{o:Oper}{a:Act}{w:World}{l:List Oper}{X:Env->List VI}{C:(Nat->Bool)->Env->List HP}{L:Nat->Bool}{env:Env}{F' :Fz}{i:Nat}{S Si:List (Nat×Value)}(hn:∀d,o.dst=some d->Nat.blt d n=true)(ha:Sl n D S a)
  (h:XK O P ops (Hl n D l X C L env F' i o.dst Si) [o] a w):XK O P ops (Hl n D l X C L env F' i o.dst S) [o] a w:=by
 have key:∀u w',Hl n D l X C L env F' i o.dst Si .normal (a.put o.dst u) w'->Hl n D l X C L env F' i o.dst S .normal (a.put o.dst u) w' :=by
  rintro u w' ⟨_,env',F'',le,hM,q,hq,hf,hA⟩;refine⟨rfl,env',F'',le,hM,q,hq,hf,?_⟩;cases hd:o.dst with
  | none=>rw[hd] at hA;exact⟨ha.ud u,hA.2⟩
  | some d=>
   rw[hd] at hA
   have h1:=ha.put (hn d hd) u;have e1:=h1.2.2 d u GF;have e2:=hA.1.2.2 d q.1 GF;have:u=q.1:=e1.symm.trans e2;subst this;exact⟨h1,hA.2⟩
 have hno:∀e a w,e≠.normal->Hl n D l X C L env F' i o.dst Si e a w->False:=λe a w hne hq=>hne hq.1;unfold XK at h ⊢
 split
 ·rename_i hw;rw[if_pos hw] at h
  refine E1 key (λdd w' h=> ?_) (λe a w hne hq=>(hno e a w hne hq).elim) h;obtain⟨_,env',F'',le,hM,q,hq,hf,hA⟩:=h;have h2:=hA.1.2.1;cases hd:o.dst with
  | none=>
   rw[hd] at h2;simp only[Act.put] at h2;rw[ha.2.1] at h2
   exact absurd (congrArg List.length h2) (by simp)
  | some d=>
   rw[hd] at h2;simp only[Act.put] at h2;rw[ha.2.1] at h2
   exact absurd (congrArg List.length h2) (by simp)
 ·rename_i hw;rw[if_neg hw] at h
  exact key undef w h
def B4(d:Nat)(o:Oper):Bool:=match o.dst with
 | some d' =>Nat.beq d' d
 | none=>false
def XN(n:Nat)(S0:List (Nat×Value)):List Oper->Bool
 | []=>true
 | o::os=>(match o.dst with
  | none=>true
  | some d=>Nat.blt d n&& !Bj d S0&& !os.any (B4 d))&&XN n S0 os
theorem U8:∀{os:List Oper} {i:Nat} {o:Oper} {d:Nat},XN n S0 os=true->os[i]? =some o->o.dst=some d->Nat.blt d n=true/\Bj d S0=false
 | [],_,_,_,_,h,_=>by simp at h
 | x::os,0,o,d,hf,h,hd=>by
  simp at h;subst h
  simp only[XN,hd,Bool.and_eq_true,Bool.not_eq_true'] at hf
  exact⟨hf.1.1.1,hf.1.1.2⟩
 | x::os,i+1,o,d,hf,h,hd=>by
  simp only[XN,Bool.and_eq_true] at hf
  exact U8 hf.2 (by simpa using h) hd
theorem Dp{os:List Oper}{d i:Nat}{o:Oper}(h:os.any (B4 d)=false)(ho:os[i]? =some o)(hd:o.dst=some d):False:=by
 have hm:o∈os:=by
  obtain⟨hlt,e⟩:=List.getElem?_eq_some_iff.1 ho;rw[<-e];exact List.getElem_mem hlt
 have:os.any (B4 d)=true:=List.any_eq_true.2 ⟨o,hm,by simp[B4,hd]⟩;rw[h] at this;cases this
theorem G3:∀{os:List Oper} {i j:Nat} {o o' :Oper} {d:Nat},XN n S0 os=true->os[i]? =some o->os[j]? =some o'->o.dst=some d->o'.dst=some d->i=j
 | [],_,_,_,_,_,_,h,_,_,_=>by simp at h
 | x::os,0,0,_,_,_,_,_,_,_,_=>rfl
 | x::os,0,j+1,o,o',d,hf,h,h',hd,hd' =>by
  simp at h;subst h
  simp only[XN,hd,Bool.and_eq_true,Bool.not_eq_true'] at hf
  exact(Dp hf.1.2 (by simpa using h') hd').elim
 | x::os,i+1,0,o,o',d,hf,h,h',hd,hd' =>by
  simp at h';subst h'
  simp only[XN,hd',Bool.and_eq_true,Bool.not_eq_true'] at hf
  exact(Dp hf.1.2 (by simpa using h) hd).elim
 | x::os,i+1,j+1,o,o',d,hf,h,h',hd,hd' =>by
  simp only[XN,Bool.and_eq_true] at hf
  have:=G3 (i:=i) (j:=j) hf.2 (by simpa using h) (by simpa using h') hd hd';rw[this]
def NB:List Oper->List VI->List (Nat×Value)->List (Nat×Value)
 | o::os,q::qs,S=>match o.dst with
  | some d=>(d,q.1)::NB os qs S
  | none=>NB os qs S
 | _,_,S=>S
theorem Ah{S:List (Nat×Value)}(h0:Sub S0 S):∀{os:List Oper} {qs:List VI},(∀(i:Nat) (o:Oper) (d:Nat) (q:VI),os[i]? =some o->o.dst=some d->qs[i]? =some q->KU S d=some q.1)->Sub (NB os qs S0) S
 | [],_,_=>h0
 | _::_,[],_=>h0
 | o::os,q::qs,h=>by
  have h2:Sub (NB os qs S0) S:=Ah h0 λi o d q e1 e2 e3=>h (i+1) o d q (by simpa using e1) e2 (by simpa using e3);simp only[NB];cases hd:o.dst with
  | none=>exact h2
  | some d=>exact Sub.cons (h 0 o d q rfl hd rfl) h2
theorem GC.gG{hs:List HP}{id:Nat}{l:List Oper}(k g:Nat)(X:Env->List VI)(C:(Nat->Bool)->Env->List HP)(hm:P.follows .mixedOrders=true)(hord:ND 0 l=true)(htail:Nz k (l.drop k)=true)
  (hlen:Nat.ble k l.length=true) (hX:∀env,(X env).length=k) (hfr:XN n S0 (l.take k)=true) (hC:∀env,C (λ_=>false) env=hs++List.replicate g Sz)
  (hops:Gh O P l.toArray l n D S0 F X C 0 (l.take k))
  (tail:∀env F',F<=F'->(∀(j:Nat) (q:VI),(X env)[j]? =some q->q.2 F')->GL O P l.toArray (l.drop k) ks Q (Hd n D (NB (l.take k) (X env) S0) F' (C (λj=>Nat.blt j k) env)) m r):
  GC O P (.region id l.toArray true) ks Q (Hd n D S0 F hs) m r:=by
 intro hmr a w ha;have hlen' :k<=l.length:=Nat.le_of_ble_eq_true hlen
 let Free:(Nat->Bool)->Act->World->Prop:=λL a w=>Down l L/\(∀i,k<=i->L i=false)/\∃env F' S,F<=F'/\Sub S0 S/\(∀(j d:Nat) (v:Value),L j=true->Yp l j=some d->((X env)[j]?).map Prod.fst=some v->KU S d=some v)/\(∀(j:Nat) (q:VI),L j=true->(X env)[j]? =some q->∀G,F'<=G->q.2 G)/\Hd n D S F' (C L env) a w
 let Inv:(Nat->Bool)->Act->World->Prop:=λL a w=>Free L a w∨∃i,k < i/\(∀j,L j=true↔j < i)/\XK O P l.toArray (Zs O P ks Q) (l.drop i) a w
 have hend0:∀L a w,(∀i,i < k->L i=true)->Free L a w->XK O P l.toArray (Zs O P ks Q) (l.drop k) a w:=by
  rintro L a w hall ⟨hdn,hout,env,F',S,le,hS,hV,hΦ,hA⟩;have hXl:=hX env
  have hLk:L=λj=>Nat.blt j k:=by
    funext j;rcases Nat.lt_or_ge j k with h | h
    ·rw[hall j h];exact(Nat.ble_eq_true_of_le h).symm
    ·rw[hout j h];cases hb:Nat.blt j k with
     | false=>rfl
     | true=>have:=Nat.le_of_ble_eq_true hb;omega
  refine tail env F' le (λj q hq=>hΦ j q (hall j (by have:=Z1 hq;omega)) hq F' (Fz.le_refl F')) hmr a w ⟨hA.1.sub (Ah hS λi o d q e1 e2 e3=> ?_),hLk▸hA.2⟩;have hik:i < k:=by have:=Z1 e3;omega
  refine hV i d q.1 (hall i hik) ?_ (by rw[e3];rfl);rw[List.getElem?_take,if_pos hik] at e1
  simp[Yp,e1,e2]
 refine Ws hm Inv (λi o h e he hb=>by have:=Xj hord i o (by simpa using h) e he hb;omega) ?_ ?_ ?_
 ·refine .inl ⟨λi o _ h=>(by cases h),λ_ _=>rfl,⟨λ_=>none,λ_=>0,λ_=>[],λ_=>F,λ_=>none⟩,F,S0,Fz.le_refl F,Sub.refl _,λj d v h=>(by cases h),λj q h=>(by cases h),ha.1,?_⟩;rw[hC];have h1:=ha.2.drew (w.drawn+1);refine h1.mono λm hm' => ?_;exact stars_emps hm'
 ·intro L a w i o ho hLi hdeps hI;have ho' :l[i]? =some o:=by simpa using ho
  have hil:i < l.length:=Z1 ho';by_cases hi:i < k
  · rcases hI with hF | ⟨k',hk,hL,_⟩
    case inr=>have:=(hL i).2 (by omega);rw[hLi] at this;cases this
    obtain⟨hdn,hout,env,F',S,le,hS,hV,hΦ,hA⟩:=hF;have hot:(l.take k)[i]? =some o:=by rw[List.getElem?_take,if_pos hi];exact ho'
    have hop:=Gh.get hops i o hot;simp only[Nat.zero_add] at hop
    have hup:∀k' j,WA l k' j i=true->L j=false:=λk' j h=>by
     cases hj:L j with
     | false=>rfl
     | true=>
      have:=Wa hdn h λo' ho'' e he hb=>hdn j o' ho'' hj e he hb;rw[hLi] at this;cases this
    have hdn' :∀k' j,WA l k' i j=true->L j=true:=λk' j h=>Wa hdn h λo' ho'' e he hb=>by
     rw[ho'] at ho'';cases ho'';exact hdeps e he hb
    obtain⟨Si,hSi,hstep⟩:=hop L env F' le hLi hdn' hup hΦ;have hsub:=hSi S hS hV;have hn:∀d,o.dst=some d->Nat.blt d n=true:=λd hd=>(U8 hfr hot hd).1;have h1:=NO (S:=S) hn hA.1 (hstep rfl a w ⟨hA.1.sub hsub,hA.2⟩);refine Cp (λe a w hne hq=>absurd hq.1 hne) (λa' w' hq=> ?_) h1;obtain⟨_,env',F'',le',⟨M,hMl,hMc,hMe⟩,q,hq,hqf,hA'⟩:=hq
    have hst:∀(j:Nat) (q:VI),L j=true->(X env')[j]? =some q->(X env)[j]? =some q:=λj q hj hx=>by
     have hjl:j < M.length:=by rw[hMl,hX env,<-hX env'];exact Z1 hx
     exact Di hMe.symm (C5 hdn hLi hMc j hj hjl) hx
    refine .inl ⟨?_,?_,env',F'',(match o.dst with | some d=>(d,q.1)::S | none=>S),Fz.le_trans le le',?_,?_,?_,hA'⟩
    ·intro j oj hoj hj e he hb;by_cases hji:j=i
     ·subst hji;rw[ho'] at hoj;cases hoj
      have:=hdeps e he hb;simp only[KP];split
      ·rfl
      ·exact this
     ·have hLj:L j=true:=by simpa[KP,hji] using hj
      have:=hdn j oj hoj hLj e he hb;simp only[KP];split
      ·rfl
      ·exact this
    ·intro j hj;simp only[KP];rw[if_neg (by omega)];exact hout j hj
    ·cases hd:o.dst with
     | none=>exact hS
     | some d=>exact Ag hS (U8 hfr hot hd).2 _
    ·intro j d' v' hj hd' hv';by_cases hji:j=i
     ·subst hji;have hod:o.dst=some d' :=by simpa[Yp,ho'] using hd'
      rw[hq] at hv';simp only[Option.map_some,Option.some.injEq] at hv'
      subst hv';rw[hod];exact GF
     ·have hLj:L j=true:=by simpa[KP,hji] using hj
      have hjk:j < k:=by
       rcases Nat.lt_or_ge j k with h | h
       ·exact h
       ·rw[hout j h] at hLj;cases hLj
      obtain⟨q',hq',rfl⟩:=Option.map_eq_some_iff.1 hv';have h0:=hV j d' q'.1 hLj hd' (by rw[hst j q' hLj hq'];rfl);cases hd:o.dst with
      | none=>exact h0
      | some d=>
       have hne:d≠d' :=λh=>by
        subst h;cases hoj:l[j]? with
        | none=>simp[Yp,hoj] at hd'
        | some oj=>
         have hdj:oj.dst=some d:=by simpa[Yp,hoj] using hd'
         exact hji (G3 hfr (by rw[List.getElem?_take,if_pos hjk];exact hoj) hot hdj hd)
       exact C9 hne h0
    ·intro j q' hj hq' G hG;by_cases hji:j=i
     ·subst hji;rw[hq] at hq';cases hq';exact hqf G hG
     ·have hLj:L j=true:=by simpa[KP,hji] using hj
      exact hΦ j q' hLj (hst j q' hLj hq') G (Fz.le_trans le' hG)
  ·
    have hts:=Ac htail (i - k) o (by rw[List.getElem?_drop];rw[show k+(i - k)=i by omega];exact ho')
    have hall:∀j,j < i->L j=true:=λj hj=>by
     obtain⟨e,he,h1,h2⟩:=hts j (by omega);rw[<-h1];exact hdeps e he h2
    have hw:XK O P l.toArray (Zs O P ks Q) (l.drop i) a w:=by
     rcases hI with hF | ⟨k',hk,hL,hwp⟩
     ·have hiV:i=k:=by
       rcases Nat.lt_or_ge k i with h | h
       ·have:=hall k h;rw[hF.2.1 _ (Nat.le_refl _)] at this;cases this
       ·omega
      subst hiV;exact hend0 L a w hall hF
     ·have:k' =i:=by
       have h1:¬i < k' :=λh=>by have:=(hL i).2 h;rw[hLi] at this;cases this
       have h2:¬k' < i:=λh=>by have:=(hL k').1 (hall k' h);omega
       omega
      subst this;exact hwp
    have hdrop:l.drop i=o::l.drop (i+1):=by
     have hg:l[i]'hil=o:=by simpa[hil] using ho'
     rw[<-hg];exact List.drop_eq_getElem_cons hil
    rw[hdrop] at hw
    have hnext:∀a' w',XK O P l.toArray (Zs O P ks Q) (l.drop (i+1)) a' w'->Inv (KP L i) a' w' :=λa' w' h=>
     .inr ⟨i+1,by omega,λj=>by
      simp only[KP];by_cases hj:j=i
      ·simp[hj]
      ·simp only[hj,if_false];constructor
       ·intro hLj
        have:j < i:=by
         rcases Nat.lt_or_ge j i with h | h
         ·exact h
         ·rcases hI with hF | ⟨k',hk,hL,_⟩
          ·rw[hF.2.1 j (by omega)] at hLj;cases hLj
          ·have h1:=(hL j).1 hLj;have:=(hL i).2 (by omega);rw[hLi] at this;cases this
        omega
       ·intro hj';exact hall j (by omega),h⟩
    unfold XK at hw
    split
    ·rename_i hwn;rw[if_pos hwn] at hw
     exact Fw hnext hw
    ·rename_i hwn;rw[if_neg hwn] at hw
     exact hnext _ _ hw
 ·intro L a w hall hI
  have hw:XK O P l.toArray (Zs O P ks Q) (l.drop l.length) a w:=by
    rcases hI with hF | ⟨k',hk,hL,hwp⟩
    ·have hVl:k=l.length:=by
      rcases Nat.lt_or_ge k l.length with h | h
      ·have:=hall k (by simpa using h);rw[hF.2.1 _ (Nat.le_refl _)] at this;cases this
      ·omega
     have:=hend0 L a w (λi hi=>hall i (by simp;omega)) hF
     rwa[hVl] at this
    ·have:l.length<=k' :=by
      rcases Nat.lt_or_ge k' l.length with h | h
      ·have:=(hL k').1 (hall k' (by simpa using h));omega
      ·exact h
     rw[List.drop_eq_nil_of_le this] at hwp
     rw[List.drop_eq_nil_of_le (Nat.le_refl _)];exact hwp
  rw[List.drop_eq_nil_of_le (Nat.le_refl _)] at hw
  exact hw
where
 stars_emps {hs:List HP} {g:Nat} {m:Mem} (h:QY hs m):QY (hs++List.replicate g Sz) m:=by
  induction hs generalizing m with
  | nil=>
   rw[List.nil_append]
   induction g generalizing m with
   | zero=>exact h
   | succ g ih=>exact⟨λ_=>none,m,λ_=>.inl rfl,λ_ _ e=>by simp at e,Mem.sub.refl _,trivial,ih trivial⟩
  | cons q hs ih=>exact QM (λm' h' =>ih h') h
theorem Gh.cons{ops:Array Oper}{l:List Oper}{X:Env->List VI}{C:(Nat->Bool)->Env->List HP}{k:Nat}{o:Oper}{os:List Oper}(h:zk O P ops l n D S0 F X C k o)(t:Gh O P ops l n D S0 F X C (k+1) os):Gh O P ops l n D S0 F X C k (o::os):=⟨h,t⟩
theorem Gh.nil{ops:Array Oper}{l:List Oper}{X:Env->List VI}{C:(Nat->Bool)->Env->List HP}{k:Nat}:Gh O P ops l n D S0 F X C k []:=trivial
section
variable{ops:Array Oper}{l:List Oper}{X:Env->List VI}{C:(Nat->Bool)->Env->List HP}{L:Nat->Bool}{env:Env}{F' F2:Fz}{i d:Nat}{v:Value}{Si:List (Nat×Value)}{x:β}{hs2:List HP}
theorem allM{i:Nat}:∀{k j:Nat} {M:List Bool},DL l i j M (List.replicate k true)=true
 | 0,_,_=>rfl
 | k+1,j,M=>by
  simp only[List.replicate_succ,DL,Bool.true_or,Bool.true_and];exact allM
theorem GL.U(hx:(X env)[i]? =some (v,λ_=>True))(hC:C (KP L i) env=C L env)(le:F'<=F2):
  GL O P ops [] [] (Hl n D l X C L env F' i (some d) Si) (Hd n D ((d,v)::Si) F2 (C L env)) (some x) x:=
 λ_ a w ha=>⟨rfl,env,F2,le,⟨List.replicate (X env).length true,by simp,allM,rfl⟩,_,hx,λ_ _=>trivial,⟨ha.1,hC▸ha.2⟩⟩
theorem GL.gD(env' :Env)(M:List Bool)(hMl:M.length=(X env).length)(hMc:DL l i 0 M M=true)(hMe:HW M (X env)=HW M (X env')){q:Fz->Prop}(hx:(X env')[i]? =some (v,q))(le:F'<=F2)(hf:∀G,F2<=G->q G)
  (hC:∀w,SH w F2 (QY hs2)->SH w F2 (QY (C (KP L i) env'))):GL O P ops [] [] (Hl n D l X C L env F' i (some d) Si) (Hd n D ((d,v)::Si) F2 hs2) (some x) x:=
 λ_ _a _w ha=>⟨rfl,env',F2,le,⟨M,hMl,hMc,hMe⟩,_,hx,hf,⟨ha.1,hC _ ha.2⟩⟩
theorem GL.wI(hx:(X env)[i]? =some (v,λ_=>True))(le:F'<=F2)(hC:hs2=C (KP L i) env):GL O P ops [] [] (Hl n D l X C L env F' i none Si) (Hd n D Si F2 hs2) (some x) x:=
 λ_ a w ha=>⟨rfl,env,F2,le,⟨List.replicate (X env).length true,by simp,allM,rfl⟩,_,hx,λ_ _=>trivial,⟨ha.1,hC▸ha.2⟩⟩
end
theorem SH.place{hs:List HP}{p q:HP}{w:World}(k:Nat)(hk:hs[k]? =some q)(h:SH w F (QY (p::hs))):SH w F (QY (hs.set k p)):=
 SH.push hk ((h.mono λ_ hm=>ZT (QM (λ_=>HN (k:=k)) hm)).drop)
theorem JR{α:Type}{b:Bool}{x y:α}(h:b=true):cond b x y=x:=by rw[h];rfl
theorem Ze{α:Type}{b:Bool}{x y:α}(h:b=false):cond b x y=y:=by rw[h];rfl
theorem SH.wx{hs:List HP}{p p' q:HP}{w:World}(k:Nat)(hk:hs[k]? =some q)(hp:p' =p)(h:SH w F (QY (p::hs))):SH w F (QY (hs.set k p')):=hp▸h.place k hk
theorem BV{hs:List HP}{p p' :HP}(k:Nat)(hp:p' =p):hs.set k p=hs.set k p' :=by rw[hp]
theorem GL.norm{ops:Array Oper}{l:List Oper}{S S' :List (Nat×Value)}{hs hs' :List HP}(hS:Sub S' S)(hh:hs=hs')(k:GL O P ops l ks Q (Hd n D S' F hs') m r):GL O P ops l ks Q (Hd n D S F hs) m r:=
 λhm a w ha=>k hm a w ⟨ha.1.sub hS,hh▸ha.2⟩
theorem GL.xz{α:Type}{n:Nat}{S:List (Nat×Value)}{hs:List HP}{ops:Array Oper}{rest:List Oper}{d:Nat}{ty t:TypeId}{pos:String}{after:Array Edge}{ox oy:Operand}{kd:IntKind}{x:Int}{sz:Nat}{c:Z9 α}{p:Option Addr}{cap e:Nat}{l:List α}{l' :List α}(hl:Ke l 0 x=some l')(hd:Nat.blt d n=true)(ht:P.underlying t=some (.slice e))(hz:∀w,(sizeOf e).run P w= .ok sz w)
  (hr:QI sz c F p cap l) (hx:QK S ox=some (.slice p l.length cap)) (hy:QK S oy=some (.int kd x))
  (k:∀p' c',QI sz c F p' c' l'->GL O P ops rest ks Q (Hd n D ((d,.slice p' l'.length c')::S) F hs) m r):
  GL O P ops (⟨some d,.slice t ox none (some oy) none,ty,pos,after,none⟩::rest) ks Q (Hd n D S F hs) m r:=by
 have h:=GL.xf (f:=λ_=>m) (pos:=pos) (after:=after) (ty:=ty) hd ht hz hr hx hy (λl'' p' c' hl'' hr' =>by rw[hl] at hl'';cases hl'';exact k p' c' hr');rw[hl] at h;exact h
theorem GC.freeze{cd:Code}{S:List (Nat×Value)}{hs:List HP}{b:Nat}{o:Obj}(i:Nat)(hi:hs[i]? =some (pt b o))(k:∀F',F<=F'->F'.mem b=some o->GC O P cd ks Q (Hd n D S F' (hs.eraseIdx i)) m r):GC O P cd ks Q (Hd n D S F hs) m r:=
 λhm a w ha=>by
  obtain⟨h1,h2⟩:=SH.xO hi ha.2;exact k _ h1 (Fz.uS ..) hm a w ⟨ha.1,h2⟩
theorem GL.xl{α:Type}{ops:Array Oper}{rest:List Oper}{S:List (Nat×Value)}{hs:List HP}{d:Nat}{ty t e:TypeId}{pos:String}{after:Array Edge}{sz:Nat}(c:Z9 α)(hd:Nat.blt d n=true)(ht:P.underlying t=some (.slice e))(hz:∀w,(sizeOf e).run P w= .ok sz w)
  (k:∀b,GL O P ops rest ks Q (Hd n D ((d,.slice (some ⟨b,0,none⟩) 0 0)::S) F (Qj sz c F e (some ⟨b,0,none⟩) 0 []::hs)) m r):
  GL O P ops (⟨some d,.buildSlice t 0 #[],ty,pos,after,none⟩::rest) ks Q (Hd n D S F hs) m r:=
 GL.step rfl (.inr rfl) λhm a w ha=>by
  have h1:=ha.2.alloc (.cells #[] e);refine⟨.slice (some ⟨w.heap.size,0,none⟩) 0 0,w.alloc (.cells #[] e),?_,k w.heap.size hm _ _ ⟨ha.1.put hd _,h1.mono λm hm=>QS (λm' hm' =>⟨by simp,by omega,.inr ⟨_,[],rfl,hm',by simp,KX.nil⟩⟩) hm⟩⟩;have hr:∀g:Nat->Value,Array.map g (Array.range 0)=#[]:=λg=>by rw[show Array.range 0=#[] from rfl];simp
  simp[execOp,Instr.buildSlice,Sem.run_bind,JP ht,hz,Result.andThen,newRow,hr,Instr.fill]
theorem QO{a b:HP}{as bs:List HP}(h:a=b)(t:as=bs):a::as=b::bs:=by rw[h,t]
theorem GL.uo{ops:Array Oper}{l:List Oper}{X:Env->List VI}{C:(Nat->Bool)->Env->List HP}{L:Nat->Bool}{env:Env}{F' F2:Fz}{i d:Nat}{v:Value}{Si:List (Nat×Value)}{x:β}{hs2:List HP}(env' :Env)(M:List Bool)(hMl:M.length=(X env).length)(hMc:DL l i 0 M M=true)(hMe:HW M (X env)=HW M (X env')){q:Fz->Prop}(hx:(X env')[i]? =some (v,q))(le:F'<=F2)(hf:∀G,F2<=G->q G)
  (hC:C (KP L i) env' =hs2):GL O P ops [] [] (Hl n D l X C L env F' i (some d) Si) (Hd n D ((d,v)::Si) F2 hs2) (some x) x:=
 GL.gD env' M hMl hMc hMe hx le hf (λ_ h=>hC▸h)
theorem GL.xP{ops:Array Oper}{l:List Oper}{X:Env->List VI}{C:(Nat->Bool)->Env->List HP}{L:Nat->Bool}{env:Env}{F' F2:Fz}{i:Nat}{v:Value}{Si:List (Nat×Value)}{x:β}{hs2:List HP}(env' :Env)(M:List Bool)(hMl:M.length=(X env).length)(hMc:DL l i 0 M M=true)(hMe:HW M (X env)=HW M (X env')){q:Fz->Prop}(hx:(X env')[i]? =some (v,q))(le:F'<=F2)(hf:∀G,F2<=G->q G)
  (hC:C (KP L i) env' =hs2):GL O P ops [] [] (Hl n D l X C L env F' i none Si) (Hd n D Si F2 hs2) (some x) x:=
 λ_ _a _w ha=>⟨rfl,env',F2,le,⟨M,hMl,hMc,hMe⟩,_,hx,hf,⟨ha.1,hC▸ha.2⟩⟩
end
end
section
variable{O:Option Nat}
section
variable{β:Type}{P:Program}{ops:Array Oper}{rest:List Oper}{ks:List Kt}{Q:Exit->Act->World->Prop}{m:Option β}{r:β}
variable{n:Nat}{D:List Deferred}{S:List (Nat×Value)}{F F0:Fz}{hs:List HP}
theorem GL.um{α:Type}{sz:Nat}{c:Z9 α}{T:TypeId}{p:Option Addr}{cap:Nat}{l l' :List α}(i:Nat)(_hi:hs[i]? =some (Qj sz c F0 T p cap l))(e:l=l')(k:GL O P ops rest ks Q (Hd n D S F (hs.set i (Qj sz c F0 T p cap l'))) m r):GL O P ops rest ks Q (Hd n D S F hs) m r:=by
 subst e
 have:hs.set i (Qj sz c F0 T p cap l)=hs:=by
  apply List.ext_getElem?;intro j;rw[List.getElem?_set];split
  ·rename_i h;subst h;split
   ·exact _hi.symm
   ·rename_i h;rw[List.getElem?_eq_none (by omega)]
  ·rfl
 rw[this] at k;exact k
end
theorem QJ{P:Program}{t:TypeId}{cs:List Value}{o:Nat}{v:Value}(hA:∀w,(isAgg t).run P w= .ok false w)(h:cs[o]? =some v)(w:World):(part t cs.toArray o).run P w= .ok v w:=by
 simp[part,hA,h]
theorem WH{P:Program}{t:TypeId}{cs:List Value}{o z:Nat}{vs:List Value}(hA:∀w,(isAgg t).run P w= .ok true w)(hz:∀w,(sizeOf t).run P w= .ok z w)(h:(cs.drop o).take z=vs)(w:World):(part t cs.toArray o).run P w= .ok (.agg vs.toArray) w:=by
 subst h;simp[part,hA,hz]
def jm(P:Program)(d:Nat)(xs ys:Array Value):List Field->List Bool->Prop
 | [],[]=>True
 | f::fs,b::bs=>(f.name= "_")=False/\(∃u v,(∀w,(part f.type xs f.offset).run P w= .ok u w)/\(∀w,(part f.type ys f.offset).run P w= .ok v w)/\∀w,(Op.equalIn d f.type u v).run P w= .ok b w)/\jm P d xs ys fs bs
 | _,_=>False
theorem eq_int{P:Program}{t:TypeId}{k k' :IntKind}{x y:Int}(ht:P.underlying t=some (.int k'))(n:Nat)(w:World):(Op.equalIn (n+1) t (.int k x) (.int k y)).run P w= .ok (x==y) w:=by
 simp[Op.equalIn,JP ht]
theorem Rb{P:Program}{xs ys:Array Value}{d:Nat}{w:World}:∀{fs:List Field} {bs:List Bool},jm P d xs ys fs bs->
  ((forIn fs ((none:Option Bool),()) λf (_:Option Bool×Unit)=>
   if f.name= "_" then(pure (ForInStep.yield (none,())):Sem (ForInStep (Option Bool×Unit)))
   else do
    let u <-part f.type xs f.offset
    let v <-part f.type ys f.offset
    let b <-Op.equalIn d f.type u v
    if b=false then pure (ForInStep.done (some false,())) else pure (ForInStep.yield (none,()))).run P w)= .ok (if bs.all id then(none,()) else(some false,())) w
 | [],[],_=>by simp
 | f::fs,b::bs,⟨h1,⟨u,v,h2,h3,h4⟩,h5⟩=>by
  have ih:=Rb (w:=w) h5;rw[List.forIn_cons];simp only[h1,if_false,Sem.run_bind,h2,h3,h4,Result.andThen];cases b with
  | false=>simp
  | true=>simpa using ih
theorem Xo{P:Program}{t:TypeId}{fs:Array Field}{xs ys:Array Value}{bs:List Bool}{d:Nat}(ht:P.underlying t=some (.struct fs))(hs:P.stoodInHeld t=false)(h:jm P d xs ys fs.toList bs)(w:World):(Op.equalIn (d+1) t (.agg xs) (.agg ys)).run P w= .ok (bs.all id) w:=by
 have hl:=Rb (w:=w) h;simp only[Op.equalIn,Sem.run_bind,JP ht,Result.andThen];simp[hs];rw[<-Array.forIn_toList,hl];cases bs.all id<;>simp
def jn(P:Program)(d e sz:Nat)(xs ys:Array Value):Nat->List Bool->Prop
 | _,[]=>True
 | i,b::bs=>(∃u v,(∀w,(part e xs (i*sz)).run P w= .ok u w)/\(∀w,(part e ys (i*sz)).run P w= .ok v w)/\∀w,(Op.equalIn d e u v).run P w= .ok b w)/\jn P d e sz xs ys (i+1) bs
theorem Mx{P:Program}{xs ys:Array Value}{d e sz:Nat}{w:World}:∀{bs:List Bool} {i:Nat},jn P d e sz xs ys i bs->
  ((forIn (List.range' i bs.length) ((none:Option Bool),()) λi (_:Option Bool×Unit)=>(do
   let u <-part e xs (i*sz)
   let v <-part e ys (i*sz)
   let b <-Op.equalIn d e u v
   if b=false then pure (ForInStep.done (some false,())) else pure (ForInStep.yield (none,())):Sem (ForInStep (Option Bool×Unit)))).run P w)= .ok (if bs.all id then(none,()) else(some false,())) w
 | [],i,_=>by simp
 | b::bs,i,⟨⟨u,v,h2,h3,h4⟩,h5⟩=>by
  have ih:=Mx (w:=w) h5;rw[List.length_cons,List.range'_succ,List.forIn_cons];simp only[Sem.run_bind,h2,h3,h4,Result.andThen];cases b with
  | false=>simp
  | true=>simpa using ih
theorem Td{P:Program}{t e sz len:Nat}{xs ys:Array Value}{bs:List Bool}{d:Nat}(ht:P.underlying t=some (.array len e))(hz:∀w,(sizeOf e).run P w= .ok sz w)(hl:bs.length=len)(h:jn P d e sz xs ys 0 bs)(w:World):(Op.equalIn (d+1) t (.agg xs) (.agg ys)).run P w= .ok (bs.all id) w:=by
 have hl' :=Mx (w:=w) h;subst hl;simp only[Op.equalIn,Sem.run_bind,JP ht,Result.andThen,hz];simp[Std.Legacy.Range.forIn_eq_forIn_range',Std.Legacy.Range.size];rw[hl'];cases bs.all id<;>simp
end
section
def FW(W:World):Fz:={mem:=λb=>W.heap[b]?,os:=W.os,tape:=W.tape,out:=W.output}
theorem SH.start(W:World):SH W (FW W) Sz:=
 ⟨λ_=>none,trivial,⟨λ_=>.inl rfl,λ_ _ e=>by simp at e,λ_ _ e=>by simp at e,λ_ _ e=>e,rfl,rfl,rfl⟩⟩
def Zc{α H:Type}(enc:TypeId×Value->H)(P:Program)(W:World)(t:TypeId)(c:Z9 α)(ok:α->Prop):Prop:=
 ∀sp held fuel cs x,DataW.trod enc P W 0 sp held fuel t cs=some x->∃m,ok m/\∀F',FW W<=F'->c F' m cs
section
variable{H:Type}{enc:TypeId×Value->H}{P:Program}{W:World}
theorem Zc.int{t:TypeId}{k:IntKind}(ht:P.underlying t=some (.int k)):Zc enc P W t (Ex (QR k)) (λm=>(Lit.int k m).wf=true):=by
 intro sp held fuel cs x h;cases fuel with
 | zero=>simp[DataW.trod] at h
 | succ n=>
  unfold DataW.trod at h
  rw[ht] at h
  split at h<;>simp_all [Ex,QR]
  exact⟨_,h.1.2,λ_ _=>rfl⟩
theorem MW{α β:Type}{f:α->Option β}:∀{l:List α} {r:List β},l.mapM f=some r->∀(i:Nat) (a:α),l[i]? =some a->∃b,f a=some b/\r[i]? =some b
 | [],r,h,i,a,e=>by simp at e
 | a::l,r,h,i,a',e=>by
  rw[List.mapM_cons] at h
  cases ha:f a with
  | none=>rw[ha] at h;simp at h
  | some b=>
   rw[ha] at h
   cases hl:l.mapM f with
   | none=>rw[hl] at h;simp at h
   | some bs=>
    rw[hl] at h;simp at h;subst h
    cases i with
    | zero=>simp at e;subst e;exact⟨b,ha,by simp⟩
    | succ i=>exact MW hl i a' (by simpa using e) |>.imp λb hb=>⟨hb.1,by simpa using hb.2⟩
theorem E7{α:Type}{q:Nat->α->Prop}:∀(n:Nat),(∀i,i < n->∃m,q i m)->∃l:List α,l.length=n/\∀i m,l[i]? =some m->q i m
 | 0,_=>⟨[],rfl,λi m h=>by simp at h⟩
 | n+1,h=>by
  obtain⟨l,hl,hq⟩:=E7 n λi hi=>h i (by omega);obtain⟨m,hm⟩:=h n (by omega);refine⟨l++[m],by simp[hl],λi m' e=> ?_⟩;rcases Nat.lt_or_ge i l.length with hi | hi
  ·rw[List.getElem?_append_left hi] at e;exact hq i m' e
  ·rw[List.getElem?_append_right hi] at e
   have:i - l.length=0:=by have:=Z1 e;simp at this;omega
   rw[this] at e;simp at e;subst e
   rw[show i=n by omega];exact hm
theorem kO{w:World}{a:Addr}{v:Value}(h:w.cell? a=some v):a.spot=none/\∃cs T fr,w.heap[a.block]? =some (.cells cs T fr)/\cs[a.off]? =some v:=by
 unfold World.cell? at h
 split at h
 ·rename_i c T fr hb;split at h
  ·cases h
  ·rename_i hs;exact⟨by simpa using hs,c,T,fr,hb,h⟩
 ·cases h
theorem addr_add(b o i:Nat):(⟨b,o,none⟩:Addr).add i=⟨b,o+i,none⟩:=by
 unfold Addr.add;split
 ·rename_i h;subst h;rfl
 ·rfl
theorem Rl(a:Addr):a.add 0=a:=by simp[Addr.add]
theorem M9{w:World}{a:Addr}{n:Nat}{vs:List Value}(h:w.cells? 0 a n=some vs)(hn:0 < n):a.spot=none/\∃cs T fr,w.heap[a.block]? =some (.cells cs T fr)/\(cs.toList.drop a.off).take n=vs:=by
 obtain⟨_,hl,hc⟩:=World.cells?_some h;have h0:vs[0]? =some (vs[0]'(by omega)):=List.getElem?_eq_getElem _;have h1:=(hc 0 hn).trans h0;rw[Rl] at h1
 obtain⟨hs,cs,T,fr,hb,_⟩:=kO h1;refine⟨hs,cs,T,fr,hb,?_⟩;obtain⟨b,o,s⟩:=a;simp only at hs hb ⊢
 subst hs;apply List.ext_getElem?;intro i;rw[List.getElem?_take];split
 ·rename_i hi;have h2:=hc i hi;rw[addr_add] at h2
  unfold World.cell? at h2
  simp only[hb] at h2
  simp at h2
  rw[List.getElem?_drop,<-h2];simp
 ·rename_i hi;rw[List.getElem?_eq_none (by omega)]
theorem Zc.slice{α:Type}{t e sz:Nat}{c:Z9 α}{ok:α->Prop}(ht:P.underlying t=some (.slice e))(hc:P.cellsOf e=sz)(hsz:0 < sz)(V:Zc enc P W e c ok):Zc enc P W t (kh sz c) (λl=>∀x∈l,ok x):=by
 intro sp held fuel cs x h;cases fuel with
 | zero=>simp[DataW.trod] at h
 | succ n=>
  unfold DataW.trod at h
  rw[ht] at h
  split at h<;>simp_all only[reduceCtorEq,Option.some.injEq,TypeDesc.slice.injEq]
  ·exact⟨[],by simp,λF' _=>⟨none,0,rfl,QI.nil⟩⟩
  ·rename_i _ _ e' a len cap he;subst he;split at h
   ·rename_i hb;obtain⟨elems,he,_⟩:=Option.bind_eq_some_iff.1 h
    have hel:∀i,i < len->∃m,ok m/\∃vs,W.cells? 0 (a.add (i*sz)) sz=some vs/\∀F',FW W<=F'->c F' m vs:=by
     intro i hi;obtain⟨y,hy,_⟩:=MW he i i (by simp[hi]);obtain⟨vs,hvs,hy⟩:=Option.bind_eq_some_iff.1 hy;obtain⟨m,hm,hF⟩:=V _ _ _ _ _ hy;exact⟨m,hm,vs,hvs,hF⟩
    obtain⟨l,hl,hq⟩:=E7 len hel;refine⟨l,λx hx=> ?_,λF' le=>⟨some a,cap,by rw[hl],by omega,?_,?_⟩⟩
    ·obtain⟨i,hi,e⟩:=List.getElem_of_mem hx;exact(hq i x (by rw[<-e];exact List.getElem?_eq_getElem hi)).1
    ·have:=hb.2.2;simp[maxLen] at this;omega
    ·cases l with
     | nil=>exact .inl rfl
     | cons x0 l0=>
      obtain⟨_,vs0,hv0,_⟩:=hq 0 x0 rfl;rw[Nat.zero_mul,Rl] at hv0
      obtain⟨hs,cs,T,fr,hcell,_⟩:=M9 hv0 hsz;obtain⟨b,o,s⟩:=a;simp only at hs hcell
      subst hs;refine .inr ⟨b,o,cs,T,fr,rfl,?_,λi x hx F'' le' => ?_⟩
      ·exact le.mem _ _ hcell
      ·obtain⟨_,vs,hv,hF⟩:=hq i x hx;rw[addr_add] at hv
       obtain⟨_,cs',T',fr',hcell',htk⟩:=M9 hv hsz;simp only at hcell' htk
       rw[hcell] at hcell';cases hcell'
       have:=hF F'' (Fz.le_trans le le');rw[<-htk] at this
       exact this
   ·cases h
theorem Zv{cs p rest:List Value}{o s:Nat}(h:(cs.drop o).take s=p)(t:cs.drop (o+s)=rest):cs.drop o=p++rest:=by
 rw[<-h,<-t,<-List.drop_drop,List.take_append_drop]
theorem Hb{cs:List Value}{o:Nat}(h:cs.length=o):cs.drop o=[]:=List.drop_of_length_le (by omega)
theorem KL{α:Type}{xs:List α}{i n:Nat}{y:Option α}(h:y=xs[i]?)(hl:xs.length=n)(hi:Nat.blt i n=true):∃x,y=some x:=by
 have:=Nat.le_of_ble_eq_true hi;exact⟨_,h.trans (List.getElem?_eq_getElem (show i < xs.length by omega))⟩
end
end
section
open Go.ChangeShapes Go.WideShapes Go.ChangeAt Go.RowKit
section
variable{H:Type}{enc:TypeId×Value->H}{P:Program}{W:World}
theorem ER{r:Reach}{b0:Nat}{t:TypeId}{v x:Value}(hk:Value.okWide P W r b0 t v)(hn:∀fs,P.underlying t≠some (.struct fs))(ha:∀n e,P.underlying t≠some (.array n e))(hc:v.cells.toList=[x]):v=x:=by
 have hk' :Cell.okWide P W r b0 t v:=by
  unfold Value.okWide at hk
  split at hk
  ·rename_i fs h;exact absurd h (hn fs)
  ·rename_i n e h;exact absurd h (ha n e)
  ·exact hk
 cases v with
 | agg cs=>
  exfalso;unfold Cell.okWide at hk'
  split at hk' <;>first | contradiction | skip
  unfold Cell.ok at hk'
  split at hk' <;>first | contradiction | exact hk'
 | _=>simpa[Value.cells] using hc
theorem EY{b0:Nat}{t:TypeId}{k:IntKind}{v:Value}{d:DataW H}{ps:List MemPlace}(ht:P.underlying t=some (.int k))(hk:Value.okWide P W .any b0 t v)(hd:DataW.Trod enc P W 0 (λ_=>true) true t v d ps):
  ∃m,(Lit.int k m).wf=true/\v= .int k m:=by
 obtain⟨n,h,_,_,hw⟩:=open_int ht hk hd;exact⟨n,hw,h⟩
theorem DS{α:Type}{b0:Nat}{t e:TypeId}{sz:Nat}{c:Z9 α}{ok:List α->Prop}{v:Value}{d:DataW H}{ps:List MemPlace}(ht:P.underlying t=some (.slice e))(V:Zc enc P W t (kh sz c) ok)
  (hk:Value.okWide P W .any b0 t v) (hd:DataW.Trod enc P W 0 (λ_=>true) true t v d ps):
  ∃m p k,ok m/\v= .slice p m.length k/\QI sz c (FW W) p k m:=by
 obtain⟨fuel,hf⟩:=hd;obtain⟨m,hm,hF⟩:=V _ _ _ _ _ hf;obtain⟨p,k,hc,hr⟩:=hF _ (Fz.le_refl _);exact⟨m,p,k,hm,ER hk (by rw[ht];simp) (by rw[ht];simp) hc,hr⟩
theorem Rk{α:Type}{b0:Nat}{t:TypeId}{fs:Array Field}{c:Z9 α}{ok:α->Prop}{v:Value}{d:DataW H}{ps:List MemPlace}(ht:P.underlying t=some (.struct fs))(V:Zc enc P W t c ok)
  (hk:Value.okWide P W .any b0 t v) (hd:DataW.Trod enc P W 0 (λ_=>true) true t v d ps):
  ∃m cs,ok m/\v= .agg (List.toArray cs)/\c (FW W) m cs:=by
 obtain⟨fuel,hf⟩:=hd;obtain⟨m,hm,hF⟩:=V _ _ _ _ _ hf;unfold Value.okWide at hk
 rw[ht] at hk
 obtain⟨cs,rfl,_⟩:=hk;exact⟨m,cs.toList,hm,by simp,hF _ (Fz.le_refl _)⟩
theorem zL{w' :World}{F' :Fz}{H' :HP}(le:FW W<=F')(h:SH w' F' H'):Below W.heap.size W w' :=by
 obtain⟨h1,h2⟩:=SH.size_le h (λb o e=>e) le;obtain⟨m,_,hm⟩:=h;exact⟨hm.os.trans le.os,hm.tape.trans le.tape,hm.out.trans le.out,h1,h2⟩
theorem BB{W' :World}(hl:laidOutB P=true)(hb:Below W.heap.size W W'):∀{ts:List TypeId} {vs:List Value} {ds:List (DataW H)} {ps:List MemPlace},(ts.all λt=>P.readableRec t&&decide (t < P.types.size))=true->
  DataW.TrodAll enc P W 0 (λ_=>true) true ts vs ds ps->(∀x∈ps,x.block < W.heap.size)->DataW.TrodAll enc P W' 0 (λb=>decide (b < W.heap.size)) true ts vs ds ps
 | [],vs,ds,ps,_,h,_=>by
  obtain⟨rfl,rfl,rfl⟩:=trodAll_nil h;rfl
 | t::ts,vs,ds,ps,ht,h,hlt=>by
  obtain⟨v,vs',d,ds',p,q,rfl,rfl,rfl,hd,hr⟩:=trodAll_cons h;simp only[List.all_cons,Bool.and_eq_true,decide_eq_true_eq] at ht
  exact⟨p,q,hb.trod hl ht.1.1 ht.1.2 hd (λx hx=>hlt x (by simp[hx])),BB hl hb (by simpa using ht.2) hr (λx hx=>hlt x (by simp[hx])),rfl⟩
theorem Sb:∀{ts:List TypeId} {vs:List Value} {ds:List (DataW H)} {ps:List MemPlace} {b:Nat} {sp:Nat->Bool} {hd:Bool},DataW.TrodAll enc P W b sp hd ts vs ds ps->ds.length=ts.length
 | [],vs,ds,ps,_,_,_,h=>by obtain⟨_,rfl,_⟩:=trodAll_nil h;rfl
 | t::ts,vs,ds,ps,_,_,_,h=>by
  obtain⟨v,vs',d,ds',p,q,rfl,rfl,rfl,_,hr⟩:=trodAll_cons h;simp[Sb hr]
end
end
section
theorem Q8{n:Int}(h1: -9223372036854775808<=n)(h2:n<=9223372036854775807):Qy n=n:=by
 have e:IntKind.i64.bits=64:=rfl;simp only[Qy,IntKind.wrap,e];simp[IntKind.signed];omega
theorem ZF{α:Type}(l:List α)(i:Nat):Zi l (i:Int)=l[i]? :=by
 simp[Zi]
theorem kG{α:Type}{l:List α}{i:Int}(h0:0<=i)(h:i < l.length):∃x,Zi l i=some x/\l[i.toNat]? =some x:=by
 obtain⟨k,rfl⟩:=Int.eq_ofNat_of_zero_le h0;rw[ZF];have hk:k < l.length:=by omega
 exact⟨l[k],List.getElem?_eq_getElem hk,by simp[hk]⟩
theorem JI{n i:Nat}(h:i < n):Kj n (i:Int)=some i:=by
 unfold Kj;rw[if_pos (by omega)];simp
theorem wf_u8{n:Int}(h:(Lit.int .u8 n).wf=true):0<=n/\n<=255:=by
 have h1:IntKind.min .u8=0:=by decide
 have h2:IntKind.max .u8=255:=by decide
 simp only[Lit.wf,Bool.and_eq_true,decide_eq_true_eq,h1,h2] at h
 exact h
def jq{α τ β:Type}(step:τ->Nat->α->Option (JM τ β))(fin:τ->β):List α->Nat->τ->Option β
 | [],_,t=>some (fin t)
 | x::l,i,t=>match step t i x with
  | none=>none
  | some (.next t')=>jq step fin l (i+1) t'
  | some (.done b)=>some b
def JM.fq{σ τ β:Type}(f:τ->σ):JM τ β->JM σ β
 | .next t=>.next (f t)
 | .done b=>.done b
theorem CK{α σ τ β:Type}{body:σ->Option (JM σ β)}(mk:τ->Nat->σ)(step:τ->Nat->α->Option (JM τ β))(fin:τ->β)(l:List α)
  (hb:∀t (i:Nat) x,l[i]? =some x->body (mk t i)=(step t i x).map (JM.fq λt' =>mk t' (i+1)))
  (he:∀t,body (mk t l.length)=some (.done (fin t))):∀(k i:Nat) (t:τ),i+k=l.length->Qk body (mk t i)=jq step fin (l.drop i) i t
 | 0,i,t,hi=>by
  have:i=l.length:=by omega
  subst this;rw[Q9,he,List.drop_length];rfl
 | k+1,i,t,hi=>by
  have hlt:i < l.length:=by omega
  have hx:l[i]? =some l[i]:=List.getElem?_eq_getElem hlt;rw[Q9,hb t i _ hx,List.drop_eq_getElem_cons hlt];simp only[jq];cases hs:step t i l[i] with
  | none=>rfl
  | some c=>
   cases c with
   | done b=>rfl
   | next t' =>exact CK mk step fin l hb he k (i+1) t' (by omega)
theorem O8{α σ τ β:Type}{body:σ->Option (JM σ β)}(mk:τ->Nat->σ)(step:τ->Nat->α->Option (JM τ β))(fin:τ->β)(l:List α)
  (hb:∀t (i:Nat) x,l[i]? =some x->body (mk t i)=(step t i x).map (JM.fq λt' =>mk t' (i+1)))
  (he:∀t,body (mk t l.length)=some (.done (fin t))) (t:τ):Qk body (mk t 0)=jq step fin l 0 t:=
 CK mk step fin l hb he l.length 0 t (by omega)
theorem C8{α σ τ β:Type}{body:σ->Option (JM σ β)}(mk:Nat->τ->σ)(fin:τ->β)(R:List α->τ->Prop)(l:List α)
  (h:∀pre x post t,l=pre++x::post->R pre t->∃t',body (mk pre.length t)=some (.next (mk (pre.length+1) t'))/\R (pre++[x]) t')
  (hend:∀t,R l t->body (mk l.length t)=some (.done (fin t))):
  ∀(post pre:List α) (t:τ),l=pre++post->R pre t->∃t',R l t'/\Qk body (mk pre.length t)=some (fin t')
 | [],pre,t,hl,hr=>by
  rw[List.append_nil] at hl;subst hl
  exact⟨t,hr,by rw[Q9,hend t hr]⟩
 | x::post,pre,t,hl,hr=>by
  obtain⟨t',hs,hr'⟩:=h pre x post t hl hr;have:=C8 mk fin R l h hend post (pre++[x]) t' (by rw[hl];simp) hr';rw[Q9,hs];simpa using this
theorem KQ{σ τ β:Type}{body:σ->Option (JM σ β)}(mk:Nat->τ->σ)(fin:τ->β)(R:Nat->τ->Prop)(n:Nat)
  (h:∀i t,i < n->R i t->∃t',body (mk i t)=some (.next (mk (i+1) t'))/\R (i+1) t')
  (hend:∀t,R n t->body (mk n t)=some (.done (fin t))):∀(k i:Nat) (t:τ),i+k=n->R i t->∃t',R n t'/\Qk body (mk i t)=some (fin t')
 | 0,i,t,e,hr=>by
  have:i=n:=by omega
  subst this;exact⟨t,hr,by rw[Q9,hend t hr]⟩
 | k+1,i,t,e,hr=>by
  obtain⟨t',hs,hr'⟩:=h i t (by omega) hr;rw[Q9,hs];exact KQ mk fin R n h hend k (i+1) t' (by omega) hr'
theorem QE{α β:Type}{e:Option α}{f:α->Option β}{a:α}{r:Option β}(h:e=some a)(k:f a=r):e.bind f=r:=by
 rw[h];exact k
theorem Z8{α:Type}{l k:List α}(h:l.length+k.length<=4294967296):HJ l k=some (l++k):=by
 unfold HJ;rw[if_pos h]
theorem RT{α:Type}{l pre post:List α}{x:α}(h:l=pre++x::post):l[pre.length]? =some x:=by rw[h];simp
theorem EC{α:Type}{l pre post:List α}{x:α}(h:l=pre++x::post):pre.length < l.length:=by rw[h];simp
theorem qH{α:Type}{p:List α->Prop}(h0:p [])(hs:∀l x,p l->p (l++[x]))(l:List α):p l:=by
 have:∀r:List α,p r.reverse:=by
  intro r
  induction r with
  | nil=>exact h0
  | cons x r ih=>rw[List.reverse_cons];exact hs _ _ ih
 have:=this l.reverse
 rwa[List.reverse_reverse] at this
theorem TH{σ β:Type}{body:σ->Option (JM σ β)}(I:σ->Prop)(μ:σ->Nat)(Q:β->Prop)
  (h:∀s,I s->(∃s',body s=some (.next s')/\I s'/\μ s' < μ s)∨∃b,body s=some (.done b)/\Q b):∀(n:Nat) (s:σ),μ s<=n->I s->∃b,Qk body s=some b/\Q b
 | 0,s,hn,hi=>by
  rcases h s hi with⟨s',_,_,hlt⟩ | ⟨b,hb,hq⟩
  ·omega
  ·exact⟨b,by rw[Q9,hb],hq⟩
 | n+1,s,hn,hi=>by
  rcases h s hi with⟨s',hb,hi',hlt⟩ | ⟨b,hb,hq⟩
  ·rw[Q9,hb];exact TH I μ Q h n s' (by omega) hi'
  ·exact⟨b,by rw[Q9,hb],hq⟩
end
section
variable{O:Option Nat}
theorem Ol{O:Option Nat}{n:Nat}{P:Program}{l:Nat}{f:FuncId}{tmps:Array Value}{assign body:Code}{w:World}{R:Ending->World->Prop}:RoundIn (AW O) n P l f tmps assign body w R↔RoundIn Fence.wide n P l f tmps assign body w R:=by
 cases O with
 | none=>exact Iff.rfl
 | some l=>exact Iff.rfl
def VN{α σ:Type}(P:Program)(l:Nat)(F:Fz)(arg:α->Fz->List Value->Prop)(Y:σ->Fz->HP)(y:α->σ->Option (σ×Bool)):Prop:=
 (∀s F0 F1 m,F<=F0->F0<=F1->Y s F0 m->Y s F1 m)/\
 ∀F1,F<=F1->∀x vs s r,arg x F1 vs->y x s=some r->∀w R,SH w F1 (star (Y s F1) R)->
  ∃f tmps assign body,(Instr.yield l vs.toArray).run P w= .ok (.round l f tmps assign body) w/\
   RoundIn Fence.wide 0 P l f tmps assign body w (λe w' =>∃F2,F1<=F2/\e= .returned (.bool r.2)/\SH w' F2 (star (Y r.1 F2) R))
def zZ{α:Type}(P:Program)(F:Fz)(f:FuncId)(caps:List Value)(arg:α->Fz->List Value->Prop)(mk:∀σ:Type,(α->σ->Option (σ×Bool))->σ->Option σ):Prop:=
 (∀args w,(callFunc f args).run P w= .ok (.enter f args) w)/\
 ∀(σ:Type) (l:Nat) (Y:σ->Fz->HP) (y:α->σ->Option (σ×Bool)) (F1:Fz),F<=F1->VN P l F1 arg Y y->∀s,CT P f (.func (.yield l) #[] #[]::caps).toArray F1 (Y s F1) (mk σ y s) (λ_ _ _=>True) (λs' F' _=>Y s' F')
section
variable{β:Type}{P:Program}{ops:Array Oper}{rest:List Oper}{ks:List Kt}{Q:Exit->Act->World->Prop}{m:Option β}{r:β}
variable{n:Nat}{D:List Deferred}{S:List (Nat×Value)}{F:Fz}{hs:List HP}
theorem GL.xR{α σ:Type}{l d i:Nat}{ty:TypeId}{pos:String}{after:Array Edge}{vs:List Value}{of:Operand}{os:List Operand}{T:Array TypeId}{Fb F0:Fz}{arg:α->Fz->List Value->Prop}{Y:σ->Fz->HP}{y:α->σ->Option (σ×Bool)}{x:α}{s:σ}{g:σ×Bool->Option β}
  (hd:Nat.blt d n=true) (hy:VN P l Fb arg Y y) (hf:QK S of=some (.func (.yield l) #[] #[])) (ha:YQ S os=some vs) (hx:arg x F vs) (hi:hs[i]? =some (Y s F0)) (le0:Fb<=F0) (le:F0<=F)
  (k:∀p F',y x s=some p->F<=F'->GL O P ops rest ks Q (Hd n D ((d,.bool p.2)::S) F' (hs.set i (Y p.1 F'))) (g p) r):
  GL O P ops (⟨some d,.call ⟨.value of,os.toArray,T⟩,ty,pos,after,none⟩::rest) ks Q (Hd n D S F hs) ((y x s).bind g) r:=by
 intro hm a w hA;cases he:y x s with
 | none=>rw[he] at hm;cases hm
 | some p=>
  rw[he] at hm
  obtain⟨f,tmps,assign,body,hr,hround⟩:=hy.2 F (Fz.le_trans le0 le) x vs s p hx he w _ ((hA.2.pull hi).mono λ_ hm=>QS (λ_ hm=>hy.1 s F0 F _ le0 le hm) hm);unfold XK;rw[if_pos (by simp[Region.wanted])];refine⟨.inr rfl,?_⟩;have e:=Wl hA.1 ha
  have hrun:(execOp a.eval ⟨some d,.call ⟨.value of,os.toArray,T⟩,ty,pos,after,none⟩).run P w= .ok (.round l f tmps assign body) w:=by
   simp[execOp,resolve,Deferred.ofValue,hA.1.eval hf,e,invoke,hr]
  rw[hrun];refine⟨λe=>(by rw[Ds] at e;cases e),Ol.2 (hround.mono ?_)⟩;rintro _ w' ⟨F2,le2,rfl,hw⟩;exact k p F2 he le2 hm _ _ ⟨hA.1.put hd _,SH.push hi hw⟩
theorem GC.dL{α σ:Type}{l:Nat}{c:Code}{Fb F0:Fz}{arg:α->Fz->List Value->Prop}{Y:σ->Fz->HP}{y:α->σ->Option (σ×Bool)}{s:σ}(i:Nat)(hy:VN P l Fb arg Y y)(hi:hs[i]? =some (Y s F0))(le0:Fb<=F0)(le:F0<=F)
  (k:GC O P c ks Q (Hd n D S F (hs.set i (Y s F))) m r):GC O P c ks Q (Hd n D S F hs) m r:=
 GC.wq (λ_ _ h=>⟨h.1,SH.push hi ((h.2.pull hi).mono λ_ hm=>QS (λ_ hm=>hy.1 s F0 F _ le0 le hm) hm)⟩) k
end
def Vu(L:Loop):Obj:=.loop {L with state:=.ready,pending:=none}
def VW(L:Loop):Obj:=.loop {L with state:=.busy,pending:=none}
def MZ(L:Loop):Obj:=.loop {L with state:=.done,pending:=some .ret}
def RH(L:Loop)(c:Option Code):Obj:=.loop {L with state:=.exhausted,pending:=c}
def I5{α τ γ:Type}(body:α->τ->Option (JM τ γ)):α->JM τ γ->Option (JM τ γ×Bool)
 | x,.next s=>(body x s).map λc=>(c,match c with | .next _=>true | .done _=>false)
 | _,.done _=>none
def yS{τ γ:Type}(Fb:Fz)(l:Nat)(L:Loop)(I:τ->Fz->List HP->Prop)(J:γ->Fz->List HP->Prop):JM τ γ->Fz->HP
 | .next s,F=>λm=>∃F0 hs,Fb<=F0/\F0<=F/\I s F0 hs/\star (pt l (Vu L)) (QY hs) m
 | .done b,F=>λm=>∃F0 hs,Fb<=F0/\F0<=F/\J b F0 hs/\star (pt l (MZ L)) (QY hs) m
def RP{τ γ:Type}(l:Nat)(L:Loop)(I:τ->Fz->List HP->Prop)(J:γ->Fz->List HP->Prop)(F1:Fz)(R:HP)(ctl:JM τ γ):Exit->Act->World->Prop:=λe _ w=>
 match ctl with
 | .next s=>e= .normal/\∃F2 hs,F1<=F2/\I s F2 hs/\SH w F2 (QY (pt l (VW L)::R::hs))
 | .done b=>e= .ret/\∃F2 hs,F1<=F2/\J b F2 hs/\SH w F2 (QY (pt l (VW L)::R::hs))
def BP(P:Program)(l:Nat)(body:Code)(Q:Exit->Act->World->Prop):Exit->Act->World->Prop:=λe a w=>
 e= .normal/\∃w₂,(Instr.beginRound l).run P w= .ok () w₂/\body.wpIn (AW (some l)) 0 P Q a w₂
theorem Oj{P:Program}{w:World}{l:Nat}{L:Loop}(h:w.heap[l]? =some (Vu L)):(Instr.beginRound l).run P w= .ok () (put w l (VW L)):=
 run_beginRound (r:={L with state:=.ready,pending:=none}) h rfl
theorem qL{P:Program}{w:World}{l:Nat}{L:Loop}(h:w.heap[l]? =some (VW L)):(Instr.endRound l none).run P w= .ok (.bool true) (put w l (Vu L)):=
 run_endRound (r:={L with state:=.busy,pending:=none}) none h
theorem qK{P:Program}{w:World}{l:Nat}{L:Loop}(h:w.heap[l]? =some (VW L)):(Instr.endRound l (some .ret)).run P w= .ok (.bool false) (put w l (MZ L)):=
 run_endRound (r:={L with state:=.busy,pending:=none}) (some .ret) h
theorem Cs{P:Program}{w:World}{l:Nat}{L:Loop}(h:w.heap[l]? =some (Vu L)):(Instr.endLoop l).run P w= .ok none (put w l (RH L none)):=
 run_endLoop (r:={L with state:=.ready,pending:=none}) h (by simp)
theorem Oh{P:Program}{w:World}{l:Nat}{L:Loop}(h:w.heap[l]? =some (MZ L)):(Instr.endLoop l).run P w= .ok (some .ret) (put w l (RH L (some .ret))):=
 run_endLoop (r:={L with state:=.done,pending:=some .ret}) h (by simp)
section
variable{β:Type}{P:Program}{m:Option β}{r:β}{n:Nat}{D:List Deferred}{S:List (Nat×Value)}{F F1:Fz}{hs:List HP}{R:HP}
variable{α τ γ:Type}{l:Nat}{L:Loop}{I:τ->Fz->List HP->Prop}{J:γ->Fz->List HP->Prop}{body assign:Code}
theorem GE.begin{Q:Exit->Act->World->Prop}(i:Nat)(hi:hs[i]? =some (pt l (Vu L)))(k:GC (some l) P body [] Q (Hd n D S F (hs.set i (pt l (VW L)))) m r):GE (some l) P [] (BP P l body Q) (Hd n D S F hs) m r:=
 λhm a _ ha=>⟨rfl,_,Oj (SH.uV hi ha.2),k hm a _ ⟨ha.1,SH.putAt hi ha.2 _⟩⟩
theorem RP.norm{s:τ}{ctl:JM τ γ}{hs' :List HP}(le:F1<=F)(h:I s F hs')(e:hs=pt l (VW L)::R::hs'):some (JM.next s)=some ctl->∀a w,Hd n D S F hs a w->RP l L I J F1 R ctl .normal a w:=λe' a w ha=>by
 simp only[Option.some.injEq] at e';subst e';subst e;exact⟨rfl,F,hs',le,h,ha.2⟩
theorem RP.ret{b:γ}{ctl:JM τ γ}{hs' :List HP}(le:F1<=F)(h:J b F hs')(e:hs=pt l (VW L)::R::hs'):some (JM.done b)=some ctl->∀a w,Hd n D S F hs a w->RP l L I J F1 R ctl .ret a w:=λe' a w ha=>by
 simp only[Option.some.injEq] at e';subst e';subst e;exact⟨rfl,F,hs',le,h,ha.2⟩
theorem RP.x7{s s' :τ}{hs' :List HP}(le:F1<=F)(h:I s F hs')(e:hs=pt l (VW L)::R::hs'):some s=some s'->∀a w,Hd n D S F hs a w->RP l L I J F1 R (.next s') .normal a w:=λe' a w ha=>by
 simp only[Option.some.injEq] at e';subst e';subst e;exact⟨rfl,F,hs',le,h,ha.2⟩
theorem SH.three{w:World}{F:Fz}{p q:HP}{hs:List HP}(h:SH w F (QY (p::q::hs))):SH w F (star (star p (QY hs)) q):=
 h.mono λm hm=>by
  obtain⟨m1,m2,d,s1,s2,hp,hq⟩:=hm;obtain⟨m3,m4,d',t1,t2,hq',hr⟩:=hq
  classical
  refine⟨λk=>if m1 k=none then m4 k else m1 k,m3,?_,?_,t1.trans s2,⟨m1,m4,d.sub (Mem.sub.refl _) t2,?_,?_,hp,hr⟩,hq'⟩
  ·intro k;by_cases e:m1 k=none
   ·simp only[e,if_true];exact(d' k).symm
   ·simp only[e,if_false];rcases(d.sub (Mem.sub.refl m1) t1) k with h | h
    ·exact absurd h e
    ·exact .inr h
  ·intro k o e;by_cases e' :m1 k=none
   ·simp only[e',if_true] at e;exact s2 k o (t2 k o e)
   ·simp only[e',if_false] at e;exact s1 k o e
  ·intro k o e;simp[e]
  ·intro k o e;have:m1 k=none:=(d.sub (Mem.sub.refl m1) t2).wm e;simp[this,e]
theorem SH.xw{w:World}{F:Fz}{p q:HP}{hs:List HP}(h:SH w F (star (star p (QY hs)) q)):SH w F (QY (p::q::hs)):=
 h.mono λm hm=>by
  obtain⟨m1,m2,d,s1,s2,⟨m3,m4,d',t1,t2,hp,hr⟩,hq⟩:=hm
  classical
  refine⟨m3,λk=>if m2 k=none then m4 k else m2 k,?_,t1.trans s1,?_,hp,m2,m4,?_,?_,?_,hq,hr⟩
  ·intro k;by_cases e:m2 k=none
   ·simp only[e,if_true];exact d' k
   ·simp only[e,if_false];rcases(d.sub t1 (Mem.sub.refl m2)) k with h | h
    ·exact .inl h
    ·exact absurd h e
  ·intro k o e;by_cases e' :m2 k=none
   ·simp only[e',if_true] at e;exact s1 k o (t2 k o e)
   ·simp only[e',if_false] at e;exact s2 k o e
  ·exact(d.sub t2 (Mem.sub.refl m2)).symm
  ·intro k o e;simp[e]
  ·intro k o e;have:m2 k=none:=(d.sub t2 (Mem.sub.refl m2)).uZ e;simp[this,e]
theorem SH.wM{w:World}{F:Fz}{s:τ}{Fb:Fz}(h:SH w F (star (yS Fb l L I J (.next s) F) R)):∃F0 hs,Fb<=F0/\F0<=F/\I s F0 hs/\SH w F (QY (pt l (Vu L)::R::hs)):=by
 obtain⟨m,⟨m1,m2,d,s1,s2,⟨F0,hs,h0,h1,hI,hp⟩,hq⟩,k⟩:=h;exact⟨F0,hs,h0,h1,hI,SH.xw ⟨m,⟨m1,m2,d,s1,s2,hp,hq⟩,k⟩⟩
theorem SH.x5{w:World}{F:Fz}{b:γ}{Fb:Fz}(h:SH w F (star (yS Fb l L I J (.done b) F) R)):∃F0 hs,Fb<=F0/\F0<=F/\J b F0 hs/\SH w F (QY (pt l (MZ L)::R::hs)):=by
 obtain⟨m,⟨m1,m2,d,s1,s2,⟨F0,hs,h0,h1,hI,hp⟩,hq⟩,k⟩:=h;exact⟨F0,hs,h0,h1,hI,SH.xw ⟨m,⟨m1,m2,d,s1,s2,hp,hq⟩,k⟩⟩
theorem Rq{arg:α->Fz->List Value->Prop}{bm:α->τ->Option (JM τ γ)}{F:Fz}{S' :List Value->List (Nat×Value)}(hP:∀x F' vs,arg x F' vs->vs.length=L.params.size)(ha:L.assign=assign)(hb:L.body=body)
  (hsl:∀vs:List Value,vs.length=L.params.size->Sl n [] (S' vs) {tmps:=(L.params.zip vs.toArray).foldl (λtmps (t,a)=>tmps.setIfInBounds t a) L.tmps,defers:=[]})
  (round:∀F0 F1 x vs s ctl R hs,F<=F0->F0<=F1->arg x F1 vs->I s F0 hs->GC (some l) P assign [] (BP P l body (RP l L I J F1 R ctl)) (Hd n [] (S' vs) F1 (pt l (Vu L)::R::hs)) (bm x s) ctl):
  VN P l F arg (yS F l L I J) (I5 bm):=by
 refine⟨λc F0 F1 m _ h1 hm=> ?_,λF1 h1 x vs c r hx hy w R hw=> ?_⟩
 ·cases c with
  | next s=>obtain⟨G,hs,g0,g1,k⟩:=hm;exact⟨G,hs,g0,Fz.le_trans g1 h1,k⟩
  | done b=>obtain⟨G,hs,g0,g1,k⟩:=hm;exact⟨G,hs,g0,Fz.le_trans g1 h1,k⟩
 cases c with
 | done b=>simp[I5] at hy
 | next s=>
  simp only[I5] at hy
  cases hc:bm x s with
  | none=>rw[hc] at hy;cases hy
  | some ctl=>
   rw[hc] at hy
   simp only[Option.map_some,Option.some.injEq] at hy
   subst hy;obtain⟨F0,hs,h0,h01,hI,hw3⟩:=SH.wM hw;have hl:w.heap[l]? =some (Vu L):=SH.uV (k:=0) rfl hw3;have hn:=hP x F1 vs hx;refine⟨L.fn,_,L.assign,L.body,run_yield (r:={L with state:=.ready,pending:=none}) hl (by simpa using hn),?_⟩;refine roundIn_of_wpIn trivial ?_;rw[ha,hb];have hg:=round F0 F1 x vs s ctl R hs h0 h01 hx hI hc _ w ⟨hsl vs hn,hw3⟩;refine wpIn_mono hg λe a1 w1 hq=> ?_;obtain⟨rfl,w2,hbr,hbody⟩:=hq;refine⟨w2,hbr,wpIn_mono hbody λe a2 w3 hq=> ?_⟩;cases ctl with
   | next s' =>
    obtain⟨rfl,F2,hs2,le,hI2,h⟩:=hq;refine⟨_,_,qL (SH.uV (k:=0) rfl h),F2,le,rfl,(SH.three (SH.putAt (k:=0) rfl h (Vu L))).mono λm hm=>QS (λm hm=> ?_) hm⟩;exact⟨F2,hs2,Fz.le_trans h1 le,Fz.le_refl _,hI2,hm⟩
   | done b=>
    obtain⟨rfl,F2,hs2,le,hI2,h⟩:=hq;refine⟨_,_,qK (SH.uV (k:=0) rfl h),F2,le,rfl,(SH.three (SH.putAt (k:=0) rfl h (MZ L))).mono λm hm=>QS (λm hm=> ?_) hm⟩;exact⟨F2,hs2,Fz.le_trans h1 le,Fz.le_refl _,hI2,hm⟩
end
abbrev UI(q:Nat):Deferred:={target:=.collected q,args:=#[]}
theorem Ak{n:Nat}:∀{ps:List Nat} {vs:List Value} {t:Array Value} {S:List (Nat×Value)},(ps.all λp=>Nat.blt p n)=true->Sl n [] S {tmps:=t,defers:=[]}->
  Sl n [] ((ps.zip vs).reverse++S) {tmps:=(ps.zip vs).foldl (λtmps (t,a)=>tmps.setIfInBounds t a) t,defers:=[]}
 | [],_,_,_,_,h=>h
 | _::_,[],_,_,_,h=>h
 | p::ps,v::vs,t,S,hp,h=>by
  simp only[List.all_cons,Bool.and_eq_true] at hp
  have h1:=Sl.put h hp.1 v;have h2:=Ak (ps:=ps) (vs:=vs) (S:=(p,v)::S) (t:=t.setIfInBounds p v) hp.2 h1;simpa using h2
theorem Cr{n:Nat}{ps:List Nat}{vs:List Value}{t:Array Value}{S:List (Nat×Value)}(hp:(ps.all λp=>Nat.blt p n)=true)(h:Sl n [] S {tmps:=t,defers:=[]}):
  Sl n [] ((ps.zip vs).reverse++S) {tmps:=(ps.toArray.zip vs.toArray).foldl (λtmps (t,a)=>tmps.setIfInBounds t a) t,defers:=[]}:=by
 rw[List.zip_toArray,List.foldl_toArray];exact Ak hp h
section
variable{β:Type}{P:Program}{ks:List Kt}{Q:Exit->Act->World->Prop}{r:β}{n:Nat}{D:List Deferred}{S:List (Nat×Value)}{F:Fz}{hs:List HP}
variable{α τ γ:Type}{g:Operand}{ps:List Tmp}{assign body:Code}{f:FuncId}{caps:List Value}{mk:∀σ:Type,(α->σ->Option (σ×Bool))->σ->Option σ}{arg:α->Fz->List Value->Prop}{bm:α->τ->Option (JM τ γ)}{s0:τ}{k:JM τ γ->Option β}
theorem GC.rangeFunc(I:τ->Fz->List HP->Prop)(J:γ->Fz->List HP->Prop)(hg:QK S g=some (.func (.func f) #[] caps.toArray))(hit:zZ P F f caps arg mk)(hps:(ps.all λp=>Nat.blt p n)=true)(harg:∀x F' vs,arg x F' vs->vs.length=ps.length)
  (hI:I s0 F hs)
  (round:∀l L F0 F1 x vs s ctl R hs',F<=F0->F0<=F1->arg x F1 vs->I s F0 hs'->GC (some l) P assign [] (BP P l body (RP l L I J F1 R ctl)) (Hd n [] ((ps.zip vs).reverse++S) F1 (pt l (Vu L)::R::hs')) (bm x s) ctl)
  (next:∀q F0 F' s hs',F<=F0->F0<=F'->mk _ (I5 bm) (.next s0)=some (.next s)->I s F0 hs'->GE none P ks Q (Hd n (UI q::D) S F' (pt q (.deferred (some []))::hs')) (k (.next s)) r)
  (done:∀q F0 F' b hs',F<=F0->F0<=F'->mk _ (I5 bm) (.next s0)=some (.done b)->J b F0 hs'->GC none P .ret ks Q (Hd n (UI q::D) S F' (pt q (.deferred (some []))::hs')) (k (.done b)) r):
  GC none P (.rangeFunc g ps.toArray assign body) ks Q (Hd n D S F hs) ((mk (JM τ γ) (I5 bm) (.next s0)).bind k) r:=by
 intro hm a w ha;cases hl:mk (JM τ γ) (I5 bm) (.next s0) with
 | none=>rw[hl] at hm;cases hm
 | some c=>
  rw[hl] at hm
  refine wpIn_rangeFunc λfn _=> ?_
  let L:Loop:={state:=.ready,pending:=none,fn,tmps:=a.tmps,params:=ps.toArray,assign,body,defers:=w.heap.size}
  have hw1:SH ((w.alloc (.deferred (some []))).alloc (.loop L)) F (star (yS F (w.heap.size+1) L I J (.next s0) F) (QY [pt w.heap.size (.deferred (some []))])):=by
   have h1:=(ha.2.alloc (.deferred (some []))).alloc (.loop L);rw[World.size_alloc] at h1
   have h2:SH ((w.alloc (.deferred (some []))).alloc (.loop L)) F (QY (pt (w.heap.size+1) (Vu L)::QY [pt w.heap.size (.deferred (some []))]::hs)):=by
    refine h1.mono λm hm=>QM (λm hm=>QS (λm hm=> ?_) hm) hm;exact⟨m,λ_=>none,λ_=>.inr rfl,Mem.sub.refl _,λ_ _ e=>by simp at e,hm,trivial⟩
   exact(SH.three h2).mono λm hm=>QS (λm hm=>⟨F,hs,Fz.le_refl _,Fz.le_refl _,hI,hm⟩) hm
  have hY:VN P (w.heap.size+1) F arg (yS F (w.heap.size+1) L I J) (I5 bm):=by
   refine Rq (S' :=λvs=>(ps.zip vs).reverse++S) (assign:=assign) (body:=body) (λx F' vs hx=>by rw[harg x F' vs hx];simp[L]) rfl rfl (λvs _=>Cr hps ⟨ha.1.1,rfl,ha.1.2.2⟩) ?_;exact λF0 F1 x vs s ctl R hs' h0 h1 hx hI=>round _ L F0 F1 x vs s ctl R hs' h0 h1 hx hI
  have hc:=hit.2 _ _ _ _ F (Fz.le_refl F) hY (.next s0) c hl _ _ hw1;refine⟨w.heap.size+1,[UI w.heap.size],(w.alloc (.deferred (some []))).alloc (.loop L),⟨.fn (.func f) caps.toArray,#[.func (.yield (w.heap.size+1)) #[] #[]]⟩,(w.alloc (.deferred (some []))).alloc (.loop L),f,(.func (.yield (w.heap.size+1)) #[] #[]::caps).toArray,(w.alloc (.deferred (some []))).alloc (.loop L),run_enterLoop_outer fn a.tmps ps.toArray assign body,?_,λ_ _=>trivial,?_,λe=>(by cases e),?_⟩
  ·have hc0:a.eval (.const (.func (.yield (w.heap.size+1)) #[] #[]))= .func (.yield (w.heap.size+1)) #[] #[]:=rfl;simp[resolve,Deferred.ofValue,ha.1.eval hg,hc0]
  ·simp[invoke,hit.1]
  ·refine callsIn_wide.2 (hc.mono ?_);rintro _ w' ⟨F',v,le,rfl, -,hw'⟩;cases c with
   | next s=>
    obtain⟨F0,hs',h0,h1,hI',h3⟩:=SH.wM hw';refine⟨none,_,Cs (SH.uV (k:=0) rfl h3),?_⟩;have h4:SH _ F' (QY (pt w.heap.size (.deferred (some []))::hs')):=(SH.wC 0 (SH.putAt (k:=0) rfl h3 (RH L none))).mono λm hm=>QS (λm hm=>by obtain⟨m1,_,_,s1,_,hp,_⟩:=hm;exact s1 _ _ hp) hm;exact next w.heap.size F0 F' s hs' h0 h1 hl hI' hm _ _ ⟨⟨ha.1.1,by simp[ha.1.2.1],ha.1.2.2⟩,h4⟩
   | done b=>
    obtain⟨F0,hs',h0,h1,hI',h3⟩:=SH.x5 hw';refine⟨some .ret,_,Oh (SH.uV (k:=0) rfl h3),?_⟩;have h4:SH _ F' (QY (pt w.heap.size (.deferred (some []))::hs')):=(SH.wC 0 (SH.putAt (k:=0) rfl h3 (RH L (some .ret)))).mono λm hm=>QS (λm hm=>by obtain⟨m1,_,_,s1,_,hp,_⟩:=hm;exact s1 _ _ hp) hm;exact done w.heap.size F0 F' b hs' h0 h1 hl hI' hm _ _ ⟨⟨ha.1.1,by simp[ha.1.2.1],ha.1.2.2⟩,h4⟩
def Vw{α σ:Type}(y:α->σ->Option (σ×Bool)):List α->σ->Option σ
 | [],s=>some s
 | x::xs,s=>(y x s).bind λp=>if p.2 then Vw y xs p.1 else some p.1
def Hj{α:Type}(P:Program)(F:Fz)(f:FuncId)(caps:List Value)(arg:α->Fz->List Value->Prop)(l:List α):Prop:=zZ P F f caps arg (λ_ y s=>Vw y l s)
def JY{α τ:Type}(b:α->τ->Option τ):List α->τ->Option τ
 | [],s=>some s
 | x::xs,s=>(b x s).bind (JY b xs)
def HH{α τ γ:Type}(b:α->τ->Option (JM τ γ)):List α->τ->Option (JM τ γ)
 | [],s=>some (.next s)
 | x::xs,s=>(b x s).bind λc=>match c with
  | .next s' =>HH b xs s'
  | .done r=>some (.done r)
theorem G4{α τ γ:Type}(b:α->τ->Option (JM τ γ)):∀(l:List α) (s:τ),Vw (I5 b) l (.next s)=HH b l s
 | [],s=>rfl
 | x::xs,s=>by
  simp only[Vw,I5,HH];cases h:b x s with
  | none=>rfl
  | some c=>
   cases c with
   | next s' =>simpa using G4 b xs s'
   | done r=>simp
theorem H7{α τ:Type}(b:α->τ->Option τ):∀(l:List α) (s:τ),HH (γ:=Empty) (λx s=>(b x s).map .next) l s=(JY b l s).map .next
 | [],s=>rfl
 | x::xs,s=>by
  simp only[HH,JY];cases h:b x s with
  | none=>rfl
  | some s' =>simpa using H7 b xs s'
theorem GC.wY{l:List α}(I:τ->Fz->List HP->Prop)(J:γ->Fz->List HP->Prop)(hg:QK S g=some (.func (.func f) #[] caps.toArray))(hit:Hj P F f caps arg l)(hps:(ps.all λp=>Nat.blt p n)=true)(harg:∀x F' vs,arg x F' vs->vs.length=ps.length)
  (hI:I s0 F hs)
  (round:∀l L F0 F1 x vs s ctl R hs',F<=F0->F0<=F1->arg x F1 vs->I s F0 hs'->GC (some l) P assign [] (BP P l body (RP l L I J F1 R ctl)) (Hd n [] ((ps.zip vs).reverse++S) F1 (pt l (Vu L)::R::hs')) (bm x s) ctl)
  (next:∀q F0 F' s hs',F<=F0->F0<=F'->HH bm l s0=some (.next s)->I s F0 hs'->GE none P ks Q (Hd n (UI q::D) S F' (pt q (.deferred (some []))::hs')) (k (.next s)) r)
  (done:∀q F0 F' b hs',F<=F0->F0<=F'->HH bm l s0=some (.done b)->J b F0 hs'->GC none P .ret ks Q (Hd n (UI q::D) S F' (pt q (.deferred (some []))::hs')) (k (.done b)) r):
  GC none P (.rangeFunc g ps.toArray assign body) ks Q (Hd n D S F hs) ((HH bm l s0).bind k) r:=by
 rw[<-G4] at next done ⊢
 exact GC.rangeFunc (mk:=λ_ y s=>Vw y l s) I J hg hit hps harg hI round next done
theorem GC.x3{l:List α}{bm:α->τ->Option τ}{k:τ->Option β}(I:τ->Fz->List HP->Prop)(hg:QK S g=some (.func (.func f) #[] caps.toArray))(hit:Hj P F f caps arg l)(hps:(ps.all λp=>Nat.blt p n)=true)(harg:∀x F' vs,arg x F' vs->vs.length=ps.length)
  (hI:I s0 F hs)
  (round:∀l L F0 F1 x vs s ctl R hs',F<=F0->F0<=F1->arg x F1 vs->I s F0 hs'->GC (some l) P assign [] (BP P l body (RP l L I (fun(_:Empty) _ _=>False) F1 R (.next ctl))) (Hd n [] ((ps.zip vs).reverse++S) F1 (pt l (Vu L)::R::hs')) (bm x s) ctl)
  (next:∀q F0 F' s hs',F<=F0->F0<=F'->JY bm l s0=some s->I s F0 hs'->GE none P ks Q (Hd n (UI q::D) S F' (pt q (.deferred (some []))::hs')) (k s) r):
  GC none P (.rangeFunc g ps.toArray assign body) ks Q (Hd n D S F hs) ((JY bm l s0).bind k) r:=by
 have h:=GC.wY (γ:=Empty) (k:=λc=>match c with | .next s=>k s | .done b=>b.elim) (bm:=λx s=>(bm x s).map .next) (ks:=ks) (Q:=Q) (D:=D) (r:=r) I (λ_ _ _=>False) hg hit hps harg hI
  (λl L F0 F1 x vs s ctl R hs' h0 h1 hx hI=>by
   intro hm;cases hb:bm x s with
   | none=>rw[hb] at hm;cases hm
   | some s' =>rw[hb] at hm;simp only[Option.map_some,Option.some.injEq] at hm;subst hm;exact round l L F0 F1 x vs s s' R hs' h0 h1 hx hI hb)
  (λq F0 F' s hs' h0 h1 he=>next q F0 F' s hs' h0 h1 (by rw[H7] at he;cases hf:JY bm l s0 with | none=>rw[hf] at he;cases he | some s' =>rw[hf] at he;simp only[Option.map_some,Option.some.injEq,JM.next.injEq] at he;rw[he]))
  (λ_ _ _ b=>b.elim)
 rw[H7] at h
 cases hf:JY bm l s0 with
 | none=>intro hm;cases hm
 | some s=>rw[hf] at h;exact h
end
def kj:List HP->List (Nat×Nat)->Prop
 | _,[]=>True
 | hs,(i,q)::ms=>hs[i]? =some (pt q (.deferred (some [])))/\kj (hs.set i (pt q (.deferred none))) ms
def HO:List HP->List (Nat×Nat)->List HP
 | hs,[]=>hs
 | hs,(i,q)::ms=>HO (hs.set i (pt q (.deferred none))) ms
theorem CN{P:Program}{fn:Func}{tmps:Array Value}{R:Ending->World->Prop}{F:Fz}:∀{ms:List (Nat×Nat)} {hs:List HP} {w:World},SH w F (QY hs)->kj hs ms->
  (∀w',SH w' F (QY (HO hs ms))->∃v,(results fn tmps).run P w' = .ok v w'/\R (.returned v) w')->LeavesInM Fence.wide 0 P fn tmps R (ms.map λp=>UI p.2) .returning w
 | [],hs,w,h,_,k=>k w h
 | (i,q)::ms,hs,w,h,ho,k=>by
  refine⟨by simp,.inl ⟨q,_,rfl,run_takeDeferred (SH.uV ho.1 h),?_⟩⟩;exact CN (SH.putAt ho.1 h _) ho.2 k
def Mr{β:Type}(P:Program)(fn:Func)(F:Fz)(R:HP)(ρ:β->Fz->Value->Prop)(r:β):Exit->Act->World->Prop:=
 bodyPostM Fence.wide 0 P fn (λe w' =>∃F' v,F<=F'/\e= .returned v/\ρ r F' v/\SH w' F' R)
theorem KN.wJ{β:Type}{P:Program}{f:FuncId}{fn:Func}{c:Code}{args:List Value}{F:Fz}{m:Option β}{ρ:β->Fz->Value->Prop}{n:Nat}
  (hf:P.funcs[f]? =some fn) (hb:fn.body=some c) (hn:fn.ntmps=n) (ha:Nat.ble args.length n=true)
  (k:∀r R,GC none P c [] (Mr P fn F R ρ r) (Hd n [] (HD 0 args) F [R]) m r):KN P f args.toArray F m ρ:=by
 intro r hm w R hw;refine(callsIn_wide (n:=0)).1 (callsIn_of_wp_marks hf hb trivial (k r R hm _ w ⟨?_,hw.one⟩));rw[hn];exact Y0 ha
section
variable{β:Type}{P:Program}{n:Nat}{S:List (Nat×Value)}{F F' :Fz}{hs:List HP}{ks:List Kt}{fn:Func}{R:HP}{ρ:β->Fz->Value->Prop}{x r:β}{rs:List ResultVar}{vs:List Value}{i:Nat}{ms:List (Nat×Nat)}
theorem Lm(hr:fn.results=rs.toArray)(ho:kj hs ms)(h:BA P S F' (HO hs ms) rs vs)(hi:(HO hs ms)[i]? =some R)(le:F<=F')(hρ:ρ x F' (Bu vs)):
  some x=some r->∀a w,Hd n (ms.map λp=>UI p.2) S F' hs a w->LeavesInM Fence.wide 0 P fn a.tmps (λe w' =>∃F' v,F<=F'/\e= .returned v/\ρ r F' v/\SH w' F' R) a.defers .returning w:=by
 intro e a w ha;simp only[Option.some.injEq] at e
 subst e;rw[ha.1.2.1];refine CN ha.2 ho λw' h' => ?_;exact⟨_,Kx (n:=n) (a:=a) (D:=a.defers) hr ⟨⟨ha.1.1,rfl,ha.1.2.2⟩,h'⟩ h,F',_,le,rfl,hρ,h'.only hi⟩
theorem GC.wU(ms:List (Nat×Nat))(hr:fn.results=rs.toArray)(ho:kj hs ms)(h:BA P S F' (HO hs ms) rs vs)(hi:(HO hs ms)[i]? =some R)(le:F<=F')(hρ:ρ x F' (Bu vs)):
 GC O P .ret ks (Mr P fn F R ρ r) (Hd n (ms.map λp=>UI p.2) S F' hs) (some x) r:=GC.uY (Lm hr ho h hi le hρ)
end
end
section
variable{O:Option Nat}
def J5(γ:Nat)(F:Fz)(i b:Nat):Prop:=γ < F.gn/\(F.gh γ)[i]? =some b
theorem J5.mono{γ:Nat}{F F' :Fz}{i b:Nat}(h:J5 γ F i b)(le:F<=F'):J5 γ F' i b:=
 ⟨Nat.lt_of_lt_of_le h.1 le.gn,by
  obtain⟨t,e⟩:=le.gh γ h.1;rw[<-e,List.getElem?_append_left (List.getElem?_eq_some_iff.1 h.2).1];exact h.2⟩
theorem J5.inj{γ:Nat}{F:Fz}{i b b' :Nat}(h:J5 γ F i b)(k:J5 γ F i b'):b=b' :=by
 have:=h.2.symm.trans k.2;simpa using this
def Qu(γ:Nat)(F:Fz)(p:Option Addr):Option Nat->Prop
 | none=>p=none
 | some i=>∃b,J5 γ F i b/\p=some ⟨b,0,none⟩
theorem Qu.mono{γ:Nat}{F F' :Fz}{p:Option Addr}{x:Option Nat}(h:Qu γ F p x)(le:F<=F'):Qu γ F' p x:=by
 cases x with
 | none=>exact h
 | some i=>obtain⟨b,h1,h2⟩:=h;exact⟨b,h1.mono le,h2⟩
theorem Qu.nil{γ:Nat}{F:Fz}:Qu γ F none none:=rfl
theorem Qu.of{γ:Nat}{F:Fz}{i b:Nat}(h:J5 γ F i b):Qu γ F (some ⟨b,0,none⟩) (some i):=⟨b,h,rfl⟩
def Zf(γ:Nat)(F:Fz)(p:Option Nat):Option Nat->Prop
 | none=>p=none
 | some i=>∃b,J5 γ F i b/\p=some b
theorem Zf.mono{γ:Nat}{F F' :Fz}{p:Option Nat}{x:Option Nat}(h:Zf γ F p x)(le:F<=F'):Zf γ F' p x:=by
 cases x with
 | none=>exact h
 | some i=>obtain⟨b,h1,h2⟩:=h;exact⟨b,h1.mono le,h2⟩
theorem Zf.nil{γ:Nat}{F:Fz}:Zf γ F none none:=rfl
theorem Zf.of{γ:Nat}{F:Fz}{i b:Nat}(h:J5 γ F i b):Zf γ F (some b) (some i):=⟨b,h,rfl⟩
theorem V1{p q r:HP}{m:Mem}(h:star (star p q) r m):star p (star q r) m:=by
 obtain⟨m1,m2,d,s1,s2,⟨m3,m4,d',t1,t2,hp,hq⟩,hr⟩:=h
 classical
 refine⟨m3,λk=>if m2 k=none then m4 k else m2 k,?_,t1.trans s1,?_,hp,m4,m2,(d.sub t2 (Mem.sub.refl m2)),?_,?_,hq,hr⟩
 ·intro k;by_cases e:m2 k=none
  ·simp only[e,if_true];exact d' k
  ·simp only[e,if_false];rcases(d.sub t1 (Mem.sub.refl m2)) k with h | h
   ·exact .inl h
   ·exact absurd h e
 ·intro k o e;by_cases e' :m2 k=none
  ·simp only[e',if_true] at e;exact s1 k o (t2 k o e)
  ·simp only[e',if_false] at e;exact s2 k o e
 ·intro k o e;have:m2 k=none:=(d.sub t2 (Mem.sub.refl m2)).uZ e;simp[this,e]
 ·intro k o e;simp[e]
theorem YT{p q r:HP}{m:Mem}(h:star p (star q r) m):star (star p q) r m:=by
 have h1:=ZT h;obtain⟨m1,m2,d,s1,s2,hq,m3,m4,d',t1,t2,hp,hr⟩:=h1
 classical
 refine⟨λk=>if m1 k=none then m3 k else m1 k,m4,?_,?_,t2.trans s2,⟨m3,m1,(d.sub (Mem.sub.refl m1) t1).symm,?_,?_,hp,hq⟩,hr⟩
 ·intro k;by_cases e:m1 k=none
  ·simp only[e,if_true];exact d' k
  ·simp only[e,if_false];rcases(d.sub (Mem.sub.refl m1) t2) k with h | h
   ·exact absurd h e
   ·exact .inr h
 ·intro k o e;by_cases e' :m1 k=none
  ·simp only[e',if_true] at e;exact s2 k o (t1 k o e)
  ·simp only[e',if_false] at e;exact s1 k o e
 ·intro k o e;have:m1 k=none:=(d.sub (Mem.sub.refl m1) t1).wm e;simp[this,e]
 ·intro k o e;simp[e]
theorem H4:∀{l l' :List HP} {m:Mem},l.length=l'.length->(∀(i:Nat) (p q:HP),l[i]? =some p->l'[i]? =some q->∀m,p m->q m)->QY l m->QY l' m
 | [],[],_,_,_,h=>h
 | [],_::_,_,hl,_,_=>by simp at hl
 | _::_,[],_,hl,_,_=>by simp at hl
 | p::l,q::l',m,hl,hi,h=>by
  have h1:∀m,p m->q m:=hi 0 p q rfl rfl;have h2:∀m,QY l m->QY l' m:=λm hm=>H4 (by simpa using hl) (λi p q e1 e2=>hi (i+1) p q (by simpa using e1) (by simpa using e2)) hm;exact QS h1 (QM h2 h)
def Js:List Nat->List HP->List HP
 | [],_=>[]
 | k::ks,hs=>(hs[k]?).getD Sz::Js ks (hs.eraseIdx k)
theorem Jw:∀{ks:List Nat} {hs:List HP} {m:Mem},QY hs m->QY (Js ks hs) m
 | [],_,_,_=>trivial
 | k::ks,hs,m,h=>by
  cases e:hs[k]? with
  | some p=>simp only[Js,e,Option.getD_some];exact QM (λ_ h=>Jw h) (Jv e h)
  | none=>simp only[Js,e,Option.getD_none];exact QM (λ_ h=>Jw h) (HN h)
section
variable{α:Type}{γ:Nat}{C:Fz->Nat->α->HP}{F F0 F' :Fz}{xs:List α}{w:World}{H:HP}{j b:Nat}{x y:α}
def Qo(γ:Nat)(C:Fz->Nat->α->HP)(F:Fz)(xs:List α):HP:=λm=>∃bs,bs.length=xs.length/\star (OA γ bs) (QY (List.zipWith (C F) bs xs)) m
def hole(γ:Nat)(C:Fz->Nat->α->HP)(F:Fz)(j b:Nat)(xs:List α):HP:=λm=>∃bs,bs.length=xs.length/\bs[j]? =some b/\star (OA γ bs) (QY ((List.zipWith (C F) bs xs).eraseIdx j)) m
def US(C:Fz->Nat->α->HP):Prop:=∀F F' b x m,F<=F'->C F b x m->C F' b x m
theorem AJ{bs:List Nat}{f:Nat->α->HP}(h1:bs[j]? =some b)(h2:xs[j]? =some x):(List.zipWith f bs xs)[j]? =some (f b x):=by
 rw[List.getElem?_zipWith,h1,h2]
theorem AI:∀{bs:List Nat} {f:Nat->α->HP} {xs:List α} {j b:Nat} {y:α},bs[j]? =some b->(List.zipWith f bs xs).set j (f b y)=List.zipWith f bs (xs.set j y)
 | [],_,_,_,_,_,h=>by simp at h
 | c::bs,f,[],j,b,y,_=>by simp
 | c::bs,f,x::xs,0,b,y,h=>by simp at h;subst h;simp
 | c::bs,f,x::xs,j+1,b,y,h=>by
  simp only[List.getElem?_cons_succ] at h
  simp[AI h]
theorem SH.wb(hC:US C)(le:F0<=F')(h:SH w F (star (Qo γ C F0 xs) H)):SH w F (star (Qo γ C F' xs) H):=
 h.mono λm hm=>QS (λm ⟨bs,hl,hs⟩=>⟨bs,hl,QM (λm hm=>H4 (by simp) (λi p q e1 e2 m hp=>by
  rw[List.getElem?_zipWith] at e1 e2
  cases hb:bs[i]? with
  | none=>rw[hb] at e1;simp at e1
  | some b=>
   cases hx:xs[i]? with
   | none=>rw[hb,hx] at e1;simp at e1
   | some x=>rw[hb,hx] at e1 e2;simp at e1 e2;subst e1;subst e2;exact hC _ _ _ _ _ le hp) hm) hs⟩) hm
theorem SH.wX(h:SH w F (star (Qo γ C F0 xs) H))(hb:J5 γ F j b)(hx:xs[j]? =some x):SH w F (star (C F0 b x) (star (hole γ C F0 j b xs) H)):=by
 obtain⟨m,⟨m1,m2,d,s1,s2,⟨bs,hl,hz⟩,hq⟩,k⟩:=h
 have hbs:bs[j]? =some b:=by
  obtain⟨m3,m4,d',t1,t2,hg,_⟩:=hz;obtain⟨_,e⟩:=k.gst γ _ (s1 _ _ (t1 _ _ hg));simp only[Cell.gh.injEq] at e
  rw[e];exact hb.2
 refine⟨m,V1 ⟨m1,m2,d,s1,s2,?_,hq⟩,k⟩;have h1:=ZT (QM (λ_ hm=>Jv (AJ (f:=C F0) hbs hx) hm) hz);exact QM (λm hm=>⟨bs,hl,hbs,hm⟩) h1
theorem SH.xN(hC:US C)(le:F0<=F')(h:SH w F (star (C F' b y) (star (hole γ C F0 j b xs) H)))(hj:j < xs.length):SH w F (star (Qo γ C F' (xs.set j y)) H):=by
 refine h.mono λm hm=> ?_;refine QS (λm hm=> ?_) (YT hm);obtain⟨m1,m2,d,s1,s2,hp,bs,hl,hbs,hz⟩:=hm;refine⟨bs,by simpa using hl,?_⟩;have h1:star (C F' b y) (star (OA γ bs) (QY ((List.zipWith (C F0) bs xs).eraseIdx j))) m:=⟨m1,m2,d,s1,s2,hp,hz⟩;refine QM (λm hm=> ?_) (ZT h1);have hx:xs[j]? =some xs[j]:=by simp[hj]
 have h2:star (C F' b y) (QY ((List.zipWith (C F') bs xs).eraseIdx j)) m:=QM (λm hm=>H4 (by simp[List.length_eraseIdx]) (λi p q e1 e2 m hp=>by
  rw[List.getElem?_eraseIdx] at e1 e2
  have key:∀i',(List.zipWith (C F0) bs xs)[i']? =some p->(List.zipWith (C F') bs xs)[i']? =some q->q m:=λi' e1 e2=>by
   rw[List.getElem?_zipWith] at e1 e2
   cases hb:bs[i']? with
   | none=>rw[hb] at e1;simp at e1
   | some b=>
    cases hx:xs[i']? with
    | none=>rw[hb,hx] at e1;simp at e1
    | some x=>rw[hb,hx] at e1 e2;simp at e1 e2;subst e1;subst e2;exact hC _ _ _ _ _ le hp
  split at e1
  ·rename_i hlt;rw[if_pos hlt] at e2;exact key i e1 e2
  ·rename_i hlt;rw[if_neg hlt] at e2;exact key (i+1) e1 e2) hm) hm
 rw[<-AI (f:=C F') hbs];exact Wh (AJ (f:=C F') hbs hx) h2
theorem SH.gy(hC:US C){p:HP}(le:F0<=F)(h:SH w F (star p (star (Qo γ C F0 xs) H)))(hp:∀F' m,F<=F'->p m->C F' b x m):∃F',F<=F'/\J5 γ F' xs.length b/\SH w F' (star (Qo γ C F' (xs++[x])) H):=by
 obtain⟨m,hm,k⟩:=h;obtain⟨m1,m2,d,s1,s2,⟨bs,hl,hz⟩,hq⟩:=ZT hm;have h1:SH w F (star (OA γ bs) (star (QY (List.zipWith (C F0) bs xs)) (star p H))):=⟨m,V1 ⟨m1,m2,d,s1,s2,hz,hq⟩,k⟩;obtain⟨g1,g2⟩:=h1.xi;obtain⟨le',h2⟩:=h1.wD b;refine⟨F.wD γ b,le',⟨g1,?_⟩,?_⟩
 ·show(if γ=γ then F.gh γ++[b] else F.gh γ)[xs.length]? =some b;rw[if_pos rfl,g2,<-hl];simp
 ·refine h2.mono λm hm=> ?_;have h3:star (OA γ (bs++[b])) (star p (star (QY (List.zipWith (C F0) bs xs)) H)) m:=QM (λm hm=>ZT hm) hm;refine QS (λm hm=> ?_) (YT (QM (λm hm=>YT hm) h3));refine⟨bs++[b],by simp[hl],QM (λm hm=> ?_) hm⟩;have hle:F0<=F.wD γ b:=Fz.le_trans le le';have h4:QY (p::List.zipWith (C F0) bs xs) m:=hm
  have h5:QY (C (F.wD γ b) b x::List.zipWith (C (F.wD γ b)) bs xs) m:=H4 (by simp) (λi p' q e1 e2 m hp' =>by
   cases i with
   | zero=>simp at e1 e2;subst e1;subst e2;exact hp _ _ le' hp'
   | succ i=>
    simp only[List.getElem?_cons_succ] at e1 e2
    rw[List.getElem?_zipWith] at e1 e2
    cases hb:bs[i]? with
    | none=>rw[hb] at e1;simp at e1
    | some b=>
     cases hx:xs[i]? with
     | none=>rw[hb,hx] at e1;simp at e1
     | some x=>rw[hb,hx] at e1 e2;simp at e1 e2;subst e1;subst e2;exact hC _ _ _ _ _ hle hp') h4
  have h6:=stars_snoc h5;rw[List.zipWith_append (by simpa using hl)];exact h6
where
 stars_snoc:∀{l:List HP} {p:HP} {m:Mem},QY (p::l) m->QY (l++[p]) m
  | [],_,_,h=>h
  | q::l,p,m,h=>QM (λ_ h=>stars_snoc h) (ZT h)
end
def VH{α:Type}(T:TypeId)(c:Z9 α)(F:Fz)(b:Nat)(x:α):HP:=λm=>∃vs,(∀F',F<=F'->c F' x vs)/\pt b (.cells vs.toArray T) m
theorem VH.stays{α:Type}{T:TypeId}{c:Z9 α}:US (VH T c):=λ_ _ _ _ _ le ⟨vs,h,k⟩=>⟨vs,λG le' =>h G (Fz.le_trans le le'),k⟩
def GG{β:Type}(X:Act->World->Prop)(A:Act->World->Prop)(m:Option β)(r:β):Prop:=m=some r->∀a w,A a w->X a w
section
variable{β:Type}{X:Act->World->Prop}{m:Option β}{r:β}{n:Nat}{D:List Deferred}{S:List (Nat×Value)}{F F0:Fz}{hs hs' :List HP}
variable{α:Type}{γ:Nat}{C:Fz->Nat->α->HP}{xs:List α}{j b:Nat}{x y:α}
theorem GG.pick(ks:List Nat)(h:Js ks hs=hs')(k:GG X (Hd n D S F hs') m r):GG X (Hd n D S F hs) m r:=
 λhm a w ha=>k hm a w ⟨ha.1,h▸ha.2.mono λ_=>Jw⟩
theorem GG.uL(i:Nat)(hC:US C)(le:F0<=F)(hi:hs[i]? =some (Qo γ C F0 xs))(k:GG X (Hd n D S F (hs.set i (Qo γ C F xs))) m r):GG X (Hd n D S F hs) m r:=
 λhm a w ha=>k hm a w ⟨ha.1,SH.push hi ((ha.2.pull hi).wb hC le)⟩
end
end
section
variable{O:Option Nat}
inductive Out(ε β:Type) where
 | ok (b:β)
 | pan (x:ε)
def YW:List Nat->List HP->List HP
 | [],hs=>hs
 | k::ks,hs=>YW ks (hs.eraseIdx k)
theorem Vg:∀{ks:List Nat} {hs:List HP} {m:Mem},QY hs m->star (QY (Js ks hs)) (QY (YW ks hs)) m
 | [],_,m,h=>⟨λ_=>none,m,λ_=>.inl rfl,λ_ _ e=>by simp at e,Mem.sub.refl _,trivial,h⟩
 | k::ks,hs,m,h=>by
  have h1:star ((hs[k]?).getD Sz) (QY (hs.eraseIdx k)) m:=by
   cases e:hs[k]? with
   | some p=>exact Jv e h
   | none=>exact HN h
  exact YT (QM (λ_ h=>Vg (ks:=ks) h) h1)
theorem Ka:∀{l k:List HP} {m:Mem},star (QY l) (QY k) m->QY (l++k) m
 | [],_,_,⟨_,_,_,_,s2,_,h⟩=>stars_sub s2 h
 | _p::_l,_k,_m,h=>QM (λ_ h=>Ka h) (V1 h)
where
 stars_sub:∀{l:List HP} {m n:Mem},Mem.sub m n->QY l m->QY l n
  | [],_,_,_,_=>trivial
  | _::_,_,_,s,⟨m1,m2,d,s1,s2,hp,hq⟩=>⟨m1,m2,d,s1.trans s,s2.trans s,hp,hq⟩
theorem Jx:∀{l k:List HP} {m:Mem},QY (l++k) m->star (QY l) (QY k) m
 | [],_,m,h=>⟨λ_=>none,m,λ_=>.inl rfl,λ_ _ e=>by simp at e,Mem.sub.refl _,trivial,h⟩
 | p::l,k,m,h=>YT (QM (λ_ h=>Jx h) h)
theorem YD{p:HP}{m:Mem}(h:p m):QY [p] m:=⟨m,λ_=>none,λ_=>.inr rfl,Mem.sub.refl _,λ_ _ e=>by simp at e,h,trivial⟩
def Ue{ε β:Type}(P:Program)(penc:ε->Value)(f:FuncId)(args:Array Value)(F:Fz)(Hs:List HP)(m:Option (Out ε β))(ρ:β->Fz->Value->Prop)(Hs' :β->Fz->Value->List HP):Prop:=
 ∀r,m=some r->∀w R,SH w F (star (QY Hs) R)->Calls P f args w (λe w' =>∃F',F<=F'/\match r with
  | .ok x=>∃v,e= .returned v/\ρ x F' v/\SH w' F' (star (QY (Hs' x F' v)) R)
  | .pan x=>e= .panicked [{v:=penc x,recovered:=false}]/\SH w' F' R)
def CS{ε β:Type}(P:Program)(penc:ε->Value)(fn:Func)(F:Fz)(R:HP)(ρ:β->Fz->Value->Prop)(Hs' :β->Fz->Value->List HP)(r:Out ε β):Exit->Act->World->Prop:=
 bodyPost P fn (λe w' =>∃F',F<=F'/\match r with
  | .ok x=>∃v,e= .returned v/\ρ x F' v/\SH w' F' (star (QY (Hs' x F' v)) R)
  | .pan x=>e= .panicked [{v:=penc x,recovered:=false}]/\SH w' F' R)
theorem Ue.enter{ε β:Type}{P:Program}{penc:ε->Value}{f:FuncId}{fn:Func}{c:Code}{args:List Value}{F:Fz}{Hs:List HP}{m:Option (Out ε β)}{ρ:β->Fz->Value->Prop}{Hs' :β->Fz->Value->List HP}{n:Nat}
  (hf:P.funcs[f]? =some fn) (hb:fn.body=some c) (hn:fn.ntmps=n) (ha:Nat.ble args.length n=true)
  (k:∀r R,GC none P c [] (CS P penc fn F R ρ Hs' r) (Hd n [] (HD 0 args) F (Hs++[R])) m r):Ue P penc f args.toArray F Hs m ρ Hs' :=by
 intro r hm w R hw;refine calls_of_wp hf hb (wpIn_wide.1 (k r R hm _ w ⟨?_,hw.mono λm hm=>Ka (QM (λ_ h=>YD h) hm)⟩));rw[hn];exact Y0 ha
section
variable{ε β:Type}{P:Program}{penc:ε->Value}{n:Nat}{S:List (Nat×Value)}{F F' :Fz}{hs:List HP}{ks:List Kt}{fn:Func}{R:HP}{ρ:β->Fz->Value->Prop}{Hs' :β->Fz->Value->List HP}{x:β}{r:Out ε β}{rs:List ResultVar}{vs:List Value}
theorem Um{A:HP}{m:Mem}(h:star A (QY [R]) m):star A R m:=by
 obtain⟨m1,m2,d,s1,s2,ha,m3,_,_,t1,_,hr,_⟩:=h;exact⟨m1,m3,d.sub (Mem.sub.refl _) t1,s1,t1.trans s2,ha,hr⟩
theorem Pz(is:List Nat)(hr:fn.results=rs.toArray)(h:BA P S F' hs rs vs)(hi:Js is hs=Hs' x F' (Bu vs)++[R])(le:F<=F')(hρ:ρ x F' (Bu vs)):
  some (Out.ok x)=some r->∀a w,Hd n [] S F' hs a w->CS P penc fn F R ρ Hs' r .ret a w:=by
 intro e a w ha;simp only[Option.some.injEq] at e
 subst e;refine⟨ha.1.2.1,_,Kx hr ha h,F',le,_,rfl,hρ,ha.2.mono λm hm=> ?_⟩;have h1:=Jw (ks:=is) hm;rw[hi] at h1
 exact Um (Jx h1)
theorem GC.fh(is:List Nat)(hr:fn.results=rs.toArray)(h:BA P S F' hs rs vs)(hi:Js is hs=Hs' x F' (Bu vs)++[R])(le:F<=F')(hρ:ρ x F' (Bu vs)):
 GC O P .ret ks (CS P penc fn F R ρ Hs' r) (Hd n [] S F' hs) (some (.ok x)) r:=GC.uY (Pz is hr h hi le hρ)
theorem GE.ue(is:List Nat)(hr:fn.results=rs.toArray)(h:BA P S F' hs rs vs)(hi:Js is hs=Hs' x F' (Bu vs)++[R])(le:F<=F')(hρ:ρ x F' (Bu vs)):
 GE O P [] (CS P penc fn F R ρ Hs' r) (Hd n [] S F' hs) (some (.ok x)) r:=GE.nil (Pz is hr h hi le hρ)
theorem Qr{q:ε}{i:Nat}(hi:hs[i]? =some R)(le:F<=F'):
  some (Out.pan q)=some r->∀a w,Hd n [] S F' hs a w->CS P penc fn F R ρ Hs' r (.panic [{v:=penc q,recovered:=false}]) a w:=by
 intro e a w ha;simp only[Option.some.injEq] at e
 subst e;exact⟨ha.1.2.1,F',le,rfl,ha.2.only hi⟩
end
section
variable{ε β:Type}{P:Program}{penc:ε->Value}{ops:Array Oper}{rest:List Oper}{ks:List Kt}{Q:Exit->Act->World->Prop}{m:Option β}{r:β}
variable{n:Nat}{D:List Deferred}{S:List (Nat×Value)}{F F0:Fz}{hs:List HP}
theorem GL.wy{dst:Option Tmp}{ox:Operand}{ty:TypeId}{pos:String}{after:Array Edge}{T:TypeId}{v:Value}(hx:QK S ox=some (.iface T v))
  (h:m=some r->∀a w,Hd n D S F hs a w->Q (.panic [{v:=.iface T v,recovered:=false}]) a w):GL O P ops (⟨dst,.panic ox,ty,pos,after,none⟩::rest) ks Q (Hd n D S F hs) m r:=by
 intro hm a w ha;unfold XK;rw[if_pos (by simp[Region.wanted])];refine⟨.inr rfl,?_⟩
 have hrun:(execOp a.eval ⟨dst,.panic ox,ty,pos,after,none⟩).run P w= .halt (.panic (.iface T v)) w:=by
  simp[execOp,Instr.panic,ha.1.eval hx,goPanic]
 rw[hrun];exact KV (h hm a w ha)
end
end
end Go.Dec
end
