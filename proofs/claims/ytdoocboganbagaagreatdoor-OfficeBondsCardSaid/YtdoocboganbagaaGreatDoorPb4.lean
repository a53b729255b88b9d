/- For OfficeBonds. -/
import Derived.Test.YtdoocboganbagaaGreatDoorPb3
import Derived.Test.YtdoocboganbagaaGreatDoorProg
import Derived.Shelf.Strconv.Itoa3
import Derived.Shelf.Strings.Cut
import Derived.Shelf.Small.Strs
import Derived.Shelf.Lay
import Derived.Ground.NamesProg
noncomputable section
namespace Go.Dec
abbrev ll:=@of_decide_eq_true
abbrev iI:=@Go.Proofs.cell_of_shapedOpen_int
end Go.Dec
namespace Go.Proofs.YtdoocboganbagaaGreatDoor
section
open Go.Dec Go.Shelf Go.RowKit Go.Maps Go.Sort
def Tryz.tJ:Go.Shelf.Ren:=⟨fun | 171=>87 | 243=>141 | 246=>175 | 283=>207 | 284=>208 | 285=>209 | 286=>210 | 129=>173 | 317=>234 | 318=>235 | 319=>236 | 320=>237 | 337=>242 | 338=>243 | n=>n,fun | 3=>3 | 9=>9 | 2=>2 | 4=>4 | 171=>292 | 0=>0 | 53=>261 | 37=>123 | 5=>5 | 173=>294 | 212=>305 | 51=>259 | 20=>20 | 213=>306 | 46=>222 | 232=>312 | 233=>313 | n=>n,fun | 17=>1 | 18=>2 | 19=>3 | n=>n⟩
theorem Tryz.rN:Go.Proofs.LaysM.n171 Tryz.prog Tryz.tJ:={
 mixed:=by kernel_rfl
 f129:=Tryz.func173.trans<|congrArg some x0
 f171:=Tryz.func87.trans<|congrArg some x0
 f243:=Tryz.func141.trans<|congrArg some x0
 f246:=Tryz.func175.trans<|congrArg some x0
 f283:=Tryz.func207.trans<|congrArg some x0
 f284:=Tryz.func208.trans<|congrArg some x0
 f285:=Tryz.func209.trans<|congrArg some x0
 f286:=Tryz.func210.trans<|congrArg some x0
 f317:=Tryz.func234.trans<|congrArg some x0
 f318:=Tryz.func235.trans<|congrArg some x0
 f319:=Tryz.func236.trans<|congrArg some x0
 f320:=Tryz.func237.trans<|congrArg some x0
 f337:=Tryz.func242.trans<|congrArg some x0
 f338:=Tryz.func243.trans<|congrArg some x0
 t0:=Tryz.underlying0
 a0:=Tryz.isAgg0
 z0:=Tryz.sizeOf0
 v0:=Tryz.zeroValue0
 t2:=Tryz.underlying2
 a2:=Tryz.isAgg2
 z2:=Tryz.sizeOf2
 v2:=Tryz.zeroValue2
 t3:=Tryz.underlying3
 a3:=Tryz.isAgg3
 z3:=Tryz.sizeOf3
 v3:=Tryz.zeroValue3
 t4:=Tryz.underlying4
 a4:=Tryz.isAgg4
 z4:=Tryz.sizeOf4
 v4:=Tryz.zeroValue4
 t5:=Tryz.underlying5
 a5:=Tryz.isAgg5
 z5:=Tryz.sizeOf5
 v5:=Tryz.zeroValue5
 t9:=Tryz.underlying9
 a9:=Tryz.isAgg9
 z9:=Tryz.sizeOf9
 v9:=Tryz.zeroValue9
 t20:=Tryz.underlying20
 a20:=Tryz.isAgg20
 z20:=Tryz.sizeOf20
 v20:=Tryz.zeroValue20
 t37:=Tryz.underlying123
 a37:=Tryz.isAgg123
 z37:=Tryz.sizeOf123
 v37:=Tryz.zeroValue123
 t46:=Tryz.underlying222
 a46:=Tryz.isAgg222
 z46:=Tryz.sizeOf222
 v46:=Tryz.zeroValue222
 t51:=Tryz.underlying259
 a51:=Tryz.isAgg259
 z51:=Tryz.sizeOf259
 v51:=Tryz.zeroValue259
 t53:=Tryz.underlying261
 a53:=Tryz.isAgg261
 z53:=Tryz.sizeOf261
 v53:=Tryz.zeroValue261
 t171:=Tryz.underlying292
 a171:=Tryz.isAgg292
 z171:=Tryz.sizeOf292
 v171:=Tryz.zeroValue292
 t173:=Tryz.underlying294
 a173:=Tryz.isAgg294
 z173:=Tryz.sizeOf294
 v173:=Tryz.zeroValue294
 t212:=Tryz.underlying305
 a212:=Tryz.isAgg305
 z212:=Tryz.sizeOf305
 v212:=Tryz.zeroValue305
 t213:=Tryz.underlying306
 a213:=Tryz.isAgg306
 z213:=Tryz.sizeOf306
 t232:=Tryz.underlying312
 a232:=Tryz.isAgg312
 z232:=Tryz.sizeOf312
 v232:=Tryz.zeroValue312
 t233:=Tryz.underlying313
 a233:=Tryz.isAgg313
 z233:=Tryz.sizeOf313
 v233:=Tryz.zeroValue313
 g17:=by kernel_rfl
 g18:=by kernel_rfl
 g19:=by kernel_rfl
 i0:=by kernel_rfl
 i2:=by kernel_rfl
 i3:=by kernel_rfl
 i4:=by kernel_rfl
 i5:=by kernel_rfl
 i9:=by kernel_rfl
 i20:=by kernel_rfl
 i37:=by kernel_rfl
 i46:=by kernel_rfl
 i51:=by kernel_rfl
 i53:=by kernel_rfl
 i171:=by kernel_rfl
 i173:=by kernel_rfl
 i212:=by kernel_rfl
 i232:=by kernel_rfl
 i233:=by kernel_rfl
 m17:=by kernel_rfl
 m18:=by kernel_rfl
 m19:=by kernel_rfl}
def Tryz.af:Go.Shelf.Ren:=⟨fun | 145=>89 | 220=>143 | 219=>176 | 217=>174 | 225=>211 | 224=>212 | 267=>213 | 266=>206 | 314=>238 | n=>n,fun | 9=>9 | 4=>4 | 59=>182 | 3=>3 | 5=>5 | 46=>222 | 146=>307 | 51=>259 | n=>n,fun | 1=>0 | n=>n⟩
theorem Tryz.nJ:Go.Proofs.LaysM.n145 Tryz.prog Tryz.af:={
 mixed:=by kernel_rfl
 f145:=Tryz.func89.trans<|congrArg some x0
 f217:=Tryz.func174.trans<|congrArg some x0
 f219:=Tryz.func176.trans<|congrArg some x0
 f220:=Tryz.func143.trans<|congrArg some x0
 f224:=Tryz.func212.trans<|congrArg some x0
 f225:=Tryz.func211.trans<|congrArg some x0
 f266:=Tryz.func206.trans<|congrArg some x0
 f267:=Tryz.func213.trans<|congrArg some x0
 f314:=Tryz.func238.trans<|congrArg some x0
 t3:=Tryz.underlying3
 a3:=Tryz.isAgg3
 z3:=Tryz.sizeOf3
 v3:=Tryz.zeroValue3
 t4:=Tryz.underlying4
 a4:=Tryz.isAgg4
 z4:=Tryz.sizeOf4
 v4:=Tryz.zeroValue4
 t5:=Tryz.underlying5
 a5:=Tryz.isAgg5
 z5:=Tryz.sizeOf5
 v5:=Tryz.zeroValue5
 t9:=Tryz.underlying9
 a9:=Tryz.isAgg9
 z9:=Tryz.sizeOf9
 v9:=Tryz.zeroValue9
 t46:=Tryz.underlying222
 a46:=Tryz.isAgg222
 z46:=Tryz.sizeOf222
 v46:=Tryz.zeroValue222
 t51:=Tryz.underlying259
 a51:=Tryz.isAgg259
 z51:=Tryz.sizeOf259
 v51:=Tryz.zeroValue259
 t59:=Tryz.underlying182
 a59:=Tryz.isAgg182
 z59:=Tryz.sizeOf182
 v59:=Tryz.zeroValue182
 t146:=Tryz.underlying307
 a146:=Tryz.isAgg307
 z146:=Tryz.sizeOf307
 v146:=Tryz.zeroValue307
 g1:=by kernel_rfl
 i3:=by kernel_rfl
 i4:=by kernel_rfl
 i5:=by kernel_rfl
 i9:=by kernel_rfl
 i46:=by kernel_rfl
 i51:=by kernel_rfl
 i59:=by kernel_rfl
 i146:=by kernel_rfl
 m1:=by kernel_rfl
 s1_3:=λw h=>iI (zero:=#[.int .i64 0]) (t:=3) h (ll x0) x0 rfl x0 x0 Tryz.underlying3}
def Tryz.aQ:Go.Shelf.Ren:=⟨fun | 137=>139 | 217=>174 | 266=>206 | n=>n,fun | 9=>9 | 5=>5 | 3=>3 | n=>n,fun | n=>n⟩
theorem Tryz.av:Go.Proofs.Lays.n137 Tryz.prog Tryz.aQ:={
 mixed:=by kernel_rfl
 f137:=Tryz.func139.trans<|congrArg some x0
 f217:=Tryz.func174.trans<|congrArg some x0
 f266:=Tryz.func206.trans<|congrArg some x0
 t3:=Tryz.underlying3
 a3:=Tryz.isAgg3
 z3:=Tryz.sizeOf3
 v3:=Tryz.zeroValue3
 t5:=Tryz.underlying5
 a5:=Tryz.isAgg5
 z5:=Tryz.sizeOf5
 v5:=Tryz.zeroValue5
 t9:=Tryz.underlying9
 a9:=Tryz.isAgg9
 z9:=Tryz.sizeOf9
 v9:=Tryz.zeroValue9}
structure HB(F:Fz):Prop where
 pow10:xr Tryz.prog F "internal/strconv.uint64pow10" N0
 maxLen:∃m T fr,F.mem (Tryz.af.g 1)=some (.cells #[.int .i64 m] T fr)
theorem HB.mono{F a:Fz}(h:HB F)(le:F<=a):HB a:=⟨h.pow10.mono le,let⟨m,T,fr,e⟩:=h.maxLen;⟨m,T,fr,le.mem _ _ e⟩⟩
theorem cell_of{w:By}{b:Nat}{v:UV}{T:S1}{fr:Nat×Nat}(h:w.heap[b]? =some (.cells #[v] T fr)):w.cell? ⟨b,0,none⟩=some v:=by simp[World.cell?,h]
theorem wh(s:Q0 H1):(bs s).size=s.length:=by simp[bs,ByteArray.size]
theorem SH.drewN{w:By}{F:Fz}{H:HP}(h:SH w F H)(n:Nat):SH (w.drewN n) F H:=h.drew _
def UN(s:Q0 H1)(c:Int):K1 Int:=some<|Go.Lib.indexByte s c.toNat.toUInt8
theorem AL(F0:Fz)(s:Q0 H1)(c:Int):KJ Tryz.prog 139 [(.string<|bs s),(.int .u8 c)].toArray F0 (UN s c) (λr _ v=>v=(.int .i64 r)):=by
 intro r a w R b;unfold UN at a
 simp only[W1] at a
 refine(Go.Proofs.Any.strings_IndexByte {Tryz.av with} (bs s) c w).mono ?_;rintro e w' ⟨rfl,rfl⟩;exact⟨F0,_,Fz.le_refl _,rfl,by rw[<-a];simp[bs],b⟩
def GM(s sep:Q0 H1):K1 (Q0 H1×Q0 H1×Bool):=if s.length < 4294967281 then some (Go.Lib.cut s sep) else none
theorem LW(F0:Fz)(d:HB F0)(s sep:Q0 H1):KJ Tryz.prog 89 [(.string<|bs s),(.string<|bs sep)].toArray F0 (GM s sep) (λr _ v=>v= .tuple #[(.string<|bs r.1),(.string<|bs r.2.1),(.bool r.2.2)]):=by
 intro r a w R c;unfold GM at a
 split at a
 ·rename_i h;simp only[W1] at a
  obtain⟨m,T,fr,b⟩:=d.maxLen;refine(Go.Proofs.Any.strings_Cut {Tryz.nJ with} (bs s) (bs sep) m w (by rw[wh];exact h)<|cell_of<|c.frozen b).mono ?_;rintro e w' ⟨rfl,n,rfl⟩;exact⟨F0,_,Fz.le_refl _,rfl,by rw[<-a];simp[bs],SH.drewN c n⟩
 ·cases a
def XS(i:Int):K1 (Q0 H1):=if -9223372036854775808<=i/\i<=9223372036854775807 then some (Go.Lib.itoa i) else none
theorem Ml(F0:Fz)(d:HB F0)(i:Int):KJ Tryz.prog 87 [(.int .i64 i)].toArray F0 (XS i) (λr _ v=>v=(.string<|bs r)):=by
 intro r a w R c;unfold XS at a
 split at a
 ·rename_i h;simp only[W1] at a
  obtain⟨g,T,fr,f,j⟩:=d.pow10
  have b:Go.Lib.TabIs Tryz.prog w "internal/strconv.uint64pow10" .u64 Go.Lib.pow10Tab:=by
   have l:=c.frozen j;simp[Go.Lib.TabIs,World.var?,f,l,N0]
  refine(Go.Proofs.Any.strconv_Itoa {Tryz.rN with} i h.1 h.2 w b).mono ?_;rintro e w' ⟨rfl,k,os,rfl⟩;exact⟨F0,_,Fz.le_refl _,rfl,by rw[<-a];rfl,c.below<|Go.Lib.below_grow _ _ (S2 _) k os⟩
 ·cases a
end
section
open Go.Dec Go.Shelf Go.RowKit Go.Maps Go.Sort
set_option maxRecDepth 100000
set_option maxHeartbeats 4000000
theorem gl:Tryz.prog.follows .mixedOrders=true:=by kernel_rfl
theorem wi:((Tryz.prog.info? 125).map (·.size))=some 2:=by kernel_rfl
theorem xF:liesAt Tryz.prog Tryz.prog.depth 125 (2 / Tryz.prog.cellsOf 125) 0 125 1=true:=by kernel_rfl
theorem uC(v:UV)(w:By):(callFunc 142 #[v]).run Tryz.prog w= .ok (.value v) w:=by
 rw[run_callFunc_extern Tryz.func142 x0 x0 x0 (e:=Extern.AbiNoEscape.same) x0];rfl
theorem zw:U2 Tryz.prog 5 1 (Ex<|Zy .u8):=.ex (λ_=>rfl) (λ_=>rfl) Tryz.sizeOf5 ⟨_,Tryz.typeInfo5,by decide+kernel,by decide+kernel⟩ ⟨_,Tryz.zeroValue5,rfl⟩
theorem Rm(F0:Fz)(b:Nat)(s:Q0 H1):CT Tryz.prog 88 [vP b 0].toArray F0 (CX 125 5 b s) (some ()) (λ_ _ _=>True) (λ_ _ _=>CX 125 5 b s):=by
 obtain⟨f,a,d⟩:=mY.1 wi;refine CT.enter Tryz.func88 rfl Tryz.ntmps88 rfl λr R=> ?_;refine .seq<|.region<|.move rfl rfl<|.aY 0 rfl λp q cap e c=> ?_;refine .nilCheck rfl rfl<|.fieldAddr rfl Tryz.underlying125 rfl Tryz.sizeOf122 rfl<|.cC rfl Tryz.isAgg122 rfl (i:=0) rfl rfl<|.mC rfl Tryz.underlying122 rfl rfl<|.nil<|.code ?_;rcases e with rfl | rfl
 ·refine .sR rfl (.region<|.move rfl rfl<|.move rfl rfl<|.pQ rfl Tryz.underlying122 Tryz.underlying224 a (by rw[d];decide) (i:=0) rfl eF rfl<|.rZ rfl (uC _) rfl<|.te rfl Tryz.underlying224 Tryz.underlying122 a (i:=0) rfl xF rfl ?_);refine .nilCheck rfl rfl (.fieldAddr rfl Tryz.underlying125 rfl Tryz.sizeOf122 rfl<|.store (cs' :=[vP b 0,.slice q (XL s).length cap]) Tryz.sizeOf122 rfl rfl rfl rfl (i:=0) rfl eF rfl rfl<|.aJ (s:=s) [0,0] (.inr rfl) (λ_=>c) rfl<|.nil ?_);exact .mD Tryz.results88 .nil (i:=0) (j:=0) rfl rfl (Fz.le_refl _) trivial
 ·refine .sF rfl<|.seq<|.region<|.move rfl rfl<|.nilCheck rfl rfl<|.fieldAddr rfl Tryz.underlying125 rfl Tryz.sizeOf122 rfl<|.cC rfl Tryz.isAgg122 rfl (i:=0) rfl rfl<|.move rfl rfl<|.nv rfl Tryz.underlying122 a rfl rfl<|.aJ (s:=s) [0,0] (.inr rfl) (λ_=>c) rfl<|.nil<|.code<|.sF rfl<|.skip ?_;exact .mD Tryz.results88 .nil (i:=0) (j:=0) rfl rfl (Fz.le_refl _) trivial
def SU(s t:Q0 H1):K1 (Q0 H1):=if s.length+t.length<=4294967296 then some (s++t) else none
theorem qu{s t z:Q0 H1}(h:SU s t=some z):VU (XL s) (XL t)=some (XL z):=by
 unfold SU at h
 split at h
 ·rename_i a;simp only[W1] at h
  subst h;unfold VU;rw[BY (by rw[S9,S9];exact a),kG]
 ·cases h
theorem jU{s t z:Q0 H1}(h:SU s t=some z):z=s++t:=by
 unfold SU at h
 split at h
 ·exact(Tc h).symm
 ·cases h
theorem Mu(F0:Fz)(b:Nat)(s t:Q0 H1):CT Tryz.prog 36 [vP b 0,.string<|bs t].toArray F0 (CX 125 5 b s) ((SU s t).bind some) (λ_ _ _=>True) (λr _ _=>CX 125 5 b r):=by
 refine CT.enter Tryz.func36 rfl Tryz.ntmps36 rfl λr R=>.bind λz d=> ?_;have a:=qu d;refine .seq<|.region<|.assign rfl rfl<|.assign rfl rfl<|.nil<|.code<|.seq<|.region<|.move rfl rfl<|.tj rfl Tryz.call88 rfl rfl rfl (i:=0) rfl (Rm _ b s) λm _ f=> ?_;refine .nil<|.code<|.seq<|.region<|.move rfl rfl<|.move rfl rfl<|.aY 0 rfl λp q cap g h=> ?_;refine .nilCheck rfl rfl<|.fieldAddr rfl Tryz.underlying125 rfl Tryz.sizeOf123 rfl<|.cC rfl Tryz.isAgg123 rfl (i:=0) rfl rfl<|.move rfl rfl ?_;refine .rC a 1 zw (Fz.le_refl _) rfl Tryz.underlying123 Tryz.underlying9 rfl rfl rfl rfl rfl λp' cap' c=> ?_;refine .nilCheck rfl rfl (.fieldAddr rfl Tryz.underlying125 rfl Tryz.sizeOf123 rfl<|.store (cs' :=[.pointer p,.slice p' (XL z).length cap']) Tryz.sizeOf123 rfl rfl rfl rfl (i:=0) rfl eF rfl rfl ?_);refine .aJ (s:=z) [0,0] g (λe=> ?_) rfl ?_
 ·subst e;obtain⟨k,l⟩:=c rfl;have:=jU d;subst k;subst l;exact h
 refine .nil<|.code<|.seq<|.region<|.move rfl rfl<|.cx rfl rfl Tryz.underlying9 rfl<|.assign rfl rfl<|.assign rfl rfl<|.nil<|.code ?_;exact .pV Tryz.results36 (.tmp rfl<|.tmp rfl .nil) (i:=0) (j:=0) rfl rfl f trivial
theorem IL(F0:Fz)(b:Nat)(s:Q0 H1)(c:H1):CT Tryz.prog 37 [vP b 0,.int .u8 c.toNat].toArray F0 (CX 125 5 b s) ((SU s [c]).bind some) (λ_ _ _=>True) (λr _ _=>CX 125 5 b r):=by
 refine CT.enter Tryz.func37 rfl Tryz.ntmps37 rfl λr R=>.bind λz f=> ?_;have a:=qu f;refine .seq<|.region<|.assign rfl rfl<|.nil<|.code<|.seq<|.region<|.move rfl rfl<|.tj rfl Tryz.call88 rfl rfl rfl (i:=0) rfl (Rm _ b s) λn _ g=> ?_;refine .nil<|.code<|.seq<|.region<|.move rfl rfl<|.move rfl rfl<|.aY 0 rfl λp q cap h o=> ?_;refine .nilCheck rfl rfl<|.fieldAddr rfl Tryz.underlying125 rfl Tryz.sizeOf123 rfl<|.cC rfl Tryz.isAgg123 rfl (i:=0) rfl rfl<|.move rfl rfl ?_;refine .cX (cs:=[.int .u8 c.toNat]) (zc:=[.int .u8 0]) rfl Tryz.underlying123 Tryz.sizeOf5 Tryz.zeroValue5 rfl rfl rfl x0 iO λk l l2 d=> ?_;have m:QG 1 (Ex<|Zy .u8) l (some ⟨k,0,none⟩) 1 (XL [c]):=QG.ofRow d (.cons zw.mono rfl .nil) rfl rfl;refine .aM a 1 zw l2 rfl Tryz.underlying123 Tryz.underlying123 rfl rfl rfl m rfl rfl λp' cap' => ?_;refine .nilCheck rfl rfl (.fieldAddr rfl Tryz.underlying125 rfl Tryz.sizeOf123 rfl<|.store (cs' :=[.pointer p,.slice p' (XL z).length cap']) Tryz.sizeOf123 rfl rfl rfl rfl (i:=0) rfl eF rfl rfl ?_);refine .aJ (s:=z) [0,0] h (λe=> ?_) rfl ?_
 ·have:=jU f;rw[e] at this
  simp at this
 refine .nil<|.code<|.seq<|.region<|.assign rfl rfl<|.nil<|.code ?_;exact .pV Tryz.results37 (.tmp rfl .nil) (i:=0) (j:=0) rfl rfl (Fz.le_trans g l2) trivial
theorem qv(F0:Fz)(b:Nat)(s:Q0 H1):CT Tryz.prog 38 [vP b 0].toArray F0 (CX 125 5 b s) (some s) (λr _ v=>v= .string (bs r)) (λ_ _ _=>SO):=by
 refine CT.enter Tryz.func38 rfl Tryz.ntmps38 rfl λr R=> ?_;refine .seq<|.region<|.assign rfl rfl<|.nil<|.code<|.seq<|.aY 0 rfl λp q cap c a=> ?_;refine .cS 10 gl x0<|.move rfl rfl<|.nilCheck rfl rfl<|.fieldAddr rfl Tryz.underlying125 rfl Tryz.sizeOf123 rfl<|.cC rfl Tryz.isAgg123 rfl (i:=0) rfl rfl<|.pI a rfl rfl<|.move rfl rfl<|.nilCheck rfl rfl<|.fieldAddr rfl Tryz.underlying125 rfl Tryz.sizeOf123 rfl<|.cC rfl Tryz.isAgg123 rfl (i:=0) rfl rfl<|.cm rfl rfl Tryz.underlying123 rfl<|.cc ?_;refine .pF 1 rfl Tryz.underlying181 x0 rfl rfl rfl rfl<|.assign rfl rfl<|.nil<|.code<|.nK ?_;exact .pV Tryz.results38 (.tmp rfl .nil) (i:=0) (j:=1) rfl rfl (Fz.le_refl _) rfl
theorem qw{α:Type}(x:K1 α):x.bind some=x:=by cases x<;>rfl
theorem GO(F0:Fz)(b:Nat)(s t:Q0 H1):CT Tryz.prog 36 [vP b 0,.string<|bs t].toArray F0 (CX 125 5 b s) (SU s t) (λ_ _ _=>True) (λr _ _=>CX 125 5 b r):=qw (SU s t)▸Mu F0 b s t
theorem Sk(F0:Fz)(b:Nat)(s:Q0 H1)(c:H1):CT Tryz.prog 37 [vP b 0,.int .u8 c.toNat].toArray F0 (CX 125 5 b s) (SU s [c]) (λ_ _ _=>True) (λr _ _=>CX 125 5 b r):=qw (SU s [c])▸IL F0 b s c
def Xh(l:Q0 Int)(s:Int×Q0 H1):K1 (UQ (Int×Q0 H1)<|Q0 H1):=if decide (s.1 < (l.length:Int)) then(ZX l s.1).bind λx=>(SU s.2 [32]).bind λt=>(XS x).bind λu=>(SU t u).bind λz=>some (.next (Q8<|s.1+1,z)) else some<|.done s.2
def Jo(word:Q0 H1)(l:Q0 Int):K1 (Q0 H1):=(SU [] word).bind λs=>(ZU (Xh l) (0,s)).bind λz=>some z
theorem Wl(F0:Fz)(y:HB F0)(word:Q0 H1)(l:Q0 Int)(p:K1 C3)(k:Nat)(h:QG 1 (Ex<|Zy .i64) F0 p k l):KJ Tryz.prog 35 [.string<|bs word,vS p l k].toArray F0 (Jo word l) (λr _ v=>v= .string (bs r)):=by
 refine KJ.enter Tryz.func35 rfl Tryz.ntmps35 rfl λr R=> ?_;unfold Jo;refine .seq<|.region<|.assign rfl rfl<|.nil<|.code<|.seq<|.region<|.alloc (cs:=[.pointer none,.slice none 0 0]) rfl Tryz.zeroValue125 rfl λb=>.rA 0 5 rfl<|.nil<|.code ?_;refine .seq<|.region<|.move rfl rfl<|.sn rfl Tryz.call36 rfl rfl rfl (i:=0) rfl (GO _ b [] word) λs f v _ j _=> ?_;refine .nil<|.code<|.seq<|.seq<|.region<|.move rfl rfl<|.cm rfl rfl Tryz.underlying32 rfl<|.move rfl rfl<|.nil<|.code<|.block ?_;refine .loop (fun(s:Int×Q0 H1) a w=>∃c,f<=c/\Hd 22 [] [(5,vP b 0),(10,vS p l k),(11,vI l.length),(12,vI s.1)] c [CX 125 5 b s.2,R] a w) (fun(o:Q0 H1) e a w=>e= .exit 0/\∃c,f<=c/\Hd 22 [] [(5,vP b 0)] c [CX 125 5 b o,R] a w) ?_ ?_ ?_
 ·exact λa w h=>⟨f,Fz.le_refl _,h.1.sub<|.k rfl,h.2⟩
 ·rintro⟨i,s⟩ A;refine GG.ex λa w ⟨c,l2,m⟩=>⟨_,m,?_⟩;unfold Xh;refine .seq<|.region<|.lss rfl rfl rfl<|.nil<|.code<|.seq<|.cond rfl (λB=> ?_) λB=> ?_
  ·refine .skip<|.code<|.seq<|.block<|.seq<|.region ?_;refine .idx rfl Tryz.underlying32 Tryz.sizeOf3 (h.mono<|Fz.le_trans j l2) rfl rfl λx N P Q C D S n q=> ?_;refine .U rfl Tryz.isAgg3 rfl n (QI (k:=0) q rfl)<|.assign rfl rfl<|.nil<|.code<|.seq<|.region ?_;refine .sn rfl Tryz.call37 rfl rfl rfl (i:=0) rfl (Sk _ b s 32) λt E F _ d _=> ?_;refine .nil<|.code<|.region<|.move rfl rfl<|.cM rfl Tryz.call87 rfl rfl rfl (Ml _ (y.mono<|Fz.le_trans j<|Fz.le_trans l2 d) x) ?_;rintro u T _ - G rfl;refine .sn rfl Tryz.call36 rfl rfl rfl (i:=0) rfl (GO _ b t u) λz H V _ I _=> ?_;refine .nil<|.block<|.code<|.region<|.add rfl rfl rfl<|.move rfl rfl<|.nil ?_;exact .cK<|Q7.norm λa w h=>⟨H,Fz.le_trans l2<|Fz.le_trans d<|Fz.le_trans G I,h.1.sub<|.k rfl,h.2⟩
  ·exact .cO rfl<|Q7.exit λa w h=>⟨rfl,c,l2,h.1.sub<|.k rfl,h.2⟩
 ·intro o K L e a w M;obtain⟨rfl,c,l2,m⟩:=M;refine ZE rfl<|GG.app ?_ L a w m;refine .code<|.seq<|.region<|.sn (e:=some o) (g:=some) rfl Tryz.call38 rfl rfl rfl (i:=0) rfl (qv _ b o) ?_;rintro o' E F W d rfl;refine .assign rfl rfl<|.nil<|.code ?_;exact .cI Tryz.results35 (.tmp rfl .nil) (i:=1) rfl (Fz.le_trans j<|Fz.le_trans l2 d) rfl
end
end Go.Proofs.YtdoocboganbagaaGreatDoor
end
