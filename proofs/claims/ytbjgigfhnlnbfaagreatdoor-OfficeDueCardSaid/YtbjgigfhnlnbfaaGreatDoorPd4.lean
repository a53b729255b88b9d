/- For OfficeDue. -/
import Derived.Test.YtbjgigfhnlnbfaaGreatDoorPd3
import Derived.Test.YtbjgigfhnlnbfaaGreatDoorProg
import Derived.Shelf.Strconv.Itoa3
import Derived.Shelf.Strings.Cut
import Derived.Shelf.Small.Strs
import Derived.Shelf.Lay
import Derived.Ground.NamesProg
noncomputable section
namespace Go.Dec
abbrev lv:=@of_decide_eq_true
abbrev od:=@Go.Proofs.cell_of_shapedOpen_int
end Go.Dec
namespace Go.Proofs.YtbjgigfhnlnbfaaGreatDoor
section
open Go.Dec Go.Shelf Go.RowKit Go.Maps Go.Sort
def Tryz.tM:Go.Shelf.Ren:=⟨fun | 171=>89 | 243=>143 | 246=>177 | 283=>209 | 284=>210 | 285=>211 | 286=>212 | 129=>175 | 317=>236 | 318=>237 | 319=>238 | 320=>239 | 337=>244 | 338=>245 | n=>n,fun | 3=>3 | 9=>9 | 2=>2 | 4=>4 | 171=>294 | 0=>0 | 53=>263 | 37=>126 | 5=>5 | 173=>296 | 212=>307 | 51=>261 | 20=>20 | 213=>308 | 46=>224 | 232=>314 | 233=>315 | n=>n,fun | 17=>1 | 18=>2 | 19=>3 | n=>n⟩
theorem Tryz.rS:Go.Proofs.LaysM.n171 Tryz.prog Tryz.tM:={
 mixed:=by kernel_rfl
 f129:=Tryz.func175.trans<|congrArg some ql
 f171:=Tryz.func89.trans<|congrArg some ql
 f243:=Tryz.func143.trans<|congrArg some ql
 f246:=Tryz.func177.trans<|congrArg some ql
 f283:=Tryz.func209.trans<|congrArg some ql
 f284:=Tryz.func210.trans<|congrArg some ql
 f285:=Tryz.func211.trans<|congrArg some ql
 f286:=Tryz.func212.trans<|congrArg some ql
 f317:=Tryz.func236.trans<|congrArg some ql
 f318:=Tryz.func237.trans<|congrArg some ql
 f319:=Tryz.func238.trans<|congrArg some ql
 f320:=Tryz.func239.trans<|congrArg some ql
 f337:=Tryz.func244.trans<|congrArg some ql
 f338:=Tryz.func245.trans<|congrArg some ql
 t0:=Tryz.underlying0
 a0:=Tryz.isAgg0
 z0:=Tryz.sizeOf0
 v0:=Tryz.zeroValue0
 t2:=Tryz.underlying2
 a2:=Tryz.isAgg2
 z2:=Tryz.sizeOf2
 v2:=Tryz.zeroValue2
 t3:=Tryz.underlying3
 a3:=Tryz.isAgg3
 z3:=Tryz.sizeOf3
 v3:=Tryz.zeroValue3
 t4:=Tryz.underlying4
 a4:=Tryz.isAgg4
 z4:=Tryz.sizeOf4
 v4:=Tryz.zeroValue4
 t5:=Tryz.underlying5
 a5:=Tryz.isAgg5
 z5:=Tryz.sizeOf5
 v5:=Tryz.zeroValue5
 t9:=Tryz.underlying9
 a9:=Tryz.isAgg9
 z9:=Tryz.sizeOf9
 v9:=Tryz.zeroValue9
 t20:=Tryz.underlying20
 a20:=Tryz.isAgg20
 z20:=Tryz.sizeOf20
 v20:=Tryz.zeroValue20
 t37:=Tryz.underlying126
 a37:=Tryz.isAgg126
 z37:=Tryz.sizeOf126
 v37:=Tryz.zeroValue126
 t46:=Tryz.underlying224
 a46:=Tryz.isAgg224
 z46:=Tryz.sizeOf224
 v46:=Tryz.zeroValue224
 t51:=Tryz.underlying261
 a51:=Tryz.isAgg261
 z51:=Tryz.sizeOf261
 v51:=Tryz.zeroValue261
 t53:=Tryz.underlying263
 a53:=Tryz.isAgg263
 z53:=Tryz.sizeOf263
 v53:=Tryz.zeroValue263
 t171:=Tryz.underlying294
 a171:=Tryz.isAgg294
 z171:=Tryz.sizeOf294
 v171:=Tryz.zeroValue294
 t173:=Tryz.underlying296
 a173:=Tryz.isAgg296
 z173:=Tryz.sizeOf296
 v173:=Tryz.zeroValue296
 t212:=Tryz.underlying307
 a212:=Tryz.isAgg307
 z212:=Tryz.sizeOf307
 v212:=Tryz.zeroValue307
 t213:=Tryz.underlying308
 a213:=Tryz.isAgg308
 z213:=Tryz.sizeOf308
 t232:=Tryz.underlying314
 a232:=Tryz.isAgg314
 z232:=Tryz.sizeOf314
 v232:=Tryz.zeroValue314
 t233:=Tryz.underlying315
 a233:=Tryz.isAgg315
 z233:=Tryz.sizeOf315
 v233:=Tryz.zeroValue315
 g17:=by kernel_rfl
 g18:=by kernel_rfl
 g19:=by kernel_rfl
 i0:=by kernel_rfl
 i2:=by kernel_rfl
 i3:=by kernel_rfl
 i4:=by kernel_rfl
 i5:=by kernel_rfl
 i9:=by kernel_rfl
 i20:=by kernel_rfl
 i37:=by kernel_rfl
 i46:=by kernel_rfl
 i51:=by kernel_rfl
 i53:=by kernel_rfl
 i171:=by kernel_rfl
 i173:=by kernel_rfl
 i212:=by kernel_rfl
 i232:=by kernel_rfl
 i233:=by kernel_rfl
 m17:=by kernel_rfl
 m18:=by kernel_rfl
 m19:=by kernel_rfl}
def Tryz.af:Go.Shelf.Ren:=⟨fun | 145=>91 | 220=>145 | 219=>178 | 217=>176 | 225=>213 | 224=>214 | 267=>215 | 266=>208 | 314=>240 | n=>n,fun | 9=>9 | 4=>4 | 59=>184 | 3=>3 | 5=>5 | 46=>224 | 146=>309 | 51=>261 | n=>n,fun | 1=>0 | n=>n⟩
theorem Tryz.nM:Go.Proofs.LaysM.n145 Tryz.prog Tryz.af:={
 mixed:=by kernel_rfl
 f145:=Tryz.func91.trans<|congrArg some ql
 f217:=Tryz.func176.trans<|congrArg some ql
 f219:=Tryz.func178.trans<|congrArg some ql
 f220:=Tryz.func145.trans<|congrArg some ql
 f224:=Tryz.func214.trans<|congrArg some ql
 f225:=Tryz.func213.trans<|congrArg some ql
 f266:=Tryz.func208.trans<|congrArg some ql
 f267:=Tryz.func215.trans<|congrArg some ql
 f314:=Tryz.func240.trans<|congrArg some ql
 t3:=Tryz.underlying3
 a3:=Tryz.isAgg3
 z3:=Tryz.sizeOf3
 v3:=Tryz.zeroValue3
 t4:=Tryz.underlying4
 a4:=Tryz.isAgg4
 z4:=Tryz.sizeOf4
 v4:=Tryz.zeroValue4
 t5:=Tryz.underlying5
 a5:=Tryz.isAgg5
 z5:=Tryz.sizeOf5
 v5:=Tryz.zeroValue5
 t9:=Tryz.underlying9
 a9:=Tryz.isAgg9
 z9:=Tryz.sizeOf9
 v9:=Tryz.zeroValue9
 t46:=Tryz.underlying224
 a46:=Tryz.isAgg224
 z46:=Tryz.sizeOf224
 v46:=Tryz.zeroValue224
 t51:=Tryz.underlying261
 a51:=Tryz.isAgg261
 z51:=Tryz.sizeOf261
 v51:=Tryz.zeroValue261
 t59:=Tryz.underlying184
 a59:=Tryz.isAgg184
 z59:=Tryz.sizeOf184
 v59:=Tryz.zeroValue184
 t146:=Tryz.underlying309
 a146:=Tryz.isAgg309
 z146:=Tryz.sizeOf309
 v146:=Tryz.zeroValue309
 g1:=by kernel_rfl
 i3:=by kernel_rfl
 i4:=by kernel_rfl
 i5:=by kernel_rfl
 i9:=by kernel_rfl
 i46:=by kernel_rfl
 i51:=by kernel_rfl
 i59:=by kernel_rfl
 i146:=by kernel_rfl
 m1:=by kernel_rfl
 s1_3:=λw h=>od (zero:=#[.int .i64 0]) (t:=3) h (lv ql) ql rfl ql ql Tryz.underlying3}
def Tryz.aR:Go.Shelf.Ren:=⟨fun | 137=>141 | 217=>176 | 266=>208 | n=>n,fun | 9=>9 | 5=>5 | 3=>3 | n=>n,fun | n=>n⟩
theorem Tryz.ay:Go.Proofs.Lays.n137 Tryz.prog Tryz.aR:={
 mixed:=by kernel_rfl
 f137:=Tryz.func141.trans<|congrArg some ql
 f217:=Tryz.func176.trans<|congrArg some ql
 f266:=Tryz.func208.trans<|congrArg some ql
 t3:=Tryz.underlying3
 a3:=Tryz.isAgg3
 z3:=Tryz.sizeOf3
 v3:=Tryz.zeroValue3
 t5:=Tryz.underlying5
 a5:=Tryz.isAgg5
 z5:=Tryz.sizeOf5
 v5:=Tryz.zeroValue5
 t9:=Tryz.underlying9
 a9:=Tryz.isAgg9
 z9:=Tryz.sizeOf9
 v9:=Tryz.zeroValue9}
structure X8(F:Fz):Prop where
 pow10:xu Tryz.prog F "internal/strconv.uint64pow10" Nu
 maxLen:∃m T fr,F.mem (Tryz.af.g 1)=some (.cells #[.int .i64 m] T fr)
theorem X8.mono{F a:Fz}(h:X8 F)(le:F<=a):X8 a:=⟨h.pow10.mono le,let⟨m,T,fr,e⟩:=h.maxLen;⟨m,T,fr,le.mem _ _ e⟩⟩
theorem cell_of{w:B1}{b:Nat}{v:K2}{T:A4}{fr:Nat×Nat}(h:w.heap[b]? =some (.cells #[v] T fr)):w.cell? ⟨b,0,none⟩=some v:=by simp[World.cell?,h]
theorem wj(s:Q0 DO):(bs s).size=s.length:=by simp[bs,ByteArray.size]
theorem SH.drewN{w:B1}{F:Fz}{H:HP}(h:SH w F H)(n:Nat):SH (w.drewN n) F H:=h.drew _
def UL(s:Q0 DO)(c:Int):Q2 Int:=some<|Go.Lib.indexByte s c.toNat.toUInt8
theorem AE(F0:Fz)(s:Q0 DO)(c:Int):Z9 Tryz.prog 141 [(.string<|bs s),(.int .u8 c)].toArray F0 (UL s c) (λr _ v=>v=(.int .i64 r)):=by
 intro r a w R b;unfold UL at a
 simp only[UV] at a
 refine(Go.Proofs.Any.strings_IndexByte {Tryz.ay with} (bs s) c w).mono ?_;rintro e w' ⟨rfl,rfl⟩;exact⟨F0,_,Fz.le_refl _,rfl,by rw[<-a];simp[bs],b⟩
def H9(s sep:Q0 DO):Q2 (Q0 DO×Q0 DO×Bool):=if s.length < 4294967281 then some (Go.Lib.cut s sep) else none
theorem LW(F0:Fz)(d:X8 F0)(s sep:Q0 DO):Z9 Tryz.prog 91 [(.string<|bs s),(.string<|bs sep)].toArray F0 (H9 s sep) (λr _ v=>v= .tuple #[(.string<|bs r.1),(.string<|bs r.2.1),(.bool r.2.2)]):=by
 intro r a w R c;unfold H9 at a
 split at a
 ·rename_i h;simp only[UV] at a
  obtain⟨m,T,fr,b⟩:=d.maxLen;refine(Go.Proofs.Any.strings_Cut {Tryz.nM with} (bs s) (bs sep) m w (by rw[wj];exact h)<|cell_of<|c.frozen b).mono ?_;rintro e w' ⟨rfl,n,rfl⟩;exact⟨F0,_,Fz.le_refl _,rfl,by rw[<-a];simp[bs],SH.drewN c n⟩
 ·cases a
def XU(i:Int):Q2 (Q0 DO):=if -9223372036854775808<=i/\i<=9223372036854775807 then some (Go.Lib.itoa i) else none
theorem Mj(F0:Fz)(d:X8 F0)(i:Int):Z9 Tryz.prog 89 [(.int .i64 i)].toArray F0 (XU i) (λr _ v=>v=(.string<|bs r)):=by
 intro r a w R c;unfold XU at a
 split at a
 ·rename_i h;simp only[UV] at a
  obtain⟨g,T,fr,f,j⟩:=d.pow10
  have b:Go.Lib.TabIs Tryz.prog w "internal/strconv.uint64pow10" .u64 Go.Lib.pow10Tab:=by
   have l:=c.frozen j;simp[Go.Lib.TabIs,World.var?,f,l,Nu]
  refine(Go.Proofs.Any.strconv_Itoa {Tryz.rS with} i h.1 h.2 w b).mono ?_;rintro e w' ⟨rfl,k,os,rfl⟩;exact⟨F0,_,Fz.le_refl _,rfl,by rw[<-a];rfl,c.below<|Go.Lib.below_grow _ _ (S2 _) k os⟩
 ·cases a
end
section
open Go.Dec Go.Shelf Go.RowKit Go.Maps Go.Sort
set_option maxRecDepth 100000
set_option maxHeartbeats 4000000
theorem gi:Tryz.prog.follows .mixedOrders=true:=by kernel_rfl
theorem wk:((Tryz.prog.info? 128).map (·.size))=some 2:=by kernel_rfl
theorem xH:liesAt Tryz.prog Tryz.prog.depth 128 (2 / Tryz.prog.cellsOf 128) 0 128 1=true:=by kernel_rfl
theorem uB(v:K2)(w:B1):(callFunc 144 #[v]).run Tryz.prog w= .ok (.value v) w:=by
 rw[run_callFunc_extern Tryz.func144 ql ql ql (e:=Extern.AbiNoEscape.same) ql];rfl
theorem zz:U1 Tryz.prog 5 1 (Ex<|KG .u8):=.ex (λ_=>rfl) (λ_=>rfl) Tryz.sizeOf5 ⟨_,Tryz.typeInfo5,by decide+kernel,by decide+kernel⟩ ⟨_,Tryz.zeroValue5,rfl⟩
theorem Rc(F0:Fz)(b:Nat)(s:Q0 DO):CT Tryz.prog 90 [vP b 0].toArray F0 (CP 128 5 b s) (some ()) (λ_ _ _=>True) (λ_ _ _=>CP 128 5 b s):=by
 obtain⟨f,a,d⟩:=mo.1 wk;refine CT.enter Tryz.func90 rfl Tryz.ntmps90 rfl λr R=> ?_;refine .seq<|.region<|.move rfl rfl<|.aX 0 rfl λp q cap e c=> ?_;refine .nilCheck rfl rfl<|.fieldAddr rfl Tryz.underlying128 rfl Tryz.sizeOf125 rfl<|.cF rfl Tryz.isAgg125 rfl (i:=0) rfl rfl<|.mF rfl Tryz.underlying125 rfl rfl<|.nil<|.code ?_;rcases e with rfl | rfl
 ·refine .sT rfl (.region<|.move rfl rfl<|.move rfl rfl<|.pV rfl Tryz.underlying125 Tryz.underlying226 a (by rw[d];decide) (i:=0) rfl zh rfl<|.rh rfl (uB _) rfl<|.th rfl Tryz.underlying226 Tryz.underlying125 a (i:=0) rfl xH rfl ?_);refine .nilCheck rfl rfl (.fieldAddr rfl Tryz.underlying128 rfl Tryz.sizeOf125 rfl<|.store (cs' :=[vP b 0,.slice q (XN s).length cap]) Tryz.sizeOf125 rfl rfl rfl rfl (i:=0) rfl zh rfl rfl<|.aL (s:=s) [0,0] (.inr rfl) (λ_=>c) rfl<|.nil ?_);exact .mG Tryz.results90 .nil (i:=0) (j:=0) rfl rfl (Fz.le_refl _) trivial
 ·refine .sH rfl<|.seq<|.region<|.move rfl rfl<|.nilCheck rfl rfl<|.fieldAddr rfl Tryz.underlying128 rfl Tryz.sizeOf125 rfl<|.cF rfl Tryz.isAgg125 rfl (i:=0) rfl rfl<|.move rfl rfl<|.nz rfl Tryz.underlying125 a rfl rfl<|.aL (s:=s) [0,0] (.inr rfl) (λ_=>c) rfl<|.nil<|.code<|.sH rfl<|.skip ?_;exact .mG Tryz.results90 .nil (i:=0) (j:=0) rfl rfl (Fz.le_refl _) trivial
def SP(s t:Q0 DO):Q2 (Q0 DO):=if s.length+t.length<=4294967296 then some (s++t) else none
theorem qu{s t z:Q0 DO}(h:SP s t=some z):YB (XN s) (XN t)=some (XN z):=by
 unfold SP at h
 split at h
 ·rename_i a;simp only[UV] at h
  subst h;unfold YB;rw[Bm (by rw[S4,S4];exact a),kJ]
 ·cases h
theorem jX{s t z:Q0 DO}(h:SP s t=some z):z=s++t:=by
 unfold SP at h
 split at h
 ·exact(PP h).symm
 ·cases h
theorem Ms(F0:Fz)(b:Nat)(s t:Q0 DO):CT Tryz.prog 38 [vP b 0,.string<|bs t].toArray F0 (CP 128 5 b s) ((SP s t).bind some) (λ_ _ _=>True) (λr _ _=>CP 128 5 b r):=by
 refine CT.enter Tryz.func38 rfl Tryz.ntmps38 rfl λr R=>.bind λz d=> ?_;have a:=qu d;refine .seq<|.region<|.assign rfl rfl<|.assign rfl rfl<|.nil<|.code<|.seq<|.region<|.move rfl rfl<|.tr rfl Tryz.call90 rfl rfl rfl (i:=0) rfl (Rc _ b s) λm _ f=> ?_;refine .nil<|.code<|.seq<|.region<|.move rfl rfl<|.move rfl rfl<|.aX 0 rfl λp q cap g h=> ?_;refine .nilCheck rfl rfl<|.fieldAddr rfl Tryz.underlying128 rfl Tryz.sizeOf126 rfl<|.cF rfl Tryz.isAgg126 rfl (i:=0) rfl rfl<|.move rfl rfl ?_;refine .rI a 1 zz (Fz.le_refl _) rfl Tryz.underlying126 Tryz.underlying9 rfl rfl rfl rfl rfl λp' cap' c=> ?_;refine .nilCheck rfl rfl (.fieldAddr rfl Tryz.underlying128 rfl Tryz.sizeOf126 rfl<|.store (cs' :=[.pointer p,.slice p' (XN z).length cap']) Tryz.sizeOf126 rfl rfl rfl rfl (i:=0) rfl zh rfl rfl ?_);refine .aL (s:=z) [0,0] g (λe=> ?_) rfl ?_
 ·subst e;obtain⟨k,l⟩:=c rfl;have:=jX d;subst k;subst l;exact h
 refine .nil<|.code<|.seq<|.region<|.move rfl rfl<|.cy rfl rfl Tryz.underlying9 rfl<|.assign rfl rfl<|.assign rfl rfl<|.nil<|.code ?_;exact .pa Tryz.results38 (.tmp rfl<|.tmp rfl .nil) (i:=0) (j:=0) rfl rfl f trivial
theorem IB(F0:Fz)(b:Nat)(s:Q0 DO)(c:DO):CT Tryz.prog 39 [vP b 0,.int .u8 c.toNat].toArray F0 (CP 128 5 b s) ((SP s [c]).bind some) (λ_ _ _=>True) (λr _ _=>CP 128 5 b r):=by
 refine CT.enter Tryz.func39 rfl Tryz.ntmps39 rfl λr R=>.bind λz f=> ?_;have a:=qu f;refine .seq<|.region<|.assign rfl rfl<|.nil<|.code<|.seq<|.region<|.move rfl rfl<|.tr rfl Tryz.call90 rfl rfl rfl (i:=0) rfl (Rc _ b s) λn _ g=> ?_;refine .nil<|.code<|.seq<|.region<|.move rfl rfl<|.move rfl rfl<|.aX 0 rfl λp q cap h o=> ?_;refine .nilCheck rfl rfl<|.fieldAddr rfl Tryz.underlying128 rfl Tryz.sizeOf126 rfl<|.cF rfl Tryz.isAgg126 rfl (i:=0) rfl rfl<|.move rfl rfl ?_;refine .ca (cs:=[.int .u8 c.toNat]) (zc:=[.int .u8 0]) rfl Tryz.underlying126 Tryz.sizeOf5 Tryz.zeroValue5 rfl rfl rfl ql j8 λk l l2 d=> ?_;have m:QG 1 (Ex<|KG .u8) l (some ⟨k,0,none⟩) 1 (XN [c]):=QG.ofRow d (.cons zz.mono rfl .nil) rfl rfl;refine .aZ a 1 zz l2 rfl Tryz.underlying126 Tryz.underlying126 rfl rfl rfl m rfl rfl λp' cap' => ?_;refine .nilCheck rfl rfl (.fieldAddr rfl Tryz.underlying128 rfl Tryz.sizeOf126 rfl<|.store (cs' :=[.pointer p,.slice p' (XN z).length cap']) Tryz.sizeOf126 rfl rfl rfl rfl (i:=0) rfl zh rfl rfl ?_);refine .aL (s:=z) [0,0] h (λe=> ?_) rfl ?_
 ·have:=jX f;rw[e] at this
  simp at this
 refine .nil<|.code<|.seq<|.region<|.assign rfl rfl<|.nil<|.code ?_;exact .pa Tryz.results39 (.tmp rfl .nil) (i:=0) (j:=0) rfl rfl (Fz.le_trans g l2) trivial
theorem qw(F0:Fz)(b:Nat)(s:Q0 DO):CT Tryz.prog 40 [vP b 0].toArray F0 (CP 128 5 b s) (some s) (λr _ v=>v= .string (bs r)) (λ_ _ _=>Aa):=by
 refine CT.enter Tryz.func40 rfl Tryz.ntmps40 rfl λr R=> ?_;refine .seq<|.region<|.assign rfl rfl<|.nil<|.code<|.seq<|.aX 0 rfl λp q cap c a=> ?_;refine .cV 10 gi ql<|.move rfl rfl<|.nilCheck rfl rfl<|.fieldAddr rfl Tryz.underlying128 rfl Tryz.sizeOf126 rfl<|.cF rfl Tryz.isAgg126 rfl (i:=0) rfl rfl<|.pM a rfl rfl<|.move rfl rfl<|.nilCheck rfl rfl<|.fieldAddr rfl Tryz.underlying128 rfl Tryz.sizeOf126 rfl<|.cF rfl Tryz.isAgg126 rfl (i:=0) rfl rfl<|.cq rfl rfl Tryz.underlying126 rfl<|.cn ?_;refine .pJ 1 rfl Tryz.underlying183 ql rfl rfl rfl rfl<|.assign rfl rfl<|.nil<|.code<|.nN ?_;exact .pa Tryz.results40 (.tmp rfl .nil) (i:=0) (j:=1) rfl rfl (Fz.le_refl _) rfl
theorem qx{α:Type}(x:Q2 α):x.bind some=x:=by cases x<;>rfl
theorem GD(F0:Fz)(b:Nat)(s t:Q0 DO):CT Tryz.prog 38 [vP b 0,.string<|bs t].toArray F0 (CP 128 5 b s) (SP s t) (λ_ _ _=>True) (λr _ _=>CP 128 5 b r):=qx (SP s t)▸Ms F0 b s t
theorem Sg(F0:Fz)(b:Nat)(s:Q0 DO)(c:DO):CT Tryz.prog 39 [vP b 0,.int .u8 c.toNat].toArray F0 (CP 128 5 b s) (SP s [c]) (λ_ _ _=>True) (λr _ _=>CP 128 5 b r):=qx (SP s [c])▸IB F0 b s c
def Xg(l:Q0 Int)(s:Int×Q0 DO):Q2 (UP (Int×Q0 DO)<|Q0 DO):=if decide (s.1 < (l.length:Int)) then(ZW l s.1).bind λx=>(SP s.2 [32]).bind λt=>(XU x).bind λu=>(SP t u).bind λz=>some (.next (Qz<|s.1+1,z)) else some<|.done s.2
def Jj(word:Q0 DO)(l:Q0 Int):Q2 (Q0 DO):=(SP [] word).bind λs=>(ZT (Xg l) (0,s)).bind λz=>some z
theorem Wl(F0:Fz)(y:X8 F0)(word:Q0 DO)(l:Q0 Int)(p:Q2 C3)(k:Nat)(h:QG 1 (Ex<|KG .i64) F0 p k l):Z9 Tryz.prog 37 [.string<|bs word,vS p l k].toArray F0 (Jj word l) (λr _ v=>v= .string (bs r)):=by
 refine Z9.enter Tryz.func37 rfl Tryz.ntmps37 rfl λr R=> ?_;unfold Jj;refine .seq<|.region<|.assign rfl rfl<|.nil<|.code<|.seq<|.region<|.alloc (cs:=[.pointer none,.slice none 0 0]) rfl Tryz.zeroValue128 rfl λb=>.rG 0 5 rfl<|.nil<|.code ?_;refine .seq<|.region<|.move rfl rfl<|.sr rfl Tryz.call38 rfl rfl rfl (i:=0) rfl (GD _ b [] word) λs f v _ j _=> ?_;refine .nil<|.code<|.seq<|.seq<|.region<|.move rfl rfl<|.cq rfl rfl Tryz.underlying32 rfl<|.move rfl rfl<|.nil<|.code<|.block ?_;refine .loop (fun(s:Int×Q0 DO) a w=>∃c,f<=c/\Hd 22 [] [(5,vP b 0),(10,vS p l k),(11,vI l.length),(12,vI s.1)] c [CP 128 5 b s.2,R] a w) (fun(o:Q0 DO) e a w=>e= .exit 0/\∃c,f<=c/\Hd 22 [] [(5,vP b 0)] c [CP 128 5 b o,R] a w) ?_ ?_ ?_
 ·exact λa w h=>⟨f,Fz.le_refl _,h.1.sub<|.k rfl,h.2⟩
 ·rintro⟨i,s⟩ A;refine GG.ex λa w ⟨c,l2,m⟩=>⟨_,m,?_⟩;unfold Xg;refine .seq<|.region<|.lss rfl rfl rfl<|.nil<|.code<|.seq<|.cond rfl (λB=> ?_) λB=> ?_
  ·refine .skip<|.code<|.seq<|.block<|.seq<|.region ?_;refine .idx rfl Tryz.underlying32 Tryz.sizeOf3 (h.mono<|Fz.le_trans j l2) rfl rfl λx N P Q C D S n q=> ?_;refine .U rfl Tryz.isAgg3 rfl n (QI (k:=0) q rfl)<|.assign rfl rfl<|.nil<|.code<|.seq<|.region ?_;refine .sr rfl Tryz.call39 rfl rfl rfl (i:=0) rfl (Sg _ b s 32) λt E F _ d _=> ?_;refine .nil<|.code<|.region<|.move rfl rfl<|.cP rfl Tryz.call89 rfl rfl rfl (Mj _ (y.mono<|Fz.le_trans j<|Fz.le_trans l2 d) x) ?_;rintro u T _ - G rfl;refine .sr rfl Tryz.call38 rfl rfl rfl (i:=0) rfl (GD _ b t u) λz H V _ I _=> ?_;refine .nil<|.block<|.code<|.region<|.add rfl rfl rfl<|.move rfl rfl<|.nil ?_;exact .cN<|Q5.norm λa w h=>⟨H,Fz.le_trans l2<|Fz.le_trans d<|Fz.le_trans G I,h.1.sub<|.k rfl,h.2⟩
  ·exact .cR rfl<|Q5.exit λa w h=>⟨rfl,c,l2,h.1.sub<|.k rfl,h.2⟩
 ·intro o K L e a w M;obtain⟨rfl,c,l2,m⟩:=M;refine Q9 rfl<|GG.app ?_ L a w m;refine .code<|.seq<|.region<|.sr (e:=some o) (g:=some) rfl Tryz.call40 rfl rfl rfl (i:=0) rfl (qw _ b o) ?_;rintro o' E F W d rfl;refine .assign rfl rfl<|.nil<|.code ?_;exact .cK Tryz.results37 (.tmp rfl .nil) (i:=1) rfl (Fz.le_trans j<|Fz.le_trans l2 d) rfl
end
end Go.Proofs.YtbjgigfhnlnbfaaGreatDoor
end
