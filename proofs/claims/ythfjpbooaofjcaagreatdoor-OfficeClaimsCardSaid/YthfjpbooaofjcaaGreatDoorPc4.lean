/- For OfficeClaims. -/
import Derived.Test.YthfjpbooaofjcaaGreatDoorPc3
import Derived.Test.YthfjpbooaofjcaaGreatDoorProg
import Derived.Shelf.Strconv.Itoa3
import Derived.Shelf.Strings.Cut
import Derived.Shelf.Small.Strs
import Derived.Shelf.Lay
import Derived.Ground.NamesProg
noncomputable section
namespace Go.Dec
abbrev lv:=@of_decide_eq_true
abbrev qAy:=@Go.Proofs.cell_of_shapedOpen_int
end Go.Dec
namespace Go.Proofs.YthfjpbooaofjcaaGreatDoor
section
open Go.Dec Go.Shelf Go.RowKit Go.Maps Go.Sort
def Tryz.pC:Go.Shelf.Ren:=⟨fun | 171=>60 | 243=>84 | 246=>107 | 283=>142 | 284=>143 | 285=>144 | 286=>145 | 129=>195 | 317=>194 | 318=>196 | 319=>197 | 320=>198 | 337=>228 | 338=>229 | n=>n,fun | 3=>3 | 9=>9 | 2=>2 | 4=>4 | 171=>256 | 0=>0 | 53=>257 | 37=>23 | 5=>5 | 173=>260 | 212=>282 | 51=>283 | 20=>20 | 213=>284 | 46=>263 | 232=>314 | 233=>315 | n=>n,fun | 17=>1 | 18=>2 | 19=>3 | n=>n⟩
theorem Tryz.nD:Go.Proofs.LaysM.n171 Tryz.prog Tryz.pC:={
 mixed:=by kernel_rfl
 f129:=Tryz.func195.trans<|congrArg some x0
 f171:=Tryz.func60.trans<|congrArg some x0
 f243:=Tryz.func84.trans<|congrArg some x0
 f246:=Tryz.func107.trans<|congrArg some x0
 f283:=Tryz.func142.trans<|congrArg some x0
 f284:=Tryz.func143.trans<|congrArg some x0
 f285:=Tryz.func144.trans<|congrArg some x0
 f286:=Tryz.func145.trans<|congrArg some x0
 f317:=Tryz.func194.trans<|congrArg some x0
 f318:=Tryz.func196.trans<|congrArg some x0
 f319:=Tryz.func197.trans<|congrArg some x0
 f320:=Tryz.func198.trans<|congrArg some x0
 f337:=Tryz.func228.trans<|congrArg some x0
 f338:=Tryz.func229.trans<|congrArg some x0
 t0:=Tryz.underlying0
 a0:=Tryz.isAgg0
 z0:=Tryz.sizeOf0
 v0:=Tryz.zeroValue0
 t2:=Tryz.underlying2
 a2:=Tryz.isAgg2
 z2:=Tryz.sizeOf2
 v2:=Tryz.zeroValue2
 t3:=Tryz.underlying3
 a3:=Tryz.isAgg3
 z3:=Tryz.sizeOf3
 v3:=Tryz.zeroValue3
 t4:=Tryz.underlying4
 a4:=Tryz.isAgg4
 z4:=Tryz.sizeOf4
 v4:=Tryz.zeroValue4
 t5:=Tryz.underlying5
 a5:=Tryz.isAgg5
 z5:=Tryz.sizeOf5
 v5:=Tryz.zeroValue5
 t9:=Tryz.underlying9
 a9:=Tryz.isAgg9
 z9:=Tryz.sizeOf9
 v9:=Tryz.zeroValue9
 t20:=Tryz.underlying20
 a20:=Tryz.isAgg20
 z20:=Tryz.sizeOf20
 v20:=Tryz.zeroValue20
 t37:=Tryz.underlying23
 a37:=Tryz.isAgg23
 z37:=Tryz.sizeOf23
 v37:=Tryz.zeroValue23
 t46:=Tryz.underlying263
 a46:=Tryz.isAgg263
 z46:=Tryz.sizeOf263
 v46:=Tryz.zeroValue263
 t51:=Tryz.underlying283
 a51:=Tryz.isAgg283
 z51:=Tryz.sizeOf283
 v51:=Tryz.zeroValue283
 t53:=Tryz.underlying257
 a53:=Tryz.isAgg257
 z53:=Tryz.sizeOf257
 v53:=Tryz.zeroValue257
 t171:=Tryz.underlying256
 a171:=Tryz.isAgg256
 z171:=Tryz.sizeOf256
 v171:=Tryz.zeroValue256
 t173:=Tryz.underlying260
 a173:=Tryz.isAgg260
 z173:=Tryz.sizeOf260
 v173:=Tryz.zeroValue260
 t212:=Tryz.underlying282
 a212:=Tryz.isAgg282
 z212:=Tryz.sizeOf282
 v212:=Tryz.zeroValue282
 t213:=Tryz.underlying284
 a213:=Tryz.isAgg284
 z213:=Tryz.sizeOf284
 t232:=Tryz.underlying314
 a232:=Tryz.isAgg314
 z232:=Tryz.sizeOf314
 v232:=Tryz.zeroValue314
 t233:=Tryz.underlying315
 a233:=Tryz.isAgg315
 z233:=Tryz.sizeOf315
 v233:=Tryz.zeroValue315
 g17:=by kernel_rfl
 g18:=by kernel_rfl
 g19:=by kernel_rfl
 i0:=by kernel_rfl
 i2:=by kernel_rfl
 i3:=by kernel_rfl
 i4:=by kernel_rfl
 i5:=by kernel_rfl
 i9:=by kernel_rfl
 i20:=by kernel_rfl
 i37:=by kernel_rfl
 i46:=by kernel_rfl
 i51:=by kernel_rfl
 i53:=by kernel_rfl
 i171:=by kernel_rfl
 i173:=by kernel_rfl
 i212:=by kernel_rfl
 i232:=by kernel_rfl
 i233:=by kernel_rfl
 m17:=by kernel_rfl
 m18:=by kernel_rfl
 m19:=by kernel_rfl}
def Tryz.tI:Go.Shelf.Ren:=⟨fun | 145=>62 | 220=>86 | 219=>108 | 217=>106 | 225=>146 | 224=>147 | 267=>148 | 266=>141 | 314=>199 | n=>n,fun | 9=>9 | 4=>4 | 59=>127 | 3=>3 | 5=>5 | 46=>263 | 146=>285 | 51=>283 | n=>n,fun | 1=>0 | n=>n⟩
theorem Tryz.nv:Go.Proofs.LaysM.n145 Tryz.prog Tryz.tI:={
 mixed:=by kernel_rfl
 f145:=Tryz.func62.trans<|congrArg some x0
 f217:=Tryz.func106.trans<|congrArg some x0
 f219:=Tryz.func108.trans<|congrArg some x0
 f220:=Tryz.func86.trans<|congrArg some x0
 f224:=Tryz.func147.trans<|congrArg some x0
 f225:=Tryz.func146.trans<|congrArg some x0
 f266:=Tryz.func141.trans<|congrArg some x0
 f267:=Tryz.func148.trans<|congrArg some x0
 f314:=Tryz.func199.trans<|congrArg some x0
 t3:=Tryz.underlying3
 a3:=Tryz.isAgg3
 z3:=Tryz.sizeOf3
 v3:=Tryz.zeroValue3
 t4:=Tryz.underlying4
 a4:=Tryz.isAgg4
 z4:=Tryz.sizeOf4
 v4:=Tryz.zeroValue4
 t5:=Tryz.underlying5
 a5:=Tryz.isAgg5
 z5:=Tryz.sizeOf5
 v5:=Tryz.zeroValue5
 t9:=Tryz.underlying9
 a9:=Tryz.isAgg9
 z9:=Tryz.sizeOf9
 v9:=Tryz.zeroValue9
 t46:=Tryz.underlying263
 a46:=Tryz.isAgg263
 z46:=Tryz.sizeOf263
 v46:=Tryz.zeroValue263
 t51:=Tryz.underlying283
 a51:=Tryz.isAgg283
 z51:=Tryz.sizeOf283
 v51:=Tryz.zeroValue283
 t59:=Tryz.underlying127
 a59:=Tryz.isAgg127
 z59:=Tryz.sizeOf127
 v59:=Tryz.zeroValue127
 t146:=Tryz.underlying285
 a146:=Tryz.isAgg285
 z146:=Tryz.sizeOf285
 v146:=Tryz.zeroValue285
 g1:=by kernel_rfl
 i3:=by kernel_rfl
 i4:=by kernel_rfl
 i5:=by kernel_rfl
 i9:=by kernel_rfl
 i46:=by kernel_rfl
 i51:=by kernel_rfl
 i59:=by kernel_rfl
 i146:=by kernel_rfl
 m1:=by kernel_rfl
 s1_3:=λw h=>qAy (zero:=#[.int .i64 0]) (t:=3) h (lv x0) x0 rfl x0 x0 Tryz.underlying3}
def Tryz.ax:Go.Shelf.Ren:=⟨fun | 137=>82 | 217=>106 | 266=>141 | n=>n,fun | 9=>9 | 5=>5 | 3=>3 | n=>n,fun | n=>n⟩
theorem Tryz.tW:Go.Proofs.Lays.n137 Tryz.prog Tryz.ax:={
 mixed:=by kernel_rfl
 f137:=Tryz.func82.trans<|congrArg some x0
 f217:=Tryz.func106.trans<|congrArg some x0
 f266:=Tryz.func141.trans<|congrArg some x0
 t3:=Tryz.underlying3
 a3:=Tryz.isAgg3
 z3:=Tryz.sizeOf3
 v3:=Tryz.zeroValue3
 t5:=Tryz.underlying5
 a5:=Tryz.isAgg5
 z5:=Tryz.sizeOf5
 v5:=Tryz.zeroValue5
 t9:=Tryz.underlying9
 a9:=Tryz.isAgg9
 z9:=Tryz.sizeOf9
 v9:=Tryz.zeroValue9}
structure HJ(F:Fz):Prop where
 pow10:gB Tryz.prog F "internal/strconv.uint64pow10" MD
 maxLen:∃m T fr,F.mem (Tryz.tI.g 1)=some (.cells #[.int .i64 m] T fr)
theorem HJ.mono{F a:Fz}(h:HJ F)(le:F<=a):HJ a:=⟨h.pow10.mono le,let⟨m,T,fr,e⟩:=h.maxLen;⟨m,T,fr,le.mem _ _ e⟩⟩
theorem cell_of{w:By}{b:Nat}{v:K2}{T:S2}{fr:Nat×Nat}(h:w.heap[b]? =some (.cells #[v] T fr)):w.cell? ⟨b,0,none⟩=some v:=by simp[World.cell?,h]
theorem w5(s:Q0 H1):(bs s).size=s.length:=by simp[bs,ByteArray.size]
theorem SH.drewN{w:By}{F:Fz}{H:HP}(h:SH w F H)(n:Nat):SH (w.drewN n) F H:=h.drew _
def US(s:Q0 H1)(c:Int):Q2 Int:=some<|Go.Lib.indexByte s c.toNat.toUInt8
theorem AZ(F0:Fz)(s:Q0 H1)(c:Int):KO Tryz.prog 82 [(.string<|bs s),(.int .u8 c)].toArray F0 (US s c) (λr _ v=>v=(.int .i64 r)):=by
 intro r a w R b;unfold US at a
 simp only[UV] at a
 refine(Go.Proofs.Any.strings_IndexByte {Tryz.tW with} (bs s) c w).mono ?_;rintro e w' ⟨rfl,rfl⟩;exact⟨F0,_,Fz.le_refl _,rfl,by rw[<-a];simp[bs],b⟩
def GU(s sep:Q0 H1):Q2 (Q0 H1×Q0 H1×Bool):=if s.length < 4294967281 then some (Go.Lib.cut s sep) else none
theorem Lg(F0:Fz)(d:HJ F0)(s sep:Q0 H1):KO Tryz.prog 62 [(.string<|bs s),(.string<|bs sep)].toArray F0 (GU s sep) (λr _ v=>v= .tuple #[(.string<|bs r.1),(.string<|bs r.2.1),(.bool r.2.2)]):=by
 intro r a w R c;unfold GU at a
 split at a
 .rename_i h;simp only[UV] at a
  obtain⟨m,T,fr,b⟩:=d.maxLen;refine(Go.Proofs.Any.strings_Cut {Tryz.nv with} (bs s) (bs sep) m w (by rw[w5];exact h)<|cell_of<|c.frozen b).mono ?_;rintro e w' ⟨rfl,n,rfl⟩;exact⟨F0,_,Fz.le_refl _,rfl,by rw[<-a];simp[bs],SH.drewN c n⟩
 .cases a
def XY(i:Int):Q2 (Q0 H1):=if -9223372036854775808<=i/\i<=9223372036854775807 then some (Go.Lib.itoa i) else none
theorem Mv(F0:Fz)(d:HJ F0)(i:Int):KO Tryz.prog 60 [(.int .i64 i)].toArray F0 (XY i) (λr _ v=>v=(.string<|bs r)):=by
 intro r a w R c;unfold XY at a
 split at a
 .rename_i h;simp only[UV] at a
  obtain⟨g,T,fr,f,j⟩:=d.pow10
  have b:Go.Lib.TabIs Tryz.prog w "internal/strconv.uint64pow10" .u64 Go.Lib.pow10Tab:=by
   have l:=c.frozen j;simp[Go.Lib.TabIs,World.var?,f,l,MD]
  refine(Go.Proofs.Any.strconv_Itoa {Tryz.nD with} i h.1 h.2 w b).mono ?_;rintro e w' ⟨rfl,k,os,rfl⟩;exact⟨F0,_,Fz.le_refl _,rfl,by rw[<-a];rfl,c.below<|Go.Lib.below_grow _ _ (So _) k os⟩
 .cases a
end
section
open Go.Dec Go.Shelf Go.RowKit Go.Maps Go.Sort
set_option maxRecDepth 100000
set_option maxHeartbeats 4000000
theorem fI:Tryz.prog.follows .mixedOrders=true:=by kernel_rfl
theorem w6:((Tryz.prog.info? 95).map (·.size))=some 2:=by kernel_rfl
theorem xQ:liesAt Tryz.prog Tryz.prog.depth 95 (2 / Tryz.prog.cellsOf 95) 0 95 1=true:=by kernel_rfl
theorem uU(v:K2)(w:By):(callFunc 85 #[v]).run Tryz.prog w= .ok (.value v) w:=by
 rw[run_callFunc_extern Tryz.func85 x0 x0 x0 (e:=Extern.AbiNoEscape.same) x0];rfl
theorem kI:Uo Tryz.prog 5 1 (Ex<|Zy .u8):=.ex (λ_=>rfl) (λ_=>rfl) Tryz.sizeOf5 ⟨_,Tryz.typeInfo5,by decide+kernel,by decide+kernel⟩ ⟨_,Tryz.zeroValue5,rfl⟩
theorem R6(F0:Fz)(b:Nat)(s:Q0 H1):CT Tryz.prog 61 [vP b 0].toArray F0 (Ch 95 5 b s) (some ()) (λ_ _ _=>True) (λ_ _ _=>Ch 95 5 b s):=by
 obtain⟨f,a,d⟩:=lW.1 w6;refine CT.enter Tryz.func61 rfl Tryz.ntmps61 rfl λr R=> ?_;refine .seq<|.region<|.move rfl rfl<|.tC 0 rfl λp q cap e c=> ?_;refine .nilCheck rfl rfl<|.fieldAddr rfl Tryz.underlying95 rfl Tryz.sizeOf93 rfl<|.ca rfl Tryz.isAgg93 rfl (i:=0) rfl rfl<|.mc rfl Tryz.underlying93 rfl rfl<|.nil<|.code ?_;rcases e with rfl | rfl
 .refine .aC rfl (.region<|.move rfl rfl<|.move rfl rfl<|.rG rfl Tryz.underlying93 Tryz.underlying169 a (by rw[d];decide) (i:=0) rfl ic rfl<|.nN rfl (uU _) rfl<|.pR rfl Tryz.underlying169 Tryz.underlying93 a (i:=0) rfl xQ rfl ?_);refine .nilCheck rfl rfl (.fieldAddr rfl Tryz.underlying95 rfl Tryz.sizeOf93 rfl<|.store (cs' :=[vP b 0,.slice q (XQ s).length cap]) Tryz.sizeOf93 rfl rfl rfl rfl (i:=0) rfl ic rfl rfl<|.ao (s:=s) [0,0] (.inr rfl) (λ_=>c) rfl<|.nil ?_);exact .me Tryz.results61 .nil (i:=0) (j:=0) rfl rfl (Fz.le_refl _) trivial
 .refine .su rfl<|.seq<|.region<|.move rfl rfl<|.nilCheck rfl rfl<|.fieldAddr rfl Tryz.underlying95 rfl Tryz.sizeOf93 rfl<|.ca rfl Tryz.isAgg93 rfl (i:=0) rfl rfl<|.move rfl rfl<|.mV rfl Tryz.underlying93 a rfl rfl<|.ao (s:=s) [0,0] (.inr rfl) (λ_=>c) rfl<|.nil<|.code<|.su rfl<|.skip ?_;exact .me Tryz.results61 .nil (i:=0) (j:=0) rfl rfl (Fz.le_refl _) trivial
def Sf(s t:Q0 H1):Q2 (Q0 H1):=if s.length+t.length<=4294967296 then some (s++t) else none
theorem zH{s t z:Q0 H1}(h:Sf s t=some z):Y1 (XQ s) (XQ t)=some (XQ z):=by
 unfold Sf at h
 split at h
 .rename_i a;simp only[UV] at h
  subst h;unfold Y1;rw[DO (by rw[AL,AL];exact a),kV]
 .cases h
theorem jq{s t z:Q0 H1}(h:Sf s t=some z):z=s++t:=by
 unfold Sf at h
 split at h
 .exact(Tc h).symm
 .cases h
theorem M4(F0:Fz)(b:Nat)(s t:Q0 H1):CT Tryz.prog 27 [vP b 0,.string<|bs t].toArray F0 (Ch 95 5 b s) ((Sf s t).bind some) (λ_ _ _=>True) (λr _ _=>Ch 95 5 b r):=by
 refine CT.enter Tryz.func27 rfl Tryz.ntmps27 rfl λr R=>.bind λz d=> ?_;have a:=zH d;refine .seq<|.region<|.assign rfl rfl<|.assign rfl rfl<|.nil<|.code<|.seq<|.region<|.move rfl rfl<|.pW rfl Tryz.call61 rfl rfl rfl (i:=0) rfl (R6 _ b s) λm _ f=> ?_;refine .nil<|.code<|.seq<|.region<|.move rfl rfl<|.move rfl rfl<|.tC 0 rfl λp q cap g h=> ?_;refine .nilCheck rfl rfl<|.fieldAddr rfl Tryz.underlying95 rfl Tryz.sizeOf23 rfl<|.ca rfl Tryz.isAgg23 rfl (i:=0) rfl rfl<|.move rfl rfl ?_;refine .rn a 1 kI (Fz.le_refl _) rfl Tryz.underlying23 Tryz.underlying9 rfl rfl rfl rfl rfl λp' cap' c=> ?_;refine .nilCheck rfl rfl (.fieldAddr rfl Tryz.underlying95 rfl Tryz.sizeOf23 rfl<|.store (cs' :=[.pointer p,.slice p' (XQ z).length cap']) Tryz.sizeOf23 rfl rfl rfl rfl (i:=0) rfl ic rfl rfl ?_);refine .ao (s:=z) [0,0] g (λe=> ?_) rfl ?_
 .subst e;obtain⟨k,l⟩:=c rfl;have:=jq d;subst k;subst l;exact h
 refine .nil<|.code<|.seq<|.region<|.move rfl rfl<|.sZ rfl rfl Tryz.underlying9 rfl<|.assign rfl rfl<|.assign rfl rfl<|.nil<|.code ?_;exact .rK Tryz.results27 (.tmp rfl<|.tmp rfl .nil) (i:=0) (j:=0) rfl rfl f trivial
theorem IT(F0:Fz)(b:Nat)(s:Q0 H1)(c:H1):CT Tryz.prog 28 [vP b 0,.int .u8 c.toNat].toArray F0 (Ch 95 5 b s) ((Sf s [c]).bind some) (λ_ _ _=>True) (λr _ _=>Ch 95 5 b r):=by
 refine CT.enter Tryz.func28 rfl Tryz.ntmps28 rfl λr R=>.bind λz f=> ?_;have a:=zH f;refine .seq<|.region<|.assign rfl rfl<|.nil<|.code<|.seq<|.region<|.move rfl rfl<|.pW rfl Tryz.call61 rfl rfl rfl (i:=0) rfl (R6 _ b s) λn _ g=> ?_;refine .nil<|.code<|.seq<|.region<|.move rfl rfl<|.move rfl rfl<|.tC 0 rfl λp q cap h o=> ?_;refine .nilCheck rfl rfl<|.fieldAddr rfl Tryz.underlying95 rfl Tryz.sizeOf23 rfl<|.ca rfl Tryz.isAgg23 rfl (i:=0) rfl rfl<|.move rfl rfl ?_;refine .sC (cs:=[.int .u8 c.toNat]) (zc:=[.int .u8 0]) rfl Tryz.underlying23 Tryz.sizeOf5 Tryz.zeroValue5 rfl rfl rfl x0 ij λk l l2 d=> ?_;have m:QI 1 (Ex<|Zy .u8) l (some ⟨k,0,none⟩) 1 (XQ [c]):=QI.ofRow d (.cons kI.mono rfl .nil) rfl rfl;refine .au a 1 kI l2 rfl Tryz.underlying23 Tryz.underlying23 rfl rfl rfl m rfl rfl λp' cap' => ?_;refine .nilCheck rfl rfl (.fieldAddr rfl Tryz.underlying95 rfl Tryz.sizeOf23 rfl<|.store (cs' :=[.pointer p,.slice p' (XQ z).length cap']) Tryz.sizeOf23 rfl rfl rfl rfl (i:=0) rfl ic rfl rfl ?_);refine .ao (s:=z) [0,0] h (λe=> ?_) rfl ?_
 .have:=jq f;rw[e] at this
  simp at this
 refine .nil<|.code<|.seq<|.region<|.assign rfl rfl<|.nil<|.code ?_;exact .rK Tryz.results28 (.tmp rfl .nil) (i:=0) (j:=0) rfl rfl (Fz.le_trans g l2) trivial
theorem zJ(F0:Fz)(b:Nat)(s:Q0 H1):CT Tryz.prog 29 [vP b 0].toArray F0 (Ch 95 5 b s) (some s) (λr _ v=>v= .string (bs r)) (λ_ _ _=>AX):=by
 refine CT.enter Tryz.func29 rfl Tryz.ntmps29 rfl λr R=> ?_;refine .seq<|.region<|.assign rfl rfl<|.nil<|.code<|.seq<|.tC 0 rfl λp q cap c a=> ?_;refine .cz 10 fI x0<|.move rfl rfl<|.nilCheck rfl rfl<|.fieldAddr rfl Tryz.underlying95 rfl Tryz.sizeOf23 rfl<|.ca rfl Tryz.isAgg23 rfl (i:=0) rfl rfl<|.px a rfl rfl<|.move rfl rfl<|.nilCheck rfl rfl<|.fieldAddr rfl Tryz.underlying95 rfl Tryz.sizeOf23 rfl<|.ca rfl Tryz.isAgg23 rfl (i:=0) rfl rfl<|.sO rfl rfl Tryz.underlying23 rfl<|.sI ?_;refine .pq 1 rfl Tryz.underlying126 x0 rfl rfl rfl rfl<|.assign rfl rfl<|.nil<|.code<|.nw ?_;exact .rK Tryz.results29 (.tmp rfl .nil) (i:=0) (j:=1) rfl rfl (Fz.le_refl _) rfl
theorem zK{α:Type}(x:Q2 α):x.bind some=x:=by cases x<;>rfl
theorem GW(F0:Fz)(b:Nat)(s t:Q0 H1):CT Tryz.prog 27 [vP b 0,.string<|bs t].toArray F0 (Ch 95 5 b s) (Sf s t) (λ_ _ _=>True) (λr _ _=>Ch 95 5 b r):=zK (Sf s t)▸M4 F0 b s t
theorem Sy(F0:Fz)(b:Nat)(s:Q0 H1)(c:H1):CT Tryz.prog 28 [vP b 0,.int .u8 c.toNat].toArray F0 (Ch 95 5 b s) (Sf s [c]) (λ_ _ _=>True) (λr _ _=>Ch 95 5 b r):=zK (Sf s [c])▸IT F0 b s c
def Xn(l:Q0 Int)(s:Int×Q0 H1):Q2 (UN (Int×Q0 H1)<|Q0 H1):=if decide (s.1 < (l.length:Int)) then(ZI l s.1).bind λx=>(Sf s.2 [32]).bind λt=>(XY x).bind λu=>(Sf t u).bind λz=>some (.next (Qy<|s.1+1,z)) else some<|.done s.2
def Jo(word:Q0 H1)(l:Q0 Int):Q2 (Q0 H1):=(Sf [] word).bind λs=>(ZV (Xn l) (0,s)).bind λz=>some z
theorem Wn(F0:Fz)(y:HJ F0)(word:Q0 H1)(l:Q0 Int)(p:Q2 C1)(k:Nat)(h:QI 1 (Ex<|Zy .i64) F0 p k l):KO Tryz.prog 26 [.string<|bs word,vS p l k].toArray F0 (Jo word l) (λr _ v=>v= .string (bs r)):=by
 refine KO.enter Tryz.func26 rfl Tryz.ntmps26 rfl λr R=> ?_;unfold Jo;refine .seq<|.region<|.assign rfl rfl<|.nil<|.code<|.seq<|.region<|.alloc (cs:=[.pointer none,.slice none 0 0]) rfl Tryz.zeroValue95 rfl λb=>.rl 0 5 rfl<|.nil<|.code ?_;refine .seq<|.region<|.move rfl rfl<|.aU rfl Tryz.call27 rfl rfl rfl (i:=0) rfl (GW _ b [] word) λs f v _ j _=> ?_;refine .nil<|.code<|.seq<|.seq<|.region<|.move rfl rfl<|.sO rfl rfl Tryz.underlying34 rfl<|.move rfl rfl<|.nil<|.code<|.block ?_;refine .loop (fun(s:Int×Q0 H1) a w=>∃c,f<=c/\Hd 22 [] [(5,vP b 0),(10,vS p l k),(11,vI l.length),(12,vI s.1)] c [Ch 95 5 b s.2,R] a w) (fun(o:Q0 H1) e a w=>e= .exit 0/\∃c,f<=c/\Hd 22 [] [(5,vP b 0)] c [Ch 95 5 b o,R] a w) ?_ ?_ ?_
 .exact λa w h=>⟨f,Fz.le_refl _,h.1.sub<|.k rfl,h.2⟩
 .rintro⟨i,s⟩ A;refine GG.ex λa w ⟨c,l2,m⟩=>⟨_,m,?_⟩;unfold Xn;refine .seq<|.region<|.lss rfl rfl rfl<|.nil<|.code<|.seq<|.cond rfl (λB=> ?_) λB=> ?_
  .refine .skip<|.code<|.seq<|.block<|.seq<|.region ?_;refine .idx rfl Tryz.underlying34 Tryz.sizeOf3 (h.mono<|Fz.le_trans j l2) rfl rfl λx N P Q C D S n q=> ?_;refine .U rfl Tryz.isAgg3 rfl n (QF (k:=0) q rfl)<|.assign rfl rfl<|.nil<|.code<|.seq<|.region ?_;refine .aU rfl Tryz.call28 rfl rfl rfl (i:=0) rfl (Sy _ b s 32) λt E F _ d _=> ?_;refine .nil<|.code<|.region<|.move rfl rfl<|.cx rfl Tryz.call60 rfl rfl rfl (Mv _ (y.mono<|Fz.le_trans j<|Fz.le_trans l2 d) x) ?_;rintro u T _ - G rfl;refine .aU rfl Tryz.call27 rfl rfl rfl (i:=0) rfl (GW _ b t u) λz H V _ I _=> ?_;refine .nil<|.block<|.code<|.region<|.add rfl rfl rfl<|.move rfl rfl<|.nil ?_;exact .cg<|Qu.norm λa w h=>⟨H,Fz.le_trans l2<|Fz.le_trans d<|Fz.le_trans G I,h.1.sub<|.k rfl,h.2⟩
  .exact .cw rfl<|Qu.exit λa w h=>⟨rfl,c,l2,h.1.sub<|.k rfl,h.2⟩
 .intro o K L e a w M;obtain⟨rfl,c,l2,m⟩:=M;refine Q9 rfl<|GG.app ?_ L a w m;refine .code<|.seq<|.region<|.aU (e:=some o) (g:=some) rfl Tryz.call29 rfl rfl rfl (i:=0) rfl (zJ _ b o) ?_;rintro o' E F W d rfl;refine .assign rfl rfl<|.nil<|.code ?_;exact .cq Tryz.results26 (.tmp rfl .nil) (i:=1) rfl (Fz.le_trans j<|Fz.le_trans l2 d) rfl
end
end Go.Proofs.YthfjpbooaofjcaaGreatDoor
end
