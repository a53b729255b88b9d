/- For OfficeAgain. -/
import Derived.Test.YtijhfeohbhedkaaGreatDoorPp3
import Derived.Test.YtijhfeohbhedkaaGreatDoorProg
import Derived.Shelf.Strconv.Itoa3
import Derived.Shelf.Strings.Cut
import Derived.Shelf.Small.Strs
import Derived.Shelf.Lay
import Derived.Ground.NamesProg
import Derived.RangeFuncLeaves
import Derived.SliceStrings
noncomputable section
namespace Go.Dec
abbrev rR:=@fenced_wide
abbrev rz:=@List.all_append
abbrev nL:=@of_decide_eq_true
abbrev nM:=@stepR_block
abbrev mj:=@stepR_seq
abbrev lJ:=@Go.Proofs.cell_of_shapedOpen_int
abbrev lQ:=@ComesIn.of_steps
abbrev lS:=@leaves_stepsInM
abbrev eK:=@step_leave_panicked
abbrev eT:=@Value.slice.injEq
end Go.Dec
namespace Go.Proofs.YtijhfeohbhedkaaGreatDoor
section
open Go.Dec Go.Shelf Go.RowKit Go.Maps Go.Sort
def Tryz.cc:Go.Shelf.Ren:=⟨fun | 171=>64 | 243=>88 | 246=>111 | 283=>146 | 284=>147 | 285=>148 | 286=>149 | 129=>199 | 317=>198 | 318=>200 | 319=>201 | 320=>202 | 337=>232 | 338=>233 | n=>n,fun | 3=>3 | 9=>9 | 2=>2 | 4=>4 | 171=>255 | 0=>0 | 53=>256 | 37=>80 | 5=>5 | 173=>259 | 212=>280 | 51=>281 | 20=>20 | 213=>282 | 46=>261 | 232=>312 | 233=>313 | n=>n,fun | 17=>1 | 18=>2 | 19=>3 | n=>n⟩
theorem Tryz.aV:Go.Proofs.LaysM.n171 Tryz.prog Tryz.cc:={
 mixed:=by kernel_rfl
 f129:=Tryz.func199.trans<|congrArg some<|by kernel_rfl
 f171:=Tryz.func64.trans<|congrArg some<|by kernel_rfl
 f243:=Tryz.func88.trans<|congrArg some<|by kernel_rfl
 f246:=Tryz.func111.trans<|congrArg some<|by kernel_rfl
 f283:=Tryz.func146.trans<|congrArg some<|by kernel_rfl
 f284:=Tryz.func147.trans<|congrArg some<|by kernel_rfl
 f285:=Tryz.func148.trans<|congrArg some<|by kernel_rfl
 f286:=Tryz.func149.trans<|congrArg some<|by kernel_rfl
 f317:=Tryz.func198.trans<|congrArg some<|by kernel_rfl
 f318:=Tryz.func200.trans<|congrArg some<|by kernel_rfl
 f319:=Tryz.func201.trans<|congrArg some<|by kernel_rfl
 f320:=Tryz.func202.trans<|congrArg some<|by kernel_rfl
 f337:=Tryz.func232.trans<|congrArg some<|by kernel_rfl
 f338:=Tryz.func233.trans<|congrArg some<|by kernel_rfl
 t0:=Tryz.underlying0
 a0:=Tryz.isAgg0
 z0:=Tryz.sizeOf0
 v0:=Tryz.zeroValue0
 t2:=Tryz.underlying2
 a2:=Tryz.isAgg2
 z2:=Tryz.sizeOf2
 v2:=Tryz.zeroValue2
 t3:=Tryz.underlying3
 a3:=Tryz.isAgg3
 z3:=Tryz.sizeOf3
 v3:=Tryz.zeroValue3
 t4:=Tryz.underlying4
 a4:=Tryz.isAgg4
 z4:=Tryz.sizeOf4
 v4:=Tryz.zeroValue4
 t5:=Tryz.underlying5
 a5:=Tryz.isAgg5
 z5:=Tryz.sizeOf5
 v5:=Tryz.zeroValue5
 t9:=Tryz.underlying9
 a9:=Tryz.isAgg9
 z9:=Tryz.sizeOf9
 v9:=Tryz.zeroValue9
 t20:=Tryz.underlying20
 a20:=Tryz.isAgg20
 z20:=Tryz.sizeOf20
 v20:=Tryz.zeroValue20
 t37:=Tryz.underlying80
 a37:=Tryz.isAgg80
 z37:=Tryz.sizeOf80
 v37:=Tryz.zeroValue80
 t46:=Tryz.underlying261
 a46:=Tryz.isAgg261
 z46:=Tryz.sizeOf261
 v46:=Tryz.zeroValue261
 t51:=Tryz.underlying281
 a51:=Tryz.isAgg281
 z51:=Tryz.sizeOf281
 v51:=Tryz.zeroValue281
 t53:=Tryz.underlying256
 a53:=Tryz.isAgg256
 z53:=Tryz.sizeOf256
 v53:=Tryz.zeroValue256
 t171:=Tryz.underlying255
 a171:=Tryz.isAgg255
 z171:=Tryz.sizeOf255
 v171:=Tryz.zeroValue255
 t173:=Tryz.underlying259
 a173:=Tryz.isAgg259
 z173:=Tryz.sizeOf259
 v173:=Tryz.zeroValue259
 t212:=Tryz.underlying280
 a212:=Tryz.isAgg280
 z212:=Tryz.sizeOf280
 v212:=Tryz.zeroValue280
 t213:=Tryz.underlying282
 a213:=Tryz.isAgg282
 z213:=Tryz.sizeOf282
 t232:=Tryz.underlying312
 a232:=Tryz.isAgg312
 z232:=Tryz.sizeOf312
 v232:=Tryz.zeroValue312
 t233:=Tryz.underlying313
 a233:=Tryz.isAgg313
 z233:=Tryz.sizeOf313
 v233:=Tryz.zeroValue313
 g17:=by kernel_rfl
 g18:=by kernel_rfl
 g19:=by kernel_rfl
 i0:=by kernel_rfl
 i2:=by kernel_rfl
 i3:=by kernel_rfl
 i4:=by kernel_rfl
 i5:=by kernel_rfl
 i9:=by kernel_rfl
 i20:=by kernel_rfl
 i37:=by kernel_rfl
 i46:=by kernel_rfl
 i51:=by kernel_rfl
 i53:=by kernel_rfl
 i171:=by kernel_rfl
 i173:=by kernel_rfl
 i212:=by kernel_rfl
 i232:=by kernel_rfl
 i233:=by kernel_rfl
 m17:=by kernel_rfl
 m18:=by kernel_rfl
 m19:=by kernel_rfl}
def Tryz.bq:Go.Shelf.Ren:=⟨fun | 145=>66 | 220=>90 | 219=>112 | 217=>110 | 225=>150 | 224=>151 | 267=>152 | 266=>145 | 314=>203 | n=>n,fun | 9=>9 | 4=>4 | 59=>119 | 3=>3 | 5=>5 | 46=>261 | 146=>283 | 51=>281 | n=>n,fun | 1=>0 | n=>n⟩
theorem Tryz.tD:Go.Proofs.LaysM.n145 Tryz.prog Tryz.bq:={
 mixed:=by kernel_rfl
 f145:=Tryz.func66.trans<|congrArg some<|by kernel_rfl
 f217:=Tryz.func110.trans<|congrArg some<|by kernel_rfl
 f219:=Tryz.func112.trans<|congrArg some<|by kernel_rfl
 f220:=Tryz.func90.trans<|congrArg some<|by kernel_rfl
 f224:=Tryz.func151.trans<|congrArg some<|by kernel_rfl
 f225:=Tryz.func150.trans<|congrArg some<|by kernel_rfl
 f266:=Tryz.func145.trans<|congrArg some<|by kernel_rfl
 f267:=Tryz.func152.trans<|congrArg some<|by kernel_rfl
 f314:=Tryz.func203.trans<|congrArg some<|by kernel_rfl
 t3:=Tryz.underlying3
 a3:=Tryz.isAgg3
 z3:=Tryz.sizeOf3
 v3:=Tryz.zeroValue3
 t4:=Tryz.underlying4
 a4:=Tryz.isAgg4
 z4:=Tryz.sizeOf4
 v4:=Tryz.zeroValue4
 t5:=Tryz.underlying5
 a5:=Tryz.isAgg5
 z5:=Tryz.sizeOf5
 v5:=Tryz.zeroValue5
 t9:=Tryz.underlying9
 a9:=Tryz.isAgg9
 z9:=Tryz.sizeOf9
 v9:=Tryz.zeroValue9
 t46:=Tryz.underlying261
 a46:=Tryz.isAgg261
 z46:=Tryz.sizeOf261
 v46:=Tryz.zeroValue261
 t51:=Tryz.underlying281
 a51:=Tryz.isAgg281
 z51:=Tryz.sizeOf281
 v51:=Tryz.zeroValue281
 t59:=Tryz.underlying119
 a59:=Tryz.isAgg119
 z59:=Tryz.sizeOf119
 v59:=Tryz.zeroValue119
 t146:=Tryz.underlying283
 a146:=Tryz.isAgg283
 z146:=Tryz.sizeOf283
 v146:=Tryz.zeroValue283
 g1:=by kernel_rfl
 i3:=by kernel_rfl
 i4:=by kernel_rfl
 i5:=by kernel_rfl
 i9:=by kernel_rfl
 i46:=by kernel_rfl
 i51:=by kernel_rfl
 i59:=by kernel_rfl
 i146:=by kernel_rfl
 m1:=by kernel_rfl
 s1_3:=λw h=>lJ (zero:=#[.int .i64 0]) (t:=3) h (nL<|by kernel_rfl) (by kernel_rfl) rfl (by kernel_rfl) (by kernel_rfl) Tryz.underlying3}
def Tryz.bd:Go.Shelf.Ren:=⟨fun | 137=>86 | 217=>110 | 266=>145 | n=>n,fun | 9=>9 | 5=>5 | 3=>3 | n=>n,fun | n=>n⟩
theorem Tryz.cJ:Go.Proofs.Lays.n137 Tryz.prog Tryz.bd:={
 mixed:=by kernel_rfl
 f137:=Tryz.func86.trans<|congrArg some<|by kernel_rfl
 f217:=Tryz.func110.trans<|congrArg some<|by kernel_rfl
 f266:=Tryz.func145.trans<|congrArg some<|by kernel_rfl
 t3:=Tryz.underlying3
 a3:=Tryz.isAgg3
 z3:=Tryz.sizeOf3
 v3:=Tryz.zeroValue3
 t5:=Tryz.underlying5
 a5:=Tryz.isAgg5
 z5:=Tryz.sizeOf5
 v5:=Tryz.zeroValue5
 t9:=Tryz.underlying9
 a9:=Tryz.isAgg9
 z9:=Tryz.sizeOf9
 v9:=Tryz.zeroValue9}
structure Xh(F:Fz):Prop where
 pow10:ux Tryz.prog F "internal/strconv.uint64pow10" Rt
 maxLen:∃m T fr,F.mem (Tryz.bq.g 1)=some (.cells #[.int .i64 m] T fr)
theorem Xh.mono{F F' :Fz}(h:Xh F)(le:F<=F'):Xh F' :=⟨h.pow10.mono le,let⟨m,T,fr,e⟩:=h.maxLen;⟨m,T,fr,le.mem _ _ e⟩⟩
theorem cell_of{w:TO}{b:Nat}{v:Do}{T:IF}{fr:Nat×Nat}(h:w.heap[b]? =some (.cells #[v] T fr)):w.cell? ⟨b,0,none⟩=some v:=by simp[World.cell?,h]
theorem vi(s:UV So):(bs s).size=s.length:=by simp[bs,ByteArray.size]
theorem SH.drewN{w:TO}{F:Fz}{H:HP}(h:SH w F H)(n:Nat):SH (w.drewN n) F H:=h.drew _
def Vz(s:UV So)(c:Int):H1 Int:=some<|Go.Lib.indexByte s c.toNat.toUInt8
theorem SK(F0:Fz)(s:UV So)(c:Int):KE Tryz.prog 86 [(.string<|bs s),(.int .u8 c)].toArray F0 (Vz s c) (λr _ v=>v=(.int .i64 r)):=by
 intro r hm w R hw;unfold Vz at hm
 simp only[BY] at hm
 refine(Go.Proofs.Any.strings_IndexByte {Tryz.cJ with} (bs s) c w).mono ?_;rintro e w' ⟨rfl,rfl⟩;exact⟨F0,_,Fz.le_refl _,rfl,by rw[<-hm];simp[bs],hw⟩
def Hb(s sep:UV So):H1 (UV So×UV So×Bool):=if s.length < 4294967281 then some (Go.Lib.cut s sep) else none
theorem MQ(F0:Fz)(hT:Xh F0)(s sep:UV So):KE Tryz.prog 66 [(.string<|bs s),(.string<|bs sep)].toArray F0 (Hb s sep) (λr _ v=>v= .tuple #[(.string<|bs r.1),(.string<|bs r.2.1),(.bool r.2.2)]):=by
 intro r hm w R hw;unfold Hb at hm
 split at hm
 ·rename_i h;simp only[BY] at hm
  obtain⟨m,T,fr,hmx⟩:=hT.maxLen;refine(Go.Proofs.Any.strings_Cut {Tryz.tD with} (bs s) (bs sep) m w (by rw[vi];exact h)<|cell_of<|hw.frozen hmx).mono ?_;rintro e w' ⟨rfl,n,rfl⟩;exact⟨F0,_,Fz.le_refl _,rfl,by rw[<-hm];simp[bs],SH.drewN hw n⟩
 ·cases hm
def Wy(i:Int):H1 (UV So):=if -9223372036854775808<=i/\i<=9223372036854775807 then some (Go.Lib.itoa i) else none
theorem Nh(F0:Fz)(hT:Xh F0)(i:Int):KE Tryz.prog 64 [(.int .i64 i)].toArray F0 (Wy i) (λr _ v=>v=(.string<|bs r)):=by
 intro r hm w R hw;unfold Wy at hm
 split at hm
 ·rename_i h;simp only[BY] at hm
  obtain⟨g,T,fr,a,b⟩:=hT.pow10
  have htab:Go.Lib.TabIs Tryz.prog w "internal/strconv.uint64pow10" .u64 Go.Lib.pow10Tab:=by
   have c:=hw.frozen b;simp[Go.Lib.TabIs,World.var?,a,c,Rt]
  refine(Go.Proofs.Any.strconv_Itoa {Tryz.aV with} i h.1 h.2 w htab).mono ?_;rintro e w' ⟨rfl,k,os,rfl⟩;exact⟨F0,_,Fz.le_refl _,rfl,by rw[<-hm];rfl,hw.below<|Go.Lib.below_grow _ _ (IR _) k os⟩
 ·cases hm
end
section
open Go.Dec Go.Shelf Go.RowKit Go.Maps Go.Sort
set_option maxRecDepth 100000
set_option maxHeartbeats 4000000
theorem wY:Tryz.prog.follows .mixedOrders=true:=by kernel_rfl
theorem vj:((Tryz.prog.info? 82).map (·.size))=some 2:=by kernel_rfl
theorem uF:liesAt Tryz.prog Tryz.prog.depth 82 (2 / Tryz.prog.cellsOf 82) 0 82 1=true:=by kernel_rfl
theorem yD(v:Do)(w:TO):(callFunc 89 #[v]).run Tryz.prog w= .ok (.value v) w:=by
 rw[run_callFunc_extern Tryz.func89 (by kernel_rfl) (by kernel_rfl) (by kernel_rfl) (e:=Extern.AbiNoEscape.same)<|by kernel_rfl];rfl
theorem qE:Uz Tryz.prog 5 1 (Ex<|KJ .u8):=.ex (λ_=>rfl) (λ_=>rfl) Tryz.sizeOf5 ⟨_,Tryz.typeInfo5,by decide+kernel,by decide+kernel⟩ ⟨_,Tryz.zeroValue5,rfl⟩
theorem Pm(F0:Fz)(b:Nat)(s:UV So):CT Tryz.prog 65 [vP b 0].toArray F0 (FX 82 5 b s) (some ()) (λ_ _ _=>True) (λ_ _ _=>FX 82 5 b s):=by
 obtain⟨ti,a,c⟩:=rj.1 vj;refine CT.enter Tryz.func65 rfl Tryz.ntmps65 rfl λr R=> ?_;refine .seq<|.region<|.move rfl rfl<|.dZ 0 rfl λp q cap hp hq=> ?_;refine .nilCheck rfl rfl<|.fieldAddr rfl Tryz.underlying82 rfl Tryz.sizeOf79 rfl<|.fM rfl Tryz.isAgg79 rfl (i:=0) rfl rfl<|.tn rfl Tryz.underlying79 rfl rfl<|.nil<|.code ?_;rcases hp with rfl | rfl
 ·refine .dr rfl (.region<|.move rfl rfl<|.move rfl rfl<|.sg rfl Tryz.underlying79 Tryz.underlying167 a (by rw[c];decide) (i:=0) rfl (by simp) rfl<|.ag rfl (yD _) rfl<|.c6 rfl Tryz.underlying167 Tryz.underlying79 a (i:=0) rfl uF rfl ?_);refine .nilCheck rfl rfl (.fieldAddr rfl Tryz.underlying82 rfl Tryz.sizeOf79 rfl<|.store (cs' :=[vP b 0,.slice q (WU s).length cap]) Tryz.sizeOf79 rfl rfl rfl rfl (i:=0) rfl (by simp) rfl rfl<|.dh (s:=s) [0,0] (.inr rfl) (λ_=>hq) rfl<|.nil ?_);exact .tp Tryz.results65 .nil (i:=0) (j:=0) rfl rfl (Fz.le_refl _) trivial
 ·refine .dP rfl<|.seq<|.region<|.move rfl rfl<|.nilCheck rfl rfl<|.fieldAddr rfl Tryz.underlying82 rfl Tryz.sizeOf79 rfl<|.fM rfl Tryz.isAgg79 rfl (i:=0) rfl rfl<|.move rfl rfl<|.te rfl Tryz.underlying79 a rfl rfl<|.dh (s:=s) [0,0] (.inr rfl) (λ_=>hq) rfl<|.nil<|.code<|.dP rfl<|.skip ?_;exact .tp Tryz.results65 .nil (i:=0) (j:=0) rfl rfl (Fz.le_refl _) trivial
def CV(s t:UV So):H1 (UV So):=if s.length+t.length<=4294967296 then some (s++t) else none
theorem IM{s t z:UV So}(h:CV s t=some z):Jf (WU s) (WU t)=some (WU z):=by
 unfold CV at h
 split at h
 ·rename_i hl;simp only[BY] at h
  subst h;unfold Jf;rw[AT (by rw[C8,C8];exact hl),qQ]
 ·cases h
theorem zg{s t z:UV So}(h:CV s t=some z):z=s++t:=by
 unfold CV at h
 split at h
 ·exact(u2 h).symm
 ·cases h
theorem Nr(F0:Fz)(b:Nat)(s t:UV So):CT Tryz.prog 28 [vP b 0,.string<|bs t].toArray F0 (FX 82 5 b s) ((CV s t).bind some) (λ_ _ _=>True) (λr _ _=>FX 82 5 b r):=by
 refine CT.enter Tryz.func28 rfl Tryz.ntmps28 rfl λr R=>.bind λz hm=> ?_;have happ:=IM hm;refine .seq<|.region<|.assign rfl rfl<|.assign rfl rfl<|.nil<|.code<|.seq<|.region<|.move rfl rfl<|.sE rfl Tryz.call65 rfl rfl rfl (i:=0) rfl (Pm _ b s) λf _ a=> ?_;refine .nil<|.code<|.seq<|.region<|.move rfl rfl<|.move rfl rfl<|.dZ 0 rfl λp q cap hp hq=> ?_;refine .nilCheck rfl rfl<|.fieldAddr rfl Tryz.underlying82 rfl Tryz.sizeOf80 rfl<|.fM rfl Tryz.isAgg80 rfl (i:=0) rfl rfl<|.move rfl rfl ?_;refine .aN happ 1 qE (Fz.le_refl _) rfl Tryz.underlying80 Tryz.underlying9 rfl rfl rfl rfl rfl λp' cap' hnil=> ?_;refine .nilCheck rfl rfl (.fieldAddr rfl Tryz.underlying82 rfl Tryz.sizeOf80 rfl<|.store (cs' :=[.pointer p,.slice p' (WU z).length cap']) Tryz.sizeOf80 rfl rfl rfl rfl (i:=0) rfl (by simp) rfl rfl ?_);refine .dh (s:=z) [0,0] hp (λe=> ?_) rfl ?_
 ·subst e;obtain⟨c,d⟩:=hnil rfl;have:=zg hm;subst c;subst d;exact hq
 refine .nil<|.code<|.seq<|.region<|.move rfl rfl<|.dD rfl rfl Tryz.underlying9 rfl<|.assign rfl rfl<|.assign rfl rfl<|.nil<|.code ?_;exact .sl Tryz.results28 (.tmp rfl<|.tmp rfl .nil) (i:=0) (j:=0) rfl rfl a trivial
theorem Ek(F0:Fz)(b:Nat)(s:UV So)(c:So):CT Tryz.prog 29 [vP b 0,.int .u8 c.toNat].toArray F0 (FX 82 5 b s) ((CV s [c]).bind some) (λ_ _ _=>True) (λr _ _=>FX 82 5 b r):=by
 refine CT.enter Tryz.func29 rfl Tryz.ntmps29 rfl λr R=>.bind λz hm=> ?_;have happ:=IM hm;refine .seq<|.region<|.assign rfl rfl<|.nil<|.code<|.seq<|.region<|.move rfl rfl<|.sE rfl Tryz.call65 rfl rfl rfl (i:=0) rfl (Pm _ b s) λk _ a=> ?_;refine .nil<|.code<|.seq<|.region<|.move rfl rfl<|.move rfl rfl<|.dZ 0 rfl λp q cap hp hq=> ?_;refine .nilCheck rfl rfl<|.fieldAddr rfl Tryz.underlying82 rfl Tryz.sizeOf80 rfl<|.fM rfl Tryz.isAgg80 rfl (i:=0) rfl rfl<|.move rfl rfl ?_;refine .fj (cs:=[.int .u8 c.toNat]) (zc:=[.int .u8 0]) rfl Tryz.underlying80 Tryz.sizeOf5 Tryz.zeroValue5 rfl rfl rfl (by kernel_rfl) (by rfl) λd f l2 g=> ?_;have h:QG 1 (Ex<|KJ .u8) f (some ⟨d,0,none⟩) 1 (WU [c]):=QG.ofRow g (.cons qE.mono rfl .nil) rfl rfl;refine .bk happ 1 qE l2 rfl Tryz.underlying80 Tryz.underlying80 rfl rfl rfl h rfl rfl λp' cap' => ?_;refine .nilCheck rfl rfl (.fieldAddr rfl Tryz.underlying82 rfl Tryz.sizeOf80 rfl<|.store (cs' :=[.pointer p,.slice p' (WU z).length cap']) Tryz.sizeOf80 rfl rfl rfl rfl (i:=0) rfl (by simp) rfl rfl ?_);refine .dh (s:=z) [0,0] hp (λe=> ?_) rfl ?_
 ·have:=zg hm;rw[e] at this
  simp at this
 refine .nil<|.code<|.seq<|.region<|.assign rfl rfl<|.nil<|.code ?_;exact .sl Tryz.results29 (.tmp rfl .nil) (i:=0) (j:=0) rfl rfl (Fz.le_trans a l2) trivial
theorem IS(F0:Fz)(b:Nat)(s:UV So):CT Tryz.prog 30 [vP b 0].toArray F0 (FX 82 5 b s) (some s) (λr _ v=>v= .string (bs r)) (λ_ _ _=>SI):=by
 refine CT.enter Tryz.func30 rfl Tryz.ntmps30 rfl λr R=> ?_;refine .seq<|.region<|.assign rfl rfl<|.nil<|.code<|.seq<|.dZ 0 rfl λp q cap hp hq=> ?_;refine .fc 10 wY (by kernel_rfl)<|.move rfl rfl<|.nilCheck rfl rfl<|.fieldAddr rfl Tryz.underlying82 rfl Tryz.sizeOf80 rfl<|.fM rfl Tryz.isAgg80 rfl (i:=0) rfl rfl<|.sW hq rfl rfl<|.move rfl rfl<|.nilCheck rfl rfl<|.fieldAddr rfl Tryz.underlying82 rfl Tryz.sizeOf80 rfl<|.fM rfl Tryz.isAgg80 rfl (i:=0) rfl rfl<|.fw rfl rfl Tryz.underlying80 rfl<|.fp ?_;refine .sT 1 rfl Tryz.underlying118 (by kernel_rfl) rfl rfl rfl rfl<|.assign rfl rfl<|.nil<|.code<|.aX ?_;exact .sl Tryz.results30 (.tmp rfl .nil) (i:=0) (j:=1) rfl rfl (Fz.le_refl _) rfl
theorem IT{α:Type}(x:H1 α):x.bind some=x:=by cases x<;>rfl
theorem He(F0:Fz)(b:Nat)(s t:UV So):CT Tryz.prog 28 [vP b 0,.string<|bs t].toArray F0 (FX 82 5 b s) (CV s t) (λ_ _ _=>True) (λr _ _=>FX 82 5 b r):=IT (CV s t)▸Nr F0 b s t
theorem Ck(F0:Fz)(b:Nat)(s:UV So)(c:So):CT Tryz.prog 29 [vP b 0,.int .u8 c.toNat].toArray F0 (FX 82 5 b s) (CV s [c]) (λ_ _ _=>True) (λr _ _=>FX 82 5 b r):=IT (CV s [c])▸Ek F0 b s c
def XF(l:UV Int)(s:Int×UV So):H1 (UE (Int×UV So)<|UV So):=if decide (s.1 < (l.length:Int)) then(ZZ l s.1).bind λx=>(CV s.2 [32]).bind λt=>(Wy x).bind λu=>(CV t u).bind λz=>some (.next (ZA<|s.1+1,z)) else some<|.done s.2
def JX(word:UV So)(l:UV Int):H1 (UV So):=(CV [] word).bind λs=>(ZR (XF l) (0,s)).bind λz=>some z
theorem WJ(F0:Fz)(hT:Xh F0)(word:UV So)(l:UV Int)(p:H1 Of)(k:Nat)(h:QG 1 (Ex<|KJ .i64) F0 p k l):KE Tryz.prog 27 [.string<|bs word,vS p l k].toArray F0 (JX word l) (λr _ v=>v= .string (bs r)):=by
 refine KE.enter Tryz.func27 rfl Tryz.ntmps27 rfl λr R=> ?_;unfold JX;refine .seq<|.region<|.assign rfl rfl<|.nil<|.code<|.seq<|.region<|.alloc (cs:=[.pointer none,.slice none 0 0]) rfl Tryz.zeroValue82 rfl λb=>.aL 0 5 rfl<|.nil<|.code ?_;refine .seq<|.region<|.move rfl rfl<|.bC rfl Tryz.call28 rfl rfl rfl (i:=0) rfl (He _ b [] word) λs f v _ j _=> ?_;refine .nil<|.code<|.seq<|.seq<|.region<|.move rfl rfl<|.fw rfl rfl Tryz.underlying34 rfl<|.move rfl rfl<|.nil<|.code<|.block ?_;refine .loop (fun(s:Int×UV So) a w=>∃c,f<=c/\Hd 22 [] [(5,vP b 0),(10,vS p l k),(11,vI l.length),(12,vI s.1)] c [FX 82 5 b s.2,R] a w) (fun(o:UV So) e a w=>e= .exit 0/\∃c,f<=c/\Hd 22 [] [(5,vP b 0)] c [FX 82 5 b o,R] a w) ?_ ?_ ?_
 ·exact λa w h=>⟨f,Fz.le_refl _,h.1.sub<|.k rfl,h.2⟩
 ·rintro⟨i,s⟩ ctl;refine GC.ex λa w ⟨c,l2,hA⟩=>⟨_,hA,?_⟩;unfold XF;refine .seq<|.region<|.lss rfl rfl rfl<|.nil<|.code<|.seq<|.cond rfl (λhb=> ?_) λhb=> ?_
  ·refine .skip<|.code<|.seq<|.block<|.seq<|.region ?_;refine .idx rfl Tryz.underlying34 Tryz.sizeOf3 (h.mono<|Fz.le_trans j l2) rfl rfl λx C D E F G H m n=> ?_;refine .U rfl Tryz.isAgg3 rfl m (QJ (k:=0) n rfl)<|.assign rfl rfl<|.nil<|.code<|.seq<|.region ?_;refine .bC rfl Tryz.call29 rfl rfl rfl (i:=0) rfl (Ck _ b s 32) λt q v3 _ d _=> ?_;refine .nil<|.code<|.region<|.move rfl rfl<|.fX rfl Tryz.call64 rfl rfl rfl (Nh _ (hT.mono<|Fz.le_trans j<|Fz.le_trans l2 d) x) ?_;rintro u I _ - y rfl;refine .bC rfl Tryz.call28 rfl rfl rfl (i:=0) rfl (He _ b t u) λz A v5 _ B _=> ?_;refine .nil<|.block<|.code<|.region<|.add rfl rfl rfl<|.move rfl rfl<|.nil ?_;exact .nil<|Q5.norm λa w h=>⟨A,Fz.le_trans l2<|Fz.le_trans d<|Fz.le_trans y B,h.1.sub<|.k rfl,h.2⟩
  ·exact .fZ rfl<|Q5.exit λa w h=>⟨rfl,c,l2,h.1.sub<|.k rfl,h.2⟩
 ·intro o K hk e a w hD;obtain⟨rfl,c,l2,hA⟩:=hD;refine ZC rfl<|GE.app ?_ hk a w hA;refine .code<|.seq<|.region<|.bC (e:=some o) (g:=some) rfl Tryz.call30 rfl rfl rfl (i:=0) rfl (IS _ b o) ?_;rintro o' q v3 L d rfl;refine .assign rfl rfl<|.nil<|.code ?_;exact .fV Tryz.results27 (.tmp rfl .nil) (i:=1) rfl (Fz.le_trans j<|Fz.le_trans l2 d) rfl
end
end Go.Proofs.YtijhfeohbhedkaaGreatDoor
namespace Go.Dec
section
variable{f:x4}{P:PP}{β:Type}{n:Nat}
variable{O:H1 Nat}
section
variable{β:Type}{P:PP}{ops:OF j9}{rest:UV j9}{ks:UV Kt}{Q:pU->Act->TO->Prop}{m:H1 β}{r:β}
variable{n:Nat}{D:UV If}{S:UV (Nat×Do)}{F:Fz}{hs:UV HP}{d:Nat}{ty:IF}{pos:String}{after:OF nA}
theorem GL.sC{α:Type}{caps as1 vs:UV Do}{of:x8}{os:UV x8}{T:OF IF}{em:H1 (UV α)}{x:UV α}{sz:Nat}{c:UR α}{T' :IF}(he:em=some x)(hd:Nat.blt d n=true)
  (hcall:∀args w,(callFunc f args).run P w= .ok (.enter f args) w) (hf:QI S of=some (.func (.func f) #[] caps.toArray)) (ha:UO S os=some vs) (has:vs++caps=as1)
  (hc:Bh P f as1.toArray F em sz c T') (k:∀F' p cap,F<=F'->GL O P ops rest ks Q (Hd n D ((d,.slice p x.length cap)::S) F'<|Ql sz c F' T' p cap x::hs) m r):GL O P ops (⟨some d,.call ⟨.value of,os.toArray,T⟩,ty,pos,after,none⟩::rest) ks Q (Hd n D S F hs) m r:=by
 have h:=GL.av (O:=O) (P:=P) (ops:=ops) (rest:=rest) (ks:=ks) (Q:=Q) (r:=r) (n:=n) (D:=D) (S:=S) (F:=F) (hs:=hs) (d:=d) (ty:=ty) (pos:=pos) (after:=after) (T:=T) (g:=λ_=>m) hd hcall hf ha has hc (λx' F' p cap he' le=>by rw[he] at he';cases he';exact k F' p cap le);rw[he] at h
 exact h
theorem GL.aJ{K V:Type}{ck:K->Do}{rv:Fz->V->Do->Prop}{of:x8}{os:UV x8}{T:OF IF}{p:H1 Nat}{l:UV (K×V)}(hd:Nat.blt d n=true)
  (hcall:∀args w,(callFunc f args).run P w= .ok (.enter f args) w) (hf:QI S of=some (.func (.func f) #[] #[])) (ha:UO S os=some [.map p])
  (hc:∀w R,SH w F R->Calls P f #[.map p] w (λe w' =>∃b,e= .returned (.map<|some b)/\SH w' F (star (QW ck rv F b l) R)))
  (k:∀b,GL O P ops rest ks Q (Hd n D ((d,.map<|some b)::S) F<|QW ck rv F b l::hs) m r):GL O P ops (⟨some d,.call ⟨.value of,os.toArray,T⟩,ty,pos,after,none⟩::rest) ks Q (Hd n D S F hs) m r:=
 GL.bD rfl (.inr rfl) λhm a w hA=>by
  refine⟨WW (caps:=[]) (vs:=[.map p]) hA.1 hcall hf ha,?_⟩;refine(hc w _ hA.2).mono ?_;rintro _ w' ⟨b,rfl,hw⟩;exact⟨_,rfl,k b hm _ _ ⟨hA.1.put hd _,hw⟩⟩
end
theorem Xz.tH{fn:nH}{c:rh}{args:UV Do}{F:Fz}{Hs:UV HP}{m:H1 β}{ρ:β->Fz->Do->Prop}{Hs' :β->Fz->UV HP}
  (hf:P.funcs[f]? =some fn) (hb:fn.body=some c) (hn:fn.ntmps=n) (ha:Nat.ble args.length n=true)
  (k:∀r R,GC none P c [] (SB (G:=Unit) P fn F R (λ_=>ρ) (λ_=>Hs') r) (Hd n [] (DE 0 args) F<|Hs++[R]) m r):Xz P f args.toArray F Hs m ρ Hs' :=by
 intro r hm w R hw;refine((pW (n:=0)).1<|eE hf hb trivial<|k r R hm _ w ⟨?_,hw.mono λm hm=>Kx<|QS (λ_ h=>J1 h) hm⟩).mono ?_
 ·rw[hn];exact Ul ha
 ·rintro e w' ⟨_,F',v,h⟩;exact⟨F',v,h⟩
section
variable{β:Type}{P:PP}{n:Nat}{S:UV (Nat×Do)}{F F' :Fz}{hs:UV HP}
variable{G ε:Type}{penc:ε->Do}{fn:nH}{R:HP}{ρ:G->β->Fz->Do->Prop}{Hs' :G->β->Fz->UV HP}{x r:β}{rs:UV ResultVar}{vs:UV Do}
theorem G0{caps:UV Do}{Hs:UV HP}{Hp:ε->Fz->UV HP}{q:ε}(U:G)(hcall:∀args w,(callFunc f args).run P w= .ok (.enter f args) w)(hc:vQ P penc f caps.toArray F' Hs Hp)(is:UV Nat)(hi:JG is hs=Hs)(hr:fn.results=rs.toArray)(h:∀F'',F'<=F''->Cq P S F'' (Hp q F'' ++JV is hs) rs vs)(le:F<=F')
  (hout:∀F'' w,F'<=F''->SH w F'' (Qh<|Hp q F'' ++JV is hs)->SH w F'' (star (Qh<|Hs' U x F'') R)) (hρ:∀F'',ρ U x F''<|SS vs):some x=some r->∀a w,Hd n [Tv f caps] S F' hs a w->SB P fn F R ρ Hs' r (.panic [{v:=penc q,recovered:=false}]) a w:=by
 intro e a w ha;simp only[BY] at e
 subst e;show LeavesIn Fence.wide 0 P fn a.tmps _ a.defers (.panicking _) w;rw[ha.1.2.1]
 have hsh:SH w F' (star (Qh Hs)<|Qh<|JV is hs):=ha.2.mono λm hm=>by
  have:=Vs (ks:=is) hm;rw[hi] at this;exact this
 refine lb (by simp) (λe=>by cases e) (S8 hcall) Th<|(hc.2 q w _ hsh).mono ?_;rintro _ _ w' ⟨rfl,⟨v,rfl⟩,F2,le2,h2⟩;have h3:SH w' F2 (Qh<|Hp q F2++JV is hs):=h2.mono λ_=>Kx;exact⟨_,JW (n:=n) (a:=a) (D:=a.defers) hr ⟨⟨ha.1.1,rfl,ha.1.2.2⟩,h3⟩<|h F2 le2,U,F2,_,Fz.le_trans le le2,rfl,hρ F2,hout F2 w' le2 h3⟩
end
end
section
variable{c:rh}
def zs(f:x4)(P:PP)(c:rh)(Q:pU->Act->TO->Prop)(a:Act)(w:TO):Prop:=∀(b:Frame) (k:UV Item) (cs:UV Frame),b.roundOf=none->b.fn=f->∃e a' w',Q e a' w'/\ArrivesIn (Machine.fenced P Fence.wide) P (lone (b.atR a<|.code c::k) cs w) b k cs e a' w'
section
variable{f:x4}{P:PP}{Q Q' :pU->Act->TO->Prop}{a:Act}{w:TO}
theorem je(h:c.wpIn Fence.wide 0 P Q a w):zs f P c Q a w:=λb k cs hr _=>h b k cs hr trivial<|room_wide _
theorem jf(h:zs f P c Q a w)(hq:∀e a w,Q e a w->Q' e a w):zs f P c Q' a w:=λb k cs hr hb=>let⟨e,a',w',q,s⟩:=h b k cs hr hb;⟨e,a',w',hq _ _ _ q,s⟩
theorem vX{x y:rh}(h:zs f P x (Exit.then (zs f P y Q) Q) a w):zs f P (.seq x y) Q a w:=by
 intro b k cs hro hb;have h0:(lone (b.atR a<|.code (.seq x y)::k) cs w).fenced P Fence.wide:=rR _ _;obtain⟨e,a₁,w₁,hq,harr⟩:=h b (.code y::k) cs hro hb;cases e with
 | normal=>
  obtain⟨e₂,a₂,w₂,hq₂,harr₂⟩:=hq b k cs hro hb;exact⟨e₂,a₂,w₂,hq₂,.of_steps (.head h0 mj harr) harr₂⟩
 | exit id=>exact⟨_,a₁,w₁,hq,.of_steps (.one h0 mj)<|.pass (x:=.code y) rfl (λ_ _=>.inl<|by simp) harr⟩
 | goto l=>exact⟨_,a₁,w₁,hq,.of_steps (.one h0 mj)<|.pass (x:=.code y) rfl (λ_ _=>.inl<|by simp) harr⟩
 | ret=>exact⟨_,a₁,w₁,hq,.of_steps (.one h0 mj)<|.pass (x:=.code y) rfl (λ_ _=>.inl<|by simp) harr⟩
 | panic ch=>exact⟨_,a₁,w₁,hq,.of_steps (.one h0 mj)<|.pass (x:=.code y) rfl (λ_ _=>.inl<|by simp) harr⟩
 | outgrown=>exact⟨_,a₁,w₁,hq,.of_steps (.one h0 mj)<|.pass (x:=.code y) rfl (λ_ _=>.inl<|by simp) harr⟩
theorem zr{id:Nat}(h:zs f P c (Exit.inBlock id Q) a w):zs f P (.block id c) Q a w:=by
 intro b k cs hro hb;have h0:(lone (b.atR a<|.code (.block id c)::k) cs w).fenced P Fence.wide:=rR _ _;obtain⟨e,a₁,w₁,hq,harr⟩:=h b (.inBlock id::k) cs hro hb;cases e with
 | normal=>exact⟨.normal,a₁,w₁,hq,.head h0 nM<|pk harr<|.one (rR _ _) stepR_inBlock⟩
 | exit id' =>
  by_cases hid:id' =id
  ·simp only[Exit.inBlock,hid,Nm] at hq
   exact⟨.normal,a₁,w₁,hq,.head h0 nM<|harr.1 k<|by simp[exitTo,hid]⟩
  ·simp only[Exit.inBlock,hid,RK] at hq
   have this:(id==id')=false:=by simp;exact λh=>hid h.symm
   have hx:exitTo id' (.inBlock id::k)=exitTo id' k:=by simp[exitTo,this]
   exact⟨.exit id',a₁,w₁,hq,λk' hk=>.head h0 nM (harr.1 k' (by rw[hx];exact hk)),
    λhr' hk=>let⟨k₁,h1,h2⟩:=harr.2 hr' (by rw[hx];exact hk);⟨k₁,h1,.head h0 nM h2⟩⟩
 | goto l=>
  have hx:gotoIn l (.inBlock id::k)=gotoIn l k:=by simp[gotoIn]
  exact⟨_,a₁,w₁,hq,λk' hk=>.head h0 nM (harr.1 k' (by rw[hx];exact hk)),
   λhr' hk=>let⟨k₁,h1,h2⟩:=harr.2 hr' (by rw[hx];exact hk);⟨k₁,h1,.head h0 nM h2⟩⟩
 | ret=>exact⟨_,a₁,w₁,hq,.of_steps (.one h0 nM) harr⟩
 | panic ch=>exact⟨_,a₁,w₁,hq,.of_steps (.one h0 nM) harr⟩
 | outgrown=>exact⟨_,a₁,w₁,hq,.of_steps (.one h0 nM) harr⟩
theorem Ei{fn:nH}{args:OF Do}{R:mq->TO->Prop}(hf:P.funcs[f]? =some fn)(hb:fn.body=some c)
  (h:zs f P c (bodyPostM Fence.wide 0 P fn R) {tmps:=args++Array.replicate (fn.ntmps - args.size) undef,defers:=[]} w):Calls P f args w R:=by
 refine(pW (n:=0)).1 ⟨trivial,λcs hr=> ?_⟩
 let b:Frame:={(default:Frame) with fn:=f,kind:=.normal,roundOf:=none}
 have henter:Frame.enter P f args .normal=b.atR {tmps:=args++Array.replicate (fn.ntmps - args.size) undef,defers:=[]} [.code c]:=by
  simp[Frame.enter,Frame.atR,hf,hb,b]
 obtain⟨e,a',w',hq,harr⟩:=h b [] cs rfl rfl;rw[<-henter] at harr
 cases e with
 | normal=>
  obtain⟨e',w'',fr',hR,hs,hfn,hl⟩:=lS a'.defers .returning w' {b.atR a' [] with mode:=.returning} cs rfl rfl rfl hf rfl trivial hr hq;exact⟨e',w'',fr',hR,lQ (pk harr<|.one (rR _ _)<|stepR_end rfl) hs,hfn,hl⟩
 | ret=>
  obtain⟨todo,hs₀⟩:=harr.1 rfl;obtain⟨e',w'',fr',hR,hs,hfn,hl⟩:=lS a'.defers .returning w' {b.atR a' todo with mode:=.returning} cs rfl rfl rfl hf rfl trivial hr hq;exact⟨e',w'',fr',hR,lQ hs₀ hs,hfn,hl⟩
 | panic chain=>
  obtain⟨todo,hs₀⟩:=harr;obtain⟨e',w'',fr',hR,hs,hfn,hl⟩:=lS a'.defers (.panicking chain) w' {b.atR a' todo with mode:=.panicking chain} cs rfl rfl rfl hf rfl trivial hr hq;exact⟨e',w'',fr',hR,lQ hs₀ hs,hfn,hl⟩
 | exit id=>exact hq.elim
 | goto l=>exact hq.elim
 | outgrown=>exact⟨.outgrown,w',b,hq,harr.resolve_left (by simp[b]),rfl,trivial⟩
def Iz(P:PP)(l:Nat)(R:mq->TO->Prop):pU->Act->TO->Prop
 | .panic chain,a,w=>a.defers=[]/\R (.panicked chain) w
 | e,a,w=>roundPost P l R e a w
theorem kH{l:Nat}{fn:nH}{tmps:OF Do}{assign body:rh}{R:mq->TO->Prop}(hf:P.funcs[f]? =some fn)
  (h:assign.wpIn (Fence.wide.inRound l) 0 P (Exit.then (λa₁ w₁=>∃w₂,(Instr.beginRound l).run P w₁= .ok () w₂/\body.wpIn (Fence.wide.inRound l) 0 P (Iz P l R) a₁ w₂) λ_ _ _=>False)
   {tmps:=tmps,defers:=[]} w):RoundIn Fence.wide 0 P l f tmps assign body w R:=by
 refine⟨trivial,λc cs hr=> ?_⟩
 let b:Frame:={(default:Frame) with fn:=f,kind:=.normal,roundOf:=some l}
 have hb0:Frame.round l f tmps assign body .normal=b.atR {tmps:=tmps,defers:=[]} [.code assign,.beginRound,.code body]:=by
  simp[Frame.round,Frame.atR,b]
 have hr' :(Fence.wide.inRound l).room ((c::cs).length+1+0):=hr;obtain⟨e,a₁,w₁,hq,harr⟩:=h b [.beginRound,.code body] (c::cs) rfl trivial hr';rw[<-hb0] at harr
 cases e with
 | normal=>
  obtain⟨w₂,hbr,hbody⟩:=hq
  have s1:StepsIn (Machine.fenced P<|Fence.wide.inRound l) P (lone (b.atR a₁ [.beginRound,.code body]) (c::cs) w₁) (lone (b.atR a₁ [.code body]) (c::cs) w₂):=
   .one (rR _ _) (stepR_beginRound rfl hbr)
  obtain⟨e₂,a₂,w₃,hq₂,harr₂⟩:=hbody b [] (c::cs) rfl trivial hr';cases e₂ with
  | normal=>
   obtain⟨v,w₄,hend,hR⟩:=hq₂;exact⟨.returned v,w₄,hR,(pk harr s1).trans<|pk harr₂<|.one (rR _ _)<|stepR_round_end rfl rfl hend⟩
  | ret=>
   obtain⟨v,w₄,hend,hR⟩:=hq₂;obtain⟨k₁,hs⟩:=harr₂.2 rfl;exact⟨.returned v,w₄,hR,(pk harr s1).trans<|pk hs<|.one (rR _ _)<|stepR_round_ret rfl rfl hend⟩
  | exit id=>
   obtain⟨v,w₄,hend,hR⟩:=hq₂;obtain⟨k₁,hk,hs⟩:=harr₂.2 rfl rfl;exact⟨.returned v,w₄,hR,(pk harr s1).trans<|pk hs<|.one (rR _ _)<|stepR_round_exit rfl rfl hk hend⟩
  | goto t=>
   obtain⟨v,w₄,hend,hR⟩:=hq₂;obtain⟨k₁,hk,hs⟩:=harr₂.2 rfl rfl;exact⟨.returned v,w₄,hR,(pk harr s1).trans<|pk hs<|.one (rR _ _)<|stepR_round_goto rfl rfl hk hend⟩
  | panic chain=>
   obtain⟨hd,hR⟩:=hq₂;obtain⟨todo,hs⟩:=harr₂;have hl:Frame.leaving P {b.atR a₂ todo with mode:=.panicking chain} w₃ (.panicked chain):=⟨rfl,hd,fn,hf⟩;exact⟨.panicked chain,w₃,hR,(pk harr s1).trans<|pk hs<|.one (rR _ _)<|eK hl⟩
  | outgrown=>exact hq₂.elim
 | exit id=>exact hq.elim
 | goto t=>exact hq.elim
 | ret=>exact hq.elim
 | panic chain=>exact hq.elim
 | outgrown=>exact hq.elim
theorem N1{g:x8}{ps:OF Tmp}{assign body:rh}
  (h:∃(l:Nat) (mark:UV If) (w₁:TO) (d:If) (w₁' :TO) (f' :x4) (args:OF Do) (w₂:TO),
   (Instr.enterLoop f a.tmps ps assign body none).run P w= .ok (l,mark) w₁/\(resolve a.eval (rangeCall g l) 0).run P w₁= .ok d w₁'/\(invoke d.target d.args).run P w₁' = .ok (.enter f' args) w₂/\
   Calls P f' args w₂ (λe w₃=>match e with
    | .returned _=>∃jump w₄,(Instr.endLoop l).run P w₃= .ok jump w₄/\(match jump with | none=>Q .normal {a with defers:=mark++a.defers} w₄ | some c=>zs f P c Q {a with defers:=mark++a.defers} w₄)
    | .panicked chain=>Q (.panic chain) {a with defers:=mark++a.defers} w₃
    | .outgrown=>False)):zs f P (.rangeFunc g ps assign body) Q a w:=by
 intro b k cs hro hb;obtain⟨l,mark,w₁,d,w₁',f',args,w₂,he,hres,hinv,hcall⟩:=h;rw[<-hb,<-hro] at he
 have henter:=stepR_rangeFunc (P:=P) (b:=b) (a:=a) (k:=k) (cs:=cs) (w:=w) he hres hinv;obtain⟨e,w₃,fr,hR,hsteps,hfn,hleave⟩:=(pW (n:=0)).2 hcall |>.2 (b.atR {a with defers:=mark++a.defers} (.inRangeFunc l::k)::cs) (room_wide _);cases e with
 | outgrown=>exact hR.elim
 | returned v=>
  obtain⟨jump,w₄,hend,hj⟩:=hR
  have sback:StepsIn (Machine.fenced P Fence.wide) P (lone (b.atR a<|.code (.rangeFunc g ps assign body)::k) cs w) (lone (b.atR {a with defers:=mark++a.defers}<|(jump.map Item.code).toList++k) cs w₄):=by
   refine .head (rR _ _) henter<|pk hsteps<|.head (rR _ _) ?_<|.one (rR _ _)<|stepR_endRangeFunc hend;rw[<-finish_atR_inRangeFunc l v];exact step_leave_returned hleave
  cases jump with
  | none=>exact⟨.normal,_,w₄,hj,sback⟩
  | some c=>
   obtain⟨e',a'',w₅,hq,harr⟩:=hj b k cs hro hb;exact⟨e',a'',w₅,hq,.of_steps sback harr⟩
 | panicked chain=>
  refine⟨.panic chain,_,w₃,hR,.inRangeFunc l::k,.head (rR _ _) henter<|pk hsteps<|.one (rR _ _) ?_⟩;rw[<-Frame.raise_atR];exact eK hleave
end
end
section
variable{Q:pU->Act->TO->Prop}{ε α σ τ β:Type}{S:UV (Nat×Do)}{arg:α->Fz->UV Do->Prop}{penc:ε->Do}{P:PP}{A:Act->TO->Prop}{f:x4}{ks:UV Kt}{hs hs':UV HP}{c:rh}{F:Fz}{n:Nat}{D:UV If}{m:H1 β}{r:β}
variable{O:H1 Nat}
abbrev Sy(penc:ε->Do)(q:ε):UV PanicEntry:=[{v:=penc q,recovered:=false}]
def XN(f:x4)(P:PP):UV Kt->(pU->Act->TO->Prop)->pU->Act->TO->Prop
 | [],Q=>Q
 | .code c::ks,Q=>Exit.then (zs f P c<|XN f P ks Q) (XN f P ks Q)
 | .block id::ks,Q=>Exit.inBlock id<|XN f P ks Q
def GB(f:x4)(P:PP)(c:rh)(ks:UV Kt)(Q:pU->Act->TO->Prop)(A:Act->TO->Prop)(m:H1 β)(r:β):Prop:=m=some r->∀a w,A a w->zs f P c (XN f P ks Q) a w
section
variable{β:Type}{f:x4}{P:PP}{ks:UV Kt}{Q:pU->Act->TO->Prop}{A:Act->TO->Prop}{m:H1 β}{r:β}
theorem GB.q{x y:rh}(h:GB f P x (.code y::ks) Q A m r):GB f P (.seq x y) ks Q A m r:=λhm a w ha=>vX<|h hm a w ha
theorem GB.k{id:Nat}(h:GB f P c (.block id::ks) Q A m r):GB f P (.block id c) ks Q A m r:=λhm a w ha=>zr<|h hm a w ha
theorem GB.g(h:GC none P c [] (XN f P ks Q) A m r):GB f P c ks Q A m r:=λhm a w ha=>je<|h hm a w ha
theorem GE.cb(h:GB f P c ks Q A m r):GE none P [] (XN f P (.code c::ks) Q) A m r:=h
theorem Yr:∀(ks:UV Kt) {e:pU} {a:Act} {w:TO},Zu none P ks Q e a w->XN f P ks Q e a w
 | [],_,_,_,h=>h
 | .code c::ks,.normal,a,w,h=>jf (je<|show c.wpIn Fence.wide 0 P (Zu none P ks Q) a w from h) λ_ _ _=>Yr ks
 | .code c::ks,.exit id,a,w,h=>Yr (e:=.exit id) ks h
 | .code c::ks,.goto l,a,w,h=>Yr (e:=.goto l) ks h
 | .code c::ks,.ret,a,w,h=>Yr (e:=.ret) ks h
 | .code c::ks,.panic ch,a,w,h=>Yr (e:=.panic ch) ks h
 | .code c::ks,.outgrown,a,w,h=>Yr (e:=.outgrown) ks h
 | .block id::ks,.exit id',a,w,h=>by
  show(if id' =id then XN f P ks Q .normal a w else XN f P ks Q (.exit id') a w);have h' :(if id' =id then Zu none P ks Q .normal a w else Zu none P ks Q (.exit id') a w):=h;by_cases hi:id' =id
  ·rw[AT hi] at h' ⊢;exact Yr ks h'
  ·rw[RW hi] at h' ⊢;exact Yr ks h'
 | .block id::ks,.normal,a,w,h=>Yr (e:=.normal) ks h
 | .block id::ks,.goto l,a,w,h=>Yr (e:=.goto l) ks h
 | .block id::ks,.ret,a,w,h=>Yr (e:=.ret) ks h
 | .block id::ks,.panic ch,a,w,h=>Yr (e:=.panic ch) ks h
 | .block id::ks,.outgrown,a,w,h=>Yr (e:=.outgrown) ks h
theorem Hc{c:UV PanicEntry}{a:Act}{w:TO}:∀{ks:UV Kt},Q (.panic c) a w->XN f P ks Q (.panic c) a w
 | [],k=>k
 | .code c::ks,k=>by show XN f P ks Q (.panic _) a w;exact Hc k
 | .block j::ks,k=>by show XN f P ks Q (.panic _) a w;exact Hc k
theorem VX.tI{fn:nH}{args:UV Do}{Hs:UV HP}{m:H1 (Out ε β)}{ρ:β->Fz->Do->Prop}{Hs' :β->Fz->Do->UV HP}
  (hf:P.funcs[f]? =some fn) (hb:fn.body=some c) (hn:fn.ntmps=n) (ha:Nat.ble args.length n=true)
  (k:∀r R,GB f P c [] (CN P penc fn F R ρ Hs' r) (Hd n [] (DE 0 args) F<|Hs++[R]) m r):VX P penc f args.toArray F Hs m ρ Hs' :=by
 intro r hm w R hw;refine Ei hf hb<|k r R hm _ w ⟨?_,hw.mono λm hm=>Kx<|QS (λ_ h=>J1 h) hm⟩;rw[hn];exact Ul ha
end
section
variable{β:Type}{f:x4}{P:PP}{c:rh}{ks:UV Kt}{Q:pU->Act->TO->Prop}{m:H1 β}{r:β}{n:Nat}{D:UV If}{S S' :UV (Nat×Do)}{F:Fz}{hs hs' :UV HP}
theorem GB.o(s:Sub S' S)(e:hs=hs')(k:GB f P c ks Q (Hd n D S' F hs') m r):GB f P c ks Q (Hd n D S F hs) m r:=λhm a w ha=>k hm a w ⟨ha.1.sub s,e▸ha.2⟩
end
theorem gJ{c:UV PanicEntry}(h:m=some r->∀a w,A a w->Q (.panic c) a w):m=some r->∀a w,A a w->XN f P ks Q (.panic c) a w:=λhm a w ha=>Hc<|h hm a w ha
def YP(penc:ε->Do)(ret:σ->mq->Prop)(Y:σ->Fz->HP)(Z:ε->Fz->HP)(F:Fz)(R:HP)(r:Out ε σ)(e:mq)(w:TO):Prop:=
 ∃F2,F<=F2/\match r with
  | .ok p=>ret p e/\SH w F2 (star (Y p F2) R)
  | .pan q=>e= .panicked (Sy penc q)/\SH w F2 (star (Z q F2) R)
def TK(P:PP)(penc:ε->Do)(l:Nat)(F:Fz)(arg:α->Fz->UV Do->Prop)(Y:σ->Fz->HP)(Z:ε->Fz->HP)(y:α->σ->H1 (Out ε<|σ×Bool)):Prop:=
 (∀s F0 F1 m,F<=F0->F0<=F1->Y s F0 m->Y s F1 m)/\
 ∀F1,F<=F1->∀x vs s r,arg x F1 vs->y x s=some r->∀w R,SH w F1 (star (Y s F1) R)->
  ∃f tmps assign body,(Instr.yield l vs.toArray).run P w= .ok (.round l f tmps assign body) w/\
   RoundIn Fence.wide 0 P l f tmps assign body w (YP penc (fun(p:σ×Bool) e=>e= .returned (.bool p.2)) (λp=>Y p.1) Z F1 R r)
def xu(P:PP)(penc:ε->Do)(f:x4)(args:OF Do)(F:Fz)(H:HP)(m:H1 (Out ε σ))(Y:σ->Fz->HP)(Z:ε->Fz->HP):Prop:=∀r,m=some r->∀w R,SH w F (star H R)->Calls P f args w (YP penc (λ_ e=>∃v,e= .returned v) Y Z F R r)
def uw(P:PP)(F:Fz)(f:x4)(caps:UV Do)(arg:α->Fz->UV Do->Prop)(mk:∀ε σ:Type,(α->σ->H1 (Out ε<|σ×Bool))->σ->H1 (Out ε σ)):Prop:=
 (∀args w,(callFunc f args).run P w= .ok (.enter f args) w)/\
 ∀(ε σ:Type) (penc:ε->Do) (l:Nat) (Y:σ->Fz->HP) (Z:ε->Fz->HP) (y:α->σ->H1 (Out ε<|σ×Bool)) (F1:Fz),F<=F1->TK P penc l F1 arg Y Z y->∀s,xu P penc f (.func (.yield l) #[] #[]::caps).toArray F1 (Y s F1) (mk ε σ y s) Y Z
def H8(y:α->σ->H1 (Out ε<|σ×Bool)):UV α->σ->H1 (Out ε σ)
 | [],s=>some (.ok s)
 | x::xs,s=>Qt (y x s) (λq=>some<|.pan q) λp=>if p.2 then H8 y xs p.1 else some (.ok p.1)
def Cr(P:PP)(F:Fz)(f:x4)(caps:UV Do)(arg:α->Fz->UV Do->Prop)(l:UV α):Prop:=uw P F f caps arg λ_ _ y s=>H8 y l s
theorem LW{y:α->σ->H1 (σ×Bool)}:∀(l:UV α) (s:σ),H8 (ε:=Empty) (λx s=>(y x s).map .ok) l s=(Un y l s).map .ok
 | [],s=>rfl
 | x::xs,s=>by
  simp only[H8,Un];cases y x s with
  | none=>rfl
  | some p=>
   simp only[dO,Qt,DO];split
   ·exact LW xs p.1
   ·rfl
theorem Cr.plain{caps:UV Do}{l:UV α}(h:Cr P F f caps arg l):RE P F f caps arg l:=by
 refine⟨h.1,λσ ly Y y F1 le hy s r hm w R hw=> ?_⟩
 have hc:=h.2 Empty σ (λq=>q.elim) ly Y (λq=>q.elim) (λx s=>(y x s).map .ok) F1 le
  ⟨hy.1,λF2 h2 x vs s r hx hr w R hw=>by
   replace hr:(y x s).map Out.ok=some r:=hr
   cases hyx:y x s with
   | none=>rw[hyx] at hr;cases hr
   | some p=>
    rw[hyx] at hr
    simp only[dO,BY] at hr
    subst hr;obtain⟨g,tmps,assign,body,h3,h4⟩:=hy.2 F2 h2 x vs s p hx hyx w R hw;exact⟨g,tmps,assign,body,h3,h4.mono λe w' ⟨F3,le3,he,h5⟩=>⟨F3,le3,he,h5⟩⟩⟩ s (.ok r) ((LW l s).trans (by rw[show Un y l s=some r from hm];rfl)) w R hw
 exact hc.mono λe w' ⟨F3,le3,⟨v,he⟩,h5⟩=>⟨F3,v,le3,he,trivial,h5⟩
section
variable{β ε α σ:Type}{P:PP}{ops:OF j9}{rest:UV j9}{ks:UV Kt}{Q:pU->Act->TO->Prop}{r:β}{n:Nat}{D:UV If}{S:UV (Nat×Do)}{F:Fz}{hs:UV HP}
theorem GL.tL{penc:ε->Do}{l d i:Nat}{ty:IF}{pos:String}{after:OF nA}{vs:UV Do}{of:x8}{os:UV x8}{T:OF IF}{Fb F0:Fz}{arg:α->Fz->UV Do->Prop}{Y:σ->Fz->HP}{Z:ε->Fz->HP}{y:α->σ->H1 (Out ε<|σ×Bool)}{x:α}{s:σ}{gp:ε->H1 β}{g:σ×Bool->H1 β}
  (hd:Nat.blt d n=true) (hy:TK P penc l Fb arg Y Z y) (hf:QI S of=some (.func (.yield l) #[] #[])) (ha:UO S os=some vs) (hx:arg x F vs) (hi:hs[i]? =some (Y s F0)) (le0:Fb<=F0) (le:F0<=F)
  (k:∀p F',y x s=some (.ok p)->F<=F'->GL O P ops rest ks Q (Hd n D ((d,.bool p.2)::S) F'<|hs.set i<|Y p.1 F') (g p) r)
  (kp:∀q F',F<=F'->gp q=some r->∀a w,Hd n D S F' (hs.set i<|Z q F') a w->Q (.panic<|Sy penc q) a w):GL O P ops (⟨some d,.call ⟨.value of,os.toArray,T⟩,ty,pos,after,none⟩::rest) ks Q (Hd n D S F hs) (Qt (y x s) gp g) r:=by
 intro hm a w hA;cases he:y x s with
 | none=>rw[he] at hm;cases hm
 | some p=>
  rw[he] at hm
  obtain⟨f,tmps,assign,body,hr,hround⟩:=hy.2 F (Fz.le_trans le0 le) x vs s p hx he w _<|(hA.2.pull hi).mono λ_ hm=>QQ (λ_ hm=>hy.1 s F0 F _ le0 le hm) hm;unfold X0;rw[AT<|by simp[Region.wanted]];refine⟨.inr rfl,?_⟩;have e:=Xv hA.1 ha
  have hrun:(execOp a.eval ⟨some d,.call ⟨.value of,os.toArray,T⟩,ty,pos,after,none⟩).run P w= .ok (.round l f tmps assign body) w:=by
   simp[execOp,resolve,Deferred.ofValue,hA.1.eval hf,e,invoke,hr]
  rw[hrun];refine⟨λe=>(by rw[DY] at e;cases e),Ms.2<|hround.mono ?_⟩;rintro e w' ⟨F2,le2,hq⟩;cases p with
  | ok p=>obtain⟨rfl,hw⟩:=hq;exact k p F2 he le2 hm _ _ ⟨hA.1.put hd _,SH.push hi hw⟩
  | pan q=>obtain⟨rfl,hw⟩:=hq;exact K0<|kp q F2 le2 hm _ _ ⟨hA.1,SH.push hi hw⟩
end
def MM(b:α->τ->H1 (Out ε τ)):UV α->τ->H1 (Out ε τ)
 | [],s=>some (.ok s)
 | x::xs,s=>Qt (b x s) (λq=>some<|.pan q)<|MM b xs
def jb(b:α->τ->H1 (Out ε τ))(x:α)(s:τ):H1 (Out ε<|τ×Bool):=Qt (b x s) (λq=>some<|.pan q) λs' =>some<|.ok (s',true)
theorem Pg(b:α->τ->H1 (Out ε τ)):∀(l:UV α) (s:τ),H8 (jb b) l s=MM b l s
 | [],s=>rfl
 | x::xs,s=>by
  simp only[H8,jb,MM];cases b x s with
  | none=>rfl
  | some c=>
   cases c with
   | ok s' =>simpa[Qt] using Pg b xs s'
   | pan q=>rfl
def yN(Fb:Fz)(l:Nat)(L:Loop)(I:τ->Fz->UV HP->Prop)(s:τ)(F:Fz):HP:=λm=>∃F0 hs,Fb<=F0/\F0<=F/\I s F0 hs/\star (pt l<|Vu L) (Qh hs) m
def yZ(Fb:Fz)(l:Nat)(L:Loop)(Jp:ε->Fz->UV HP->Prop)(q:ε)(F:Fz):HP:=λm=>∃F0 hs,Fb<=F0/\F0<=F/\Jp q F0 hs/\star (pt l<|Vo L) (Qh hs) m
def xH(penc:ε->Do)(l:Nat)(L:Loop)(I:τ->Fz->UV HP->Prop)(Jp:ε->Fz->UV HP->Prop)(F1:Fz)(R:HP)(r:Out ε τ):pU->Act->TO->Prop:=λe a w=>
 match r with
 | .ok s=>e= .normal/\∃F2 hs,F1<=F2/\I s F2 hs/\SH w F2 (Qh<|pt l (Vo L)::R::hs)
 | .pan q=>e= .panic (Sy penc q)/\a.defers=[]/\∃F2 hs,F1<=F2/\Jp q F2 hs/\SH w F2 (Qh<|pt l (Vo L)::R::hs)
section
variable{ε τ:Type}{penc:ε->Do}{l:Nat}{L:Loop}{I:τ->Fz->UV HP->Prop}{Jp:ε->Fz->UV HP->Prop}{n:Nat}{S:UV (Nat×Do)}{F F1:Fz}{hs:UV HP}{R:HP}
theorem xH.norm{s:τ}{r:Out ε τ}{hs' :UV HP}(le:F1<=F)(h:I s F hs')(e:hs=pt l (Vo L)::R::hs'):some (Out.ok s)=some r->∀a w,Hd n [] S F hs a w->xH penc l L I Jp F1 R r .normal a w:=λe' a w ha=>by
 simp only[BY] at e';subst e';subst e;exact⟨rfl,F,hs',le,h,ha.2⟩
theorem xH.pan{q:ε}{r:Out ε τ}(le:F1<=F)(h:Jp q F hs')(e:hs=pt l (Vo L)::R::hs'):some (Out.pan q)=some r->∀a w,Hd n [] S F hs a w->xH penc l L I Jp F1 R r (.panic<|Sy penc q) a w:=λe' a w ha=>by
 simp only[BY] at e';subst e';subst e;exact⟨rfl,ha.1.2.1,F,hs',le,h,ha.2⟩
end
section
variable{β:Type}{P:PP}{ks:UV Kt}{Q:pU->Act->TO->Prop}{r:β}{n:Nat}{D:UV If}{S:UV (Nat×Do)}{F:Fz}{hs:UV HP}
variable{ε α τ:Type}{penc:ε->Do}{g:x8}{ps:UV Tmp}{assign body:rh}{f f0:x4}{fn0:nH}{caps:UV Do}{arg:α->Fz->UV Do->Prop}{bm:α->τ->H1 (Out ε τ)}{s0:τ}{l:UV α}{gp:ε->H1 β}{k:τ->H1 β}
theorem GB.bP(I:τ->Fz->UV HP->Prop)(Jp:ε->Fz->UV HP->Prop)(hf:P.funcs[f0]? =some fn0)(hg:QI S g=some (.func (.func f) #[] caps.toArray))(hit:Cr P F f caps arg l)(hps:(ps.all λp=>Nat.blt p n)=true)(harg:∀x F' vs,arg x F' vs->vs.length=ps.length)
  (hI:I s0 F hs)
  (round:∀l L F0 F1 x vs s ctl R hs',F<=F0->F0<=F1->arg x F1 vs->I s F0 hs'->GC (some l) P assign [] (BP P l body<|xH penc l L I Jp F1 R ctl) (Hd n [] ((ps.zip vs).reverse++S) F1<|pt l (Vu L)::R::hs') (bm x s) ctl)
  (next:∀q F0 F' s hs',F<=F0->F0<=F'->MM bm l s0=some (.ok s)->I s F0 hs'->GE none P ks Q (Hd n (U2 q::D) S F'<|pt q (.deferred<|some [])::hs') (k s) r)
  (pan:∀q F0 F' e hs',F<=F0->F0<=F'->MM bm l s0=some (.pan e)->Jp e F0 hs'->gp e=some r->∀a w,Hd n (U2 q::D) S F' (pt q (.deferred<|some [])::hs') a w->Q (.panic<|Sy penc e) a w):GB f0 P (.rangeFunc g ps.toArray assign body) ks Q (Hd n D S F hs) (Qt (MM bm l s0) gp k) r:=by
 intro hm a w ha;cases hl:MM bm l s0 with
 | none=>rw[hl] at hm;cases hm
 | some c=>
  rw[hl] at hm
  let L:Loop:={state:=.ready,pending:=none,fn:=f0,tmps:=a.tmps,params:=ps.toArray,assign,body,defers:=w.heap.size}
  have hw1:SH ((w.alloc<|.deferred<|some []).alloc<|.loop L) F (star (yN F (w.heap.size+1) L I s0 F)<|Qh [pt w.heap.size<|.deferred<|some []]):=by
   have h1:=(ha.2.alloc<|.deferred<|some []).alloc<|.loop L;rw[nk] at h1
   have h2:SH ((w.alloc<|.deferred<|some []).alloc<|.loop L) F (Qh<|pt (w.heap.size+1) (Vu L)::Qh [pt w.heap.size<|.deferred<|some []]::hs):=by
    refine h1.mono λm hm=>QS (λm hm=>QQ (λm hm=> ?_) hm) hm;exact⟨m,λ_=>none,λ_=>.inr rfl,Mem.sub.refl _,λ_ _ e=>by simp at e,hm,trivial⟩
   exact(SH.three h2).mono λm hm=>QQ (λm hm=>⟨F,hs,Fz.le_refl _,Fz.le_refl _,hI,hm⟩) hm
  have hY:TK P penc (w.heap.size+1) F arg (yN F (w.heap.size+1) L I) (yZ F (w.heap.size+1) L Jp) (jb bm):=by
   refine⟨λs F0 F1 m _ h1 ⟨G,hs,g0,g1,k⟩=>⟨G,hs,g0,Fz.le_trans g1 h1,k⟩,λF1 h1 x vs s r hx hy w' R hw=> ?_⟩;obtain⟨m,⟨m1,m2,d,s1,s2,⟨F0,hs1,h0,h01,hI1,hp⟩,hq⟩,hk⟩:=hw;have hw3:=SH.bl ⟨m,⟨m1,m2,d,s1,s2,hp,hq⟩,hk⟩;have hlb:w'.heap[w.heap.size+1]? =some (Vu L):=SH.fl (k:=0) rfl hw3;have hn:=harg x F1 vs hx;refine⟨L.fn,_,L.assign,L.body,run_yield (r:={L with state:=.ready,pending:=none}) hlb (by simpa[L] using hn),?_⟩;refine kH hf ?_;cases hc:bm x s with
   | none=>unfold jb at hy;rw[hc] at hy;cases hy
   | some ctl=>
    have hg1:=round (w.heap.size+1) L F0 F1 x vs s ctl R hs1 h0 h01 hx hI1 hc _ w' ⟨DN hps ⟨ha.1.1,rfl,ha.1.2.2⟩,hw3⟩;refine nw hg1 λe a1 w1 hq=> ?_;obtain⟨rfl,w2,hbr,hbody⟩:=hq;refine⟨w2,hbr,nw hbody λe a2 w3 hq=> ?_⟩;unfold jb at hy
    rw[hc] at hy
    cases ctl with
    | ok s' =>
     simp only[Qt,BY] at hy
     subst hy;obtain⟨rfl,F2,hs2,le,hI2,h⟩:=hq;refine⟨_,_,OQ<|SH.fl (k:=0) rfl h,F2,le,rfl,(SH.three<|SH.putAt (k:=0) rfl h<|Vu L).mono λm hm=>QQ (λm hm=> ?_) hm⟩;exact⟨F2,hs2,Fz.le_trans h1 le,Fz.le_refl _,hI2,hm⟩
    | pan q=>
     simp only[Qt,BY] at hy
     subst hy;obtain⟨rfl,hd,F2,hs2,le,hI2,h⟩:=hq;exact⟨hd,F2,le,rfl,(SH.three h).mono λm hm=>QQ (λm hm=>⟨F2,hs2,Fz.le_trans h1 le,Fz.le_refl _,hI2,hm⟩) hm⟩
  have hc:=hit.2 _ _ penc _ _ _ _ F (Fz.le_refl F) hY s0 c (by show H8 _ _ _=_;rw[Pg,hl]) _ _ hw1;refine N1 ⟨w.heap.size+1,[U2 w.heap.size],(w.alloc<|.deferred<|some []).alloc<|.loop L,⟨.fn (.func f) caps.toArray,#[.func (.yield<|w.heap.size+1) #[] #[]]⟩,(w.alloc<|.deferred<|some []).alloc<|.loop L,f,(.func (.yield<|w.heap.size+1) #[] #[]::caps).toArray,(w.alloc<|.deferred<|some []).alloc<|.loop L,nP f0 a.tmps ps.toArray assign body,?_,?_,?_⟩
  ·have hc0:a.eval (.const<|.func (.yield<|w.heap.size+1) #[] #[])= .func (.yield<|w.heap.size+1) #[] #[]:=rfl;simp[resolve,Deferred.ofValue,ha.1.eval hg,hc0]
  ·simp[invoke,hit.1]
  ·refine hc.mono ?_;rintro e w' ⟨F',le,hq⟩;cases c with
   | ok s=>
    obtain⟨⟨v,rfl⟩,m,⟨m1,m2,d,s1,s2,⟨F0,hs',h0,h1,hI',hp⟩,hq⟩,hk⟩:=hq;have h3:=SH.bl ⟨m,⟨m1,m2,d,s1,s2,hp,hq⟩,hk⟩;refine⟨none,_,DP<|SH.fl (k:=0) rfl h3,?_⟩;have h4:SH _ F' (Qh<|pt w.heap.size (.deferred<|some [])::hs'):=(SH.dF 0<|SH.putAt (k:=0) rfl h3<|Ao L none).mono λm hm=>QQ (λm hm=>by obtain⟨m1,_,_,s1,_,hp,_⟩:=hm;exact s1 _ _ hp) hm;exact Yr ks (next w.heap.size F0 F' s hs' h0 h1 hl hI' hm _ _ ⟨⟨ha.1.1,by simp[ha.1.2.1],ha.1.2.2⟩,h4⟩)
   | pan q=>
    obtain⟨rfl,m,⟨m1,m2,d,s1,s2,⟨F0,hs',h0,h1,hI',hp⟩,hq⟩,hk⟩:=hq;have h3:=SH.bl ⟨m,⟨m1,m2,d,s1,s2,hp,hq⟩,hk⟩;have h4:SH _ F' (Qh<|pt w.heap.size (.deferred<|some [])::hs'):=(SH.dF 0 h3).mono λm hm=>QQ (λm hm=>by obtain⟨m1,_,_,s1,_,hp,_⟩:=hm;exact s1 _ _ hp) hm;exact Hc<|pan w.heap.size F0 F' q hs' h0 h1 hl hI' hm _ _ ⟨⟨ha.1.1,by simp[ha.1.2.1],ha.1.2.2⟩,h4⟩
end
def EX(P:PP)(penc:ε->Do)(fn:nH)(F:Fz)(R:HP)(Y:σ->Fz->HP)(Z:ε->Fz->HP)(r:Out ε σ):pU->Act->TO->Prop:=bodyPost P fn<|YP penc (λ_ e=>∃v,e= .returned v) Y Z F R r
section
variable{ε σ:Type}{P:PP}{penc:ε->Do}{fn:nH}{n:Nat}{S:UV (Nat×Do)}{F F' :Fz}{hs:UV HP}{R:HP}{Y:σ->Fz->HP}{Z:ε->Fz->HP}{x:σ}{r:Out ε σ}{rs:UV ResultVar}{vs:UV Do}
theorem xu.enter{args:UV Do}{H:HP}{m:H1 (Out ε σ)}(hf:P.funcs[f]? =some fn)(hb:fn.body=some c)(hn:fn.ntmps=n)(ha:Nat.ble args.length n=true)
  (k:∀r R,GC none P c [] (EX P penc fn F R Y Z r) (Hd n [] (DE 0 args) F [H,R]) m r):xu P penc f args.toArray F H m Y Z:=by
 intro r hm w R hw;refine mJ hf hb<|mg.1<|k r R hm _ w ⟨?_,hw.mono λm hm=>QS (λ_ h=>J1 h) hm⟩;rw[hn];exact Ul ha
theorem Mu(hr:fn.results=rs.toArray)(h:Cq P S F' [Y x F',R] rs vs)(le:F<=F'):some (Out.ok x)=some r->∀a w,Hd n [] S F' [Y x F',R] a w->EX P penc fn F R Y Z r .ret a w:=by
 intro e a w ha;simp only[BY] at e
 subst e;exact⟨ha.1.2.1,_,JW hr ha h,F',le,⟨_,rfl⟩,ha.2.sJ (i:=0) (j:=0) rfl rfl⟩
theorem kN{q:ε}(le:F<=F'):some (Out.pan q)=some r->∀a w,Hd n [] S F' [Z q F',R] a w->EX P penc fn F R Y Z r (.panic<|Sy penc q) a w:=by
 intro e a w ha;simp only[BY] at e
 subst e;exact⟨ha.1.2.1,F',le,rfl,ha.2.sJ (i:=0) (j:=0) rfl rfl⟩
theorem Q5.pan{γ:Type}{I:σ->Act->TO->Prop}{Dn:γ->pU->Act->TO->Prop}{b:γ}{ctl:UE σ γ}{c:UV PanicEntry}(h:∀a w,A a w->Dn b (.panic c) a w):some (UE.done b)=some ctl->∀a w,A a w->Q5 I Dn ctl (.panic c) a w:=λe a w ha=>by
 simp only[BY] at e;subst e;exact⟨by simp,h a w ha⟩
end
end
section
theorem KE.tc{α β β' :Type}{P:PP}{f:x4}{args:OF Do}{F0:Fz}{m:H1 β}{ρ:β'->Fz->Do->Prop}{C:Nat->Fz->Nat->α->HP}{Hs' :Nat->β->Fz->UV HP}{g:β->β'}
  (h:∀γ F,F0<=F->Xz P f args F [Qy γ (C γ) F []] m (λr F v=>ρ (g r) F v) (Hs' γ)):KE P f args F0 (m.map g) ρ:=by
 intro r hm w R hw;obtain⟨x,hx,rfl⟩:=rj.1 hm;obtain⟨le,h1⟩:=hw.de;have h2:SH w F0.se (star (Qh [Qy F0.gn (C F0.gn) F0.se []]) R):=h1.mono λm hm=>QQ (λm hm=>J1 ⟨[],rfl,m,λ_=>none,λ_=>.inr rfl,Mem.sub.refl _,λ_ _ e=>by simp at e,hm,trivial⟩) hm;exact(h _ _ le x hx w R h2).mono λe w' ⟨F',v,l,e,hρ,h3⟩=>⟨F',v,Fz.le_trans le l,e,hρ,h3.drop⟩
theorem Cp.string{H:Type}{enc:IF×Do->H}{P:PP}{W:TO}{t:IF}(ht:P.underlying t=some .string):Cp enc P W t (Ex y3) (λm=>m.length<=maxLen):=by
 intro sp held fuel cs x h;obtain⟨s,rfl,_,hs⟩:=DataW.trod_string ht h;refine⟨s.data.toList,(by show s.data.toList.length<=maxLen;rw[nT];exact hs),λ_ _=> ?_⟩;show[Value.string s]=[.string ⟨s.data.toList.toArray⟩];rw[Array.toArray_toList]
end
section
open Go.ChangeShapes Go.WideShapes Go.ChangeAt Go.RowKit
variable{t:IF}
section
variable{H:Type}{enc:IF×Do->H}{P:PP}{W:TO}
theorem uc{b0:Nat}{e:IF}{v:Do}{d:DataW H}{ps:UV MemPlace}(ht:P.underlying t=some (.slice e))(he:P.underlying e=some .string)(hc:P.cellsOf e=1)
  (hk:Value.okWide P W .any b0 t v) (hd:DataW.Trod enc P W 0 (λ_=>true) true t v d ps) (hw:(d.weights P t).all (·<=reachBytes)=true):∃m p k,(∀x∈m,x.length<=140737488351232)/\v= .slice p m.length k/\QG 1 (Ex y3) (FW W) p k m:=by
 obtain⟨m,p,k,_,hv,hr⟩:=y6 ht (Cp.slice ht hc (by decide)<|Cp.string he) hk hd;refine⟨m,p,k,λx hx=> ?_,hv,hr⟩;obtain⟨fuel,hf⟩:=hd;obtain⟨i,hi,rfl⟩:=rW hx;have hcv:v.cells.toList=[v]:=by rw[hv];rfl
 rw[hcv] at hf
 rcases open_strings ht he hc hf with⟨hcs,_⟩ | ⟨a,len,cap,ss,hcs,_,hl,_,hz,hx',hcell,_⟩
 ·rw[hv] at hcs
  simp only[nU,eT,and_true] at hcs
  omega
 ·rw[hv] at hcs
  simp only[nU,eT,and_true] at hcs
  obtain⟨hp,hlen,_⟩:=hcs;have his:i < ss.length:=by split at hz<;>omega
  rcases hr.2.2 with h0 | ⟨b,o,cs,T,fr,hp',hmem,hel⟩
  ·rw[h0] at hi;simp at hi
  ·rw[hp] at hp'
   simp only[BY] at hp'
   subst hp';have h1:=hel i m[i] (Rw hi) _<|Fz.le_refl _;have h1:(cs.toList.drop<|o+i*1).take 1=[.string<|bs m[i]]:=h1;have h2:=hcell i his;rw[addr_add] at h2
   obtain⟨_,cs',T',fr',hb',hc'⟩:=zf h2;have hm' :W.heap[b]? =some (.cells cs T fr):=hmem;rw[hm'] at hb'
   simp only[BY,Obj.cells.injEq] at hb'
   obtain⟨rfl,_⟩:=hb'
   have h3:cs.toList[o+i]? =some (.string<|bs m[i]):=by
    have:=congrArg List.head? h1;rw[mM,List.head?_take] at this
    simpa[lT] using this
   rw[Array.getElem?_toList,hc'] at h3
   simp only[BY,Value.string.injEq] at h3
   have hlt:(ss.getD i ByteArray.empty)=ss[i]:=by simp[his]
   rw[hlt] at h3
   simp only[pN] at hx'
   rw[hx'.1] at hw
   simp only[DataW.weights,ht,rL,rz,T2] at hw
   have hq:=hw.2.1
   have hall:∀(l:UV ByteArray),(DataW.weightsAll P e<|strs (H:=H) l).all (·<=reachBytes)=true->∀s∈l,s.data.toList.length<=reachBytes:=by
    intro l
    induction l with
    | nil=>intro _ s hs;cases hs
    | cons s l ih=>
     intro h q hq;simp only[strs,s6,DataW.weightsAll,DataW.weights,pw,rY,rL,T2,wt] at h
     rcases y1.1 hq with rfl | hq
     ·exact h.1
     ·exact ih h.2 q hq
   have h4:=hall _ hq ss[i] (by rw[List.mem_take_iff_getElem];exact⟨i,by omega,rfl⟩);rw[h3] at h4
   have h5:(bs m[i]).data.toList=m[i]:=rfl;rw[h5] at h4
   exact h4
theorem Aa{ts:UV IF}{d:DataW H}{ds:UV (DataW H)}{p:Nat->Bool}(h:(DataW.weightsEach P (t::ts)<|d::ds).all p=true):(d.weights P t).all p=true:=by
 rw[DataW.weightsEach,rz,T2] at h
 exact h.1
theorem AZ{ts:UV IF}{d:DataW H}{ds:UV (DataW H)}{p:Nat->Bool}(h:(DataW.weightsEach P (t::ts)<|d::ds).all p=true):(DataW.weightsEach P ts ds).all p=true:=by
 rw[DataW.weightsEach,rz,T2] at h
 exact h.2
theorem qJ{C:Checked}{os:Os}{f:x4}{fn:nH}{s:ChangeSpec}{conds:UV PathCond}{apart fresh handsOn again:Bool}{X:TO->Prop}
  (hX:∀(w w' :TO),w.heap=w'.heap->X w->X w') (own:ownKnob C.prog.godebug=none) (started:os.Started) (noInit:C.prog.inits.idxOf? f=none) (hfn:C.prog.funcs[f]? =some fn)
  (witness:∃(w:TO) (tape:Tape) (i:Input),w.os=os/\(w.forCall tape i).Shaped C.prog/\i.vars=[]/\Input.okWide C.prog (w.forCall tape i) .any w.heap.size f i/\
   ((s.pre enc C.prog fn conds apart (w.forCall tape i).memory i.args/\X (w.forCall tape i).memory)/\sizedMet enc C.prog fn (OpenSpec.ofChange s) apart (w.forCall tape i).memory i.args)/\({}:Assume).holds C.prog (lone (Frame.enter C.prog f i.args .normal) []<|w.forCall tape i))
  (contract:∀(W:TO) (base:Nat) (args:OF Do) (ds gs:UV (DataW H)) (before:UV MemPlace),(∀(j:Nat) t v,fn.params[j]? =some t->args[j]? =some v->Value.okWide C.prog W .any base t v)->
   DataW.Whole enc C.prog fn.params.toList s.vars apart W args.toList ds gs before->W.ShapedOpen C.prog->X W->sizedMet enc C.prog fn (OpenSpec.ofChange s) apart W args->
   Calls C.prog f args W λe W' =>∃v,e= .returned v/\s.post enc C.prog fn apart fresh handsOn again W args v W'):ReturnsInHanded {} C os f .any (λw args=>(s.pre enc C.prog fn conds apart w args/\X w)/\sizedMet enc C.prog fn (OpenSpec.ofChange s) apart w args) (s.post enc C.prog fn apart fresh handsOn again):=by
 refine returnsInHanded_of_calls own started noInit witness ?_;intro w tape i _ hsh _ hok hpre _;obtain⟨_,_,_,fn',hfn',_,_,_,_,hval⟩:=hok;have e:fn' =fn:=u2<|hfn'.symm.trans hfn;subst e;obtain⟨⟨⟨ds,gs,before,hw,hc⟩,hx⟩,hz⟩:=hpre;refine(contract (w.forCall tape i) w.heap.size i.args ds gs before hval (DataW.Whole.of_heap (w' :=w.forCall tape i) (by rfl) hw) hsh (hX _ _ (by rfl) hx)<|hz.of_heap<|by rfl).mono λe W' ⟨v,he,hp⟩=> ?_;subst he;exact ChangeSpec.post_blind hp
theorem MJ{f:x4}{fn:nH}{s:ChangeSpec}{tb:IF}{fresh:Bool}(hP:laidOutB P=true)(hread:(fn.params.toList.all λt=>P.readableRec t&&decide (t < P.types.size))=true)
  (hvars:s.vars=[]) (hvt:(OpenSpec.ofChange s).bare.plain.varTypes P=[]) (hrT:fn.resultTypes=#[tb]) (htb:P.underlying tb=some .bool)
  (hspec:∀ds:UV (DataW H),ds.length=fn.params.toList.length->s.fn H ds={results:=[.lit<|.bool true],args:=ds})
  (base:Nat) (args:OF Do) (ds gs:UV (DataW H)) (before:UV MemPlace)
  (hcall:∀(ps:UV MemPlace),(∀(j:Nat) t v,fn.params[j]? =some t->args[j]? =some v->Value.okWide P W .any base t v)->
   DataW.TrodAll enc P W 0 (λ_=>true) true fn.params.toList args.toList ds ps->(DataW.weightsEach P fn.params.toList ds).all (·<=reachBytes)=true->KE P f args (FW W) (some true) (λr _ v=>v= .bool r))
  (hval:∀(j:Nat) t v,fn.params[j]? =some t->args[j]? =some v->Value.okWide P W .any base t v)
  (hW:DataW.Whole enc P fn.params.toList s.vars false W args.toList ds gs before) (hz:sizedMet enc P fn (OpenSpec.ofChange s) false W args):Calls P f args W λe W' =>∃v,e= .returned v/\s.post enc P fn false fresh false false W args v W' :=by
 have hs:=hz.weights hW;have hW' :=hW;obtain⟨p,q,hA,hV,rfl,hzz,hn⟩:=hW;rw[hvars] at hV
 obtain⟨rfl,rfl⟩:=trodVars_none hV;rw[hvt,rQ,rQ] at hs
 refine(hcall p hval hA hs true rfl W SI<|SH.start W).mono λe W' ⟨F',v,le,he,hv,hs⟩=>⟨v,he,?_⟩;subst hv;have hb:=y5 le hs;have hlt:∀x∈p,x.block < W.heap.size:=λx hx=>hW'.lt x<|by simp[hx]
 have hsp:s.fn H (ds++[])={results:=[.lit<|.bool true],args:=ds}:=by
  rw[rQ];exact hspec ds<|PL hA
 refine⟨ds,[],p++[],[],p,[],hW',?_,?_,?_,hb.frame _,λh=>by cases h⟩
 ·rw[hsp,hrT];exact trodAll_mk1<|shut_bool htb true
 ·rw[hsp];exact SU hP hb hread hA hlt
 ·rw[hsp,hvars];rfl
end
end
section
abbrev wc:BinOp->pg->Int->Int->H1 Do
 | .add,k,a,b=>some (.int k<|k.wrap<|a+b)
 | .sub,k,a,b=>some (.int k<|k.wrap<|a - b)
 | .mul,k,a,b=>some (.int k<|k.wrap<|a*b)
 | .eql,_,a,b=>some (.bool<|a==b)
 | .neq,_,a,b=>some (.bool<|a != b)
 | .lss,_,a,b=>some (.bool<|decide<|a < b)
 | .leq,_,a,b=>some (.bool<|decide<|a<=b)
 | .gtr,_,a,b=>some (.bool<|decide<|a > b)
 | .geq,_,a,b=>some (.bool<|decide<|a≥b)
 | _,_,_,_=>none
abbrev jk(S:UV (Nat×Do)):Op->(Do->Prop)->Prop
 | .move x,K=>match QI S x with | some v=>K v | none=>False
 | .assign x,K=>match QI S x with | some v=>K v | none=>False
 | .extract x i,K=>match QI S x with
  | some (.tuple vs)=>match vs[i]? with | some v=>K v | none=>False
  | _=>False
 | .nilCheck x,K=>match QI S x with
  | some (.pointer<|some p)=>K (.pointer<|some p)
  | _=>False
 | .unOp .not _ x,K=>match QI S x with
  | some (.bool b)=>K (.bool<|!b)
  | _=>False
 | .binOp o _ x y _,K=>match QI S x,QI S y with
  | some (.int k a),some (.int k' b)=>match decEq k' k,wc o k a b with
   | .isTrue _,some v=>K v
   | _,_=>False
  | _,_=>False
 | _,_=>False
inductive Pt where
 | L (ops:Array Oper) (l:List Oper) (ks:List Kt)
 | C (c:Code) (ks:List Kt)
 | E (ks:List Kt)
abbrev Pt.G{β:Type}(O:H1 Nat)(P:PP)(Q:pU->Act->TO->Prop)(A:Act->TO->Prop)(m:H1 β)(r:β):Pt->Prop
 | .L ops l ks=>GL O P ops l ks Q A m r
 | .C c ks=>GC O P c ks Q A m r
 | .E ks=>GE O P ks Q A m r
abbrev run(n:Nat):Nat->Pt->UV (Nat×Do)->(Pt->UV (Nat×Do)->Prop)->Prop
 | 0,p,S,K=>K p S
 | k+1,.L ops l ks,S,K=>match l with
  | []=>run n k (.E ks) S K
  | ⟨some d,op,_,_,_,none⟩::l=>match Nat.blt d n with
   | true=>jk S op λv=>run n k (.L ops l ks) ((d,v)::S) K
   | false=>False
  | _=>False
 | k+1,.C c ks,S,K=>match c with
  | .seq x y=>run n k (.C x<|.code y::ks) S K
  | .block id c=>run n k (.C c<|.block id::ks) S K
  | .region _ a false=>run n k (.L a a.toList ks) S K
  | .skip=>run n k (.E ks) S K
  | _=>False
 | k+1,.E ks,S,K=>match ks with
  | .code c::ks=>run n k (.C c ks) S K
  | .block _::ks=>run n k (.E ks) S K
  | []=>False
section
variable{O:H1 Nat}{β:Type}{P:PP}{ops:OF j9}{l rest:UV j9}{ks:UV Kt}{Q:pU->Act->TO->Prop}{m:H1 β}{r:β}
variable{n:Nat}{D:UV If}{S:UV (Nat×Do)}{F:Fz}{hs:UV HP}
theorem uJ{d:Nat}{ty t t' :IF}{pos:String}{after:OF nA}{o:BinOp}{x y:x8}{k:pg}{a b:Int}{v:Do}{A:Act}{w:TO}(ha:Sl n D S A)(hx:QI S x=some (.int k a))(hy:QI S y=some (.int k b))(hv:wc o k a b=some v):(execOp A.eval ⟨some d,.binOp o t x y t',ty,pos,after,none⟩).run P w= .ok (.value v) w:=by
 unfold wc at hv
 split at hv
 all_goals first | (cases hv;done) | (simp only[BY] at hv;subst hv;simp[execOp,ha.eval hx,ha.eval hy,eqGuard,binOp,Op.intArith,Op.intCmp])
theorem RI{op:Op}{K:Do->Prop}(h:jk S op K):∃v,K v/\X5 op=true/\∀(d:Nat) (ty:IF) (pos:String) (after:OF nA) (A:Act) (w:TO),Hd n D S F hs A w->(execOp A.eval ⟨some d,op,ty,pos,after,none⟩).run P w= .ok (.value v) w:=by
 unfold jk at h
 split at h
 ·split at h
  ·rename_i e;exact⟨_,h,rfl,λ_ _ _ _ A w ha=>by simp[execOp,ha.1.eval e]⟩
  ·exact h.elim
 ·split at h
  ·rename_i e;exact⟨_,h,rfl,λ_ _ _ _ A w ha=>by simp[execOp,ha.1.eval e]⟩
  ·exact h.elim
 ·split at h
  ·rename_i e;split at h
   ·rename_i e';exact⟨_,h,rfl,λ_ _ _ _ A w ha=>by simp[execOp,ha.1.eval e,Instr.extract,e']⟩
   ·exact h.elim
  ·exact h.elim
 ·split at h
  ·rename_i e;exact⟨_,h,rfl,λ_ _ _ _ A w ha=>by simp[execOp,ha.1.eval e]⟩
  ·exact h.elim
 ·split at h
  ·rename_i e;exact⟨_,h,rfl,λ_ _ _ _ A w ha=>by simp[execOp,ha.1.eval e,Op.unary]⟩
  ·exact h.elim
 ·split at h
  ·rename_i e e';split at h
   ·rename_i hk q _ ev;subst hk;exact⟨_,h,rfl,λ_ _ _ _ A w ha=>uJ ha.1 e e' ev⟩
   ·exact h.elim
  ·exact h.elim
 ·exact h.elim
theorem Ws:∀(k:Nat) (p:Pt) (S:UV (Nat×Do)),run n k p S (λp S=>p.G O P Q (Hd n D S F hs) m r)->p.G O P Q (Hd n D S F hs) m r
 | 0,_,_,h=>h
 | k+1,.L ops l ks,S,h=>by
  unfold run at h
  show GL O P ops l ks Q _ m r;split at h
  ·exact GL.nil<|Ws k (.E ks) S h
  ·split at h
   ·rename_i hd;obtain⟨v,hv,hn,he⟩:=RI h;exact GL.val hd (he _ _ _ _) (Ws k (.L ops _ ks) _ hv) hn
   ·exact h.elim
  ·exact h.elim
 | k+1,.C c ks,S,h=>by
  unfold run at h
  show GC O P c ks Q _ m r;split at h
  ·exact GC.seq<|Ws k (.C _ _) S h
  ·exact GC.block<|Ws k (.C _ _) S h
  ·rename_i a;obtain⟨l⟩:=a;exact GC.region<|Ws k (.L _ _ ks) S h
  ·exact GC.skip<|Ws k (.E ks) S h
  ·exact h.elim
 | k+1,.E ks,S,h=>by
  unfold run at h
  show GE O P ks Q _ m r;split at h
  ·exact GE.code<|Ws k (.C _ _) S h
  ·exact GE.block<|Ws k (.E _) S h
  ·exact h.elim
theorem GL.w(k:Nat)(h:run n k (.L ops l ks) S λp S=>p.G O P Q (Hd n D S F hs) m r):GL O P ops l ks Q (Hd n D S F hs) m r:=Ws k (.L ops l ks) S h
theorem GC.w{c:rh}(k:Nat)(h:run n k (.C c ks) S λp S=>p.G O P Q (Hd n D S F hs) m r):GC O P c ks Q (Hd n D S F hs) m r:=Ws k (.C c ks) S h
theorem GE.w(k:Nat)(h:run n k (.E ks) S λp S=>p.G O P Q (Hd n D S F hs) m r):GE O P ks Q (Hd n D S F hs) m r:=Ws k (.E ks) S h
abbrev Pt.V(P:PP)(E A:Act->TO->Prop)(m:H1 β)(r:β):Pt->Prop
 | .L ops l _=>GS P ops l E A m r
 | _=>False
theorem Mr{E:Act->TO->Prop}:∀(k:Nat) (ops:OF j9) (l:UV j9) (S:UV (Nat×Do)),run n k (.L ops l []) S (λp S=>p.V P E (Hd n D S F hs) m r)->GS P ops l E (Hd n D S F hs) m r
 | 0,_,_,_,h=>h
 | k+1,ops,l,S,h=>by
  unfold run at h
  split at h
  ·exfalso;cases k with
   | zero=>exact h
   | succ k=>unfold run at h;exact h
  ·split at h
   ·rename_i hd;obtain⟨v,hv,hn,he⟩:=RI h;exact GS.val hd (he _ _ _ _) (Mr k ops _ _ hv) hn
   ·exact h.elim
  ·exact h.elim
theorem GS.w{E:Act->TO->Prop}(k:Nat)(h:run n k (.L ops l []) S λp S=>p.V P E (Hd n D S F hs) m r):GS P ops l E (Hd n D S F hs) m r:=Mr k ops l S h
end
end
section
variable{O:H1 Nat}{β:Type}{P:PP}{n:Nat}{D:UV If}{S0 Si:UV (Nat×Do)}{F:Fz}
variable{ops:OF j9}{l:UV j9}{X:Env->UV Wb}{C:(Nat->Bool)->Env->UV HP}{k:Nat}{o:j9}{os:UV j9}
theorem H2.B(h:∀{L:Nat->Bool} {env:Env} {F' :Fz} {_:F<=F'},GL O P ops [o] [] (GQ n D l X C L env F' k o.dst<|FD l k S0 (X env) 0) (Hd n D (FD l k S0 (X env) 0) F'<|C L env) (some ()) ())(t:H2 O P ops l n D S0 F X C (k+1) os):H2 O P ops l n D S0 F X C k (o::os):=H2.b (λL env F' le=> @h L env F' le) t
theorem GL.fv{d:Nat}{v:Do}{F' :Fz}{L:Nat->Bool}{env:Env}{i:Nat}{x:β}(h:((X env)[i]?,C (Kg L i) env)=(some (v,λ_=>True),C L env)):GL O P ops [] [] (GQ n D l X C L env F' i (some d) Si) (Hd n D ((d,v)::Si) F'<|C L env) (some x) x:=by
 simp only[pN] at h
 exact GL.dt h.1 h.2<|Fz.le_refl _
abbrev u4(n:Nat)(l:UV j9)(S0:UV (Nat×Do))(X:Env->UV Wb)(C:(Nat->Bool)->Env->UV HP)(L:Nat->Bool)(env:Env):Nat->UV j9->Nat->Prop
 | _,_,0=>(0:Nat)=0
 | k,os,c+1=>match os with
  | ⟨some d,op,_,_,_,none⟩::os=>match Nat.blt d n with
   | true=>jk (FD l k S0 (X env) 0) op (λv=>((X env)[k]?,C (Kg L k) env)=(some (v,λ_=>True),C L env))/\u4 n l S0 X C L env (k+1) os c
   | false=>False
  | _=>False
def uU:Env:=⟨λ_=>none,λ_=>0,λ_=>[],λ_=>{mem:=λ_=>none,os:=default,tape:=λ_ _=>0,out:=#[]},λ_=>none⟩
theorem H2.V:∀(c:Nat) {k:Nat} {os:UV j9},(∀L env,u4 n l S0 X C L env k os c)->H2 O P ops l n D S0 F X C (k+c) (os.drop c)->H2 O P ops l n D S0 F X C k os
 | 0,_,_,_,t=>t
 | c+1,k,os,h,t=>by
  have h0:=h λ_=>false
  match os with
  | []=>exact absurd (h0 uU) (by unfold u4;exact id)
  | ⟨none,_,_,_,_,_⟩::os=>exact absurd (h0 uU) (by unfold u4;exact id)
  | ⟨some d,_,_,_,_,some _⟩::os=>exact absurd (h0 uU) (by unfold u4;exact id)
  | ⟨some d,op,ty,pos,after,none⟩::os=>
   have hd:Nat.blt d n=true:=by
    cases hd:Nat.blt d n with
    | true=>rfl
    | false=>have:=h0 uU;unfold u4 at this;simp only[hd] at this
   have h' :∀L env,jk (FD l k S0 (X env) 0) op (λv=>((X env)[k]?,C (Kg L k) env)=(some (v,λ_=>True),C L env))/\u4 n l S0 X C L env (k+1) os c:=λL env=>by
    have:=h L env;unfold u4 at this
    simpa only[hd] using this
   refine H2.b (λL env F' _=> ?_) (H2.V c (λL env=>(h' L env).2) (by rw[show k+1+c=k+(c+1) by omega];exact t));obtain⟨v,hv,hn,he⟩:=RI (n:=n) (D:=D) (F:=F') (hs:=C L env) (P:=P) (h' L env).1;exact GL.val hd (he _ _ _ _) (GL.fv hv) hn
end
end Go.Dec
end
