/- For OfficeStamps. -/
import Derived.Test.YtepbamgmocpemaaGreatDoorPq3
import Derived.Test.YtepbamgmocpemaaGreatDoorProg
import Derived.Shelf.Strconv.Itoa3
import Derived.Shelf.Strings.Cut
import Derived.Shelf.Small.Strs
import Derived.Shelf.Lay
import Derived.Ground.NamesProg
noncomputable section
namespace Go.Dec
abbrev lQ:=@of_decide_eq_true
abbrev oS:=@Go.Proofs.cell_of_shapedOpen_int
end Go.Dec
namespace Go.Proofs.YtepbamgmocpemaaGreatDoor
section
open Go.Dec Go.Shelf Go.RowKit Go.Maps Go.Sort
def Tryz.aN:Go.Shelf.Ren:=⟨fun | 171=>57 | 243=>81 | 246=>104 | 283=>139 | 284=>140 | 285=>141 | 286=>142 | 129=>192 | 317=>191 | 318=>193 | 319=>194 | 320=>195 | 337=>225 | 338=>226 | n=>n,fun | 3=>3 | 9=>9 | 2=>2 | 4=>4 | 171=>248 | 0=>0 | 53=>249 | 37=>76 | 5=>5 | 173=>252 | 212=>274 | 51=>275 | 20=>20 | 213=>276 | 46=>255 | 232=>306 | 233=>307 | n=>n,fun | 17=>1 | 18=>2 | 19=>3 | n=>n⟩
theorem Tryz.pA:Go.Proofs.LaysM.n171 Tryz.prog Tryz.aN:={
 mixed:=by kernel_rfl
 f129:=Tryz.func192.trans<|congrArg some<|by kernel_rfl
 f171:=Tryz.func57.trans<|congrArg some<|by kernel_rfl
 f243:=Tryz.func81.trans<|congrArg some<|by kernel_rfl
 f246:=Tryz.func104.trans<|congrArg some<|by kernel_rfl
 f283:=Tryz.func139.trans<|congrArg some<|by kernel_rfl
 f284:=Tryz.func140.trans<|congrArg some<|by kernel_rfl
 f285:=Tryz.func141.trans<|congrArg some<|by kernel_rfl
 f286:=Tryz.func142.trans<|congrArg some<|by kernel_rfl
 f317:=Tryz.func191.trans<|congrArg some<|by kernel_rfl
 f318:=Tryz.func193.trans<|congrArg some<|by kernel_rfl
 f319:=Tryz.func194.trans<|congrArg some<|by kernel_rfl
 f320:=Tryz.func195.trans<|congrArg some<|by kernel_rfl
 f337:=Tryz.func225.trans<|congrArg some<|by kernel_rfl
 f338:=Tryz.func226.trans<|congrArg some<|by kernel_rfl
 t0:=Tryz.underlying0
 a0:=Tryz.isAgg0
 z0:=Tryz.sizeOf0
 v0:=Tryz.zeroValue0
 t2:=Tryz.underlying2
 a2:=Tryz.isAgg2
 z2:=Tryz.sizeOf2
 v2:=Tryz.zeroValue2
 t3:=Tryz.underlying3
 a3:=Tryz.isAgg3
 z3:=Tryz.sizeOf3
 v3:=Tryz.zeroValue3
 t4:=Tryz.underlying4
 a4:=Tryz.isAgg4
 z4:=Tryz.sizeOf4
 v4:=Tryz.zeroValue4
 t5:=Tryz.underlying5
 a5:=Tryz.isAgg5
 z5:=Tryz.sizeOf5
 v5:=Tryz.zeroValue5
 t9:=Tryz.underlying9
 a9:=Tryz.isAgg9
 z9:=Tryz.sizeOf9
 v9:=Tryz.zeroValue9
 t20:=Tryz.underlying20
 a20:=Tryz.isAgg20
 z20:=Tryz.sizeOf20
 v20:=Tryz.zeroValue20
 t37:=Tryz.underlying76
 a37:=Tryz.isAgg76
 z37:=Tryz.sizeOf76
 v37:=Tryz.zeroValue76
 t46:=Tryz.underlying255
 a46:=Tryz.isAgg255
 z46:=Tryz.sizeOf255
 v46:=Tryz.zeroValue255
 t51:=Tryz.underlying275
 a51:=Tryz.isAgg275
 z51:=Tryz.sizeOf275
 v51:=Tryz.zeroValue275
 t53:=Tryz.underlying249
 a53:=Tryz.isAgg249
 z53:=Tryz.sizeOf249
 v53:=Tryz.zeroValue249
 t171:=Tryz.underlying248
 a171:=Tryz.isAgg248
 z171:=Tryz.sizeOf248
 v171:=Tryz.zeroValue248
 t173:=Tryz.underlying252
 a173:=Tryz.isAgg252
 z173:=Tryz.sizeOf252
 v173:=Tryz.zeroValue252
 t212:=Tryz.underlying274
 a212:=Tryz.isAgg274
 z212:=Tryz.sizeOf274
 v212:=Tryz.zeroValue274
 t213:=Tryz.underlying276
 a213:=Tryz.isAgg276
 z213:=Tryz.sizeOf276
 t232:=Tryz.underlying306
 a232:=Tryz.isAgg306
 z232:=Tryz.sizeOf306
 v232:=Tryz.zeroValue306
 t233:=Tryz.underlying307
 a233:=Tryz.isAgg307
 z233:=Tryz.sizeOf307
 v233:=Tryz.zeroValue307
 g17:=by kernel_rfl
 g18:=by kernel_rfl
 g19:=by kernel_rfl
 i0:=by kernel_rfl
 i2:=by kernel_rfl
 i3:=by kernel_rfl
 i4:=by kernel_rfl
 i5:=by kernel_rfl
 i9:=by kernel_rfl
 i20:=by kernel_rfl
 i37:=by kernel_rfl
 i46:=by kernel_rfl
 i51:=by kernel_rfl
 i53:=by kernel_rfl
 i171:=by kernel_rfl
 i173:=by kernel_rfl
 i212:=by kernel_rfl
 i232:=by kernel_rfl
 i233:=by kernel_rfl
 m17:=by kernel_rfl
 m18:=by kernel_rfl
 m19:=by kernel_rfl}
def Tryz.sU:Go.Shelf.Ren:=⟨fun | 145=>59 | 220=>83 | 219=>105 | 217=>103 | 225=>143 | 224=>144 | 267=>145 | 266=>138 | 314=>196 | n=>n,fun | 9=>9 | 4=>4 | 59=>112 | 3=>3 | 5=>5 | 46=>255 | 146=>277 | 51=>275 | n=>n,fun | 1=>0 | n=>n⟩
theorem Tryz.pj:Go.Proofs.LaysM.n145 Tryz.prog Tryz.sU:={
 mixed:=by kernel_rfl
 f145:=Tryz.func59.trans<|congrArg some<|by kernel_rfl
 f217:=Tryz.func103.trans<|congrArg some<|by kernel_rfl
 f219:=Tryz.func105.trans<|congrArg some<|by kernel_rfl
 f220:=Tryz.func83.trans<|congrArg some<|by kernel_rfl
 f224:=Tryz.func144.trans<|congrArg some<|by kernel_rfl
 f225:=Tryz.func143.trans<|congrArg some<|by kernel_rfl
 f266:=Tryz.func138.trans<|congrArg some<|by kernel_rfl
 f267:=Tryz.func145.trans<|congrArg some<|by kernel_rfl
 f314:=Tryz.func196.trans<|congrArg some<|by kernel_rfl
 t3:=Tryz.underlying3
 a3:=Tryz.isAgg3
 z3:=Tryz.sizeOf3
 v3:=Tryz.zeroValue3
 t4:=Tryz.underlying4
 a4:=Tryz.isAgg4
 z4:=Tryz.sizeOf4
 v4:=Tryz.zeroValue4
 t5:=Tryz.underlying5
 a5:=Tryz.isAgg5
 z5:=Tryz.sizeOf5
 v5:=Tryz.zeroValue5
 t9:=Tryz.underlying9
 a9:=Tryz.isAgg9
 z9:=Tryz.sizeOf9
 v9:=Tryz.zeroValue9
 t46:=Tryz.underlying255
 a46:=Tryz.isAgg255
 z46:=Tryz.sizeOf255
 v46:=Tryz.zeroValue255
 t51:=Tryz.underlying275
 a51:=Tryz.isAgg275
 z51:=Tryz.sizeOf275
 v51:=Tryz.zeroValue275
 t59:=Tryz.underlying112
 a59:=Tryz.isAgg112
 z59:=Tryz.sizeOf112
 v59:=Tryz.zeroValue112
 t146:=Tryz.underlying277
 a146:=Tryz.isAgg277
 z146:=Tryz.sizeOf277
 v146:=Tryz.zeroValue277
 g1:=by kernel_rfl
 i3:=by kernel_rfl
 i4:=by kernel_rfl
 i5:=by kernel_rfl
 i9:=by kernel_rfl
 i46:=by kernel_rfl
 i51:=by kernel_rfl
 i59:=by kernel_rfl
 i146:=by kernel_rfl
 m1:=by kernel_rfl
 s1_3:=λw h=>oS (zero:=#[.int .i64 0]) (t:=3) h (lQ<|by kernel_rfl) (by kernel_rfl) rfl (by kernel_rfl) (by kernel_rfl) Tryz.underlying3}
def Tryz.sG:Go.Shelf.Ren:=⟨fun | 137=>79 | 217=>103 | 266=>138 | n=>n,fun | 9=>9 | 5=>5 | 3=>3 | n=>n,fun | n=>n⟩
theorem Tryz.sl:Go.Proofs.Lays.n137 Tryz.prog Tryz.sG:={
 mixed:=by kernel_rfl
 f137:=Tryz.func79.trans<|congrArg some<|by kernel_rfl
 f217:=Tryz.func103.trans<|congrArg some<|by kernel_rfl
 f266:=Tryz.func138.trans<|congrArg some<|by kernel_rfl
 t3:=Tryz.underlying3
 a3:=Tryz.isAgg3
 z3:=Tryz.sizeOf3
 v3:=Tryz.zeroValue3
 t5:=Tryz.underlying5
 a5:=Tryz.isAgg5
 z5:=Tryz.sizeOf5
 v5:=Tryz.zeroValue5
 t9:=Tryz.underlying9
 a9:=Tryz.isAgg9
 z9:=Tryz.sizeOf9
 v9:=Tryz.zeroValue9}
structure Xz(F:Fz):Prop where
 pow10:w7 Tryz.prog F "internal/strconv.uint64pow10" Nf
 maxLen:∃m T fr,F.mem (Tryz.sU.g 1)=some (.cells #[.int .i64 m] T fr)
theorem Xz.mono{F F' :Fz}(h:Xz F)(le:F<=F'):Xz F' :=⟨h.pow10.mono le,let⟨m,T,fr,e⟩:=h.maxLen;⟨m,T,fr,le.mem _ _ e⟩⟩
theorem cell_of{w:PP}{b:Nat}{v:Do}{T:If}{fr:Nat×Nat}(h:w.heap[b]? =some (.cells #[v] T fr)):w.cell? ⟨b,0,none⟩=some v:=by simp[World.cell?,h]
theorem uk(s:UV So):(bs s).size=s.length:=by simp[bs,ByteArray.size]
theorem SH.drewN{w:PP}{F:Fz}{H:HP}(h:SH w F H)(n:Nat):SH (w.drewN n) F H:=h.drew _
def UH(s:UV So)(c:Int):H1 Int:=some<|Go.Lib.indexByte s c.toNat.toUInt8
theorem Sw(F0:Fz)(s:UV So)(c:Int):KH Tryz.prog 79 [(.string<|bs s),(.int .u8 c)].toArray F0 (UH s c) (λr _ v=>v=(.int .i64 r)):=by
 intro r hm w R hw;unfold UH at hm
 simp only[BY] at hm
 refine(Go.Proofs.Any.strings_IndexByte {Tryz.sl with} (bs s) c w).mono ?_;rintro e w' ⟨rfl,rfl⟩;exact⟨F0,_,Fz.le_refl _,rfl,by rw[<-hm];simp[bs],hw⟩
def H0(s sep:UV So):H1 (UV So×UV So×Bool):=if s.length < 4294967281 then some (Go.Lib.cut s sep) else none
theorem LA(F0:Fz)(hT:Xz F0)(s sep:UV So):KH Tryz.prog 59 [(.string<|bs s),(.string<|bs sep)].toArray F0 (H0 s sep) (λr _ v=>v= .tuple #[(.string<|bs r.1),(.string<|bs r.2.1),(.bool r.2.2)]):=by
 intro r hm w R hw;unfold H0 at hm
 split at hm
 ·rename_i h;simp only[BY] at hm
  obtain⟨m,T,fr,hmx⟩:=hT.maxLen;refine(Go.Proofs.Any.strings_Cut {Tryz.pj with} (bs s) (bs sep) m w (by rw[uk];exact h)<|cell_of<|hw.frozen hmx).mono ?_;rintro e w' ⟨rfl,n,rfl⟩;exact⟨F0,_,Fz.le_refl _,rfl,by rw[<-hm];simp[bs],SH.drewN hw n⟩
 ·cases hm
def XK(i:Int):H1 (UV So):=if -9223372036854775808<=i/\i<=9223372036854775807 then some (Go.Lib.itoa i) else none
theorem MP(F0:Fz)(hT:Xz F0)(i:Int):KH Tryz.prog 57 [(.int .i64 i)].toArray F0 (XK i) (λr _ v=>v=(.string<|bs r)):=by
 intro r hm w R hw;unfold XK at hm
 split at hm
 ·rename_i h;simp only[BY] at hm
  obtain⟨g,T,fr,a,b⟩:=hT.pow10
  have htab:Go.Lib.TabIs Tryz.prog w "internal/strconv.uint64pow10" .u64 Go.Lib.pow10Tab:=by
   have c:=hw.frozen b;simp[Go.Lib.TabIs,World.var?,a,c,Nf]
  refine(Go.Proofs.Any.strconv_Itoa {Tryz.pA with} i h.1 h.2 w htab).mono ?_;rintro e w' ⟨rfl,k,os,rfl⟩;exact⟨F0,_,Fz.le_refl _,rfl,by rw[<-hm];rfl,hw.below<|Go.Lib.below_grow _ _ (IN _) k os⟩
 ·cases hm
end
section
open Go.Dec Go.Shelf Go.RowKit Go.Maps Go.Sort
set_option maxRecDepth 100000
set_option maxHeartbeats 4000000
theorem xk:Tryz.prog.follows .mixedOrders=true:=by kernel_rfl
theorem um:((Tryz.prog.info? 78).map (·.size))=some 2:=by kernel_rfl
theorem wE:liesAt Tryz.prog Tryz.prog.depth 78 (2 / Tryz.prog.cellsOf 78) 0 78 1=true:=by kernel_rfl
theorem vF(v:Do)(w:PP):(callFunc 82 #[v]).run Tryz.prog w= .ok (.value v) w:=by
 rw[run_callFunc_extern Tryz.func82 (by kernel_rfl) (by kernel_rfl) (by kernel_rfl) (e:=Extern.AbiNoEscape.same)<|by kernel_rfl];rfl
theorem zH:Ud Tryz.prog 5 1 (Ex<|Z6 .u8):=.ex (λ_=>rfl) (λ_=>rfl) Tryz.sizeOf5 ⟨_,Tryz.typeInfo5,by decide+kernel,by decide+kernel⟩ ⟨_,Tryz.zeroValue5,rfl⟩
theorem RS(F0:Fz)(b:Nat)(s:UV So):CT Tryz.prog 58 [vP b 0].toArray F0 (Bz 78 5 b s) (some ()) (λ_ _ _=>True) (λ_ _ _=>Bz 78 5 b s):=by
 obtain⟨ti,a,c⟩:=mI.1 um;refine CT.enter Tryz.func58 rfl Tryz.ntmps58 rfl λr R=> ?_;refine .seq<|.region<|.move rfl rfl<|.sN 0 rfl λp q cap hp hq=> ?_;refine .nilCheck rfl rfl<|.fieldAddr rfl Tryz.underlying78 rfl Tryz.sizeOf75 rfl<|.dq rfl Tryz.isAgg75 rfl (i:=0) rfl rfl<|.rX rfl Tryz.underlying75 rfl rfl<|.nil<|.code ?_;rcases hp with rfl | rfl
 ·refine .cR rfl (.region<|.move rfl rfl<|.move rfl rfl<|.tH rfl Tryz.underlying75 Tryz.underlying160 a (by rw[c];decide) (i:=0) rfl (by simp) rfl<|.pL rfl (vF _) rfl<|.ad rfl Tryz.underlying160 Tryz.underlying75 a (i:=0) rfl wE rfl ?_);refine .nilCheck rfl rfl (.fieldAddr rfl Tryz.underlying78 rfl Tryz.sizeOf75 rfl<|.store (cs' :=[vP b 0,.slice q (XC s).length cap]) Tryz.sizeOf75 rfl rfl rfl rfl (i:=0) rfl (by simp) rfl rfl<|.sB (s:=s) [0,0] (.inr rfl) (λ_=>hq) rfl<|.nil ?_);exact .rY Tryz.results58 .nil (i:=0) (j:=0) rfl rfl (Fz.le_refl _) trivial
 ·refine .cB rfl<|.seq<|.region<|.move rfl rfl<|.nilCheck rfl rfl<|.fieldAddr rfl Tryz.underlying78 rfl Tryz.sizeOf75 rfl<|.dq rfl Tryz.isAgg75 rfl (i:=0) rfl rfl<|.move rfl rfl<|.rQ rfl Tryz.underlying75 a rfl rfl<|.sB (s:=s) [0,0] (.inr rfl) (λ_=>hq) rfl<|.nil<|.code<|.cB rfl<|.skip ?_;exact .rY Tryz.results58 .nil (i:=0) (j:=0) rfl rfl (Fz.le_refl _) trivial
def Cy(s t:UV So):H1 (UV So):=if s.length+t.length<=4294967296 then some (s++t) else none
theorem qG{s t z:UV So}(h:Cy s t=some z):J3 (XC s) (XC t)=some (XC z):=by
 unfold Cy at h
 split at h
 ·rename_i hl;simp only[BY] at h
  subst h;unfold J3;rw[TO (by rw[Sh,Sh];exact hl),zU]
 ·cases h
theorem ke{s t z:UV So}(h:Cy s t=some z):z=s++t:=by
 unfold Cy at h
 split at h
 ·exact(y1 h).symm
 ·cases h
theorem MY(F0:Fz)(b:Nat)(s t:UV So):CT Tryz.prog 23 [vP b 0,.string<|bs t].toArray F0 (Bz 78 5 b s) ((Cy s t).bind some) (λ_ _ _=>True) (λr _ _=>Bz 78 5 b r):=by
 refine CT.enter Tryz.func23 rfl Tryz.ntmps23 rfl λr R=>.bind λz hm=> ?_;have happ:=qG hm;refine .seq<|.region<|.assign rfl rfl<|.assign rfl rfl<|.nil<|.code<|.seq<|.region<|.move rfl rfl<|.ah rfl Tryz.call58 rfl rfl rfl (i:=0) rfl (RS _ b s) λf _ a=> ?_;refine .nil<|.code<|.seq<|.region<|.move rfl rfl<|.move rfl rfl<|.sN 0 rfl λp q cap hp hq=> ?_;refine .nilCheck rfl rfl<|.fieldAddr rfl Tryz.underlying78 rfl Tryz.sizeOf76 rfl<|.dq rfl Tryz.isAgg76 rfl (i:=0) rfl rfl<|.move rfl rfl ?_;refine .tp happ 1 zH (Fz.le_refl _) rfl Tryz.underlying76 Tryz.underlying9 rfl rfl rfl rfl rfl λp' cap' hnil=> ?_;refine .nilCheck rfl rfl (.fieldAddr rfl Tryz.underlying78 rfl Tryz.sizeOf76 rfl<|.store (cs' :=[.pointer p,.slice p' (XC z).length cap']) Tryz.sizeOf76 rfl rfl rfl rfl (i:=0) rfl (by simp) rfl rfl ?_);refine .sB (s:=z) [0,0] hp (λe=> ?_) rfl ?_
 ·subst e;obtain⟨c,d⟩:=hnil rfl;have:=ke hm;subst c;subst d;exact hq
 refine .nil<|.code<|.seq<|.region<|.move rfl rfl<|.bf rfl rfl Tryz.underlying9 rfl<|.assign rfl rfl<|.assign rfl rfl<|.nil<|.code ?_;exact .tL Tryz.results23 (.tmp rfl<|.tmp rfl .nil) (i:=0) (j:=0) rfl rfl a trivial
theorem Oc(F0:Fz)(b:Nat)(s:UV So)(c:So):CT Tryz.prog 24 [vP b 0,.int .u8 c.toNat].toArray F0 (Bz 78 5 b s) ((Cy s [c]).bind some) (λ_ _ _=>True) (λr _ _=>Bz 78 5 b r):=by
 refine CT.enter Tryz.func24 rfl Tryz.ntmps24 rfl λr R=>.bind λz hm=> ?_;have happ:=qG hm;refine .seq<|.region<|.assign rfl rfl<|.nil<|.code<|.seq<|.region<|.move rfl rfl<|.ah rfl Tryz.call58 rfl rfl rfl (i:=0) rfl (RS _ b s) λk _ a=> ?_;refine .nil<|.code<|.seq<|.region<|.move rfl rfl<|.move rfl rfl<|.sN 0 rfl λp q cap hp hq=> ?_;refine .nilCheck rfl rfl<|.fieldAddr rfl Tryz.underlying78 rfl Tryz.sizeOf76 rfl<|.dq rfl Tryz.isAgg76 rfl (i:=0) rfl rfl<|.move rfl rfl ?_;refine .bO (cs:=[.int .u8 c.toNat]) (zc:=[.int .u8 0]) rfl Tryz.underlying76 Tryz.sizeOf5 Tryz.zeroValue5 rfl rfl rfl (by kernel_rfl) (by rfl) λd f l2 g=> ?_;have h:QI 1 (Ex<|Z6 .u8) f (some ⟨d,0,none⟩) 1 (XC [c]):=QI.ofRow g (.cons zH.mono rfl .nil) rfl rfl;refine .sP happ 1 zH l2 rfl Tryz.underlying76 Tryz.underlying76 rfl rfl rfl h rfl rfl λp' cap' => ?_;refine .nilCheck rfl rfl (.fieldAddr rfl Tryz.underlying78 rfl Tryz.sizeOf76 rfl<|.store (cs' :=[.pointer p,.slice p' (XC z).length cap']) Tryz.sizeOf76 rfl rfl rfl rfl (i:=0) rfl (by simp) rfl rfl ?_);refine .sB (s:=z) [0,0] hp (λe=> ?_) rfl ?_
 ·have:=ke hm;rw[e] at this
  simp at this
 refine .nil<|.code<|.seq<|.region<|.assign rfl rfl<|.nil<|.code ?_;exact .tL Tryz.results24 (.tmp rfl .nil) (i:=0) (j:=0) rfl rfl (Fz.le_trans a l2) trivial
theorem qI(F0:Fz)(b:Nat)(s:UV So):CT Tryz.prog 25 [vP b 0].toArray F0 (Bz 78 5 b s) (some s) (λr _ v=>v= .string (bs r)) (λ_ _ _=>AO):=by
 refine CT.enter Tryz.func25 rfl Tryz.ntmps25 rfl λr R=> ?_;refine .seq<|.region<|.assign rfl rfl<|.nil<|.code<|.seq<|.sN 0 rfl λp q cap hp hq=> ?_;refine .bH 10 xk (by kernel_rfl)<|.move rfl rfl<|.nilCheck rfl rfl<|.fieldAddr rfl Tryz.underlying78 rfl Tryz.sizeOf76 rfl<|.dq rfl Tryz.isAgg76 rfl (i:=0) rfl rfl<|.a7 hq rfl rfl<|.move rfl rfl<|.nilCheck rfl rfl<|.fieldAddr rfl Tryz.underlying78 rfl Tryz.sizeOf76 rfl<|.dq rfl Tryz.isAgg76 rfl (i:=0) rfl rfl<|.bW rfl rfl Tryz.underlying76 rfl<|.bR ?_;refine .ay 1 rfl Tryz.underlying111 (by kernel_rfl) rfl rfl rfl rfl<|.assign rfl rfl<|.nil<|.code<|.pk ?_;exact .tL Tryz.results25 (.tmp rfl .nil) (i:=0) (j:=1) rfl rfl (Fz.le_refl _) rfl
theorem qJ{α:Type}(x:H1 α):x.bind some=x:=by cases x<;>rfl
theorem H3(F0:Fz)(b:Nat)(s t:UV So):CT Tryz.prog 23 [vP b 0,.string<|bs t].toArray F0 (Bz 78 5 b s) (Cy s t) (λ_ _ _=>True) (λr _ _=>Bz 78 5 b r):=qJ (Cy s t)▸MY F0 b s t
theorem SJ(F0:Fz)(b:Nat)(s:UV So)(c:So):CT Tryz.prog 24 [vP b 0,.int .u8 c.toNat].toArray F0 (Bz 78 5 b s) (Cy s [c]) (λ_ _ _=>True) (λr _ _=>Bz 78 5 b r):=qJ (Cy s [c])▸Oc F0 b s c
def XY(l:UV Int)(s:Int×UV So):H1 (UK (Int×UV So)<|UV So):=if decide (s.1 < (l.length:Int)) then(ZK l s.1).bind λx=>(Cy s.2 [32]).bind λt=>(XK x).bind λu=>(Cy t u).bind λz=>some (.next (Q5<|s.1+1,z)) else some<|.done s.2
def Jf(word:UV So)(l:UV Int):H1 (UV So):=(Cy [] word).bind λs=>(ZQ (XY l) (0,s)).bind λz=>some z
theorem WX(F0:Fz)(hT:Xz F0)(word:UV So)(l:UV Int)(p:H1 OF)(k:Nat)(h:QI 1 (Ex<|Z6 .i64) F0 p k l):KH Tryz.prog 22 [.string<|bs word,vS p l k].toArray F0 (Jf word l) (λr _ v=>v= .string (bs r)):=by
 refine KH.enter Tryz.func22 rfl Tryz.ntmps22 rfl λr R=> ?_;unfold Jf;refine .seq<|.region<|.assign rfl rfl<|.nil<|.code<|.seq<|.region<|.alloc (cs:=[.pointer none,.slice none 0 0]) rfl Tryz.zeroValue78 rfl λb=>.tk 0 5 rfl<|.nil<|.code ?_;refine .seq<|.region<|.move rfl rfl<|.cc rfl Tryz.call23 rfl rfl rfl (i:=0) rfl (H3 _ b [] word) λs f v _ j _=> ?_;refine .nil<|.code<|.seq<|.seq<|.region<|.move rfl rfl<|.bW rfl rfl Tryz.underlying29 rfl<|.move rfl rfl<|.nil<|.code<|.block ?_;refine .loop (fun(s:Int×UV So) a w=>∃c,f<=c/\Hd 22 [] [(5,vP b 0),(10,vS p l k),(11,vI l.length),(12,vI s.1)] c [Bz 78 5 b s.2,R] a w) (fun(o:UV So) e a w=>e= .exit 0/\∃c,f<=c/\Hd 22 [] [(5,vP b 0)] c [Bz 78 5 b o,R] a w) ?_ ?_ ?_
 ·exact λa w h=>⟨f,Fz.le_refl _,h.1.sub<|.k rfl,h.2⟩
 ·rintro⟨i,s⟩ ctl;refine GG.ex λa w ⟨c,l2,hA⟩=>⟨_,hA,?_⟩;unfold XY;refine .seq<|.region<|.lss rfl rfl rfl<|.nil<|.code<|.seq<|.cond rfl (λhb=> ?_) λhb=> ?_
  ·refine .skip<|.code<|.seq<|.block<|.seq<|.region ?_;refine .idx rfl Tryz.underlying29 Tryz.sizeOf3 (h.mono<|Fz.le_trans j l2) rfl rfl λx C D E F G H m n=> ?_;refine .U rfl Tryz.isAgg3 rfl m (QG (k:=0) n rfl)<|.assign rfl rfl<|.nil<|.code<|.seq<|.region ?_;refine .cc rfl Tryz.call24 rfl rfl rfl (i:=0) rfl (SJ _ b s 32) λt q v3 _ d _=> ?_;refine .nil<|.code<|.region<|.move rfl rfl<|.bC rfl Tryz.call57 rfl rfl rfl (MP _ (hT.mono<|Fz.le_trans j<|Fz.le_trans l2 d) x) ?_;rintro u I _ - y rfl;refine .cc rfl Tryz.call23 rfl rfl rfl (i:=0) rfl (H3 _ b t u) λz A v5 _ B _=> ?_;refine .nil<|.block<|.code<|.region<|.add rfl rfl rfl<|.move rfl rfl<|.nil ?_;exact .bA<|Qz.norm λa w h=>⟨A,Fz.le_trans l2<|Fz.le_trans d<|Fz.le_trans y B,h.1.sub<|.k rfl,h.2⟩
  ·exact .bE rfl<|Qz.exit λa w h=>⟨rfl,c,l2,h.1.sub<|.k rfl,h.2⟩
 ·intro o K hk e a w hD;obtain⟨rfl,c,l2,hA⟩:=hD;refine Q6 rfl<|GG.app ?_ hk a w hA;refine .code<|.seq<|.region<|.cc (e:=some o) (g:=some) rfl Tryz.call25 rfl rfl rfl (i:=0) rfl (qI _ b o) ?_;rintro o' q v3 L d rfl;refine .assign rfl rfl<|.nil<|.code ?_;exact .dw Tryz.results22 (.tmp rfl .nil) (i:=1) rfl (Fz.le_trans j<|Fz.le_trans l2 d) rfl
end
end Go.Proofs.YtepbamgmocpemaaGreatDoor
end
