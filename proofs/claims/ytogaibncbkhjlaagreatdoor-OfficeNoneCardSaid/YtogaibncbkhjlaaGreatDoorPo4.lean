/- For OfficeNone. -/
import Derived.Test.YtogaibncbkhjlaaGreatDoorPo3
import Derived.Test.YtogaibncbkhjlaaGreatDoorProg
import Derived.Shelf.Strconv.Itoa3
import Derived.Shelf.Strings.Cut
import Derived.Shelf.Small.Strs
import Derived.Shelf.Lay
import Derived.Ground.NamesProg
noncomputable section
namespace Go.Proofs.YtogaibncbkhjlaaGreatDoor
section
open Go.Dec Go.Shelf Go.RowKit Go.Maps Go.Sort
def Tryz.gP:Go.Shelf.Ren:=⟨fun | 171=>55 | 243=>79 | 246=>102 | 283=>137 | 284=>138 | 285=>139 | 286=>140 | 129=>190 | 317=>189 | 318=>191 | 319=>192 | 320=>193 | 337=>223 | 338=>224 | n=>n,fun | 3=>3 | 9=>9 | 2=>2 | 4=>4 | 171=>241 | 0=>0 | 53=>242 | 37=>74 | 5=>5 | 173=>245 | 212=>267 | 51=>268 | 20=>20 | 213=>269 | 46=>247 | 232=>299 | 233=>300 | n=>n,fun | 17=>1 | 18=>2 | 19=>3 | n=>n⟩
theorem Tryz.dH:Go.Proofs.LaysM.n171 Tryz.prog Tryz.gP:={
 mixed:=by kernel_rfl
 f129:=Tryz.func190.trans (congrArg some (by kernel_rfl))
 f171:=Tryz.func55.trans (congrArg some (by kernel_rfl))
 f243:=Tryz.func79.trans (congrArg some (by kernel_rfl))
 f246:=Tryz.func102.trans (congrArg some (by kernel_rfl))
 f283:=Tryz.func137.trans (congrArg some (by kernel_rfl))
 f284:=Tryz.func138.trans (congrArg some (by kernel_rfl))
 f285:=Tryz.func139.trans (congrArg some (by kernel_rfl))
 f286:=Tryz.func140.trans (congrArg some (by kernel_rfl))
 f317:=Tryz.func189.trans (congrArg some (by kernel_rfl))
 f318:=Tryz.func191.trans (congrArg some (by kernel_rfl))
 f319:=Tryz.func192.trans (congrArg some (by kernel_rfl))
 f320:=Tryz.func193.trans (congrArg some (by kernel_rfl))
 f337:=Tryz.func223.trans (congrArg some (by kernel_rfl))
 f338:=Tryz.func224.trans (congrArg some (by kernel_rfl))
 t0:=Tryz.underlying0
 a0:=Tryz.isAgg0
 z0:=Tryz.sizeOf0
 v0:=Tryz.zeroValue0
 t2:=Tryz.underlying2
 a2:=Tryz.isAgg2
 z2:=Tryz.sizeOf2
 v2:=Tryz.zeroValue2
 t3:=Tryz.underlying3
 a3:=Tryz.isAgg3
 z3:=Tryz.sizeOf3
 v3:=Tryz.zeroValue3
 t4:=Tryz.underlying4
 a4:=Tryz.isAgg4
 z4:=Tryz.sizeOf4
 v4:=Tryz.zeroValue4
 t5:=Tryz.underlying5
 a5:=Tryz.isAgg5
 z5:=Tryz.sizeOf5
 v5:=Tryz.zeroValue5
 t9:=Tryz.underlying9
 a9:=Tryz.isAgg9
 z9:=Tryz.sizeOf9
 v9:=Tryz.zeroValue9
 t20:=Tryz.underlying20
 a20:=Tryz.isAgg20
 z20:=Tryz.sizeOf20
 v20:=Tryz.zeroValue20
 t37:=Tryz.underlying74
 a37:=Tryz.isAgg74
 z37:=Tryz.sizeOf74
 v37:=Tryz.zeroValue74
 t46:=Tryz.underlying247
 a46:=Tryz.isAgg247
 z46:=Tryz.sizeOf247
 v46:=Tryz.zeroValue247
 t51:=Tryz.underlying268
 a51:=Tryz.isAgg268
 z51:=Tryz.sizeOf268
 v51:=Tryz.zeroValue268
 t53:=Tryz.underlying242
 a53:=Tryz.isAgg242
 z53:=Tryz.sizeOf242
 v53:=Tryz.zeroValue242
 t171:=Tryz.underlying241
 a171:=Tryz.isAgg241
 z171:=Tryz.sizeOf241
 v171:=Tryz.zeroValue241
 t173:=Tryz.underlying245
 a173:=Tryz.isAgg245
 z173:=Tryz.sizeOf245
 v173:=Tryz.zeroValue245
 t212:=Tryz.underlying267
 a212:=Tryz.isAgg267
 z212:=Tryz.sizeOf267
 v212:=Tryz.zeroValue267
 t213:=Tryz.underlying269
 a213:=Tryz.isAgg269
 z213:=Tryz.sizeOf269
 t232:=Tryz.underlying299
 a232:=Tryz.isAgg299
 z232:=Tryz.sizeOf299
 v232:=Tryz.zeroValue299
 t233:=Tryz.underlying300
 a233:=Tryz.isAgg300
 z233:=Tryz.sizeOf300
 v233:=Tryz.zeroValue300
 g17:=by kernel_rfl
 g18:=by kernel_rfl
 g19:=by kernel_rfl
 i0:=by kernel_rfl
 i2:=by kernel_rfl
 i3:=by kernel_rfl
 i4:=by kernel_rfl
 i5:=by kernel_rfl
 i9:=by kernel_rfl
 i20:=by kernel_rfl
 i37:=by kernel_rfl
 i46:=by kernel_rfl
 i51:=by kernel_rfl
 i53:=by kernel_rfl
 i171:=by kernel_rfl
 i173:=by kernel_rfl
 i212:=by kernel_rfl
 i232:=by kernel_rfl
 i233:=by kernel_rfl
 m17:=by kernel_rfl
 m18:=by kernel_rfl
 m19:=by kernel_rfl}
def Tryz.xh:Go.Shelf.Ren:=⟨fun | 145=>57 | 220=>81 | 219=>103 | 217=>101 | 225=>141 | 224=>142 | 267=>143 | 266=>136 | 314=>194 | n=>n,fun | 9=>9 | 4=>4 | 59=>105 | 3=>3 | 5=>5 | 46=>247 | 146=>270 | 51=>268 | n=>n,fun | 1=>0 | n=>n⟩
theorem Tryz.dy:Go.Proofs.LaysM.n145 Tryz.prog Tryz.xh:={
 mixed:=by kernel_rfl
 f145:=Tryz.func57.trans (congrArg some (by kernel_rfl))
 f217:=Tryz.func101.trans (congrArg some (by kernel_rfl))
 f219:=Tryz.func103.trans (congrArg some (by kernel_rfl))
 f220:=Tryz.func81.trans (congrArg some (by kernel_rfl))
 f224:=Tryz.func142.trans (congrArg some (by kernel_rfl))
 f225:=Tryz.func141.trans (congrArg some (by kernel_rfl))
 f266:=Tryz.func136.trans (congrArg some (by kernel_rfl))
 f267:=Tryz.func143.trans (congrArg some (by kernel_rfl))
 f314:=Tryz.func194.trans (congrArg some (by kernel_rfl))
 t3:=Tryz.underlying3
 a3:=Tryz.isAgg3
 z3:=Tryz.sizeOf3
 v3:=Tryz.zeroValue3
 t4:=Tryz.underlying4
 a4:=Tryz.isAgg4
 z4:=Tryz.sizeOf4
 v4:=Tryz.zeroValue4
 t5:=Tryz.underlying5
 a5:=Tryz.isAgg5
 z5:=Tryz.sizeOf5
 v5:=Tryz.zeroValue5
 t9:=Tryz.underlying9
 a9:=Tryz.isAgg9
 z9:=Tryz.sizeOf9
 v9:=Tryz.zeroValue9
 t46:=Tryz.underlying247
 a46:=Tryz.isAgg247
 z46:=Tryz.sizeOf247
 v46:=Tryz.zeroValue247
 t51:=Tryz.underlying268
 a51:=Tryz.isAgg268
 z51:=Tryz.sizeOf268
 v51:=Tryz.zeroValue268
 t59:=Tryz.underlying105
 a59:=Tryz.isAgg105
 z59:=Tryz.sizeOf105
 v59:=Tryz.zeroValue105
 t146:=Tryz.underlying270
 a146:=Tryz.isAgg270
 z146:=Tryz.sizeOf270
 v146:=Tryz.zeroValue270
 g1:=by kernel_rfl
 i3:=by kernel_rfl
 i4:=by kernel_rfl
 i5:=by kernel_rfl
 i9:=by kernel_rfl
 i46:=by kernel_rfl
 i51:=by kernel_rfl
 i59:=by kernel_rfl
 i146:=by kernel_rfl
 m1:=by kernel_rfl
 s1_3:=λw h=>Go.Proofs.cell_of_shapedOpen_int (zero:=#[.int .i64 0]) (t:=3) h (of_decide_eq_true (by kernel_rfl)) (by kernel_rfl) rfl (by kernel_rfl) (by kernel_rfl) Tryz.underlying3}
def Tryz.xX:Go.Shelf.Ren:=⟨fun | 137=>77 | 217=>101 | 266=>136 | n=>n,fun | 9=>9 | 5=>5 | 3=>3 | n=>n,fun | n=>n⟩
theorem Tryz.xy:Go.Proofs.Lays.n137 Tryz.prog Tryz.xX:={
 mixed:=by kernel_rfl
 f137:=Tryz.func77.trans (congrArg some (by kernel_rfl))
 f217:=Tryz.func101.trans (congrArg some (by kernel_rfl))
 f266:=Tryz.func136.trans (congrArg some (by kernel_rfl))
 t3:=Tryz.underlying3
 a3:=Tryz.isAgg3
 z3:=Tryz.sizeOf3
 v3:=Tryz.zeroValue3
 t5:=Tryz.underlying5
 a5:=Tryz.isAgg5
 z5:=Tryz.sizeOf5
 v5:=Tryz.zeroValue5
 t9:=Tryz.underlying9
 a9:=Tryz.isAgg9
 z9:=Tryz.sizeOf9
 v9:=Tryz.zeroValue9}
structure XQ(F:Fz):Prop where
 pow10:jo Tryz.prog F "internal/strconv.uint64pow10" PJ
 maxLen:∃m T fr,F.mem (Tryz.xh.g 1)=some (.cells #[.int .i64 m] T fr)
theorem XQ.mono{F F' :Fz}(h:XQ F)(le:F<=F'):XQ F' :=
 ⟨h.pow10.mono le,let⟨m,T,fr,e⟩:=h.maxLen;⟨m,T,fr,le.mem _ _ e⟩⟩
theorem cell_of{w:World}{b:Nat}{v:Value}{T:TypeId}{fr:Nat×Nat}(h:w.heap[b]? =some (.cells #[v] T fr)):w.cell? ⟨b,0,none⟩=some v:=by simp[World.cell?,h]
theorem kh(s:List UInt8):(bs s).size=s.length:=by simp[bs,ByteArray.size]
theorem SH.drewN{w:World}{F:Fz}{H:HP}(h:SH w F H)(n:Nat):SH (w.drewN n) F H:=h.drew _
def Ve(s:List UInt8)(c:Int):Option Int:=some (Go.Lib.indexByte s c.toNat.toUInt8)
theorem CJ(F0:Fz)(s:List UInt8)(c:Int):KE Tryz.prog 77 [(.string (bs s)),(.int .u8 c)].toArray F0 (Ve s c) (λr _ v=>v=(.int .i64 r)):=by
 intro r hm w R hw;unfold Ve at hm
 simp only[Option.some.injEq] at hm
 refine(Go.Proofs.Any.strings_IndexByte {Tryz.xy with} (bs s) c w).mono ?_;rintro e w' ⟨rfl,rfl⟩;exact⟨F0,_,Fz.le_refl _,rfl,by rw[<-hm];simp[bs],hw⟩
def X1(s sep:List UInt8):Option (List UInt8×List UInt8×Bool):=if s.length < 4294967281 then some (Go.Lib.cut s sep) else none
theorem Rk(F0:Fz)(hT:XQ F0)(s sep:List UInt8):KE Tryz.prog 57 [(.string (bs s)),(.string (bs sep))].toArray F0 (X1 s sep) (λr _ v=>v= .tuple #[(.string (bs r.1)),(.string (bs r.2.1)),(.bool r.2.2)]):=by
 intro r hm w R hw;unfold X1 at hm
 split at hm
 ·rename_i h;simp only[Option.some.injEq] at hm
  obtain⟨m,T,fr,hmx⟩:=hT.maxLen;refine(Go.Proofs.Any.strings_Cut {Tryz.dy with} (bs s) (bs sep) m w (by rw[kh];exact h) (cell_of (hw.frozen hmx))).mono ?_;rintro e w' ⟨rfl,n,rfl⟩;exact⟨F0,_,Fz.le_refl _,rfl,by rw[<-hm];simp[bs],SH.drewN hw n⟩
 ·cases hm
def WW(i:Int):Option (List UInt8):=if -9223372036854775808<=i/\i<=9223372036854775807 then some (Go.Lib.itoa i) else none
theorem P5(F0:Fz)(hT:XQ F0)(i:Int):KE Tryz.prog 55 [(.int .i64 i)].toArray F0 (WW i) (λr _ v=>v=(.string (bs r))):=by
 intro r hm w R hw;unfold WW at hm
 split at hm
 ·rename_i h;simp only[Option.some.injEq] at hm
  obtain⟨g,T,fr,a,b⟩:=hT.pow10
  have htab:Go.Lib.TabIs Tryz.prog w "internal/strconv.uint64pow10" .u64 Go.Lib.pow10Tab:=by
   have c:=hw.frozen b;simp[Go.Lib.TabIs,World.var?,a,c,PJ]
  refine(Go.Proofs.Any.strconv_Itoa {Tryz.dH with} i h.1 h.2 w htab).mono ?_;rintro e w' ⟨rfl,k,os,rfl⟩;exact⟨F0,_,Fz.le_refl _,rfl,by rw[<-hm];rfl,hw.below (Go.Lib.below_grow _ _ (Nat.le_refl _) k os)⟩
 ·cases hm
end
section
open Go.Dec Go.Shelf Go.RowKit Go.Maps Go.Sort
set_option maxRecDepth 100000
set_option maxHeartbeats 4000000
theorem yN:Tryz.prog.follows .mixedOrders=true:=by kernel_rfl
theorem ki:((Tryz.prog.info? 76).map (·.size))=some 2:=by kernel_rfl
theorem jH:liesAt Tryz.prog Tryz.prog.depth 76 (2 / Tryz.prog.cellsOf 76) 0 76 1=true:=by kernel_rfl
theorem zS(v:Value)(w:World):(callFunc 80 #[v]).run Tryz.prog w= .ok (.value v) w:=by
 rw[run_callFunc_extern Tryz.func80 (by kernel_rfl) (by kernel_rfl) (by kernel_rfl) (e:=Extern.AbiNoEscape.same) (by kernel_rfl)];rfl
theorem Eo:Ub Tryz.prog 5 1 (Ex (KI .u8)):=.ex (λ_=>rfl) (λ_=>rfl) Tryz.sizeOf5 ⟨_,Tryz.typeInfo5,by decide+kernel,by decide+kernel⟩ ⟨_,Tryz.zeroValue5,rfl⟩
theorem A8(F0:Fz)(b:Nat)(s:List UInt8):CT Tryz.prog 56 [vP b 0].toArray F0 (Ga 76 5 b s) (some ()) (λ_ _ _=>True) (λ_ _ _=>Ga 76 5 b s):=by
 obtain⟨ti,a,c⟩:=Option.map_eq_some_iff.1 ki;refine CT.enter Tryz.func56 rfl Tryz.ntmps56 rfl λr R=> ?_;refine .seq (.region (.move rfl rfl (.wm 0 rfl λp q cap hp hq=> ?_)));refine .nilCheck rfl rfl (.fieldAddr rfl Tryz.underlying76 rfl Tryz.sizeOf73 rfl (.j rfl Tryz.isAgg73 rfl (i:=0) rfl rfl (.gS rfl Tryz.underlying73 rfl rfl (.nil (.code ?_)))));rcases hp with rfl | rfl
 ·refine .wR rfl (.region (.move rfl rfl (.move rfl rfl (.fS rfl Tryz.underlying73 Tryz.underlying153 a (by rw[c];decide) (i:=0) rfl (by simp) rfl (.dT rfl (zS _) rfl (.gk rfl Tryz.underlying153 Tryz.underlying73 a (i:=0) rfl jH rfl ?_))))));refine .nilCheck rfl rfl (.fieldAddr rfl Tryz.underlying76 rfl Tryz.sizeOf73 rfl (.store (cs' :=[vP b 0,.slice q (Uz s).length cap]) Tryz.sizeOf73 rfl rfl rfl rfl (i:=0) rfl (by simp) rfl rfl (.wq (s:=s) [0,0] (.inr rfl) (λ_=>hq) rfl (.nil ?_))));exact .bE Tryz.results56 .nil (i:=0) (j:=0) rfl rfl (Fz.le_refl _) trivial
 ·refine .wY rfl (.seq (.region (.move rfl rfl (.nilCheck rfl rfl (.fieldAddr rfl Tryz.underlying76 rfl Tryz.sizeOf73 rfl (.j rfl Tryz.isAgg73 rfl (i:=0) rfl rfl (.move rfl rfl (.bW rfl Tryz.underlying73 a rfl rfl (.wq (s:=s) [0,0] (.inr rfl) (λ_=>hq) rfl (.nil (.code (.wY rfl (.skip ?_)))))))))))));exact .bE Tryz.results56 .nil (i:=0) (j:=0) rfl rfl (Fz.le_refl _) trivial
def BR(s t:List UInt8):Option (List UInt8):=if s.length+t.length<=4294967296 then some (s++t) else none
theorem Ly{s t z:List UInt8}(h:BR s t=some z):VT (Uz s) (Uz t)=some (Uz z):=by
 unfold BR at h
 split at h
 ·rename_i hl;simp only[Option.some.injEq] at h
  subst h;unfold VT;rw[if_pos (by rw[B7,B7];exact hl),E0]
 ·cases h
theorem O0{s t z:List UInt8}(h:BR s t=some z):z=s++t:=by
 unfold BR at h
 split at h
 ·exact(Option.some.inj h).symm
 ·cases h
theorem RE(F0:Fz)(b:Nat)(s t:List UInt8):CT Tryz.prog 23 [vP b 0,.string (bs t)].toArray F0 (Ga 76 5 b s) ((BR s t).bind some) (λ_ _ _=>True) (λr _ _=>Ga 76 5 b r):=by
 refine CT.enter Tryz.func23 rfl Tryz.ntmps23 rfl λr R=>.bind λz hm=> ?_;have happ:=Ly hm;refine .seq (.region (.assign rfl rfl (.assign rfl rfl (.nil (.code (.seq (.region (.move rfl rfl (.gv rfl Tryz.call56 rfl rfl rfl (i:=0) rfl (A8 _ b s) λf _ a=> ?_)))))))));refine .nil (.code (.seq (.region (.move rfl rfl (.move rfl rfl (.wm 0 rfl λp q cap hp hq=> ?_))))));refine .nilCheck rfl rfl (.fieldAddr rfl Tryz.underlying76 rfl Tryz.sizeOf74 rfl (.j rfl Tryz.isAgg74 rfl (i:=0) rfl rfl (.move rfl rfl ?_)));refine .fz happ 1 Eo (Fz.le_refl _) rfl Tryz.underlying74 Tryz.underlying9 rfl rfl rfl rfl rfl λp' cap' hnil=> ?_;refine .nilCheck rfl rfl (.fieldAddr rfl Tryz.underlying76 rfl Tryz.sizeOf74 rfl (.store (cs' :=[.pointer p,.slice p' (Uz z).length cap']) Tryz.sizeOf74 rfl rfl rfl rfl (i:=0) rfl (by simp) rfl rfl ?_));refine .wq (s:=z) [0,0] hp (λe=> ?_) rfl ?_
 ·subst e;obtain⟨c,d⟩:=hnil rfl;have:=O0 hm;subst c;subst d;exact hq
 refine .nil (.code (.seq (.region (.move rfl rfl (.wZ rfl rfl Tryz.underlying9 rfl (.assign rfl rfl (.assign rfl rfl (.nil (.code ?_)))))))));exact .fX Tryz.results23 (.tmp rfl (.tmp rfl .nil)) (i:=0) (j:=0) rfl rfl a trivial
theorem Mi(F0:Fz)(b:Nat)(s:List UInt8)(c:UInt8):CT Tryz.prog 24 [vP b 0,.int .u8 c.toNat].toArray F0 (Ga 76 5 b s) ((BR s [c]).bind some) (λ_ _ _=>True) (λr _ _=>Ga 76 5 b r):=by
 refine CT.enter Tryz.func24 rfl Tryz.ntmps24 rfl λr R=>.bind λz hm=> ?_;have happ:=Ly hm;refine .seq (.region (.assign rfl rfl (.nil (.code (.seq (.region (.move rfl rfl (.gv rfl Tryz.call56 rfl rfl rfl (i:=0) rfl (A8 _ b s) λk _ a=> ?_))))))));refine .nil (.code (.seq (.region (.move rfl rfl (.move rfl rfl (.wm 0 rfl λp q cap hp hq=> ?_))))));refine .nilCheck rfl rfl (.fieldAddr rfl Tryz.underlying76 rfl Tryz.sizeOf74 rfl (.j rfl Tryz.isAgg74 rfl (i:=0) rfl rfl (.move rfl rfl ?_)));refine .wA (cs:=[.int .u8 c.toNat]) (zc:=[.int .u8 0]) rfl Tryz.underlying74 Tryz.sizeOf5 Tryz.zeroValue5 rfl rfl rfl (by kernel_rfl) (by rfl) (λd f l2 g=> ?_);have h:QH 1 (Ex (KI .u8)) f (some ⟨d,0,none⟩) 1 (Uz [c]):=QH.ofRow g (.cons Eo.mono rfl .nil) rfl rfl;refine .xd happ 1 Eo l2 rfl Tryz.underlying74 Tryz.underlying74 rfl rfl rfl h rfl rfl λp' cap' => ?_;refine .nilCheck rfl rfl (.fieldAddr rfl Tryz.underlying76 rfl Tryz.sizeOf74 rfl (.store (cs' :=[.pointer p,.slice p' (Uz z).length cap']) Tryz.sizeOf74 rfl rfl rfl rfl (i:=0) rfl (by simp) rfl rfl ?_));refine .wq (s:=z) [0,0] hp (λe=> ?_) rfl ?_
 ·have:=O0 hm;rw[e] at this
  simp at this
 refine .nil (.code (.seq (.region (.assign rfl rfl (.nil (.code ?_))))));exact .fX Tryz.results24 (.tmp rfl .nil) (i:=0) (j:=0) rfl rfl (Fz.le_trans a l2) trivial
theorem L3(F0:Fz)(b:Nat)(s:List UInt8):CT Tryz.prog 25 [vP b 0].toArray F0 (Ga 76 5 b s) (some s) (λr _ v=>v= .string (bs r)) (λ_ _ _=>CI):=by
 refine CT.enter Tryz.func25 rfl Tryz.ntmps25 rfl λr R=> ?_;refine .seq (.region (.assign rfl rfl (.nil (.code (.seq (.wm 0 rfl λp q cap hp hq=> ?_))))));refine .uz 10 yN (by kernel_rfl) (.move rfl rfl (.nilCheck rfl rfl (.fieldAddr rfl Tryz.underlying76 rfl Tryz.sizeOf74 rfl (.j rfl Tryz.isAgg74 rfl (i:=0) rfl rfl (.fL hq rfl rfl (.move rfl rfl (.nilCheck rfl rfl (.fieldAddr rfl Tryz.underlying76 rfl Tryz.sizeOf74 rfl (.j rfl Tryz.isAgg74 rfl (i:=0) rfl rfl (.wI rfl rfl Tryz.underlying74 rfl (.wC ?_)))))))))));refine .fI 1 rfl Tryz.underlying104 (by kernel_rfl) rfl rfl rfl rfl (.assign rfl rfl (.nil (.code (.dJ ?_))));exact .fX Tryz.results25 (.tmp rfl .nil) (i:=0) (j:=1) rfl rfl (Fz.le_refl _) rfl
theorem L4{α:Type}(x:Option α):x.bind some=x:=by cases x<;>rfl
theorem X2(F0:Fz)(b:Nat)(s t:List UInt8):CT Tryz.prog 23 [vP b 0,.string (bs t)].toArray F0 (Ga 76 5 b s) (BR s t) (λ_ _ _=>True) (λr _ _=>Ga 76 5 b r):=L4 (BR s t)▸RE F0 b s t
theorem Bh(F0:Fz)(b:Nat)(s:List UInt8)(c:UInt8):CT Tryz.prog 24 [vP b 0,.int .u8 c.toNat].toArray F0 (Ga 76 5 b s) (BR s [c]) (λ_ _ _=>True) (λr _ _=>Ga 76 5 b r):=L4 (BR s [c])▸Mi F0 b s c
def Wj(l:List Int)(s:Int×List UInt8):Option (Vb (Int×List UInt8) (List UInt8)):=
 if decide (s.1 < (l.length:Int)) then(Zc l s.1).bind λx=>(BR s.2 [32]).bind λt=>(WW x).bind λu=>(BR t u).bind λz=>some (.next (ZF (s.1+1),z)) else some (.done s.2)
def JP(word:List UInt8)(l:List Int):Option (List UInt8):=(BR [] word).bind λs=>(ZV (Wj l) (0,s)).bind λz=>some z
theorem Up(F0:Fz)(hT:XQ F0)(word:List UInt8)(l:List Int)(p:Option Addr)(k:Nat)(h:QH 1 (Ex (KI .i64)) F0 p k l):KE Tryz.prog 22 [.string (bs word),vS p l k].toArray F0 (JP word l) (λr _ v=>v= .string (bs r)):=by
 refine KE.enter Tryz.func22 rfl Tryz.ntmps22 rfl λr R=> ?_;unfold JP;refine .seq (.region (.assign rfl rfl (.nil (.code (.seq (.region (.alloc (cs:=[.pointer none,.slice none 0 0]) rfl Tryz.zeroValue76 rfl λb=>.fx 0 5 rfl (.nil (.code ?_)))))))));refine .seq (.region (.move rfl rfl (.xD rfl Tryz.call23 rfl rfl rfl (i:=0) rfl (X2 _ b [] word) λs f v _ j _=> ?_)));refine .nil (.code (.seq (.seq (.region (.move rfl rfl (.wI rfl rfl Tryz.underlying47 rfl (.move rfl rfl (.nil (.code (.block ?_))))))))));refine .loop (fun(s:Int×List UInt8) a w=>∃c,f<=c/\Hd 22 [] [(5,vP b 0),(10,vS p l k),(11,vI l.length),(12,vI s.1)] c [Ga 76 5 b s.2,R] a w) (fun(o:List UInt8) e a w=>e= .exit 0/\∃c,f<=c/\Hd 22 [] [(5,vP b 0)] c [Ga 76 5 b o,R] a w) ?_ ?_ ?_
 ·exact λa w h=>⟨f,Fz.le_refl _,h.1.sub (.k rfl),h.2⟩
 ·rintro⟨i,s⟩ ctl;refine GC.ex (λa w ⟨c,l2,hA⟩=>⟨_,hA,?_⟩);unfold Wj;refine .seq (.region (.lss rfl rfl rfl (.nil (.code (.seq (.cond rfl (λhb=> ?_) (λhb=> ?_)))))))
  ·refine .skip (.code (.seq (.block (.seq (.region ?_)))));refine .idx rfl Tryz.underlying47 Tryz.sizeOf3 (h.mono (Fz.le_trans j l2)) rfl rfl (λx C D E F G H m n=> ?_);refine .R rfl Tryz.isAgg3 rfl m (QI (k:=0) n rfl) (.assign rfl rfl (.nil (.code (.seq (.region ?_)))));refine .xD rfl Tryz.call24 rfl rfl rfl (i:=0) rfl (Bh _ b s 32) λt q v3 _ d _=> ?_;refine .nil (.code (.region (.move rfl rfl (.uw rfl Tryz.call55 rfl rfl rfl (P5 _ (hT.mono (Fz.le_trans j (Fz.le_trans l2 d))) x) ?_))));rintro u I _ - y rfl;refine .xD rfl Tryz.call23 rfl rfl rfl (i:=0) rfl (X2 _ b t u) λz A v5 _ B _=> ?_;refine .nil (.block (.code (.region (.add rfl rfl rfl (.move rfl rfl (.nil ?_))))));exact .nil (Q9.norm λa w h=>⟨A,Fz.le_trans l2 (Fz.le_trans d (Fz.le_trans y B)),h.1.sub (.k rfl),h.2⟩)
  ·exact .uy rfl (Q9.exit λa w h=>⟨rfl,c,l2,h.1.sub (.k rfl),h.2⟩)
 ·intro o K hk e a w hD;obtain⟨rfl,c,l2,hA⟩:=hD;refine ZK rfl (GE.app ?_ hk a w hA);refine .code (.seq (.region (.xD (e:=some o) (g:=some) rfl Tryz.call25 rfl rfl rfl (i:=0) rfl (L3 _ b o) ?_)));rintro o' q v3 L d rfl;refine .assign rfl rfl (.nil (.code ?_));exact .uq Tryz.results22 (.tmp rfl .nil) (i:=1) rfl (Fz.le_trans j (Fz.le_trans l2 d)) rfl
end
end Go.Proofs.YtogaibncbkhjlaaGreatDoor
end
