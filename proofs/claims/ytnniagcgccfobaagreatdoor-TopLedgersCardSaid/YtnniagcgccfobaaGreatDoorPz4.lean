/- For TopLedgers. -/
import Derived.Test.YtnniagcgccfobaaGreatDoorPz3
import Derived.Test.YtnniagcgccfobaaGreatDoorProg
import Derived.Shelf.Strconv.AppendIntPublic10
import Derived.Shelf.Strconv.AtoiAll
import Derived.Shelf.Strings.SplitShaped
import Derived.Shelf.Strings.SlTrimAscii
import Derived.Shelf.Lay
import Derived.Ground.NamesProg
noncomputable section
namespace Go.Proofs.YtnniagcgccfobaaGreatDoor
section
open Go.Dec Go.Shelf Go.RowKit Go.Maps Go.Sort
def Tryz.wS:Go.Shelf.Ren:=⟨fun | 176=>86 | 249=>132 | 288=>159 | 283=>181 | 284=>182 | 285=>183 | 286=>184 | 129=>158 | 317=>197 | 318=>198 | 319=>199 | 320=>200 | 337=>211 | 338=>212 | n=>n,fun | 37=>33 | 2=>2 | 3=>3 | 53=>248 | 4=>4 | 9=>9 | 171=>272 | 0=>0 | 173=>274 | 212=>291 | 51=>157 | 5=>5 | 20=>20 | 213=>292 | 46=>159 | 232=>307 | 233=>308 | n=>n,fun | 17=>2 | 18=>6 | 19=>7 | n=>n⟩
theorem Tryz.xB:Go.Proofs.LaysM.n176 Tryz.prog Tryz.wS:={
 mixed:=by kernel_rfl
 f129:=Tryz.func158.trans (congrArg some (by kernel_rfl))
 f176:=Tryz.func86.trans (congrArg some (by kernel_rfl))
 f249:=Tryz.func132.trans (congrArg some (by kernel_rfl))
 f283:=Tryz.func181.trans (congrArg some (by kernel_rfl))
 f284:=Tryz.func182.trans (congrArg some (by kernel_rfl))
 f285:=Tryz.func183.trans (congrArg some (by kernel_rfl))
 f286:=Tryz.func184.trans (congrArg some (by kernel_rfl))
 f288:=Tryz.func159.trans (congrArg some (by kernel_rfl))
 f317:=Tryz.func197.trans (congrArg some (by kernel_rfl))
 f318:=Tryz.func198.trans (congrArg some (by kernel_rfl))
 f319:=Tryz.func199.trans (congrArg some (by kernel_rfl))
 f320:=Tryz.func200.trans (congrArg some (by kernel_rfl))
 f337:=Tryz.func211.trans (congrArg some (by kernel_rfl))
 f338:=Tryz.func212.trans (congrArg some (by kernel_rfl))
 t0:=Tryz.underlying0
 a0:=Tryz.isAgg0
 z0:=Tryz.sizeOf0
 v0:=Tryz.zeroValue0
 t2:=Tryz.underlying2
 a2:=Tryz.isAgg2
 z2:=Tryz.sizeOf2
 v2:=Tryz.zeroValue2
 t3:=Tryz.underlying3
 a3:=Tryz.isAgg3
 z3:=Tryz.sizeOf3
 v3:=Tryz.zeroValue3
 t4:=Tryz.underlying4
 a4:=Tryz.isAgg4
 z4:=Tryz.sizeOf4
 v4:=Tryz.zeroValue4
 t5:=Tryz.underlying5
 a5:=Tryz.isAgg5
 z5:=Tryz.sizeOf5
 v5:=Tryz.zeroValue5
 t9:=Tryz.underlying9
 a9:=Tryz.isAgg9
 z9:=Tryz.sizeOf9
 v9:=Tryz.zeroValue9
 t20:=Tryz.underlying20
 a20:=Tryz.isAgg20
 z20:=Tryz.sizeOf20
 v20:=Tryz.zeroValue20
 t37:=Tryz.underlying33
 a37:=Tryz.isAgg33
 z37:=Tryz.sizeOf33
 v37:=Tryz.zeroValue33
 t46:=Tryz.underlying159
 a46:=Tryz.isAgg159
 z46:=Tryz.sizeOf159
 v46:=Tryz.zeroValue159
 t51:=Tryz.underlying157
 a51:=Tryz.isAgg157
 z51:=Tryz.sizeOf157
 v51:=Tryz.zeroValue157
 t53:=Tryz.underlying248
 a53:=Tryz.isAgg248
 z53:=Tryz.sizeOf248
 v53:=Tryz.zeroValue248
 t171:=Tryz.underlying272
 a171:=Tryz.isAgg272
 z171:=Tryz.sizeOf272
 v171:=Tryz.zeroValue272
 t173:=Tryz.underlying274
 a173:=Tryz.isAgg274
 z173:=Tryz.sizeOf274
 v173:=Tryz.zeroValue274
 t212:=Tryz.underlying291
 a212:=Tryz.isAgg291
 z212:=Tryz.sizeOf291
 v212:=Tryz.zeroValue291
 t213:=Tryz.underlying292
 a213:=Tryz.isAgg292
 z213:=Tryz.sizeOf292
 t232:=Tryz.underlying307
 a232:=Tryz.isAgg307
 z232:=Tryz.sizeOf307
 v232:=Tryz.zeroValue307
 t233:=Tryz.underlying308
 a233:=Tryz.isAgg308
 z233:=Tryz.sizeOf308
 v233:=Tryz.zeroValue308
 g17:=by kernel_rfl
 g18:=by kernel_rfl
 g19:=by kernel_rfl
 i0:=by kernel_rfl
 i2:=by kernel_rfl
 i3:=by kernel_rfl
 i4:=by kernel_rfl
 i5:=by kernel_rfl
 i9:=by kernel_rfl
 i20:=by kernel_rfl
 i37:=by kernel_rfl
 i46:=by kernel_rfl
 i51:=by kernel_rfl
 i53:=by kernel_rfl
 i171:=by kernel_rfl
 i173:=by kernel_rfl
 i212:=by kernel_rfl
 i232:=by kernel_rfl
 i233:=by kernel_rfl
 m17:=by kernel_rfl
 m18:=by kernel_rfl
 m19:=by kernel_rfl}
def Tryz.u6:Go.Shelf.Ren:=⟨fun | 172=>92 | 244=>138 | 245=>139 | 247=>166 | 279=>167 | 280=>168 | 281=>169 | 282=>170 | 287=>191 | 316=>192 | 171=>194 | 205=>193 | 321=>208 | 322=>209 | 243=>210 | 246=>215 | 283=>181 | 284=>182 | 285=>183 | 286=>184 | 129=>158 | 317=>197 | 318=>198 | 319=>199 | 320=>200 | 337=>211 | 338=>212 | n=>n,fun | 9=>9 | 3=>3 | 75=>210 | 76=>211 | 4=>4 | 5=>5 | 167=>256 | 37=>33 | 0=>0 | 85=>257 | 2=>2 | 168=>259 | 53=>248 | 175=>279 | 46=>159 | 210=>283 | 127=>296 | 145=>299 | 143=>297 | 21=>21 | 171=>272 | 173=>274 | 212=>291 | 51=>157 | 20=>20 | 213=>292 | 232=>307 | 233=>308 | 80=>309 | n=>n,fun | 15=>0 | 16=>1 | 17=>2 | 18=>6 | 19=>7 | n=>n⟩
theorem Tryz.xA:Go.Proofs.LaysC.n172 Tryz.prog Tryz.u6:={
 mixed:=by kernel_rfl
 f129:=Tryz.func158.trans (congrArg some (by kernel_rfl))
 f171:=Tryz.func194.trans (congrArg some (by kernel_rfl))
 f172:=Tryz.func92.trans (congrArg some (by kernel_rfl))
 f205:=Tryz.func193.trans (congrArg some (by kernel_rfl))
 f243:=Tryz.func210.trans (congrArg some (by kernel_rfl))
 f244:=Tryz.func138.trans (congrArg some (by kernel_rfl))
 f245:=Tryz.func139.trans (congrArg some (by kernel_rfl))
 f246:=Tryz.func215.trans (congrArg some (by kernel_rfl))
 f247:=Tryz.func166.trans (congrArg some (by kernel_rfl))
 f279:=Tryz.func167.trans (congrArg some (by kernel_rfl))
 f280:=Tryz.func168.trans (congrArg some (by kernel_rfl))
 f281:=Tryz.func169.trans (congrArg some (by kernel_rfl))
 f282:=Tryz.func170.trans (congrArg some (by kernel_rfl))
 f283:=Tryz.func181.trans (congrArg some (by kernel_rfl))
 f284:=Tryz.func182.trans (congrArg some (by kernel_rfl))
 f285:=Tryz.func183.trans (congrArg some (by kernel_rfl))
 f286:=Tryz.func184.trans (congrArg some (by kernel_rfl))
 f287:=Tryz.func191.trans (congrArg some (by kernel_rfl))
 f316:=Tryz.func192.trans (congrArg some (by kernel_rfl))
 f317:=Tryz.func197.trans (congrArg some (by kernel_rfl))
 f318:=Tryz.func198.trans (congrArg some (by kernel_rfl))
 f319:=Tryz.func199.trans (congrArg some (by kernel_rfl))
 f320:=Tryz.func200.trans (congrArg some (by kernel_rfl))
 f321:=Tryz.func208.trans (congrArg some (by kernel_rfl))
 f322:=Tryz.func209.trans (congrArg some (by kernel_rfl))
 f337:=Tryz.func211.trans (congrArg some (by kernel_rfl))
 f338:=Tryz.func212.trans (congrArg some (by kernel_rfl))
 t0:=Tryz.underlying0
 a0:=Tryz.isAgg0
 z0:=Tryz.sizeOf0
 v0:=Tryz.zeroValue0
 t2:=Tryz.underlying2
 a2:=Tryz.isAgg2
 z2:=Tryz.sizeOf2
 v2:=Tryz.zeroValue2
 t3:=Tryz.underlying3
 a3:=Tryz.isAgg3
 z3:=Tryz.sizeOf3
 v3:=Tryz.zeroValue3
 t4:=Tryz.underlying4
 a4:=Tryz.isAgg4
 z4:=Tryz.sizeOf4
 v4:=Tryz.zeroValue4
 t5:=Tryz.underlying5
 a5:=Tryz.isAgg5
 z5:=Tryz.sizeOf5
 v5:=Tryz.zeroValue5
 t9:=Tryz.underlying9
 a9:=Tryz.isAgg9
 z9:=Tryz.sizeOf9
 v9:=Tryz.zeroValue9
 t20:=Tryz.underlying20
 a20:=Tryz.isAgg20
 z20:=Tryz.sizeOf20
 v20:=Tryz.zeroValue20
 t21:=Tryz.underlying21
 a21:=Tryz.isAgg21
 z21:=Tryz.sizeOf21
 v21:=Tryz.zeroValue21
 t37:=Tryz.underlying33
 a37:=Tryz.isAgg33
 z37:=Tryz.sizeOf33
 v37:=Tryz.zeroValue33
 t46:=Tryz.underlying159
 a46:=Tryz.isAgg159
 z46:=Tryz.sizeOf159
 v46:=Tryz.zeroValue159
 t51:=Tryz.underlying157
 a51:=Tryz.isAgg157
 z51:=Tryz.sizeOf157
 v51:=Tryz.zeroValue157
 t53:=Tryz.underlying248
 a53:=Tryz.isAgg248
 z53:=Tryz.sizeOf248
 v53:=Tryz.zeroValue248
 t75:=Tryz.underlying210
 a75:=Tryz.isAgg210
 z75:=Tryz.sizeOf210
 v75:=Tryz.zeroValue210
 t76:=Tryz.underlying211
 a76:=Tryz.isAgg211
 z76:=Tryz.sizeOf211
 v76:=Tryz.zeroValue211
 t85:=Tryz.underlying257
 a85:=Tryz.isAgg257
 z85:=Tryz.sizeOf257
 v85:=Tryz.zeroValue257
 t127:=Tryz.underlying296
 a127:=Tryz.isAgg296
 z127:=Tryz.sizeOf296
 v127:=Tryz.zeroValue296
 t143:=Tryz.underlying297
 a143:=Tryz.isAgg297
 z143:=Tryz.sizeOf297
 v143:=Tryz.zeroValue297
 t145:=Tryz.underlying299
 a145:=Tryz.isAgg299
 z145:=Tryz.sizeOf299
 v145:=Tryz.zeroValue299
 t167:=Tryz.underlying256
 a167:=Tryz.isAgg256
 z167:=Tryz.sizeOf256
 v167:=Tryz.zeroValue256
 t168:=Tryz.underlying259
 a168:=Tryz.isAgg259
 z168:=Tryz.sizeOf259
 v168:=Tryz.zeroValue259
 t171:=Tryz.underlying272
 a171:=Tryz.isAgg272
 z171:=Tryz.sizeOf272
 v171:=Tryz.zeroValue272
 t173:=Tryz.underlying274
 a173:=Tryz.isAgg274
 z173:=Tryz.sizeOf274
 v173:=Tryz.zeroValue274
 t175:=Tryz.underlying279
 a175:=Tryz.isAgg279
 z175:=Tryz.sizeOf279
 v175:=Tryz.zeroValue279
 t210:=Tryz.underlying283
 a210:=Tryz.isAgg283
 z210:=Tryz.sizeOf283
 v210:=Tryz.zeroValue283
 t212:=Tryz.underlying291
 a212:=Tryz.isAgg291
 z212:=Tryz.sizeOf291
 v212:=Tryz.zeroValue291
 t213:=Tryz.underlying292
 a213:=Tryz.isAgg292
 z213:=Tryz.sizeOf292
 t232:=Tryz.underlying307
 a232:=Tryz.isAgg307
 z232:=Tryz.sizeOf307
 v232:=Tryz.zeroValue307
 t233:=Tryz.underlying308
 a233:=Tryz.isAgg308
 z233:=Tryz.sizeOf308
 v233:=Tryz.zeroValue308
 g15:=by kernel_rfl
 g16:=by kernel_rfl
 g17:=by kernel_rfl
 g18:=by kernel_rfl
 g19:=by kernel_rfl
 t80:=Tryz.underlying309
 a80:=Tryz.isAgg309
 z80:=Tryz.sizeOf309
 v80:=Tryz.zeroValue309
 i0:=by kernel_rfl
 i2:=by kernel_rfl
 i3:=by kernel_rfl
 i4:=by kernel_rfl
 i5:=by kernel_rfl
 i9:=by kernel_rfl
 i20:=by kernel_rfl
 i21:=by kernel_rfl
 i37:=by kernel_rfl
 i46:=by kernel_rfl
 i51:=by kernel_rfl
 i53:=by kernel_rfl
 i75:=by kernel_rfl
 i76:=by kernel_rfl
 i80:=by kernel_rfl
 i85:=by kernel_rfl
 i127:=by kernel_rfl
 i143:=by kernel_rfl
 i145:=by kernel_rfl
 i167:=by kernel_rfl
 i168:=by kernel_rfl
 i171:=by kernel_rfl
 i173:=by kernel_rfl
 i175:=by kernel_rfl
 i210:=by kernel_rfl
 i212:=by kernel_rfl
 i232:=by kernel_rfl
 i233:=by kernel_rfl
 m15:=by kernel_rfl
 m16:=by kernel_rfl
 m17:=by kernel_rfl
 m18:=by kernel_rfl
 m19:=by kernel_rfl
 c0:=by kernel_rfl
 c2:=by kernel_rfl
 c3:=by kernel_rfl
 c4:=by kernel_rfl
 c5:=by kernel_rfl
 c9:=by kernel_rfl
 c20:=by kernel_rfl
 c21:=by kernel_rfl
 c37:=by kernel_rfl
 c46:=by kernel_rfl
 c51:=by kernel_rfl
 c53:=by kernel_rfl
 c75:=by kernel_rfl
 c76:=by kernel_rfl
 c80:=by kernel_rfl
 c85:=by kernel_rfl
 c127:=by kernel_rfl
 c143:=by kernel_rfl
 c145:=by kernel_rfl
 c167:=by kernel_rfl
 c168:=by kernel_rfl
 c171:=by kernel_rfl
 c173:=by kernel_rfl
 c175:=by kernel_rfl
 c210:=by kernel_rfl
 c212:=by kernel_rfl
 c213:=by kernel_rfl
 c232:=by kernel_rfl
 c233:=by kernel_rfl}
def Tryz.ux:Go.Shelf.Ren:=⟨fun | 146=>87 | 221=>133 | 268=>160 | 138=>161 | 143=>162 | 195=>185 | 197=>186 | 218=>187 | 219=>188 | 260=>201 | 217=>202 | 225=>203 | 224=>204 | 267=>205 | 266=>213 | 314=>214 | n=>n,fun | 9=>9 | 31=>203 | 3=>3 | 4=>4 | 0=>0 | 105=>253 | 21=>21 | 5=>5 | 46=>159 | 119=>300 | 139=>303 | 138=>302 | 146=>304 | 51=>157 | n=>n,fun | 1=>3 | 3=>4 | 4=>5 | n=>n⟩
theorem Tryz.xM:Go.Proofs.LaysM.n146 Tryz.prog Tryz.ux:={
 mixed:=by kernel_rfl
 f138:=Tryz.func161.trans (congrArg some (by kernel_rfl))
 f143:=Tryz.func162.trans (congrArg some (by kernel_rfl))
 f146:=Tryz.func87.trans (congrArg some (by kernel_rfl))
 f195:=Tryz.func185.trans (congrArg some (by kernel_rfl))
 f197:=Tryz.func186.trans (congrArg some (by kernel_rfl))
 f217:=Tryz.func202.trans (congrArg some (by kernel_rfl))
 f218:=Tryz.func187.trans (congrArg some (by kernel_rfl))
 f219:=Tryz.func188.trans (congrArg some (by kernel_rfl))
 f221:=Tryz.func133.trans (congrArg some (by kernel_rfl))
 f224:=Tryz.func204.trans (congrArg some (by kernel_rfl))
 f225:=Tryz.func203.trans (congrArg some (by kernel_rfl))
 f260:=Tryz.func201.trans (congrArg some (by kernel_rfl))
 f266:=Tryz.func213.trans (congrArg some (by kernel_rfl))
 f267:=Tryz.func205.trans (congrArg some (by kernel_rfl))
 f268:=Tryz.func160.trans (congrArg some (by kernel_rfl))
 f314:=Tryz.func214.trans (congrArg some (by kernel_rfl))
 t0:=Tryz.underlying0
 a0:=Tryz.isAgg0
 z0:=Tryz.sizeOf0
 v0:=Tryz.zeroValue0
 t3:=Tryz.underlying3
 a3:=Tryz.isAgg3
 z3:=Tryz.sizeOf3
 v3:=Tryz.zeroValue3
 t4:=Tryz.underlying4
 a4:=Tryz.isAgg4
 z4:=Tryz.sizeOf4
 v4:=Tryz.zeroValue4
 t5:=Tryz.underlying5
 a5:=Tryz.isAgg5
 z5:=Tryz.sizeOf5
 v5:=Tryz.zeroValue5
 t9:=Tryz.underlying9
 a9:=Tryz.isAgg9
 z9:=Tryz.sizeOf9
 v9:=Tryz.zeroValue9
 t21:=Tryz.underlying21
 a21:=Tryz.isAgg21
 z21:=Tryz.sizeOf21
 v21:=Tryz.zeroValue21
 t31:=Tryz.underlying203
 a31:=Tryz.isAgg203
 z31:=Tryz.sizeOf203
 v31:=Tryz.zeroValue203
 t46:=Tryz.underlying159
 a46:=Tryz.isAgg159
 z46:=Tryz.sizeOf159
 v46:=Tryz.zeroValue159
 t51:=Tryz.underlying157
 a51:=Tryz.isAgg157
 z51:=Tryz.sizeOf157
 v51:=Tryz.zeroValue157
 t105:=Tryz.underlying253
 a105:=Tryz.isAgg253
 z105:=Tryz.sizeOf253
 v105:=Tryz.zeroValue253
 t119:=Tryz.underlying300
 a119:=Tryz.isAgg300
 z119:=Tryz.sizeOf300
 t138:=Tryz.underlying302
 a138:=Tryz.isAgg302
 z138:=Tryz.sizeOf302
 v138:=Tryz.zeroValue302
 t139:=Tryz.underlying303
 a139:=Tryz.isAgg303
 z139:=Tryz.sizeOf303
 v139:=Tryz.zeroValue303
 t146:=Tryz.underlying304
 a146:=Tryz.isAgg304
 z146:=Tryz.sizeOf304
 v146:=Tryz.zeroValue304
 g1:=by kernel_rfl
 g3:=by kernel_rfl
 g4:=by kernel_rfl
 i0:=by kernel_rfl
 i3:=by kernel_rfl
 i4:=by kernel_rfl
 i5:=by kernel_rfl
 i9:=by kernel_rfl
 i21:=by kernel_rfl
 i31:=by kernel_rfl
 i46:=by kernel_rfl
 i51:=by kernel_rfl
 i105:=by kernel_rfl
 i138:=by kernel_rfl
 i139:=by kernel_rfl
 i146:=by kernel_rfl
 m1:=by kernel_rfl
 s1_3:=λw h=>Go.Proofs.cell_of_shapedOpen_int (zero:=#[.int .i64 0]) (t:=3) h (of_decide_eq_true (by kernel_rfl)) (by kernel_rfl) rfl (by kernel_rfl) (by kernel_rfl) Tryz.underlying3
 m3:=by kernel_rfl
 m4:=by kernel_rfl}
def Tryz.wR:Go.Shelf.Ren:=⟨fun | 162=>88 | 232=>134 | 227=>135 | 234=>136 | 236=>137 | 228=>163 | 271=>164 | 151=>165 | 120=>189 | 197=>186 | 152=>190 | 260=>201 | 137=>206 | 119=>207 | 224=>204 | 225=>203 | 217=>202 | 266=>213 | n=>n,fun | 9=>9 | 4=>4 | 3=>3 | 5=>5 | 117=>227 | 116=>226 | 0=>0 | 124=>230 | 21=>21 | 105=>253 | 46=>159 | 119=>300 | 139=>303 | 138=>302 | n=>n,fun | 3=>4 | 4=>5 | n=>n⟩
theorem Tryz.w9:Go.Proofs.Lays.n162 Tryz.prog Tryz.wR:={
 mixed:=by kernel_rfl
 f119:=Tryz.func207.trans (congrArg some (by kernel_rfl))
 f120:=Tryz.func189.trans (congrArg some (by kernel_rfl))
 f137:=Tryz.func206.trans (congrArg some (by kernel_rfl))
 f151:=Tryz.func165.trans (congrArg some (by kernel_rfl))
 f152:=Tryz.func190.trans (congrArg some (by kernel_rfl))
 f162:=Tryz.func88.trans (congrArg some (by kernel_rfl))
 f197:=Tryz.func186.trans (congrArg some (by kernel_rfl))
 f217:=Tryz.func202.trans (congrArg some (by kernel_rfl))
 f224:=Tryz.func204.trans (congrArg some (by kernel_rfl))
 f225:=Tryz.func203.trans (congrArg some (by kernel_rfl))
 f227:=Tryz.func135.trans (congrArg some (by kernel_rfl))
 f228:=Tryz.func163.trans (congrArg some (by kernel_rfl))
 f232:=Tryz.func134.trans (congrArg some (by kernel_rfl))
 f234:=Tryz.func136.trans (congrArg some (by kernel_rfl))
 f236:=Tryz.func137.trans (congrArg some (by kernel_rfl))
 f260:=Tryz.func201.trans (congrArg some (by kernel_rfl))
 f266:=Tryz.func213.trans (congrArg some (by kernel_rfl))
 f271:=Tryz.func164.trans (congrArg some (by kernel_rfl))
 t0:=Tryz.underlying0
 a0:=Tryz.isAgg0
 z0:=Tryz.sizeOf0
 v0:=Tryz.zeroValue0
 t3:=Tryz.underlying3
 a3:=Tryz.isAgg3
 z3:=Tryz.sizeOf3
 v3:=Tryz.zeroValue3
 t4:=Tryz.underlying4
 a4:=Tryz.isAgg4
 z4:=Tryz.sizeOf4
 v4:=Tryz.zeroValue4
 t5:=Tryz.underlying5
 a5:=Tryz.isAgg5
 z5:=Tryz.sizeOf5
 v5:=Tryz.zeroValue5
 t9:=Tryz.underlying9
 a9:=Tryz.isAgg9
 z9:=Tryz.sizeOf9
 v9:=Tryz.zeroValue9
 t21:=Tryz.underlying21
 a21:=Tryz.isAgg21
 z21:=Tryz.sizeOf21
 v21:=Tryz.zeroValue21
 t46:=Tryz.underlying159
 a46:=Tryz.isAgg159
 z46:=Tryz.sizeOf159
 v46:=Tryz.zeroValue159
 t105:=Tryz.underlying253
 a105:=Tryz.isAgg253
 z105:=Tryz.sizeOf253
 v105:=Tryz.zeroValue253
 t116:=Tryz.underlying226
 a116:=Tryz.isAgg226
 z116:=Tryz.sizeOf226
 t117:=Tryz.underlying227
 a117:=Tryz.isAgg227
 z117:=Tryz.sizeOf227
 v117:=Tryz.zeroValue227
 t119:=Tryz.underlying300
 a119:=Tryz.isAgg300
 z119:=Tryz.sizeOf300
 t124:=Tryz.underlying230
 a124:=Tryz.isAgg230
 z124:=Tryz.sizeOf230
 v124:=Tryz.zeroValue230
 t138:=Tryz.underlying302
 a138:=Tryz.isAgg302
 z138:=Tryz.sizeOf302
 v138:=Tryz.zeroValue302
 t139:=Tryz.underlying303
 a139:=Tryz.isAgg303
 z139:=Tryz.sizeOf303
 v139:=Tryz.zeroValue303
 g3:=by kernel_rfl
 g4:=by kernel_rfl}
structure Wg(F:Fz):Prop where
 pow10:za Tryz.prog F "internal/strconv.uint64pow10" BZ
 maxLen:∃m T fr,F.mem (Tryz.ux.g 1)=some (.cells #[.int .i64 m] T fr)
 errS:∃ev T fr,F.mem (Tryz.u6.g 15)=some (.cells #[ev] T fr)/\(ev= .nilIface∨∃te pe,ev= .iface te pe)
 errR:∃ev T fr,F.mem (Tryz.u6.g 16)=some (.cells #[ev] T fr)/\(ev= .nilIface∨∃te pe,ev= .iface te pe)
theorem Wg.mono{F F' :Fz}(h:Wg F)(le:F<=F'):Wg F' :=
 ⟨h.pow10.mono le,let⟨m,T,fr,e⟩:=h.maxLen;⟨m,T,fr,le.mem _ _ e⟩,let⟨m,T,fr,e,e'⟩:=h.errS;⟨m,T,fr,le.mem _ _ e,e'⟩,let⟨m,T,fr,e,e'⟩:=h.errR;⟨m,T,fr,le.mem _ _ e,e'⟩⟩
theorem zO:OS Tryz.prog 86 5:=λB n i h0 h1 sv xs w hown hB hlim htab=>
 (Go.Proofs.Any.strconv_AppendInt_10 Tryz.xB B n i h0 h1 sv xs w hown hB hlim htab).mono λ_ _ ⟨v',h1,h2,h3,_⟩=>⟨v',h1,h2,h3⟩
theorem infoByte:(Tryz.prog.info? 5).map (λi=>(i.zero,i.size,i.bytes))=some (some (.int .u8 0),1,1):=by kernel_rfl
def okB(b:Bool):Option Unit:=if b then some () else none
theorem CG{b:Bool}{u:Unit}(h:okB b=some u):b=true:=by
 cases b with
 | true=>rfl
 | false=>simp[okB] at h
theorem cell_of{w:World}{b:Nat}{v:Value}{T:TypeId}{fr:Nat×Nat}(h:w.heap[b]? =some (.cells #[v] T fr)):w.cell? ⟨b,0,none⟩=some v:=by simp[World.cell?,h]
theorem Xg(s:List UInt8):(bs s).size=s.length:=by simp[bs,ByteArray.size]
def YK(s sep:List UInt8):Option (List (List UInt8)):=if s.length < 4294967281/\1<=sep.length then some (Go.Lib.split s sep) else none
theorem AA(F0:Fz)(hT:Wg F0)(s sep:List UInt8):KN Tryz.prog 87 [(.string (bs s)),(.string (bs sep))].toArray F0 (YK s sep) (λr F v=>∃(b:Option Addr) (c:Nat),v=(.slice b r.length c)/\QI 1 (Ex kP) F b c r):=by
 intro r hm w R hw;unfold YK at hm
 split at hm
 ·rename_i h;simp only[Option.some.injEq] at hm
  obtain⟨m,T,fr,hmx⟩:=hT.maxLen;have a:1<=(bs sep).size:=by rw[Xg];exact h.2
  refine(Go.Proofs.Any.strings_Split {Tryz.xM with} Tryz.xM.i9 (bs s) (bs sep) m w (by rw[Xg];exact h.1) (cell_of (hw.frozen hmx)) a).mono ?_;rintro e w' ⟨rfl,rfl⟩;have hlen:=Go.Lib.splitB_all (bs sep) a 0 _ (bs s) rfl;have hdat:=Go.Lib.splitB_data (bs sep) 0 (Go.Lib.countB (bs s) (bs sep)) (bs s);have hr:(Go.Lib.splitB (bs sep) 0 (Go.Lib.countB (bs s) (bs sep)) (bs s)).map (·.data.toList)=r:=by rw[hdat,<-hm];rfl
  generalize Go.Lib.splitB (bs sep) 0 (Go.Lib.countB (bs s) (bs sep)) (bs s)=X at hlen hr ⊢
  rw[<-hlen];obtain⟨le,d⟩:=hw.xH (.cells (X.map Value.string).toArray (Tryz.ux.t 9));have hl:r.length=X.length:=by rw[<-hr];simp
  have hle:=Go.Lib.countB_le (bs sep) a (bs s).size (bs s) (Nat.le_refl _);refine⟨_,_,le,rfl,⟨some ⟨w.heap.size,0,none⟩,X.length,by rw[hl],⟨by omega,by rw[hlen];have:=h.1;rw[Xg] at hle;omega,.inr ⟨_,0,_,_,_,rfl,Fz.uS _ _ _,λi x hx F' _=> ?_⟩⟩⟩,d⟩;rw[<-hr,List.getElem?_map] at hx
  cases hX:X[i]? with
  | none=>rw[hX] at hx;cases hx
  | some y=>
   rw[hX] at hx
   simp only[Option.map_some,Option.some.injEq] at hx
   subst hx
   have hlt:i < X.length:=by
    rcases Nat.lt_or_ge i X.length with h | h
    ·exact h
    ·rw[List.getElem?_eq_none h] at hX;cases hX
   have f:(X.map Value.string).length=X.length:=by simp
   show((X.map Value.string).toArray.toList.drop (0+i*1)).take 1=kP _;simp only[Nat.zero_add,Nat.mul_one];rw[List.drop_eq_getElem_cons (by simpa using hlt)];rw[List.getElem?_eq_getElem hlt,Option.some.injEq] at hX
   simp[kP,hX,bs]
 ·cases hm
def Ks(s c:List UInt8):Option (List UInt8):=if s.length<=4294967296/\c.length < 4294967281/\c.all (λb=>decide (b.toNat < 128))=true then some (Go.Lib.trimRightS s c) else none
theorem D4(F0:Fz)(s c:List UInt8):KN Tryz.prog 88 [(.string (bs s)),(.string (bs c))].toArray F0 (Ks s c) (λr _ v=>v=(.string (bs r))):=by
 intro r hm w R hw;unfold Ks at hm
 split at hm
 ·rename_i h;simp only[Option.some.injEq] at hm
  refine(Go.Proofs.Any.strings_TrimRight_laid Tryz.w9 (by kernel_rfl) (bs s) (bs c) w (by rw[Xg];omega) (by rw[Xg];exact h.2.1) (ascii_of_all (by simpa[bs] using h.2.2))).mono ?_;rintro e w' ⟨rfl,hb⟩;exact⟨F0,_,Fz.le_refl _,rfl,by rw[<-hm];rfl,hw.below hb⟩
 ·cases hm
def Yc(s:List UInt8):Option (Int×Bool):=if s.length<=4294967296 then(match Go.Lib.atoiAll s with | .ok v=>some (v,false) | .range=>some (Go.Lib.atoiSat s,true) | _=>some (0,true)) else none
theorem Tp(F0:Fz)(hT:Wg F0)(s:List UInt8):KN Tryz.prog 92 [(.string (bs s))].toArray F0 (Yc s) (λr F v=>∃(a:Value) (b:Unit),v=(.tuple #[(.int .i64 r.1),a])/\zX F a b r.2):=by
 intro r hm w R hw;unfold Yc at hm
 split at hm
 ·rename_i h;cases ha:Go.Lib.atoiAll s with
  | ok v=>
   rw[ha] at hm
   simp only[Option.some.injEq] at hm
   subst hm;refine(Go.Proofs.Any.strconv_Atoi_ok Tryz.xA (bs s) (by rw[Xg];omega) v ha w).mono ?_;rintro e w' ⟨rfl,hW⟩;refine⟨F0,_,Fz.le_refl _,rfl,⟨.nilIface,(),rfl,rfl⟩,hw.below ?_⟩;rcases hW with rfl | ⟨t,rfl⟩
   ·exact Below.refl _ _
   ·exact Go.Lib.bytesWorld_below _ _ _
  | range=>
   rw[ha] at hm
   simp only[Option.some.injEq] at hm
   subst hm;obtain⟨ev,T,fr,hg,hev⟩:=hT.errR;refine(Go.Proofs.Any.strconv_Atoi_range Tryz.xA (bs s) (by rw[Xg];omega) ha ev w (cell_of (hw.frozen hg)) hev).mono ?_;rintro e w' ⟨N,rfl,_,_,hb⟩;exact⟨F0,_,Fz.le_refl _,rfl,⟨_,(),rfl,⟨_,_,rfl⟩⟩,hw.below hb⟩
  | _=>
   rw[ha] at hm
   simp only[Option.some.injEq] at hm
   subst hm;obtain⟨ev,T,fr,hg,hev⟩:=hT.errS;refine(Go.Proofs.Any.strconv_Atoi_syntax Tryz.xA (bs s) (by rw[Xg];omega) ha ev w (cell_of (hw.frozen hg)) hev).mono ?_;rintro e w' ⟨N,rfl,_,_,hb⟩;exact⟨F0,_,Fz.le_refl _,rfl,⟨_,(),rfl,⟨_,_,rfl⟩⟩,hw.below hb⟩
 ·cases hm
def Bl{α:Type}(n:Nat)(l:List α):Nat->Nat->List (Int×List α)
 | 0,_=>[]
 | d+1,a=>if a < l.length then((a:Int),(l.drop a).take n)::Bl n l d (a+n) else[]
def Ww{α:Type}(l:List α)(size:Int):Option (List (Int×List α)):=if 0 < size/\size<=1000000/\l.length<=1000000000000 then some (Bl size.toNat l l.length 0) else none
def BJ{α σ:Type}(y:(Int×List α)->σ->Option (σ×Bool))(c1:List α)(c7:Int)(s10:Int×σ):Option (JM (Int×σ) (σ ⊕ σ)):=
 if(decide (s10.1 < (c1.length:Int))) then((Ke c1 s10.1 (KF (c1.length:Int) (Qy (s10.1+c7)))).bind λl_14=>(y (s10.1,l_14) s10.2).bind λp19=>if(!p19.2) then(some (.done (.inr p19.1))) else(QL (Qy (s10.1+c7)) λat_24=>some (.next (at_24,p19.1)))) else(some (.done (.inl s10.2)))
theorem TV{α σ:Type}{y:(Int×List α)->σ->Option (σ×Bool)}{l:List α}{n:Nat}(hn:0 < n)(hn2:n<=1000000)(hl:l.length<=1000000000000):∀(d a:Nat) (s r:σ),l.length<=a+d->a<=l.length+n->Vw y (Bl n l d a) s=some r->
  Qk (BJ y l (n:Int)) ((a:Int),s)=some (.inl r)∨Qk (BJ y l (n:Int)) ((a:Int),s)=some (.inr r)
 | 0,a,s,r,hk,_,h=>by
  simp only[Bl,Vw,Option.some.injEq] at h
  subst h;left;rw[Q9];have:¬a < l.length:=by omega
  simp[BJ,this]
 | d+1,a,s,r,hk,ha,h=>by
  by_cases hlt:a < l.length
  ·simp only[Bl,if_pos hlt,Vw] at h
   have hw:Qy ((a:Int)+n)=((a+n:Nat):Int):=by rw[Q8 (by omega) (by omega)];omega
   have hs:Ke l (a:Int) (KF (l.length:Int) (Qy ((a:Int)+n)))=some ((l.drop a).take n):=by
    rw[hw];unfold KF Ke;split
    ·rename_i h2;rw[if_pos (by omega)];simp only[Int.toNat_natCast];congr 2;omega
    ·rename_i h2;rw[if_pos (by omega)];simp only[Int.toNat_natCast];rw[List.take_of_length_le (by simp),List.take_of_length_le (by simp;omega)]
   rw[Q9]
   have hb:BJ y l (n:Int) ((a:Int),s)=(y ((a:Int),(l.drop a).take n) s).bind λp19=>if(!p19.2) then(some (.done (.inr p19.1))) else some (.next (((a+n:Nat):Int),p19.1)):=by
    show(if decide ((a:Int) < (l.length:Int)) then _ else _)=_;rw[if_pos (by simpa using hlt),hs,<-hw];rfl
   rw[hb];cases hy:y ((a:Int),(l.drop a).take n) s with
   | none=>rw[hy] at h;cases h
   | some p=>
    rw[hy] at h
    simp only[Option.bind_some] at h ⊢
    by_cases hp:p.2=true
    ·rw[if_pos hp] at h
     have:=TV hn hn2 hl d (a+n) p.1 r (by omega) (by omega) h;simpa[hp] using this
    ·rw[if_neg hp] at h
     simp only[Option.some.injEq] at h
     right;simp[hp,h]
  ·simp only[Bl,if_neg hlt,Vw,Option.some.injEq] at h
   subst h;left;rw[Q9];simp[BJ,hlt]
theorem SD{α σ:Type}{y:(Int×List α)->σ->Option (σ×Bool)}{c1:List α}{c7:Int}{l:List (Int×List α)}{s r:σ}(hl:Ww c1 c7=some l)(hr:Vw y l s=some r):((Qk (BJ y c1 c7) (0,s)).bind λb0=>match b0 with | .inl b26=>(some b26) | .inr b26=>(some b26))=some r:=by
 unfold Ww at hl
 split at hl
 ·rename_i h;simp only[Option.some.injEq] at hl
  subst hl;have e7:c7=((c7.toNat:Nat):Int):=by omega
  rcases TV (y:=y) (n:=c7.toNat) (by omega) (by omega) h.2.2 c1.length 0 s r (by omega) (by omega) hr with e | e
  ·rw[<-e7] at e
   have e' :Qk (BJ y c1 c7) (0,s)=some (.inl r):=e;rw[e'];rfl
  ·rw[<-e7] at e
   have e' :Qk (BJ y c1 c7) (0,s)=some (.inr r):=e;rw[e'];rfl
 ·cases hl
end
end Go.Proofs.YtnniagcgccfobaaGreatDoor
end
