/- Own texts and texts printed by a program of mine, for fileOwns_holds; only what it reaches. -/
import Derived.Test.YthnlglmjffdpfaaGreatDoorPo2
import Derived.Test.YthnlglmjffdpfaaGreatDoorProg
import Derived.Shelf.Strconv.AppendIntPublic10
import Derived.Shelf.Strconv.AtoiAll
import Derived.Shelf.Strings.SplitShaped
import Derived.Shelf.Strings.SlTrimAscii
import Derived.Shelf.Strings.Repeat
import Derived.Shelf.Lay
import Derived.Ground.NamesProg
section
namespace Go.Proofs.YthnlglmjffdpfaaGreatDoor
open Go.Dec Go.Shelf Go.RowKit Go.Maps Go.Sort
def Tryz.layAppendInt_ren : Go.Shelf.Ren := ⟨fun | 176 => 96 | 249 => 105 | 288 => 113 | 283 => 125 | 284 => 126 | 285 => 127 | 286 => 128 | 129 => 140 | 317 => 139 | 318 => 141 | 319 => 142 | 320 => 143 | 337 => 154 | 338 => 155 | n => n, fun | 37 => 25 | 2 => 2 | 3 => 3 | 53 => 143 | 4 => 4 | 9 => 9 | 171 => 182 | 0 => 0 | 173 => 185 | 212 => 196 | 51 => 132 | 5 => 5 | 20 => 20 | 213 => 197 | 46 => 111 | 232 => 213 | 233 => 214 | n => n, fun | 17 => 3 | 18 => 6 | 19 => 7 | n => n⟩
theorem Tryz.layAppendInt : Go.Proofs.LaysM.n176 Tryz.prog Tryz.layAppendInt_ren := {
  mixed := by kernel_rfl
  f129 := Tryz.func140.trans (congrArg some (by kernel_rfl))
  f176 := Tryz.func96.trans (congrArg some (by kernel_rfl))
  f249 := Tryz.func105.trans (congrArg some (by kernel_rfl))
  f283 := Tryz.func125.trans (congrArg some (by kernel_rfl))
  f284 := Tryz.func126.trans (congrArg some (by kernel_rfl))
  f285 := Tryz.func127.trans (congrArg some (by kernel_rfl))
  f286 := Tryz.func128.trans (congrArg some (by kernel_rfl))
  f288 := Tryz.func113.trans (congrArg some (by kernel_rfl))
  f317 := Tryz.func139.trans (congrArg some (by kernel_rfl))
  f318 := Tryz.func141.trans (congrArg some (by kernel_rfl))
  f319 := Tryz.func142.trans (congrArg some (by kernel_rfl))
  f320 := Tryz.func143.trans (congrArg some (by kernel_rfl))
  f337 := Tryz.func154.trans (congrArg some (by kernel_rfl))
  f338 := Tryz.func155.trans (congrArg some (by kernel_rfl))
  t0 := Tryz.underlying0
  a0 := Tryz.isAgg0
  z0 := Tryz.sizeOf0
  v0 := Tryz.zeroValue0
  t2 := Tryz.underlying2
  a2 := Tryz.isAgg2
  z2 := Tryz.sizeOf2
  v2 := Tryz.zeroValue2
  t3 := Tryz.underlying3
  a3 := Tryz.isAgg3
  z3 := Tryz.sizeOf3
  v3 := Tryz.zeroValue3
  t4 := Tryz.underlying4
  a4 := Tryz.isAgg4
  z4 := Tryz.sizeOf4
  v4 := Tryz.zeroValue4
  t5 := Tryz.underlying5
  a5 := Tryz.isAgg5
  z5 := Tryz.sizeOf5
  v5 := Tryz.zeroValue5
  t9 := Tryz.underlying9
  a9 := Tryz.isAgg9
  z9 := Tryz.sizeOf9
  v9 := Tryz.zeroValue9
  t20 := Tryz.underlying20
  a20 := Tryz.isAgg20
  z20 := Tryz.sizeOf20
  v20 := Tryz.zeroValue20
  t37 := Tryz.underlying25
  a37 := Tryz.isAgg25
  z37 := Tryz.sizeOf25
  v37 := Tryz.zeroValue25
  t46 := Tryz.underlying111
  a46 := Tryz.isAgg111
  z46 := Tryz.sizeOf111
  v46 := Tryz.zeroValue111
  t51 := Tryz.underlying132
  a51 := Tryz.isAgg132
  z51 := Tryz.sizeOf132
  v51 := Tryz.zeroValue132
  t53 := Tryz.underlying143
  a53 := Tryz.isAgg143
  z53 := Tryz.sizeOf143
  v53 := Tryz.zeroValue143
  t171 := Tryz.underlying182
  a171 := Tryz.isAgg182
  z171 := Tryz.sizeOf182
  v171 := Tryz.zeroValue182
  t173 := Tryz.underlying185
  a173 := Tryz.isAgg185
  z173 := Tryz.sizeOf185
  v173 := Tryz.zeroValue185
  t212 := Tryz.underlying196
  a212 := Tryz.isAgg196
  z212 := Tryz.sizeOf196
  v212 := Tryz.zeroValue196
  t213 := Tryz.underlying197
  a213 := Tryz.isAgg197
  z213 := Tryz.sizeOf197
  t232 := Tryz.underlying213
  a232 := Tryz.isAgg213
  z232 := Tryz.sizeOf213
  v232 := Tryz.zeroValue213
  t233 := Tryz.underlying214
  a233 := Tryz.isAgg214
  z233 := Tryz.sizeOf214
  v233 := Tryz.zeroValue214
  g17 := by kernel_rfl
  g18 := by kernel_rfl
  g19 := by kernel_rfl
  i0 := by kernel_rfl
  i2 := by kernel_rfl
  i3 := by kernel_rfl
  i4 := by kernel_rfl
  i5 := by kernel_rfl
  i9 := by kernel_rfl
  i20 := by kernel_rfl
  i37 := by kernel_rfl
  i46 := by kernel_rfl
  i51 := by kernel_rfl
  i53 := by kernel_rfl
  i171 := by kernel_rfl
  i173 := by kernel_rfl
  i212 := by kernel_rfl
  i232 := by kernel_rfl
  i233 := by kernel_rfl
  m17 := by kernel_rfl
  m18 := by kernel_rfl
  m19 := by kernel_rfl }
def Tryz.layAtoi_ren : Go.Shelf.Ren := ⟨fun | 172 => 102 | 244 => 111 | 245 => 112 | 247 => 120 | 279 => 121 | 280 => 122 | 281 => 123 | 282 => 124 | 287 => 135 | 316 => 136 | 171 => 138 | 205 => 137 | 321 => 151 | 322 => 152 | 243 => 153 | 246 => 158 | 283 => 125 | 284 => 126 | 285 => 127 | 286 => 128 | 129 => 140 | 317 => 139 | 318 => 141 | 319 => 142 | 320 => 143 | 337 => 154 | 338 => 155 | n => n, fun | 9 => 9 | 3 => 3 | 75 => 120 | 76 => 121 | 4 => 4 | 5 => 5 | 167 => 176 | 37 => 25 | 0 => 0 | 85 => 177 | 2 => 2 | 168 => 179 | 53 => 143 | 175 => 190 | 46 => 111 | 210 => 193 | 127 => 146 | 145 => 205 | 143 => 203 | 21 => 21 | 171 => 182 | 173 => 185 | 212 => 196 | 51 => 132 | 20 => 20 | 213 => 197 | 232 => 213 | 233 => 214 | 80 => 124 | n => n, fun | 15 => 1 | 16 => 2 | 17 => 3 | 18 => 6 | 19 => 7 | n => n⟩
theorem Tryz.layAtoi : Go.Proofs.LaysC.n172 Tryz.prog Tryz.layAtoi_ren := {
  mixed := by kernel_rfl
  f129 := Tryz.func140.trans (congrArg some (by kernel_rfl))
  f171 := Tryz.func138.trans (congrArg some (by kernel_rfl))
  f172 := Tryz.func102.trans (congrArg some (by kernel_rfl))
  f205 := Tryz.func137.trans (congrArg some (by kernel_rfl))
  f243 := Tryz.func153.trans (congrArg some (by kernel_rfl))
  f244 := Tryz.func111.trans (congrArg some (by kernel_rfl))
  f245 := Tryz.func112.trans (congrArg some (by kernel_rfl))
  f246 := Tryz.func158.trans (congrArg some (by kernel_rfl))
  f247 := Tryz.func120.trans (congrArg some (by kernel_rfl))
  f279 := Tryz.func121.trans (congrArg some (by kernel_rfl))
  f280 := Tryz.func122.trans (congrArg some (by kernel_rfl))
  f281 := Tryz.func123.trans (congrArg some (by kernel_rfl))
  f282 := Tryz.func124.trans (congrArg some (by kernel_rfl))
  f283 := Tryz.func125.trans (congrArg some (by kernel_rfl))
  f284 := Tryz.func126.trans (congrArg some (by kernel_rfl))
  f285 := Tryz.func127.trans (congrArg some (by kernel_rfl))
  f286 := Tryz.func128.trans (congrArg some (by kernel_rfl))
  f287 := Tryz.func135.trans (congrArg some (by kernel_rfl))
  f316 := Tryz.func136.trans (congrArg some (by kernel_rfl))
  f317 := Tryz.func139.trans (congrArg some (by kernel_rfl))
  f318 := Tryz.func141.trans (congrArg some (by kernel_rfl))
  f319 := Tryz.func142.trans (congrArg some (by kernel_rfl))
  f320 := Tryz.func143.trans (congrArg some (by kernel_rfl))
  f321 := Tryz.func151.trans (congrArg some (by kernel_rfl))
  f322 := Tryz.func152.trans (congrArg some (by kernel_rfl))
  f337 := Tryz.func154.trans (congrArg some (by kernel_rfl))
  f338 := Tryz.func155.trans (congrArg some (by kernel_rfl))
  t0 := Tryz.underlying0
  a0 := Tryz.isAgg0
  z0 := Tryz.sizeOf0
  v0 := Tryz.zeroValue0
  t2 := Tryz.underlying2
  a2 := Tryz.isAgg2
  z2 := Tryz.sizeOf2
  v2 := Tryz.zeroValue2
  t3 := Tryz.underlying3
  a3 := Tryz.isAgg3
  z3 := Tryz.sizeOf3
  v3 := Tryz.zeroValue3
  t4 := Tryz.underlying4
  a4 := Tryz.isAgg4
  z4 := Tryz.sizeOf4
  v4 := Tryz.zeroValue4
  t5 := Tryz.underlying5
  a5 := Tryz.isAgg5
  z5 := Tryz.sizeOf5
  v5 := Tryz.zeroValue5
  t9 := Tryz.underlying9
  a9 := Tryz.isAgg9
  z9 := Tryz.sizeOf9
  v9 := Tryz.zeroValue9
  t20 := Tryz.underlying20
  a20 := Tryz.isAgg20
  z20 := Tryz.sizeOf20
  v20 := Tryz.zeroValue20
  t21 := Tryz.underlying21
  a21 := Tryz.isAgg21
  z21 := Tryz.sizeOf21
  v21 := Tryz.zeroValue21
  t37 := Tryz.underlying25
  a37 := Tryz.isAgg25
  z37 := Tryz.sizeOf25
  v37 := Tryz.zeroValue25
  t46 := Tryz.underlying111
  a46 := Tryz.isAgg111
  z46 := Tryz.sizeOf111
  v46 := Tryz.zeroValue111
  t51 := Tryz.underlying132
  a51 := Tryz.isAgg132
  z51 := Tryz.sizeOf132
  v51 := Tryz.zeroValue132
  t53 := Tryz.underlying143
  a53 := Tryz.isAgg143
  z53 := Tryz.sizeOf143
  v53 := Tryz.zeroValue143
  t75 := Tryz.underlying120
  a75 := Tryz.isAgg120
  z75 := Tryz.sizeOf120
  v75 := Tryz.zeroValue120
  t76 := Tryz.underlying121
  a76 := Tryz.isAgg121
  z76 := Tryz.sizeOf121
  v76 := Tryz.zeroValue121
  t85 := Tryz.underlying177
  a85 := Tryz.isAgg177
  z85 := Tryz.sizeOf177
  v85 := Tryz.zeroValue177
  t127 := Tryz.underlying146
  a127 := Tryz.isAgg146
  z127 := Tryz.sizeOf146
  v127 := Tryz.zeroValue146
  t143 := Tryz.underlying203
  a143 := Tryz.isAgg203
  z143 := Tryz.sizeOf203
  v143 := Tryz.zeroValue203
  t145 := Tryz.underlying205
  a145 := Tryz.isAgg205
  z145 := Tryz.sizeOf205
  v145 := Tryz.zeroValue205
  t167 := Tryz.underlying176
  a167 := Tryz.isAgg176
  z167 := Tryz.sizeOf176
  v167 := Tryz.zeroValue176
  t168 := Tryz.underlying179
  a168 := Tryz.isAgg179
  z168 := Tryz.sizeOf179
  v168 := Tryz.zeroValue179
  t171 := Tryz.underlying182
  a171 := Tryz.isAgg182
  z171 := Tryz.sizeOf182
  v171 := Tryz.zeroValue182
  t173 := Tryz.underlying185
  a173 := Tryz.isAgg185
  z173 := Tryz.sizeOf185
  v173 := Tryz.zeroValue185
  t175 := Tryz.underlying190
  a175 := Tryz.isAgg190
  z175 := Tryz.sizeOf190
  v175 := Tryz.zeroValue190
  t210 := Tryz.underlying193
  a210 := Tryz.isAgg193
  z210 := Tryz.sizeOf193
  v210 := Tryz.zeroValue193
  t212 := Tryz.underlying196
  a212 := Tryz.isAgg196
  z212 := Tryz.sizeOf196
  v212 := Tryz.zeroValue196
  t213 := Tryz.underlying197
  a213 := Tryz.isAgg197
  z213 := Tryz.sizeOf197
  t232 := Tryz.underlying213
  a232 := Tryz.isAgg213
  z232 := Tryz.sizeOf213
  v232 := Tryz.zeroValue213
  t233 := Tryz.underlying214
  a233 := Tryz.isAgg214
  z233 := Tryz.sizeOf214
  v233 := Tryz.zeroValue214
  g15 := by kernel_rfl
  g16 := by kernel_rfl
  g17 := by kernel_rfl
  g18 := by kernel_rfl
  g19 := by kernel_rfl
  t80 := Tryz.underlying124
  a80 := Tryz.isAgg124
  z80 := Tryz.sizeOf124
  v80 := Tryz.zeroValue124
  i0 := by kernel_rfl
  i2 := by kernel_rfl
  i3 := by kernel_rfl
  i4 := by kernel_rfl
  i5 := by kernel_rfl
  i9 := by kernel_rfl
  i20 := by kernel_rfl
  i21 := by kernel_rfl
  i37 := by kernel_rfl
  i46 := by kernel_rfl
  i51 := by kernel_rfl
  i53 := by kernel_rfl
  i75 := by kernel_rfl
  i76 := by kernel_rfl
  i80 := by kernel_rfl
  i85 := by kernel_rfl
  i127 := by kernel_rfl
  i143 := by kernel_rfl
  i145 := by kernel_rfl
  i167 := by kernel_rfl
  i168 := by kernel_rfl
  i171 := by kernel_rfl
  i173 := by kernel_rfl
  i175 := by kernel_rfl
  i210 := by kernel_rfl
  i212 := by kernel_rfl
  i232 := by kernel_rfl
  i233 := by kernel_rfl
  m15 := by kernel_rfl
  m16 := by kernel_rfl
  m17 := by kernel_rfl
  m18 := by kernel_rfl
  m19 := by kernel_rfl
  c0 := by kernel_rfl
  c2 := by kernel_rfl
  c3 := by kernel_rfl
  c4 := by kernel_rfl
  c5 := by kernel_rfl
  c9 := by kernel_rfl
  c20 := by kernel_rfl
  c21 := by kernel_rfl
  c37 := by kernel_rfl
  c46 := by kernel_rfl
  c51 := by kernel_rfl
  c53 := by kernel_rfl
  c75 := by kernel_rfl
  c76 := by kernel_rfl
  c80 := by kernel_rfl
  c85 := by kernel_rfl
  c127 := by kernel_rfl
  c143 := by kernel_rfl
  c145 := by kernel_rfl
  c167 := by kernel_rfl
  c168 := by kernel_rfl
  c171 := by kernel_rfl
  c173 := by kernel_rfl
  c175 := by kernel_rfl
  c210 := by kernel_rfl
  c212 := by kernel_rfl
  c213 := by kernel_rfl
  c232 := by kernel_rfl
  c233 := by kernel_rfl }
def Tryz.laySplit_ren : Go.Shelf.Ren := ⟨fun | 146 => 97 | 221 => 106 | 268 => 114 | 138 => 115 | 143 => 116 | 195 => 129 | 197 => 130 | 218 => 131 | 219 => 132 | 260 => 144 | 217 => 145 | 225 => 146 | 224 => 147 | 267 => 148 | 266 => 156 | 314 => 157 | n => n, fun | 9 => 9 | 31 => 86 | 3 => 3 | 4 => 4 | 0 => 0 | 105 => 173 | 21 => 21 | 5 => 5 | 46 => 111 | 119 => 207 | 139 => 210 | 138 => 209 | 146 => 141 | 51 => 132 | n => n, fun | 1 => 0 | 3 => 4 | 4 => 5 | n => n⟩
theorem Tryz.laySplit : Go.Proofs.LaysM.n146 Tryz.prog Tryz.laySplit_ren := {
  mixed := by kernel_rfl
  f138 := Tryz.func115.trans (congrArg some (by kernel_rfl))
  f143 := Tryz.func116.trans (congrArg some (by kernel_rfl))
  f146 := Tryz.func97.trans (congrArg some (by kernel_rfl))
  f195 := Tryz.func129.trans (congrArg some (by kernel_rfl))
  f197 := Tryz.func130.trans (congrArg some (by kernel_rfl))
  f217 := Tryz.func145.trans (congrArg some (by kernel_rfl))
  f218 := Tryz.func131.trans (congrArg some (by kernel_rfl))
  f219 := Tryz.func132.trans (congrArg some (by kernel_rfl))
  f221 := Tryz.func106.trans (congrArg some (by kernel_rfl))
  f224 := Tryz.func147.trans (congrArg some (by kernel_rfl))
  f225 := Tryz.func146.trans (congrArg some (by kernel_rfl))
  f260 := Tryz.func144.trans (congrArg some (by kernel_rfl))
  f266 := Tryz.func156.trans (congrArg some (by kernel_rfl))
  f267 := Tryz.func148.trans (congrArg some (by kernel_rfl))
  f268 := Tryz.func114.trans (congrArg some (by kernel_rfl))
  f314 := Tryz.func157.trans (congrArg some (by kernel_rfl))
  t0 := Tryz.underlying0
  a0 := Tryz.isAgg0
  z0 := Tryz.sizeOf0
  v0 := Tryz.zeroValue0
  t3 := Tryz.underlying3
  a3 := Tryz.isAgg3
  z3 := Tryz.sizeOf3
  v3 := Tryz.zeroValue3
  t4 := Tryz.underlying4
  a4 := Tryz.isAgg4
  z4 := Tryz.sizeOf4
  v4 := Tryz.zeroValue4
  t5 := Tryz.underlying5
  a5 := Tryz.isAgg5
  z5 := Tryz.sizeOf5
  v5 := Tryz.zeroValue5
  t9 := Tryz.underlying9
  a9 := Tryz.isAgg9
  z9 := Tryz.sizeOf9
  v9 := Tryz.zeroValue9
  t21 := Tryz.underlying21
  a21 := Tryz.isAgg21
  z21 := Tryz.sizeOf21
  v21 := Tryz.zeroValue21
  t31 := Tryz.underlying86
  a31 := Tryz.isAgg86
  z31 := Tryz.sizeOf86
  v31 := Tryz.zeroValue86
  t46 := Tryz.underlying111
  a46 := Tryz.isAgg111
  z46 := Tryz.sizeOf111
  v46 := Tryz.zeroValue111
  t51 := Tryz.underlying132
  a51 := Tryz.isAgg132
  z51 := Tryz.sizeOf132
  v51 := Tryz.zeroValue132
  t105 := Tryz.underlying173
  a105 := Tryz.isAgg173
  z105 := Tryz.sizeOf173
  v105 := Tryz.zeroValue173
  t119 := Tryz.underlying207
  a119 := Tryz.isAgg207
  z119 := Tryz.sizeOf207
  t138 := Tryz.underlying209
  a138 := Tryz.isAgg209
  z138 := Tryz.sizeOf209
  v138 := Tryz.zeroValue209
  t139 := Tryz.underlying210
  a139 := Tryz.isAgg210
  z139 := Tryz.sizeOf210
  v139 := Tryz.zeroValue210
  t146 := Tryz.underlying141
  a146 := Tryz.isAgg141
  z146 := Tryz.sizeOf141
  v146 := Tryz.zeroValue141
  g1 := by kernel_rfl
  g3 := by kernel_rfl
  g4 := by kernel_rfl
  i0 := by kernel_rfl
  i3 := by kernel_rfl
  i4 := by kernel_rfl
  i5 := by kernel_rfl
  i9 := by kernel_rfl
  i21 := by kernel_rfl
  i31 := by kernel_rfl
  i46 := by kernel_rfl
  i51 := by kernel_rfl
  i105 := by kernel_rfl
  i138 := by kernel_rfl
  i139 := by kernel_rfl
  i146 := by kernel_rfl
  m1 := by kernel_rfl
  s1_3 := fun w h => Go.Proofs.cell_of_shapedOpen_int (zero := #[.int .i64 0]) (t := 3) h (of_decide_eq_true (by kernel_rfl)) (by kernel_rfl) rfl (by kernel_rfl) (by kernel_rfl) Tryz.underlying3
  m3 := by kernel_rfl
  m4 := by kernel_rfl }
def Tryz.layTrimRight_ren : Go.Shelf.Ren := ⟨fun | 162 => 98 | 232 => 107 | 227 => 108 | 234 => 109 | 236 => 110 | 228 => 117 | 271 => 118 | 151 => 119 | 120 => 133 | 197 => 130 | 152 => 134 | 260 => 144 | 137 => 149 | 119 => 150 | 224 => 147 | 225 => 146 | 217 => 145 | 266 => 156 | n => n, fun | 9 => 9 | 4 => 4 | 3 => 3 | 5 => 5 | 117 => 164 | 116 => 163 | 0 => 0 | 124 => 167 | 21 => 21 | 105 => 173 | 46 => 111 | 119 => 207 | 139 => 210 | 138 => 209 | n => n, fun | 3 => 4 | 4 => 5 | n => n⟩
theorem Tryz.layTrimRight : Go.Proofs.Lays.n162 Tryz.prog Tryz.layTrimRight_ren := {
  mixed := by kernel_rfl
  f119 := Tryz.func150.trans (congrArg some (by kernel_rfl))
  f120 := Tryz.func133.trans (congrArg some (by kernel_rfl))
  f137 := Tryz.func149.trans (congrArg some (by kernel_rfl))
  f151 := Tryz.func119.trans (congrArg some (by kernel_rfl))
  f152 := Tryz.func134.trans (congrArg some (by kernel_rfl))
  f162 := Tryz.func98.trans (congrArg some (by kernel_rfl))
  f197 := Tryz.func130.trans (congrArg some (by kernel_rfl))
  f217 := Tryz.func145.trans (congrArg some (by kernel_rfl))
  f224 := Tryz.func147.trans (congrArg some (by kernel_rfl))
  f225 := Tryz.func146.trans (congrArg some (by kernel_rfl))
  f227 := Tryz.func108.trans (congrArg some (by kernel_rfl))
  f228 := Tryz.func117.trans (congrArg some (by kernel_rfl))
  f232 := Tryz.func107.trans (congrArg some (by kernel_rfl))
  f234 := Tryz.func109.trans (congrArg some (by kernel_rfl))
  f236 := Tryz.func110.trans (congrArg some (by kernel_rfl))
  f260 := Tryz.func144.trans (congrArg some (by kernel_rfl))
  f266 := Tryz.func156.trans (congrArg some (by kernel_rfl))
  f271 := Tryz.func118.trans (congrArg some (by kernel_rfl))
  t0 := Tryz.underlying0
  a0 := Tryz.isAgg0
  z0 := Tryz.sizeOf0
  v0 := Tryz.zeroValue0
  t3 := Tryz.underlying3
  a3 := Tryz.isAgg3
  z3 := Tryz.sizeOf3
  v3 := Tryz.zeroValue3
  t4 := Tryz.underlying4
  a4 := Tryz.isAgg4
  z4 := Tryz.sizeOf4
  v4 := Tryz.zeroValue4
  t5 := Tryz.underlying5
  a5 := Tryz.isAgg5
  z5 := Tryz.sizeOf5
  v5 := Tryz.zeroValue5
  t9 := Tryz.underlying9
  a9 := Tryz.isAgg9
  z9 := Tryz.sizeOf9
  v9 := Tryz.zeroValue9
  t21 := Tryz.underlying21
  a21 := Tryz.isAgg21
  z21 := Tryz.sizeOf21
  v21 := Tryz.zeroValue21
  t46 := Tryz.underlying111
  a46 := Tryz.isAgg111
  z46 := Tryz.sizeOf111
  v46 := Tryz.zeroValue111
  t105 := Tryz.underlying173
  a105 := Tryz.isAgg173
  z105 := Tryz.sizeOf173
  v105 := Tryz.zeroValue173
  t116 := Tryz.underlying163
  a116 := Tryz.isAgg163
  z116 := Tryz.sizeOf163
  t117 := Tryz.underlying164
  a117 := Tryz.isAgg164
  z117 := Tryz.sizeOf164
  v117 := Tryz.zeroValue164
  t119 := Tryz.underlying207
  a119 := Tryz.isAgg207
  z119 := Tryz.sizeOf207
  t124 := Tryz.underlying167
  a124 := Tryz.isAgg167
  z124 := Tryz.sizeOf167
  v124 := Tryz.zeroValue167
  t138 := Tryz.underlying209
  a138 := Tryz.isAgg209
  z138 := Tryz.sizeOf209
  v138 := Tryz.zeroValue209
  t139 := Tryz.underlying210
  a139 := Tryz.isAgg210
  z139 := Tryz.sizeOf210
  v139 := Tryz.zeroValue210
  g3 := by kernel_rfl
  g4 := by kernel_rfl }
def Tryz.layRepeat_ren : Go.Shelf.Ren := ⟨fun | 105 => 41 | 212 => 67 | 99 => 68 | 165 => 69 | 166 => 70 | 170 => 71 | 169 => 72 | 263 => 89 | 264 => 90 | 206 => 91 | 240 => 92 | 241 => 93 | 276 => 103 | 277 => 104 | n => n, fun | 9 => 9 | 3 => 3 | 4 => 4 | 20 => 20 | 0 => 0 | 46 => 111 | 109 => 112 | 5 => 5 | 72 => 117 | 76 => 121 | 51 => 132 | 146 => 141 | 53 => 143 | 148 => 144 | 70 => 115 | 37 => 25 | 75 => 120 | 127 => 146 | 164 => 157 | 80 => 124 | n => n, fun | n => n⟩
theorem Tryz.layRepeat : Go.Proofs.Lays.n105 Tryz.prog Tryz.layRepeat_ren := {
  mixed := by kernel_rfl
  f99 := Tryz.func68.trans (congrArg some (by kernel_rfl))
  f105 := Tryz.func41.trans (congrArg some (by kernel_rfl))
  f165 := Tryz.func69.trans (congrArg some (by kernel_rfl))
  f166 := Tryz.func70.trans (congrArg some (by kernel_rfl))
  f169 := Tryz.func72.trans (congrArg some (by kernel_rfl))
  f170 := Tryz.func71.trans (congrArg some (by kernel_rfl))
  f206 := Tryz.func91.trans (congrArg some (by kernel_rfl))
  f212 := Tryz.func67.trans (congrArg some (by kernel_rfl))
  f240 := Tryz.func92.trans (congrArg some (by kernel_rfl))
  f241 := Tryz.func93.trans (congrArg some (by kernel_rfl))
  f263 := Tryz.func89.trans (congrArg some (by kernel_rfl))
  f264 := Tryz.func90.trans (congrArg some (by kernel_rfl))
  f276 := Tryz.func103.trans (congrArg some (by kernel_rfl))
  f277 := Tryz.func104.trans (congrArg some (by kernel_rfl))
  t0 := Tryz.underlying0
  a0 := Tryz.isAgg0
  z0 := Tryz.sizeOf0
  v0 := Tryz.zeroValue0
  t3 := Tryz.underlying3
  a3 := Tryz.isAgg3
  z3 := Tryz.sizeOf3
  v3 := Tryz.zeroValue3
  t4 := Tryz.underlying4
  a4 := Tryz.isAgg4
  z4 := Tryz.sizeOf4
  v4 := Tryz.zeroValue4
  t5 := Tryz.underlying5
  a5 := Tryz.isAgg5
  z5 := Tryz.sizeOf5
  v5 := Tryz.zeroValue5
  t9 := Tryz.underlying9
  a9 := Tryz.isAgg9
  z9 := Tryz.sizeOf9
  v9 := Tryz.zeroValue9
  t20 := Tryz.underlying20
  a20 := Tryz.isAgg20
  z20 := Tryz.sizeOf20
  v20 := Tryz.zeroValue20
  t37 := Tryz.underlying25
  a37 := Tryz.isAgg25
  z37 := Tryz.sizeOf25
  v37 := Tryz.zeroValue25
  t46 := Tryz.underlying111
  a46 := Tryz.isAgg111
  z46 := Tryz.sizeOf111
  v46 := Tryz.zeroValue111
  t51 := Tryz.underlying132
  a51 := Tryz.isAgg132
  z51 := Tryz.sizeOf132
  v51 := Tryz.zeroValue132
  t53 := Tryz.underlying143
  a53 := Tryz.isAgg143
  z53 := Tryz.sizeOf143
  v53 := Tryz.zeroValue143
  t70 := Tryz.underlying115
  a70 := Tryz.isAgg115
  z70 := Tryz.sizeOf115
  v70 := Tryz.zeroValue115
  t72 := Tryz.underlying117
  a72 := Tryz.isAgg117
  z72 := Tryz.sizeOf117
  v72 := Tryz.zeroValue117
  t75 := Tryz.underlying120
  a75 := Tryz.isAgg120
  z75 := Tryz.sizeOf120
  v75 := Tryz.zeroValue120
  t76 := Tryz.underlying121
  a76 := Tryz.isAgg121
  z76 := Tryz.sizeOf121
  v76 := Tryz.zeroValue121
  t109 := Tryz.underlying112
  a109 := Tryz.isAgg112
  z109 := Tryz.sizeOf112
  v109 := Tryz.zeroValue112
  t127 := Tryz.underlying146
  a127 := Tryz.isAgg146
  z127 := Tryz.sizeOf146
  v127 := Tryz.zeroValue146
  t146 := Tryz.underlying141
  a146 := Tryz.isAgg141
  z146 := Tryz.sizeOf141
  v146 := Tryz.zeroValue141
  t148 := Tryz.underlying144
  a148 := Tryz.isAgg144
  z148 := Tryz.sizeOf144
  v148 := Tryz.zeroValue144
  t164 := Tryz.underlying157
  a164 := Tryz.isAgg157
  z164 := Tryz.sizeOf157
  v164 := Tryz.zeroValue157 }
structure TabsP (F : Fz) : Prop where
  pow10 : FTab Tryz.prog F "internal/strconv.uint64pow10" pow10Cells
  maxLen : ∃ m T fr, F.mem (Tryz.laySplit_ren.g 1) = some (.cells #[.int .i64 m] T fr)
  errS : ∃ ev T fr, F.mem (Tryz.layAtoi_ren.g 15) = some (.cells #[ev] T fr) ∧ (ev = .nilIface ∨ ∃ te pe, ev = .iface te pe)
  errR : ∃ ev T fr, F.mem (Tryz.layAtoi_ren.g 16) = some (.cells #[ev] T fr) ∧ (ev = .nilIface ∨ ∃ te pe, ev = .iface te pe)
theorem TabsP.mono {F F' : Fz} (h : TabsP F) (le : F ≤ F') : TabsP F' :=
  ⟨h.pow10.mono le, let ⟨m, T, fr, e⟩ := h.maxLen; ⟨m, T, fr, le.mem _ _ e⟩, let ⟨m, T, fr, e, e'⟩ := h.errS; ⟨m, T, fr, le.mem _ _ e, e'⟩, let ⟨m, T, fr, e, e'⟩ := h.errR; ⟨m, T, fr, le.mem _ _ e, e'⟩⟩
theorem appInt96 : AppIntC Tryz.prog 96 5 := fun B n i h0 h1 sv xs w hown hB hlim htab =>
  (Go.Proofs.Any.strconv_AppendInt_10 Tryz.layAppendInt B n i h0 h1 sv xs w hown hB hlim htab).mono fun _ _ ⟨v', h1, h2, h3, _⟩ => ⟨v', h1, h2, h3⟩
theorem infoByte : (Tryz.prog.info? 5).map (fun i => (i.zero, i.size, i.bytes)) = some (some (.int .u8 0), 1, 1) := by kernel_rfl
def okB (b : Bool) : Option Unit := if b then some () else none
theorem okB_some {b : Bool} {u : Unit} (h : okB b = some u) : b = true := by
  cases b with
  | true => rfl
  | false => simp [okB] at h
theorem cell_of {w : World} {b : Nat} {v : Value} {T : TypeId} {fr : Nat × Nat} (h : w.heap[b]? = some (.cells #[v] T fr)) : w.cell? ⟨b, 0, none⟩ = some v := by simp [World.cell?, h]
theorem bs_size (s : List UInt8) : (bs s).size = s.length := by simp [bs, ByteArray.size]
def m_strings_Split (s sep : List UInt8) : Option (List (List UInt8)) := if s.length < 4294967281 ∧ 1 ≤ sep.length then some (Go.Lib.split s sep) else none
theorem c_strings_Split (F0 : Fz) (hT : TabsP F0) (s sep : List UInt8) : CT0 Tryz.prog 97 [(.string (bs s)), (.string (bs sep))].toArray F0 (m_strings_Split s sep) (fun r F v => ∃ (p0 : Option Addr) (k0 : Nat), v = (.slice p0 r.length k0) ∧ RepSl 1 (Ex cStr) F p0 k0 r) := by
  intro r hm w R hw
  unfold m_strings_Split at hm
  split at hm
  · rename_i h
    simp only [Option.some.injEq] at hm
    obtain ⟨m, T, fr, hmx⟩ := hT.maxLen
    have h1 : 1 ≤ (bs sep).size := by rw [bs_size]; exact h.2
    refine (Go.Proofs.Any.strings_Split { Tryz.laySplit with } Tryz.laySplit.i9 (bs s) (bs sep) m w (by rw [bs_size]; exact h.1) (cell_of (hw.frozen hmx)) h1).mono ?_
    rintro e w' ⟨rfl, rfl⟩
    have hlen := Go.Lib.splitB_all (bs sep) h1 0 _ (bs s) rfl
    have hdat := Go.Lib.splitB_data (bs sep) 0 (Go.Lib.countB (bs s) (bs sep)) (bs s)
    have hr : (Go.Lib.splitB (bs sep) 0 (Go.Lib.countB (bs s) (bs sep)) (bs s)).map (·.data.toList) = r := by rw [hdat, ← hm]; rfl
    generalize Go.Lib.splitB (bs sep) 0 (Go.Lib.countB (bs s) (bs sep)) (bs s) = X at hlen hr ⊢
    rw [← hlen]
    obtain ⟨le, h2⟩ := hw.allocF (.cells (X.map Value.string).toArray (Tryz.laySplit_ren.t 9))
    have hl : r.length = X.length := by rw [← hr]; simp
    have hle := Go.Lib.countB_le (bs sep) h1 (bs s).size (bs s) (Nat.le_refl _)
    refine ⟨_, _, le, rfl, ⟨some ⟨w.heap.size, 0, none⟩, X.length, by rw [hl], ⟨by omega, by rw [hlen]; have := h.1; rw [bs_size] at hle; omega, .inr ⟨_, 0, _, _, _, rfl, Fz.add_self _ _ _, fun i x hx F' _ => ?_⟩⟩⟩, h2⟩
    rw [← hr, List.getElem?_map] at hx
    cases hX : X[i]? with
    | none => rw [hX] at hx; cases hx
    | some y =>
      rw [hX] at hx
      simp only [Option.map_some, Option.some.injEq] at hx
      subst hx
      have hlt : i < X.length := by
        rcases Nat.lt_or_ge i X.length with h | h
        · exact h
        · rw [List.getElem?_eq_none h] at hX; cases hX
      have e1 : (X.map Value.string).length = X.length := by simp
      show ((X.map Value.string).toArray.toList.drop (0 + i * 1)).take 1 = cStr _
      simp only [Nat.zero_add, Nat.mul_one]
      rw [List.drop_eq_getElem_cons (by simpa using hlt)]
      rw [List.getElem?_eq_getElem hlt, Option.some.injEq] at hX
      simp [cStr, hX, bs]
  · cases hm
def m_strings_TrimRight (s c : List UInt8) : Option (List UInt8) := if s.length ≤ 4294967296 ∧ c.length < 4294967281 ∧ c.all (fun b => decide (b.toNat < 128)) = true then some (Go.Lib.trimRightS s c) else none
theorem c_strings_TrimRight (F0 : Fz) (s c : List UInt8) : CT0 Tryz.prog 98 [(.string (bs s)), (.string (bs c))].toArray F0 (m_strings_TrimRight s c) (fun r _ v => v = (.string (bs r))) := by
  intro r hm w R hw
  unfold m_strings_TrimRight at hm
  split at hm
  · rename_i h
    simp only [Option.some.injEq] at hm
    refine (Go.Proofs.Any.strings_TrimRight_laid Tryz.layTrimRight (by kernel_rfl) (bs s) (bs c) w (by rw [bs_size]; omega) (by rw [bs_size]; exact h.2.1) (ascii_of_all (by simpa [bs] using h.2.2))).mono ?_
    rintro e w' ⟨rfl, hb⟩
    exact ⟨F0, _, Fz.le_refl _, rfl, by rw [← hm]; rfl, hw.below hb⟩
  · cases hm
def m_strings_Repeat (s : List UInt8) (n : Int) : Option (List UInt8) := if 0 ≤ n ∧ n ≤ 9223372036854775807 ∧ s.length * n.toNat ≤ 140737488355328 then some (Go.Lib.repeatL s n.toNat) else none
theorem repeatExtra : Builder.Extra Tryz.prog Tryz.layRepeat_ren where
  sizeBuilder := by kernel_rfl
  liesBuilder := by kernel_rfl
  t5 := Tryz.layRepeat.t5
  a5 := Tryz.layRepeat.a5
  z5 := Tryz.layRepeat.z5
  v5 := Tryz.layRepeat.v5
  infoByte := by kernel_rfl
  cellsByte := by kernel_rfl
  sizeByte := by kernel_rfl
  neB5 := by decide
theorem c_strings_Repeat (F0 : Fz) (s : List UInt8) (n : Int) : CT0 Tryz.prog 41 [(.string (bs s)), (.int .i64 n)].toArray F0 (m_strings_Repeat s n) (fun r _ v => v = (.string (bs r))) := by
  intro r hm w R hw
  unfold m_strings_Repeat at hm
  split at hm
  · rename_i h
    simp only [Option.some.injEq] at hm
    have e0 : n = ((n.toNat : Nat) : Int) := by omega
    have hc := Go.Proofs.Any.strings_Repeat Tryz.layRepeat repeatExtra (bs s) n.toNat w (by omega) (by rw [bs_size]; exact h.2.2)
    rw [← e0] at hc
    refine hc.mono ?_
    rintro e w' ⟨rfl, hb⟩
    exact ⟨F0, _, Fz.le_refl _, rfl, by rw [← hm]; rfl, hw.below hb⟩
  · cases hm
def m_strconv_Atoi (s : List UInt8) : Option (Int × Bool) := if s.length ≤ 4294967296 then (match Go.Lib.atoiAll s with | .ok v => some (v, false) | .range => some (Go.Lib.atoiSat s, true) | _ => some (0, true)) else none
theorem c_strconv_Atoi (F0 : Fz) (hT : TabsP F0) (s : List UInt8) : CT0 Tryz.prog 102 [(.string (bs s))].toArray F0 (m_strconv_Atoi s) (fun r F v => ∃ (p0 : Value) (k0 : Unit), v = (.tuple #[(.int .i64 r.1), p0]) ∧ RepErr F p0 k0 r.2) := by
  intro r hm w R hw
  unfold m_strconv_Atoi at hm
  split at hm
  · rename_i h
    cases ha : Go.Lib.atoiAll s with
    | ok v =>
      rw [ha] at hm
      simp only [Option.some.injEq] at hm
      subst hm
      refine (Go.Proofs.Any.strconv_Atoi_ok Tryz.layAtoi (bs s) (by rw [bs_size]; omega) v ha w).mono ?_
      rintro e w' ⟨rfl, hW⟩
      refine ⟨F0, _, Fz.le_refl _, rfl, ⟨.nilIface, (), rfl, rfl⟩, hw.below ?_⟩
      rcases hW with rfl | ⟨t, rfl⟩
      · exact Below.refl _ _
      · exact Go.Lib.bytesWorld_below _ _ _
    | range =>
      rw [ha] at hm
      simp only [Option.some.injEq] at hm
      subst hm
      obtain ⟨ev, T, fr, hg, hev⟩ := hT.errR
      refine (Go.Proofs.Any.strconv_Atoi_range Tryz.layAtoi (bs s) (by rw [bs_size]; omega) ha ev w (cell_of (hw.frozen hg)) hev).mono ?_
      rintro e w' ⟨N, rfl, _, _, hb⟩
      exact ⟨F0, _, Fz.le_refl _, rfl, ⟨_, (), rfl, ⟨_, _, rfl⟩⟩, hw.below hb⟩
    | _ =>
      rw [ha] at hm
      simp only [Option.some.injEq] at hm
      subst hm
      obtain ⟨ev, T, fr, hg, hev⟩ := hT.errS
      refine (Go.Proofs.Any.strconv_Atoi_syntax Tryz.layAtoi (bs s) (by rw [bs_size]; omega) ha ev w (cell_of (hw.frozen hg)) hev).mono ?_
      rintro e w' ⟨N, rfl, _, _, hb⟩
      exact ⟨F0, _, Fz.le_refl _, rfl, ⟨_, (), rfl, ⟨_, _, rfl⟩⟩, hw.below hb⟩
  · cases hm
def grpN {α : Type} (n : Nat) (l : List α) : Nat → Nat → List (Int × List α)
  | 0, _ => []
  | d + 1, a => if a < l.length then ((a : Int), (l.drop a).take n) :: grpN n l d (a + n) else []
def groupsO {α : Type} (l : List α) (size : Int) : Option (List (Int × List α)) := if 0 < size ∧ size ≤ 1000000 ∧ l.length ≤ 1000000000000 then some (grpN size.toNat l l.length 0) else none
noncomputable def gbody {α σ : Type} (y : (Int × List α) → σ → Option (σ × Bool)) (c1 : List α) (c7 : Int) (s10 : Int × σ) : Option (Ctl (Int × σ) (σ ⊕ σ)) :=
  if (decide (s10.1 < (c1.length : Int))) then ((sliceL c1 s10.1 (imin (c1.length : Int) (w64 (s10.1 + c7)))).bind fun l_14 => (y (s10.1, l_14) s10.2).bind fun p19 => if (!p19.2) then (some (.done (.inr p19.1))) else (bindv (w64 (s10.1 + c7)) fun at_24 => some (.next (at_24, p19.1)))) else (some (.done (.inl s10.2)))
theorem groups_aux {α σ : Type} {y : (Int × List α) → σ → Option (σ × Bool)} {l : List α} {n : Nat} (hn : 0 < n) (hn2 : n ≤ 1000000) (hl : l.length ≤ 1000000000000) : ∀ (d a : Nat) (s r : σ), l.length ≤ a + d → a ≤ l.length + n → foldY y (grpN n l d a) s = some r →
    loopM (gbody y l (n : Int)) ((a : Int), s) = some (.inl r) ∨ loopM (gbody y l (n : Int)) ((a : Int), s) = some (.inr r)
  | 0, a, s, r, hk, _, h => by
    simp only [grpN, foldY, Option.some.injEq] at h
    subst h
    left
    rw [loopM_eq]
    have : ¬ a < l.length := by omega
    simp [gbody, this]
  | d + 1, a, s, r, hk, ha, h => by
    by_cases hlt : a < l.length
    · simp only [grpN, if_pos hlt, foldY] at h
      have hw : w64 ((a : Int) + n) = ((a + n : Nat) : Int) := by rw [w64_id (by omega) (by omega)]; omega
      have hs : sliceL l (a : Int) (imin (l.length : Int) (w64 ((a : Int) + n))) = some ((l.drop a).take n) := by
        rw [hw]
        unfold imin sliceL
        split
        · rename_i h2
          rw [if_pos (by omega)]
          simp only [Int.toNat_natCast]
          congr 2; omega
        · rename_i h2
          rw [if_pos (by omega)]
          simp only [Int.toNat_natCast]
          rw [List.take_of_length_le (by simp), List.take_of_length_le (by simp; omega)]
      rw [loopM_eq]
      have hb : gbody y l (n : Int) ((a : Int), s) = (y ((a : Int), (l.drop a).take n) s).bind fun p19 => if (!p19.2) then (some (.done (.inr p19.1))) else some (.next (((a + n : Nat) : Int), p19.1)) := by
        show (if decide ((a : Int) < (l.length : Int)) then _ else _) = _
        rw [if_pos (by simpa using hlt), hs, ← hw]; rfl
      rw [hb]
      cases hy : y ((a : Int), (l.drop a).take n) s with
      | none => rw [hy] at h; cases h
      | some p =>
        rw [hy] at h
        simp only [Option.bind_some] at h ⊢
        by_cases hp : p.2 = true
        · rw [if_pos hp] at h
          have := groups_aux hn hn2 hl d (a + n) p.1 r (by omega) (by omega) h
          simpa [hp] using this
        · rw [if_neg hp] at h
          simp only [Option.some.injEq] at h
          right
          simp [hp, h]
    · simp only [grpN, if_neg hlt, foldY, Option.some.injEq] at h
      subst h
      left
      rw [loopM_eq]
      simp [gbody, hlt]
theorem groups_it {α σ : Type} {y : (Int × List α) → σ → Option (σ × Bool)} {c1 : List α} {c7 : Int} {l : List (Int × List α)} {s r : σ} (hl : groupsO c1 c7 = some l) (hr : foldY y l s = some r) : ((loopM (gbody y c1 c7) (0, s)).bind fun b0 => match b0 with | .inl b26 => (some b26) | .inr b26 => (some b26)) = some r := by
  unfold groupsO at hl
  split at hl
  · rename_i h
    simp only [Option.some.injEq] at hl
    subst hl
    have e7 : c7 = ((c7.toNat : Nat) : Int) := by omega
    rcases groups_aux (y := y) (n := c7.toNat) (by omega) (by omega) h.2.2 c1.length 0 s r (by omega) (by omega) hr with e | e
    · rw [← e7] at e
      have e' : loopM (gbody y c1 c7) (0, s) = some (.inl r) := e
      rw [e']; rfl
    · rw [← e7] at e
      have e' : loopM (gbody y c1 c7) (0, s) = some (.inr r) := e
      rw [e']; rfl
  · cases hl
end Go.Proofs.YthnlglmjffdpfaaGreatDoor
end
