import Derived.Test.YtmcgnnmffeojpabGreatDoorPk3
import Derived.Shelf.LaysM
import Derived.Shelf.LaysC
import Derived.Shelf.Strings.BuilderK
import Derived.Shelf.Strconv.Itoa3
import Derived.Shelf.Strings.Split
import Derived.Shelf.Strconv.AtoiAll
import Derived.Ground.NamesProg
import Derived.Test.YtmcgnnmffeojpabGreatDoorProg
import Derived.Lib.SplitLaws
import Derived.Lib.ItoaLen
import Derived.Lib.AtoiAllCases
set_option maxRecDepth 100000
set_option maxHeartbeats 8000000
namespace Go.Proofs
open Go.Shelf
def Tryz.shBS_ren:Go.Shelf.Ren:=⟨fun | 169=>64 | n=>n,fun | 70=>124 | 9=>9 | 0=>0 | 72=>127 | 37=>125 | 127=>182 | 3=>3 | 5=>5 | n=>n,fun | n=>n⟩
theorem Tryz.shBS:Go.Proofs.Lays.n169 Tryz.prog Tryz.shBS_ren:={
 mixed:=by kernel_rfl
 f169:=Tryz.func64.trans (congrArg some (by kernel_rfl))
 t0:=Tryz.underlying0
 a0:=Tryz.isAgg0
 z0:=Tryz.sizeOf0
 v0:=Tryz.zeroValue0
 t3:=Tryz.underlying3
 a3:=Tryz.isAgg3
 z3:=Tryz.sizeOf3
 v3:=Tryz.zeroValue3
 t9:=Tryz.underlying9
 a9:=Tryz.isAgg9
 z9:=Tryz.sizeOf9
 v9:=Tryz.zeroValue9
 t37:=Tryz.underlying125
 a37:=Tryz.isAgg125
 z37:=Tryz.sizeOf125
 v37:=Tryz.zeroValue125
 t70:=Tryz.underlying124
 a70:=Tryz.isAgg124
 z70:=Tryz.sizeOf124
 v70:=Tryz.zeroValue124
 t72:=Tryz.underlying127
 a72:=Tryz.isAgg127
 z72:=Tryz.sizeOf127
 v72:=Tryz.zeroValue127
 t127:=Tryz.underlying182
 a127:=Tryz.isAgg182
 z127:=Tryz.sizeOf182
 v127:=Tryz.zeroValue182 }
def Tryz.shBL_ren:Go.Shelf.Ren:=⟨fun | 170=>63 | n=>n,fun | 70=>124 | 3=>3 | 0=>0 | 72=>127 | 37=>125 | 5=>5 | n=>n,fun | n=>n⟩
theorem Tryz.shBL:Go.Proofs.Lays.n170 Tryz.prog Tryz.shBL_ren:={
 mixed:=by kernel_rfl
 f170:=Tryz.func63.trans (congrArg some (by kernel_rfl))
 t0:=Tryz.underlying0
 a0:=Tryz.isAgg0
 z0:=Tryz.sizeOf0
 v0:=Tryz.zeroValue0
 t3:=Tryz.underlying3
 a3:=Tryz.isAgg3
 z3:=Tryz.sizeOf3
 v3:=Tryz.zeroValue3
 t37:=Tryz.underlying125
 a37:=Tryz.isAgg125
 z37:=Tryz.sizeOf125
 v37:=Tryz.zeroValue125
 t70:=Tryz.underlying124
 a70:=Tryz.isAgg124
 z70:=Tryz.sizeOf124
 v70:=Tryz.zeroValue124
 t72:=Tryz.underlying127
 a72:=Tryz.isAgg127
 z72:=Tryz.sizeOf127
 v72:=Tryz.zeroValue127 }
def Tryz.shItoa_ren:Go.Shelf.Ren:=⟨fun | 171=>57 | 243=>104 | 246=>123 | 283=>167 | 284=>168 | 285=>169 | 286=>170 | 129=>196 | 317=>221 | 318=>222 | 319=>223 | 320=>224 | 337=>244 | 338=>245 | n=>n,fun | 3=>3 | 9=>9 | 2=>2 | 4=>4 | 171=>262 | 0=>0 | 53=>259 | 37=>125 | 5=>5 | 173=>265 | 212=>311 | 51=>202 | 20=>20 | 213=>312 | 46=>235 | 232=>339 | 233=>340 | n=>n,fun | 17=>6 | 18=>9 | 19=>10 | n=>n⟩
theorem Tryz.shItoa:Go.Proofs.LaysM.n171 Tryz.prog Tryz.shItoa_ren:={
 mixed:=by kernel_rfl
 f129:=Tryz.func196.trans (congrArg some (by kernel_rfl))
 f171:=Tryz.func57.trans (congrArg some (by kernel_rfl))
 f243:=Tryz.func104.trans (congrArg some (by kernel_rfl))
 f246:=Tryz.func123.trans (congrArg some (by kernel_rfl))
 f283:=Tryz.func167.trans (congrArg some (by kernel_rfl))
 f284:=Tryz.func168.trans (congrArg some (by kernel_rfl))
 f285:=Tryz.func169.trans (congrArg some (by kernel_rfl))
 f286:=Tryz.func170.trans (congrArg some (by kernel_rfl))
 f317:=Tryz.func221.trans (congrArg some (by kernel_rfl))
 f318:=Tryz.func222.trans (congrArg some (by kernel_rfl))
 f319:=Tryz.func223.trans (congrArg some (by kernel_rfl))
 f320:=Tryz.func224.trans (congrArg some (by kernel_rfl))
 f337:=Tryz.func244.trans (congrArg some (by kernel_rfl))
 f338:=Tryz.func245.trans (congrArg some (by kernel_rfl))
 t0:=Tryz.underlying0
 a0:=Tryz.isAgg0
 z0:=Tryz.sizeOf0
 v0:=Tryz.zeroValue0
 t2:=Tryz.underlying2
 a2:=Tryz.isAgg2
 z2:=Tryz.sizeOf2
 v2:=Tryz.zeroValue2
 t3:=Tryz.underlying3
 a3:=Tryz.isAgg3
 z3:=Tryz.sizeOf3
 v3:=Tryz.zeroValue3
 t4:=Tryz.underlying4
 a4:=Tryz.isAgg4
 z4:=Tryz.sizeOf4
 v4:=Tryz.zeroValue4
 t5:=Tryz.underlying5
 a5:=Tryz.isAgg5
 z5:=Tryz.sizeOf5
 v5:=Tryz.zeroValue5
 t9:=Tryz.underlying9
 a9:=Tryz.isAgg9
 z9:=Tryz.sizeOf9
 v9:=Tryz.zeroValue9
 t20:=Tryz.underlying20
 a20:=Tryz.isAgg20
 z20:=Tryz.sizeOf20
 v20:=Tryz.zeroValue20
 t37:=Tryz.underlying125
 a37:=Tryz.isAgg125
 z37:=Tryz.sizeOf125
 v37:=Tryz.zeroValue125
 t46:=Tryz.underlying235
 a46:=Tryz.isAgg235
 z46:=Tryz.sizeOf235
 v46:=Tryz.zeroValue235
 t51:=Tryz.underlying202
 a51:=Tryz.isAgg202
 z51:=Tryz.sizeOf202
 v51:=Tryz.zeroValue202
 t53:=Tryz.underlying259
 a53:=Tryz.isAgg259
 z53:=Tryz.sizeOf259
 v53:=Tryz.zeroValue259
 t171:=Tryz.underlying262
 a171:=Tryz.isAgg262
 z171:=Tryz.sizeOf262
 v171:=Tryz.zeroValue262
 t173:=Tryz.underlying265
 a173:=Tryz.isAgg265
 z173:=Tryz.sizeOf265
 v173:=Tryz.zeroValue265
 t212:=Tryz.underlying311
 a212:=Tryz.isAgg311
 z212:=Tryz.sizeOf311
 v212:=Tryz.zeroValue311
 t213:=Tryz.underlying312
 a213:=Tryz.isAgg312
 z213:=Tryz.sizeOf312
 t232:=Tryz.underlying339
 a232:=Tryz.isAgg339
 z232:=Tryz.sizeOf339
 v232:=Tryz.zeroValue339
 t233:=Tryz.underlying340
 a233:=Tryz.isAgg340
 z233:=Tryz.sizeOf340
 v233:=Tryz.zeroValue340
 g17:=by kernel_rfl
 g18:=by kernel_rfl
 g19:=by kernel_rfl
 i0:=by kernel_rfl
 i2:=by kernel_rfl
 i3:=by kernel_rfl
 i4:=by kernel_rfl
 i5:=by kernel_rfl
 i9:=by kernel_rfl
 i20:=by kernel_rfl
 i37:=by kernel_rfl
 i46:=by kernel_rfl
 i51:=by kernel_rfl
 i53:=by kernel_rfl
 i171:=by kernel_rfl
 i173:=by kernel_rfl
 i212:=by kernel_rfl
 i232:=by kernel_rfl
 i233:=by kernel_rfl
 m17:=by kernel_rfl
 m18:=by kernel_rfl
 m19:=by kernel_rfl }
def Tryz.shSplit_ren:Go.Shelf.Ren:=⟨fun | 146=>38 | 221=>73 | 268=>118 | 138=>119 | 143=>120 | 195=>160 | 197=>161 | 218=>162 | 219=>163 | 260=>214 | 217=>215 | 225=>216 | 224=>217 | 267=>218 | 266=>242 | 314=>243 | n=>n,fun | 9=>9 | 31=>78 | 3=>3 | 4=>4 | 0=>0 | 105=>245 | 21=>21 | 5=>5 | 46=>235 | 119=>145 | 139=>330 | 138=>329 | 146=>331 | 51=>202 | n=>n,fun | 1=>5 | 3=>7 | 4=>8 | n=>n⟩
theorem Tryz.shSplit:Go.Proofs.Lays.n146 Tryz.prog Tryz.shSplit_ren:={
 mixed:=by kernel_rfl
 f138:=Tryz.func119.trans (congrArg some (by kernel_rfl))
 f143:=Tryz.func120.trans (congrArg some (by kernel_rfl))
 f146:=Tryz.func38.trans (congrArg some (by kernel_rfl))
 f195:=Tryz.func160.trans (congrArg some (by kernel_rfl))
 f197:=Tryz.func161.trans (congrArg some (by kernel_rfl))
 f217:=Tryz.func215.trans (congrArg some (by kernel_rfl))
 f218:=Tryz.func162.trans (congrArg some (by kernel_rfl))
 f219:=Tryz.func163.trans (congrArg some (by kernel_rfl))
 f221:=Tryz.func73.trans (congrArg some (by kernel_rfl))
 f224:=Tryz.func217.trans (congrArg some (by kernel_rfl))
 f225:=Tryz.func216.trans (congrArg some (by kernel_rfl))
 f260:=Tryz.func214.trans (congrArg some (by kernel_rfl))
 f266:=Tryz.func242.trans (congrArg some (by kernel_rfl))
 f267:=Tryz.func218.trans (congrArg some (by kernel_rfl))
 f268:=Tryz.func118.trans (congrArg some (by kernel_rfl))
 f314:=Tryz.func243.trans (congrArg some (by kernel_rfl))
 t0:=Tryz.underlying0
 a0:=Tryz.isAgg0
 z0:=Tryz.sizeOf0
 v0:=Tryz.zeroValue0
 t3:=Tryz.underlying3
 a3:=Tryz.isAgg3
 z3:=Tryz.sizeOf3
 v3:=Tryz.zeroValue3
 t4:=Tryz.underlying4
 a4:=Tryz.isAgg4
 z4:=Tryz.sizeOf4
 v4:=Tryz.zeroValue4
 t5:=Tryz.underlying5
 a5:=Tryz.isAgg5
 z5:=Tryz.sizeOf5
 v5:=Tryz.zeroValue5
 t9:=Tryz.underlying9
 a9:=Tryz.isAgg9
 z9:=Tryz.sizeOf9
 v9:=Tryz.zeroValue9
 t21:=Tryz.underlying21
 a21:=Tryz.isAgg21
 z21:=Tryz.sizeOf21
 v21:=Tryz.zeroValue21
 t31:=Tryz.underlying78
 a31:=Tryz.isAgg78
 z31:=Tryz.sizeOf78
 v31:=Tryz.zeroValue78
 t46:=Tryz.underlying235
 a46:=Tryz.isAgg235
 z46:=Tryz.sizeOf235
 v46:=Tryz.zeroValue235
 t51:=Tryz.underlying202
 a51:=Tryz.isAgg202
 z51:=Tryz.sizeOf202
 v51:=Tryz.zeroValue202
 t105:=Tryz.underlying245
 a105:=Tryz.isAgg245
 z105:=Tryz.sizeOf245
 v105:=Tryz.zeroValue245
 t119:=Tryz.underlying145
 a119:=Tryz.isAgg145
 z119:=Tryz.sizeOf145
 t138:=Tryz.underlying329
 a138:=Tryz.isAgg329
 z138:=Tryz.sizeOf329
 v138:=Tryz.zeroValue329
 t139:=Tryz.underlying330
 a139:=Tryz.isAgg330
 z139:=Tryz.sizeOf330
 v139:=Tryz.zeroValue330
 t146:=Tryz.underlying331
 a146:=Tryz.isAgg331
 z146:=Tryz.sizeOf331
 v146:=Tryz.zeroValue331
 g1:=by kernel_rfl
 g3:=by kernel_rfl
 g4:=by kernel_rfl }
def Tryz.shAtoi_ren:Go.Shelf.Ren:=⟨fun | 172=>39 | 244=>79 | 245=>80 | 247=>122 | 279=>124 | 280=>125 | 281=>126 | 282=>127 | 287=>166 | 316=>171 | 171=>57 | 205=>172 | 321=>219 | 322=>220 | 243=>104 | 246=>123 | 283=>167 | 284=>168 | 285=>169 | 286=>170 | 129=>196 | 317=>221 | 318=>222 | 319=>223 | 320=>224 | 337=>244 | 338=>245 | n=>n,fun | 9=>9 | 3=>3 | 75=>29 | 76=>96 | 4=>4 | 5=>5 | 167=>205 | 37=>125 | 0=>0 | 85=>148 | 2=>2 | 168=>206 | 53=>259 | 175=>260 | 46=>235 | 210=>269 | 127=>182 | 145=>315 | 143=>313 | 21=>21 | 171=>262 | 173=>265 | 212=>311 | 51=>202 | 20=>20 | 213=>312 | 232=>339 | 233=>340 | 80=>133 | n=>n,fun | 15=>3 | 16=>4 | 17=>6 | 18=>9 | 19=>10 | n=>n⟩
theorem Tryz.shAtoi:Go.Proofs.LaysC.n172 Tryz.prog Tryz.shAtoi_ren:={
 mixed:=by kernel_rfl
 f129:=Tryz.func196.trans (congrArg some (by kernel_rfl))
 f171:=Tryz.func57.trans (congrArg some (by kernel_rfl))
 f172:=Tryz.func39.trans (congrArg some (by kernel_rfl))
 f205:=Tryz.func172.trans (congrArg some (by kernel_rfl))
 f243:=Tryz.func104.trans (congrArg some (by kernel_rfl))
 f244:=Tryz.func79.trans (congrArg some (by kernel_rfl))
 f245:=Tryz.func80.trans (congrArg some (by kernel_rfl))
 f246:=Tryz.func123.trans (congrArg some (by kernel_rfl))
 f247:=Tryz.func122.trans (congrArg some (by kernel_rfl))
 f279:=Tryz.func124.trans (congrArg some (by kernel_rfl))
 f280:=Tryz.func125.trans (congrArg some (by kernel_rfl))
 f281:=Tryz.func126.trans (congrArg some (by kernel_rfl))
 f282:=Tryz.func127.trans (congrArg some (by kernel_rfl))
 f283:=Tryz.func167.trans (congrArg some (by kernel_rfl))
 f284:=Tryz.func168.trans (congrArg some (by kernel_rfl))
 f285:=Tryz.func169.trans (congrArg some (by kernel_rfl))
 f286:=Tryz.func170.trans (congrArg some (by kernel_rfl))
 f287:=Tryz.func166.trans (congrArg some (by kernel_rfl))
 f316:=Tryz.func171.trans (congrArg some (by kernel_rfl))
 f317:=Tryz.func221.trans (congrArg some (by kernel_rfl))
 f318:=Tryz.func222.trans (congrArg some (by kernel_rfl))
 f319:=Tryz.func223.trans (congrArg some (by kernel_rfl))
 f320:=Tryz.func224.trans (congrArg some (by kernel_rfl))
 f321:=Tryz.func219.trans (congrArg some (by kernel_rfl))
 f322:=Tryz.func220.trans (congrArg some (by kernel_rfl))
 f337:=Tryz.func244.trans (congrArg some (by kernel_rfl))
 f338:=Tryz.func245.trans (congrArg some (by kernel_rfl))
 t0:=Tryz.underlying0
 a0:=Tryz.isAgg0
 z0:=Tryz.sizeOf0
 v0:=Tryz.zeroValue0
 t2:=Tryz.underlying2
 a2:=Tryz.isAgg2
 z2:=Tryz.sizeOf2
 v2:=Tryz.zeroValue2
 t3:=Tryz.underlying3
 a3:=Tryz.isAgg3
 z3:=Tryz.sizeOf3
 v3:=Tryz.zeroValue3
 t4:=Tryz.underlying4
 a4:=Tryz.isAgg4
 z4:=Tryz.sizeOf4
 v4:=Tryz.zeroValue4
 t5:=Tryz.underlying5
 a5:=Tryz.isAgg5
 z5:=Tryz.sizeOf5
 v5:=Tryz.zeroValue5
 t9:=Tryz.underlying9
 a9:=Tryz.isAgg9
 z9:=Tryz.sizeOf9
 v9:=Tryz.zeroValue9
 t20:=Tryz.underlying20
 a20:=Tryz.isAgg20
 z20:=Tryz.sizeOf20
 v20:=Tryz.zeroValue20
 t21:=Tryz.underlying21
 a21:=Tryz.isAgg21
 z21:=Tryz.sizeOf21
 v21:=Tryz.zeroValue21
 t37:=Tryz.underlying125
 a37:=Tryz.isAgg125
 z37:=Tryz.sizeOf125
 v37:=Tryz.zeroValue125
 t46:=Tryz.underlying235
 a46:=Tryz.isAgg235
 z46:=Tryz.sizeOf235
 v46:=Tryz.zeroValue235
 t51:=Tryz.underlying202
 a51:=Tryz.isAgg202
 z51:=Tryz.sizeOf202
 v51:=Tryz.zeroValue202
 t53:=Tryz.underlying259
 a53:=Tryz.isAgg259
 z53:=Tryz.sizeOf259
 v53:=Tryz.zeroValue259
 t75:=Tryz.underlying29
 a75:=Tryz.isAgg29
 z75:=Tryz.sizeOf29
 v75:=Tryz.zeroValue29
 t76:=Tryz.underlying96
 a76:=Tryz.isAgg96
 z76:=Tryz.sizeOf96
 v76:=Tryz.zeroValue96
 t85:=Tryz.underlying148
 a85:=Tryz.isAgg148
 z85:=Tryz.sizeOf148
 v85:=Tryz.zeroValue148
 t127:=Tryz.underlying182
 a127:=Tryz.isAgg182
 z127:=Tryz.sizeOf182
 v127:=Tryz.zeroValue182
 t143:=Tryz.underlying313
 a143:=Tryz.isAgg313
 z143:=Tryz.sizeOf313
 v143:=Tryz.zeroValue313
 t145:=Tryz.underlying315
 a145:=Tryz.isAgg315
 z145:=Tryz.sizeOf315
 v145:=Tryz.zeroValue315
 t167:=Tryz.underlying205
 a167:=Tryz.isAgg205
 z167:=Tryz.sizeOf205
 v167:=Tryz.zeroValue205
 t168:=Tryz.underlying206
 a168:=Tryz.isAgg206
 z168:=Tryz.sizeOf206
 v168:=Tryz.zeroValue206
 t171:=Tryz.underlying262
 a171:=Tryz.isAgg262
 z171:=Tryz.sizeOf262
 v171:=Tryz.zeroValue262
 t173:=Tryz.underlying265
 a173:=Tryz.isAgg265
 z173:=Tryz.sizeOf265
 v173:=Tryz.zeroValue265
 t175:=Tryz.underlying260
 a175:=Tryz.isAgg260
 z175:=Tryz.sizeOf260
 v175:=Tryz.zeroValue260
 t210:=Tryz.underlying269
 a210:=Tryz.isAgg269
 z210:=Tryz.sizeOf269
 v210:=Tryz.zeroValue269
 t212:=Tryz.underlying311
 a212:=Tryz.isAgg311
 z212:=Tryz.sizeOf311
 v212:=Tryz.zeroValue311
 t213:=Tryz.underlying312
 a213:=Tryz.isAgg312
 z213:=Tryz.sizeOf312
 t232:=Tryz.underlying339
 a232:=Tryz.isAgg339
 z232:=Tryz.sizeOf339
 v232:=Tryz.zeroValue339
 t233:=Tryz.underlying340
 a233:=Tryz.isAgg340
 z233:=Tryz.sizeOf340
 v233:=Tryz.zeroValue340
 g15:=by kernel_rfl
 g16:=by kernel_rfl
 g17:=by kernel_rfl
 g18:=by kernel_rfl
 g19:=by kernel_rfl
 t80:=Tryz.underlying133
 a80:=Tryz.isAgg133
 z80:=Tryz.sizeOf133
 v80:=Tryz.zeroValue133
 i0:=by kernel_rfl
 i2:=by kernel_rfl
 i3:=by kernel_rfl
 i4:=by kernel_rfl
 i5:=by kernel_rfl
 i9:=by kernel_rfl
 i20:=by kernel_rfl
 i21:=by kernel_rfl
 i37:=by kernel_rfl
 i46:=by kernel_rfl
 i51:=by kernel_rfl
 i53:=by kernel_rfl
 i75:=by kernel_rfl
 i76:=by kernel_rfl
 i80:=by kernel_rfl
 i85:=by kernel_rfl
 i127:=by kernel_rfl
 i143:=by kernel_rfl
 i145:=by kernel_rfl
 i167:=by kernel_rfl
 i168:=by kernel_rfl
 i171:=by kernel_rfl
 i173:=by kernel_rfl
 i175:=by kernel_rfl
 i210:=by kernel_rfl
 i212:=by kernel_rfl
 i232:=by kernel_rfl
 i233:=by kernel_rfl
 m15:=by kernel_rfl
 m16:=by kernel_rfl
 m17:=by kernel_rfl
 m18:=by kernel_rfl
 m19:=by kernel_rfl
 c0:=by kernel_rfl
 c2:=by kernel_rfl
 c3:=by kernel_rfl
 c4:=by kernel_rfl
 c5:=by kernel_rfl
 c9:=by kernel_rfl
 c20:=by kernel_rfl
 c21:=by kernel_rfl
 c37:=by kernel_rfl
 c46:=by kernel_rfl
 c51:=by kernel_rfl
 c53:=by kernel_rfl
 c75:=by kernel_rfl
 c76:=by kernel_rfl
 c80:=by kernel_rfl
 c85:=by kernel_rfl
 c127:=by kernel_rfl
 c143:=by kernel_rfl
 c145:=by kernel_rfl
 c167:=by kernel_rfl
 c168:=by kernel_rfl
 c171:=by kernel_rfl
 c173:=by kernel_rfl
 c175:=by kernel_rfl
 c210:=by kernel_rfl
 c212:=by kernel_rfl
 c213:=by kernel_rfl
 c232:=by kernel_rfl
 c233:=by kernel_rfl }
end Go.Proofs
namespace Go.Proofs.YtmcgnnmffeojpabGreatDoor
open Go.Lib
def cut1 (c:UInt8):List UInt8 -> List (List UInt8)
 | []=>[[]]
 | b :: r=>if b = c then [] :: cut1 c r else match cut1 c r with | h :: t=>(b :: h) :: t | []=>[[b]]
theorem znF (c:UInt8) (l:List UInt8):cut1 c l ≠ []:=by
 cases l with
 | nil=>simp [cut1]
 | cons b r => unfold cut1;split;. simp
               split <;> simp
theorem zc0 {c:UInt8}:∀ {a:List UInt8},c ∉ a -> cut1 c a = [a]
 | [],_=>rfl
 | b :: r,h=>by
   have hb:b ≠ c:=fun e=>h (by rw [e];exact List.mem_cons_self);rw [cut1,if_neg hb,zc0 (fun e=>h (List.mem_cons_of_mem _ e))]
theorem zcA {c:UInt8} (r:List UInt8):∀ {a:List UInt8},c ∉ a -> cut1 c (a ++ c :: r) = a :: cut1 c r
 | [],_=>by rw [List.nil_append,cut1,if_pos rfl]
 | b :: a,h=>by
   have hb:b ≠ c:=fun e=>h (by rw [e];exact List.mem_cons_self);rw [List.cons_append,cut1,if_neg hb,zcA r (fun e=>h (List.mem_cons_of_mem _ e))]
theorem zel {c:UInt8}:∀ {a:List UInt8},c ∉ a -> index a [c] = -1
 | [],_=>by simp [index]
 | b :: r,h=>by
   have hb:b ≠ c:=fun e=>h (by rw [e];exact List.mem_cons_self);have hp:([c]:List UInt8).isPrefixOf (b :: r) = false:=by simp [List.isPrefixOf,Ne.symm hb]
   rw [index,hp,zel (fun e=>h (List.mem_cons_of_mem _ e))];simp
theorem zeQ {c:UInt8} (r:List UInt8):∀ {a:List UInt8},c ∉ a -> index (a ++ c :: r) [c] = (a.length:Nat)
 | [],_=>by rw [List.nil_append,index];simp [List.isPrefixOf]
 | b :: a,h=>by
   have hb:b ≠ c:=fun e=>h (by rw [e];exact List.mem_cons_self);have hp:([c]:List UInt8).isPrefixOf (b :: (a ++ c :: r)) = false:=by simp [List.isPrefixOf,Ne.symm hb]
   rw [List.cons_append,index,hp,zeQ r (fun e=>h (List.mem_cons_of_mem _ e))];have:((a.length:Nat):Int) ≠ -1:=by omega
   simp [this]
theorem zc8 (c:UInt8):∀ s:List UInt8,c ∉ s \/ ∃ a r,c ∉ a /\ s = a ++ c :: r
 | []=>.inl (by simp)
 | b :: s=>by
   by_cases hb:b = c
   . exact .inr ⟨[],s,by simp,by rw [hb];rfl⟩
   . rcases zc8 c s with h | ⟨a,r,h1,h2⟩
     . exact .inl (by rw [List.mem_cons];exact fun e=>e.elim (fun e=>hb e.symm) h)
     . exact .inr ⟨b :: a,r,by rw [List.mem_cons];exact fun e=>e.elim (fun e=>hb e.symm) h1,by rw [h2];rfl⟩
theorem ziN (c:UInt8) (n:Nat):∀ s:List UInt8,s.length <= n -> split s [c] = cut1 c s:=by
 induction n with
 | zero =>
   intro s hs;obtain rfl:s = []:=List.eq_nil_of_length_eq_zero (by omega);unfold split;rw [count_miss (by simp [index])];rfl
 | succ n ih =>
   intro s hs;rcases zc8 c s with h | ⟨a,r,h1,rfl⟩
   . unfold split;rw [count_miss (zel h),zc0 h];rfl
   . have hi:=zeQ r h1;have hc:=count_hit (sub:=[c]) (by simp) hi;have e1:(a ++ c :: r).drop (a.length + 1) = r:=by
      rw [List.drop_append,List.drop_eq_nil_of_le (by omega)];simp
     simp only [List.length_cons,List.length_nil,Nat.zero_add] at hc;rw [e1] at hc;have ih2:=ih r (by simp at hs;omega);unfold split at ih2 ⊢;rw [hc,Nat.add_comm,splitK,zcA r h1,hi];have:¬ (((a.length:Nat):Int) == -1) = true:=fun e=>by have:=beq_iff_eq.1 e;omega
     rw [if_neg this];simp only [Int.toNat_natCast,List.length_cons,List.length_nil,Nat.zero_add,Nat.add_zero];rw [e1,ih2,List.take_left]
theorem zpc (c:UInt8) (n:Nat):∀ s:List UInt8,s.length <= n -> ∀ p ∈ cut1 c s,c ∉ p:=by
 induction n with
 | zero =>
   intro s hs p hp;obtain rfl:s = []:=List.eq_nil_of_length_eq_zero (by omega);simp [cut1] at hp;subst hp;simp
 | succ n ih =>
   intro s hs p hp;rcases zc8 c s with h | ⟨a,r,h1,rfl⟩
   . rw [zc0 h,List.mem_singleton] at hp;subst hp;exact h
   . rw [zcA r h1] at hp;rcases List.mem_cons.1 hp with rfl | hp
     . exact h1
     . exact ih r (by simp at hs;omega) p hp
theorem zer (c:UInt8) (n:Nat):∀ s:List UInt8,s.length <= n -> (cut1 c s).length <= s.length + 1:=by
 induction n with
 | zero =>
   intro s hs;obtain rfl:s = []:=List.eq_nil_of_length_eq_zero (by omega);simp [cut1]
 | succ n ih =>
   intro s hs;rcases zc8 c s with h | ⟨a,r,h1,rfl⟩
   . rw [zc0 h];simp
   . rw [zcA r h1]
     have:=ih r (by simp at hs;omega)
     simp;omega
theorem zbC (u:Nat):∀ b ∈ decDigits u,48 <= b.toNat /\ b.toNat <= 57:=by
 induction u using Nat.strongRecOn with
 | _ u ih =>
   have hd:∀ k:Nat,k < 10 -> 48 <= (UInt8.ofNat (48 + k)).toNat /\ (UInt8.ofNat (48 + k)).toNat <= 57:=fun k hk=>by
    rw [UInt8.toNat_ofNat'];omega
   by_cases h:u < 10
   . rw [decDigits,dif_pos h];intro b hb;rw [List.mem_singleton] at hb;subst hb;exact hd u h
   . rw [decDigits,dif_neg h];intro b hb;rcases List.mem_append.1 hb with hb | hb
     . exact ih (u / 10) (by omega) b hb
     . rw [List.mem_singleton] at hb;subst hb;exact hd _ (by omega)
theorem zeW (n:Int):∀ b ∈ itoa n,45 <= b.toNat /\ b.toNat <= 57:=by
 intro b hb;unfold itoa at hb;split at hb
 . rcases List.mem_cons.1 hb with rfl | hb
   . decide
   . have:=zbC _ b hb;omega
 . have:=zbC _ b hb;omega
theorem zd9 (u:Nat):decDigits u ≠ []:=by
 intro e
 have:=decDigits_length u
 rw [e] at this
 have:=nDigits_pos u
 simp at *;omega
theorem zg1 (u:Nat):∀ (r:List UInt8),u < 18446744073709551616 -> parseUint10 0 (decDigits u ++ r) = parseUint10 u r:=by
 induction u using Nat.strongRecOn with
 | _ u ih =>
   intro r hu;have hd:∀ k:Nat,k < 10 -> (UInt8.ofNat (48 + k)).toNat = 48 + k:=fun k hk=>by
    rw [UInt8.toNat_ofNat'];omega
   by_cases h:u < 10
   . rw [decDigits,dif_pos h,List.singleton_append,parseUint10,hd u h,if_pos (by omega),if_neg (by omega),if_neg (by omega)];congr 1;omega
   . rw [decDigits,dif_neg h,List.append_assoc,ih (u / 10) (by omega) _ (by omega),List.singleton_append,parseUint10,hd (u % 10) (by omega),if_pos (by omega),if_neg (by omega),if_neg (by omega)];congr 1;omega
theorem zdB (u:Nat) (hu:u < 18446744073709551616):parseMag (decDigits u) = .ok u:=by
 unfold parseMag;rw [if_neg (zd9 u)]
 have:=zg1 u [] hu
 rw [List.append_nil] at this;rw [this];rfl
theorem zk8 (n:Int) (h0:-9223372036854775808 <= n) (h1:n <= 9223372036854775807):atoiAll (itoa n) = .ok n:=by
 unfold itoa;split
 . rw [atoiAll_minus,zdB _ (by omega)];unfold signed;simp only
   first | (rw [if_neg (by omega)];congr 1;omega) | (rw [if_pos (by omega)];congr 1;omega)
 . obtain ⟨c,r,e⟩:=List.exists_cons_of_ne_nil (zd9 n.toNat);have hb:=zbC n.toNat c (by rw [e];exact List.mem_cons_self);rw [e,atoiAll_plain c r (by omega) (by omega),<- e,zdB _ (by omega)];unfold signless;simp only
   first | (rw [if_neg (by omega)];congr 1;omega) | (rw [if_pos (by omega)];congr 1;omega)
def lineB (nm:List UInt8) (l:List Int):List UInt8:=nm ++ l.flatMap (fun n=>32 :: itoa n)
def textB (ls:List (List UInt8 × List Int)):List UInt8:=ls.flatMap fun x=>lineB x.1 x.2 ++ [10]
theorem zaR (a b:List (List UInt8 × List Int)):textB (a ++ b) = textB a ++ textB b:=List.flatMap_append
theorem zca (a:List UInt8 × List Int) (b:List (List UInt8 × List Int)):textB (a :: b) = (lineB a.1 a.2 ++ [10]) ++ textB b:=rfl
theorem zjI (c:UInt8) (hc:c.toNat < 32) (l:List Int):c ∉ l.flatMap (fun n=>32 :: itoa n):=by
 intro h;obtain ⟨n,-,h⟩:=List.mem_flatMap.1 h;rcases List.mem_cons.1 h with rfl | h
 . simp at hc
 . have:=zeW n c h;omega
theorem zkc {nm:List UInt8} (h:∀ b ∈ nm,97 <= b.toNat) (l:List Int):(10:UInt8) ∉ lineB nm l:=by
 intro e;rcases List.mem_append.1 e with e | e
 . have:=h 10 e;simp at this
 . exact zjI 10 (by decide) l e
theorem ziz:∀ (l:List Int) (nm:List UInt8),(32:UInt8) ∉ nm -> cut1 32 (nm ++ l.flatMap (fun n=>32 :: itoa n)) = nm :: l.map itoa
 | [],nm,h=>by simp only [List.flatMap_nil,List.append_nil,List.map_nil];exact zc0 h
 | n :: l,nm,h=>by
   rw [List.flatMap_cons,List.cons_append,zcA _ h,ziz l (itoa n) (fun e=>by have:=zeW n 32 e;simp at this)];rfl
theorem zmV {nm:List UInt8} (h:∀ b ∈ nm,97 <= b.toNat) (l:List Int):cut1 32 (lineB nm l) = nm :: l.map itoa :=
 ziz l nm (fun e=>by have:=h 32 e;simp at this)
theorem zis:∀ (ls:List (List UInt8 × List Int)),(∀ x ∈ ls,∀ b ∈ x.1,97 <= b.toNat) -> cut1 10 (textB ls) = ls.map (fun x=>lineB x.1 x.2) ++ [[]]
 | [],_=>rfl
 | x :: ls,h=>by
   rw [zca,List.append_assoc,List.singleton_append,zcA _ (zkc (h x List.mem_cons_self) x.2),zis ls (fun y hy=>h y (List.mem_cons_of_mem _ hy))];rfl
open Go.RowKit Go.Plan Go.Shelf
def wsR:Go.Shelf.Ren:=⟨fun | 166=>56 | 240=>103 | 276=>140 | n=>n,fun | 0=>0 | 3=>3 | 4=>4 | 5=>5 | 9=>9 | 20=>20 | 37=>125 | 70=>124 | 72=>127 | 75=>29 | 80=>133 | 164=>184 | n=>n,fun | n=>n⟩
theorem wsL:Go.Proofs.Lays.n166 Tryz.prog wsR:={
 mixed:=by kernel_rfl
 f166:=Tryz.func56.trans (congrArg some (by kernel_rfl))
 f240:=Tryz.func103.trans (congrArg some (by kernel_rfl))
 f276:=Tryz.func140.trans (congrArg some (by kernel_rfl))
 t0:=Tryz.underlying0
 a0:=Tryz.isAgg0
 z0:=Tryz.sizeOf0
 v0:=Tryz.zeroValue0
 t3:=Tryz.underlying3
 a3:=Tryz.isAgg3
 z3:=Tryz.sizeOf3
 v3:=Tryz.zeroValue3
 t4:=Tryz.underlying4
 a4:=Tryz.isAgg4
 z4:=Tryz.sizeOf4
 v4:=Tryz.zeroValue4
 t9:=Tryz.underlying9
 a9:=Tryz.isAgg9
 z9:=Tryz.sizeOf9
 v9:=Tryz.zeroValue9
 t20:=Tryz.underlying20
 a20:=Tryz.isAgg20
 z20:=Tryz.sizeOf20
 v20:=Tryz.zeroValue20
 t37:=Tryz.underlying125
 a37:=Tryz.isAgg125
 z37:=Tryz.sizeOf125
 v37:=Tryz.zeroValue125
 t70:=Tryz.underlying124
 a70:=Tryz.isAgg124
 z70:=Tryz.sizeOf124
 v70:=Tryz.zeroValue124
 t72:=Tryz.underlying127
 a72:=Tryz.isAgg127
 z72:=Tryz.sizeOf127
 v72:=Tryz.zeroValue127
 t75:=Tryz.underlying29
 a75:=Tryz.isAgg29
 z75:=Tryz.sizeOf29
 v75:=Tryz.zeroValue29
 t164:=Tryz.underlying184
 a164:=Tryz.isAgg184
 z164:=Tryz.sizeOf184
 v164:=Tryz.zeroValue184 }
theorem wsX:Builder.Extra Tryz.prog wsR where
 sizeBuilder:=by kernel_rfl
 liesBuilder:=by kernel_rfl
 t5:=Tryz.underlying5
 a5:=Tryz.isAgg5
 z5:=Tryz.sizeOf5
 v5:=Tryz.zeroValue5
 infoByte:=by kernel_rfl
 cellsByte:=by kernel_rfl
 sizeByte:=by kernel_rfl
 neB5:=by decide
theorem bsX:Builder.Extra Tryz.prog Tryz.shBS_ren where
 sizeBuilder:=by kernel_rfl
 liesBuilder:=by kernel_rfl
 t5:=Tryz.underlying5
 a5:=Tryz.isAgg5
 z5:=Tryz.sizeOf5
 v5:=Tryz.zeroValue5
 infoByte:=by kernel_rfl
 cellsByte:=by kernel_rfl
 sizeByte:=by kernel_rfl
 neB5:=by decide
def SB (B b:Nat) (l:List UInt8) (w:World):Prop:=Lib.IsBuilderF 127 5 B b (Lib.byteCells l) w
def BExt (B b:Nat) (w w':World):Prop:=Below B w w' /\ Lib.OthersKept 5 (some b) w w'
theorem zgq {w w':World} {B e size n:Nat} {v:Value} {xs:List Value} (h:w.ownsRowF B e size v n xs) (hb:∀ k,k < w.heap.size -> w'.heap[k]? = w.heap[k]?):w'.ownsRowF B e size v n xs:=by
 obtain ⟨h1,h2⟩:=h;refine ⟨h1,?_⟩;rcases h2 with h2 | ⟨g,cap,cur,fz,e1,e2,e3,e4⟩
 . exact .inl h2
 . exact .inr ⟨g,cap,cur,fz,e1,e2,(hb g (Array.getElem?_eq_some_iff.1 e3).1).trans e3,e4⟩
theorem SB.keep {B b:Nat} {l:List UInt8} {w w':World} (h:SB B b l w) (hb:∀ k,k < w.heap.size -> w'.heap[k]? = w.heap[k]?):SB B b l w':=by
 rcases h with ⟨h1,v,h2,h3,h4⟩ | ⟨h1,v,h2,h3,h4⟩
 . exact .inl ⟨h1,v,(hb b (Array.getElem?_eq_some_iff.1 h2).1).trans h2,zgq h3 hb,h4⟩
 . exact .inr ⟨h1,v,(hb b (Array.getElem?_eq_some_iff.1 h2).1).trans h2,zgq h3 hb,h4⟩
theorem SB.ext {B b:Nat} {l:List UInt8} {w w':World} (h:SB B b l w) (hx:Ext w w'):SB B b l w':=h.keep (fun k hk=>hx.block k hk id)
theorem SB.lt {B b:Nat} {l:List UInt8} {w:World} (h:SB B b l w):B <= b /\ b < w.heap.size:=by
 rcases h with ⟨h1,v,h2,-⟩ | ⟨h1,v,h2,-⟩
 . exact ⟨h1,(Array.getElem?_eq_some_iff.1 h2).1⟩
 . exact ⟨h1,(Array.getElem?_eq_some_iff.1 h2).1⟩
theorem BExt.refl (B b:Nat) (w:World):BExt B b w w:=⟨Below.refl B w,Lib.OthersKept.refl _ _ w⟩
theorem BExt.trans {B b:Nat} {u v w:World} (h:BExt B b u v) (k:BExt B b v w):BExt B b u w:=⟨h.1.trans k.1,h.2.trans k.2⟩
theorem BExt.of_ext {B b:Nat} {w w':World} (h:Ext w w') (hB:B <= w.heap.size):BExt B b w w' :=
 ⟨⟨h.os,h.tape,h.output,h.size,fun k hk=>h.block k (by omega) id⟩,fun k o hk _ _=>(h.block k (Array.getElem?_eq_some_iff.1 hk).1 id).trans hk⟩
theorem BExt.size {B b:Nat} {w w':World} (h:BExt B b w w'):w.heap.size <= w'.heap.size:=h.1.size
theorem BExt.row {B b g:Nat} {w w':World} (h:BExt B b w w') {c:Array Value} {t:TypeId} {fz:Nat × Nat} (hg:w.heap[g]? = some (.cells c t fz)) (hgb:g ≠ b) (ht:t ≠ 5):w'.heap[g]? = some (.cells c t fz) :=
 h.2 g _ hg (fun e=>hgb (Option.some.inj e)) (fun c' fz' e=>ht (by injection e))
theorem BExt.ext {B b:Nat} {u w w':World} (hu:Ext u w) (hB:B = u.heap.size) (h:BExt B b w w'):Ext u w' :=
 ⟨h.1.os.trans hu.os,h.1.tape.trans hu.tape,h.1.output.trans hu.output,Nat.le_trans hu.size h.1.size,fun k hk _=>(h.1.block k (by omega)).trans (hu.block k hk id)⟩
def TabP (w : World) : Prop := Lib.TabIs Tryz.prog w "internal/strconv.uint64pow10" .u64 Lib.pow10Tab
theorem powG : Tryz.prog.globalNamed "internal/strconv.uint64pow10" = some 6 := by kernel_rfl
theorem TabP.keep {w w':World} (h:TabP w) (hb:w'.heap[6]? = w.heap[6]?):TabP w':=by
 unfold TabP Lib.TabIs World.var? at *;rw [powG] at *;simp only [Option.bind_some] at *;rw [hb];exact h
theorem TabP.lt {w:World} (h:TabP w):6 < w.heap.size:=by
 have:=h.cell powG 0 (by decide)
 unfold World.cell? at this;split at this
 . rename_i hb;exact (Array.getElem?_eq_some_iff.1 hb).1
 . cases this
theorem ws_c (B b:Nat) (l:List UInt8) (s:ByteArray) (w:World) (h:SB B b l w) (hl:l.length + s.size <= 1000000000) :
 Calls Tryz.prog 56 #[.pointer (some ⟨b,0,none⟩),.string s] w fun e w'=>e = .returned (.tuple #[.int .i64 s.size,.nilIface]) /\ SB B b (l ++ s.data.toList) w' /\ BExt B b w w':=by
 have hb:=h.lt;refine (Any.Builder_WriteString_k wsL wsX B b (Lib.byteCells l) s w h (by rw [Lib.byteCells_length];omega) (by omega)).mono ?_;rintro e w' ⟨rfl,h1,h2,h3⟩;refine ⟨rfl,?_,h2,h3⟩;have e1:Lib.byteCells l ++ Lib.strCells s = Lib.byteCells (l ++ s.data.toList):=by unfold Lib.byteCells Lib.strCells;rw [List.map_append]
 rw [e1] at h1;exact .inr h1
theorem bs_c (B b:Nat) (l:List UInt8) (w:World) (h:SB B b l w) :
 Calls Tryz.prog 64 #[.pointer (some ⟨b,0,none⟩)] w fun e w'=>e = .returned (.string ⟨l.toArray⟩) /\ BExt B b w w':=by
 have hb:=h.lt;refine (Any.Builder_String_any_k Tryz.shBS bsX B b l w h (by omega)).mono ?_;rintro e w' ⟨rfl,h1,h2,h3⟩;exact ⟨rfl,h2,h3⟩
theorem bl_c (B b:Nat) (l:List UInt8) (w:World) (h:SB B b l w) :
 Calls Tryz.prog 63 #[.pointer (some ⟨b,0,none⟩)] w fun e w'=>e = .returned (.int .i64 (l.length:Nat)) /\ w = w':=by
 refine (Any.Builder_Len_f Tryz.shBL B b (Lib.byteCells l) w h).mono ?_;rintro e w' ⟨rfl,rfl⟩;rw [Lib.byteCells_length];exact ⟨rfl,rfl⟩
theorem zno (n:Int) (w:World) (h0:-9223372036854775808 <= n) (h1:n <= 9223372036854775807) (ht:TabP w) :
 Calls Tryz.prog 57 #[.int .i64 n] w fun e w'=>e = .returned (.string ⟨(Lib.itoa n).toArray⟩) /\ Ext w w':=by
 refine (Any.strconv_Itoa Tryz.shItoa n h0 h1 w ht).mono ?_;rintro e w' ⟨rfl,k,os,rfl⟩;refine ⟨rfl,rfl,rfl,rfl,by simp [Sort.grow,World.drewN],fun k hk _=>?_⟩;simp only [Sort.grow,World.drewN] at hk ⊢;exact Array.getElem?_append_left hk
end Go.Proofs.YtmcgnnmffeojpabGreatDoor
