import Derived.Test.YtiknejbcehpmoaaGreatDoorPk1
import Derived.Test.YtiknejbcehpmoaaGreatDoorPk5
import Derived.Shelf.LaysM
import Derived.Shelf.LaysC
import Derived.Shelf.Strings.BuilderK
import Derived.Shelf.Strconv.Itoa3
import Derived.Shelf.Strings.Split
import Derived.Shelf.Strconv.AtoiAll
import Derived.Ground.NamesProg
import Derived.Test.YtiknejbcehpmoaaGreatDoorProg
set_option maxRecDepth 100000
set_option maxHeartbeats 8000000
namespace Go.Proofs
open Go.Shelf
def Tryz.shBS_ren:Go.Shelf.Ren:=⟨fun | 169=>12 | n=>n,fun | 70=>31 | 9=>9 | 0=>0 | 72=>34 | 37=>32 | 127=>73 | 3=>3 | 5=>5 | n=>n,fun | n=>n⟩
theorem Tryz.shBS:Go.Proofs.Lays.n169 Tryz.prog Tryz.shBS_ren:={
 mixed:=by kernel_rfl
 f169:=Tryz.func12.trans (congrArg some (by kernel_rfl))
 t0:=Tryz.underlying0
 a0:=Tryz.isAgg0
 z0:=Tryz.sizeOf0
 v0:=Tryz.zeroValue0
 t3:=Tryz.underlying3
 a3:=Tryz.isAgg3
 z3:=Tryz.sizeOf3
 v3:=Tryz.zeroValue3
 t9:=Tryz.underlying9
 a9:=Tryz.isAgg9
 z9:=Tryz.sizeOf9
 v9:=Tryz.zeroValue9
 t37:=Tryz.underlying32
 a37:=Tryz.isAgg32
 z37:=Tryz.sizeOf32
 v37:=Tryz.zeroValue32
 t70:=Tryz.underlying31
 a70:=Tryz.isAgg31
 z70:=Tryz.sizeOf31
 v70:=Tryz.zeroValue31
 t72:=Tryz.underlying34
 a72:=Tryz.isAgg34
 z72:=Tryz.sizeOf34
 v72:=Tryz.zeroValue34
 t127:=Tryz.underlying73
 a127:=Tryz.isAgg73
 z127:=Tryz.sizeOf73
 v127:=Tryz.zeroValue73 }
def Tryz.shBL_ren:Go.Shelf.Ren:=⟨fun | 170=>140 | n=>n,fun | 70=>31 | 3=>3 | 0=>0 | 72=>34 | 37=>32 | 5=>5 | n=>n,fun | n=>n⟩
theorem Tryz.shBL:Go.Proofs.Lays.n170 Tryz.prog Tryz.shBL_ren:={
 mixed:=by kernel_rfl
 f170:=Tryz.func140.trans (congrArg some (by kernel_rfl))
 t0:=Tryz.underlying0
 a0:=Tryz.isAgg0
 z0:=Tryz.sizeOf0
 v0:=Tryz.zeroValue0
 t3:=Tryz.underlying3
 a3:=Tryz.isAgg3
 z3:=Tryz.sizeOf3
 v3:=Tryz.zeroValue3
 t37:=Tryz.underlying32
 a37:=Tryz.isAgg32
 z37:=Tryz.sizeOf32
 v37:=Tryz.zeroValue32
 t70:=Tryz.underlying31
 a70:=Tryz.isAgg31
 z70:=Tryz.sizeOf31
 v70:=Tryz.zeroValue31
 t72:=Tryz.underlying34
 a72:=Tryz.isAgg34
 z72:=Tryz.sizeOf34
 v72:=Tryz.zeroValue34 }
def Tryz.shItoa_ren:Go.Shelf.Ren:=⟨fun | 171=>25 | 243=>50 | 246=>68 | 283=>105 | 284=>106 | 285=>107 | 286=>108 | 129=>147 | 317=>146 | 318=>148 | 319=>149 | 320=>150 | 337=>185 | 338=>186 | n=>n,fun | 3=>3 | 9=>9 | 2=>2 | 4=>4 | 171=>178 | 0=>0 | 53=>171 | 37=>32 | 5=>5 | 173=>181 | 212=>231 | 51=>232 | 20=>20 | 213=>233 | 46=>174 | 232=>289 | 233=>290 | n=>n,fun | 17=>6 | 18=>7 | 19=>8 | n=>n⟩
theorem Tryz.shItoa:Go.Proofs.LaysM.n171 Tryz.prog Tryz.shItoa_ren:={
 mixed:=by kernel_rfl
 f129:=Tryz.func147.trans (congrArg some (by kernel_rfl))
 f171:=Tryz.func25.trans (congrArg some (by kernel_rfl))
 f243:=Tryz.func50.trans (congrArg some (by kernel_rfl))
 f246:=Tryz.func68.trans (congrArg some (by kernel_rfl))
 f283:=Tryz.func105.trans (congrArg some (by kernel_rfl))
 f284:=Tryz.func106.trans (congrArg some (by kernel_rfl))
 f285:=Tryz.func107.trans (congrArg some (by kernel_rfl))
 f286:=Tryz.func108.trans (congrArg some (by kernel_rfl))
 f317:=Tryz.func146.trans (congrArg some (by kernel_rfl))
 f318:=Tryz.func148.trans (congrArg some (by kernel_rfl))
 f319:=Tryz.func149.trans (congrArg some (by kernel_rfl))
 f320:=Tryz.func150.trans (congrArg some (by kernel_rfl))
 f337:=Tryz.func185.trans (congrArg some (by kernel_rfl))
 f338:=Tryz.func186.trans (congrArg some (by kernel_rfl))
 t0:=Tryz.underlying0
 a0:=Tryz.isAgg0
 z0:=Tryz.sizeOf0
 v0:=Tryz.zeroValue0
 t2:=Tryz.underlying2
 a2:=Tryz.isAgg2
 z2:=Tryz.sizeOf2
 v2:=Tryz.zeroValue2
 t3:=Tryz.underlying3
 a3:=Tryz.isAgg3
 z3:=Tryz.sizeOf3
 v3:=Tryz.zeroValue3
 t4:=Tryz.underlying4
 a4:=Tryz.isAgg4
 z4:=Tryz.sizeOf4
 v4:=Tryz.zeroValue4
 t5:=Tryz.underlying5
 a5:=Tryz.isAgg5
 z5:=Tryz.sizeOf5
 v5:=Tryz.zeroValue5
 t9:=Tryz.underlying9
 a9:=Tryz.isAgg9
 z9:=Tryz.sizeOf9
 v9:=Tryz.zeroValue9
 t20:=Tryz.underlying20
 a20:=Tryz.isAgg20
 z20:=Tryz.sizeOf20
 v20:=Tryz.zeroValue20
 t37:=Tryz.underlying32
 a37:=Tryz.isAgg32
 z37:=Tryz.sizeOf32
 v37:=Tryz.zeroValue32
 t46:=Tryz.underlying174
 a46:=Tryz.isAgg174
 z46:=Tryz.sizeOf174
 v46:=Tryz.zeroValue174
 t51:=Tryz.underlying232
 a51:=Tryz.isAgg232
 z51:=Tryz.sizeOf232
 v51:=Tryz.zeroValue232
 t53:=Tryz.underlying171
 a53:=Tryz.isAgg171
 z53:=Tryz.sizeOf171
 v53:=Tryz.zeroValue171
 t171:=Tryz.underlying178
 a171:=Tryz.isAgg178
 z171:=Tryz.sizeOf178
 v171:=Tryz.zeroValue178
 t173:=Tryz.underlying181
 a173:=Tryz.isAgg181
 z173:=Tryz.sizeOf181
 v173:=Tryz.zeroValue181
 t212:=Tryz.underlying231
 a212:=Tryz.isAgg231
 z212:=Tryz.sizeOf231
 v212:=Tryz.zeroValue231
 t213:=Tryz.underlying233
 a213:=Tryz.isAgg233
 z213:=Tryz.sizeOf233
 t232:=Tryz.underlying289
 a232:=Tryz.isAgg289
 z232:=Tryz.sizeOf289
 v232:=Tryz.zeroValue289
 t233:=Tryz.underlying290
 a233:=Tryz.isAgg290
 z233:=Tryz.sizeOf290
 v233:=Tryz.zeroValue290
 g17:=by kernel_rfl
 g18:=by kernel_rfl
 g19:=by kernel_rfl
 i0:=by kernel_rfl
 i2:=by kernel_rfl
 i3:=by kernel_rfl
 i4:=by kernel_rfl
 i5:=by kernel_rfl
 i9:=by kernel_rfl
 i20:=by kernel_rfl
 i37:=by kernel_rfl
 i46:=by kernel_rfl
 i51:=by kernel_rfl
 i53:=by kernel_rfl
 i171:=by kernel_rfl
 i173:=by kernel_rfl
 i212:=by kernel_rfl
 i232:=by kernel_rfl
 i233:=by kernel_rfl
 m17:=by kernel_rfl
 m18:=by kernel_rfl
 m19:=by kernel_rfl }
def Tryz.shSplit_ren:Go.Shelf.Ren:=⟨fun | 146=>13 | 221=>29 | 268=>63 | 138=>64 | 143=>47 | 195=>98 | 197=>46 | 218=>99 | 219=>85 | 260=>84 | 217=>126 | 225=>127 | 224=>128 | 267=>129 | 266=>170 | 314=>171 | n=>n,fun | 9=>9 | 31=>30 | 3=>3 | 4=>4 | 0=>0 | 105=>122 | 21=>21 | 5=>5 | 46=>174 | 119=>211 | 139=>214 | 138=>213 | 146=>253 | 51=>232 | n=>n,fun | 1=>3 | 3=>1 | 4=>2 | n=>n⟩
theorem Tryz.shSplit:Go.Proofs.Lays.n146 Tryz.prog Tryz.shSplit_ren:={
 mixed:=by kernel_rfl
 f138:=Tryz.func64.trans (congrArg some (by kernel_rfl))
 f143:=Tryz.func47.trans (congrArg some (by kernel_rfl))
 f146:=Tryz.func13.trans (congrArg some (by kernel_rfl))
 f195:=Tryz.func98.trans (congrArg some (by kernel_rfl))
 f197:=Tryz.func46.trans (congrArg some (by kernel_rfl))
 f217:=Tryz.func126.trans (congrArg some (by kernel_rfl))
 f218:=Tryz.func99.trans (congrArg some (by kernel_rfl))
 f219:=Tryz.func85.trans (congrArg some (by kernel_rfl))
 f221:=Tryz.func29.trans (congrArg some (by kernel_rfl))
 f224:=Tryz.func128.trans (congrArg some (by kernel_rfl))
 f225:=Tryz.func127.trans (congrArg some (by kernel_rfl))
 f260:=Tryz.func84.trans (congrArg some (by kernel_rfl))
 f266:=Tryz.func170.trans (congrArg some (by kernel_rfl))
 f267:=Tryz.func129.trans (congrArg some (by kernel_rfl))
 f268:=Tryz.func63.trans (congrArg some (by kernel_rfl))
 f314:=Tryz.func171.trans (congrArg some (by kernel_rfl))
 t0:=Tryz.underlying0
 a0:=Tryz.isAgg0
 z0:=Tryz.sizeOf0
 v0:=Tryz.zeroValue0
 t3:=Tryz.underlying3
 a3:=Tryz.isAgg3
 z3:=Tryz.sizeOf3
 v3:=Tryz.zeroValue3
 t4:=Tryz.underlying4
 a4:=Tryz.isAgg4
 z4:=Tryz.sizeOf4
 v4:=Tryz.zeroValue4
 t5:=Tryz.underlying5
 a5:=Tryz.isAgg5
 z5:=Tryz.sizeOf5
 v5:=Tryz.zeroValue5
 t9:=Tryz.underlying9
 a9:=Tryz.isAgg9
 z9:=Tryz.sizeOf9
 v9:=Tryz.zeroValue9
 t21:=Tryz.underlying21
 a21:=Tryz.isAgg21
 z21:=Tryz.sizeOf21
 v21:=Tryz.zeroValue21
 t31:=Tryz.underlying30
 a31:=Tryz.isAgg30
 z31:=Tryz.sizeOf30
 v31:=Tryz.zeroValue30
 t46:=Tryz.underlying174
 a46:=Tryz.isAgg174
 z46:=Tryz.sizeOf174
 v46:=Tryz.zeroValue174
 t51:=Tryz.underlying232
 a51:=Tryz.isAgg232
 z51:=Tryz.sizeOf232
 v51:=Tryz.zeroValue232
 t105:=Tryz.underlying122
 a105:=Tryz.isAgg122
 z105:=Tryz.sizeOf122
 v105:=Tryz.zeroValue122
 t119:=Tryz.underlying211
 a119:=Tryz.isAgg211
 z119:=Tryz.sizeOf211
 t138:=Tryz.underlying213
 a138:=Tryz.isAgg213
 z138:=Tryz.sizeOf213
 v138:=Tryz.zeroValue213
 t139:=Tryz.underlying214
 a139:=Tryz.isAgg214
 z139:=Tryz.sizeOf214
 v139:=Tryz.zeroValue214
 t146:=Tryz.underlying253
 a146:=Tryz.isAgg253
 z146:=Tryz.sizeOf253
 v146:=Tryz.zeroValue253
 g1:=by kernel_rfl
 g3:=by kernel_rfl
 g4:=by kernel_rfl }
def Tryz.shAtoi_ren:Go.Shelf.Ren:=⟨fun | 172=>42 | 244=>80 | 245=>67 | 247=>66 | 279=>101 | 280=>102 | 281=>103 | 282=>104 | 287=>100 | 316=>144 | 171=>25 | 205=>145 | 321=>142 | 322=>143 | 243=>50 | 246=>68 | 283=>105 | 284=>106 | 285=>107 | 286=>108 | 129=>147 | 317=>146 | 318=>148 | 319=>149 | 320=>150 | 337=>185 | 338=>186 | n=>n,fun | 9=>9 | 3=>3 | 75=>40 | 76=>41 | 4=>4 | 5=>5 | 167=>170 | 37=>32 | 0=>0 | 85=>84 | 2=>2 | 168=>175 | 53=>171 | 175=>172 | 46=>174 | 210=>229 | 127=>73 | 145=>265 | 143=>263 | 21=>21 | 171=>178 | 173=>181 | 212=>231 | 51=>232 | 20=>20 | 213=>233 | 232=>289 | 233=>290 | 80=>43 | n=>n,fun | 15=>4 | 16=>5 | 17=>6 | 18=>7 | 19=>8 | n=>n⟩
theorem Tryz.shAtoi:Go.Proofs.LaysC.n172 Tryz.prog Tryz.shAtoi_ren:={
 mixed:=by kernel_rfl
 f129:=Tryz.func147.trans (congrArg some (by kernel_rfl))
 f171:=Tryz.func25.trans (congrArg some (by kernel_rfl))
 f172:=Tryz.func42.trans (congrArg some (by kernel_rfl))
 f205:=Tryz.func145.trans (congrArg some (by kernel_rfl))
 f243:=Tryz.func50.trans (congrArg some (by kernel_rfl))
 f244:=Tryz.func80.trans (congrArg some (by kernel_rfl))
 f245:=Tryz.func67.trans (congrArg some (by kernel_rfl))
 f246:=Tryz.func68.trans (congrArg some (by kernel_rfl))
 f247:=Tryz.func66.trans (congrArg some (by kernel_rfl))
 f279:=Tryz.func101.trans (congrArg some (by kernel_rfl))
 f280:=Tryz.func102.trans (congrArg some (by kernel_rfl))
 f281:=Tryz.func103.trans (congrArg some (by kernel_rfl))
 f282:=Tryz.func104.trans (congrArg some (by kernel_rfl))
 f283:=Tryz.func105.trans (congrArg some (by kernel_rfl))
 f284:=Tryz.func106.trans (congrArg some (by kernel_rfl))
 f285:=Tryz.func107.trans (congrArg some (by kernel_rfl))
 f286:=Tryz.func108.trans (congrArg some (by kernel_rfl))
 f287:=Tryz.func100.trans (congrArg some (by kernel_rfl))
 f316:=Tryz.func144.trans (congrArg some (by kernel_rfl))
 f317:=Tryz.func146.trans (congrArg some (by kernel_rfl))
 f318:=Tryz.func148.trans (congrArg some (by kernel_rfl))
 f319:=Tryz.func149.trans (congrArg some (by kernel_rfl))
 f320:=Tryz.func150.trans (congrArg some (by kernel_rfl))
 f321:=Tryz.func142.trans (congrArg some (by kernel_rfl))
 f322:=Tryz.func143.trans (congrArg some (by kernel_rfl))
 f337:=Tryz.func185.trans (congrArg some (by kernel_rfl))
 f338:=Tryz.func186.trans (congrArg some (by kernel_rfl))
 t0:=Tryz.underlying0
 a0:=Tryz.isAgg0
 z0:=Tryz.sizeOf0
 v0:=Tryz.zeroValue0
 t2:=Tryz.underlying2
 a2:=Tryz.isAgg2
 z2:=Tryz.sizeOf2
 v2:=Tryz.zeroValue2
 t3:=Tryz.underlying3
 a3:=Tryz.isAgg3
 z3:=Tryz.sizeOf3
 v3:=Tryz.zeroValue3
 t4:=Tryz.underlying4
 a4:=Tryz.isAgg4
 z4:=Tryz.sizeOf4
 v4:=Tryz.zeroValue4
 t5:=Tryz.underlying5
 a5:=Tryz.isAgg5
 z5:=Tryz.sizeOf5
 v5:=Tryz.zeroValue5
 t9:=Tryz.underlying9
 a9:=Tryz.isAgg9
 z9:=Tryz.sizeOf9
 v9:=Tryz.zeroValue9
 t20:=Tryz.underlying20
 a20:=Tryz.isAgg20
 z20:=Tryz.sizeOf20
 v20:=Tryz.zeroValue20
 t21:=Tryz.underlying21
 a21:=Tryz.isAgg21
 z21:=Tryz.sizeOf21
 v21:=Tryz.zeroValue21
 t37:=Tryz.underlying32
 a37:=Tryz.isAgg32
 z37:=Tryz.sizeOf32
 v37:=Tryz.zeroValue32
 t46:=Tryz.underlying174
 a46:=Tryz.isAgg174
 z46:=Tryz.sizeOf174
 v46:=Tryz.zeroValue174
 t51:=Tryz.underlying232
 a51:=Tryz.isAgg232
 z51:=Tryz.sizeOf232
 v51:=Tryz.zeroValue232
 t53:=Tryz.underlying171
 a53:=Tryz.isAgg171
 z53:=Tryz.sizeOf171
 v53:=Tryz.zeroValue171
 t75:=Tryz.underlying40
 a75:=Tryz.isAgg40
 z75:=Tryz.sizeOf40
 v75:=Tryz.zeroValue40
 t76:=Tryz.underlying41
 a76:=Tryz.isAgg41
 z76:=Tryz.sizeOf41
 v76:=Tryz.zeroValue41
 t85:=Tryz.underlying84
 a85:=Tryz.isAgg84
 z85:=Tryz.sizeOf84
 v85:=Tryz.zeroValue84
 t127:=Tryz.underlying73
 a127:=Tryz.isAgg73
 z127:=Tryz.sizeOf73
 v127:=Tryz.zeroValue73
 t143:=Tryz.underlying263
 a143:=Tryz.isAgg263
 z143:=Tryz.sizeOf263
 v143:=Tryz.zeroValue263
 t145:=Tryz.underlying265
 a145:=Tryz.isAgg265
 z145:=Tryz.sizeOf265
 v145:=Tryz.zeroValue265
 t167:=Tryz.underlying170
 a167:=Tryz.isAgg170
 z167:=Tryz.sizeOf170
 v167:=Tryz.zeroValue170
 t168:=Tryz.underlying175
 a168:=Tryz.isAgg175
 z168:=Tryz.sizeOf175
 v168:=Tryz.zeroValue175
 t171:=Tryz.underlying178
 a171:=Tryz.isAgg178
 z171:=Tryz.sizeOf178
 v171:=Tryz.zeroValue178
 t173:=Tryz.underlying181
 a173:=Tryz.isAgg181
 z173:=Tryz.sizeOf181
 v173:=Tryz.zeroValue181
 t175:=Tryz.underlying172
 a175:=Tryz.isAgg172
 z175:=Tryz.sizeOf172
 v175:=Tryz.zeroValue172
 t210:=Tryz.underlying229
 a210:=Tryz.isAgg229
 z210:=Tryz.sizeOf229
 v210:=Tryz.zeroValue229
 t212:=Tryz.underlying231
 a212:=Tryz.isAgg231
 z212:=Tryz.sizeOf231
 v212:=Tryz.zeroValue231
 t213:=Tryz.underlying233
 a213:=Tryz.isAgg233
 z213:=Tryz.sizeOf233
 t232:=Tryz.underlying289
 a232:=Tryz.isAgg289
 z232:=Tryz.sizeOf289
 v232:=Tryz.zeroValue289
 t233:=Tryz.underlying290
 a233:=Tryz.isAgg290
 z233:=Tryz.sizeOf290
 v233:=Tryz.zeroValue290
 g15:=by kernel_rfl
 g16:=by kernel_rfl
 g17:=by kernel_rfl
 g18:=by kernel_rfl
 g19:=by kernel_rfl
 t80:=Tryz.underlying43
 a80:=Tryz.isAgg43
 z80:=Tryz.sizeOf43
 v80:=Tryz.zeroValue43
 i0:=by kernel_rfl
 i2:=by kernel_rfl
 i3:=by kernel_rfl
 i4:=by kernel_rfl
 i5:=by kernel_rfl
 i9:=by kernel_rfl
 i20:=by kernel_rfl
 i21:=by kernel_rfl
 i37:=by kernel_rfl
 i46:=by kernel_rfl
 i51:=by kernel_rfl
 i53:=by kernel_rfl
 i75:=by kernel_rfl
 i76:=by kernel_rfl
 i80:=by kernel_rfl
 i85:=by kernel_rfl
 i127:=by kernel_rfl
 i143:=by kernel_rfl
 i145:=by kernel_rfl
 i167:=by kernel_rfl
 i168:=by kernel_rfl
 i171:=by kernel_rfl
 i173:=by kernel_rfl
 i175:=by kernel_rfl
 i210:=by kernel_rfl
 i212:=by kernel_rfl
 i232:=by kernel_rfl
 i233:=by kernel_rfl
 m15:=by kernel_rfl
 m16:=by kernel_rfl
 m17:=by kernel_rfl
 m18:=by kernel_rfl
 m19:=by kernel_rfl
 c0:=by kernel_rfl
 c2:=by kernel_rfl
 c3:=by kernel_rfl
 c4:=by kernel_rfl
 c5:=by kernel_rfl
 c9:=by kernel_rfl
 c20:=by kernel_rfl
 c21:=by kernel_rfl
 c37:=by kernel_rfl
 c46:=by kernel_rfl
 c51:=by kernel_rfl
 c53:=by kernel_rfl
 c75:=by kernel_rfl
 c76:=by kernel_rfl
 c80:=by kernel_rfl
 c85:=by kernel_rfl
 c127:=by kernel_rfl
 c143:=by kernel_rfl
 c145:=by kernel_rfl
 c167:=by kernel_rfl
 c168:=by kernel_rfl
 c171:=by kernel_rfl
 c173:=by kernel_rfl
 c175:=by kernel_rfl
 c210:=by kernel_rfl
 c212:=by kernel_rfl
 c213:=by kernel_rfl
 c232:=by kernel_rfl
 c233:=by kernel_rfl }
end Go.Proofs
namespace Go.Proofs.YtiknejbcehpmoaaGreatDoor
open Go.RowKit Go.Plan Go.Shelf
def wsR:Go.Shelf.Ren:=⟨fun | 166=>10 | 240=>23 | 276=>49 | n=>n,fun | 0=>0 | 3=>3 | 4=>4 | 5=>5 | 9=>9 | 20=>20 | 37=>32 | 70=>31 | 72=>34 | 75=>40 | 80=>43 | 164=>125 | n=>n,fun | n=>n⟩
theorem wsL:Go.Proofs.Lays.n166 Tryz.prog wsR:={
 mixed:=by kernel_rfl
 f166:=Tryz.func10.trans (congrArg some (by kernel_rfl))
 f240:=Tryz.func23.trans (congrArg some (by kernel_rfl))
 f276:=Tryz.func49.trans (congrArg some (by kernel_rfl))
 t0:=Tryz.underlying0
 a0:=Tryz.isAgg0
 z0:=Tryz.sizeOf0
 v0:=Tryz.zeroValue0
 t3:=Tryz.underlying3
 a3:=Tryz.isAgg3
 z3:=Tryz.sizeOf3
 v3:=Tryz.zeroValue3
 t4:=Tryz.underlying4
 a4:=Tryz.isAgg4
 z4:=Tryz.sizeOf4
 v4:=Tryz.zeroValue4
 t9:=Tryz.underlying9
 a9:=Tryz.isAgg9
 z9:=Tryz.sizeOf9
 v9:=Tryz.zeroValue9
 t20:=Tryz.underlying20
 a20:=Tryz.isAgg20
 z20:=Tryz.sizeOf20
 v20:=Tryz.zeroValue20
 t37:=Tryz.underlying32
 a37:=Tryz.isAgg32
 z37:=Tryz.sizeOf32
 v37:=Tryz.zeroValue32
 t70:=Tryz.underlying31
 a70:=Tryz.isAgg31
 z70:=Tryz.sizeOf31
 v70:=Tryz.zeroValue31
 t72:=Tryz.underlying34
 a72:=Tryz.isAgg34
 z72:=Tryz.sizeOf34
 v72:=Tryz.zeroValue34
 t75:=Tryz.underlying40
 a75:=Tryz.isAgg40
 z75:=Tryz.sizeOf40
 v75:=Tryz.zeroValue40
 t164:=Tryz.underlying125
 a164:=Tryz.isAgg125
 z164:=Tryz.sizeOf125
 v164:=Tryz.zeroValue125 }
theorem wsX:Builder.Extra Tryz.prog wsR where
 sizeBuilder:=by kernel_rfl
 liesBuilder:=by kernel_rfl
 t5:=Tryz.underlying5
 a5:=Tryz.isAgg5
 z5:=Tryz.sizeOf5
 v5:=Tryz.zeroValue5
 infoByte:=by kernel_rfl
 cellsByte:=by kernel_rfl
 sizeByte:=by kernel_rfl
 neB5:=by decide
theorem bsX:Builder.Extra Tryz.prog Tryz.shBS_ren where
 sizeBuilder:=by kernel_rfl
 liesBuilder:=by kernel_rfl
 t5:=Tryz.underlying5
 a5:=Tryz.isAgg5
 z5:=Tryz.sizeOf5
 v5:=Tryz.zeroValue5
 infoByte:=by kernel_rfl
 cellsByte:=by kernel_rfl
 sizeByte:=by kernel_rfl
 neB5:=by decide
def SB (B b:Nat) (l:List UInt8) (w:World):Prop:=Lib.IsBuilderF 34 5 B b (Lib.byteCells l) w
def BExt (B b:Nat) (w w':World):Prop:=Below B w w' /\ Lib.OthersKept 5 (some b) w w'
theorem zgq {w w':World} {B e size n:Nat} {v:Value} {xs:List Value} (h:w.ownsRowF B e size v n xs) (hb:∀ k,k < w.heap.size -> w'.heap[k]? = w.heap[k]?):w'.ownsRowF B e size v n xs:=by
 obtain ⟨h1,h2⟩:=h;refine ⟨h1,?_⟩;rcases h2 with h2 | ⟨g,cap,cur,fz,e1,e2,e3,e4⟩
 . exact .inl h2
 . exact .inr ⟨g,cap,cur,fz,e1,e2,(hb g (Array.getElem?_eq_some_iff.1 e3).1).trans e3,e4⟩
theorem SB.keep {B b:Nat} {l:List UInt8} {w w':World} (h:SB B b l w) (hb:∀ k,k < w.heap.size -> w'.heap[k]? = w.heap[k]?):SB B b l w':=by
 rcases h with ⟨h1,v,h2,h3,h4⟩ | ⟨h1,v,h2,h3,h4⟩
 . exact .inl ⟨h1,v,(hb b (Array.getElem?_eq_some_iff.1 h2).1).trans h2,zgq h3 hb,h4⟩
 . exact .inr ⟨h1,v,(hb b (Array.getElem?_eq_some_iff.1 h2).1).trans h2,zgq h3 hb,h4⟩
theorem SB.ext {B b:Nat} {l:List UInt8} {w w':World} (h:SB B b l w) (hx:Ext w w'):SB B b l w':=h.keep (fun k hk=>hx.block k hk id)
theorem SB.lt {B b:Nat} {l:List UInt8} {w:World} (h:SB B b l w):B <= b /\ b < w.heap.size:=by
 rcases h with ⟨h1,v,h2,-⟩ | ⟨h1,v,h2,-⟩
 . exact ⟨h1,(Array.getElem?_eq_some_iff.1 h2).1⟩
 . exact ⟨h1,(Array.getElem?_eq_some_iff.1 h2).1⟩
theorem BExt.refl (B b:Nat) (w:World):BExt B b w w:=⟨Below.refl B w,Lib.OthersKept.refl _ _ w⟩
theorem BExt.trans {B b:Nat} {u v w:World} (h:BExt B b u v) (k:BExt B b v w):BExt B b u w:=⟨h.1.trans k.1,h.2.trans k.2⟩
theorem BExt.of_ext {B b:Nat} {w w':World} (h:Ext w w') (hB:B <= w.heap.size):BExt B b w w' :=
 ⟨⟨h.os,h.tape,h.output,h.size,fun k hk=>h.block k (by omega) id⟩,fun k o hk _ _=>(h.block k (Array.getElem?_eq_some_iff.1 hk).1 id).trans hk⟩
theorem BExt.size {B b:Nat} {w w':World} (h:BExt B b w w'):w.heap.size <= w'.heap.size:=h.1.size
theorem BExt.row {B b g:Nat} {w w':World} (h:BExt B b w w') {c:Array Value} {t:TypeId} {fz:Nat × Nat} (hg:w.heap[g]? = some (.cells c t fz)) (hgb:g ≠ b) (ht:t ≠ 5):w'.heap[g]? = some (.cells c t fz) :=
 h.2 g _ hg (fun e=>hgb (Option.some.inj e)) (fun c' fz' e=>ht (by injection e))
theorem BExt.ext {B b:Nat} {u w w':World} (hu:Ext u w) (hB:B = u.heap.size) (h:BExt B b w w'):Ext u w' :=
 ⟨h.1.os.trans hu.os,h.1.tape.trans hu.tape,h.1.output.trans hu.output,Nat.le_trans hu.size h.1.size,fun k hk _=>(h.1.block k (by omega)).trans (hu.block k hk id)⟩
def TabP (w : World) : Prop := Lib.TabIs Tryz.prog w "internal/strconv.uint64pow10" .u64 Lib.pow10Tab
theorem powG : Tryz.prog.globalNamed "internal/strconv.uint64pow10" = some 6 := by kernel_rfl
theorem TabP.keep {w w':World} (h:TabP w) (hb:w'.heap[6]? = w.heap[6]?):TabP w':=by
 unfold TabP Lib.TabIs World.var? at *;rw [powG] at *;simp only [Option.bind_some] at *;rw [hb];exact h
theorem TabP.lt {w:World} (h:TabP w):6 < w.heap.size:=by
 have:=h.cell powG 0 (by decide)
 unfold World.cell? at this;split at this
 . rename_i hb;exact (Array.getElem?_eq_some_iff.1 hb).1
 . cases this
theorem ws_c (B b:Nat) (l:List UInt8) (s:ByteArray) (w:World) (h:SB B b l w) (hl:l.length + s.size <= 1000000000) :
 Calls Tryz.prog 10 #[.pointer (some ⟨b,0,none⟩),.string s] w fun e w'=>e = .returned (.tuple #[.int .i64 s.size,.nilIface]) /\ SB B b (l ++ s.data.toList) w' /\ BExt B b w w':=by
 have hb:=h.lt;refine (Any.Builder_WriteString_k wsL wsX B b (Lib.byteCells l) s w h (by rw [Lib.byteCells_length];omega) (by omega)).mono ?_;rintro e w' ⟨rfl,h1,h2,h3⟩;refine ⟨rfl,?_,h2,h3⟩;have e1:Lib.byteCells l ++ Lib.strCells s = Lib.byteCells (l ++ s.data.toList):=by unfold Lib.byteCells Lib.strCells;rw [List.map_append]
 rw [e1] at h1;exact .inr h1
theorem bs_c (B b:Nat) (l:List UInt8) (w:World) (h:SB B b l w) :
 Calls Tryz.prog 12 #[.pointer (some ⟨b,0,none⟩)] w fun e w'=>e = .returned (.string ⟨l.toArray⟩) /\ BExt B b w w':=by
 have hb:=h.lt;refine (Any.Builder_String_any_k Tryz.shBS bsX B b l w h (by omega)).mono ?_;rintro e w' ⟨rfl,h1,h2,h3⟩;exact ⟨rfl,h2,h3⟩
theorem bl_c (B b:Nat) (l:List UInt8) (w:World) (h:SB B b l w) :
 Calls Tryz.prog 140 #[.pointer (some ⟨b,0,none⟩)] w fun e w'=>e = .returned (.int .i64 (l.length:Nat)) /\ w = w':=by
 refine (Any.Builder_Len_f Tryz.shBL B b (Lib.byteCells l) w h).mono ?_;rintro e w' ⟨rfl,rfl⟩;rw [Lib.byteCells_length];exact ⟨rfl,rfl⟩
theorem zno (n:Int) (w:World) (h0:-9223372036854775808 <= n) (h1:n <= 9223372036854775807) (ht:TabP w) :
 Calls Tryz.prog 25 #[.int .i64 n] w fun e w'=>e = .returned (.string ⟨(Lib.itoa n).toArray⟩) /\ Ext w w':=by
 refine (Any.strconv_Itoa Tryz.shItoa n h0 h1 w ht).mono ?_;rintro e w' ⟨rfl,k,os,rfl⟩;refine ⟨rfl,rfl,rfl,rfl,by simp [Sort.grow,World.drewN],fun k hk _=>?_⟩;simp only [Sort.grow,World.drewN] at hk ⊢;exact Array.getElem?_append_left hk
end Go.Proofs.YtiknejbcehpmoaaGreatDoor
