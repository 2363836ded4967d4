import Derived.Shelf.Strings.Prefix
import Derived.Shelf.Strings.FieldsFuncAny
import Derived.Shelf.Strings.Search3
import Derived.Ground.NamesProg
import Derived.Test.YtiknejbcehpmoaaGreatDoorProg
set_option maxRecDepth 100000
set_option maxHeartbeats 8000000
namespace Go.Proofs
open Go.Shelf
def Tryz.shTS_ren:Go.Shelf.Ren:=⟨fun | 102=>9 | 209=>22 | 207=>48 | n=>n,fun | 9=>9 | 4=>4 | 3=>3 | n=>n,fun | n=>n⟩
theorem Tryz.shTS:Go.Proofs.Lays.n102 Tryz.prog Tryz.shTS_ren:={
 mixed:=by kernel_rfl
 f102:=Tryz.func9.trans (congrArg some (by kernel_rfl))
 f207:=Tryz.func48.trans (congrArg some (by kernel_rfl))
 f209:=Tryz.func22.trans (congrArg some (by kernel_rfl))
 t3:=Tryz.underlying3
 a3:=Tryz.isAgg3
 z3:=Tryz.sizeOf3
 v3:=Tryz.zeroValue3
 t4:=Tryz.underlying4
 a4:=Tryz.isAgg4
 z4:=Tryz.sizeOf4
 v4:=Tryz.zeroValue4
 t9:=Tryz.underlying9
 a9:=Tryz.isAgg9
 z9:=Tryz.sizeOf9
 v9:=Tryz.zeroValue9 }
def Tryz.shFF_ren:Go.Shelf.Ren:=⟨fun | 229=>26 | n=>n,fun | 9=>9 | 40=>71 | 31=>30 | 152=>127 | 3=>3 | 0=>0 | 4=>4 | 21=>21 | 154=>129 | n=>n,fun | n=>n⟩
theorem Tryz.shFF:Go.Proofs.Lays.n229 Tryz.prog Tryz.shFF_ren:={
 mixed:=by kernel_rfl
 f229:=Tryz.func26.trans (congrArg some (by kernel_rfl))
 t0:=Tryz.underlying0
 a0:=Tryz.isAgg0
 z0:=Tryz.sizeOf0
 v0:=Tryz.zeroValue0
 t3:=Tryz.underlying3
 a3:=Tryz.isAgg3
 z3:=Tryz.sizeOf3
 v3:=Tryz.zeroValue3
 t4:=Tryz.underlying4
 a4:=Tryz.isAgg4
 z4:=Tryz.sizeOf4
 v4:=Tryz.zeroValue4
 t9:=Tryz.underlying9
 a9:=Tryz.isAgg9
 z9:=Tryz.sizeOf9
 v9:=Tryz.zeroValue9
 t21:=Tryz.underlying21
 a21:=Tryz.isAgg21
 z21:=Tryz.sizeOf21
 v21:=Tryz.zeroValue21
 t31:=Tryz.underlying30
 a31:=Tryz.isAgg30
 z31:=Tryz.sizeOf30
 v31:=Tryz.zeroValue30
 t40:=Tryz.underlying71
 a40:=Tryz.isAgg71
 z40:=Tryz.sizeOf71
 v40:=Tryz.zeroValue71
 t152:=Tryz.underlying127
 a152:=Tryz.isAgg127
 z152:=Tryz.sizeOf127
 v152:=Tryz.zeroValue127
 t154:=Tryz.underlying129
 a154:=Tryz.isAgg129
 z154:=Tryz.sizeOf129
 v154:=Tryz.zeroValue129 }
def Tryz.shIx_ren:Go.Shelf.Ren:=⟨fun | 143=>47 | 219=>85 | 217=>126 | 225=>127 | 224=>128 | 267=>129 | 266=>170 | 314=>171 | n=>n,fun | 9=>9 | 3=>3 | 4=>4 | 5=>5 | 46=>174 | 146=>253 | 51=>232 | n=>n,fun | 1=>3 | n=>n⟩
theorem Tryz.shIx:Go.Proofs.Lays.n143 Tryz.prog Tryz.shIx_ren:={
 mixed:=by kernel_rfl
 f143:=Tryz.func47.trans (congrArg some (by kernel_rfl))
 f217:=Tryz.func126.trans (congrArg some (by kernel_rfl))
 f219:=Tryz.func85.trans (congrArg some (by kernel_rfl))
 f224:=Tryz.func128.trans (congrArg some (by kernel_rfl))
 f225:=Tryz.func127.trans (congrArg some (by kernel_rfl))
 f266:=Tryz.func170.trans (congrArg some (by kernel_rfl))
 f267:=Tryz.func129.trans (congrArg some (by kernel_rfl))
 f314:=Tryz.func171.trans (congrArg some (by kernel_rfl))
 t3:=Tryz.underlying3
 a3:=Tryz.isAgg3
 z3:=Tryz.sizeOf3
 v3:=Tryz.zeroValue3
 t4:=Tryz.underlying4
 a4:=Tryz.isAgg4
 z4:=Tryz.sizeOf4
 v4:=Tryz.zeroValue4
 t5:=Tryz.underlying5
 a5:=Tryz.isAgg5
 z5:=Tryz.sizeOf5
 v5:=Tryz.zeroValue5
 t9:=Tryz.underlying9
 a9:=Tryz.isAgg9
 z9:=Tryz.sizeOf9
 v9:=Tryz.zeroValue9
 t46:=Tryz.underlying174
 a46:=Tryz.isAgg174
 z46:=Tryz.sizeOf174
 v46:=Tryz.zeroValue174
 t51:=Tryz.underlying232
 a51:=Tryz.isAgg232
 z51:=Tryz.sizeOf232
 v51:=Tryz.zeroValue232
 t146:=Tryz.underlying253
 a146:=Tryz.isAgg253
 z146:=Tryz.sizeOf253
 v146:=Tryz.zeroValue253
 g1:=by kernel_rfl }
end Go.Proofs
