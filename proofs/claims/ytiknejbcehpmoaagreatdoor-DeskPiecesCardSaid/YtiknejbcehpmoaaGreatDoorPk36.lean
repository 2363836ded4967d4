import Derived.Test.YtiknejbcehpmoaaGreatDoorPk32
import Derived.Test.YtiknejbcehpmoaaGreatDoorPk33
set_option maxRecDepth 100000
set_option maxHeartbeats 8000000
namespace Go.Proofs.YtiknejbcehpmoaaGreatDoor
open Go.RowKit Go.Plan Go.Sort
variable {α:Type} [Inhabited α]
section
variable {n:Nat} {lt:α -> α -> Bool} {g:Nat} {lb:Array Value} {sf:Nat} {sb:Array Value} {blk:Nat} {H:Array α -> World -> Prop}
end
end Go.Proofs.YtiknejbcehpmoaaGreatDoor
