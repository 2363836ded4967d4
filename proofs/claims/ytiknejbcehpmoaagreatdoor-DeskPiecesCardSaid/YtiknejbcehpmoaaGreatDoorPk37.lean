import Derived.Test.YtiknejbcehpmoaaGreatDoorPk33
set_option maxRecDepth 100000
set_option maxHeartbeats 8000000
namespace Go.Proofs.YtiknejbcehpmoaaGreatDoor
open Go.Sort
variable {α:Type} [Inhabited α]
end Go.Proofs.YtiknejbcehpmoaaGreatDoor
