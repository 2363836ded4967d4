import Derived.Shelf.GgSortMore.Stable
import Derived.Ground.GgtProg
import Derived.Test.YtiknejbcehpmoaaGreatDoorProg
set_option maxRecDepth 100000
set_option maxHeartbeats 8000000
namespace Go.Proofs
open Go.Shelf
end Go.Proofs
