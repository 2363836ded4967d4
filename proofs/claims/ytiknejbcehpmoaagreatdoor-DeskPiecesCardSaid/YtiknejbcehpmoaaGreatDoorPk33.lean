import Derived.Sort.LotA
set_option maxRecDepth 100000
set_option maxHeartbeats 8000000
namespace Go.Proofs.YtiknejbcehpmoaaGreatDoor
open Go.Sort
variable {α:Type} [Inhabited α]
section
variable {lt:α -> α -> Bool} (hO:SWO lt)
include hO
end
end Go.Proofs.YtiknejbcehpmoaaGreatDoor
