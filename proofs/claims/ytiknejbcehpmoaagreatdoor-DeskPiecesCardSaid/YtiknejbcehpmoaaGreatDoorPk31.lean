import Derived.Test.YtiknejbcehpmoaaGreatDoorPk5
set_option maxRecDepth 100000
set_option maxHeartbeats 8000000
namespace Go.Plan
variable {P:Program} {ops:Array Oper} {Q:Exit -> Act -> World -> Prop} {E:World -> World -> Prop} {T:List Nat}
structure Gone (n:Nat):Prop where
theorem Gone.add {n:Nat} (k:Nat) (_:Gone n):Gone (n + k):=⟨⟩
end Go.Plan
