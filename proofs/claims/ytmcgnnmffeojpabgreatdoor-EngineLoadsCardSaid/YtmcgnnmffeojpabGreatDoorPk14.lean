import Derived.Test.YtmcgnnmffeojpabGreatDoorPk13
set_option maxRecDepth 100000
set_option maxHeartbeats 8000000
namespace Go.Proofs.YtmcgnnmffeojpabGreatDoor
open Go.RowKit Go.Plan
theorem zjU (hs:List Hd) (i:Nat) (x:Hd):(insH hs i x).Perm (x :: hs):=by
 unfold insH;refine List.perm_middle.trans (List.Perm.cons x ?_);rw [List.take_append_drop]
theorem zey (hs:List Hd) (x:Hd):(addH hs x).Perm (x :: hs):=zjU _ _ _
end Go.Proofs.YtmcgnnmffeojpabGreatDoor
