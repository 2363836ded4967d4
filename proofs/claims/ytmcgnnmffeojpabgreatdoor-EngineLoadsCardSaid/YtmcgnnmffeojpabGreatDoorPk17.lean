import Derived.Test.YtmcgnnmffeojpabGreatDoorPk3
import Derived.Shelf.Sort.Plain
import Derived.Shelf.Slices.In.SortNone
import Derived.Ground.NamesProg
import Derived.Test.YtmcgnnmffeojpabGreatDoorProg
import Derived.Maps.AppendAt
import Derived.OwnWalk
import Derived.Lib.OwnBridge
set_option maxRecDepth 100000
set_option maxHeartbeats 8000000
namespace Go.Proofs
open Go.Shelf
end Go.Proofs
namespace Go.Proofs.YtmcgnnmffeojpabGreatDoor
open Go.RowKit Go.Plan Go.Sort Go.Shelf
theorem zhf:(Tryz.prog.info? 3).map (fun i=>(i.zero,i.size,i.bytes)) = some (some (.int .i64 0),1,8):=by kernel_rfl
def zec (w:World) (p:Option Addr) (ks:List Int):Prop:=ks = [] \/ ∃ g,p = some ⟨g,0,none⟩ /\ g < w.heap.size /\ ∀ j,j < ks.length -> w.cell? ⟨g,j,none⟩ = some (.int .i64 (ks.getD j 0))
theorem zec.of {w w':World} {p:Option Addr} {ks:List Int} (h:zec w p ks) (hx:Ext w w'):zec w' p ks:=by
 rcases h with h | ⟨g,h1,h2,h3⟩
 . exact .inl h
 . exact .inr ⟨g,h1,Nat.lt_of_lt_of_le h2 hx.size,fun j hj=>(hx.cell (p:=⟨g,j,none⟩) h2 id).trans (h3 j hj)⟩
end Go.Proofs.YtmcgnnmffeojpabGreatDoor
