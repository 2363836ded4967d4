import Derived.Test.YtiknejbcehpmoaaGreatDoorPk5
import Derived.Test.YtiknejbcehpmoaaGreatDoorPk6
import Derived.Sort.AssemblyPlain
import Derived.Sort.WalkA
import Derived.Deep.LoopGhost
import Derived.Shelf.Abstract
import Derived.WalkSpells
import Derived.Carry
import Derived.Lib.Hide
set_option maxRecDepth 100000
set_option maxHeartbeats 8000000
namespace Go.Proofs.YtiknejbcehpmoaaGreatDoor
open Go.RowKit Go.Plan Go.Sort
variable {α:Type} [Inhabited α]
structure SIf (n:Nat) (lt:α -> α -> Bool) (g:Nat) (lb:Array Value) (sf:Nat) (sb:Array Value) (blk:Nat) (H:Array α -> World -> Prop):Prop where
 base:∃ B,(∀ d W,H d W -> B <= W.heap.size) /\ blk < B /\ ∀ d W W',H d W -> ExtM (fun k=>B <= k) W W' -> H d W'
 eg:∀ args w,(callFunc g args).run Tryz.prog w = .ok (.enter g args) w
 less:∀ (d:Array α) (W:World) (i j:Nat),d.size = n -> H d W -> i < n -> j < n -> Calls Tryz.prog g (#[.int .i64 i,.int .i64 j] ++ lb) W fun e w'=>e = .returned (.bool (lt d[i]! d[j]!)) /\ Ext W w'
 swap:∀ (d:Array α) (W:World) (i j:Nat),d.size = n -> H d W -> i < n -> j < n -> ∃ W',(callFunc sf (#[.int .i64 i,.int .i64 j] ++ sb)).run Tryz.prog W = .ok (.value (.tuple #[])) W' /\ H (swp d i j) W' /\ ExtM (fun k=>k = blk) W W'
theorem SIf.ext {n:Nat} {lt:α -> α -> Bool} {g:Nat} {lb:Array Value} {sf:Nat} {sb:Array Value} {blk:Nat} {H:Array α -> World -> Prop} (I:SIf n lt g lb sf sb blk H) (d:Array α) (W W':World) (h:H d W) (hx:Ext W W'):H d W':=by
 obtain ⟨B,-,-,h3⟩:=I.base;exact h3 d W W' h (ExtM.mono hx (fun _ _ h=>h.elim))
end Go.Proofs.YtiknejbcehpmoaaGreatDoor
