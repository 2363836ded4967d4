import Derived.Test.YtmcgnnmffeojpabGreatDoorPk1
import Derived.Test.YtmcgnnmffeojpabGreatDoorRows
import Derived.ProofKit
import Derived.OpenShut
import Derived.Lib.SmallJoins
import Derived.Carry
set_option maxRecDepth 100000
set_option maxHeartbeats 8000000
namespace Go.Proofs.YtmcgnnmffeojpabGreatDoor
open Go.ChangeShapes Go.WideShapes Go.ChangeAt Go.RowKit Go.Joins Go.Plan
theorem own:ownKnob Tryz.prog.godebug = none:=by kernel_rfl
theorem zl2:laidOutB Tryz.prog = true:=by kernel_rfl
theorem zoG {H:Type} {enc:TypeId × Value -> H} {t:TypeId} (hr:Tryz.prog.readableRec t = true) (hrow:t < Tryz.prog.types.size) {W W':World} {v:Value} {d:DataW H} {ps:List MemPlace}
 (h:DataW.Trod enc Tryz.prog W 0 (fun _=>true) true t v d ps) (he:Ext W W') (hlt:∀ x ∈ ps,x.block < W.heap.size) :
 DataW.Trod enc Tryz.prog W' 0 (fun b=>decide (b < W.heap.size)) true t v d ps:=Below.trod zl2 hr hrow h (Ext.below he) hlt
theorem zmn {H:Type} {enc:TypeId × Value -> H} {f:Func} {s:ChangeSpec} {apart fresh handsOn:Bool} {W W':World} {args:Array Value} {ds gs:List (DataW H)} {before pv:List MemPlace}
 (hW:DataW.Whole enc Tryz.prog f.params.toList s.vars apart W args.toList ds gs before) (hf:f.resultTypes = #[4]) (he:Ext W W')
 (hres:(s.fn H (ds ++ gs)).results = [.lit (.bool true)])
 (hargs:DataW.TrodAll enc Tryz.prog W' 0 (fun b=>decide (b < W.heap.size)) true f.params.toList args.toList (s.fn H (ds ++ gs)).args before)
 (hvars:DataW.TrodVars enc Tryz.prog W' (fun b=>decide (b < W.heap.size)) s.vars (s.fn H (ds ++ gs)).vars pv) :
 s.post enc Tryz.prog f apart fresh handsOn false W args (.bool true) W':=by
 refine ⟨ds,gs,before,[],before,pv,hW,?_,hargs,hvars,(Ext.below he).frame _,fun h=>by cases h⟩;rw [hres,hf];exact trodAll_cons_mk (shut_bool Tryz.underlying4 true) trodAll_mk0
end Go.Proofs.YtmcgnnmffeojpabGreatDoor
