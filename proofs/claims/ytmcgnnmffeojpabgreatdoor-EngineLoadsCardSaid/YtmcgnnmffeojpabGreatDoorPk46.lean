import Derived.Test.YtmcgnnmffeojpabGreatDoorPk3
set_option maxRecDepth 100000
set_option maxHeartbeats 8000000
namespace Go.Plan
variable {P:Program} {ops:Array Oper} {Q:Exit -> Act -> World -> Prop} {E:World -> World -> Prop} {T:List Nat}
theorem zeU {L:List Oper} {fuel:Nat} {done:List Nat} (i j k:Nat) {o u v:Oper} {a:Act} {w:World} (hr:(Region.ready .any L.toArray (za9 L.toArray.size done) == [i,j,k]) = true) (hi:nth L i = some o) (hj:nth L j = some u) (hk:nth L k = some v)
 (h:Act1 P L.toArray Q E T fuel done i o a w) (h':Act1 P L.toArray Q E T fuel done j u a w) (h'':Act1 P L.toArray Q E T fuel done k v a w):Left P L.toArray Q E T (fuel + 1) done a w:=by
 have hr:=beq_iff_eq.1 hr;refine ⟨fun h0=>(by rw [hr] at h0;cases h0),?_⟩;rw [hr];intro q hq;simp only [List.mem_cons,List.not_mem_nil,or_false] at hq;rcases hq with rfl | rfl | rfl
 . exact zbg (zcy hi) h
 . exact zbg (zcy hj) h'
 . exact zbg (zcy hk) h''
structure zap (n:Nat) (p:Prop):Prop where
 out:p
structure Gone (n:Nat):Prop where
theorem Gone.add {n:Nat} (k:Nat) (_:Gone n):Gone (n + k):=⟨⟩
end Go.Plan
