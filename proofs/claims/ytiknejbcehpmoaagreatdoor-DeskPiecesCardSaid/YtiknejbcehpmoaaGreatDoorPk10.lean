import Derived.Test.YtiknejbcehpmoaaGreatDoorPk9
set_option maxRecDepth 100000
set_option maxHeartbeats 8000000
namespace Go.Proofs.YtiknejbcehpmoaaGreatDoor
open Go.RowKit Go.Plan
structure zbI (w:World) (b a:Nat) (x:Out):Prop where
 e0:w.cell? ⟨b,a,none⟩ = some (.int .i64 x.key)
 e1:w.cell? ⟨b,a + 1,none⟩ = some (.int .i64 x.l.k)
 e2:w.cell? ⟨b,a + 2,none⟩ = some (.int .i64 x.l.t)
 e3:w.cell? ⟨b,a + 3,none⟩ = some (.int .i64 x.l.v)
 e4:w.cell? ⟨b,a + 4,none⟩ = some (.int .i64 x.r.k)
 e5:w.cell? ⟨b,a + 5,none⟩ = some (.int .i64 x.r.t)
 e6:w.cell? ⟨b,a + 6,none⟩ = some (.int .i64 x.r.v)
 e7:w.cell? ⟨b,a + 7,none⟩ = some (.bool x.hl)
 e8:w.cell? ⟨b,a + 8,none⟩ = some (.bool x.hr)
theorem zbI.of {w w':World} {b a:Nat} {x:Out} (h:zbI w b a x) (hx:Ext w w'):zbI w' b a x:=by
 have hl:b < w.heap.size:=zac h.e0;have r:∀ i,w'.cell? ⟨b,i,none⟩ = w.cell? ⟨b,i,none⟩:=fun i=>hx.cell (p:=⟨b,i,none⟩) hl id;exact ⟨(r _).trans h.e0,(r _).trans h.e1,(r _).trans h.e2,(r _).trans h.e3,(r _).trans h.e4,(r _).trans h.e5,(r _).trans h.e6,(r _).trans h.e7,(r _).trans h.e8⟩
theorem zbI.lt {w:World} {b a:Nat} {x:Out} (h:zbI w b a x):b < w.heap.size:=zac h.e0
def zbq (w:World) (p:Option Addr) (l:List Out):Prop:=l = [] \/ ∃ b,p = some ⟨b,0,none⟩ /\ ∀ i (hi:i < l.length),zbI w b (i * 9) (l[i]'hi)
theorem zbq.of {w w':World} {p:Option Addr} {l:List Out} (h:zbq w p l) (hx:Ext w w'):zbq w' p l:=by
 rcases h with h | ⟨b,h1,h2⟩
 . exact .inl h
 . exact .inr ⟨b,h1,fun i hi=>(h2 i hi).of hx⟩
end Go.Proofs.YtiknejbcehpmoaaGreatDoor
