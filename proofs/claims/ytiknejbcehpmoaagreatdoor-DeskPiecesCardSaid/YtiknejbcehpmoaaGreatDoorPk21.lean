import Derived.Test.YtiknejbcehpmoaaGreatDoorPk12
import Derived.Test.YtiknejbcehpmoaaGreatDoorPk20
set_option maxRecDepth 100000
set_option maxHeartbeats 8000000
namespace Go.Proofs.YtiknejbcehpmoaaGreatDoor
open Go.RowKit Go.Plan
theorem zo6 (G o:Nat) (D:Option Nat) (ents:List Ent) (l:List Out) (x:Out) (w:World) (h:za6 w G o D ents) (hr:za7 ents l) (hx:x.ok) (hl:l.length < 1000000) :
 Calls Tryz.prog 208 #[.pointer (some ⟨G,o,none⟩),encC x false] w fun e w'=>e = .returned .nilIface /\ ∃ D' ents',za6 w' G o D' ents' /\ za7 ents' (x :: l) /\ zgk w w' G o D D' ents ents' :=
 (zmv G o D ents x w h hx (fun a ha=>by have:=hr.bound ha;omega)).mono fun e w' ⟨he,D',ents',h1,h2,h3⟩=>⟨he,D',ents',h1,hr.add h3,h2⟩
theorem zof (G o:Nat) (D:Option Nat) (ents:List Ent) (l:List Out) (x:Out) (w:World) (h:za6 w G o D ents) (hr:za7 ents l) (hx:x ∈ l) (hok:x.ok) (hl:l.length < 1000000) :
 Calls Tryz.prog 208 #[.pointer (some ⟨G,o,none⟩),encC x true] w fun e w'=>e = .returned .nilIface /\ ∃ D' ents',za6 w' G o D' ents' /\ za7 ents' (l.erase x) /\ zgk w w' G o D D' ents ents':=by
 obtain ⟨a,ha,hin⟩:=hr.mem hx;have hb:=hr.bound ha;exact (zkd G o D ents x w h hok a ha (by omega) (by omega) (by omega) hin).mono fun e w' ⟨he,D',ents',h1,h2,h3⟩=>⟨he,D',ents',h1,hr.less (List.perm_cons_erase hx) ha h3,h2⟩
theorem znC (G o:Nat) (D:Option Nat) (ents:List Ent) (l:List Out) (w:World) (h:za6 w G o D ents) (hr:za7 ents l) (hl:l.length < 1000000) :
 Calls Tryz.prog 130 #[.pointer (some ⟨G,o,none⟩)] w (zgd w (allG ents)) :=
 zoE G o D ents w h (by have:=hr.few h.nodup;omega) (fun e he=>by have:=zkf h hr e he;omega)
structure TwoG (w wr:World) (A:Nat) (p q:List Out):Prop where
 ex:∃ DA eA DB eB,za6 wr A 0 DA eA /\ za7 eA p /\ za6 wr (A + 1) 0 DB eB /\ za7 eB q /\ (∀ k,grpM A DA eA k -> A <= k) /\ (∀ k,grpM (A + 1) DB eB k -> A <= k) /\ ∀ k,grpM A DA eA k -> ¬ grpM (A + 1) DB eB k
 ext:Ext w wr
 low:w.heap.size <= A
theorem TwoG.of {w wr w':World} {A:Nat} {p q:List Out} (h:TwoG w wr A p q) (hx:Ext wr w'):TwoG w w' A p q:=by
 obtain ⟨⟨DA,eA,DB,eB,h1,h2,h3,h4,h5⟩,h6,h7⟩:=h;exact ⟨⟨DA,eA,DB,eB,h1.of hx (fun _ _=>id),h2,h3.of hx (fun _ _=>id),h4,h5⟩,ExtM.trans _ _ _ h6 hx,h7⟩
theorem TwoG.size {w wr:World} {A:Nat} {p q:List Out} (h:TwoG w wr A p q):A + 1 < wr.heap.size:=by
 obtain ⟨⟨DA,eA,DB,eB,h1,h2,h3,h4,h5⟩,h6,h7⟩:=h;exact h3.ltG
end Go.Proofs.YtiknejbcehpmoaaGreatDoor
