import Derived.Test.YtmcgnnmffeojpabGreatDoorPk11
import Derived.Test.YtmcgnnmffeojpabGreatDoorPk20
set_option maxRecDepth 100000
set_option maxHeartbeats 8000000
namespace Go.Proofs.YtmcgnnmffeojpabGreatDoor
open Go.RowKit Go.Plan
theorem zo6 (G o : Nat) (D : Option Nat) (ents : List Ent) (l : List Out) (x : Out) (w : World) (h : za6 w G o D ents) (hr : za7 ents l) (hx : x.ok) (hl : l.length < 1000000) :
 Calls Tryz.prog 97 #[.pointer (some ⟨G,o,none⟩),encC x false] w fun e w' => e = .returned .nilIface /\ ∃ D' ents',za6 w' G o D' ents' /\ za7 ents' (x :: l) /\ zgk w w' G o D D' ents ents' :=
 (zmv G o D ents x w h hx (fun a ha => by have := hr.bound ha;omega)).mono fun e w' ⟨he,D',ents',h1,h2,h3⟩ => ⟨he,D',ents',h1,hr.add h3,h2⟩
theorem zof (G o : Nat) (D : Option Nat) (ents : List Ent) (l : List Out) (x : Out) (w : World) (h : za6 w G o D ents) (hr : za7 ents l) (hx : x ∈ l) (hok : x.ok) (hl : l.length < 1000000) :
 Calls Tryz.prog 97 #[.pointer (some ⟨G,o,none⟩),encC x true] w fun e w' => e = .returned .nilIface /\ ∃ D' ents',za6 w' G o D' ents' /\ za7 ents' (l.erase x) /\ zgk w w' G o D D' ents ents' := by
 obtain ⟨a,ha,hin⟩ := hr.mem hx;have hb := hr.bound ha;exact (zkd G o D ents x w h hok a ha (by omega) (by omega) (by omega) hin).mono fun e w' ⟨he,D',ents',h1,h2,h3⟩ => ⟨he,D',ents',h1,hr.less (List.perm_cons_erase hx) ha h3,h2⟩
theorem znC (G o : Nat) (D : Option Nat) (ents : List Ent) (l : List Out) (w : World) (h : za6 w G o D ents) (hr : za7 ents l) (hl : l.length < 1000000) :
 Calls Tryz.prog 70 #[.pointer (some ⟨G,o,none⟩)] w (zgd w (allG ents)) :=
 zoE G o D ents w h (by have := hr.few h.nodup;omega) (fun e he => by have := zkf h hr e he;omega)
end Go.Proofs.YtmcgnnmffeojpabGreatDoor
