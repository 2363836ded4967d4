/- A relation for regions that turn a row. -/
import Derived.Test.YtggjceolhbdalaaDoorPlanB
namespace Go.Plan

/-- Nothing old has turned but the row R (if there is one). -/
def ExtR (R : Option Nat) (w w' : World) : Prop := ExtM (fun k => R = some k) w w'
theorem ExtR.refl {R : Option Nat} (w : World) : ExtR R w w := ExtM.refl w
theorem ExtR.trans {R : Option Nat} (a b c : World) (h : ExtR R a b) (k : ExtR R b c) : ExtR R a c := ExtM.trans _ _ _ h k
instance {R : Option Nat} : Std.Refl (ExtR R) := ⟨ExtR.refl⟩
instance {R : Option Nat} : Trans (ExtR R) (ExtR R) (ExtR R) := ⟨fun h k => ExtR.trans _ _ _ h k⟩
theorem ExtR.of_ext {R : Option Nat} {w w' : World} (h : Ext w w') : ExtR R w w' := ExtM.mono h (fun _ _ h => h.elim)
theorem ExtR.alloc {R : Option Nat} {a w : World} (h : ExtR R a w) (o : Obj) : ExtR R a (w.alloc o) := ExtM.alloc h o
theorem ExtR.drew {R : Option Nat} {a w : World} (h : ExtR R a w) : ExtR R a w.drew := ExtM.drew h
theorem ExtR.rules {R : Option Nat} {w w' : World} (h : ExtR R w w') : (∀ b o, b < w.heap.size → ¬ R = some b → w'.cell? ⟨b, o, none⟩ = w.cell? ⟨b, o, none⟩) ∧ (∀ b o, b < w.heap.size → ¬ R = some b → w'.frozen? ⟨b, o, none⟩ = w.frozen? ⟨b, o, none⟩) ∧ True :=
  ⟨fun b o hb h2 => ExtM.cell h (p := ⟨b, o, none⟩) hb h2, fun b o hb h2 => ExtM.frozen h (p := ⟨b, o, none⟩) hb h2, trivial⟩
theorem ExtR.size {R : Option Nat} {w w' : World} (h : ExtR R w w') : w.heap.size ≤ w'.heap.size := ExtM.size h
@[go_sem] theorem cell?_extR (R : Option Nat) (w p : World) (b o : Nat) (hb : b < w.heap.size) (h2 : ¬ R = some b) : (Plan.ext (ExtR R) w p).cell? ⟨b, o, none⟩ = w.cell? ⟨b, o, none⟩ :=
  (ext_E ExtR.refl w p).rules.1 b o hb h2
@[go_sem] theorem cell?_extR_drew (R : Option Nat) (w p : World) (b o : Nat) (hb : b < w.heap.size) (h2 : ¬ R = some b) : (Plan.ext (ExtR R) w.drew p).cell? ⟨b, o, none⟩ = w.cell? ⟨b, o, none⟩ := cell?_extR R w.drew p b o hb h2
@[go_sem] theorem frozen?_extR (R : Option Nat) (w p : World) (b o : Nat) (hb : b < w.heap.size) (h2 : ¬ R = some b) : (Plan.ext (ExtR R) w p).frozen? ⟨b, o, none⟩ = w.frozen? ⟨b, o, none⟩ :=
  (ext_E ExtR.refl w p).rules.2.1 b o hb h2
@[go_sem] theorem frozen?_extR_drew (R : Option Nat) (w p : World) (b o : Nat) (hb : b < w.heap.size) (h2 : ¬ R = some b) : (Plan.ext (ExtR R) w.drew p).frozen? ⟨b, o, none⟩ = w.frozen? ⟨b, o, none⟩ := frozen?_extR R w.drew p b o hb h2
end Go.Plan
