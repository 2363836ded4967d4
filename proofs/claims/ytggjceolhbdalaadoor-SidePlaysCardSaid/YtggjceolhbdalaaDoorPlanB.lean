/- A relation for regions in which a call turns one old block alone. -/
import Derived.Test.YtggjceolhbdalaaDoorPlan
namespace Go.Plan

/-- Nothing old has turned but block B. -/
def ExtB (B : Nat) (w w' : World) : Prop := ExtM (fun k => k = B) w w'
theorem ExtB.refl {B : Nat} (w : World) : ExtB B w w := ExtM.refl w
theorem ExtB.trans {B : Nat} (a b c : World) (h : ExtB B a b) (k : ExtB B b c) : ExtB B a c := ExtM.trans _ _ _ h k
instance {B : Nat} : Std.Refl (ExtB B) := ⟨ExtB.refl⟩
instance {B : Nat} : Trans (ExtB B) (ExtB B) (ExtB B) := ⟨fun h k => ExtB.trans _ _ _ h k⟩
theorem ExtB.of_ext {B : Nat} {w w' : World} (h : Ext w w') : ExtB B w w' := ExtM.mono h (fun _ _ h => h.elim)
theorem ExtB.set {B : Nat} {w : World} (o : Nat) (u : Value) : ExtB B w (w.setCell ⟨B, o, none⟩ u) := ExtM.setCell (M := fun k => k = B) (ExtM.refl w) (p := ⟨B, o, none⟩) (Or.inr rfl) u
theorem ExtB.rules {B : Nat} {w w' : World} (h : ExtB B w w') : (∀ b o, b < w.heap.size → ¬ b = B → w'.cell? ⟨b, o, none⟩ = w.cell? ⟨b, o, none⟩) ∧ (∀ b o, b < w.heap.size → ¬ b = B → w'.frozen? ⟨b, o, none⟩ = w.frozen? ⟨b, o, none⟩) ∧ True :=
  ⟨fun b o hb hm => ExtM.cell h (p := ⟨b, o, none⟩) hb hm, fun b o hb hm => ExtM.frozen h (p := ⟨b, o, none⟩) hb hm, trivial⟩
@[go_sem] theorem cell?_extB (B : Nat) (w p : World) (b o : Nat) (hb : b < w.heap.size) (hm : ¬ b = B) : (Plan.ext (ExtB B) w p).cell? ⟨b, o, none⟩ = w.cell? ⟨b, o, none⟩ :=
  (ext_E ExtB.refl w p).rules.1 b o hb hm
@[go_sem] theorem frozen?_extB (B : Nat) (w p : World) (b o : Nat) (hb : b < w.heap.size) (hm : ¬ b = B) : (Plan.ext (ExtB B) w p).frozen? ⟨b, o, none⟩ = w.frozen? ⟨b, o, none⟩ :=
  (ext_E ExtB.refl w p).rules.2.1 b o hb hm
@[go_sem] theorem cell?_extB_drew (B : Nat) (w p : World) (b o : Nat) (hb : b < w.heap.size) (hm : ¬ b = B) : (Plan.ext (ExtB B) w.drew p).cell? ⟨b, o, none⟩ = w.cell? ⟨b, o, none⟩ := cell?_extB B w.drew p b o hb hm
@[go_sem] theorem frozen?_extB_drew (B : Nat) (w p : World) (b o : Nat) (hb : b < w.heap.size) (hm : ¬ b = B) : (Plan.ext (ExtB B) w.drew p).frozen? ⟨b, o, none⟩ = w.frozen? ⟨b, o, none⟩ := frozen?_extB B w.drew p b o hb hm
end Go.Plan
