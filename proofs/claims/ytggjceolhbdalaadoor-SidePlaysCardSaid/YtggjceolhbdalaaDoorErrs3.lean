/- What Tell, Bare and the law's bare make of nil and of an Errno. -/
import Derived.Test.YtggjceolhbdalaaDoorErrs2
import Derived.KernelRfl
import Derived.Stop.Asserts
namespace Go.Proofs.YtggjceolhbdalaaDoor
open Go.RowKit Go.Plan Go.Extern Go.Extern.Rtype Go.Lib

/-- What the laid variable reads as. -/
def Laid (w : World) : Prop := w.cell? ⟨0, 0, none⟩ = some (tOf 33)
theorem Laid.of {w w' : World} (h : Laid w) (hx : Ext w w') : Laid w' := (ExtM.cell hx (p := ⟨0, 0, none⟩) (cell_lt h) (by simp)).trans h

theorem tell_nil (w : World) : Calls Tryd.prog 57 #[.nilIface] w fun e w' => e = .returned (.int .i64 0) ∧ w' = w := by
  go_enter Tryd.func57, Tryd.ntmps57
  go_wp2_with fail
  go_ret
  exact ⟨rfl, rfl⟩

set_option maxHeartbeats 4000000 in
set_option maxRecDepth 100000 in
theorem tell_c (n : Int) (w : World) (hg : Laid w) : Calls Tryd.prog 57 #[.iface 30 (.int .i64 n)] w fun e w' => e = .returned (.int .i64 n) ∧ Ext w w' := by
  go_enter Tryd.func57, Tryd.ntmps57
  go_wp2_with fail
  have hx : Ext w (w.alloc (.cells #[.int .i64 0] 30)) := (ExtM.refl _).alloc _
  refine (as_c n ⟨w.heap.size, 0, none⟩ (w.alloc (.cells #[.int .i64 0] 30)) 0 (by go_simp) (by rw [Go.RowKit.frozen?_alloc_cells]; simp [World.frozen?]) (hg.of hx)).mono ?_
  rintro e w' ⟨rfl, w1, h1, rfl⟩
  have hc : w1.cell? ⟨w.heap.size, 0, none⟩ = some (.int .i64 0) := (ExtM.cell h1 (p := ⟨w.heap.size, 0, none⟩) (by simp) (by simp)).trans (by go_simp)
  have hy : Ext w (w1.setCell ⟨w.heap.size, 0, none⟩ (.int .i64 n)) := ExtM.setCell (ExtM.trans _ _ _ hx h1) (Or.inl (Nat.le_refl _)) _
  go_wp2_with fail
  go_ret
  exact ⟨rfl, hy⟩

theorem bare_nil (w : World) : Calls Tryd.prog 37 #[.nilIface] w fun e w' => e = .returned (.tuple #[.int .i64 0, .bool true]) ∧ w' = w := by
  go_enter Tryd.func37, Tryd.ntmps37
  go_wp2_with (go_at_call 57; refine (tell_nil _).mono ?_; rintro e w' ⟨rfl, rfl⟩)
  refine wp_loop_once ?_
  go_wp2_with fail
  go_ret2
  exact ⟨rfl, rfl⟩

set_option maxHeartbeats 4000000 in
set_option maxRecDepth 100000 in
theorem bare_c (n : Int) (w : World) (hg : Laid w) : Calls Tryd.prog 37 #[.iface 30 (.int .i64 n)] w fun e w' => e = .returned (.tuple #[.int .i64 n, .bool true]) ∧ Ext w w' := by
  have f1 : ∀ w, (Instr.typeAssert (.iface 30 (.int .i64 n)) 33 131 true).run Tryd.prog w = .ok (.tuple #[.pointer none, .bool false]) w := fun _ => by kernel_rfl
  have f2 : ∀ w, (Instr.typeAssert (.iface 30 (.int .i64 n)) 33 133 true).run Tryd.prog w = .ok (.tuple #[.nilIface, .bool false]) w := fun w => run_typeAssert_lacksB Tryd.underlying133 (by kernel_rfl) (by kernel_rfl) _ _ w
  go_enter Tryd.func37, Tryd.ntmps37
  go_wp2_with fail
  refine (tell_c n w hg).mono ?_
  rintro e w' ⟨rfl, h1⟩
  go_wp2_with fail
  refine wp_loop_once ?_
  go_wp2_with fail
  go_ret2
  exact ⟨rfl, h1⟩

/-- The law's own 'bare'. -/
theorem lbare_nil (k : Int) (w : World) : Calls Tryd.prog 10 #[.nilIface, .int .i64 k] w fun e w' => e = .returned (.bool (0 == k)) ∧ w' = w := by
  go_enter Tryd.func10, Tryd.ntmps10
  go_wp2_with fail
  refine (bare_nil w).mono ?_
  rintro e w' ⟨rfl, rfl⟩
  go_wp2_with fail
  go_ret
  exact ⟨rfl, rfl⟩

theorem lbare_c (n k : Int) (w : World) (hg : Laid w) : Calls Tryd.prog 10 #[.iface 30 (.int .i64 n), .int .i64 k] w fun e w' => e = .returned (.bool (n == k)) ∧ Ext w w' := by
  go_enter Tryd.func10, Tryd.ntmps10
  go_wp2_with fail
  refine (bare_c n w hg).mono ?_
  rintro e w' ⟨rfl, h1⟩
  go_wp2_with fail
  go_ret
  exact ⟨rfl, h1⟩
end Go.Proofs.YtggjceolhbdalaaDoor
