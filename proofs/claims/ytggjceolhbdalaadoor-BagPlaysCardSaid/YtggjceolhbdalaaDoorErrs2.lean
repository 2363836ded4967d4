/- What errors.As makes of an Errno. What Tell, Bare and the law's bare make of nil and of an Errno. -/
import Derived.Test.YtggjceolhbdalaaDoorErrs
import Derived.KernelRfl
import Derived.Stop.Asserts
-- Errs2
namespace Go.Proofs.YtggjceolhbdalaaDoor
open Go.RowKit Go.Plan Go.Extern Go.Extern.Rtype Go.Lib

/-- A cell that is there lies in a block that is there. -/
theorem cell_lt {w : World} {a : Addr} {v : Value} (h : w.cell? a = some v) : a.block < w.heap.size := by
  unfold World.cell? at h
  split at h
  · rename_i hb; exact (Array.getElem?_eq_some_iff.1 hb).1
  · cases h

set_option maxHeartbeats 4000000 in
set_option maxRecDepth 100000 in
/-- errors.as, of an Errno and a target that is an Errno. -/
theorem as_in (n : Int) (a b : Addr) (i : Value) (w : World) (m : Int) (ha : w.cell? a = some (.int .i64 m)) (hf : w.frozen? a = false) (hb : w.cell? b = some (.pointer (some a))) :
    Calls Tryd.prog 122 #[.iface 30 (.int .i64 n), i, vOf 165 b 150, tOf 30] w fun e w' => e = .returned (.bool true) ∧
      ∃ w1, Ext w w1 ∧ w' = w1.setCell a (.int .i64 n) := by
  have lb := cell_lt hb
  have la := cell_lt ha
  have f1 := k_valueOfE
  have f2 := k_typeOf
  have f3 := k_assign
  have f4 := k_m_assign
  have f5 := k_elem a b
  have f6 := k_set a ⟨w.heap.size + 1, 0, none⟩ n m ((w.alloc (.cells #[.pointer (some ⟨gN, 165, none⟩), .pointer (some b), .int .u64 150] 149)).alloc (.cells #[.int .i64 n] 30))
    (by go_simp) (by go_simp) (by simp [Go.RowKit.frozen?_alloc_cells, hf])
  have f7 := Go.RowKit.frozen?_alloc_cells
  simp only [vOf, tOf] at *
  generalize gN = hp at *
  go_enter Tryd.func122, Tryd.ntmps122
  go_wp2_with fail
  refine wp_loop_once ?_
  go_wp2_with fail
  go_ret
  exact ⟨rfl, _, ((ExtM.refl _).alloc _).alloc _, rfl⟩

set_option maxHeartbeats 4000000 in
set_option maxRecDepth 100000 in
/-- errors.As, of an Errno and a target that is an Errno. -/
theorem as_c (n : Int) (a : Addr) (w : World) (m : Int) (ha : w.cell? a = some (.int .i64 m)) (hf : w.frozen? a = false)
    (hg : w.cell? ⟨0, 0, none⟩ = some (tOf 33)) :
    Calls Tryd.prog 86 #[.iface 30 (.int .i64 n), .iface 165 (.pointer (some a))] w fun e w' => e = .returned (.bool true) ∧
      ∃ w1, Ext w w1 ∧ w' = w1.setCell a (.int .i64 n) := by
  have la := cell_lt ha
  have f1 := k_valueOf
  have f2 := k_type
  have f3 : ∀ w, (callFunc 167 #[.pointer (some ⟨gN, 165, none⟩)]).run Tryd.prog w = .ok (.value (.int .u8 22)) w := fun _ => by kernel_rfl
  have f4 : ∀ w, (callFunc 167 #[.pointer (some ⟨gN, 30, none⟩)]).run Tryd.prog w = .ok (.value (.int .u8 2)) w := fun _ => by kernel_rfl
  have f5 : ∀ w, (callFunc 177 #[.agg #[.pointer (some ⟨gN, 165, none⟩)]]).run Tryd.prog w = .ok (.value (tOf 30)) w := fun _ => by kernel_rfl
  have m1 : ∀ t w, (method 358 183 (.agg #[.pointer (some ⟨gN, t, none⟩)]) "Kind").run Tryd.prog w = .ok (167, .pointer (some ⟨gN, t, none⟩)) w := fun _ _ => by kernel_rfl
  have m2 : ∀ t w, (method 358 183 (.agg #[.pointer (some ⟨gN, t, none⟩)]) "Elem").run Tryd.prog w = .ok (177, .agg #[.pointer (some ⟨gN, t, none⟩)]) w := fun _ _ => by kernel_rfl
  have f6 := k_isNil a ⟨w.heap.size, 0, none⟩
  have lg := cell_lt hg
  have m3 : ∀ t w, (method 358 183 (.agg #[.pointer (some ⟨gN, t, none⟩)]) "Implements").run Tryd.prog w = .ok (178, .agg #[.pointer (some ⟨gN, t, none⟩)]) w := fun _ _ => by kernel_rfl
  have f8 : ∀ w, (callFunc 178 #[.agg #[.pointer (some ⟨gN, 30, none⟩)], tOf 33]).run Tryd.prog w = .ok (.value (.bool true)) w := fun _ => by kernel_rfl
  simp only [vOf, tOf] at f1 f2 f3 f4 f5 f6 f8 m1 m2 m3 hg
  generalize hgN : gN = hp at f1 f2 f3 f4 f5 f6 f8 m1 m2 m3 hg
  go_enter Tryd.func86, Tryd.ntmps86
  go_wp2_with fail
  subst hgN
  refine (as_in n a ⟨w.heap.size, 0, none⟩ _ _ m (by go_simp) (by simp [Go.RowKit.frozen?_alloc_cells, hf]) (by go_simp)).mono ?_
  rintro e w' ⟨rfl, w1, h1, rfl⟩
  go_wp2_with fail
  go_ret
  exact ⟨rfl, _, ExtM.trans _ _ _ (((ExtM.refl _).alloc _).alloc _) h1, rfl⟩
end Go.Proofs.YtggjceolhbdalaaDoor

-- Errs3
namespace Go.Proofs.YtggjceolhbdalaaDoor
open Go.RowKit Go.Plan Go.Extern Go.Extern.Rtype Go.Lib

/-- What the laid variable reads as. -/
def Laid (w : World) : Prop := w.cell? ⟨0, 0, none⟩ = some (tOf 33)
theorem Laid.of {w w' : World} (h : Laid w) (hx : Ext w w') : Laid w' := (ExtM.cell hx (p := ⟨0, 0, none⟩) (cell_lt h) (by simp)).trans h

theorem tell_nil (w : World) : Calls Tryd.prog 57 #[.nilIface] w fun e w' => e = .returned (.int .i64 0) ∧ w' = w := by
  go_enter Tryd.func57, Tryd.ntmps57
  go_wp2_with fail
  go_ret
  exact ⟨rfl, rfl⟩

set_option maxHeartbeats 4000000 in
set_option maxRecDepth 100000 in
theorem tell_c (n : Int) (w : World) (hg : Laid w) : Calls Tryd.prog 57 #[.iface 30 (.int .i64 n)] w fun e w' => e = .returned (.int .i64 n) ∧ Ext w w' := by
  go_enter Tryd.func57, Tryd.ntmps57
  go_wp2_with fail
  have hx : Ext w (w.alloc (.cells #[.int .i64 0] 30)) := (ExtM.refl _).alloc _
  refine (as_c n ⟨w.heap.size, 0, none⟩ (w.alloc (.cells #[.int .i64 0] 30)) 0 (by go_simp) (by rw [Go.RowKit.frozen?_alloc_cells]; simp [World.frozen?]) (hg.of hx)).mono ?_
  rintro e w' ⟨rfl, w1, h1, rfl⟩
  have hc : w1.cell? ⟨w.heap.size, 0, none⟩ = some (.int .i64 0) := (ExtM.cell h1 (p := ⟨w.heap.size, 0, none⟩) (by simp) (by simp)).trans (by go_simp)
  have hy : Ext w (w1.setCell ⟨w.heap.size, 0, none⟩ (.int .i64 n)) := ExtM.setCell (ExtM.trans _ _ _ hx h1) (Or.inl (Nat.le_refl _)) _
  go_wp2_with fail
  go_ret
  exact ⟨rfl, hy⟩

theorem bare_nil (w : World) : Calls Tryd.prog 37 #[.nilIface] w fun e w' => e = .returned (.tuple #[.int .i64 0, .bool true]) ∧ w' = w := by
  go_enter Tryd.func37, Tryd.ntmps37
  go_wp2_with (go_at_call 57; refine (tell_nil _).mono ?_; rintro e w' ⟨rfl, rfl⟩)
  refine wp_loop_once ?_
  go_wp2_with fail
  go_ret2
  exact ⟨rfl, rfl⟩

set_option maxHeartbeats 4000000 in
set_option maxRecDepth 100000 in
theorem bare_c (n : Int) (w : World) (hg : Laid w) : Calls Tryd.prog 37 #[.iface 30 (.int .i64 n)] w fun e w' => e = .returned (.tuple #[.int .i64 n, .bool true]) ∧ Ext w w' := by
  have f1 : ∀ w, (Instr.typeAssert (.iface 30 (.int .i64 n)) 33 131 true).run Tryd.prog w = .ok (.tuple #[.pointer none, .bool false]) w := fun _ => by kernel_rfl
  have f2 : ∀ w, (Instr.typeAssert (.iface 30 (.int .i64 n)) 33 133 true).run Tryd.prog w = .ok (.tuple #[.nilIface, .bool false]) w := fun w => run_typeAssert_lacksB Tryd.underlying133 (by kernel_rfl) (by kernel_rfl) _ _ w
  go_enter Tryd.func37, Tryd.ntmps37
  go_wp2_with fail
  refine (tell_c n w hg).mono ?_
  rintro e w' ⟨rfl, h1⟩
  go_wp2_with fail
  refine wp_loop_once ?_
  go_wp2_with fail
  go_ret2
  exact ⟨rfl, h1⟩

/-- The law's own 'bare'. -/
theorem lbare_nil (k : Int) (w : World) : Calls Tryd.prog 10 #[.nilIface, .int .i64 k] w fun e w' => e = .returned (.bool (0 == k)) ∧ w' = w := by
  go_enter Tryd.func10, Tryd.ntmps10
  go_wp2_with fail
  refine (bare_nil w).mono ?_
  rintro e w' ⟨rfl, rfl⟩
  go_wp2_with fail
  go_ret
  exact ⟨rfl, rfl⟩

theorem lbare_c (n k : Int) (w : World) (hg : Laid w) : Calls Tryd.prog 10 #[.iface 30 (.int .i64 n), .int .i64 k] w fun e w' => e = .returned (.bool (n == k)) ∧ Ext w w' := by
  go_enter Tryd.func10, Tryd.ntmps10
  go_wp2_with fail
  refine (bare_c n w hg).mono ?_
  rintro e w' ⟨rfl, h1⟩
  go_wp2_with fail
  go_ret
  exact ⟨rfl, h1⟩
end Go.Proofs.YtggjceolhbdalaaDoor
