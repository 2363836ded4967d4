/- What errors.As makes of an Errno. What Tell, Bare and the law's bare make of nil and of an Errno. -/
import Derived.Test.YtmcgnnmffeojpaaGreatDoorPk1
import Derived.Test.YtmcgnnmffeojpaaGreatDoorProg
import Derived.Lib.ReflectliteSlice
import Derived.KernelRfl
import Derived.Stop.Asserts
/- What errors.As makes of an Errno: the entries of internal/reflectlite at its types. -/
namespace Go.Proofs.YtmcgnnmffeojpaaGreatDoor
open Go.RowKit Go.Plan Go.Extern Go.Extern.Rtype Go.Lib

/-- The block of the types' descriptors. -/
noncomputable def gN : Nat := Tryz.prog.globals.size

/-- The Value of a variable at 'b' of type 't'. -/
noncomputable def vOf (t : Nat) (b : Addr) (f : Int) : Value := .agg #[.pointer (some ⟨gN, t, none⟩), .pointer (some b), .int .u64 f]
noncomputable def tOf (t : Nat) : Value := .iface 177 (.agg #[.pointer (some ⟨gN, t, none⟩)])

theorem k_valueOf (a : Addr) (w : World) : (callFunc 60 #[.iface 101 (.pointer (some a))]).run Tryz.prog w =
    .ok (.value (vOf 101 ⟨w.heap.size, 0, none⟩ 150)) (w.alloc (.cells #[.pointer (some a)] 101)) := by kernel_rfl
theorem k_valueOfE (n : Int) (w : World) : (callFunc 60 #[.iface 48 (.int .i64 n)]).run Tryz.prog w =
    .ok (.value (vOf 48 ⟨w.heap.size, 0, none⟩ 130)) (w.alloc (.cells #[.int .i64 n] 48)) := by kernel_rfl
theorem k_type (b : Addr) (w : World) : (callFunc 61 #[vOf 101 b 150]).run Tryz.prog w =
    .ok (.value (tOf 101)) w := by kernel_rfl
theorem k_typeOf (n : Int) (w : World) : (callFunc 96 #[.iface 48 (.int .i64 n)]).run Tryz.prog w =
    .ok (.value (tOf 48)) w := by kernel_rfl

theorem k_load_p (b : Addr) (w : World) : (loadVar 101 b).run Tryz.prog w = (load b).run Tryz.prog w := by kernel_rfl
theorem k_load_e (b : Addr) (w : World) : (loadVar 48 b).run Tryz.prog w = (load b).run Tryz.prog w := by kernel_rfl
theorem k_store_e (b : Addr) (n : Int) (w : World) : (storeVar 48 b (.int .i64 n)).run Tryz.prog w = (store b (.int .i64 n)).run Tryz.prog w := by kernel_rfl
theorem k_parts_p (b : Addr) (w : World) : (ReflectliteValue.parts (vOf 101 b 150)).run Tryz.prog w = .ok (some (101, b, 150)) w := by kernel_rfl
theorem k_parts_e (b : Addr) (w : World) : (ReflectliteValue.parts (vOf 48 b 130)).run Tryz.prog w = .ok (some (48, b, 130)) w := by kernel_rfl
theorem k_parts_a (b : Addr) (w : World) : (ReflectliteValue.parts (vOf 48 b 386)).run Tryz.prog w = .ok (some (48, b, 386)) w := by kernel_rfl
theorem k_elem_p (w : World) : (elem? 101).run Tryz.prog w = .ok (some 48) w := by kernel_rfl
theorem k_mk (p : Addr) (w : World) : (ReflectliteValue.mk 48 p 256).run Tryz.prog w = .ok (vOf 48 p 386) w := by kernel_rfl
theorem k_direct (w : World) : (directlyAssignable 48 48).run Tryz.prog w = .ok true w := by kernel_rfl

theorem rl_isNil (t : TypeId) (a : Addr) (x k : Nat) : ReflectliteValue.isNil t a x k = (do
  if !([18, 19, 20, 21, 22, 23, 26].contains k) then ReflectliteValue.valueError "reflectlite.Value.IsNil" k
  match ← loadVar t a with
  | .chan none | .nilFunc | .nilIface | .map none | .pointer none | .slice none _ _ => pure (.bool true)
  | _ => pure (.bool false)) := rfl

theorem k_isNil (a b : Addr) (w : World) (hb : w.cell? b = some (.pointer (some a))) : (callFunc 62 #[vOf 101 b 150]).run Tryz.prog w =
    .ok (.value (.bool false)) w := by
  rw [run_callFunc_extern (e := ReflectliteValue.method (ReflectliteValue.valueError "reflectlite.Value.IsNil" 0) ReflectliteValue.isNil) Tryz.func62 (by kernel_rfl) (by kernel_rfl) (by kernel_rfl) (by kernel_rfl), rl_method]
  simp only [Sem.run_bind, k_parts_p, Result.andThen]
  simp [rl_isNil, k_load_p, hb, Result.andThen]

theorem k_elem (a b : Addr) (w : World) (hb : w.cell? b = some (.pointer (some a))) : (callFunc 97 #[vOf 101 b 150]).run Tryz.prog w =
    .ok (.value (vOf 48 a 386)) w := by
  rw [run_callFunc_extern (e := ReflectliteValue.method (ReflectliteValue.valueError "reflectlite.Value.Elem" 0) ReflectliteValue.elem) Tryz.func97 (by kernel_rfl) (by kernel_rfl) (by kernel_rfl) (by kernel_rfl), rl_method]
  simp only [Sem.run_bind, k_parts_p, Result.andThen]
  simp [ReflectliteValue.elem, k_load_p, hb, k_elem_p, Result.andThen, ReflectliteValue.flagAddr, k_mk]

theorem rl_set (v x : Value) : ReflectliteValue.set #[v, x] = (do
    let (some (dst, a, fl), some (src, b, _)) := (← ReflectliteValue.parts v, ← ReflectliteValue.parts x)
      | unsupported (.noEntry "extern/(internal/reflectlite.Value).Set.zeroValue")
    if fl / ReflectliteValue.flagAddr % 2 == 0 then unsupported (.noEntry "extern/(internal/reflectlite.Value).Set.unaddressable")
    let val ← loadVar src b
    if ← directlyAssignable dst src then storeVar dst a val
    else if ← implements dst src then
      if (← kind src) == 20 then
        match val with
        | .nilIface => unsupported (.noEntry "extern/reflectlite: a nil value of one interface type handed on as a value of another")
        | _ => storeVar dst a val
      else storeVar dst a (.iface src val)
    else panicString ("reflectlite.Set: value of type " ++ (← spelt src) ++ " is not assignable to type " ++ (← spelt dst))
    pure (.tuple #[])) := rfl

theorem k_set (a b : Addr) (n m : Int) (w : World) (hb : w.cell? b = some (.int .i64 n)) (ha : w.cell? a = some (.int .i64 m)) (hf : w.frozen? a = false) :
    (callFunc 98 #[vOf 48 a 386, vOf 48 b 130]).run Tryz.prog w = .ok (.value (.tuple #[])) (w.setCell a (.int .i64 n)) := by
  rw [run_callFunc_extern (e := ReflectliteValue.set) Tryz.func98 (by kernel_rfl) (by kernel_rfl) (by kernel_rfl) (by kernel_rfl), rl_set]
  simp only [Sem.run_bind, k_parts_a, k_parts_e, Result.andThen]
  simp [k_load_e, hb, k_direct, k_store_e, Result.andThen, ReflectliteValue.flagAddr, ha, hf, store, Sem.run]

theorem k_kind_p (w : World) : ((method 389 177 (.agg #[.pointer (some ⟨gN, 101, none⟩)]) "Kind").run Tryz.prog w).andThen (fun a w' => (callFunc a.1 #[a.2]).run Tryz.prog w') = .ok (.value (.int .u8 22)) w := by kernel_rfl
theorem k_kind_e (w : World) : ((method 389 177 (.agg #[.pointer (some ⟨gN, 48, none⟩)]) "Kind").run Tryz.prog w).andThen (fun a w' => (callFunc a.1 #[a.2]).run Tryz.prog w') = .ok (.value (.int .u8 2)) w := by kernel_rfl
theorem k_relem (w : World) : ((method 389 177 (.agg #[.pointer (some ⟨gN, 101, none⟩)]) "Elem").run Tryz.prog w).andThen (fun a w' => (callFunc a.1 #[a.2]).run Tryz.prog w') = .ok (.value (tOf 48)) w := by kernel_rfl
theorem k_assign (w : World) : (callFunc 201 #[.agg #[.pointer (some ⟨gN, 48, none⟩)], tOf 48]).run Tryz.prog w = .ok (.value (.bool true)) w := by kernel_rfl
theorem k_m_assign (w : World) : (method 389 177 (.agg #[.pointer (some ⟨gN, 48, none⟩)]) "AssignableTo").run Tryz.prog w = .ok (201, .agg #[.pointer (some ⟨gN, 48, none⟩)]) w := by kernel_rfl
end Go.Proofs.YtmcgnnmffeojpaaGreatDoor
-- Errs2
namespace Go.Proofs.YtmcgnnmffeojpaaGreatDoor
open Go.RowKit Go.Plan Go.Extern Go.Extern.Rtype Go.Lib

/-- A cell that is there lies in a block that is there. -/
theorem cell_lt {w : World} {a : Addr} {v : Value} (h : w.cell? a = some v) : a.block < w.heap.size := by
  unfold World.cell? at h
  split at h
  · rename_i hb; exact (Array.getElem?_eq_some_iff.1 hb).1
  · cases h

set_option maxHeartbeats 4000000 in
set_option maxRecDepth 100000 in
/-- errors.as, of an Errno and a target that is an Errno. -/
theorem as_in (n : Int) (a b : Addr) (i : Value) (w : World) (m : Int) (ha : w.cell? a = some (.int .i64 m)) (hf : w.frozen? a = false) (hb : w.cell? b = some (.pointer (some a))) :
    Calls Tryz.prog 63 #[.iface 48 (.int .i64 n), i, vOf 101 b 150, tOf 48] w fun e w' => e = .returned (.bool true) ∧
      ∃ w1, Ext w w1 ∧ w' = w1.setCell a (.int .i64 n) := by
  have lb := cell_lt hb
  have la := cell_lt ha
  have f1 := k_valueOfE
  have f2 := k_typeOf
  have f3 := k_assign
  have f4 := k_m_assign
  have f5 := k_elem a b
  have f6 := k_set a ⟨w.heap.size + 1, 0, none⟩ n m ((w.alloc (.cells #[.pointer (some ⟨gN, 101, none⟩), .pointer (some b), .int .u64 150] 137)).alloc (.cells #[.int .i64 n] 48))
    (by go_simp) (by go_simp) (by simp [Go.RowKit.frozen?_alloc_cells, hf])
  have f7 := Go.RowKit.frozen?_alloc_cells
  simp only [vOf, tOf] at *
  generalize gN = hp at *
  go_enter Tryz.func63, Tryz.ntmps63
  go_wp2_with fail
  refine wp_loop_once ?_
  go_wp2_with fail
  go_ret
  exact ⟨rfl, _, ((ExtM.refl _).alloc _).alloc _, rfl⟩

set_option maxHeartbeats 4000000 in
set_option maxRecDepth 100000 in
/-- errors.As, of an Errno and a target that is an Errno. -/
theorem as_c (n : Int) (a : Addr) (w : World) (m : Int) (ha : w.cell? a = some (.int .i64 m)) (hf : w.frozen? a = false)
    (hg : w.cell? ⟨0, 0, none⟩ = some (tOf 45)) :
    Calls Tryz.prog 40 #[.iface 48 (.int .i64 n), .iface 101 (.pointer (some a))] w fun e w' => e = .returned (.bool true) ∧
      ∃ w1, Ext w w1 ∧ w' = w1.setCell a (.int .i64 n) := by
  have la := cell_lt ha
  have f1 := k_valueOf
  have f2 := k_type
  have f3 : ∀ w, (callFunc 190 #[.pointer (some ⟨gN, 101, none⟩)]).run Tryz.prog w = .ok (.value (.int .u8 22)) w := fun _ => by kernel_rfl
  have f4 : ∀ w, (callFunc 190 #[.pointer (some ⟨gN, 48, none⟩)]).run Tryz.prog w = .ok (.value (.int .u8 2)) w := fun _ => by kernel_rfl
  have f5 : ∀ w, (callFunc 203 #[.agg #[.pointer (some ⟨gN, 101, none⟩)]]).run Tryz.prog w = .ok (.value (tOf 48)) w := fun _ => by kernel_rfl
  have m1 : ∀ t w, (method 389 177 (.agg #[.pointer (some ⟨gN, t, none⟩)]) "Kind").run Tryz.prog w = .ok (190, .pointer (some ⟨gN, t, none⟩)) w := fun _ _ => by kernel_rfl
  have m2 : ∀ t w, (method 389 177 (.agg #[.pointer (some ⟨gN, t, none⟩)]) "Elem").run Tryz.prog w = .ok (203, .agg #[.pointer (some ⟨gN, t, none⟩)]) w := fun _ _ => by kernel_rfl
  have f6 := k_isNil a ⟨w.heap.size, 0, none⟩
  have lg := cell_lt hg
  have m3 : ∀ t w, (method 389 177 (.agg #[.pointer (some ⟨gN, t, none⟩)]) "Implements").run Tryz.prog w = .ok (204, .agg #[.pointer (some ⟨gN, t, none⟩)]) w := fun _ _ => by kernel_rfl
  have f8 : ∀ w, (callFunc 204 #[.agg #[.pointer (some ⟨gN, 48, none⟩)], tOf 45]).run Tryz.prog w = .ok (.value (.bool true)) w := fun _ => by kernel_rfl
  simp only [vOf, tOf] at f1 f2 f3 f4 f5 f6 f8 m1 m2 m3 hg
  generalize hgN : gN = hp at f1 f2 f3 f4 f5 f6 f8 m1 m2 m3 hg
  go_enter Tryz.func40, Tryz.ntmps40
  go_wp2_with fail
  subst hgN
  refine (as_in n a ⟨w.heap.size, 0, none⟩ _ _ m (by go_simp) (by simp [Go.RowKit.frozen?_alloc_cells, hf]) (by go_simp)).mono ?_
  rintro e w' ⟨rfl, w1, h1, rfl⟩
  go_wp2_with fail
  go_ret
  exact ⟨rfl, _, ExtM.trans _ _ _ (((ExtM.refl _).alloc _).alloc _) h1, rfl⟩
end Go.Proofs.YtmcgnnmffeojpaaGreatDoor

-- Errs3
namespace Go.Proofs.YtmcgnnmffeojpaaGreatDoor
open Go.RowKit Go.Plan Go.Extern Go.Extern.Rtype Go.Lib

/-- What the laid variable reads as. -/
def Laid (w : World) : Prop := w.cell? ⟨0, 0, none⟩ = some (tOf 45)
theorem Laid.of {w w' : World} (h : Laid w) (hx : Ext w w') : Laid w' := (ExtM.cell hx (p := ⟨0, 0, none⟩) (cell_lt h) (by simp)).trans h

theorem tell_nil (w : World) : Calls Tryz.prog 15 #[.nilIface] w fun e w' => e = .returned (.int .i64 0) ∧ w' = w := by
  go_enter Tryz.func15, Tryz.ntmps15
  go_wp2_with fail
  go_ret
  exact ⟨rfl, rfl⟩

set_option maxHeartbeats 4000000 in
set_option maxRecDepth 100000 in
theorem tell_c (n : Int) (w : World) (hg : Laid w) : Calls Tryz.prog 15 #[.iface 48 (.int .i64 n)] w fun e w' => e = .returned (.int .i64 n) ∧ Ext w w' := by
  go_enter Tryz.func15, Tryz.ntmps15
  go_wp2_with fail
  have hx : Ext w (w.alloc (.cells #[.int .i64 0] 48)) := (ExtM.refl _).alloc _
  refine (as_c n ⟨w.heap.size, 0, none⟩ (w.alloc (.cells #[.int .i64 0] 48)) 0 (by go_simp) (by rw [Go.RowKit.frozen?_alloc_cells]; simp [World.frozen?]) (hg.of hx)).mono ?_
  rintro e w' ⟨rfl, w1, h1, rfl⟩
  have hc : w1.cell? ⟨w.heap.size, 0, none⟩ = some (.int .i64 0) := (ExtM.cell h1 (p := ⟨w.heap.size, 0, none⟩) (by simp) (by simp)).trans (by go_simp)
  have hy : Ext w (w1.setCell ⟨w.heap.size, 0, none⟩ (.int .i64 n)) := ExtM.setCell (ExtM.trans _ _ _ hx h1) (Or.inl (Nat.le_refl _)) _
  go_wp2_with fail
  go_ret
  exact ⟨rfl, hy⟩

end Go.Proofs.YtmcgnnmffeojpaaGreatDoor
