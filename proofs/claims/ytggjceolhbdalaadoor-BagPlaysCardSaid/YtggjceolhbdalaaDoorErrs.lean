/- What errors.As makes of an Errno: the entries of internal/reflectlite at its types. -/
import Derived.Test.YtggjceolhbdalaaDoorProg
import Derived.Test.YtggjceolhbdalaaDoorPlan
import Derived.Lib.ReflectliteSlice
import Derived.KernelRfl
namespace Go.Proofs.YtggjceolhbdalaaDoor
open Go.RowKit Go.Plan Go.Extern Go.Extern.Rtype Go.Lib

/-- The block of the types' descriptors. -/
noncomputable def gN : Nat := Tryd.prog.globals.size

/-- The Value of a variable at 'b' of type 't'. -/
noncomputable def vOf (t : Nat) (b : Addr) (f : Int) : Value := .agg #[.pointer (some ⟨gN, t, none⟩), .pointer (some b), .int .u64 f]
noncomputable def tOf (t : Nat) : Value := .iface 183 (.agg #[.pointer (some ⟨gN, t, none⟩)])

theorem k_valueOf (a : Addr) (w : World) : (callFunc 70 #[.iface 165 (.pointer (some a))]).run Tryd.prog w =
    .ok (.value (vOf 165 ⟨w.heap.size, 0, none⟩ 150)) (w.alloc (.cells #[.pointer (some a)] 165)) := by kernel_rfl
theorem k_valueOfE (n : Int) (w : World) : (callFunc 70 #[.iface 30 (.int .i64 n)]).run Tryd.prog w =
    .ok (.value (vOf 30 ⟨w.heap.size, 0, none⟩ 130)) (w.alloc (.cells #[.int .i64 n] 30)) := by kernel_rfl
theorem k_type (b : Addr) (w : World) : (callFunc 120 #[vOf 165 b 150]).run Tryd.prog w =
    .ok (.value (tOf 165)) w := by kernel_rfl
theorem k_typeOf (n : Int) (w : World) : (callFunc 141 #[.iface 30 (.int .i64 n)]).run Tryd.prog w =
    .ok (.value (tOf 30)) w := by kernel_rfl

theorem k_load_p (b : Addr) (w : World) : (loadVar 165 b).run Tryd.prog w = (load b).run Tryd.prog w := by kernel_rfl
theorem k_load_e (b : Addr) (w : World) : (loadVar 30 b).run Tryd.prog w = (load b).run Tryd.prog w := by kernel_rfl
theorem k_store_e (b : Addr) (n : Int) (w : World) : (storeVar 30 b (.int .i64 n)).run Tryd.prog w = (store b (.int .i64 n)).run Tryd.prog w := by kernel_rfl
theorem k_parts_p (b : Addr) (w : World) : (ReflectliteValue.parts (vOf 165 b 150)).run Tryd.prog w = .ok (some (165, b, 150)) w := by kernel_rfl
theorem k_parts_e (b : Addr) (w : World) : (ReflectliteValue.parts (vOf 30 b 130)).run Tryd.prog w = .ok (some (30, b, 130)) w := by kernel_rfl
theorem k_parts_a (b : Addr) (w : World) : (ReflectliteValue.parts (vOf 30 b 386)).run Tryd.prog w = .ok (some (30, b, 386)) w := by kernel_rfl
theorem k_elem_p (w : World) : (elem? 165).run Tryd.prog w = .ok (some 30) w := by kernel_rfl
theorem k_mk (p : Addr) (w : World) : (ReflectliteValue.mk 30 p 256).run Tryd.prog w = .ok (vOf 30 p 386) w := by kernel_rfl
theorem k_direct (w : World) : (directlyAssignable 30 30).run Tryd.prog w = .ok true w := by kernel_rfl

theorem rl_isNil (t : TypeId) (a : Addr) (x k : Nat) : ReflectliteValue.isNil t a x k = (do
  if !([18, 19, 20, 21, 22, 23, 26].contains k) then ReflectliteValue.valueError "reflectlite.Value.IsNil" k
  match ← loadVar t a with
  | .chan none | .nilFunc | .nilIface | .map none | .pointer none | .slice none _ _ => pure (.bool true)
  | _ => pure (.bool false)) := rfl

theorem k_isNil (a b : Addr) (w : World) (hb : w.cell? b = some (.pointer (some a))) : (callFunc 121 #[vOf 165 b 150]).run Tryd.prog w =
    .ok (.value (.bool false)) w := by
  rw [run_callFunc_extern (e := ReflectliteValue.method (ReflectliteValue.valueError "reflectlite.Value.IsNil" 0) ReflectliteValue.isNil) Tryd.func121 (by kernel_rfl) (by kernel_rfl) (by kernel_rfl) (by kernel_rfl), rl_method]
  simp only [Sem.run_bind, k_parts_p, Result.andThen]
  simp [rl_isNil, k_load_p, hb, Result.andThen]

theorem k_elem (a b : Addr) (w : World) (hb : w.cell? b = some (.pointer (some a))) : (callFunc 142 #[vOf 165 b 150]).run Tryd.prog w =
    .ok (.value (vOf 30 a 386)) w := by
  rw [run_callFunc_extern (e := ReflectliteValue.method (ReflectliteValue.valueError "reflectlite.Value.Elem" 0) ReflectliteValue.elem) Tryd.func142 (by kernel_rfl) (by kernel_rfl) (by kernel_rfl) (by kernel_rfl), rl_method]
  simp only [Sem.run_bind, k_parts_p, Result.andThen]
  simp [ReflectliteValue.elem, k_load_p, hb, k_elem_p, Result.andThen, ReflectliteValue.flagAddr, k_mk]

theorem rl_set (v x : Value) : ReflectliteValue.set #[v, x] = (do
    let (some (dst, a, fl), some (src, b, _)) := (← ReflectliteValue.parts v, ← ReflectliteValue.parts x)
      | unsupported (.noEntry "extern/(internal/reflectlite.Value).Set.zeroValue")
    if fl / ReflectliteValue.flagAddr % 2 == 0 then unsupported (.noEntry "extern/(internal/reflectlite.Value).Set.unaddressable")
    let val ← loadVar src b
    if ← directlyAssignable dst src then storeVar dst a val
    else if ← implements dst src then
      if (← kind src) == 20 then
        match val with
        | .nilIface => unsupported (.noEntry "extern/reflectlite: a nil value of one interface type handed on as a value of another")
        | _ => storeVar dst a val
      else storeVar dst a (.iface src val)
    else panicString ("reflectlite.Set: value of type " ++ (← spelt src) ++ " is not assignable to type " ++ (← spelt dst))
    pure (.tuple #[])) := rfl

theorem k_set (a b : Addr) (n m : Int) (w : World) (hb : w.cell? b = some (.int .i64 n)) (ha : w.cell? a = some (.int .i64 m)) (hf : w.frozen? a = false) :
    (callFunc 143 #[vOf 30 a 386, vOf 30 b 130]).run Tryd.prog w = .ok (.value (.tuple #[])) (w.setCell a (.int .i64 n)) := by
  rw [run_callFunc_extern (e := ReflectliteValue.set) Tryd.func143 (by kernel_rfl) (by kernel_rfl) (by kernel_rfl) (by kernel_rfl), rl_set]
  simp only [Sem.run_bind, k_parts_a, k_parts_e, Result.andThen]
  simp [k_load_e, hb, k_direct, k_store_e, Result.andThen, ReflectliteValue.flagAddr, ha, hf, store, Sem.run]

theorem k_kind_p (w : World) : ((method 358 183 (.agg #[.pointer (some ⟨gN, 165, none⟩)]) "Kind").run Tryd.prog w).andThen (fun a w' => (callFunc a.1 #[a.2]).run Tryd.prog w') = .ok (.value (.int .u8 22)) w := by kernel_rfl
theorem k_kind_e (w : World) : ((method 358 183 (.agg #[.pointer (some ⟨gN, 30, none⟩)]) "Kind").run Tryd.prog w).andThen (fun a w' => (callFunc a.1 #[a.2]).run Tryd.prog w') = .ok (.value (.int .u8 2)) w := by kernel_rfl
theorem k_relem (w : World) : ((method 358 183 (.agg #[.pointer (some ⟨gN, 165, none⟩)]) "Elem").run Tryd.prog w).andThen (fun a w' => (callFunc a.1 #[a.2]).run Tryd.prog w') = .ok (.value (tOf 30)) w := by kernel_rfl
theorem k_assign (w : World) : (callFunc 176 #[.agg #[.pointer (some ⟨gN, 30, none⟩)], tOf 30]).run Tryd.prog w = .ok (.value (.bool true)) w := by kernel_rfl
theorem k_m_assign (w : World) : (method 358 183 (.agg #[.pointer (some ⟨gN, 30, none⟩)]) "AssignableTo").run Tryd.prog w = .ok (176, .agg #[.pointer (some ⟨gN, 30, none⟩)]) w := by kernel_rfl
end Go.Proofs.YtggjceolhbdalaaDoor
