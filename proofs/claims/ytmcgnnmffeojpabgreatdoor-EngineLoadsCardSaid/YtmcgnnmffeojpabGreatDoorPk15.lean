import Derived.Test.YtmcgnnmffeojpabGreatDoorPk1
import Derived.Test.YtmcgnnmffeojpabGreatDoorProg
import Derived.Lib.ReflectliteSlice
import Derived.KernelRfl
import Derived.Stop.Asserts
set_option maxRecDepth 100000
set_option maxHeartbeats 8000000
namespace Go.Proofs.YtmcgnnmffeojpabGreatDoor
open Go.RowKit Go.Plan Go.Extern Go.Extern.Rtype Go.Lib
noncomputable def gN:Nat:=Tryz.prog.globals.size
noncomputable def vOf (t:Nat) (b:Addr) (f:Int):Value:=.agg #[.pointer (some ⟨gN,t,none⟩),.pointer (some b),.int .u64 f]
noncomputable def tOf (t:Nat):Value:=.iface 240 (.agg #[.pointer (some ⟨gN,t,none⟩)])
theorem zkh (a:Addr) (w:World):(callFunc 111 #[.iface 173 (.pointer (some a))]).run Tryz.prog w =
 .ok (.value (vOf 173 ⟨w.heap.size,0,none⟩ 150)) (w.alloc (.cells #[.pointer (some a)] 173)):=by kernel_rfl
theorem ziM (n:Int) (w:World):(callFunc 111 #[.iface 24 (.int .i64 n)]).run Tryz.prog w =
 .ok (.value (vOf 24 ⟨w.heap.size,0,none⟩ 130)) (w.alloc (.cells #[.int .i64 n] 24)):=by kernel_rfl
theorem zo2 (b:Addr) (w:World):(callFunc 131 #[vOf 173 b 150]).run Tryz.prog w =
 .ok (.value (tOf 173)) w:=by kernel_rfl
theorem zm0 (n:Int) (w:World):(callFunc 177 #[.iface 24 (.int .i64 n)]).run Tryz.prog w =
 .ok (.value (tOf 24)) w:=by kernel_rfl
theorem zie (b:Addr) (w:World):(loadVar 173 b).run Tryz.prog w = (load b).run Tryz.prog w:=by kernel_rfl
theorem zlG (b:Addr) (w:World):(loadVar 24 b).run Tryz.prog w = (load b).run Tryz.prog w:=by kernel_rfl
theorem zj6 (b:Addr) (n:Int) (w:World):(storeVar 24 b (.int .i64 n)).run Tryz.prog w = (store b (.int .i64 n)).run Tryz.prog w:=by kernel_rfl
theorem zfU (b:Addr) (w:World):(ReflectliteValue.parts (vOf 173 b 150)).run Tryz.prog w = .ok (some (173,b,150)) w:=by kernel_rfl
theorem zjM (b:Addr) (w:World):(ReflectliteValue.parts (vOf 24 b 130)).run Tryz.prog w = .ok (some (24,b,130)) w:=by kernel_rfl
theorem zku (b:Addr) (w:World):(ReflectliteValue.parts (vOf 24 b 386)).run Tryz.prog w = .ok (some (24,b,386)) w:=by kernel_rfl
theorem zmb (w:World):(elem? 173).run Tryz.prog w = .ok (some 24) w:=by kernel_rfl
theorem k_mk (p:Addr) (w:World):(ReflectliteValue.mk 24 p 256).run Tryz.prog w = .ok (vOf 24 p 386) w:=by kernel_rfl
theorem zm2 (w:World):(directlyAssignable 24 24).run Tryz.prog w = .ok true w:=by kernel_rfl
theorem zna (t:TypeId) (a:Addr) (x k:Nat):ReflectliteValue.isNil t a x k = (do
 if !([18, 19, 20, 21, 22, 23, 26].contains k) then ReflectliteValue.valueError "reflectlite.Value.IsNil" k
 match <- loadVar t a with
 | .chan none | .nilFunc | .nilIface | .map none | .pointer none | .slice none _ _=>pure (.bool true)
 | _=>pure (.bool false)):=rfl
theorem zn7 (a b:Addr) (w:World) (hb:w.cell? b = some (.pointer (some a))):(callFunc 132 #[vOf 173 b 150]).run Tryz.prog w =
 .ok (.value (.bool false)) w:=by
 rw [run_callFunc_extern (e := ReflectliteValue.method (ReflectliteValue.valueError "reflectlite.Value.IsNil" 0) ReflectliteValue.isNil) Tryz.func132 (by kernel_rfl) (by kernel_rfl) (by kernel_rfl) (by kernel_rfl), rl_method]; simp only [Sem.run_bind, zfU, Result.andThen]; simp [zna, zie, hb, Result.andThen]
theorem zoM (a b:Addr) (w:World) (hb:w.cell? b = some (.pointer (some a))):(callFunc 178 #[vOf 173 b 150]).run Tryz.prog w =
 .ok (.value (vOf 24 a 386)) w:=by
 rw [run_callFunc_extern (e := ReflectliteValue.method (ReflectliteValue.valueError "reflectlite.Value.Elem" 0) ReflectliteValue.elem) Tryz.func178 (by kernel_rfl) (by kernel_rfl) (by kernel_rfl) (by kernel_rfl), rl_method]; simp only [Sem.run_bind, zfU, Result.andThen]; simp [ReflectliteValue.elem, zie, hb, zmb, Result.andThen, ReflectliteValue.flagAddr, k_mk]
theorem zpv (v x:Value):ReflectliteValue.set #[v,x] = (do
 let (some (dst,a,fl),some (src,b,_)):=(<- ReflectliteValue.parts v,<- ReflectliteValue.parts x)
  | unsupported (.noEntry "extern/(internal/reflectlite.Value).Set.zeroValue")
 if fl / ReflectliteValue.flagAddr % 2 == 0 then unsupported (.noEntry "extern/(internal/reflectlite.Value).Set.unaddressable")
 let val <- loadVar src b
 if <- directlyAssignable dst src then storeVar dst a val
 else if <- implements dst src then
  if (<- kind src) == 20 then
   match val with
   | .nilIface => unsupported (.noEntry "extern/reflectlite: a nil value of one interface type handed on as a value of another")
   | _=>storeVar dst a val
  else storeVar dst a (.iface src val)
 else panicString ("reflectlite.Set: value of type " ++ (<- spelt src) ++ " is not assignable to type " ++ (<- spelt dst))
 pure (.tuple #[])):=rfl
theorem zpE (a b:Addr) (n m:Int) (w:World) (hb:w.cell? b = some (.int .i64 n)) (ha:w.cell? a = some (.int .i64 m)) (hf:w.frozen? a = false) :
 (callFunc 179 #[vOf 24 a 386,vOf 24 b 130]).run Tryz.prog w = .ok (.value (.tuple #[])) (w.setCell a (.int .i64 n)):=by
 rw [run_callFunc_extern (e:=ReflectliteValue.set) Tryz.func179 (by kernel_rfl) (by kernel_rfl) (by kernel_rfl) (by kernel_rfl),zpv];simp only [Sem.run_bind,zku,zjM,Result.andThen];simp [zlG,hb,zm2,zj6,Result.andThen,ReflectliteValue.flagAddr,ha,hf,store,Sem.run]
theorem zma (w:World):(callFunc 281 #[.agg #[.pointer (some ⟨gN,24,none⟩)],tOf 24]).run Tryz.prog w = .ok (.value (.bool true)) w:=by kernel_rfl
theorem zjd (w : World) : (method 468 240 (.agg #[.pointer (some ⟨gN, 24, none⟩)]) "AssignableTo").run Tryz.prog w = .ok (281, .agg #[.pointer (some ⟨gN, 24, none⟩)]) w := by kernel_rfl
theorem zcN {w:World} {a:Addr} {v:Value} (h:w.cell? a = some v):a.block < w.heap.size:=by
 unfold World.cell? at h;split at h
 . rename_i hb;exact (Array.getElem?_eq_some_iff.1 hb).1
 . cases h
theorem zpF (n:Int) (a b:Addr) (i:Value) (w:World) (m:Int) (ha:w.cell? a = some (.int .i64 m)) (hf:w.frozen? a = false) (hb:w.cell? b = some (.pointer (some a))) :
 Calls Tryz.prog 133 #[.iface 24 (.int .i64 n),i,vOf 173 b 150,tOf 24] w fun e w'=>e = .returned (.bool true) /\
  ∃ w1,Ext w w1 /\ w' = w1.setCell a (.int .i64 n):=by
 have lb:=zcN hb;have la:=zcN ha;have f1:=ziM;have f2:=zm0;have f3:=zma;have f4:=zjd;have f5:=zoM a b;have f6:=zpE a ⟨w.heap.size + 1,0,none⟩ n m ((w.alloc (.cells #[.pointer (some ⟨gN,173,none⟩),.pointer (some b),.int .u64 150] 187)).alloc (.cells #[.int .i64 n] 24))
  (by go_simp) (by go_simp) (by simp [Go.RowKit.frozen?_alloc_cells,hf])
 have f7:=Go.RowKit.frozen?_alloc_cells;simp only [vOf,tOf] at *;generalize gN = hp at *;go_enter Tryz.func133,Tryz.ntmps133;go_wp2_with fail;refine wp_loop_once ?_;go_wp2_with fail;go_ret;exact ⟨rfl,_,((ExtM.refl _).alloc _).alloc _,rfl⟩
theorem as_c (n:Int) (a:Addr) (w:World) (m:Int) (ha:w.cell? a = some (.int .i64 m)) (hf:w.frozen? a = false)
 (hg:w.cell? ⟨2,0,none⟩ = some (tOf 29)) :
 Calls Tryz.prog 95 #[.iface 24 (.int .i64 n),.iface 173 (.pointer (some a))] w fun e w'=>e = .returned (.bool true) /\
  ∃ w1,Ext w w1 /\ w' = w1.setCell a (.int .i64 n):=by
 have la:=zcN ha;have f1:=zkh;have f2:=zo2;have f3:∀ w,(callFunc 265 #[.pointer (some ⟨gN,173,none⟩)]).run Tryz.prog w = .ok (.value (.int .u8 22)) w:=fun _=>by kernel_rfl
 have f4:∀ w,(callFunc 265 #[.pointer (some ⟨gN,24,none⟩)]).run Tryz.prog w = .ok (.value (.int .u8 2)) w:=fun _=>by kernel_rfl
 have f5:∀ w,(callFunc 283 #[.agg #[.pointer (some ⟨gN,173,none⟩)]]).run Tryz.prog w = .ok (.value (tOf 24)) w:=fun _=>by kernel_rfl
 have m1 : ∀ t w, (method 468 240 (.agg #[.pointer (some ⟨gN, t, none⟩)]) "Kind").run Tryz.prog w = .ok (265, .pointer (some ⟨gN, t, none⟩)) w := fun _ _ => by kernel_rfl
 have m2 : ∀ t w, (method 468 240 (.agg #[.pointer (some ⟨gN, t, none⟩)]) "Elem").run Tryz.prog w = .ok (283, .agg #[.pointer (some ⟨gN, t, none⟩)]) w := fun _ _ => by kernel_rfl
 have f6 := zn7 a ⟨w.heap.size, 0, none⟩; have lg := zcN hg; have m3 : ∀ t w, (method 468 240 (.agg #[.pointer (some ⟨gN, t, none⟩)]) "Implements").run Tryz.prog w = .ok (284, .agg #[.pointer (some ⟨gN, t, none⟩)]) w := fun _ _ => by kernel_rfl
 have f8:∀ w,(callFunc 284 #[.agg #[.pointer (some ⟨gN,24,none⟩)],tOf 29]).run Tryz.prog w = .ok (.value (.bool true)) w:=fun _=>by kernel_rfl
 simp only [vOf,tOf] at f1 f2 f3 f4 f5 f6 f8 m1 m2 m3 hg;generalize hgN:gN = hp at f1 f2 f3 f4 f5 f6 f8 m1 m2 m3 hg;go_enter Tryz.func95,Tryz.ntmps95;go_wp2_with fail;subst hgN;refine (zpF n a ⟨w.heap.size,0,none⟩ _ _ m (by go_simp) (by simp [Go.RowKit.frozen?_alloc_cells,hf]) (by go_simp)).mono ?_;rintro e w' ⟨rfl,w1,h1,rfl⟩;go_wp2_with fail;go_ret;exact ⟨rfl,_,ExtM.trans _ _ _ (((ExtM.refl _).alloc _).alloc _) h1,rfl⟩
def Laid (w:World):Prop:=w.cell? ⟨2,0,none⟩ = some (tOf 29)
theorem Laid.of {w w':World} (h:Laid w) (hx:Ext w w'):Laid w':=(ExtM.cell hx (p:=⟨2,0,none⟩) (zcN h) (by simp)).trans h
theorem zfr (w:World):Calls Tryz.prog 44 #[.nilIface] w fun e w'=>e = .returned (.int .i64 0) /\ w' = w:=by
 go_enter Tryz.func44,Tryz.ntmps44;go_wp2_with fail;go_ret;exact ⟨rfl,rfl⟩
theorem zcz (n:Int) (w:World) (hg:Laid w):Calls Tryz.prog 44 #[.iface 24 (.int .i64 n)] w fun e w'=>e = .returned (.int .i64 n) /\ Ext w w':=by
 go_enter Tryz.func44,Tryz.ntmps44;go_wp2_with fail;have hx:Ext w (w.alloc (.cells #[.int .i64 0] 24)):=(ExtM.refl _).alloc _;refine (as_c n ⟨w.heap.size,0,none⟩ (w.alloc (.cells #[.int .i64 0] 24)) 0 (by go_simp) (by rw [Go.RowKit.frozen?_alloc_cells];simp [World.frozen?]) (hg.of hx)).mono ?_;rintro e w' ⟨rfl,w1,h1,rfl⟩;have hc:w1.cell? ⟨w.heap.size,0,none⟩ = some (.int .i64 0):=(ExtM.cell h1 (p:=⟨w.heap.size,0,none⟩) (by simp) (by simp)).trans (by go_simp);have hy:Ext w (w1.setCell ⟨w.heap.size,0,none⟩ (.int .i64 n)):=ExtM.setCell (ExtM.trans _ _ _ hx h1) (Or.inl (Nat.le_refl _)) _;go_wp2_with fail;go_ret;exact ⟨rfl,hy⟩
theorem zmP (w:World):Calls Tryz.prog 41 #[.nilIface] w fun e w'=>e = .returned (.tuple #[.int .i64 0,.bool true]) /\ w' = w:=by
 go_enter Tryz.func41,Tryz.ntmps41;go_wp2_with (go_at_call 44;refine (zfr _).mono ?_;rintro e w' ⟨rfl,rfl⟩);refine wp_loop_once ?_;go_wp2_with fail;go_ret2;exact ⟨rfl,rfl⟩
theorem zo9 (n:Int) (w:World) (hg:Laid w):Calls Tryz.prog 41 #[.iface 24 (.int .i64 n)] w fun e w'=>e = .returned (.tuple #[.int .i64 n,.bool true]) /\ Ext w w':=by
 have f1:∀ w,(Instr.typeAssert (.iface 24 (.int .i64 n)) 29 156 true).run Tryz.prog w = .ok (.tuple #[.pointer none,.bool false]) w:=fun _=>by kernel_rfl
 have f2:∀ w,(Instr.typeAssert (.iface 24 (.int .i64 n)) 29 158 true).run Tryz.prog w = .ok (.tuple #[.nilIface,.bool false]) w:=fun w=>run_typeAssert_lacksB Tryz.underlying158 (by kernel_rfl) (by kernel_rfl) _ _ w;go_enter Tryz.func41,Tryz.ntmps41;go_wp2_with fail;refine (zcz n w hg).mono ?_;rintro e w' ⟨rfl,h1⟩;go_wp2_with fail;refine wp_loop_once ?_;go_wp2_with fail;go_ret2;exact ⟨rfl,h1⟩
theorem lbare_nil (k:Int) (w:World):Calls Tryz.prog 7 #[.nilIface,.int .i64 k] w fun e w'=>e = .returned (.bool (0 == k)) /\ w' = w:=by
 go_enter Tryz.func7,Tryz.ntmps7;go_wp2_with fail;refine (zmP w).mono ?_;rintro e w' ⟨rfl,rfl⟩;go_wp2_with fail;go_ret;exact ⟨rfl,rfl⟩
theorem znJ (n k:Int) (w:World) (hg:Laid w):Calls Tryz.prog 7 #[.iface 24 (.int .i64 n),.int .i64 k] w fun e w'=>e = .returned (.bool (n == k)) /\ Ext w w':=by
 go_enter Tryz.func7,Tryz.ntmps7;go_wp2_with fail;refine (zo9 n w hg).mono ?_;rintro e w' ⟨rfl,h1⟩;go_wp2_with fail;go_ret;exact ⟨rfl,h1⟩
end Go.Proofs.YtmcgnnmffeojpabGreatDoor
