import Derived.Test.YtmcgnnmffeojpabGreatDoorPk20
set_option maxRecDepth 100000
set_option maxHeartbeats 8000000
namespace Go.Proofs.YtmcgnnmffeojpabGreatDoor
open Go.RowKit Go.Plan
def checkI (lo hi md:Int):Int :=
 if ¬ (-1048576 <= lo /\ lo <= 1048576) \/ ¬ (-1048576 <= hi /\ hi <= 1048576) then 2 else if hi < lo then 10 else if ¬ (0 <= md /\ md <= 3) then 1 else 0
theorem zgW {lo hi md:Int} (h:checkI lo hi md = 0):zay lo hi:=by
 unfold checkI at h;by_cases h1:¬ (-1048576 <= lo /\ lo <= 1048576) \/ ¬ (-1048576 <= hi /\ hi <= 1048576)
 . rw [if_pos h1] at h;cases h
 . unfold zay;omega
theorem zjR (lo hi md:Int) (w:World) :
 Calls Tryz.prog 98 #[.agg #[.int .i64 lo,.int .i64 hi,.int .i64 md]] w fun e w'=>e = .returned (errV (checkI lo hi md)) /\ Ext w w':=by
 by_cases h1:lo < -1048576
 . have d1:decide (lo < -1048576) = true:=by simp [h1]
   rw [show checkI lo hi md = 2 by unfold checkI;rw [if_pos (by omega)]];clear h1;go_enter Tryz.func98,Tryz.ntmps98;go_wp2_with fail;go_ret;exact ⟨rfl,(ExtM.refl _).alloc _⟩
 have d1:decide (lo < -1048576) = false:=by simp;omega
 by_cases h2:1048576 < lo
 . have d2:decide (1048576 < lo) = true:=by simp [h2]
   rw [show checkI lo hi md = 2 by unfold checkI;rw [if_pos (by omega)]];clear h1 h2;go_enter Tryz.func98,Tryz.ntmps98;go_wp2_with fail;go_ret;exact ⟨rfl,(ExtM.refl _).alloc _⟩
 have d2:decide (1048576 < lo) = false:=by simp;omega
 by_cases h3:hi < -1048576
 . have d3:decide (hi < -1048576) = true:=by simp [h3]
   rw [show checkI lo hi md = 2 by unfold checkI;rw [if_pos (by omega)]];clear h1 h2 h3;go_enter Tryz.func98,Tryz.ntmps98;go_wp2_with fail;go_ret;exact ⟨rfl,(ExtM.refl _).alloc _⟩
 have d3:decide (hi < -1048576) = false:=by simp;omega
 by_cases h4:1048576 < hi
 . have d4:decide (1048576 < hi) = true:=by simp [h4]
   rw [show checkI lo hi md = 2 by unfold checkI;rw [if_pos (by omega)]];clear h1 h2 h3 h4;go_enter Tryz.func98,Tryz.ntmps98;go_wp2_with fail;go_ret;exact ⟨rfl,(ExtM.refl _).alloc _⟩
 have d4:decide (1048576 < hi) = false:=by simp;omega
 by_cases h5:hi < lo
 . have d5:decide (hi < lo) = true:=by simp [h5]
   rw [show checkI lo hi md = 10 by unfold checkI;rw [if_neg (by omega),if_pos h5]];clear h1 h2 h3 h4 h5;go_enter Tryz.func98,Tryz.ntmps98;go_wp2_with fail;go_ret;exact ⟨rfl,(ExtM.refl _).alloc _⟩
 have d5:decide (hi < lo) = false:=by simp;omega
 by_cases h6:md < 0
 . have d6:decide (md < 0) = true:=by simp [h6]
   rw [show checkI lo hi md = 1 by unfold checkI;rw [if_neg (by omega),if_neg h5,if_pos (by omega)]];clear h1 h2 h3 h4 h5 h6;go_enter Tryz.func98,Tryz.ntmps98;go_wp2_with fail;go_ret;exact ⟨rfl,(ExtM.refl _).alloc _⟩
 have d6:decide (md < 0) = false:=by simp;omega
 by_cases h7:3 < md
 . have d7:decide (3 < md) = true:=by simp [h7]
   rw [show checkI lo hi md = 1 by unfold checkI;rw [if_neg (by omega),if_neg h5,if_pos (by omega)]];clear h1 h2 h3 h4 h5 h6 h7;go_enter Tryz.func98,Tryz.ntmps98;go_wp2_with fail;go_ret;exact ⟨rfl,(ExtM.refl _).alloc _⟩
 have d7:decide (3 < md) = false:=by simp;omega
 rw [show checkI lo hi md = 0 by unfold checkI;rw [if_neg (by omega),if_neg h5,if_neg (by omega)]];clear h1 h2 h3 h4 h5 h6 h7;go_enter Tryz.func98,Tryz.ntmps98;go_wp2_with fail;go_ret;exact ⟨rfl,(ExtM.refl _).alloc _⟩
theorem ziG (lo hi md:Int) (w:World) :
 Calls Tryz.prog 47 #[.agg #[.int .i64 lo,.int .i64 hi,.int .i64 md]] w fun e w'=>e = .returned (.int .i64 (checkI lo hi md)) /\ Ext w w':=by
 by_cases h1:-1048576 <= lo /\ lo <= 1048576
 . have r1:decide (-1048576 <= lo /\ lo <= 1048576) = true:=by simp;exact h1
   by_cases h2:-1048576 <= hi /\ hi <= 1048576
   . have r2:decide (-1048576 <= hi /\ hi <= 1048576) = true:=by simp;exact h2
     by_cases h5:hi < lo
     . have d5:decide (hi < lo) = true:=by simp [h5]
       rw [show checkI lo hi md = 10 by unfold checkI;rw [if_neg (by omega),if_pos h5]];have r3:=r1;clear h1 h2 h5;go_enter Tryz.func47,Tryz.ntmps47;go_wp2_with (go_at_call 50;refine (zdC _ _ _ _).mono ?_;rintro e w1 ⟨rfl,rfl⟩;first | rw [r1] | rw [r2] | rw [r3]);go_ret;exact ⟨rfl,(ExtM.refl _).alloc _⟩
     . have d5:decide (hi < lo) = false:=by simp;omega
       by_cases h6:0 <= md /\ md <= 3
       . have r3:decide ((0:Int) <= md /\ md <= 3) = true:=by simp;exact h6
         rw [show checkI lo hi md = 0 by unfold checkI;rw [if_neg (by omega),if_neg h5,if_neg (by omega)]];clear h1 h2 h5 h6;go_enter Tryz.func47,Tryz.ntmps47;go_wp2_with (go_at_call 50;refine (zdC _ _ _ _).mono ?_;rintro e w1 ⟨rfl,rfl⟩;first | rw [r1] | rw [r2] | rw [r3]);go_ret;exact ⟨rfl,(ExtM.refl _).alloc _⟩
       . have r3:decide ((0:Int) <= md /\ md <= 3) = false:=by simp;omega
         rw [show checkI lo hi md = 1 by unfold checkI;rw [if_neg (by omega),if_neg h5,if_pos h6]];clear h1 h2 h5 h6;go_enter Tryz.func47,Tryz.ntmps47;go_wp2_with (go_at_call 50;refine (zdC _ _ _ _).mono ?_;rintro e w1 ⟨rfl,rfl⟩;first | rw [r1] | rw [r2] | rw [r3]);go_ret;exact ⟨rfl,(ExtM.refl _).alloc _⟩
   . have r2:decide (-1048576 <= hi /\ hi <= 1048576) = false:=by simp;omega
     rw [show checkI lo hi md = 2 by unfold checkI;rw [if_pos (by omega)]];have r3:=r1;clear h1 h2;go_enter Tryz.func47,Tryz.ntmps47;go_wp2_with (go_at_call 50;refine (zdC _ _ _ _).mono ?_;rintro e w1 ⟨rfl,rfl⟩;first | rw [r1] | rw [r2] | rw [r3]);go_ret;exact ⟨rfl,(ExtM.refl _).alloc _⟩
 . have r1:decide (-1048576 <= lo /\ lo <= 1048576) = false:=by simp;omega
   rw [show checkI lo hi md = 2 by unfold checkI;rw [if_pos (by omega)]];have r2:=r1;have r3:=r1;clear h1;go_enter Tryz.func47,Tryz.ntmps47;go_wp2_with (go_at_call 50;refine (zdC _ _ _ _).mono ?_;rintro e w1 ⟨rfl,rfl⟩;first | rw [r1] | rw [r2] | rw [r3]);go_ret;exact ⟨rfl,(ExtM.refl _).alloc _⟩
theorem zlg (lo hi md:Int) (w:World) (hc:checkI lo hi md ≠ 0) :
 Calls Tryz.prog 46 #[.agg #[.int .i64 lo,.int .i64 hi,.int .i64 md]] w fun e w'=>e = .returned (.tuple #[.pointer none,errV (checkI lo hi md)]) /\ Ext w w':=by
 have hk:=fun u=>zjR lo hi md u;have he:errV (checkI lo hi md) = .iface 24 (.int .i64 (checkI lo hi md)):=by unfold errV;rw [if_neg hc]
 rw [he] at hk ⊢;generalize checkI lo hi md = c at *;clear hc he;go_enter Tryz.func46,Tryz.ntmps46;go_wp2_with (go_at_call 98;refine (hk _).mono ?_;rintro e w1 ⟨rfl,hx1⟩);go_ret2;exact ⟨rfl,ExtM.trans _ _ _ ((ExtM.refl w).alloc _) hx1⟩
theorem zoP (lo hi md:Int) (w:World) (hc:checkI lo hi md = 0) :
 Calls Tryz.prog 46 #[.agg #[.int .i64 lo,.int .i64 hi,.int .i64 md]] w fun e w'=>∃ P M,e = .returned (.tuple #[.pointer (some ⟨P,0,none⟩),.nilIface]) /\ Ext w w' /\ w.heap.size <= P /\ w.heap.size <= M /\ JIs w' P M (.slice none 0 0) (.slice none 0 0) lo hi md ⟨[],[],-1099511627777,-1099511627777,0⟩:=by
 have hk:=fun u=>zjR lo hi md u;rw [hc,errV,if_pos rfl] at hk;clear hc;have b0:(w.alloc (.cells #[.int .i64 lo,.int .i64 hi,.int .i64 md] 45)).cell? ⟨w.heap.size,0,none⟩ = some (.int .i64 lo):=by go_simp
 have b1:(w.alloc (.cells #[.int .i64 lo,.int .i64 hi,.int .i64 md] 45)).cell? ⟨w.heap.size,1,none⟩ = some (.int .i64 hi):=by go_simp
 have b2:(w.alloc (.cells #[.int .i64 lo,.int .i64 hi,.int .i64 md] 45)).cell? ⟨w.heap.size,2,none⟩ = some (.int .i64 md):=by go_simp
 have lB:w.heap.size < (w.alloc (.cells #[.int .i64 lo,.int .i64 hi,.int .i64 md] 45)).heap.size:=by simp
 have hx0:Ext w (w.alloc (.cells #[.int .i64 lo,.int .i64 hi,.int .i64 md] 45)):=(ExtM.refl w).alloc _;go_enter Tryz.func46,Tryz.ntmps46;go_upto_region 4 with (go_at_call 98;refine (hk _).mono ?_;rintro e w1 ⟨rfl,hx1⟩)
 have k:=fun o=>hx1.cell (p:=⟨w.heap.size,o,none⟩) lB (fun h=>h);have c0:=(k _).trans b0;have c1:=(k _).trans b1;have c2:=(k _).trans b2;have lB1:w.heap.size < w1.heap.size:=Nat.lt_of_lt_of_le lB hx1.size;have hX1:=ExtM.trans _ _ _ hx0 hx1;clear k b0 b1 b2 lB hx0 hx1;refine Plan.b0 Plan.Ext 6 ?_;refine Plan.qs 1 [0] ?_;go_big_quiet_step (fail);refine Plan.o1 1 fun K hK=>?_;go_wp2_with (fail);refine (zp1 _).mono ?_;rintro e w5 ⟨rfl,h5,hmk⟩;have H5:=ExtM.trans _ _ _ (ExtM.refl _).drew h5;obtain ⟨hc5,hf5,-⟩:=Ext.rules H5;have hs5_0:w.heap.size < w5.heap.size:=by have:=H5.size;(try simp at this);omega
 go_wp2_with (fail);refine hK _ _ h5 ?_;clear hK K;refine Plan.qs 1 [2] ?_;go_big_quiet_step (fail);refine Plan.o1 3 fun K hK=>?_;go_wp2_with (fail);refine hK _ _ ((ExtM.refl _).alloc _) ?_;clear hK K;refine Plan.qs 2 [4,5] ?_;iterate 2 go_big_quiet_step (fail)
 refine Plan.dn ?_;go_wp2_with fail;go_ret2;have hx6:Ext w5 (w5.alloc (.cells #[.int .i64 lo,.int .i64 hi,.int .i64 md,.slice none 0 0,.slice none 0 0,.pointer (some ⟨w1.heap.size,0,none⟩),.int .i64 0] 169)):=(ExtM.refl w5).alloc _;have hM:w1.heap.size < w5.heap.size:=hmk.lt;have hc:∀ o v,(#[Value.int .i64 lo,.int .i64 hi,.int .i64 md,.slice none 0 0,.slice none 0 0,.pointer (some ⟨w1.heap.size,0,none⟩),.int .i64 0]:Array Value)[o]? = some v -> (w5.alloc (.cells #[.int .i64 lo,.int .i64 hi,.int .i64 md,.slice none 0 0,.slice none 0 0,.pointer (some ⟨w1.heap.size,0,none⟩),.int .i64 0] 169)).cell? ⟨w5.heap.size,o,none⟩ = some v:=fun o v h =>
  (World.cell?_alloc_at _ _ _ o (by simp)).trans h
 have hf:∀ o,(w5.alloc (.cells #[.int .i64 lo,.int .i64 hi,.int .i64 md,.slice none 0 0,.slice none 0 0,.pointer (some ⟨w1.heap.size,0,none⟩),.int .i64 0] 169)).frozen? ⟨w5.heap.size,o,none⟩ = false:=fun o=>by
  rw [Go.RowKit.frozen?_alloc_cells];simp [World.frozen?]
 have hrow:∀ k,(Value.slice none 0 0).ownBlock ≠ some k:=fun k e=>by cases e
 refine ⟨w5.heap.size,w1.heap.size,rfl,ExtM.trans _ _ _ hX1 (ExtM.trans _ _ _ H5 hx6),by have:=hX1.size;omega,hX1.size,?_⟩;exact ⟨hc 0 _ rfl,hc 1 _ rfl,hc 2 _ rfl,⟨hc 3 _ rfl,hf 3,⟨rfl,.inl ⟨rfl,rfl⟩⟩,List.Pairwise.nil,hrow _⟩,⟨hc 4 _ rfl,hf 4,⟨rfl,.inl ⟨rfl,rfl⟩⟩,List.Pairwise.nil,hrow _⟩,hc 5 _ rfl,hc 6 _ rfl,hf 6,hmk.extM hx6 (fun h=>h),by omega,hrow _,hrow _,fun k hk=>absurd hk (hrow k)⟩
end Go.Proofs.YtmcgnnmffeojpabGreatDoor
