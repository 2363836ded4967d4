/- The reference's bag: Many, Apply, Sorted. -/
import Derived.Test.YtggjceolhbdalaaDoorOutApp
import Derived.Test.YtggjceolhbdalaaDoorStabO
import Derived.Test.YtggjceolhbdalaaDoorKRow
import Derived.Test.YtggjceolhbdalaaDoorBag
import Derived.Deep.DeepCutAuto
namespace Go.Proofs.YtggjceolhbdalaaDoor
open Go.RowKit Go.Plan

/-- The reference's bag in the block B: its row v holds these. -/
structure RB (w : World) (B : Nat) (v : Value) (l : List Out) : Prop where
  c0 : w.cell? ⟨B, 0, none⟩ = some v
  f0 : w.frozen? ⟨B, 0, none⟩ = false
  row : w.ownsRow 0 45 9 v l.length (l.flatMap Out.cells)
  own : v.ownBlock ≠ some B
def RBUp (w w' : World) (B : Nat) (v : Value) (l : List Out) : Prop :=
  (∃ v', RB w' B v' l ∧ (v'.ownBlock = v.ownBlock ∨ ∃ k, v'.ownBlock = some k ∧ w.heap.size ≤ k)) ∧ ExtM (fun k => k = B ∨ v.ownBlock = some k) w w'
theorem RB.lt {w : World} {B : Nat} {v : Value} {l : List Out} (h : RB w B v l) : B < w.heap.size := cell_lt' h.c0
theorem RB.extM {M : Nat → Prop} {w w' : World} {B : Nat} {v : Value} {l : List Out} (h : RB w B v l) (hx : ExtM M w w') (hB : ¬ M B) (hv : ∀ k, v.ownBlock = some k → ¬ M k) : RB w' B v l :=
  ⟨(hx.cell (p := ⟨B, 0, none⟩) h.lt hB).trans h.c0, (hx.frozen (p := ⟨B, 0, none⟩) h.lt hB).trans h.f0, own_ext h.row hx hv, h.own⟩
theorem RB.of {w w' : World} {B : Nat} {v : Value} {l : List Out} (h : RB w B v l) (hx : Ext w w') : RB w' B v l := h.extM hx (fun h => h) (fun _ _ h => h)

theorem run_appendO (W : World) (base nb c : Nat) (v : Value) (acc : List Out) (x : Out) (ty : TypeId) (hown : W.ownsRow base 45 9 v acc.length (acc.flatMap Out.cells)) (hx : ∀ j u, x.cells[j]? = some u → W.cell? ⟨nb, j, none⟩ = some u) (hl : acc.length < 1000000) (hb : base ≤ W.heap.size) :
    ∃ v' w', (Builtin.append_ #[41, 41] ty #[v, .slice (some ⟨nb, 0, none⟩) 1 c]).run Tryd.prog W = .ok v' w' ∧ w'.ownsRow base 45 9 v' (acc ++ [x]).length ((acc ++ [x]).flatMap Out.cells) ∧ ExtR v.ownBlock W w' ∧ (v'.ownBlock = v.ownBlock ∨ ∃ k, v'.ownBlock = some k ∧ W.heap.size ≤ k) :=
  run_appendK outCells_len outCells_one 41 _ 64 infoOut' rfl (by decide) Tryd.underlying41 (by decide) W base nb c v acc x ty hown hx hl hb

theorem fresh_M {M N : Nat → Prop} {a b c : World} (h1 : ExtM M a b) (h2 : ExtM N b c) (hN : ∀ k, k < a.heap.size → N k → M k) : ExtM M a c :=
  ⟨h2.os.trans h1.os, h2.tape.trans h1.tape, h2.output.trans h1.output, Nat.le_trans h1.size h2.size, fun k hk hn => (h2.block k (Nat.lt_of_lt_of_le hk h1.size) (fun e => hn (hN k hk e))).trans (h1.block k hk hn)⟩

set_option maxRecDepth 100000 in
set_option maxHeartbeats 4000000 in
theorem rmany_c (B : Nat) (v : Value) (l : List Out) (x : Out) (w : World) (h : RB w B v l) (hl : l.length < 1000000) :
    Calls Tryd.prog 23 #[.pointer (some ⟨B, 0, none⟩), encO x] w fun e w' => e = .returned (.int .i64 (l.count x : Nat)) ∧ Ext w w' := by
  obtain ⟨p, cap, rfl, hcap, hof⟩ := OutsOf.own h.row rfl
  have c0 := h.c0
  have lB := h.lt
  unfold encO
  go_enter Tryd.func23, Tryd.ntmps23
  go_wp2_with fail
  have bx := BoxO.mk' w x 45
  have x1 : Ext w (w.alloc (.cells #[.int .i64 x.key, .int .i64 x.l.k, .int .i64 x.l.t, .int .i64 x.l.v, .int .i64 x.r.k, .int .i64 x.r.t, .int .i64 x.r.v, .bool x.hl, .bool x.hr] 45)) := (ExtM.refl _).alloc _
  generalize w.alloc (.cells #[.int .i64 x.key, .int .i64 x.l.k, .int .i64 x.l.t, .int .i64 x.l.v, .int .i64 x.r.k, .int .i64 x.r.t, .int .i64 x.r.v, .bool x.hl, .bool x.hr] 45) = w1 at *
  generalize Value.agg #[.int .i64 x.key, .int .i64 x.l.k, .int .i64 x.l.t, .int .i64 x.l.v, .int .i64 x.r.k, .int .i64 x.r.t, .int .i64 x.r.v, .bool x.hl, .bool x.hr] = V1
  clear c0
  go_loopg [5, 13] (l.length + 1) (fun kx s5 s13 wr => ∃ k : Nat, s13 = .int .i64 k ∧ k ≤ l.length ∧ l.length - k ≤ kx ∧ s5 = .int .i64 ((l.take k).count x : Nat) ∧ Ext w1 wr)
  case atStart => exact ⟨0, rfl, by omega, by omega, by simp, ExtM.refl _⟩
  case round =>
    obtain ⟨k, rfl, hk, hgk, rfl, hx⟩ := hrel
    have hxw : Ext w wr := ExtM.trans _ _ _ x1 hx
    by_cases hkl : k < l.length
    · rcases hof.of hxw with hn | ⟨g, rfl, hel⟩
      · rw [hn] at hkl; simp at hkl
      have el := hel k hkl
      have htk : l.take (k + 1) = l.take k ++ [l[k]] := List.take_succ_eq_append_getElem hkl
      have hcl : (l.take k).count x ≤ k := Nat.le_trans List.count_le_length (by simp; omega)
      have bx1 := bx.keep (hx.block _ bx.lt id)
      have hnl := bx1.lt
      have lb := el.lt
      generalize l[k] = y at *
      have HTK := Lib.hid htk
      clear htk hel
      obtain ⟨e0, e1, e2, e3, e4, e5, e6, e7, e8⟩ := id el
      obtain ⟨g0, g1, g2, g3, g4, g5, g6, g7, g8⟩ := id bx1
      have heq := fun u => eql_outs x y u
      by_cases hyx : x = y
      · have HYX := Lib.hid hyx
        rw [decide_eq_true hyx] at heq
        clear hyx
        generalize hct : (l.take k).count x = ct at *
        have HCT := Lib.hid hct
        clear hct
        go_wp2_with fail
        go_roundg (l.length - (k + 1))
        case measure => omega
        case rel =>
          refine ⟨k + 1, by go_num, by omega, Nat.le_refl _, ?_, hx.alloc _⟩
          rw [HTK.out, List.count_append, HCT.out, ← HYX.out]
          simp
      · have HYX := Lib.hid hyx
        rw [decide_eq_false hyx] at heq
        clear hyx
        generalize hct : (l.take k).count x = ct at *
        have HCT := Lib.hid hct
        clear hct
        go_wp2_with fail
        go_roundg (l.length - (k + 1))
        case measure => omega
        case rel =>
          refine ⟨k + 1, by go_num, by omega, Nat.le_refl _, ?_, hx.alloc _⟩
          rw [HTK.out, List.count_append, HCT.out, List.count_singleton, if_neg (by simpa using fun e => HYX.out e.symm)]
          rfl
    · obtain rfl : k = l.length := by omega
      rw [List.take_length]
      generalize hct : l.count x = ct at *
      have HCT := Lib.hid hct
      clear hct
      go_wp2_with fail
      go_ret
      rw [HCT.out]
      exact ⟨rfl, hxw⟩

set_option maxRecDepth 100000 in
set_option maxHeartbeats 4000000 in
theorem rapplyAdd_c (B : Nat) (v : Value) (l : List Out) (x : Out) (w : World) (h : RB w B v l) (hl : l.length < 1000000) :
    Calls Tryd.prog 21 #[.pointer (some ⟨B, 0, none⟩), encC x false] w fun e w' => e = .returned (.int .i64 0) ∧ RBUp w w' B v (l ++ [x]) := by
  have hB := h.lt
  have bx := BoxC.mk' w x false 47
  have x1 : Ext w (w.alloc (.cells #[.int .i64 x.key, .int .i64 x.l.k, .int .i64 x.l.t, .int .i64 x.l.v, .int .i64 x.r.k, .int .i64 x.r.t, .int .i64 x.r.v, .bool x.hl, .bool x.hr, .bool false] 47)) := (ExtM.refl _).alloc _
  have hs1 : (w.alloc (.cells #[.int .i64 x.key, .int .i64 x.l.k, .int .i64 x.l.t, .int .i64 x.l.v, .int .i64 x.r.k, .int .i64 x.r.t, .int .i64 x.r.v, .bool x.hl, .bool x.hr, .bool false] 47)).heap.size = w.heap.size + 1 := World.size_alloc _ _
  have h1 := h.of x1
  have hlt := fun k hk => (own_lt h.row k hk).2
  unfold encC
  go_enter Tryd.func21, Tryd.ntmps21
  go_upto_region 2 with fail
  generalize w.alloc (.cells #[.int .i64 x.key, .int .i64 x.l.k, .int .i64 x.l.t, .int .i64 x.l.v, .int .i64 x.r.k, .int .i64 x.r.t, .int .i64 x.r.v, .bool x.hl, .bool x.hr, .bool false] 47) = w1 at *
  obtain ⟨g0, g1, g2, g3, g4, g5, g6, g7, g8, g9⟩ := id bx
  have c0 := h1.c0
  have f0 := h1.f0
  have hnb : ¬ v.ownBlock = some B := h.own
  have hnx : ¬ v.ownBlock = some w.heap.size := fun e => by have := hlt _ e; omega
  have hB1 := h1.lt
  have hS1 : w.heap.size < w1.heap.size := by omega
  clear hs1
  obtain ⟨v5, w5, happ, hown, hgx, hloc⟩ := run_appendO (w1.drew.alloc (.cells #[.int .i64 x.key, .int .i64 x.l.k, .int .i64 x.l.t, .int .i64 x.l.v, .int .i64 x.r.k, .int .i64 x.r.t, .int .i64 x.r.v, .bool x.hl, .bool x.hr] 45)) 0 w1.heap.size 1 v l x 41
    (own_ext h1.row (((ExtM.refl w1).drew).alloc _) (fun _ _ h => h)) (fun j u hj => (World.cell?_alloc_at _ _ _ j (by simp)).trans (by simpa [Out.cells] using hj)) (by omega) (Nat.zero_le _)
  have hgx : ExtM (fun k => v.ownBlock = some k) _ _ := hgx
  obtain ⟨p5, c5, rfl, -⟩ := own_slice hown
  have el : (l ++ [x]).length = l.length + 1 := by simp
  rw [el] at happ hown hloc
  have hx5 : ExtM (fun k => v.ownBlock = some k) w w5 := ExtM.trans _ _ _ ((ExtM.trans _ _ _ x1 (((ExtM.refl w1).drew).alloc _)).mono (fun _ _ h => h.elim)) hgx
  have cB := (hx5.cell (p := ⟨B, 0, none⟩) hB h.own).trans h.c0
  have fB := (hx5.frozen (p := ⟨B, 0, none⟩) hB h.own).trans h.f0
  have hB5 : B < w5.heap.size := Nat.lt_of_lt_of_le hB hx5.size
  refine Plan.beginT (Plan.ExtR v.ownBlock) [11] 12 rfl (by kernel_rfl) ?_
  refine Plan.left_q 0 (by rfl) (by kernel_rfl) ?_; go_big_quiet_step (fail); refine wpQuiet_nil ?_
  refine Plan.left_q 1 (by rfl) (by kernel_rfl) ?_; go_big_quiet_step (fail); refine wpQuiet_nil ?_
  refine Plan.left_q 2 (by rfl) (by kernel_rfl) ?_; go_big_quiet_step (fail); refine wpQuiet_nil ?_
  refine Plan.left_q 3 (by rfl) (by kernel_rfl) ?_; go_big_quiet_step (fail); refine wpQuiet_nil ?_
  refine Plan.left_q 4 (by rfl) (by kernel_rfl) ?_; go_big_quiet_step (fail); refine wpQuiet_nil ?_
  refine Plan.left_q 5 (by rfl) (by kernel_rfl) ?_; go_big_quiet_step (fail); refine wpQuiet_nil ?_
  refine Plan.left_q 6 (by rfl) (by kernel_rfl) ?_; go_big_quiet_step (fail); refine wpQuiet_nil ?_
  refine Plan.left_one 7 (by kernel_rfl) (by rfl) (Plan.plain rfl fun K hK => ?_)
  go_wp2_with (fail)
  refine hK _ _ ((ExtM.refl _).alloc _) ?_
  clear hK K
  refine Plan.left_one 8 (by kernel_rfl) (by rfl) (Plan.plain rfl fun K hK => ?_)
  refine wp_append_run (happ) rfl _ _ rfl rfl rfl ?_
  refine hK _ _ (hgx) ?_
  simp only [Act.put, List.setIfInBounds_toArray, List.set_cons_succ, List.set_cons_zero]
  clear hK K
  refine Plan.left_one 9 (by kernel_rfl) (by rfl) (Plan.plain rfl fun K hK => ?_)
  go_wp2_with (fail)
  refine hK _ _ (ExtM.refl _) ?_
  clear hK K
  refine Plan.left_q 10 (by rfl) (by kernel_rfl) ?_; go_big_quiet_step (fail); refine wpQuiet_nil ?_
  refine Plan.left_one 11 (by kernel_rfl) (by rfl) (Plan.last rfl (by kernel_rfl) fun K hK => ?_)
  go_wp2_with (fail)
  refine Plan.left_done (by kernel_rfl) ?_
  go_wp2_with fail
  go_ret
  have hs5 : w.heap.size ≤ (w1.drew.alloc (.cells #[.int .i64 x.key, .int .i64 x.l.k, .int .i64 x.l.t, .int .i64 x.l.v, .int .i64 x.r.k, .int .i64 x.r.t, .int .i64 x.r.v, .bool x.hl, .bool x.hr] 45)).heap.size := by simp; omega
  have hown' : (Value.slice p5 (l.length + 1) c5).ownBlock ≠ some B := fun e => by
    rcases hloc with h2 | ⟨k, h2, h3⟩
    · exact h.own (h2 ▸ e)
    · rw [h2] at e; have := Option.some.inj e; omega
  have hxs : ExtM (fun k => k = B) w5 (w5.setCell ⟨B, 0, none⟩ (.slice p5 (l.length + 1) c5)) := ExtM.setCell (M := fun k => k = B) (ExtM.refl w5) (p := ⟨B, 0, none⟩) (.inr rfl) _
  refine ⟨rfl, ⟨_, ⟨World.cell?_setCell_same _ _ _ cB, (World.frozen?_setCell _ _ _ _).trans fB, by rw [el]; exact own_ext hown hxs (fun k hk e => hown' (e ▸ hk)), hown'⟩, ?_⟩, ?_⟩
  · rcases hloc with h2 | ⟨k, h2, h3⟩
    · exact .inl h2
    · exact .inr ⟨k, h2, by omega⟩
  · exact fresh_M (ExtM.mono hx5 (fun k _ e => .inr e)) hxs (fun k _ e => .inl e)
/-- What Apply says of one less. -/
def bagE (x : Out) (l : List Out) : Int := if x ∈ l then 0 else 8
set_option maxRecDepth 100000 in
set_option maxHeartbeats 8000000 in
theorem rapplyDel_c (B : Nat) (v : Value) (l : List Out) (x : Out) (w : World) (hRB : RB w B v l) (hl : l.length < 1000000) :
    Calls Tryd.prog 21 #[.pointer (some ⟨B, 0, none⟩), encC x true] w fun e w' => e = .returned (.int .i64 (bagE x l)) ∧ RBUp w w' B v (l.erase x) ∧ (x ∉ l → Ext w w') := by
  obtain ⟨p, cap, rfl, hcap, hof⟩ := OutsOf.own hRB.row rfl
  have hB := hRB.lt
  have c0 := hRB.c0
  have f0 := hRB.f0
  have bx := BoxC.mk' w x true 47
  have x1 : Ext w (w.alloc (.cells #[.int .i64 x.key, .int .i64 x.l.k, .int .i64 x.l.t, .int .i64 x.l.v, .int .i64 x.r.k, .int .i64 x.r.t, .int .i64 x.r.v, .bool x.hl, .bool x.hr, .bool true] 47)) := (ExtM.refl _).alloc _
  have hs1 : w.heap.size < (w.alloc (.cells #[.int .i64 x.key, .int .i64 x.l.k, .int .i64 x.l.t, .int .i64 x.l.v, .int .i64 x.r.k, .int .i64 x.r.t, .int .i64 x.r.v, .bool x.hl, .bool x.hr, .bool true] 47)).heap.size := by simp
  unfold encC
  go_enter Tryd.func21, Tryd.ntmps21
  go_wp2_with fail
  generalize w.alloc (.cells #[.int .i64 x.key, .int .i64 x.l.k, .int .i64 x.l.t, .int .i64 x.l.v, .int .i64 x.r.k, .int .i64 x.r.t, .int .i64 x.r.v, .bool x.hl, .bool x.hr, .bool true] 47) = w1 at *
  generalize Value.agg #[.int .i64 x.key, .int .i64 x.l.k, .int .i64 x.l.t, .int .i64 x.l.v, .int .i64 x.r.k, .int .i64 x.r.t, .int .i64 x.r.v, .bool x.hl, .bool x.hr, .bool true] = V1
  have C0 := Lib.hid c0
  have F0 := Lib.hid f0
  clear c0 f0
  go_loopg [26] (l.length + 1) (fun kx s26 wr => ∃ k : Nat, s26 = .int .i64 k ∧ k ≤ l.length ∧ l.length - k ≤ kx ∧ Ext w1 wr ∧ x ∉ l.take k)
  case atStart => exact ⟨0, rfl, by omega, by omega, ExtM.refl _, by simp⟩
  case round =>
    obtain ⟨k, rfl, hk, hgk, hx, hni⟩ := hrel
    have hxw : Ext w wr := ExtM.trans _ _ _ x1 hx
    by_cases hkl : k < l.length
    · have hlk : l[k]? = some l[k] := List.getElem?_eq_getElem hkl
      rcases hof.of hxw with hn | ⟨g, rfl, hel⟩
      · rw [hn] at hkl; simp at hkl
      have el := hel k hkl
      have lb := el.lt
      have bx1 : BoxC wr w.heap.size x true := bx.of hx (fun h => h)
      have hnl : w.heap.size < wr.heap.size := Nat.lt_of_lt_of_le hs1 hx.size
      generalize l[k] = y at *
      have HLK := Lib.hid hlk
      have HEL := Lib.hid hel
      clear hlk hel
      have heq := fun u => eql_outs y x u
      obtain ⟨e0, e1, e2, e3, e4, e5, e6, e7, e8⟩ := id el
      obtain ⟨g0, g1, g2, g3, g4, g5, g6, g7, g8, g9⟩ := id bx1
      by_cases hyx : y = x
      · have HYX := Lib.hid hyx
        rw [decide_eq_true hyx] at heq
        clear hyx
        go_upto_region 8 with fail
        have hxd : Ext w (wr.alloc (.cells #[.int .i64 y.key, .int .i64 y.l.k, .int .i64 y.l.t, .int .i64 y.l.v, .int .i64 y.r.k, .int .i64 y.r.t, .int .i64 y.r.v, .bool y.hl, .bool y.hr] 45)) := hxw.alloc _
        have HEL2 : ∀ i (hi : i < l.length), ElemAt (wr.alloc (.cells #[.int .i64 y.key, .int .i64 y.l.k, .int .i64 y.l.t, .int .i64 y.l.v, .int .i64 y.r.k, .int .i64 y.r.t, .int .i64 y.r.v, .bool y.hl, .bool y.hr] 45)) g (i * 9) (l[i]'hi) := fun i hi => (HEL.out i hi).of ((ExtM.refl wr).alloc _)
        have hgd : g < (wr.alloc (.cells #[.int .i64 y.key, .int .i64 y.l.k, .int .i64 y.l.t, .int .i64 y.l.v, .int .i64 y.r.k, .int .i64 y.r.t, .int .i64 y.r.v, .bool y.hl, .bool y.hr] 45)).heap.size := Nat.lt_of_lt_of_le lb (by simp)
        clear e0 e1 e2 e3 e4 e5 e6 e7 e8 g0 g1 g2 g3 g4 g5 g6 g7 g8 g9 heq el bx1 bx hx hxw lb hnl HEL hof hs1 x1
        generalize wr.alloc (.cells #[.int .i64 y.key, .int .i64 y.l.k, .int .i64 y.l.t, .int .i64 y.l.v, .int .i64 y.r.k, .int .i64 y.r.t, .int .i64 y.r.v, .bool y.hl, .bool y.hr] 45) = wd at *
        have hEd : ∀ i (hi : i < l.length), ElemAt wd.drew g (i * 9) (l[i]'hi) := fun i hi => (HEL2 i hi).of ((ExtM.refl wd).drew)
        have h5 := run_appendOs (wd.drew.alloc (.cells #[] 45)) wd.heap.size (.slice (some ⟨wd.heap.size, 0, none⟩) 0 0) [] (l.take k) ⟨g, 0, none⟩ cap 41
          ⟨rfl, .inr ⟨wd.heap.size, 0, #[], rfl, Nat.le_refl _, heap_alloc_new _ _, Nat.le_refl _, by unfold maxLen; decide, rfl, rfl⟩⟩
          (fun j u hj => by
            have e1 : (⟨g, 0, none⟩ : Addr).add j = ⟨g, 0 * 9 + j, none⟩ := by unfold Addr.add; split <;> simp_all
            rw [e1]
            have := ocells_at hEd (l.take k) 0 (fun i hi => by rw [Nat.zero_add, List.getElem?_take_of_lt (by rw [List.length_take] at hi; omega)]) j u hj
            rw [World.cell?_alloc_lt _ _ _ (show g < wd.drew.heap.size from hgd)]
            exact this)
          (by rw [List.length_take]; simp; omega) (by rw [World.size_alloc]; exact Nat.le_succ _)
        obtain ⟨p1, n1, c1, W1, happ1, hown1, hgr1, hloc1⟩ := h5
        rw [List.length_take, Nat.min_eq_left hk] at happ1
        have hs0 : wd.heap.size ≤ (wd.drew.alloc (.cells #[] 45)).heap.size := by rw [World.size_alloc]; exact Nat.le_succ _
        have X1 : Plan.ExtF wd.heap.size (wd.drew.alloc (.cells #[] 45)) W1 := ExtF.grown (ExtF.refl _) hgr1 (fun k h => .inr (by
          have := Option.some.inj h
          simp at this; omega))
        have X01 : Ext wd W1 := ExtF.ext (ExtF.trans _ _ _ (((ExtF.refl wd).drew).alloc _) X1) (Nat.le_refl _)
        have hsW : wd.heap.size ≤ W1.heap.size := X01.size
        have hE1 : ∀ i (hi : i < l.length), ElemAt W1 g (i * 9) (l[i]'hi) := fun i hi => (HEL2 i hi).of X01
        have hwB : w.heap.size ≤ wd.heap.size := hxd.size
        have hacc : ([] ++ l.take k).length + (l.drop (k + 1)).length < 1000000000 := by simp [List.length_take, List.length_drop]; omega
        have hin : x ∈ l := HYX.out ▸ List.mem_of_getElem? HLK.out
        have herr : l.erase x = [] ++ l.take k ++ l.drop (k + 1) := by rw [List.nil_append]; exact erase_at (by rw [HLK.out, HYX.out]) hni
        have HIN : Hid (bagE x l = 0) := Lib.hid (if_pos hin)
        have HERR := Lib.hid herr
        have HS1 : Hid (∃ k, (Value.slice p1 n1 c1).ownBlock = some k) := Lib.hid (hloc1.elim (fun h => ⟨_, h⟩) (fun h => ⟨_, h⟩))
        clear hin herr hgr1 hloc1 hEd HEL2
        by_cases hc : k + 1 = cap
        · have h10 := run_appendOs W1 wd.heap.size (.slice p1 n1 c1) ([] ++ l.take k) (l.drop (k + 1)) ⟨g, 0, none⟩ 0 41 hown1 (fun j u hj => by
            have : l.drop (k + 1) = [] := List.drop_eq_nil_of_le (by omega)
            rw [this] at hj; simp at hj) hacc hsW
          obtain ⟨p2, n2, c2, W2, happ2, hown2, hgr2, hloc2⟩ := h10
          rw [List.length_drop, show l.length - (k + 1) = 0 by omega] at happ2
          subst hc
          have X2 : Plan.ExtF wd.heap.size W1 W2 := ExtF.grown (ExtF.refl _) hgr2 (fun k h => .inr (by
            rcases hown1.2 with ⟨h1, -⟩ | ⟨g', cap', cur, h1, hbase, -⟩
            · rw [h1] at h; cases h
            · rw [h1] at h
              have := Option.some.inj h
              simp at this; omega))
          have X02 : Ext w W2 := ExtM.trans _ _ _ hxd (ExtF.ext (ExtF.trans _ _ _ (ExtF.of_ext X01) X2) (Nat.le_refl _))
          have cB : W2.cell? ⟨B, 0, none⟩ = some (.slice (some ⟨g, 0, none⟩) l.length _) := (X02.cell (p := ⟨B, 0, none⟩) hB id).trans C0.out
          have fB : W2.frozen? ⟨B, 0, none⟩ = false := (X02.frozen (p := ⟨B, 0, none⟩) hB id).trans F0.out
          have c0 : wd.cell? ⟨B, 0, none⟩ = some (.slice (some ⟨g, 0, none⟩) l.length _) := (hxd.cell (p := ⟨B, 0, none⟩) hB id).trans C0.out
          have hBd : B < wd.heap.size := Nat.lt_of_lt_of_le hB hxd.size
          have hBW : B < W2.heap.size := Nat.lt_of_lt_of_le hB X02.size
          have HS2 : Hid (∃ k, (Value.slice p2 n2 c2).ownBlock = some k) := Lib.hid (hloc2.elim (fun h => HS1.out.elim fun k hk => ⟨k, h.trans hk⟩) (fun h => ⟨_, h⟩))
          clear hgr2 hloc2
          refine Plan.beginT (Plan.ExtF wd.heap.size) [19] 20 rfl (by kernel_rfl) ?_
          refine Plan.left_q 0 (by rfl) (by kernel_rfl) ?_; go_big_quiet_step (fail); refine wpQuiet_nil ?_
          refine Plan.left_q 2 (by rfl) (by kernel_rfl) ?_; go_big_quiet_step (fail); refine wpQuiet_nil ?_
          refine Plan.left_q 3 (by rfl) (by kernel_rfl) ?_; go_big_quiet_step (fail); refine wpQuiet_nil ?_
          refine Plan.left_q 4 (by rfl) (by kernel_rfl) ?_; go_big_quiet_step (fail); refine wpQuiet_nil ?_
          refine Plan.left_q 5 (by rfl) (by kernel_rfl) ?_; go_big_quiet_step (fail); refine wpQuiet_nil ?_
          refine Plan.left_q 6 (by rfl) (by kernel_rfl) ?_; go_big_quiet_step (fail); refine wpQuiet_nil ?_
          refine Plan.left_q 7 (by rfl) (by kernel_rfl) ?_; go_big_quiet_step (fail); refine wpQuiet_nil ?_
          refine Plan.left_q 9 (by rfl) (by kernel_rfl) ?_; go_big_quiet_step (fail); refine wpQuiet_nil ?_
          refine Plan.left_q 10 (by rfl) (by kernel_rfl) ?_; go_big_quiet_step (fail); refine wpQuiet_nil ?_
          refine Plan.left_q 11 (by rfl) (by kernel_rfl) ?_; go_big_quiet_step (fail); refine wpQuiet_nil ?_
          refine Plan.left_q 12 (by rfl) (by kernel_rfl) ?_; go_big_quiet_step (fail); refine wpQuiet_nil ?_
          refine Plan.left_q 13 (by rfl) (by kernel_rfl) ?_; go_big_quiet_step (fail); refine wpQuiet_nil ?_
          refine Plan.left_q 14 (by rfl) (by kernel_rfl) ?_; go_big_quiet_step (fail); refine wpQuiet_nil ?_
          refine Plan.left_q 15 (by rfl) (by kernel_rfl) ?_; go_big_quiet_step (fail); refine wpQuiet_nil ?_
          refine Plan.left_one 1 (by kernel_rfl) (by rfl) (Plan.plain rfl fun K hK => ?_)
          go_wp2_with (fail)
          refine hK _ _ ((ExtF.refl _).alloc _) ?_
          clear hK K
          refine Plan.left_one 8 (by kernel_rfl) (by rfl) (Plan.plain rfl fun K hK => ?_)
          refine wp_append_run (happ1) rfl _ _ rfl rfl rfl ?_
          refine hK _ _ (X1) ?_
          simp only [Act.put, List.setIfInBounds_toArray, List.set_cons_succ, List.set_cons_zero]
          clear hK K
          refine Plan.left_one 16 (by kernel_rfl) (by rfl) (Plan.plain rfl fun K hK => ?_)
          refine wp_append_run (happ2) rfl _ _ rfl rfl rfl ?_
          refine hK _ _ (X2) ?_
          simp only [Act.put, List.setIfInBounds_toArray, List.set_cons_succ, List.set_cons_zero]
          clear hK K
          refine Plan.left_one 17 (by kernel_rfl) (by rfl) (Plan.plain rfl fun K hK => ?_)
          go_wp2_with (fail)
          refine hK _ _ (ExtF.refl _) ?_
          clear hK K
          refine Plan.left_q 18 (by rfl) (by kernel_rfl) ?_; go_big_quiet_step (fail); refine wpQuiet_nil ?_
          refine Plan.left_one 19 (by kernel_rfl) (by rfl) (Plan.last rfl (by kernel_rfl) fun K hK => ?_)
          go_wp2_with (fail)
          refine Plan.left_done (by kernel_rfl) ?_
          go_wp2_with fail
          go_ret
          rw [HIN.out, HERR.out]
          have hbn : ∀ k, (Value.slice p2 n2 c2).ownBlock = some k → wd.heap.size ≤ k := fun k hk => by
            rcases hown2.2 with ⟨h1, -⟩ | ⟨g', cap', cur, h1, hbase, -⟩
            · rw [h1] at hk; cases hk
            · rw [h1] at hk
              have := Option.some.inj hk
              simp at this; omega
          have hxs : ExtM (fun k => k = B) W2 (W2.setCell ⟨B, 0, none⟩ (.slice p2 n2 c2)) := ExtM.setCell (M := fun k => k = B) (ExtM.refl W2) (p := ⟨B, 0, none⟩) (.inr rfl) _
          have hwd : w.heap.size ≤ wd.heap.size := hxd.size
          refine ⟨rfl, ⟨⟨.slice p2 n2 c2, ⟨World.cell?_setCell_same _ _ _ cB, (World.frozen?_setCell _ _ _ _).trans fB, own_ext (own_weaken hown2 (Nat.zero_le _)) hxs (fun k hk e => by have := hbn k hk; omega), fun e => by have := hbn _ e; omega⟩, ?_⟩, fresh_M (ExtM.mono X02 (fun _ _ h => h.elim)) hxs (fun k _ e => .inl e)⟩, fun hn => by have := HIN.out; rw [show bagE x l = 8 from if_neg hn] at this; cases this⟩
          cases ho : (Value.slice p2 n2 c2).ownBlock with
          | none => obtain ⟨k, hk⟩ := HS2.out; rw [ho] at hk; cases hk
          | some k => exact .inr ⟨k, rfl, Nat.le_trans hwd (hbn k ho)⟩
        · have h10 := run_appendOs W1 wd.heap.size (.slice p1 n1 c1) ([] ++ l.take k) (l.drop (k + 1)) ⟨g, (k + 1) * 9, none⟩ (cap - (k + 1)) 41 hown1 (fun j u hj => by
            have e1 : (⟨g, (k + 1) * 9, none⟩ : Addr).add j = ⟨g, (k + 1) * 9 + j, none⟩ := by unfold Addr.add; split <;> simp_all
            rw [e1]
            exact ocells_at hE1 (l.drop (k + 1)) (k + 1) (fun i hi => by rw [List.getElem?_drop]) j u hj) hacc hsW
          obtain ⟨p2, n2, c2, W2, happ2, hown2, hgr2, hloc2⟩ := h10
          rw [List.length_drop] at happ2
          have X2 : Plan.ExtF wd.heap.size W1 W2 := ExtF.grown (ExtF.refl _) hgr2 (fun k h => .inr (by
            rcases hown1.2 with ⟨h1, -⟩ | ⟨g', cap', cur, h1, hbase, -⟩
            · rw [h1] at h; cases h
            · rw [h1] at h
              have := Option.some.inj h
              simp at this; omega))
          have X02 : Ext w W2 := ExtM.trans _ _ _ hxd (ExtF.ext (ExtF.trans _ _ _ (ExtF.of_ext X01) X2) (Nat.le_refl _))
          have cB : W2.cell? ⟨B, 0, none⟩ = some (.slice (some ⟨g, 0, none⟩) l.length _) := (X02.cell (p := ⟨B, 0, none⟩) hB id).trans C0.out
          have fB : W2.frozen? ⟨B, 0, none⟩ = false := (X02.frozen (p := ⟨B, 0, none⟩) hB id).trans F0.out
          have c0 : wd.cell? ⟨B, 0, none⟩ = some (.slice (some ⟨g, 0, none⟩) l.length _) := (hxd.cell (p := ⟨B, 0, none⟩) hB id).trans C0.out
          have hBd : B < wd.heap.size := Nat.lt_of_lt_of_le hB hxd.size
          have hBW : B < W2.heap.size := Nat.lt_of_lt_of_le hB X02.size
          have HS2 : Hid (∃ k, (Value.slice p2 n2 c2).ownBlock = some k) := Lib.hid (hloc2.elim (fun h => HS1.out.elim fun k hk => ⟨k, h.trans hk⟩) (fun h => ⟨_, h⟩))
          clear hgr2 hloc2
          refine Plan.beginT (Plan.ExtF wd.heap.size) [19] 20 rfl (by kernel_rfl) ?_
          refine Plan.left_q 0 (by rfl) (by kernel_rfl) ?_; go_big_quiet_step (fail); refine wpQuiet_nil ?_
          refine Plan.left_q 2 (by rfl) (by kernel_rfl) ?_; go_big_quiet_step (fail); refine wpQuiet_nil ?_
          refine Plan.left_q 3 (by rfl) (by kernel_rfl) ?_; go_big_quiet_step (fail); refine wpQuiet_nil ?_
          refine Plan.left_q 4 (by rfl) (by kernel_rfl) ?_; go_big_quiet_step (fail); refine wpQuiet_nil ?_
          refine Plan.left_q 5 (by rfl) (by kernel_rfl) ?_; go_big_quiet_step (fail); refine wpQuiet_nil ?_
          refine Plan.left_q 6 (by rfl) (by kernel_rfl) ?_; go_big_quiet_step (fail); refine wpQuiet_nil ?_
          refine Plan.left_q 7 (by rfl) (by kernel_rfl) ?_; go_big_quiet_step (fail); refine wpQuiet_nil ?_
          refine Plan.left_q 9 (by rfl) (by kernel_rfl) ?_; go_big_quiet_step (fail); refine wpQuiet_nil ?_
          refine Plan.left_q 10 (by rfl) (by kernel_rfl) ?_; go_big_quiet_step (fail); refine wpQuiet_nil ?_
          refine Plan.left_q 11 (by rfl) (by kernel_rfl) ?_; go_big_quiet_step (fail); refine wpQuiet_nil ?_
          refine Plan.left_q 12 (by rfl) (by kernel_rfl) ?_; go_big_quiet_step (fail); refine wpQuiet_nil ?_
          refine Plan.left_q 13 (by rfl) (by kernel_rfl) ?_; go_big_quiet_step (fail); refine wpQuiet_nil ?_
          refine Plan.left_q 14 (by rfl) (by kernel_rfl) ?_; go_big_quiet_step (fail); refine wpQuiet_nil ?_
          refine Plan.left_q 15 (by rfl) (by kernel_rfl) ?_; go_big_quiet_step (fail); refine wpQuiet_nil ?_
          refine Plan.left_one 1 (by kernel_rfl) (by rfl) (Plan.plain rfl fun K hK => ?_)
          go_wp2_with (fail)
          refine hK _ _ ((ExtF.refl _).alloc _) ?_
          clear hK K
          refine Plan.left_one 8 (by kernel_rfl) (by rfl) (Plan.plain rfl fun K hK => ?_)
          refine wp_append_run (happ1) rfl _ _ rfl rfl rfl ?_
          refine hK _ _ (X1) ?_
          simp only [Act.put, List.setIfInBounds_toArray, List.set_cons_succ, List.set_cons_zero]
          clear hK K
          refine Plan.left_one 16 (by kernel_rfl) (by rfl) (Plan.plain rfl fun K hK => ?_)
          refine wp_append_run (happ2) rfl _ _ rfl rfl rfl ?_
          refine hK _ _ (X2) ?_
          simp only [Act.put, List.setIfInBounds_toArray, List.set_cons_succ, List.set_cons_zero]
          clear hK K
          refine Plan.left_one 17 (by kernel_rfl) (by rfl) (Plan.plain rfl fun K hK => ?_)
          go_wp2_with (fail)
          refine hK _ _ (ExtF.refl _) ?_
          clear hK K
          refine Plan.left_q 18 (by rfl) (by kernel_rfl) ?_; go_big_quiet_step (fail); refine wpQuiet_nil ?_
          refine Plan.left_one 19 (by kernel_rfl) (by rfl) (Plan.last rfl (by kernel_rfl) fun K hK => ?_)
          go_wp2_with (fail)
          refine Plan.left_done (by kernel_rfl) ?_
          go_wp2_with fail
          go_ret
          rw [HIN.out, HERR.out]
          have hbn : ∀ k, (Value.slice p2 n2 c2).ownBlock = some k → wd.heap.size ≤ k := fun k hk => by
            rcases hown2.2 with ⟨h1, -⟩ | ⟨g', cap', cur, h1, hbase, -⟩
            · rw [h1] at hk; cases hk
            · rw [h1] at hk
              have := Option.some.inj hk
              simp at this; omega
          have hxs : ExtM (fun k => k = B) W2 (W2.setCell ⟨B, 0, none⟩ (.slice p2 n2 c2)) := ExtM.setCell (M := fun k => k = B) (ExtM.refl W2) (p := ⟨B, 0, none⟩) (.inr rfl) _
          have hwd : w.heap.size ≤ wd.heap.size := hxd.size
          refine ⟨rfl, ⟨⟨.slice p2 n2 c2, ⟨World.cell?_setCell_same _ _ _ cB, (World.frozen?_setCell _ _ _ _).trans fB, own_ext (own_weaken hown2 (Nat.zero_le _)) hxs (fun k hk e => by have := hbn k hk; omega), fun e => by have := hbn _ e; omega⟩, ?_⟩, fresh_M (ExtM.mono X02 (fun _ _ h => h.elim)) hxs (fun k _ e => .inl e)⟩, fun hn => by have := HIN.out; rw [show bagE x l = 8 from if_neg hn] at this; cases this⟩
          cases ho : (Value.slice p2 n2 c2).ownBlock with
          | none => obtain ⟨k, hk⟩ := HS2.out; rw [ho] at hk; cases hk
          | some k => exact .inr ⟨k, rfl, Nat.le_trans hwd (hbn k ho)⟩
      · have HYX := Lib.hid hyx
        rw [decide_eq_false hyx] at heq
        clear hyx
        go_wp2_with fail
        go_roundg (l.length - (k + 1))
        case measure => omega
        case rel =>
          refine ⟨k + 1, by go_num, by omega, Nat.le_refl _, hx.alloc _, ?_⟩
          obtain ⟨hk', hk2⟩ := List.getElem?_eq_some_iff.1 HLK.out
          rw [List.take_succ_eq_append_getElem hk', hk2]
          simp only [List.mem_append, List.mem_singleton, not_or]
          exact ⟨hni, fun e => HYX.out e.symm⟩
    · obtain rfl : k = l.length := by omega
      rw [List.take_length] at hni
      have HNI := Lib.hid hni
      clear hni
      go_wp2_with fail
      go_ret
      rw [List.erase_of_not_mem HNI.out, show bagE x l = 8 from if_neg HNI.out]
      exact ⟨rfl, ⟨⟨_, RB.of hRB hxw, .inl rfl⟩, ExtM.mono hxw (fun _ _ h => h.elim)⟩, fun _ => hxw⟩
end Go.Proofs.YtggjceolhbdalaaDoor
