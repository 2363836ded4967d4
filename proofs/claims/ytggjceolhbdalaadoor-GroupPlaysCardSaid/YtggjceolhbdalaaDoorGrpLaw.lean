/- What the law GroupPlays calls of its own: sameGroups, drop. -/
import Derived.Test.YtggjceolhbdalaaDoorRefGrps
namespace Go.Proofs.YtggjceolhbdalaaDoor
open Go.RowKit Go.Plan

theorem neq_grp (a : GRow) (w : World) : (binOp .neq 52 (.agg #[.int .i64 a.key, .int .i64 a.cnt, .int .i64 a.sum, .int .i64 a.least, .int .i64 a.most, .bool a.some]) (.agg #[.int .i64 a.key, .int .i64 a.cnt, .int .i64 a.sum, .int .i64 a.least, .int .i64 a.most, .bool a.some])).run Tryd.prog w = .ok (.bool false) w := by
  obtain ⟨a1, a2, a3, a4, a5, a6⟩ := a
  go_simp

set_option maxRecDepth 100000 in
set_option maxHeartbeats 4000000 in
theorem sameGroups_c (p1 p2 : Option Addr) (c1 c2 : Nat) (rows : List GRow) (w : World) (h1 : GrpsOf w p1 rows) (h2 : GrpsOf w p2 rows) (hl : rows.length < 1000000000) :
    Calls Tryd.prog 17 #[.slice p1 rows.length c1, .slice p2 rows.length c2] w fun e w' => e = .returned (.bool true) ∧ Ext w w' := by
  generalize hn : rows.length = n at *
  have HN := Lib.hid hn
  clear hn
  go_enter Tryd.func17, Tryd.ntmps17
  go_wp2_with fail
  go_loopw [5] (fun i wr => ∃ (k : Nat), k ≤ n ∧ i = .int .i64 k ∧ Ext w wr) (fun i _ => n - (intOf i).toNat)
  case atStart => exact ⟨0, Nat.zero_le _, rfl, ExtM.refl _⟩
  case round =>
    obtain ⟨k, hk, rfl, hx⟩ := hrel
    by_cases hkl : k < n
    · have hd : decide ((k : Int) < n) = true := by simp; omega
      have hks : k < rows.length := by rw [HN.out]; exact hkl
      rcases h1.of hx with ho1 | ⟨b1, rfl, ho1⟩
      · rw [ho1] at hks; simp at hks
      rcases h2.of hx with ho2 | ⟨b2, rfl, ho2⟩
      · rw [ho2] at hks; simp at hks
      have el1 := ho1 k hks
      have el2 := ho2 k hks
      have lb1 := el1.lt
      have lb2 := el2.lt
      generalize rows[k] = y at el1 el2
      have hne := fun u => neq_grp y u
      obtain ⟨e0, e1, e2, e3, e4, e5⟩ := id el1
      obtain ⟨g0, g1, g2, g3, g4, g5⟩ := id el2
      clear el1 el2 ho1 ho2 hks h1 h2
      go_wp2_with fail
      refine Plan.begin Plan.Ext 9 rfl (by kernel_rfl) ?_
      refine Plan.left_q 0 (by rfl) (by kernel_rfl) ?_; go_big_quiet_step (fail); refine wpQuiet_nil ?_
      refine Plan.left_q 1 (by rfl) (by kernel_rfl) ?_; go_big_quiet_step (fail); refine wpQuiet_nil ?_
      refine Plan.left_q 2 (by rfl) (by kernel_rfl) ?_; go_big_quiet_step (fail); refine wpQuiet_nil ?_
      refine Plan.left_q 3 (by rfl) (by kernel_rfl) ?_; go_big_quiet_step (fail); refine wpQuiet_nil ?_
      refine Plan.left_q 4 (by rfl) (by kernel_rfl) ?_; go_big_quiet_step (fail); refine wpQuiet_nil ?_
      refine Plan.left_q 5 (by rfl) (by kernel_rfl) ?_; go_big_quiet_step (fail); refine wpQuiet_nil ?_
      refine Plan.left_q 6 (by rfl) (by kernel_rfl) ?_; go_big_quiet_step (fail); refine wpQuiet_nil ?_
      refine Plan.left_q 7 (by rfl) (by kernel_rfl) ?_; go_big_quiet_step (fail); refine wpQuiet_nil ?_
      refine Plan.left_q 8 (by rfl) (by kernel_rfl) ?_; go_big_quiet_step (fail); refine wpQuiet_nil ?_
      refine Plan.left_done (by kernel_rfl) ?_
      clear e0 e1 e2 e3 e4 e5 g0 g1 g2 g3 g4 g5 hne
      go_wp2_with fail
      go_roundw
      case rel => exact ⟨k + 1, by omega, by go_num, hx.drew⟩
      case measure => simp [intOf]; omega
    · obtain rfl : k = n := by omega
      have hd : decide ((k : Int) < k) = false := by simp
      go_wp2_with fail
      go_ret
      exact ⟨rfl, hx⟩

theorem eql_out (a b : Out) (w : World) : (binOp .eql 45 (.agg #[.int .i64 a.key, .int .i64 a.l.k, .int .i64 a.l.t, .int .i64 a.l.v, .int .i64 a.r.k, .int .i64 a.r.t, .int .i64 a.r.v, .bool a.hl, .bool a.hr]) (.agg #[.int .i64 b.key, .int .i64 b.l.k, .int .i64 b.l.t, .int .i64 b.l.v, .int .i64 b.r.k, .int .i64 b.r.t, .int .i64 b.r.v, .bool b.hl, .bool b.hr])).run Tryd.prog w = .ok (.bool (decide (a = b))) w := by
  obtain ⟨a1, ⟨a2, a3, a4⟩, ⟨a5, a6, a7⟩, a8, a9⟩ := a
  obtain ⟨b1, ⟨b2, b3, b4⟩, ⟨b5, b6, b7⟩, b8, b9⟩ := b
  go_simp
  (repeat' split) <;> simp_all

/-- An append whose run is known, at a step of a region that draws. -/
theorem wp_append_run {P : Program} {w w' : World} {o : Oper} {a : Act} {K : Act → World → Prop} {Q : Exit → Act → World → Prop} {t ty : TypeId} {v x v' : Value} (hr : (Builtin.append_ #[t, t] ty #[v, x]).run P w = .ok v' w') (hty : o.type = ty) (so xo : Operand)
    (ho : o.op = .call { callee := .builtin .append, args := #[so, xo], argTypes := #[t, t] }) (hs : a.eval so = v) (hx : a.eval xo = x) (h : K (a.put o.dst v') w') : o.wp P a w K Q := by
  subst hty
  unfold Oper.wp execOp
  simp only [ho, resolve, invoke, builtin, Sem.run_bind, Sem.run_pure, Result.andThen_ok, List.map_toArray, List.map_cons, List.map_nil, hs, hx, hr]
  exact h

theorem infoOut' : (Tryd.prog.info? 45).map (fun i => (i.zero, i.size, i.bytes)) = some (some (encO ⟨0, ⟨0, 0, 0⟩, ⟨0, 0, 0⟩, false, false⟩), 9, 64) := by kernel_rfl
theorem ocells_one (x : Out) : ∀ v ∈ x.cells, v.oneCell' = true := by
  intro v hv
  simp only [Out.cells, List.mem_cons, List.not_mem_nil, or_false] at hv
  rcases hv with rfl | rfl | rfl | rfl | rfl | rfl | rfl | rfl | rfl <;> rfl
theorem ocells_len (l : List Out) : (l.flatMap Out.cells).length = l.length * 9 := by
  induction l with
  | nil => rfl
  | cons x r ih => rw [List.flatMap_cons, List.length_append, ih, List.length_cons]; have : x.cells.length = 9 := rfl; omega

theorem ocells_get (l : List Out) (i c : Nat) (hi : i < l.length) (hc : c < 9) : (l.flatMap Out.cells)[i * 9 + c]? = (l[i]'hi).cells[c]? := by
  induction l generalizing i with
  | nil => simp at hi
  | cons x r ih =>
    rw [List.flatMap_cons]
    have hx : x.cells.length = 9 := rfl
    cases i with
    | zero => rw [List.getElem?_append_left (by rw [hx]; omega)]; simp
    | succ i =>
      rw [List.getElem?_append_right (by rw [hx]; omega), hx]
      have := ih i (by simpa using hi)
      rw [show (i + 1) * 9 + c - 9 = i * 9 + c by omega, this]
      simp

/-- 'append(v, ys...)' of Outs. -/
theorem run_appendOs (W : World) (base : Nat) (v : Value) (acc ys : List Out) (a : Addr) (c : Nat) (ty : TypeId) (hown : W.ownsRow base 45 9 v acc.length (acc.flatMap Out.cells))
    (hx : ∀ j u, (ys.flatMap Out.cells)[j]? = some u → W.cell? (a.add j) = some u) (hl : acc.length + ys.length < 1000000000) (hb : base ≤ W.heap.size) :
    ∃ p n cap w', (Builtin.append_ #[41, 41] ty #[v, .slice (some a) ys.length c]).run Tryd.prog W = .ok (.slice p n cap) w' ∧ w'.ownsRow base 45 9 (.slice p n cap) (acc ++ ys).length ((acc ++ ys).flatMap Out.cells) ∧ W.grownBy w' v.ownBlock ∧
      ((Value.slice p n cap).ownBlock = v.ownBlock ∨ (Value.slice p n cap).ownBlock = some W.heap.size) := by
  obtain ⟨i0, hi, hz0, hz1, hz2⟩ := info_parts infoOut'
  obtain ⟨v', w', h1, h2, h3, -, h5⟩ := run_append_own_at (P := Tryd.prog) W base 41 ty 45 i0 (encO ⟨0, ⟨0, 0, 0⟩, ⟨0, 0, 0⟩, false, false⟩) 9 64 Tryd.underlying41 hi hz0 hz1 hz2 rfl (by decide) v acc.length _ hown a ys.length c (ys.flatMap Out.cells) (ocells_len ys)
    hx (by
      intro v hv
      obtain ⟨x, -, hx⟩ := List.mem_flatMap.1 hv
      exact ocells_one x v hx) (by unfold maxLen; omega) (by omega) hb
  have hsl : ∃ p n cap, v' = .slice p n cap := by
    rcases h2.2 with ⟨h, -⟩ | ⟨g, cap, cur, h, -⟩
    · exact ⟨_, _, _, h⟩
    · exact ⟨_, _, _, h⟩
  obtain ⟨p, n, cap, rfl⟩ := hsl
  refine ⟨p, n, cap, w', h1, ?_, h3, h5⟩
  rw [List.flatMap_append, List.length_append]
  exact h2
/-- Cells of a slice that holds Outs, from the k-th on. -/
theorem ocells_at {w : World} {b : Nat} {l : List Out} (h : ∀ i (hi : i < l.length), ElemAt w b (i * 9) (l[i]'hi)) (ys : List Out) (k : Nat) (hy : ∀ i, i < ys.length → l[k + i]? = ys[i]?) (j : Nat) (u : Value) (hj : (ys.flatMap Out.cells)[j]? = some u) : w.cell? ⟨b, k * 9 + j, none⟩ = some u := by
  have hjl : j < ys.length * 9 := by rw [← ocells_len]; exact (List.getElem?_eq_some_iff.1 hj).1
  have hi : j / 9 < ys.length := by omega
  have hk := hy (j / 9) hi
  rw [List.getElem?_eq_getElem hi] at hk
  obtain ⟨hkl, he⟩ := List.getElem?_eq_some_iff.1 hk
  have el := h (k + j / 9) hkl
  rw [he] at el
  have hc := ocells_get ys (j / 9) (j % 9) hi (Nat.mod_lt _ (by decide))
  rw [show j / 9 * 9 + j % 9 = j by omega, hj] at hc
  have ha : k * 9 + j = (k + j / 9) * 9 + j % 9 := by omega
  rw [ha]
  have hm : j % 9 < 9 := Nat.mod_lt _ (by decide)
  generalize ys[j / 9] = y at *
  match hq : j % 9, hm with
  | 0, _ => rw [hq] at hc; rw [hc]; exact el.e0
  | 1, _ => rw [hq] at hc; rw [hc]; exact el.e1
  | 2, _ => rw [hq] at hc; rw [hc]; exact el.e2
  | 3, _ => rw [hq] at hc; rw [hc]; exact el.e3
  | 4, _ => rw [hq] at hc; rw [hc]; exact el.e4
  | 5, _ => rw [hq] at hc; rw [hc]; exact el.e5
  | 6, _ => rw [hq] at hc; rw [hc]; exact el.e6
  | 7, _ => rw [hq] at hc; rw [hc]; exact el.e7
  | 8, _ => rw [hq] at hc; rw [hc]; exact el.e8

/-- The first one that is x goes. -/
theorem erase_at {l : List Out} {k : Nat} {x : Out} (h : l[k]? = some x) (hn : x ∉ l.take k) : l.erase x = l.take k ++ l.drop (k + 1) := by
  have e : l = l.take k ++ x :: l.drop (k + 1) := by
    obtain ⟨hk, rfl⟩ := List.getElem?_eq_some_iff.1 h
    have e := List.take_append_drop k l
    rw [List.drop_eq_getElem_cons hk] at e
    exact e.symm
  generalize l.take k = a at *
  generalize l.drop (k + 1) = b at *
  subst e
  rw [List.erase_append_right _ hn, List.erase_cons_head]

/-- What 'drop' leaves: the slice that is told by a pointer has x no more. -/
def Dropped (w w' : World) (B N : Nat) (l : List Out) (x : Out) : Prop :=
  (x ∉ l ∧ Ext w w') ∨ (x ∈ l ∧ ∃ v', ExtB B w w' ∧ w'.cell? ⟨B, 0, none⟩ = some v' ∧ w'.frozen? ⟨B, 0, none⟩ = false ∧ w'.ownsRow N 45 9 v' (l.erase x).length ((l.erase x).flatMap Out.cells))

theorem OutsOf.own {w : World} {base n : Nat} {e : TypeId} {v : Value} {l : List Out} (h : w.ownsRow base e 9 v n (l.flatMap Out.cells)) (hn : n = l.length) : ∃ p cap, v = .slice p l.length cap ∧ l.length ≤ cap ∧ OutsOf w p l := by
  subst hn
  obtain ⟨hl, hr⟩ := h
  rcases hr with ⟨rfl, h0⟩ | ⟨g, cap, cur, rfl, hbase, hb, h1, h2, h3, h4⟩
  · exact ⟨none, 0, by rw [h0], by omega, .inl (List.eq_nil_of_length_eq_zero h0)⟩
  · refine ⟨_, cap, rfl, h1, .inr ⟨g, rfl, fun i hi => ?_⟩⟩
    have r : ∀ c, c < 9 → w.cell? ⟨g, i * 9 + c, none⟩ = (l[i]'hi).cells[c]? := fun c hc => by
      have e1 := ocells_get l i c hi hc
      rw [← h4, List.getElem?_take_of_lt (by omega), Array.getElem?_toList] at e1
      simpa [World.cell?, hb] using e1
    exact ⟨r 0 (by omega), r 1 (by omega), r 2 (by omega), r 3 (by omega), r 4 (by omega), r 5 (by omega), r 6 (by omega), r 7 (by omega), r 8 (by omega)⟩

theorem ownsRow_weaken {w : World} {b b' n sz : Nat} {e : TypeId} {v : Value} {xs : List Value} (h : w.ownsRow b e sz v n xs) (hb : b' ≤ b) : w.ownsRow b' e sz v n xs := by
  obtain ⟨h1, h2⟩ := h
  refine ⟨h1, ?_⟩
  rcases h2 with h2 | ⟨g, cap, cur, e1, e2, e3⟩
  · exact .inl h2
  · exact .inr ⟨g, cap, cur, e1, by omega, e3⟩
set_option maxRecDepth 100000 in
set_option maxHeartbeats 4000000 in
theorem drop_c (B base : Nat) (v : Value) (l : List Out) (x : Out) (w : World) (c0 : w.cell? ⟨B, 0, none⟩ = some v) (f0 : w.frozen? ⟨B, 0, none⟩ = false) (hown : w.ownsRow base 45 9 v l.length (l.flatMap Out.cells)) (hl : l.length < 1000000) :
    Calls Tryd.prog 14 #[.pointer (some ⟨B, 0, none⟩), encO x] w fun e w' => e = .returned (.bool (decide (x ∈ l))) ∧ Dropped w w' B w.heap.size l x := by
  obtain ⟨p, cap, rfl, hcap, hof⟩ := OutsOf.own hown rfl
  clear hown
  have hB := cell_lt' c0
  unfold encO
  go_enter Tryd.func14, Tryd.ntmps14
  go_wp2_with fail
  have bx := BoxO.mk' w x 45
  have x1 : Ext w (w.alloc (.cells #[.int .i64 x.key, .int .i64 x.l.k, .int .i64 x.l.t, .int .i64 x.l.v, .int .i64 x.r.k, .int .i64 x.r.t, .int .i64 x.r.v, .bool x.hl, .bool x.hr] 45)) := (ExtM.refl _).alloc _
  have hs1 : (w.alloc (.cells #[.int .i64 x.key, .int .i64 x.l.k, .int .i64 x.l.t, .int .i64 x.l.v, .int .i64 x.r.k, .int .i64 x.r.t, .int .i64 x.r.v, .bool x.hl, .bool x.hr] 45)).heap.size = w.heap.size + 1 := World.size_alloc _ _
  generalize w.alloc (.cells #[.int .i64 x.key, .int .i64 x.l.k, .int .i64 x.l.t, .int .i64 x.l.v, .int .i64 x.r.k, .int .i64 x.r.t, .int .i64 x.r.v, .bool x.hl, .bool x.hr] 45) = w1 at *
  generalize Value.agg #[.int .i64 x.key, .int .i64 x.l.k, .int .i64 x.l.t, .int .i64 x.l.v, .int .i64 x.r.k, .int .i64 x.r.t, .int .i64 x.r.v, .bool x.hl, .bool x.hr] = V1
  have C0 := Lib.hid c0
  have F0 := Lib.hid f0
  have HS1 := Lib.hid hs1
  clear c0 f0 hs1
  go_loopw [6] (fun i wr => ∃ (k : Nat), k ≤ l.length ∧ i = .int .i64 k ∧ Ext w1 wr ∧ x ∉ l.take k) (fun i _ => l.length - (intOf i).toNat)
  case atStart => exact ⟨0, Nat.zero_le _, rfl, ExtM.refl _, by simp⟩
  case round =>
    obtain ⟨k, hk, rfl, hx, hni⟩ := hrel
    have hxw : Ext w wr := ExtM.trans _ _ _ x1 hx
    by_cases hkl : k < l.length
    · have hd : decide ((k : Int) < l.length) = true := by simp; omega
      have hlk : l[k]? = some l[k] := List.getElem?_eq_getElem hkl
      rcases hof.of hxw with hn | ⟨g, rfl, hel⟩
      · rw [hn] at hkl; simp at hkl
      have el := hel k hkl
      have lb := el.lt
      have bx1 := bx.keep (hx.block _ bx.lt id)
      have hnl := bx1.lt
      generalize l[k] = y at *
      have HLK := Lib.hid hlk
      have HEL := Lib.hid hel
      clear hlk hel
      have heq := fun u => eql_out y x u
      obtain ⟨e0, e1, e2, e3, e4, e5, e6, e7, e8⟩ := id el
      obtain ⟨g0, g1, g2, g3, g4, g5, g6, g7, g8⟩ := id bx1
      go_wp2_with fail
      refine Plan.begin Plan.Ext 6 rfl (by kernel_rfl) ?_
      refine Plan.left_q 0 (by rfl) (by kernel_rfl) ?_; go_big_quiet_step (fail); refine wpQuiet_nil ?_
      refine Plan.left_q 1 (by rfl) (by kernel_rfl) ?_; go_big_quiet_step (fail); refine wpQuiet_nil ?_
      refine Plan.left_q 2 (by rfl) (by kernel_rfl) ?_; go_big_quiet_step (fail); refine wpQuiet_nil ?_
      refine Plan.left_q 3 (by rfl) (by kernel_rfl) ?_; go_big_quiet_step (fail); refine wpQuiet_nil ?_
      refine Plan.left_q 4 (by rfl) (by kernel_rfl) ?_; go_big_quiet_step (fail); refine wpQuiet_nil ?_
      refine Plan.left_q 5 (by rfl) (by kernel_rfl) ?_; go_big_quiet_step (fail); refine wpQuiet_nil ?_
      refine Plan.left_done (by kernel_rfl) ?_
      clear e0 e1 e2 e3 e4 e5 e6 e7 e8 g0 g1 g2 g3 g4 g5 g6 g7 g8 heq
      go_wp2_with fail
      · have hyx : y = x := by assumption
        have hxd : Ext w wr.drew := hxw.drew
        have hgd : g < wr.drew.heap.size := lb
        have hEd : ∀ i (hi : i < l.length), ElemAt wr.drew.drew g (i * 9) (l[i]'hi) := fun i hi => (HEL.out i hi).of ((ExtM.refl wr).drew.drew : Ext wr wr.drew.drew)
        have HEL2 : ∀ i (hi : i < l.length), ElemAt wr.drew g (i * 9) (l[i]'hi) := fun i hi => (HEL.out i hi).of ((ExtM.refl wr).drew : Ext wr wr.drew)
        have HYX := Lib.hid hyx
        clear hyx hx bx bx1 hxw lb hnl el
        generalize wr.drew = wd at *
        have h5 := run_appendOs (wd.drew.alloc (.cells #[] 45)) wd.heap.size (.slice (some ⟨wd.heap.size, 0, none⟩) 0 0) [] (l.take k) ⟨g, 0, none⟩ cap 41
          ⟨rfl, .inr ⟨wd.heap.size, 0, #[], rfl, Nat.le_refl _, heap_alloc_new _ _, Nat.le_refl _, by unfold maxLen; decide, rfl, rfl⟩⟩
          (fun j u hj => by
            have e1 : (⟨g, 0, none⟩ : Addr).add j = ⟨g, 0 * 9 + j, none⟩ := by unfold Addr.add; split <;> simp_all
            rw [e1]
            have := ocells_at hEd (l.take k) 0 (fun i hi => by rw [Nat.zero_add, List.getElem?_take_of_lt (by rw [List.length_take] at hi; omega)]) j u hj
            rw [World.cell?_alloc_lt _ _ _ (show g < wd.drew.heap.size from hgd)]
            exact this)
          (by rw [List.length_take]; simp; omega) (by rw [World.size_alloc]; exact Nat.le_succ _)
        obtain ⟨p1, n1, c1, W1, happ1, hown1, hgr1, hloc1⟩ := h5
        rw [List.length_take, Nat.min_eq_left hk] at happ1
        have hs0 : wd.heap.size ≤ (wd.drew.alloc (.cells #[] 45)).heap.size := by rw [World.size_alloc]; exact Nat.le_succ _
        have X1 : Plan.ExtF wd.heap.size (wd.drew.alloc (.cells #[] 45)) W1 := ExtF.grown (ExtF.refl _) hgr1 (fun k h => .inr (by
          have := Option.some.inj h
          simp at this; omega))
        have X01 : Ext wd W1 := ExtF.ext (ExtF.trans _ _ _ (((ExtF.refl wd).drew).alloc _) X1) (Nat.le_refl _)
        have hsW : wd.heap.size ≤ W1.heap.size := X01.size
        have hE1 : ∀ i (hi : i < l.length), ElemAt W1 g (i * 9) (l[i]'hi) := fun i hi => (HEL2 i hi).of X01
        have hwB : w.heap.size ≤ wd.heap.size := hxd.size
        have hacc : ([] ++ l.take k).length + (l.drop (k + 1)).length < 1000000000 := by simp [List.length_take, List.length_drop]; omega
        have hdm : decide (x ∈ l) = true := by
          have := List.mem_of_getElem? HLK.out
          rw [HYX.out] at this; simpa using this
        have herr : l.erase x = [] ++ l.take k ++ l.drop (k + 1) := by rw [List.nil_append]; exact erase_at (by rw [HLK.out, HYX.out]) hni
        have HDM := Lib.hid hdm
        have HERR := Lib.hid herr
        clear hdm herr hgr1 hloc1 hEd HEL2
        by_cases hc : k + 1 = cap
        · have h10 := run_appendOs W1 wd.heap.size (.slice p1 n1 c1) ([] ++ l.take k) (l.drop (k + 1)) ⟨g, 0, none⟩ 0 41 hown1 (fun j u hj => by
            have : l.drop (k + 1) = [] := List.drop_eq_nil_of_le (by omega)
            rw [this] at hj; simp at hj) hacc hsW
          obtain ⟨p2, n2, c2, W2, happ2, hown2, hgr2, hloc2⟩ := h10
          rw [List.length_drop, show l.length - (k + 1) = 0 by omega] at happ2
          subst hc
          have X2 : Plan.ExtF wd.heap.size W1 W2 := ExtF.grown (ExtF.refl _) hgr2 (fun k h => .inr (by
            rcases hown1.2 with ⟨h1, -⟩ | ⟨g', cap', cur, h1, hbase, -⟩
            · rw [h1] at h; cases h
            · rw [h1] at h
              have := Option.some.inj h
              simp at this; omega))
          have X02 : Ext w W2 := ExtM.trans _ _ _ hxd (ExtF.ext (ExtF.trans _ _ _ (ExtF.of_ext X01) X2) (Nat.le_refl _))
          have cB : W2.cell? ⟨B, 0, none⟩ = some (.slice (some ⟨g, 0, none⟩) l.length _) := (X02.cell (p := ⟨B, 0, none⟩) hB id).trans C0.out
          have fB : W2.frozen? ⟨B, 0, none⟩ = false := (X02.frozen (p := ⟨B, 0, none⟩) hB id).trans F0.out
          clear hE1 hgr2 hloc2
          refine Plan.beginT (Plan.ExtF wd.heap.size) [12] 13 rfl (by kernel_rfl) ?_
          refine Plan.left_q 0 (by rfl) (by kernel_rfl) ?_; go_big_quiet_step (fail); refine wpQuiet_nil ?_
          refine Plan.left_q 2 (by rfl) (by kernel_rfl) ?_; go_big_quiet_step (fail); refine wpQuiet_nil ?_
          refine Plan.left_q 3 (by rfl) (by kernel_rfl) ?_; go_big_quiet_step (fail); refine wpQuiet_nil ?_
          refine Plan.left_q 4 (by rfl) (by kernel_rfl) ?_; go_big_quiet_step (fail); refine wpQuiet_nil ?_
          refine Plan.left_q 6 (by rfl) (by kernel_rfl) ?_; go_big_quiet_step (fail); refine wpQuiet_nil ?_
          refine Plan.left_q 7 (by rfl) (by kernel_rfl) ?_; go_big_quiet_step (fail); refine wpQuiet_nil ?_
          refine Plan.left_q 8 (by rfl) (by kernel_rfl) ?_; go_big_quiet_step (fail); refine wpQuiet_nil ?_
          refine Plan.left_q 9 (by rfl) (by kernel_rfl) ?_; go_big_quiet_step (fail); refine wpQuiet_nil ?_
          refine Plan.left_one 1 (by kernel_rfl) (by rfl) (Plan.plain rfl fun K hK => ?_)
          go_wp2_with (fail)
          refine hK _ _ ((ExtM.refl _).alloc _) ?_
          clear hK K
          refine Plan.left_one 5 (by kernel_rfl) (by rfl) (Plan.plain rfl fun K hK => ?_)
          refine wp_append_run (happ1) rfl _ _ rfl rfl rfl ?_
          refine hK _ _ (X1) ?_
          clear hK K
          refine Plan.left_one 10 (by kernel_rfl) (by rfl) (Plan.plain rfl fun K hK => ?_)
          refine wp_append_run (happ2) rfl _ _ rfl rfl rfl ?_
          refine hK _ _ (X2) ?_
          clear hK K
          refine Plan.left_one 11 (by kernel_rfl) (by rfl) (Plan.plain rfl fun K hK => ?_)
          go_wp2_with (fail)
          refine hK _ _ (ExtM.refl _) ?_
          clear hK K
          refine Plan.left_one 12 (by kernel_rfl) (by rfl) (Plan.last rfl (by kernel_rfl) fun K hK => ?_)
          go_wp2_with (fail)
          refine Plan.left_done (by kernel_rfl) ?_
          go_wp2_with fail
          go_ret
          rw [HDM.out]
          have hbn : ∀ k, (Value.slice p2 n2 c2).ownBlock = some k → k ≠ B := fun k hk e => by
            rcases hown2.2 with ⟨h1, -⟩ | ⟨g', cap', cur, h1, hbase, -⟩
            · rw [h1] at hk; cases hk
            · rw [h1] at hk
              have := Option.some.inj hk
              simp at this; omega
          refine ⟨rfl, .inr ⟨by simpa using HDM.out, .slice p2 n2 c2, ?_, by go_simp, by go_simp, ?_⟩⟩
          · exact ExtB.trans _ _ _ (ExtB.of_ext X02) (ExtB.set 0 _)
          · rw [HERR.out]
            have hk := hown2.kept (w' := W2.setCell ⟨B, 0, none⟩ (.slice p2 n2 c2)) (row := some B) ⟨rfl, rfl, rfl, by rw [World.size_setCell]; exact Nat.le_refl _, fun k hk hne => Below.heap_setCell _ _ _ _ (fun e => hne (by rw [e]))⟩ (by
              cases ho : (Value.slice p2 n2 c2).ownBlock with
              | none => exact .inl rfl
              | some k => exact .inr (fun e => hbn k ho (Option.some.inj e)))
            exact ownsRow_weaken hk hwB
        · have h10 := run_appendOs W1 wd.heap.size (.slice p1 n1 c1) ([] ++ l.take k) (l.drop (k + 1)) ⟨g, (k + 1) * 9, none⟩ (cap - (k + 1)) 41 hown1 (fun j u hj => by
            have e1 : (⟨g, (k + 1) * 9, none⟩ : Addr).add j = ⟨g, (k + 1) * 9 + j, none⟩ := by unfold Addr.add; split <;> simp_all
            rw [e1]
            exact ocells_at hE1 (l.drop (k + 1)) (k + 1) (fun i hi => by rw [List.getElem?_drop]) j u hj) hacc hsW
          obtain ⟨p2, n2, c2, W2, happ2, hown2, hgr2, hloc2⟩ := h10
          rw [List.length_drop] at happ2
          have X2 : Plan.ExtF wd.heap.size W1 W2 := ExtF.grown (ExtF.refl _) hgr2 (fun k h => .inr (by
            rcases hown1.2 with ⟨h1, -⟩ | ⟨g', cap', cur, h1, hbase, -⟩
            · rw [h1] at h; cases h
            · rw [h1] at h
              have := Option.some.inj h
              simp at this; omega))
          have X02 : Ext w W2 := ExtM.trans _ _ _ hxd (ExtF.ext (ExtF.trans _ _ _ (ExtF.of_ext X01) X2) (Nat.le_refl _))
          have cB : W2.cell? ⟨B, 0, none⟩ = some (.slice (some ⟨g, 0, none⟩) l.length _) := (X02.cell (p := ⟨B, 0, none⟩) hB id).trans C0.out
          have fB : W2.frozen? ⟨B, 0, none⟩ = false := (X02.frozen (p := ⟨B, 0, none⟩) hB id).trans F0.out
          clear hE1 hgr2 hloc2
          refine Plan.beginT (Plan.ExtF wd.heap.size) [12] 13 rfl (by kernel_rfl) ?_
          refine Plan.left_q 0 (by rfl) (by kernel_rfl) ?_; go_big_quiet_step (fail); refine wpQuiet_nil ?_
          refine Plan.left_q 2 (by rfl) (by kernel_rfl) ?_; go_big_quiet_step (fail); refine wpQuiet_nil ?_
          refine Plan.left_q 3 (by rfl) (by kernel_rfl) ?_; go_big_quiet_step (fail); refine wpQuiet_nil ?_
          refine Plan.left_q 4 (by rfl) (by kernel_rfl) ?_; go_big_quiet_step (fail); refine wpQuiet_nil ?_
          refine Plan.left_q 6 (by rfl) (by kernel_rfl) ?_; go_big_quiet_step (fail); refine wpQuiet_nil ?_
          refine Plan.left_q 7 (by rfl) (by kernel_rfl) ?_; go_big_quiet_step (fail); refine wpQuiet_nil ?_
          refine Plan.left_q 8 (by rfl) (by kernel_rfl) ?_; go_big_quiet_step (fail); refine wpQuiet_nil ?_
          refine Plan.left_q 9 (by rfl) (by kernel_rfl) ?_; go_big_quiet_step (fail); refine wpQuiet_nil ?_
          refine Plan.left_one 1 (by kernel_rfl) (by rfl) (Plan.plain rfl fun K hK => ?_)
          go_wp2_with (fail)
          refine hK _ _ ((ExtM.refl _).alloc _) ?_
          clear hK K
          refine Plan.left_one 5 (by kernel_rfl) (by rfl) (Plan.plain rfl fun K hK => ?_)
          refine wp_append_run (happ1) rfl _ _ rfl rfl rfl ?_
          refine hK _ _ (X1) ?_
          clear hK K
          refine Plan.left_one 10 (by kernel_rfl) (by rfl) (Plan.plain rfl fun K hK => ?_)
          refine wp_append_run (happ2) rfl _ _ rfl rfl rfl ?_
          refine hK _ _ (X2) ?_
          clear hK K
          refine Plan.left_one 11 (by kernel_rfl) (by rfl) (Plan.plain rfl fun K hK => ?_)
          go_wp2_with (fail)
          refine hK _ _ (ExtM.refl _) ?_
          clear hK K
          refine Plan.left_one 12 (by kernel_rfl) (by rfl) (Plan.last rfl (by kernel_rfl) fun K hK => ?_)
          go_wp2_with (fail)
          refine Plan.left_done (by kernel_rfl) ?_
          go_wp2_with fail
          go_ret
          rw [HDM.out]
          have hbn : ∀ k, (Value.slice p2 n2 c2).ownBlock = some k → k ≠ B := fun k hk e => by
            rcases hown2.2 with ⟨h1, -⟩ | ⟨g', cap', cur, h1, hbase, -⟩
            · rw [h1] at hk; cases hk
            · rw [h1] at hk
              have := Option.some.inj hk
              simp at this; omega
          refine ⟨rfl, .inr ⟨by simpa using HDM.out, .slice p2 n2 c2, ?_, by go_simp, by go_simp, ?_⟩⟩
          · exact ExtB.trans _ _ _ (ExtB.of_ext X02) (ExtB.set 0 _)
          · rw [HERR.out]
            have hk := hown2.kept (w' := W2.setCell ⟨B, 0, none⟩ (.slice p2 n2 c2)) (row := some B) ⟨rfl, rfl, rfl, by rw [World.size_setCell]; exact Nat.le_refl _, fun k hk hne => Below.heap_setCell _ _ _ _ (fun e => hne (by rw [e]))⟩ (by
              cases ho : (Value.slice p2 n2 c2).ownBlock with
              | none => exact .inl rfl
              | some k => exact .inr (fun e => hbn k ho (Option.some.inj e)))
            exact ownsRow_weaken hk hwB
      · have hyx : ¬ y = x := by assumption
        have hts : x ∉ l.take (k + 1) := by
          rw [take_snoc HLK.out]
          simp only [List.mem_append, List.mem_singleton, not_or]
          exact ⟨hni, fun e => hyx e.symm⟩
        clear hyx
        go_roundw
        case rel => exact ⟨k + 1, by omega, by go_num, hx.drew, hts⟩
        case measure => simp [intOf]; omega
    · obtain rfl : k = l.length := by omega
      have hd : decide ((l.length : Int) < l.length) = false := by simp
      rw [List.take_length] at hni
      have hdm : decide (x ∈ l) = false := by simp [hni]
      have HDM := Lib.hid hdm
      have HNI := Lib.hid hni
      clear hdm hni
      go_wp2_with fail
      go_ret
      rw [HDM.out]
      exact ⟨rfl, .inl ⟨HNI.out, hxw⟩⟩
end Go.Proofs.YtggjceolhbdalaaDoor
