/- What '(*Groups).Apply' computes: one less. -/
import Derived.Test.YtmcgnnmffeojpaaGreatDoorPk17
namespace Go.Proofs.YtmcgnnmffeojpaaGreatDoor
open Go.RowKit Go.Plan

/-- One less of a key. -/
def lessGS (a : GS) (x : Out) : GS :=
  ⟨a.cnt - 1, if x.hl then wrap64 (a.sum - x.l.v) else a.sum, if x.hr then a.right.eraseIdx (a.right.countP (· < x.r.v)) else a.right⟩
/-- What stays of a key's. -/
def lessO (a : GS) (x : Out) : Option GS := if a.cnt - 1 = 0 then none else some (lessGS a x)

theorem GrpPost.base {w w3 w' : World} {G o : Nat} {D : Option Nat} {ents : List Ent} {key : Int} {b : Option GS} (hG : G < w.heap.size) (x1 : Ext w w3) (h : GrpPost w3 w' G o D ents key b) : GrpPost w w' G o D ents key b := by
  obtain ⟨D', ents', h1, h2, h3⟩ := h
  have hs := x1.size
  refine ⟨D', ents', h1, ⟨ExtM.trans _ _ _ (ExtM.mono x1 (fun _ _ h => h.elim)) h2.ext, fun k hk => ?_, ((OnlyG.refl w).step x1 hG (fun h => h)).trans h2.only⟩, h3⟩
  rcases h2.foot k hk with h | h
  · exact .inl h
  · exact .inr (by omega)

theorem eraseIdx_sorted {xs : List Int} (h : xs.Pairwise (· ≤ ·)) (i : Nat) : (xs.eraseIdx i).Pairwise (· ≤ ·) := h.sublist (List.eraseIdx_sublist xs i)
/-- What is there stands where the search says. -/
theorem countP_lt_mem (x : Int) : ∀ (xs : List Int), xs.Pairwise (· ≤ ·) → x ∈ xs → xs.countP (· < x) < xs.length ∧ xs[xs.countP (· < x)]? = some x
  | [], _, h => by cases h
  | y :: ys, hs, h => by
    obtain ⟨h1, h2⟩ := List.pairwise_cons.1 hs
    by_cases hy : y < x
    · have hm : x ∈ ys := by
        rcases List.mem_cons.1 h with rfl | h
        · omega
        · exact h
      obtain ⟨i1, i2⟩ := countP_lt_mem x ys h2 hm
      have e : (y :: ys).countP (· < x) = ys.countP (· < x) + 1 := by simp [hy]
      rw [e]
      exact ⟨by simp; omega, by simpa using i2⟩
    · have e : (y :: ys).countP (· < x) = 0 := by
        rw [List.countP_eq_zero]
        intro z hz
        rcases List.mem_cons.1 hz with rfl | hz
        · simpa using hy
        · have := h1 z hz; simp; omega
      rw [e]
      refine ⟨by simp, ?_⟩
      rcases List.mem_cons.1 h with rfl | h
      · rfl
      · have := h1 x h
        have : y = x := by omega
        simp [this]

set_option maxRecDepth 100000 in
set_option maxHeartbeats 4000000 in
theorem lessNil_c (G o : Nat) (x : Out) (w : World) :
    Calls Tryz.prog 42 #[.pointer (some ⟨G, o, none⟩), encO x, .pointer none] w fun e w' => e = .returned (.iface 48 (.int .i64 8)) ∧ Ext w w' := by
  unfold encO
  go_enter Tryz.func42, Tryz.ntmps42
  go_wp2_with fail
  go_ret
  exact ⟨rfl, (ExtM.refl _).alloc _⟩

set_option maxRecDepth 100000 in
set_option maxHeartbeats 4000000 in
theorem lessYes_c (G o : Nat) (d : Nat) (pre post : List Ent) (E : Ent) (x : Out) (w : World) (h : GrpIs w G o (some d) (pre ++ E :: post)) (hx : x.ok) (hk : E.key = x.key) (hb1 : 0 ≤ E.a.cnt) (hb2 : E.a.cnt < 1000000000) (hb3 : E.a.right.length < 1000000000)
    (hin : x.hr = true → x.r.v ∈ E.a.right) :
    Calls Tryz.prog 42 #[.pointer (some ⟨G, o, none⟩), encO x, .pointer (some ⟨E.S, 0, none⟩)] w fun e w' => e = .returned .nilIface ∧ GrpPost w w' G o (some d) (pre ++ E :: post) x.key (lessO E.a x) := by
  unfold encO
  go_enter Tryz.func42, Tryz.ntmps42
  go_upto_if 13 with fail
  have bx := BoxO.mk' w x 58
  have x1 : Ext w (w.alloc (.cells #[.int .i64 x.key, .int .i64 x.l.k, .int .i64 x.l.t, .int .i64 x.l.v, .int .i64 x.r.k, .int .i64 x.r.t, .int .i64 x.r.v, .bool x.hl, .bool x.hr] 58)) := (ExtM.refl _).alloc _
  have h1 := h.of x1 (fun _ _ => id)
  generalize w.alloc (.cells #[.int .i64 x.key, .int .i64 x.l.k, .int .i64 x.l.t, .int .i64 x.l.v, .int .i64 x.r.k, .int .i64 x.r.t, .int .i64 x.r.v, .bool x.hl, .bool x.hr] 58) = w1 at *
  generalize Value.agg #[.int .i64 x.key, .int .i64 x.l.k, .int .i64 x.l.t, .int .i64 x.l.v, .int .i64 x.r.k, .int .i64 x.r.t, .int .i64 x.r.v, .bool x.hl, .bool x.hr] = V1
  have hM : GMid w w1 G o (some d) (pre ++ E :: post) x w.heap.size (some d) pre post E := ⟨hk, h1, fun _ _ => rfl, ⟨ExtM.mono x1 (fun _ _ h => h.elim), fun k hk => .inl hk, (OnlyG.refl w).step x1 h.ltG (fun h => h)⟩, bx, fun hn => by have := h.foot _ hn; omega⟩
  clear h h1 bx x1
  go_cut [] (fun wx => ∃ v rt, GMid w wx G o (some d) (pre ++ E :: post) x w.heap.size (some d) pre post ⟨E.key, E.S, v, ⟨E.a.cnt, E.a.sum, rt⟩⟩ ∧ rt = if x.hr then E.a.right.eraseIdx (E.a.right.countP (· < x.r.v)) else E.a.right)
  case first =>
    have hE := hM.ent
    have hlt := hE.cells.lt
    obtain ⟨c0, c1, c2, f0, f1, f2⟩ := hE.cells
    have hlx := hM.box.lt
    obtain ⟨e0, e1, e2, e3, e4, e5, e6, e7, e8⟩ := id hM.box
    go_wp2_with fail
    · have hhr : x.hr = true := by assumption
      have hmem := hin hhr
      have hrow := hE.row.keep (w' := w1.drew) (fun _ _ => rfl)
      refine Plan.begin Plan.Ext 13 rfl (by kernel_rfl) ?_
      refine Plan.left_q 0 (by rfl) (by kernel_rfl) ?_; go_big_quiet_step (fail); refine wpQuiet_nil ?_
      refine Plan.left_q 1 (by rfl) (by kernel_rfl) ?_; go_big_quiet_step (fail); refine wpQuiet_nil ?_
      refine Plan.left_q 2 (by rfl) (by kernel_rfl) ?_; go_big_quiet_step (fail); refine wpQuiet_nil ?_
      refine Plan.left_q 3 (by rfl) (by kernel_rfl) ?_; go_big_quiet_step (fail); refine wpQuiet_nil ?_
      refine Plan.left_q 4 (by rfl) (by kernel_rfl) ?_; go_big_quiet_step (fail); refine wpQuiet_nil ?_
      refine Plan.left_q 5 (by rfl) (by kernel_rfl) ?_; go_big_quiet_step (fail); refine wpQuiet_nil ?_
      refine Plan.left_q 6 (by rfl) (by kernel_rfl) ?_; go_big_quiet_step (fail); refine wpQuiet_nil ?_
      refine Plan.left_one 7 (by kernel_rfl) (by rfl) (Plan.plain rfl fun K hK => ?_)
      go_wp2_with (fail)
      refine (search_c E.v E.a.right x.r.v _ hrow hE.srt (by omega)).mono ?_
      rintro e w5 ⟨rfl, h5⟩
      have H5 := ExtM.trans _ _ _ (ExtM.refl _).drew (Grw.ext h5)
      obtain ⟨hc5, hf5, -⟩ := Ext.rules H5
      have hs5_0 : E.S < w5.heap.size := by have := H5.size; (try simp at this); omega
      have hs5_1 : w.heap.size < w5.heap.size := by have := H5.size; (try simp at this); omega
      go_wp2_with (fail)
      refine hK _ _ (Grw.ext h5) ?_
      clear hK K
      refine Plan.left_q 8 (by rfl) (by kernel_rfl) ?_; go_big_quiet_step (fail); refine wpQuiet_nil ?_
      refine Plan.left_q 9 (by rfl) (by kernel_rfl) ?_; go_big_quiet_step (fail); refine wpQuiet_nil ?_
      refine Plan.left_q 10 (by rfl) (by kernel_rfl) ?_; go_big_quiet_step (fail); refine wpQuiet_nil ?_
      refine Plan.left_q 11 (by rfl) (by kernel_rfl) ?_; go_big_quiet_step (fail); refine wpQuiet_nil ?_
      refine Plan.left_q 12 (by rfl) (by kernel_rfl) ?_; go_big_quiet_step (fail); refine wpQuiet_nil ?_
      refine Plan.left_done (by kernel_rfl) ?_
      have hM5 := hM.draw H5
      clear hc5 hf5 hs5_0 hs5_1 H5 h5 hrow hM
      clear c0 c1 c2 f0 f1 f2 e0 e1 e2 e3 e4 e5 e6 e7 e8 hlt hlx hE
      obtain ⟨hkl, hke⟩ := countP_lt_mem x.r.v _ hM5.ent.srt hmem
      clear hke
      generalize hkk : E.a.right.countP (· < x.r.v) = k at *
      have HK := Lib.hid hkk
      clear hkk
      have hE := hM5.ent
      have hlt := hE.cells.lt
      obtain ⟨c0, c1, c2, f0, f1, f2⟩ := hE.cells
      have hlx := hM5.box.lt
      obtain ⟨e0, e1, e2, e3, e4, e5, e6, e7, e8⟩ := id hM5.box
      have hne : ¬ E.v.ownBlock = some E.S := hE.own
      have hrow := hE.row
      go_wp2_with fail
      refine (delete_s E.v E.a.right k _ hrow hkl).mono ?_
      rintro e w7 ⟨p, n, cap, rfl, h7, hrow7, hown7⟩
      have hC := hE.cells.keep (w' := w7) (h7.block _ hlt hne)
      have hoS : (Value.slice p n cap).ownBlock ≠ some E.S := fun e => hne (hown7 ▸ e)
      clear c0 c1 c2 f0 f1 f2 e0 e1 e2 e3 e4 e5 e6 e7 e8 hlt hlx hE
      obtain ⟨c0, c1, c2, f0, f1, f2⟩ := id hC
      go_wp2_with fail
      go_meet
      case rel =>
        have xs : ExtM (fb E) w5 (w7.setCell ⟨E.S, 2, none⟩ (.slice p n cap)) :=
          ExtM.setCell (ExtM.mono h7 (fun _ _ h => .inr h)) (.inr (.inl rfl)) _
        have hM7 := hM5.upd (E' := ⟨E.key, E.S, .slice p n cap, ⟨E.a.cnt, E.a.sum, E.a.right.eraseIdx k⟩⟩) xs rfl rfl
          ⟨hC.set2 _, hrow7.keep (fun k hk => Below.heap_setCell _ _ _ _ (fun e => hoS (by rw [hk, e]))), eraseIdx_sorted hM5.ent.srt _, hoS⟩ (fun k hk => by
            rcases hk with rfl | hk
            · exact .inl (.inl rfl)
            · exact .inl (.inr (hown7 ▸ hk)))
        exact ⟨_, _, hM7, by rw [if_pos hhr]⟩
    · have hhr : x.hr = false := by assumption
      go_meet
      case rel => exact ⟨E.v, E.a.right, hM, by rw [if_neg (by rw [hhr]; decide)]⟩
  case rest =>
    clear hM
    obtain ⟨v, rt, hM, hrt⟩ := hcut
    have HRT := Lib.hid hrt
    clear hrt
    have hE := hM.ent
    have hlt := hE.cells.lt
    obtain ⟨c0, c1, c2, f0, f1, f2⟩ := hE.cells
    have hlx := hM.box.lt
    obtain ⟨e0, e1, e2, e3, e4, e5, e6, e7, e8⟩ := id hM.box
    go_upto_if 47 with fail
    have hM1 : GMid w (wc.setCell ⟨E.S, 0, none⟩ (.int .i64 (E.a.cnt - 1))) G o (some d) (pre ++ E :: post) x w.heap.size (some d) pre post ⟨E.key, E.S, v, ⟨E.a.cnt - 1, E.a.sum, rt⟩⟩ :=
      hM.upd (E' := ⟨E.key, E.S, v, ⟨E.a.cnt - 1, E.a.sum, rt⟩⟩) (ExtM.setCell (ExtM.refl _) (.inr (.inl rfl)) _) rfl rfl
        ⟨hE.cells.set0 _, hE.row.keep (fun k hk => Below.heap_setCell _ _ _ _ (fun e => hE.own (by rw [hk, e]))), hE.srt, hE.own⟩ (fun _ hk => .inl hk)
    clear hM
    clear c0 c1 c2 f0 f1 f2 e0 e1 e2 e3 e4 e5 e6 e7 e8 hlt hlx hE
    generalize wc.setCell ⟨E.S, 0, none⟩ (.int .i64 (E.a.cnt - 1)) = w4 at *
    go_cut [] (fun wx => GMid w wx G o (some d) (pre ++ E :: post) x w.heap.size (some d) pre post ⟨E.key, E.S, v, ⟨E.a.cnt - 1, if x.hl then wrap64 (E.a.sum - x.l.v) else E.a.sum, rt⟩⟩)
    case first =>
      have hE := hM1.ent
      have hlt := hE.cells.lt
      obtain ⟨c0, c1, c2, f0, f1, f2⟩ := hE.cells
      have hlx := hM1.box.lt
      obtain ⟨e0, e1, e2, e3, e4, e5, e6, e7, e8⟩ := id hM1.box
      go_wp2_with fail
      · have hhl : x.hl = true := by assumption
        rw [hhl] at e7
        go_still_tail 10, (by kernel_rfl)
        change wpList _ _ _ _ _ w4.drew
        go_wp2_with fail
        go_meet
        case rel =>
          have xs : ExtM (fb ⟨E.key, E.S, v, ⟨E.a.cnt - 1, E.a.sum, rt⟩⟩) w4 (w4.setCell ⟨E.S, 1, none⟩ (.int .i64 (wrap64 (E.a.sum - x.l.v)))).drew := (ExtM.setCell (ExtM.refl _) (.inr (.inl rfl)) _).drew
          rw [if_pos hhl]
          exact hM1.upd (E' := ⟨E.key, E.S, v, ⟨E.a.cnt - 1, wrap64 (E.a.sum - x.l.v), rt⟩⟩) xs rfl rfl
            ⟨(hE.cells.set1 _).keep rfl, hE.row.keep (fun k hk => Below.heap_setCell _ _ _ _ (fun e => hE.own (by rw [hk, e]))), hE.srt, hE.own⟩ (fun _ hk => .inl hk)
      · have hhl : x.hl = false := by assumption
        go_meet
        case rel =>
          rw [if_neg (by rw [hhl]; decide)]
          exact hM1
    case rest =>
      generalize hsum : (if x.hl then wrap64 (E.a.sum - x.l.v) else E.a.sum) = sm at *
      have HSUM := Lib.hid hsum
      clear hsum hM1
      have hM := hcut
      clear hcut
      have hE := hM.ent
      have hlt := hE.cells.lt
      obtain ⟨c0, c1, c2, f0, f1, f2⟩ := hE.cells
      have hlx := hM.box.lt
      obtain ⟨e0, e1, e2, e3, e4, e5, e6, e7, e8⟩ := id hM.box
      go_wp2_with fail
      · have hz : (E.a.cnt - 1 == 0) = true := by assumption
        have hz : E.a.cnt - 1 = 0 := by simpa using hz
        have HZ := Lib.hid hz
        clear hz
        have hGd : ¬ G = d := by
          rcases hM.is.mp with ⟨h1, -⟩ | ⟨d', h1, h2, -⟩
          · cases h1
          · obtain rfl := Option.some.inj h1; exact fun e => h2 e.symm
        have hm : MapIs Tryz.prog 3 (Value.int .i64) wc d (prs (pre ++ ⟨E.key, E.S, v, ⟨E.a.cnt - 1, sm, rt⟩⟩ :: post)) := by
          rcases hM.is.mp with ⟨h1, -⟩ | ⟨d', h1, h2, h3⟩
          · cases h1
          · obtain rfl := Option.some.inj h1; exact h3
        obtain ⟨w9, hdel, x9, -, hm9⟩ := (hm.of (ExtM.drew (ExtM.refl wc) : Ext wc wc.drew) id).run_delete intLaw intI_inj Tryz.underlying67 x.key (keyI _ hx.1)
        have hnd : ¬ w.heap.size = d := fun e => hM.nbox (.inr (.inl (by rw [e])))
        have hGc := hM.is.ltG
        have q0 := hM.is.c0
        have q1 := hM.is.f0
        refine Plan.begin (Plan.ExtB d) 7 rfl (by kernel_rfl) ?_
        refine Plan.left_q 0 (by rfl) (by kernel_rfl) ?_; go_big_quiet_step (fail); refine wpQuiet_nil ?_
        refine Plan.left_q 1 (by rfl) (by kernel_rfl) ?_; go_big_quiet_step (fail); refine wpQuiet_nil ?_
        refine Plan.left_q 2 (by rfl) (by kernel_rfl) ?_; go_big_quiet_step (fail); refine wpQuiet_nil ?_
        refine Plan.left_q 3 (by rfl) (by kernel_rfl) ?_; go_big_quiet_step (fail); refine wpQuiet_nil ?_
        refine Plan.left_q 4 (by rfl) (by kernel_rfl) ?_; go_big_quiet_step (fail); refine wpQuiet_nil ?_
        refine Plan.left_q 5 (by rfl) (by kernel_rfl) ?_; go_big_quiet_step (fail); refine wpQuiet_nil ?_
        refine Plan.left_one 6 (by kernel_rfl) (by rfl) (Plan.plain rfl fun K hK => ?_)
        go_wp2_with (fail)
        refine hK _ _ (x9) ?_
        clear hK K
        refine Plan.left_done (by kernel_rfl) ?_
        clear c0 c1 c2 f0 f1 f2 e0 e1 e2 e3 e4 e5 e6 e7 e8 hlt hlx hE
        clear q0 q1
        go_wp2_with fail
        go_ret
        refine ⟨rfl, ?_⟩
        have y9 : ExtB d wc w9 := ExtB.trans _ _ _ (ExtB.of_ext ((ExtM.refl wc).drew)) x9
        have hpop := hM.is.pop y9 hm9
        unfold lessO
        rw [if_pos HZ.out]
        refine ⟨some d, _, hpop, ⟨?_, fun k hk => ?_, hM.turn.only.step y9 hGc hGd⟩, fun k => ?_⟩
        · have xu := hM.turn.ext
          exact ⟨y9.os.trans xu.os, y9.tape.trans xu.tape, y9.output.trans xu.output, Nat.le_trans xu.size y9.size, fun k hk hn => (y9.block k (Nat.lt_of_lt_of_le hk xu.size) (fun e => by
              have e' : k = d := e
              exact hn (.inr (.inl (by rw [e']))))).trans (xu.block k hk hn)⟩
        · refine hM.turn.foot k ?_
          rcases hk with hk | hk | ⟨f, hf, hk⟩
          · exact .inl hk
          · exact .inr (.inl hk)
          · exact .inr (.inr ⟨f, (List.mem_filter.1 hf).1, hk⟩)
        · rw [st_pop]
          by_cases hkk : k = x.key
          · rw [if_pos hkk, if_pos hkk]
          · rw [if_neg hkk, if_neg hkk]; exact hM.oth k hkk
      · have hz : (E.a.cnt - 1 == 0) = false := by assumption
        have hz : ¬ E.a.cnt - 1 = 0 := by simpa using hz
        go_ret
        refine ⟨rfl, ?_⟩
        have := hM.post
        unfold lessO
        rw [if_neg hz, show lessGS E.a x = ⟨E.a.cnt - 1, sm, rt⟩ from by unfold lessGS; rw [HSUM.out, HRT.out]]
        exact this

set_option maxRecDepth 100000 in
set_option maxHeartbeats 4000000 in
theorem lessNo_c (G o : Nat) (D : Option Nat) (pre post : List Ent) (E : Ent) (x : Out) (w : World) (h : GrpIs w G o D (pre ++ E :: post)) (hb3 : E.a.right.length < 1000000000)
    (hr : x.hr = true) (hin : ¬ x.r.v ∈ E.a.right) :
    Calls Tryz.prog 42 #[.pointer (some ⟨G, o, none⟩), encO x, .pointer (some ⟨E.S, 0, none⟩)] w fun e w' => e = .returned (.iface 48 (.int .i64 8)) ∧ Ext w w' := by
  have HR := Lib.hid hr
  clear hr
  unfold encO
  go_enter Tryz.func42, Tryz.ntmps42
  go_upto_if 13 with fail
  have bx := BoxO.mk' w x 58
  have x1 : Ext w (w.alloc (.cells #[.int .i64 x.key, .int .i64 x.l.k, .int .i64 x.l.t, .int .i64 x.l.v, .int .i64 x.r.k, .int .i64 x.r.t, .int .i64 x.r.v, .bool x.hl, .bool x.hr] 58)) := (ExtM.refl _).alloc _
  have h1 := h.of x1 (fun _ _ => id)
  generalize w.alloc (.cells #[.int .i64 x.key, .int .i64 x.l.k, .int .i64 x.l.t, .int .i64 x.l.v, .int .i64 x.r.k, .int .i64 x.r.t, .int .i64 x.r.v, .bool x.hl, .bool x.hr] 58) = w1 at *
  generalize Value.agg #[.int .i64 x.key, .int .i64 x.l.k, .int .i64 x.l.t, .int .i64 x.l.v, .int .i64 x.r.k, .int .i64 x.r.t, .int .i64 x.r.v, .bool x.hl, .bool x.hr] = V1
  have hE := h1.all E (by simp)
  have hlt := hE.cells.lt
  obtain ⟨c0, c1, c2, f0, f1, f2⟩ := hE.cells
  have hlx := bx.lt
  obtain ⟨e0, e1, e2, e3, e4, e5, e6, e7, e8⟩ := id bx
  go_wp2_with fail
  · have hrow := hE.row.keep (w' := w1.drew) (fun _ _ => rfl)
    refine Plan.begin Plan.Ext 13 rfl (by kernel_rfl) ?_
    refine Plan.left_q 0 (by rfl) (by kernel_rfl) ?_; go_big_quiet_step (fail); refine wpQuiet_nil ?_
    refine Plan.left_q 1 (by rfl) (by kernel_rfl) ?_; go_big_quiet_step (fail); refine wpQuiet_nil ?_
    refine Plan.left_q 2 (by rfl) (by kernel_rfl) ?_; go_big_quiet_step (fail); refine wpQuiet_nil ?_
    refine Plan.left_q 3 (by rfl) (by kernel_rfl) ?_; go_big_quiet_step (fail); refine wpQuiet_nil ?_
    refine Plan.left_q 4 (by rfl) (by kernel_rfl) ?_; go_big_quiet_step (fail); refine wpQuiet_nil ?_
    refine Plan.left_q 5 (by rfl) (by kernel_rfl) ?_; go_big_quiet_step (fail); refine wpQuiet_nil ?_
    refine Plan.left_q 6 (by rfl) (by kernel_rfl) ?_; go_big_quiet_step (fail); refine wpQuiet_nil ?_
    refine Plan.left_one 7 (by kernel_rfl) (by rfl) (Plan.plain rfl fun K hK => ?_)
    go_wp2_with (fail)
    refine (search_c E.v E.a.right x.r.v _ hrow hE.srt (by omega)).mono ?_
    rintro e w5 ⟨rfl, h5⟩
    have H5 := ExtM.trans _ _ _ (ExtM.refl _).drew (Grw.ext h5)
    obtain ⟨hc5, hf5, -⟩ := Ext.rules H5
    have hs5_0 : E.S < w5.heap.size := by have := H5.size; (try simp at this); omega
    have hs5_1 : w.heap.size < w5.heap.size := by have := H5.size; (try simp at this); omega
    go_wp2_with (fail)
    refine hK _ _ (Grw.ext h5) ?_
    clear hK K
    refine Plan.left_q 8 (by rfl) (by kernel_rfl) ?_; go_big_quiet_step (fail); refine wpQuiet_nil ?_
    refine Plan.left_q 9 (by rfl) (by kernel_rfl) ?_; go_big_quiet_step (fail); refine wpQuiet_nil ?_
    refine Plan.left_q 10 (by rfl) (by kernel_rfl) ?_; go_big_quiet_step (fail); refine wpQuiet_nil ?_
    refine Plan.left_q 11 (by rfl) (by kernel_rfl) ?_; go_big_quiet_step (fail); refine wpQuiet_nil ?_
    refine Plan.left_q 12 (by rfl) (by kernel_rfl) ?_; go_big_quiet_step (fail); refine wpQuiet_nil ?_
    refine Plan.left_done (by kernel_rfl) ?_
    go_wp2_with fail
    go_ret
    exact ⟨rfl, ExtM.trans _ _ _ x1 H5⟩
  all_goals
    have hhr : x.hr = false := by assumption
    rw [HR.out] at hhr
    cases hhr

set_option maxRecDepth 100000 in
set_option maxHeartbeats 4000000 in
theorem grpLess_c (G o : Nat) (D : Option Nat) (ents : List Ent) (x : Out) (w : World) (h : GrpIs w G o D ents) (hx : x.ok) (a : GS) (ha : st ents x.key = some a) (hb1 : 0 ≤ a.cnt) (hb2 : a.cnt < 1000000000) (hb3 : a.right.length < 1000000000)
    (hin : x.hr = true → x.r.v ∈ a.right) :
    Calls Tryz.prog 21 #[.pointer (some ⟨G, o, none⟩), encC x true] w fun e w' => e = .returned .nilIface ∧ GrpPost w w' G o D ents x.key (lessO a x) := by
  have HA := Lib.hid ha
  clear ha
  have hG := h.ltG
  have c0 := h.c0
  have f0 := h.f0
  unfold encC
  go_enter Tryz.func21, Tryz.ntmps21
  go_wp2_with fail
  have bc := BoxC.mk' w x true 72
  have x1 : Ext w (w.alloc (.cells #[.int .i64 x.key, .int .i64 x.l.k, .int .i64 x.l.t, .int .i64 x.l.v, .int .i64 x.r.k, .int .i64 x.r.t, .int .i64 x.r.v, .bool x.hl, .bool x.hr, .bool true] 72)) := (ExtM.refl _).alloc _
  have z1 : (w.alloc (.cells #[.int .i64 x.key, .int .i64 x.l.k, .int .i64 x.l.t, .int .i64 x.l.v, .int .i64 x.r.k, .int .i64 x.r.t, .int .i64 x.r.v, .bool x.hl, .bool x.hr, .bool true] 72)).heap.size = w.heap.size + 1 := World.size_alloc _ _
  clear c0 f0
  generalize w.alloc (.cells #[.int .i64 x.key, .int .i64 x.l.k, .int .i64 x.l.t, .int .i64 x.l.v, .int .i64 x.r.k, .int .i64 x.r.t, .int .i64 x.r.v, .bool x.hl, .bool x.hr, .bool true] 72) = w1 at *
  have bx := BoxO.mk' w1 x 58
  rw [z1] at bx
  have x2 : Ext w1 (w1.alloc (.cells #[.int .i64 x.key, .int .i64 x.l.k, .int .i64 x.l.t, .int .i64 x.l.v, .int .i64 x.r.k, .int .i64 x.r.t, .int .i64 x.r.v, .bool x.hl, .bool x.hr] 58)) := (ExtM.refl _).alloc _
  replace bc := bc.of x2 id
  replace x1 := ExtM.trans _ _ _ x1 x2
  clear x2 z1
  generalize w1.alloc (.cells #[.int .i64 x.key, .int .i64 x.l.k, .int .i64 x.l.t, .int .i64 x.l.v, .int .i64 x.r.k, .int .i64 x.r.t, .int .i64 x.r.v, .bool x.hl, .bool x.hr] 58) = w2 at *
  have h2 := h.of x1 (fun _ _ => id)
  have hGn : ¬ G = w.heap.size := by omega
  obtain ⟨pp, hpv⟩ : ∃ pp : Option Addr, pp = (ents.find? (fun e => decide (e.key = x.key))).map fun e => ⟨e.S, 0, none⟩ := ⟨_, rfl⟩
  have hlk : ∀ (u : World), Ext w2 u → (Instr.lookup 67 (.map D) (.int .i64 x.key) false).run Tryz.prog u = .ok (.pointer pp) u := by
    intro u hu
    rcases h2.mp with ⟨rfl, rfl⟩ | ⟨d, rfl, hdG, hm⟩
    · rw [hpv]
      obtain ⟨l, hl⟩ := keyI x.key hx.1
      have hf : (Instr.findKey 3 (.int .i64 x.key) []).run Tryz.prog u = .ok none u := by
        rcases intLaw.find u hl [] (by simp) with ⟨h, -⟩ | ⟨j, e, -, h, -⟩
        · exact h
        · simp at h
      simp [Instr.lookup, run_underlying Tryz.underlying67, intLaw.check u _ hl, hf, Result.andThen]
    · have := (hm.of hu id).run_look false intLaw intI_inj Tryz.underlying67 zeroPtr x.key (keyI _ hx.1)
      rw [look_prs] at this
      rw [hpv]
      cases hfd : ents.find? (fun e => decide (e.key = x.key)) <;> rw [hfd] at this <;> simpa using this
  have hlq := fun p => hlk (Plan.ext Ext w2.drew p) (ExtM.trans _ _ _ (ExtM.drew (ExtM.refl w2)) (ext_E ExtM.refl w2.drew p))
  have hnl : w.heap.size < w2.heap.size := cell_lt' bc.e0
  have hnl1 : w.heap.size + 1 < w2.heap.size := bx.lt
  have hG2 := h2.ltG
  have c0 := h2.c0
  obtain ⟨e0, e1, e2, e3, e4, e5, e6, e7, e8⟩ := id bx
  have HPV := Lib.hid hpv
  clear hpv
  refine Plan.begin Plan.Ext 8 rfl (by kernel_rfl) ?_
  refine Plan.left_q 0 (by rfl) (by kernel_rfl) ?_; go_big_quiet_step (fail); refine wpQuiet_nil ?_
  refine Plan.left_q 1 (by rfl) (by kernel_rfl) ?_; go_big_quiet_step (fail); refine wpQuiet_nil ?_
  refine Plan.left_q 2 (by rfl) (by kernel_rfl) ?_; go_big_quiet_step (fail); refine wpQuiet_nil ?_
  refine Plan.left_q 3 (by rfl) (by kernel_rfl) ?_; go_big_quiet_step (fail); refine wpQuiet_nil ?_
  refine Plan.left_q 4 (by rfl) (by kernel_rfl) ?_; go_big_quiet_step (fail); refine wpQuiet_nil ?_
  refine Plan.left_q 5 (by rfl) (by kernel_rfl) ?_; go_big_quiet_step (fail); refine wpQuiet_nil ?_
  refine Plan.left_q 6 (by rfl) (by kernel_rfl) ?_; go_big_quiet_step (fail); refine wpQuiet_nil ?_
  refine Plan.left_q 7 (by rfl) (by kernel_rfl) ?_; go_big_quiet_step (fail); refine wpQuiet_nil ?_
  refine Plan.left_done (by kernel_rfl) ?_
  have xd : Ext w2 w2.drew := (ExtM.refl _).drew
  replace h2 := h2.of xd (fun _ _ => id)
  replace bx := bx.keep (w' := w2.drew) rfl
  replace bc := bc.of xd id
  replace x1 := ExtM.trans _ _ _ x1 xd
  clear hlq hlk hnl hnl1 hG2 c0 e0 e1 e2 e3 e4 e5 e6 e7 e8 xd
  generalize w2.drew = w3 at *
  have ha := HA.out
  clear HA
  obtain ⟨d, rfl⟩ : ∃ d, D = some d := by
    rcases h.mp with ⟨-, rfl⟩ | ⟨d, h1, -⟩
    · cases ha
    · exact ⟨d, h1⟩
  obtain ⟨E, hfd, rfl⟩ := Option.map_eq_some_iff.1 ha
  clear ha
  rw [hfd] at HPV
  have hpe : pp = some ⟨E.S, 0, none⟩ := HPV.out
  clear HPV
  subst hpe
  obtain ⟨pre, post, rfl, hk⟩ := split_at hfd
  have e9 := bc.e9
  obtain ⟨e0, e1, e2, e3, e4, e5, e6, e7, e8⟩ := id bx
  have hnl : w.heap.size < w3.heap.size := cell_lt' bc.e0
  have hnl1 : w.heap.size + 1 < w3.heap.size := bx.lt
  go_wp2_with fail
  refine (lessYes_c G o d pre post E x _ h2 hx hk hb1 hb2 hb3 hin).mono ?_
  rintro e w' ⟨rfl, hp⟩
  go_wp2_with fail
  go_ret
  exact ⟨rfl, hp.base h.ltG x1⟩

set_option maxRecDepth 100000 in
set_option maxHeartbeats 4000000 in
theorem grpNone_c (G o : Nat) (D : Option Nat) (ents : List Ent) (x : Out) (w : World) (h : GrpIs w G o D ents) (hx : x.ok) (ha : ∀ a, st ents x.key = some a → a.right.length < 1000000000 ∧ x.hr = true ∧ ¬ x.r.v ∈ a.right) :
    Calls Tryz.prog 21 #[.pointer (some ⟨G, o, none⟩), encC x true] w fun e w' => e = .returned (.iface 48 (.int .i64 8)) ∧ Ext w w' := by
  have HA := Lib.hid ha
  clear ha
  have hG := h.ltG
  have c0 := h.c0
  have f0 := h.f0
  unfold encC
  go_enter Tryz.func21, Tryz.ntmps21
  go_wp2_with fail
  have bc := BoxC.mk' w x true 72
  have x1 : Ext w (w.alloc (.cells #[.int .i64 x.key, .int .i64 x.l.k, .int .i64 x.l.t, .int .i64 x.l.v, .int .i64 x.r.k, .int .i64 x.r.t, .int .i64 x.r.v, .bool x.hl, .bool x.hr, .bool true] 72)) := (ExtM.refl _).alloc _
  have z1 : (w.alloc (.cells #[.int .i64 x.key, .int .i64 x.l.k, .int .i64 x.l.t, .int .i64 x.l.v, .int .i64 x.r.k, .int .i64 x.r.t, .int .i64 x.r.v, .bool x.hl, .bool x.hr, .bool true] 72)).heap.size = w.heap.size + 1 := World.size_alloc _ _
  clear c0 f0
  generalize w.alloc (.cells #[.int .i64 x.key, .int .i64 x.l.k, .int .i64 x.l.t, .int .i64 x.l.v, .int .i64 x.r.k, .int .i64 x.r.t, .int .i64 x.r.v, .bool x.hl, .bool x.hr, .bool true] 72) = w1 at *
  have bx := BoxO.mk' w1 x 58
  rw [z1] at bx
  have x2 : Ext w1 (w1.alloc (.cells #[.int .i64 x.key, .int .i64 x.l.k, .int .i64 x.l.t, .int .i64 x.l.v, .int .i64 x.r.k, .int .i64 x.r.t, .int .i64 x.r.v, .bool x.hl, .bool x.hr] 58)) := (ExtM.refl _).alloc _
  replace bc := bc.of x2 id
  replace x1 := ExtM.trans _ _ _ x1 x2
  clear x2 z1
  generalize w1.alloc (.cells #[.int .i64 x.key, .int .i64 x.l.k, .int .i64 x.l.t, .int .i64 x.l.v, .int .i64 x.r.k, .int .i64 x.r.t, .int .i64 x.r.v, .bool x.hl, .bool x.hr] 58) = w2 at *
  have h2 := h.of x1 (fun _ _ => id)
  have hGn : ¬ G = w.heap.size := by omega
  obtain ⟨pp, hpv⟩ : ∃ pp : Option Addr, pp = (ents.find? (fun e => decide (e.key = x.key))).map fun e => ⟨e.S, 0, none⟩ := ⟨_, rfl⟩
  have hlk : ∀ (u : World), Ext w2 u → (Instr.lookup 67 (.map D) (.int .i64 x.key) false).run Tryz.prog u = .ok (.pointer pp) u := by
    intro u hu
    rcases h2.mp with ⟨rfl, rfl⟩ | ⟨d, rfl, hdG, hm⟩
    · rw [hpv]
      obtain ⟨l, hl⟩ := keyI x.key hx.1
      have hf : (Instr.findKey 3 (.int .i64 x.key) []).run Tryz.prog u = .ok none u := by
        rcases intLaw.find u hl [] (by simp) with ⟨h, -⟩ | ⟨j, e, -, h, -⟩
        · exact h
        · simp at h
      simp [Instr.lookup, run_underlying Tryz.underlying67, intLaw.check u _ hl, hf, Result.andThen]
    · have := (hm.of hu id).run_look false intLaw intI_inj Tryz.underlying67 zeroPtr x.key (keyI _ hx.1)
      rw [look_prs] at this
      rw [hpv]
      cases hfd : ents.find? (fun e => decide (e.key = x.key)) <;> rw [hfd] at this <;> simpa using this
  have hlq := fun p => hlk (Plan.ext Ext w2.drew p) (ExtM.trans _ _ _ (ExtM.drew (ExtM.refl w2)) (ext_E ExtM.refl w2.drew p))
  have hnl : w.heap.size < w2.heap.size := cell_lt' bc.e0
  have hnl1 : w.heap.size + 1 < w2.heap.size := bx.lt
  have hG2 := h2.ltG
  have c0 := h2.c0
  obtain ⟨e0, e1, e2, e3, e4, e5, e6, e7, e8⟩ := id bx
  have HPV := Lib.hid hpv
  clear hpv
  refine Plan.begin Plan.Ext 8 rfl (by kernel_rfl) ?_
  refine Plan.left_q 0 (by rfl) (by kernel_rfl) ?_; go_big_quiet_step (fail); refine wpQuiet_nil ?_
  refine Plan.left_q 1 (by rfl) (by kernel_rfl) ?_; go_big_quiet_step (fail); refine wpQuiet_nil ?_
  refine Plan.left_q 2 (by rfl) (by kernel_rfl) ?_; go_big_quiet_step (fail); refine wpQuiet_nil ?_
  refine Plan.left_q 3 (by rfl) (by kernel_rfl) ?_; go_big_quiet_step (fail); refine wpQuiet_nil ?_
  refine Plan.left_q 4 (by rfl) (by kernel_rfl) ?_; go_big_quiet_step (fail); refine wpQuiet_nil ?_
  refine Plan.left_q 5 (by rfl) (by kernel_rfl) ?_; go_big_quiet_step (fail); refine wpQuiet_nil ?_
  refine Plan.left_q 6 (by rfl) (by kernel_rfl) ?_; go_big_quiet_step (fail); refine wpQuiet_nil ?_
  refine Plan.left_q 7 (by rfl) (by kernel_rfl) ?_; go_big_quiet_step (fail); refine wpQuiet_nil ?_
  refine Plan.left_done (by kernel_rfl) ?_
  have xd : Ext w2 w2.drew := (ExtM.refl _).drew
  replace h2 := h2.of xd (fun _ _ => id)
  replace bx := bx.keep (w' := w2.drew) rfl
  replace bc := bc.of xd id
  replace x1 := ExtM.trans _ _ _ x1 xd
  clear hlq hlk hnl hnl1 hG2 c0 e0 e1 e2 e3 e4 e5 e6 e7 e8 xd
  generalize w2.drew = w3 at *
  have ha := HA.out
  clear HA
  have e9 := bc.e9
  obtain ⟨e0, e1, e2, e3, e4, e5, e6, e7, e8⟩ := id bx
  have hnl : w.heap.size < w3.heap.size := cell_lt' bc.e0
  have hnl1 : w.heap.size + 1 < w3.heap.size := bx.lt
  cases hfd : ents.find? (fun e => decide (e.key = x.key)) with
  | none =>
    rw [hfd] at HPV
    have hpe : pp = none := HPV.out
    clear HPV
    subst hpe
    go_wp2_with fail
    refine (lessNil_c G o x _).mono ?_
    rintro e w' ⟨rfl, hp⟩
    go_wp2_with fail
    go_ret
    exact ⟨rfl, ExtM.trans _ _ _ x1 hp⟩
  | some E =>
    rw [hfd] at HPV
    have hpe : pp = some ⟨E.S, 0, none⟩ := HPV.out
    clear HPV
    subst hpe
    obtain ⟨h3, h4, h5⟩ := ha E.a (by unfold st; rw [hfd]; rfl)
    have H4 := Lib.hid h4
    clear h4 ha
    obtain ⟨pre, post, rfl, hk⟩ := split_at hfd
    go_wp2_with fail
    refine (lessNo_c G o D pre post E x _ h2 h3 H4.out h5).mono ?_
    rintro e w' ⟨rfl, hp⟩
    go_wp2_with fail
    go_ret
    exact ⟨rfl, ExtM.trans _ _ _ x1 hp⟩
end Go.Proofs.YtmcgnnmffeojpaaGreatDoor
