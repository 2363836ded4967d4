/- The engine's Feed: the walk. -/
import Derived.Test.YtmcgnnmffeojpaaGreatDoorPk35
import Derived.Deep.DeepCutAuto
import Derived.Deep.CutBlock
namespace Go.Proofs.YtmcgnnmffeojpaaGreatDoor
open Go.RowKit Go.Plan

/-- The count of the rows that came, behind a Feed that ends with e. -/
def fedI (e f : Int) : Int := if e = 0 ∨ e = 10 then wrap64 (f + 1) else f

section
variable {u : World} {E : Nat} {Bs : Nat → Prop} {lo hi md : Int} {st : JSt} {V W : List Out} {f0 f1 : Int}
theorem EAt.c70 (h : EAt u E Bs lo hi md st V W f0 f1) : u.cell? ⟨E, 7, none⟩ = some (.int .i64 f0) := by obtain ⟨_, _, _, _, _, _, _, h, -⟩ := h; exact h.c7
theorem EAt.c71 (h : EAt u E Bs lo hi md st V W f0 f1) : u.cell? ⟨E, 8, none⟩ = some (.int .i64 f1) := by obtain ⟨_, _, _, _, _, _, _, h, -⟩ := h; exact h.c8
theorem EAt.fz (h : EAt u E Bs lo hi md st V W f0 f1) (q : Nat) : u.frozen? ⟨E, q, none⟩ = false := by obtain ⟨_, _, _, _, _, _, _, h, -⟩ := h; exact h.fz q
end
/-- What a Feed leaves: the row of what changes lies apart. -/
def EUpV (u u' : World) (E : Nat) (Bs : Nat → Prop) (lo hi md : Int) (st : JSt) (V W : List Out) (f0 f1 : Int) (vo : Value) : Prop :=
  ExtM Bs u u' ∧ ∃ Bs', EAt u' E Bs' lo hi md st V W f0 f1 ∧ (∀ k, Bs' k → Bs k ∨ u.heap.size ≤ k) ∧ ∀ k, vo.ownBlock = some k → ¬ Bs' k
theorem EUpV.up {u u' : World} {E : Nat} {Bs : Nat → Prop} {lo hi md : Int} {st : JSt} {V W : List Out} {f0 f1 : Int} {vo : Value} (h : EUpV u u' E Bs lo hi md st V W f0 f1 vo) : EUp u u' E Bs lo hi md st V W f0 f1 := by
  obtain ⟨h1, Bs', h2, h3, -⟩ := h; exact ⟨h1, Bs', h2, h3⟩
theorem EUp.vnil {u u' : World} {E : Nat} {Bs : Nat → Prop} {lo hi md : Int} {st : JSt} {V W : List Out} {f0 f1 : Int} (h : EUp u u' E Bs lo hi md st V W f0 f1) : EUpV u u' E Bs lo hi md st V W f0 f1 (.slice none 0 0) := by
  obtain ⟨h1, Bs', h2, h3⟩ := h; exact ⟨h1, Bs', h2, h3, fun k hk => nomatch hk⟩
set_option maxRecDepth 100000 in
set_option maxHeartbeats 4000000 in
theorem en_feedV0 {u : World} {E : Nat} {Bs : Nat → Prop} {lo hi md : Int} {st : JSt} {V : List Out} {f0 f1 : Int} (h : EAt u E Bs lo hi md st V V f0 f1) (hp : PlanOk lo hi) (la : st.a.length ≤ 300) (lb : st.b.length ≤ 300) (hL : Laid u) (hz : ¬ Bs 0) (rk rt rv : Int)
    (hv : ValidV V (feedC lo hi md 0 ⟨rk, rt, rv⟩ st)) (hl : V.length < 900000) :
    Calls Tryz.prog 25 #[.pointer (some ⟨E, 0, none⟩), .int .i64 0, .agg #[.int .i64 rk, .int .i64 rt, .int .i64 rv]] u fun e u' =>
      ∃ vo, e = .returned (.tuple #[vo, errV (feedE lo hi 0 ⟨rk, rt, rv⟩ st.x st.y (st.of 0).length)]) ∧ CRow u' u.heap.size vo (feedC lo hi md 0 ⟨rk, rt, rv⟩ st) ∧
        EUpV u u' E Bs lo hi md (feedJ lo hi 0 ⟨rk, rt, rv⟩ st) (applyV V (feedC lo hi md 0 ⟨rk, rt, rv⟩ st)) (applyV V (feedC lo hi md 0 ⟨rk, rt, rv⟩ st)) (fedI (feedE lo hi 0 ⟨rk, rt, rv⟩ st.x st.y (st.of 0).length) f0) f1 vo := by
  obtain ⟨P, M, v0, v1, D, DG, ents, hI, rfl⟩ := h
  have hxb : Ext u (u.alloc (.cells #[.int .i64 rk, .int .i64 rt, .int .i64 rv] 56)) := (ExtM.refl u).alloc _
  have hfo := hI.foot
  go_enter Tryz.func25, Tryz.ntmps25
  go_upto_region 1 with fail
  have b0 : (u.alloc (.cells #[.int .i64 rk, .int .i64 rt, .int .i64 rv] 56)).cell? ⟨u.heap.size, 0, none⟩ = some (.int .i64 rk) := by go_simp
  have b1 : (u.alloc (.cells #[.int .i64 rk, .int .i64 rt, .int .i64 rv] 56)).cell? ⟨u.heap.size, 1, none⟩ = some (.int .i64 rt) := by go_simp
  have b2 : (u.alloc (.cells #[.int .i64 rk, .int .i64 rt, .int .i64 rv] 56)).cell? ⟨u.heap.size, 2, none⟩ = some (.int .i64 rv) := by go_simp
  have hnJ : ¬ JFoot P M v0 v1 u.heap.size := fun e => by have := hfo _ (.inl e); omega
  have hEJ : ¬ JFoot P M v0 v1 E := fun e => (hI.sJ E e).1 (.inl rfl)
  have hI2 := hI.ext hxb
  have hL2 := hL.of hxb
  have hsz := hxb.size
  generalize u.alloc (.cells #[.int .i64 rk, .int .i64 rt, .int .i64 rv] 56) = w1 at *
  generalize hn : u.heap.size = n at *
  have hnl : n < w1.heap.size := cell_lt' b0
  have hEl := hI2.lt
  have c3 := hI2.c3
  refine Plan.begin (Plan.ExtL E n) 12 rfl (by kernel_rfl) ?_
  refine Plan.left_q 0 (by rfl) (by kernel_rfl) ?_; go_big_quiet_step (fail); refine wpQuiet_nil ?_
  refine Plan.left_q 1 (by rfl) (by kernel_rfl) ?_; go_big_quiet_step (fail); refine wpQuiet_nil ?_
  refine Plan.left_q 2 (by rfl) (by kernel_rfl) ?_; go_big_quiet_step (fail); refine wpQuiet_nil ?_
  refine Plan.left_q 3 (by rfl) (by kernel_rfl) ?_; go_big_quiet_step (fail); refine wpQuiet_nil ?_
  refine Plan.left_q 4 (by rfl) (by kernel_rfl) ?_; go_big_quiet_step (fail); refine wpQuiet_nil ?_
  refine Plan.left_q 5 (by rfl) (by kernel_rfl) ?_; go_big_quiet_step (fail); refine wpQuiet_nil ?_
  refine Plan.left_one 6 (by kernel_rfl) (by rfl) (Plan.plain rfl fun K hK => ?_)
  go_wp2_with (fail)
  refine (en_join0 (hI2.ext (ExtM.refl _).drew) hp la lb rk rt rv).mono ?_
  rintro e w2 ⟨vo, rfl, h2, hrow, hgo⟩
  have H2 := ExtL.trans _ _ _ (ExtL.refl _).drew (ExtL.of_M hEJ hnJ h2)
  obtain ⟨hc2, hf2, -⟩ := ExtL.rules H2
  have hs2_0 : E < w2.heap.size := by have := H2.size; (try simp at this); omega
  have hs2_1 : n < w2.heap.size := by have := H2.size; (try simp at this); omega
  go_wp2_with (fail)
  refine hK _ _ (ExtL.of_M hEJ hnJ h2) ?_
  clear hK K
  refine Plan.left_q 7 (by rfl) (by kernel_rfl) ?_; go_big_quiet_step (fail); refine wpQuiet_nil ?_
  refine Plan.left_q 8 (by rfl) (by kernel_rfl) ?_; go_big_quiet_step (fail); refine wpQuiet_nil ?_
  refine Plan.left_q 9 (by rfl) (by kernel_rfl) ?_; go_big_quiet_step (fail); refine wpQuiet_nil ?_
  refine Plan.left_q 10 (by rfl) (by kernel_rfl) ?_; go_big_quiet_step (fail); refine wpQuiet_nil ?_
  refine Plan.left_q 11 (by rfl) (by kernel_rfl) ?_; go_big_quiet_step (fail); refine wpQuiet_nil ?_
  refine Plan.left_done (by kernel_rfl) ?_
  obtain ⟨hx2, Bs2, hat, hB2, hsep⟩ := id hgo
  have hL3 : Laid w2 := (hL2.of (ExtM.refl _).drew).ofM hx2 hz
  have hC := Lib.hid hv
  have hbs : u.heap.size ≤ w1.drew.heap.size := by show u.heap.size ≤ w1.heap.size; omega
  clear hv b0 b1 b2 c3
  generalize hEe : feedE lo hi 0 ⟨rk, rt, rv⟩ st.x st.y (st.of 0).length = e at *
  have HE := Lib.hid hEe
  clear hEe
  by_cases z0 : e = 0
  · subst z0
    have er : errV 0 = .nilIface := rfl
    rw [er]
    go_upto_region 3 with (go_at_call 15; refine (tell_nil _).mono ?_; rintro e w2 ⟨rfl, rfl⟩)
    have c7 := hat.c70
    have z7 := hat.fz 7
    have hE3 := hat.lt _ hat.mine
    refine Plan.beginT Plan.Ext [10] 11 rfl (by kernel_rfl) ?_
    refine Plan.left_q 0 (by rfl) (by kernel_rfl) ?_; go_big_quiet_step (fail); refine wpQuiet_nil ?_
    refine Plan.left_q 1 (by rfl) (by kernel_rfl) ?_; go_big_quiet_step (fail); refine wpQuiet_nil ?_
    refine Plan.left_q 2 (by rfl) (by kernel_rfl) ?_; go_big_quiet_step (fail); refine wpQuiet_nil ?_
    refine Plan.left_q 3 (by rfl) (by kernel_rfl) ?_; go_big_quiet_step (fail); refine wpQuiet_nil ?_
    refine Plan.left_q 4 (by rfl) (by kernel_rfl) ?_; go_big_quiet_step (fail); refine wpQuiet_nil ?_
    refine Plan.left_q 5 (by rfl) (by kernel_rfl) ?_; go_big_quiet_step (fail); refine wpQuiet_nil ?_
    refine Plan.left_q 6 (by rfl) (by kernel_rfl) ?_; go_big_quiet_step (fail); refine wpQuiet_nil ?_
    refine Plan.left_one 7 (by kernel_rfl) (by rfl) (Plan.plain rfl fun K hK => ?_)
    go_wp2_with (fail)
    refine hK _ _ (ExtM.refl _) ?_
    clear hK K
    refine Plan.left_one 8 (by kernel_rfl) (by rfl) (Plan.plain rfl fun K hK => ?_)
    go_wp2_with (fail)
    refine hK _ _ (ExtM.refl _) ?_
    clear hK K
    refine Plan.left_q 9 (by rfl) (by kernel_rfl) ?_; go_big_quiet_step (fail); refine wpQuiet_nil ?_
    refine Plan.left_one 10 (by kernel_rfl) (by rfl) (Plan.last rfl (by kernel_rfl) fun K hK => ?_)
    go_wp2_with (fail)
    refine Plan.left_done (by kernel_rfl) ?_
    have hu4 := EUp.fed (x := wrap64 (f0 + 1)) hat.mine (EUp.same hat (ExtM.refl w2).drew) 7 (.inl ⟨rfl, rfl, rfl⟩)
    have hF : fedI 0 f0 = wrap64 (f0 + 1) := if_pos (.inl rfl)
    obtain ⟨hx4, Bs4, hat4, hB4⟩ := id hu4
    have hrow4 : CRow _ _ vo _ := own_ext hrow hx4 hsep
    have hsep4 : ∀ k, vo.ownBlock = some k → ¬ Bs4 k := fun k hk hf => by
      rcases hB4 k hf with q | q
      · exact hsep k hk q
      · have := (own_lt hrow k hk).2; omega
    go_wp2_with (go_at_call 50; refine (applies_c hat4 _ vo _ hrow4 hsep4 (feedC_ok hI.okA hI.okB) hC.out (by have := feedC_len lo hi md 0 ⟨rk, rt, rv⟩ st la lb; omega)).mono ?_; rintro e w5 ⟨rfl, hu5⟩)
    go_ret2
    rw [HE.out, hF]
    obtain ⟨hx5, Bs5, hat5, hB5⟩ := id hu5
    refine ⟨vo, rfl, own_weaken (own_ext hrow4 hu5.1 hsep4) hbs, (EUp.before hxb (EUp.before (ExtM.refl _).drew (EUp.trans hx2 hB2 (EUp.trans hx4 hB4 hu5)))).1, Bs5, hat5, fun k hk => ?_, fun k hk hf => ?_⟩
    · rcases hB5 k hk with q | q
      · rcases hB4 k q with q | q
        · rcases hB2 k q with q | q
          · exact .inl q
          · exact .inr (Nat.le_trans hbs q)
        · exact .inr (Nat.le_trans hbs (Nat.le_trans hx2.size q))
      · exact .inr (Nat.le_trans hbs (Nat.le_trans hx2.size (Nat.le_trans hx4.size q)))
    · rcases hB5 k hf with q | q
      · exact hsep4 k hk q
      · have := (own_lt hrow4 k hk).2; omega
  · have hnil : feedC lo hi md 0 ⟨rk, rt, rv⟩ st = [] := by unfold feedC; rw [if_neg (by rw [HE.out]; exact z0)]
    by_cases z1 : e = 10
    · subst z1
      have er : errV 10 = .iface 48 (.int .i64 10) := rfl
      rw [er]
      go_upto_region 3 with (go_at_call 15; first | (refine (tell_c 10 _ hL3).mono ?_; rintro e w3 ⟨rfl, hx3⟩) | (refine (tell_c 10 _ (hL3.of hx3)).mono ?_; rintro e w4 ⟨rfl, hx4⟩))
      have hx24 := ExtM.trans _ _ _ hx3 hx4
      have hat4 := hat.ext hx24
      clear hx3 hx4
      have c7 := hat4.c70
      have z7 := hat4.fz 7
      have hE3 := hat4.lt _ hat4.mine
      refine Plan.beginT Plan.Ext [10] 11 rfl (by kernel_rfl) ?_
      refine Plan.left_q 0 (by rfl) (by kernel_rfl) ?_; go_big_quiet_step (fail); refine wpQuiet_nil ?_
      refine Plan.left_q 1 (by rfl) (by kernel_rfl) ?_; go_big_quiet_step (fail); refine wpQuiet_nil ?_
      refine Plan.left_q 2 (by rfl) (by kernel_rfl) ?_; go_big_quiet_step (fail); refine wpQuiet_nil ?_
      refine Plan.left_q 3 (by rfl) (by kernel_rfl) ?_; go_big_quiet_step (fail); refine wpQuiet_nil ?_
      refine Plan.left_q 4 (by rfl) (by kernel_rfl) ?_; go_big_quiet_step (fail); refine wpQuiet_nil ?_
      refine Plan.left_q 5 (by rfl) (by kernel_rfl) ?_; go_big_quiet_step (fail); refine wpQuiet_nil ?_
      refine Plan.left_q 6 (by rfl) (by kernel_rfl) ?_; go_big_quiet_step (fail); refine wpQuiet_nil ?_
      refine Plan.left_one 7 (by kernel_rfl) (by rfl) (Plan.plain rfl fun K hK => ?_)
      go_wp2_with (fail)
      refine hK _ _ (ExtM.refl _) ?_
      clear hK K
      refine Plan.left_one 8 (by kernel_rfl) (by rfl) (Plan.plain rfl fun K hK => ?_)
      go_wp2_with (fail)
      refine hK _ _ (ExtM.refl _) ?_
      clear hK K
      refine Plan.left_q 9 (by rfl) (by kernel_rfl) ?_; go_big_quiet_step (fail); refine wpQuiet_nil ?_
      refine Plan.left_one 10 (by kernel_rfl) (by rfl) (Plan.last rfl (by kernel_rfl) fun K hK => ?_)
      go_wp2_with (fail)
      refine Plan.left_done (by kernel_rfl) ?_
      have hu4 := EUp.fed (x := wrap64 (f0 + 1)) hat.mine (EUp.after (EUp.same hat hx24) (ExtM.refl w4).drew) 7 (.inl ⟨rfl, rfl, rfl⟩)
      have hF : fedI 10 f0 = wrap64 (f0 + 1) := if_pos (.inr rfl)
      go_wp2_with fail
      go_ret2
      rw [HE.out, hF, hnil, er]
      exact ⟨.slice none 0 0, rfl, nilC _ _, EUp.vnil (EUp.before hxb (EUp.before (ExtM.refl _).drew (EUp.trans hx2 hB2 hu4)))⟩
    · have er : errV e = .iface 48 (.int .i64 e) := if_neg z0
      rw [er]
      have d0 : (e == 0) = false := by simp [z0]
      have d1 : (e == 10) = false := by simp [z1]
      have hF : fedI e f0 = f0 := if_neg (fun q => q.elim z0 z1)
      have HF := Lib.hid hF
      clear hF
      go_wp2_with (go_at_call 15; first | (refine (tell_c e _ hL3).mono ?_; rintro e w3 ⟨rfl, hx3⟩) | (refine (tell_c e _ (hL3.of hx3)).mono ?_; rintro e w4 ⟨rfl, hx4⟩))
      go_ret2
      rw [HE.out, HF.out, hnil, er]
      exact ⟨.slice none 0 0, rfl, nilC _ _, EUp.vnil (EUp.before hxb (EUp.before (ExtM.refl _).drew (EUp.trans hx2 hB2 (EUp.same hat (ExtM.trans _ _ _ hx3 hx4)))))⟩
theorem en_feed0 {u : World} {E : Nat} {Bs : Nat → Prop} {lo hi md : Int} {st : JSt} {V : List Out} {f0 f1 : Int} (h : EAt u E Bs lo hi md st V V f0 f1) (hp : PlanOk lo hi) (la : st.a.length ≤ 300) (lb : st.b.length ≤ 300) (hL : Laid u) (hz : ¬ Bs 0) (rk rt rv : Int)
    (hv : ValidV V (feedC lo hi md 0 ⟨rk, rt, rv⟩ st)) (hl : V.length < 900000) :
    Calls Tryz.prog 25 #[.pointer (some ⟨E, 0, none⟩), .int .i64 0, .agg #[.int .i64 rk, .int .i64 rt, .int .i64 rv]] u fun e u' =>
      ∃ vo, e = .returned (.tuple #[vo, errV (feedE lo hi 0 ⟨rk, rt, rv⟩ st.x st.y (st.of 0).length)]) ∧ CRow u' u.heap.size vo (feedC lo hi md 0 ⟨rk, rt, rv⟩ st) ∧
        EUp u u' E Bs lo hi md (feedJ lo hi 0 ⟨rk, rt, rv⟩ st) (applyV V (feedC lo hi md 0 ⟨rk, rt, rv⟩ st)) (applyV V (feedC lo hi md 0 ⟨rk, rt, rv⟩ st)) (fedI (feedE lo hi 0 ⟨rk, rt, rv⟩ st.x st.y (st.of 0).length) f0) f1 :=
  (en_feedV0 h hp la lb hL hz rk rt rv hv hl).mono fun e u' hh => by
    obtain ⟨vo, h1, h2, h3⟩ := hh
    exact ⟨vo, h1, h2, h3.up⟩
set_option maxRecDepth 100000 in
set_option maxHeartbeats 4000000 in
theorem en_feedV1 {u : World} {E : Nat} {Bs : Nat → Prop} {lo hi md : Int} {st : JSt} {V : List Out} {f0 f1 : Int} (h : EAt u E Bs lo hi md st V V f0 f1) (hp : PlanOk lo hi) (la : st.a.length ≤ 300) (lb : st.b.length ≤ 300) (hL : Laid u) (hz : ¬ Bs 0) (rk rt rv : Int)
    (hv : ValidV V (feedC lo hi md 1 ⟨rk, rt, rv⟩ st)) (hl : V.length < 900000) :
    Calls Tryz.prog 25 #[.pointer (some ⟨E, 0, none⟩), .int .i64 1, .agg #[.int .i64 rk, .int .i64 rt, .int .i64 rv]] u fun e u' =>
      ∃ vo, e = .returned (.tuple #[vo, errV (feedE lo hi 1 ⟨rk, rt, rv⟩ st.x st.y (st.of 1).length)]) ∧ CRow u' u.heap.size vo (feedC lo hi md 1 ⟨rk, rt, rv⟩ st) ∧
        EUpV u u' E Bs lo hi md (feedJ lo hi 1 ⟨rk, rt, rv⟩ st) (applyV V (feedC lo hi md 1 ⟨rk, rt, rv⟩ st)) (applyV V (feedC lo hi md 1 ⟨rk, rt, rv⟩ st)) f0 (fedI (feedE lo hi 1 ⟨rk, rt, rv⟩ st.x st.y (st.of 1).length) f1) vo := by
  obtain ⟨P, M, v0, v1, D, DG, ents, hI, rfl⟩ := h
  have hxb : Ext u (u.alloc (.cells #[.int .i64 rk, .int .i64 rt, .int .i64 rv] 56)) := (ExtM.refl u).alloc _
  have hfo := hI.foot
  go_enter Tryz.func25, Tryz.ntmps25
  go_upto_region 1 with fail
  have b0 : (u.alloc (.cells #[.int .i64 rk, .int .i64 rt, .int .i64 rv] 56)).cell? ⟨u.heap.size, 0, none⟩ = some (.int .i64 rk) := by go_simp
  have b1 : (u.alloc (.cells #[.int .i64 rk, .int .i64 rt, .int .i64 rv] 56)).cell? ⟨u.heap.size, 1, none⟩ = some (.int .i64 rt) := by go_simp
  have b2 : (u.alloc (.cells #[.int .i64 rk, .int .i64 rt, .int .i64 rv] 56)).cell? ⟨u.heap.size, 2, none⟩ = some (.int .i64 rv) := by go_simp
  have hnJ : ¬ JFoot P M v0 v1 u.heap.size := fun e => by have := hfo _ (.inl e); omega
  have hEJ : ¬ JFoot P M v0 v1 E := fun e => (hI.sJ E e).1 (.inl rfl)
  have hI2 := hI.ext hxb
  have hL2 := hL.of hxb
  have hsz := hxb.size
  generalize u.alloc (.cells #[.int .i64 rk, .int .i64 rt, .int .i64 rv] 56) = w1 at *
  generalize hn : u.heap.size = n at *
  have hnl : n < w1.heap.size := cell_lt' b0
  have hEl := hI2.lt
  have c3 := hI2.c3
  refine Plan.begin (Plan.ExtL E n) 12 rfl (by kernel_rfl) ?_
  refine Plan.left_q 0 (by rfl) (by kernel_rfl) ?_; go_big_quiet_step (fail); refine wpQuiet_nil ?_
  refine Plan.left_q 1 (by rfl) (by kernel_rfl) ?_; go_big_quiet_step (fail); refine wpQuiet_nil ?_
  refine Plan.left_q 2 (by rfl) (by kernel_rfl) ?_; go_big_quiet_step (fail); refine wpQuiet_nil ?_
  refine Plan.left_q 3 (by rfl) (by kernel_rfl) ?_; go_big_quiet_step (fail); refine wpQuiet_nil ?_
  refine Plan.left_q 4 (by rfl) (by kernel_rfl) ?_; go_big_quiet_step (fail); refine wpQuiet_nil ?_
  refine Plan.left_q 5 (by rfl) (by kernel_rfl) ?_; go_big_quiet_step (fail); refine wpQuiet_nil ?_
  refine Plan.left_one 6 (by kernel_rfl) (by rfl) (Plan.plain rfl fun K hK => ?_)
  go_wp2_with (fail)
  refine (en_join1 (hI2.ext (ExtM.refl _).drew) hp la lb rk rt rv).mono ?_
  rintro e w2 ⟨vo, rfl, h2, hrow, hgo⟩
  have H2 := ExtL.trans _ _ _ (ExtL.refl _).drew (ExtL.of_M hEJ hnJ h2)
  obtain ⟨hc2, hf2, -⟩ := ExtL.rules H2
  have hs2_0 : E < w2.heap.size := by have := H2.size; (try simp at this); omega
  have hs2_1 : n < w2.heap.size := by have := H2.size; (try simp at this); omega
  go_wp2_with (fail)
  refine hK _ _ (ExtL.of_M hEJ hnJ h2) ?_
  clear hK K
  refine Plan.left_q 7 (by rfl) (by kernel_rfl) ?_; go_big_quiet_step (fail); refine wpQuiet_nil ?_
  refine Plan.left_q 8 (by rfl) (by kernel_rfl) ?_; go_big_quiet_step (fail); refine wpQuiet_nil ?_
  refine Plan.left_q 9 (by rfl) (by kernel_rfl) ?_; go_big_quiet_step (fail); refine wpQuiet_nil ?_
  refine Plan.left_q 10 (by rfl) (by kernel_rfl) ?_; go_big_quiet_step (fail); refine wpQuiet_nil ?_
  refine Plan.left_q 11 (by rfl) (by kernel_rfl) ?_; go_big_quiet_step (fail); refine wpQuiet_nil ?_
  refine Plan.left_done (by kernel_rfl) ?_
  obtain ⟨hx2, Bs2, hat, hB2, hsep⟩ := id hgo
  have hL3 : Laid w2 := (hL2.of (ExtM.refl _).drew).ofM hx2 hz
  have hC := Lib.hid hv
  have hbs : u.heap.size ≤ w1.drew.heap.size := by show u.heap.size ≤ w1.heap.size; omega
  clear hv b0 b1 b2 c3
  generalize hEe : feedE lo hi 1 ⟨rk, rt, rv⟩ st.x st.y (st.of 1).length = e at *
  have HE := Lib.hid hEe
  clear hEe
  by_cases z0 : e = 0
  · subst z0
    have er : errV 0 = .nilIface := rfl
    rw [er]
    go_upto_region 3 with (go_at_call 15; refine (tell_nil _).mono ?_; rintro e w2 ⟨rfl, rfl⟩)
    have c7 := hat.c71
    have z7 := hat.fz 8
    have hE3 := hat.lt _ hat.mine
    refine Plan.beginT Plan.Ext [10] 11 rfl (by kernel_rfl) ?_
    refine Plan.left_q 0 (by rfl) (by kernel_rfl) ?_; go_big_quiet_step (fail); refine wpQuiet_nil ?_
    refine Plan.left_q 1 (by rfl) (by kernel_rfl) ?_; go_big_quiet_step (fail); refine wpQuiet_nil ?_
    refine Plan.left_q 2 (by rfl) (by kernel_rfl) ?_; go_big_quiet_step (fail); refine wpQuiet_nil ?_
    refine Plan.left_q 3 (by rfl) (by kernel_rfl) ?_; go_big_quiet_step (fail); refine wpQuiet_nil ?_
    refine Plan.left_q 4 (by rfl) (by kernel_rfl) ?_; go_big_quiet_step (fail); refine wpQuiet_nil ?_
    refine Plan.left_q 5 (by rfl) (by kernel_rfl) ?_; go_big_quiet_step (fail); refine wpQuiet_nil ?_
    refine Plan.left_q 6 (by rfl) (by kernel_rfl) ?_; go_big_quiet_step (fail); refine wpQuiet_nil ?_
    refine Plan.left_one 7 (by kernel_rfl) (by rfl) (Plan.plain rfl fun K hK => ?_)
    go_wp2_with (fail)
    refine hK _ _ (ExtM.refl _) ?_
    clear hK K
    refine Plan.left_one 8 (by kernel_rfl) (by rfl) (Plan.plain rfl fun K hK => ?_)
    go_wp2_with (fail)
    refine hK _ _ (ExtM.refl _) ?_
    clear hK K
    refine Plan.left_q 9 (by rfl) (by kernel_rfl) ?_; go_big_quiet_step (fail); refine wpQuiet_nil ?_
    refine Plan.left_one 10 (by kernel_rfl) (by rfl) (Plan.last rfl (by kernel_rfl) fun K hK => ?_)
    go_wp2_with (fail)
    refine Plan.left_done (by kernel_rfl) ?_
    have hu4 := EUp.fed (x := wrap64 (f1 + 1)) hat.mine (EUp.same hat (ExtM.refl w2).drew) 8 (.inr ⟨rfl, rfl, rfl⟩)
    have hF : fedI 0 f1 = wrap64 (f1 + 1) := if_pos (.inl rfl)
    obtain ⟨hx4, Bs4, hat4, hB4⟩ := id hu4
    have hrow4 : CRow _ _ vo _ := own_ext hrow hx4 hsep
    have hsep4 : ∀ k, vo.ownBlock = some k → ¬ Bs4 k := fun k hk hf => by
      rcases hB4 k hf with q | q
      · exact hsep k hk q
      · have := (own_lt hrow k hk).2; omega
    go_wp2_with (go_at_call 50; refine (applies_c hat4 _ vo _ hrow4 hsep4 (feedC_ok hI.okA hI.okB) hC.out (by have := feedC_len lo hi md 1 ⟨rk, rt, rv⟩ st la lb; omega)).mono ?_; rintro e w5 ⟨rfl, hu5⟩)
    go_ret2
    rw [HE.out, hF]
    obtain ⟨hx5, Bs5, hat5, hB5⟩ := id hu5
    refine ⟨vo, rfl, own_weaken (own_ext hrow4 hu5.1 hsep4) hbs, (EUp.before hxb (EUp.before (ExtM.refl _).drew (EUp.trans hx2 hB2 (EUp.trans hx4 hB4 hu5)))).1, Bs5, hat5, fun k hk => ?_, fun k hk hf => ?_⟩
    · rcases hB5 k hk with q | q
      · rcases hB4 k q with q | q
        · rcases hB2 k q with q | q
          · exact .inl q
          · exact .inr (Nat.le_trans hbs q)
        · exact .inr (Nat.le_trans hbs (Nat.le_trans hx2.size q))
      · exact .inr (Nat.le_trans hbs (Nat.le_trans hx2.size (Nat.le_trans hx4.size q)))
    · rcases hB5 k hf with q | q
      · exact hsep4 k hk q
      · have := (own_lt hrow4 k hk).2; omega
  · have hnil : feedC lo hi md 1 ⟨rk, rt, rv⟩ st = [] := by unfold feedC; rw [if_neg (by rw [HE.out]; exact z0)]
    by_cases z1 : e = 10
    · subst z1
      have er : errV 10 = .iface 48 (.int .i64 10) := rfl
      rw [er]
      go_upto_region 3 with (go_at_call 15; first | (refine (tell_c 10 _ hL3).mono ?_; rintro e w3 ⟨rfl, hx3⟩) | (refine (tell_c 10 _ (hL3.of hx3)).mono ?_; rintro e w4 ⟨rfl, hx4⟩))
      have hx24 := ExtM.trans _ _ _ hx3 hx4
      have hat4 := hat.ext hx24
      clear hx3 hx4
      have c7 := hat4.c71
      have z7 := hat4.fz 8
      have hE3 := hat4.lt _ hat4.mine
      refine Plan.beginT Plan.Ext [10] 11 rfl (by kernel_rfl) ?_
      refine Plan.left_q 0 (by rfl) (by kernel_rfl) ?_; go_big_quiet_step (fail); refine wpQuiet_nil ?_
      refine Plan.left_q 1 (by rfl) (by kernel_rfl) ?_; go_big_quiet_step (fail); refine wpQuiet_nil ?_
      refine Plan.left_q 2 (by rfl) (by kernel_rfl) ?_; go_big_quiet_step (fail); refine wpQuiet_nil ?_
      refine Plan.left_q 3 (by rfl) (by kernel_rfl) ?_; go_big_quiet_step (fail); refine wpQuiet_nil ?_
      refine Plan.left_q 4 (by rfl) (by kernel_rfl) ?_; go_big_quiet_step (fail); refine wpQuiet_nil ?_
      refine Plan.left_q 5 (by rfl) (by kernel_rfl) ?_; go_big_quiet_step (fail); refine wpQuiet_nil ?_
      refine Plan.left_q 6 (by rfl) (by kernel_rfl) ?_; go_big_quiet_step (fail); refine wpQuiet_nil ?_
      refine Plan.left_one 7 (by kernel_rfl) (by rfl) (Plan.plain rfl fun K hK => ?_)
      go_wp2_with (fail)
      refine hK _ _ (ExtM.refl _) ?_
      clear hK K
      refine Plan.left_one 8 (by kernel_rfl) (by rfl) (Plan.plain rfl fun K hK => ?_)
      go_wp2_with (fail)
      refine hK _ _ (ExtM.refl _) ?_
      clear hK K
      refine Plan.left_q 9 (by rfl) (by kernel_rfl) ?_; go_big_quiet_step (fail); refine wpQuiet_nil ?_
      refine Plan.left_one 10 (by kernel_rfl) (by rfl) (Plan.last rfl (by kernel_rfl) fun K hK => ?_)
      go_wp2_with (fail)
      refine Plan.left_done (by kernel_rfl) ?_
      have hu4 := EUp.fed (x := wrap64 (f1 + 1)) hat.mine (EUp.after (EUp.same hat hx24) (ExtM.refl w4).drew) 8 (.inr ⟨rfl, rfl, rfl⟩)
      have hF : fedI 10 f1 = wrap64 (f1 + 1) := if_pos (.inr rfl)
      go_wp2_with fail
      go_ret2
      rw [HE.out, hF, hnil, er]
      exact ⟨.slice none 0 0, rfl, nilC _ _, EUp.vnil (EUp.before hxb (EUp.before (ExtM.refl _).drew (EUp.trans hx2 hB2 hu4)))⟩
    · have er : errV e = .iface 48 (.int .i64 e) := if_neg z0
      rw [er]
      have d0 : (e == 0) = false := by simp [z0]
      have d1 : (e == 10) = false := by simp [z1]
      have hF : fedI e f1 = f1 := if_neg (fun q => q.elim z0 z1)
      have HF := Lib.hid hF
      clear hF
      go_wp2_with (go_at_call 15; first | (refine (tell_c e _ hL3).mono ?_; rintro e w3 ⟨rfl, hx3⟩) | (refine (tell_c e _ (hL3.of hx3)).mono ?_; rintro e w4 ⟨rfl, hx4⟩))
      go_ret2
      rw [HE.out, HF.out, hnil, er]
      exact ⟨.slice none 0 0, rfl, nilC _ _, EUp.vnil (EUp.before hxb (EUp.before (ExtM.refl _).drew (EUp.trans hx2 hB2 (EUp.same hat (ExtM.trans _ _ _ hx3 hx4)))))⟩
theorem en_feed1 {u : World} {E : Nat} {Bs : Nat → Prop} {lo hi md : Int} {st : JSt} {V : List Out} {f0 f1 : Int} (h : EAt u E Bs lo hi md st V V f0 f1) (hp : PlanOk lo hi) (la : st.a.length ≤ 300) (lb : st.b.length ≤ 300) (hL : Laid u) (hz : ¬ Bs 0) (rk rt rv : Int)
    (hv : ValidV V (feedC lo hi md 1 ⟨rk, rt, rv⟩ st)) (hl : V.length < 900000) :
    Calls Tryz.prog 25 #[.pointer (some ⟨E, 0, none⟩), .int .i64 1, .agg #[.int .i64 rk, .int .i64 rt, .int .i64 rv]] u fun e u' =>
      ∃ vo, e = .returned (.tuple #[vo, errV (feedE lo hi 1 ⟨rk, rt, rv⟩ st.x st.y (st.of 1).length)]) ∧ CRow u' u.heap.size vo (feedC lo hi md 1 ⟨rk, rt, rv⟩ st) ∧
        EUp u u' E Bs lo hi md (feedJ lo hi 1 ⟨rk, rt, rv⟩ st) (applyV V (feedC lo hi md 1 ⟨rk, rt, rv⟩ st)) (applyV V (feedC lo hi md 1 ⟨rk, rt, rv⟩ st)) f0 (fedI (feedE lo hi 1 ⟨rk, rt, rv⟩ st.x st.y (st.of 1).length) f1) :=
  (en_feedV1 h hp la lb hL hz rk rt rv hv hl).mono fun e u' hh => by
    obtain ⟨vo, h1, h2, h3⟩ := hh
    exact ⟨vo, h1, h2, h3.up⟩
end Go.Proofs.YtmcgnnmffeojpaaGreatDoor
