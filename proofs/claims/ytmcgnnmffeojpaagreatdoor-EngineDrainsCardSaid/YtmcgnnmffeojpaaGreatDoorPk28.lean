/- A tale in memory, and a new one. -/
import Derived.Test.YtmcgnnmffeojpaaGreatDoorPk10
import Derived.Test.YtmcgnnmffeojpaaGreatDoorPk26
import Derived.Test.YtmcgnnmffeojpaaGreatDoorPk27
import Derived.Deep.DeepCutAuto
import Derived.Deep.CutBlock
/- The engine's Feed: the walk. -/
namespace Go.Proofs.YtmcgnnmffeojpaaGreatDoor
open Go.RowKit Go.Plan

/-- The count of the rows that came, behind a Feed that ends with e. -/
def fedI (e f : Int) : Int := if e = 0 ∨ e = 10 then wrap64 (f + 1) else f

section
variable {u : World} {E : Nat} {Bs : Nat → Prop} {lo hi md : Int} {st : JSt} {V W : List Out} {f0 f1 : Int}
theorem EAt.c70 (h : EAt u E Bs lo hi md st V W f0 f1) : u.cell? ⟨E, 7, none⟩ = some (.int .i64 f0) := by obtain ⟨_, _, _, _, _, _, _, h, -⟩ := h; exact h.c7
theorem EAt.c71 (h : EAt u E Bs lo hi md st V W f0 f1) : u.cell? ⟨E, 8, none⟩ = some (.int .i64 f1) := by obtain ⟨_, _, _, _, _, _, _, h, -⟩ := h; exact h.c8
theorem EAt.fz (h : EAt u E Bs lo hi md st V W f0 f1) (q : Nat) : u.frozen? ⟨E, q, none⟩ = false := by obtain ⟨_, _, _, _, _, _, _, h, -⟩ := h; exact h.fz q
end
/-- What a Feed leaves: the row of what changes lies apart. -/
def EUpV (u u' : World) (E : Nat) (Bs : Nat → Prop) (lo hi md : Int) (st : JSt) (V W : List Out) (f0 f1 : Int) (vo : Value) : Prop :=
  ExtM Bs u u' ∧ ∃ Bs', EAt u' E Bs' lo hi md st V W f0 f1 ∧ (∀ k, Bs' k → Bs k ∨ u.heap.size ≤ k) ∧ ∀ k, vo.ownBlock = some k → ¬ Bs' k
theorem EUpV.up {u u' : World} {E : Nat} {Bs : Nat → Prop} {lo hi md : Int} {st : JSt} {V W : List Out} {f0 f1 : Int} {vo : Value} (h : EUpV u u' E Bs lo hi md st V W f0 f1 vo) : EUp u u' E Bs lo hi md st V W f0 f1 := by
  obtain ⟨h1, Bs', h2, h3, -⟩ := h; exact ⟨h1, Bs', h2, h3⟩
theorem EUp.vnil {u u' : World} {E : Nat} {Bs : Nat → Prop} {lo hi md : Int} {st : JSt} {V W : List Out} {f0 f1 : Int} (h : EUp u u' E Bs lo hi md st V W f0 f1) : EUpV u u' E Bs lo hi md st V W f0 f1 (.slice none 0 0) := by
  obtain ⟨h1, Bs', h2, h3⟩ := h; exact ⟨h1, Bs', h2, h3, fun k hk => nomatch hk⟩
set_option maxRecDepth 100000 in
set_option maxHeartbeats 4000000 in
theorem en_feedV0 {u : World} {E : Nat} {Bs : Nat → Prop} {lo hi md : Int} {st : JSt} {V : List Out} {f0 f1 : Int} (h : EAt u E Bs lo hi md st V V f0 f1) (hp : PlanOk lo hi) (la : st.a.length ≤ 300) (lb : st.b.length ≤ 300) (hL : Laid u) (hz : ¬ Bs 0) (rk rt rv : Int)
    (hv : ValidV V (feedC lo hi md 0 ⟨rk, rt, rv⟩ st)) (hl : V.length < 900000) :
    Calls Tryz.prog 25 #[.pointer (some ⟨E, 0, none⟩), .int .i64 0, .agg #[.int .i64 rk, .int .i64 rt, .int .i64 rv]] u fun e u' =>
      ∃ vo, e = .returned (.tuple #[vo, errV (feedE lo hi 0 ⟨rk, rt, rv⟩ st.x st.y (st.of 0).length)]) ∧ CRow u' u.heap.size vo (feedC lo hi md 0 ⟨rk, rt, rv⟩ st) ∧
        EUpV u u' E Bs lo hi md (feedJ lo hi 0 ⟨rk, rt, rv⟩ st) (applyV V (feedC lo hi md 0 ⟨rk, rt, rv⟩ st)) (applyV V (feedC lo hi md 0 ⟨rk, rt, rv⟩ st)) (fedI (feedE lo hi 0 ⟨rk, rt, rv⟩ st.x st.y (st.of 0).length) f0) f1 vo := by
  obtain ⟨P, M, v0, v1, D, DG, ents, hI, rfl⟩ := h
  have hxb : Ext u (u.alloc (.cells #[.int .i64 rk, .int .i64 rt, .int .i64 rv] 56)) := (ExtM.refl u).alloc _
  have hfo := hI.foot
  go_enter Tryz.func25, Tryz.ntmps25
  go_upto_region 1 with fail
  have b0 : (u.alloc (.cells #[.int .i64 rk, .int .i64 rt, .int .i64 rv] 56)).cell? ⟨u.heap.size, 0, none⟩ = some (.int .i64 rk) := by go_simp
  have b1 : (u.alloc (.cells #[.int .i64 rk, .int .i64 rt, .int .i64 rv] 56)).cell? ⟨u.heap.size, 1, none⟩ = some (.int .i64 rt) := by go_simp
  have b2 : (u.alloc (.cells #[.int .i64 rk, .int .i64 rt, .int .i64 rv] 56)).cell? ⟨u.heap.size, 2, none⟩ = some (.int .i64 rv) := by go_simp
  have hnJ : ¬ JFoot P M v0 v1 u.heap.size := fun e => by have := hfo _ (.inl e); omega
  have hEJ : ¬ JFoot P M v0 v1 E := fun e => (hI.sJ E e).1 (.inl rfl)
  have hI2 := hI.ext hxb
  have hL2 := hL.of hxb
  have hsz := hxb.size
  generalize u.alloc (.cells #[.int .i64 rk, .int .i64 rt, .int .i64 rv] 56) = w1 at *
  generalize hn : u.heap.size = n at *
  have hnl : n < w1.heap.size := cell_lt' b0
  have hEl := hI2.lt
  have c3 := hI2.c3
  refine Plan.begin (Plan.ExtL E n) 12 rfl (by kernel_rfl) ?_
  refine Plan.left_q 0 (by rfl) (by kernel_rfl) ?_; go_big_quiet_step (fail); refine wpQuiet_nil ?_
  refine Plan.left_q 1 (by rfl) (by kernel_rfl) ?_; go_big_quiet_step (fail); refine wpQuiet_nil ?_
  refine Plan.left_q 2 (by rfl) (by kernel_rfl) ?_; go_big_quiet_step (fail); refine wpQuiet_nil ?_
  refine Plan.left_q 3 (by rfl) (by kernel_rfl) ?_; go_big_quiet_step (fail); refine wpQuiet_nil ?_
  refine Plan.left_q 4 (by rfl) (by kernel_rfl) ?_; go_big_quiet_step (fail); refine wpQuiet_nil ?_
  refine Plan.left_q 5 (by rfl) (by kernel_rfl) ?_; go_big_quiet_step (fail); refine wpQuiet_nil ?_
  refine Plan.left_one 6 (by kernel_rfl) (by rfl) (Plan.plain rfl fun K hK => ?_)
  go_wp2_with (fail)
  refine (en_join0 (hI2.ext (ExtM.refl _).drew) hp la lb rk rt rv).mono ?_
  rintro e w2 ⟨vo, rfl, h2, hrow, hgo⟩
  have H2 := ExtL.trans _ _ _ (ExtL.refl _).drew (ExtL.of_M hEJ hnJ h2)
  obtain ⟨hc2, hf2, -⟩ := ExtL.rules H2
  have hs2_0 : E < w2.heap.size := by have := H2.size; (try simp at this); omega
  have hs2_1 : n < w2.heap.size := by have := H2.size; (try simp at this); omega
  go_wp2_with (fail)
  refine hK _ _ (ExtL.of_M hEJ hnJ h2) ?_
  clear hK K
  refine Plan.left_q 7 (by rfl) (by kernel_rfl) ?_; go_big_quiet_step (fail); refine wpQuiet_nil ?_
  refine Plan.left_q 8 (by rfl) (by kernel_rfl) ?_; go_big_quiet_step (fail); refine wpQuiet_nil ?_
  refine Plan.left_q 9 (by rfl) (by kernel_rfl) ?_; go_big_quiet_step (fail); refine wpQuiet_nil ?_
  refine Plan.left_q 10 (by rfl) (by kernel_rfl) ?_; go_big_quiet_step (fail); refine wpQuiet_nil ?_
  refine Plan.left_q 11 (by rfl) (by kernel_rfl) ?_; go_big_quiet_step (fail); refine wpQuiet_nil ?_
  refine Plan.left_done (by kernel_rfl) ?_
  obtain ⟨hx2, Bs2, hat, hB2, hsep⟩ := id hgo
  have hL3 : Laid w2 := (hL2.of (ExtM.refl _).drew).ofM hx2 hz
  have hC := Lib.hid hv
  have hbs : u.heap.size ≤ w1.drew.heap.size := by show u.heap.size ≤ w1.heap.size; omega
  clear hv b0 b1 b2 c3
  generalize hEe : feedE lo hi 0 ⟨rk, rt, rv⟩ st.x st.y (st.of 0).length = e at *
  have HE := Lib.hid hEe
  clear hEe
  by_cases z0 : e = 0
  · subst z0
    have er : errV 0 = .nilIface := rfl
    rw [er]
    go_upto_region 3 with (go_at_call 15; refine (tell_nil _).mono ?_; rintro e w2 ⟨rfl, rfl⟩)
    have c7 := hat.c70
    have z7 := hat.fz 7
    have hE3 := hat.lt _ hat.mine
    refine Plan.beginT Plan.Ext [10] 11 rfl (by kernel_rfl) ?_
    refine Plan.left_q 0 (by rfl) (by kernel_rfl) ?_; go_big_quiet_step (fail); refine wpQuiet_nil ?_
    refine Plan.left_q 1 (by rfl) (by kernel_rfl) ?_; go_big_quiet_step (fail); refine wpQuiet_nil ?_
    refine Plan.left_q 2 (by rfl) (by kernel_rfl) ?_; go_big_quiet_step (fail); refine wpQuiet_nil ?_
    refine Plan.left_q 3 (by rfl) (by kernel_rfl) ?_; go_big_quiet_step (fail); refine wpQuiet_nil ?_
    refine Plan.left_q 4 (by rfl) (by kernel_rfl) ?_; go_big_quiet_step (fail); refine wpQuiet_nil ?_
    refine Plan.left_q 5 (by rfl) (by kernel_rfl) ?_; go_big_quiet_step (fail); refine wpQuiet_nil ?_
    refine Plan.left_q 6 (by rfl) (by kernel_rfl) ?_; go_big_quiet_step (fail); refine wpQuiet_nil ?_
    refine Plan.left_one 7 (by kernel_rfl) (by rfl) (Plan.plain rfl fun K hK => ?_)
    go_wp2_with (fail)
    refine hK _ _ (ExtM.refl _) ?_
    clear hK K
    refine Plan.left_one 8 (by kernel_rfl) (by rfl) (Plan.plain rfl fun K hK => ?_)
    go_wp2_with (fail)
    refine hK _ _ (ExtM.refl _) ?_
    clear hK K
    refine Plan.left_q 9 (by rfl) (by kernel_rfl) ?_; go_big_quiet_step (fail); refine wpQuiet_nil ?_
    refine Plan.left_one 10 (by kernel_rfl) (by rfl) (Plan.last rfl (by kernel_rfl) fun K hK => ?_)
    go_wp2_with (fail)
    refine Plan.left_done (by kernel_rfl) ?_
    have hu4 := EUp.fed (x := wrap64 (f0 + 1)) hat.mine (EUp.same hat (ExtM.refl w2).drew) 7 (.inl ⟨rfl, rfl, rfl⟩)
    have hF : fedI 0 f0 = wrap64 (f0 + 1) := if_pos (.inl rfl)
    obtain ⟨hx4, Bs4, hat4, hB4⟩ := id hu4
    have hrow4 : CRow _ _ vo _ := own_ext hrow hx4 hsep
    have hsep4 : ∀ k, vo.ownBlock = some k → ¬ Bs4 k := fun k hk hf => by
      rcases hB4 k hf with q | q
      · exact hsep k hk q
      · have := (own_lt hrow k hk).2; omega
    go_wp2_with (go_at_call 50; refine (applies_c hat4 _ vo _ hrow4 hsep4 (feedC_ok hI.okA hI.okB) hC.out (by have := feedC_len lo hi md 0 ⟨rk, rt, rv⟩ st la lb; omega)).mono ?_; rintro e w5 ⟨rfl, hu5⟩)
    go_ret2
    rw [HE.out, hF]
    obtain ⟨hx5, Bs5, hat5, hB5⟩ := id hu5
    refine ⟨vo, rfl, own_weaken (own_ext hrow4 hu5.1 hsep4) hbs, (EUp.before hxb (EUp.before (ExtM.refl _).drew (EUp.trans hx2 hB2 (EUp.trans hx4 hB4 hu5)))).1, Bs5, hat5, fun k hk => ?_, fun k hk hf => ?_⟩
    · rcases hB5 k hk with q | q
      · rcases hB4 k q with q | q
        · rcases hB2 k q with q | q
          · exact .inl q
          · exact .inr (Nat.le_trans hbs q)
        · exact .inr (Nat.le_trans hbs (Nat.le_trans hx2.size q))
      · exact .inr (Nat.le_trans hbs (Nat.le_trans hx2.size (Nat.le_trans hx4.size q)))
    · rcases hB5 k hf with q | q
      · exact hsep4 k hk q
      · have := (own_lt hrow4 k hk).2; omega
  · have hnil : feedC lo hi md 0 ⟨rk, rt, rv⟩ st = [] := by unfold feedC; rw [if_neg (by rw [HE.out]; exact z0)]
    by_cases z1 : e = 10
    · subst z1
      have er : errV 10 = .iface 48 (.int .i64 10) := rfl
      rw [er]
      go_upto_region 3 with (go_at_call 15; first | (refine (tell_c 10 _ hL3).mono ?_; rintro e w3 ⟨rfl, hx3⟩) | (refine (tell_c 10 _ (hL3.of hx3)).mono ?_; rintro e w4 ⟨rfl, hx4⟩))
      have hx24 := ExtM.trans _ _ _ hx3 hx4
      have hat4 := hat.ext hx24
      clear hx3 hx4
      have c7 := hat4.c70
      have z7 := hat4.fz 7
      have hE3 := hat4.lt _ hat4.mine
      refine Plan.beginT Plan.Ext [10] 11 rfl (by kernel_rfl) ?_
      refine Plan.left_q 0 (by rfl) (by kernel_rfl) ?_; go_big_quiet_step (fail); refine wpQuiet_nil ?_
      refine Plan.left_q 1 (by rfl) (by kernel_rfl) ?_; go_big_quiet_step (fail); refine wpQuiet_nil ?_
      refine Plan.left_q 2 (by rfl) (by kernel_rfl) ?_; go_big_quiet_step (fail); refine wpQuiet_nil ?_
      refine Plan.left_q 3 (by rfl) (by kernel_rfl) ?_; go_big_quiet_step (fail); refine wpQuiet_nil ?_
      refine Plan.left_q 4 (by rfl) (by kernel_rfl) ?_; go_big_quiet_step (fail); refine wpQuiet_nil ?_
      refine Plan.left_q 5 (by rfl) (by kernel_rfl) ?_; go_big_quiet_step (fail); refine wpQuiet_nil ?_
      refine Plan.left_q 6 (by rfl) (by kernel_rfl) ?_; go_big_quiet_step (fail); refine wpQuiet_nil ?_
      refine Plan.left_one 7 (by kernel_rfl) (by rfl) (Plan.plain rfl fun K hK => ?_)
      go_wp2_with (fail)
      refine hK _ _ (ExtM.refl _) ?_
      clear hK K
      refine Plan.left_one 8 (by kernel_rfl) (by rfl) (Plan.plain rfl fun K hK => ?_)
      go_wp2_with (fail)
      refine hK _ _ (ExtM.refl _) ?_
      clear hK K
      refine Plan.left_q 9 (by rfl) (by kernel_rfl) ?_; go_big_quiet_step (fail); refine wpQuiet_nil ?_
      refine Plan.left_one 10 (by kernel_rfl) (by rfl) (Plan.last rfl (by kernel_rfl) fun K hK => ?_)
      go_wp2_with (fail)
      refine Plan.left_done (by kernel_rfl) ?_
      have hu4 := EUp.fed (x := wrap64 (f0 + 1)) hat.mine (EUp.after (EUp.same hat hx24) (ExtM.refl w4).drew) 7 (.inl ⟨rfl, rfl, rfl⟩)
      have hF : fedI 10 f0 = wrap64 (f0 + 1) := if_pos (.inr rfl)
      go_wp2_with fail
      go_ret2
      rw [HE.out, hF, hnil, er]
      exact ⟨.slice none 0 0, rfl, nilC _ _, EUp.vnil (EUp.before hxb (EUp.before (ExtM.refl _).drew (EUp.trans hx2 hB2 hu4)))⟩
    · have er : errV e = .iface 48 (.int .i64 e) := if_neg z0
      rw [er]
      have d0 : (e == 0) = false := by simp [z0]
      have d1 : (e == 10) = false := by simp [z1]
      have hF : fedI e f0 = f0 := if_neg (fun q => q.elim z0 z1)
      have HF := Lib.hid hF
      clear hF
      go_wp2_with (go_at_call 15; first | (refine (tell_c e _ hL3).mono ?_; rintro e w3 ⟨rfl, hx3⟩) | (refine (tell_c e _ (hL3.of hx3)).mono ?_; rintro e w4 ⟨rfl, hx4⟩))
      go_ret2
      rw [HE.out, HF.out, hnil, er]
      exact ⟨.slice none 0 0, rfl, nilC _ _, EUp.vnil (EUp.before hxb (EUp.before (ExtM.refl _).drew (EUp.trans hx2 hB2 (EUp.same hat (ExtM.trans _ _ _ hx3 hx4)))))⟩
theorem en_feed0 {u : World} {E : Nat} {Bs : Nat → Prop} {lo hi md : Int} {st : JSt} {V : List Out} {f0 f1 : Int} (h : EAt u E Bs lo hi md st V V f0 f1) (hp : PlanOk lo hi) (la : st.a.length ≤ 300) (lb : st.b.length ≤ 300) (hL : Laid u) (hz : ¬ Bs 0) (rk rt rv : Int)
    (hv : ValidV V (feedC lo hi md 0 ⟨rk, rt, rv⟩ st)) (hl : V.length < 900000) :
    Calls Tryz.prog 25 #[.pointer (some ⟨E, 0, none⟩), .int .i64 0, .agg #[.int .i64 rk, .int .i64 rt, .int .i64 rv]] u fun e u' =>
      ∃ vo, e = .returned (.tuple #[vo, errV (feedE lo hi 0 ⟨rk, rt, rv⟩ st.x st.y (st.of 0).length)]) ∧ CRow u' u.heap.size vo (feedC lo hi md 0 ⟨rk, rt, rv⟩ st) ∧
        EUp u u' E Bs lo hi md (feedJ lo hi 0 ⟨rk, rt, rv⟩ st) (applyV V (feedC lo hi md 0 ⟨rk, rt, rv⟩ st)) (applyV V (feedC lo hi md 0 ⟨rk, rt, rv⟩ st)) (fedI (feedE lo hi 0 ⟨rk, rt, rv⟩ st.x st.y (st.of 0).length) f0) f1 :=
  (en_feedV0 h hp la lb hL hz rk rt rv hv hl).mono fun e u' hh => by
    obtain ⟨vo, h1, h2, h3⟩ := hh
    exact ⟨vo, h1, h2, h3.up⟩
set_option maxRecDepth 100000 in
set_option maxHeartbeats 4000000 in
theorem en_feedV1 {u : World} {E : Nat} {Bs : Nat → Prop} {lo hi md : Int} {st : JSt} {V : List Out} {f0 f1 : Int} (h : EAt u E Bs lo hi md st V V f0 f1) (hp : PlanOk lo hi) (la : st.a.length ≤ 300) (lb : st.b.length ≤ 300) (hL : Laid u) (hz : ¬ Bs 0) (rk rt rv : Int)
    (hv : ValidV V (feedC lo hi md 1 ⟨rk, rt, rv⟩ st)) (hl : V.length < 900000) :
    Calls Tryz.prog 25 #[.pointer (some ⟨E, 0, none⟩), .int .i64 1, .agg #[.int .i64 rk, .int .i64 rt, .int .i64 rv]] u fun e u' =>
      ∃ vo, e = .returned (.tuple #[vo, errV (feedE lo hi 1 ⟨rk, rt, rv⟩ st.x st.y (st.of 1).length)]) ∧ CRow u' u.heap.size vo (feedC lo hi md 1 ⟨rk, rt, rv⟩ st) ∧
        EUpV u u' E Bs lo hi md (feedJ lo hi 1 ⟨rk, rt, rv⟩ st) (applyV V (feedC lo hi md 1 ⟨rk, rt, rv⟩ st)) (applyV V (feedC lo hi md 1 ⟨rk, rt, rv⟩ st)) f0 (fedI (feedE lo hi 1 ⟨rk, rt, rv⟩ st.x st.y (st.of 1).length) f1) vo := by
  obtain ⟨P, M, v0, v1, D, DG, ents, hI, rfl⟩ := h
  have hxb : Ext u (u.alloc (.cells #[.int .i64 rk, .int .i64 rt, .int .i64 rv] 56)) := (ExtM.refl u).alloc _
  have hfo := hI.foot
  go_enter Tryz.func25, Tryz.ntmps25
  go_upto_region 1 with fail
  have b0 : (u.alloc (.cells #[.int .i64 rk, .int .i64 rt, .int .i64 rv] 56)).cell? ⟨u.heap.size, 0, none⟩ = some (.int .i64 rk) := by go_simp
  have b1 : (u.alloc (.cells #[.int .i64 rk, .int .i64 rt, .int .i64 rv] 56)).cell? ⟨u.heap.size, 1, none⟩ = some (.int .i64 rt) := by go_simp
  have b2 : (u.alloc (.cells #[.int .i64 rk, .int .i64 rt, .int .i64 rv] 56)).cell? ⟨u.heap.size, 2, none⟩ = some (.int .i64 rv) := by go_simp
  have hnJ : ¬ JFoot P M v0 v1 u.heap.size := fun e => by have := hfo _ (.inl e); omega
  have hEJ : ¬ JFoot P M v0 v1 E := fun e => (hI.sJ E e).1 (.inl rfl)
  have hI2 := hI.ext hxb
  have hL2 := hL.of hxb
  have hsz := hxb.size
  generalize u.alloc (.cells #[.int .i64 rk, .int .i64 rt, .int .i64 rv] 56) = w1 at *
  generalize hn : u.heap.size = n at *
  have hnl : n < w1.heap.size := cell_lt' b0
  have hEl := hI2.lt
  have c3 := hI2.c3
  refine Plan.begin (Plan.ExtL E n) 12 rfl (by kernel_rfl) ?_
  refine Plan.left_q 0 (by rfl) (by kernel_rfl) ?_; go_big_quiet_step (fail); refine wpQuiet_nil ?_
  refine Plan.left_q 1 (by rfl) (by kernel_rfl) ?_; go_big_quiet_step (fail); refine wpQuiet_nil ?_
  refine Plan.left_q 2 (by rfl) (by kernel_rfl) ?_; go_big_quiet_step (fail); refine wpQuiet_nil ?_
  refine Plan.left_q 3 (by rfl) (by kernel_rfl) ?_; go_big_quiet_step (fail); refine wpQuiet_nil ?_
  refine Plan.left_q 4 (by rfl) (by kernel_rfl) ?_; go_big_quiet_step (fail); refine wpQuiet_nil ?_
  refine Plan.left_q 5 (by rfl) (by kernel_rfl) ?_; go_big_quiet_step (fail); refine wpQuiet_nil ?_
  refine Plan.left_one 6 (by kernel_rfl) (by rfl) (Plan.plain rfl fun K hK => ?_)
  go_wp2_with (fail)
  refine (en_join1 (hI2.ext (ExtM.refl _).drew) hp la lb rk rt rv).mono ?_
  rintro e w2 ⟨vo, rfl, h2, hrow, hgo⟩
  have H2 := ExtL.trans _ _ _ (ExtL.refl _).drew (ExtL.of_M hEJ hnJ h2)
  obtain ⟨hc2, hf2, -⟩ := ExtL.rules H2
  have hs2_0 : E < w2.heap.size := by have := H2.size; (try simp at this); omega
  have hs2_1 : n < w2.heap.size := by have := H2.size; (try simp at this); omega
  go_wp2_with (fail)
  refine hK _ _ (ExtL.of_M hEJ hnJ h2) ?_
  clear hK K
  refine Plan.left_q 7 (by rfl) (by kernel_rfl) ?_; go_big_quiet_step (fail); refine wpQuiet_nil ?_
  refine Plan.left_q 8 (by rfl) (by kernel_rfl) ?_; go_big_quiet_step (fail); refine wpQuiet_nil ?_
  refine Plan.left_q 9 (by rfl) (by kernel_rfl) ?_; go_big_quiet_step (fail); refine wpQuiet_nil ?_
  refine Plan.left_q 10 (by rfl) (by kernel_rfl) ?_; go_big_quiet_step (fail); refine wpQuiet_nil ?_
  refine Plan.left_q 11 (by rfl) (by kernel_rfl) ?_; go_big_quiet_step (fail); refine wpQuiet_nil ?_
  refine Plan.left_done (by kernel_rfl) ?_
  obtain ⟨hx2, Bs2, hat, hB2, hsep⟩ := id hgo
  have hL3 : Laid w2 := (hL2.of (ExtM.refl _).drew).ofM hx2 hz
  have hC := Lib.hid hv
  have hbs : u.heap.size ≤ w1.drew.heap.size := by show u.heap.size ≤ w1.heap.size; omega
  clear hv b0 b1 b2 c3
  generalize hEe : feedE lo hi 1 ⟨rk, rt, rv⟩ st.x st.y (st.of 1).length = e at *
  have HE := Lib.hid hEe
  clear hEe
  by_cases z0 : e = 0
  · subst z0
    have er : errV 0 = .nilIface := rfl
    rw [er]
    go_upto_region 3 with (go_at_call 15; refine (tell_nil _).mono ?_; rintro e w2 ⟨rfl, rfl⟩)
    have c7 := hat.c71
    have z7 := hat.fz 8
    have hE3 := hat.lt _ hat.mine
    refine Plan.beginT Plan.Ext [10] 11 rfl (by kernel_rfl) ?_
    refine Plan.left_q 0 (by rfl) (by kernel_rfl) ?_; go_big_quiet_step (fail); refine wpQuiet_nil ?_
    refine Plan.left_q 1 (by rfl) (by kernel_rfl) ?_; go_big_quiet_step (fail); refine wpQuiet_nil ?_
    refine Plan.left_q 2 (by rfl) (by kernel_rfl) ?_; go_big_quiet_step (fail); refine wpQuiet_nil ?_
    refine Plan.left_q 3 (by rfl) (by kernel_rfl) ?_; go_big_quiet_step (fail); refine wpQuiet_nil ?_
    refine Plan.left_q 4 (by rfl) (by kernel_rfl) ?_; go_big_quiet_step (fail); refine wpQuiet_nil ?_
    refine Plan.left_q 5 (by rfl) (by kernel_rfl) ?_; go_big_quiet_step (fail); refine wpQuiet_nil ?_
    refine Plan.left_q 6 (by rfl) (by kernel_rfl) ?_; go_big_quiet_step (fail); refine wpQuiet_nil ?_
    refine Plan.left_one 7 (by kernel_rfl) (by rfl) (Plan.plain rfl fun K hK => ?_)
    go_wp2_with (fail)
    refine hK _ _ (ExtM.refl _) ?_
    clear hK K
    refine Plan.left_one 8 (by kernel_rfl) (by rfl) (Plan.plain rfl fun K hK => ?_)
    go_wp2_with (fail)
    refine hK _ _ (ExtM.refl _) ?_
    clear hK K
    refine Plan.left_q 9 (by rfl) (by kernel_rfl) ?_; go_big_quiet_step (fail); refine wpQuiet_nil ?_
    refine Plan.left_one 10 (by kernel_rfl) (by rfl) (Plan.last rfl (by kernel_rfl) fun K hK => ?_)
    go_wp2_with (fail)
    refine Plan.left_done (by kernel_rfl) ?_
    have hu4 := EUp.fed (x := wrap64 (f1 + 1)) hat.mine (EUp.same hat (ExtM.refl w2).drew) 8 (.inr ⟨rfl, rfl, rfl⟩)
    have hF : fedI 0 f1 = wrap64 (f1 + 1) := if_pos (.inl rfl)
    obtain ⟨hx4, Bs4, hat4, hB4⟩ := id hu4
    have hrow4 : CRow _ _ vo _ := own_ext hrow hx4 hsep
    have hsep4 : ∀ k, vo.ownBlock = some k → ¬ Bs4 k := fun k hk hf => by
      rcases hB4 k hf with q | q
      · exact hsep k hk q
      · have := (own_lt hrow k hk).2; omega
    go_wp2_with (go_at_call 50; refine (applies_c hat4 _ vo _ hrow4 hsep4 (feedC_ok hI.okA hI.okB) hC.out (by have := feedC_len lo hi md 1 ⟨rk, rt, rv⟩ st la lb; omega)).mono ?_; rintro e w5 ⟨rfl, hu5⟩)
    go_ret2
    rw [HE.out, hF]
    obtain ⟨hx5, Bs5, hat5, hB5⟩ := id hu5
    refine ⟨vo, rfl, own_weaken (own_ext hrow4 hu5.1 hsep4) hbs, (EUp.before hxb (EUp.before (ExtM.refl _).drew (EUp.trans hx2 hB2 (EUp.trans hx4 hB4 hu5)))).1, Bs5, hat5, fun k hk => ?_, fun k hk hf => ?_⟩
    · rcases hB5 k hk with q | q
      · rcases hB4 k q with q | q
        · rcases hB2 k q with q | q
          · exact .inl q
          · exact .inr (Nat.le_trans hbs q)
        · exact .inr (Nat.le_trans hbs (Nat.le_trans hx2.size q))
      · exact .inr (Nat.le_trans hbs (Nat.le_trans hx2.size (Nat.le_trans hx4.size q)))
    · rcases hB5 k hf with q | q
      · exact hsep4 k hk q
      · have := (own_lt hrow4 k hk).2; omega
  · have hnil : feedC lo hi md 1 ⟨rk, rt, rv⟩ st = [] := by unfold feedC; rw [if_neg (by rw [HE.out]; exact z0)]
    by_cases z1 : e = 10
    · subst z1
      have er : errV 10 = .iface 48 (.int .i64 10) := rfl
      rw [er]
      go_upto_region 3 with (go_at_call 15; first | (refine (tell_c 10 _ hL3).mono ?_; rintro e w3 ⟨rfl, hx3⟩) | (refine (tell_c 10 _ (hL3.of hx3)).mono ?_; rintro e w4 ⟨rfl, hx4⟩))
      have hx24 := ExtM.trans _ _ _ hx3 hx4
      have hat4 := hat.ext hx24
      clear hx3 hx4
      have c7 := hat4.c71
      have z7 := hat4.fz 8
      have hE3 := hat4.lt _ hat4.mine
      refine Plan.beginT Plan.Ext [10] 11 rfl (by kernel_rfl) ?_
      refine Plan.left_q 0 (by rfl) (by kernel_rfl) ?_; go_big_quiet_step (fail); refine wpQuiet_nil ?_
      refine Plan.left_q 1 (by rfl) (by kernel_rfl) ?_; go_big_quiet_step (fail); refine wpQuiet_nil ?_
      refine Plan.left_q 2 (by rfl) (by kernel_rfl) ?_; go_big_quiet_step (fail); refine wpQuiet_nil ?_
      refine Plan.left_q 3 (by rfl) (by kernel_rfl) ?_; go_big_quiet_step (fail); refine wpQuiet_nil ?_
      refine Plan.left_q 4 (by rfl) (by kernel_rfl) ?_; go_big_quiet_step (fail); refine wpQuiet_nil ?_
      refine Plan.left_q 5 (by rfl) (by kernel_rfl) ?_; go_big_quiet_step (fail); refine wpQuiet_nil ?_
      refine Plan.left_q 6 (by rfl) (by kernel_rfl) ?_; go_big_quiet_step (fail); refine wpQuiet_nil ?_
      refine Plan.left_one 7 (by kernel_rfl) (by rfl) (Plan.plain rfl fun K hK => ?_)
      go_wp2_with (fail)
      refine hK _ _ (ExtM.refl _) ?_
      clear hK K
      refine Plan.left_one 8 (by kernel_rfl) (by rfl) (Plan.plain rfl fun K hK => ?_)
      go_wp2_with (fail)
      refine hK _ _ (ExtM.refl _) ?_
      clear hK K
      refine Plan.left_q 9 (by rfl) (by kernel_rfl) ?_; go_big_quiet_step (fail); refine wpQuiet_nil ?_
      refine Plan.left_one 10 (by kernel_rfl) (by rfl) (Plan.last rfl (by kernel_rfl) fun K hK => ?_)
      go_wp2_with (fail)
      refine Plan.left_done (by kernel_rfl) ?_
      have hu4 := EUp.fed (x := wrap64 (f1 + 1)) hat.mine (EUp.after (EUp.same hat hx24) (ExtM.refl w4).drew) 8 (.inr ⟨rfl, rfl, rfl⟩)
      have hF : fedI 10 f1 = wrap64 (f1 + 1) := if_pos (.inr rfl)
      go_wp2_with fail
      go_ret2
      rw [HE.out, hF, hnil, er]
      exact ⟨.slice none 0 0, rfl, nilC _ _, EUp.vnil (EUp.before hxb (EUp.before (ExtM.refl _).drew (EUp.trans hx2 hB2 hu4)))⟩
    · have er : errV e = .iface 48 (.int .i64 e) := if_neg z0
      rw [er]
      have d0 : (e == 0) = false := by simp [z0]
      have d1 : (e == 10) = false := by simp [z1]
      have hF : fedI e f1 = f1 := if_neg (fun q => q.elim z0 z1)
      have HF := Lib.hid hF
      clear hF
      go_wp2_with (go_at_call 15; first | (refine (tell_c e _ hL3).mono ?_; rintro e w3 ⟨rfl, hx3⟩) | (refine (tell_c e _ (hL3.of hx3)).mono ?_; rintro e w4 ⟨rfl, hx4⟩))
      go_ret2
      rw [HE.out, HF.out, hnil, er]
      exact ⟨.slice none 0 0, rfl, nilC _ _, EUp.vnil (EUp.before hxb (EUp.before (ExtM.refl _).drew (EUp.trans hx2 hB2 (EUp.same hat (ExtM.trans _ _ _ hx3 hx4)))))⟩
theorem en_feed1 {u : World} {E : Nat} {Bs : Nat → Prop} {lo hi md : Int} {st : JSt} {V : List Out} {f0 f1 : Int} (h : EAt u E Bs lo hi md st V V f0 f1) (hp : PlanOk lo hi) (la : st.a.length ≤ 300) (lb : st.b.length ≤ 300) (hL : Laid u) (hz : ¬ Bs 0) (rk rt rv : Int)
    (hv : ValidV V (feedC lo hi md 1 ⟨rk, rt, rv⟩ st)) (hl : V.length < 900000) :
    Calls Tryz.prog 25 #[.pointer (some ⟨E, 0, none⟩), .int .i64 1, .agg #[.int .i64 rk, .int .i64 rt, .int .i64 rv]] u fun e u' =>
      ∃ vo, e = .returned (.tuple #[vo, errV (feedE lo hi 1 ⟨rk, rt, rv⟩ st.x st.y (st.of 1).length)]) ∧ CRow u' u.heap.size vo (feedC lo hi md 1 ⟨rk, rt, rv⟩ st) ∧
        EUp u u' E Bs lo hi md (feedJ lo hi 1 ⟨rk, rt, rv⟩ st) (applyV V (feedC lo hi md 1 ⟨rk, rt, rv⟩ st)) (applyV V (feedC lo hi md 1 ⟨rk, rt, rv⟩ st)) f0 (fedI (feedE lo hi 1 ⟨rk, rt, rv⟩ st.x st.y (st.of 1).length) f1) :=
  (en_feedV1 h hp la lb hL hz rk rt rv hv hl).mono fun e u' hh => by
    obtain ⟨vo, h1, h2, h3⟩ := hh
    exact ⟨vo, h1, h2, h3.up⟩
end Go.Proofs.YtmcgnnmffeojpaaGreatDoor
/- A new engine. -/
namespace Go.Proofs.YtmcgnnmffeojpaaGreatDoor
open Go.RowKit Go.Plan

theorem en_born {w : World} {P M : Nat} {lo hi md : Int} {st : JSt} (hJ : JIs w P M (.slice none 0 0) (.slice none 0 0) lo hi md st) (ha : st.a = []) (hb : st.b = []) :
    EIs (w.alloc (.cells #[.int .i64 lo, .int .i64 hi, .int .i64 md, .pointer (some ⟨P, 0, none⟩), .map none, .int .i64 0, .map none, .int .i64 0, .int .i64 0] 87)) w.heap.size P M (.slice none 0 0) (.slice none 0 0) none none [] lo hi md st [] [] 0 0 := by
  have hf : ∀ q, (w.alloc (.cells #[.int .i64 lo, .int .i64 hi, .int .i64 md, .pointer (some ⟨P, 0, none⟩), .map none, .int .i64 0, .map none, .int .i64 0, .int .i64 0] 87)).frozen? ⟨w.heap.size, q, none⟩ = false := fun q => by rw [Go.RowKit.frozen?_alloc_cells]; simp [World.frozen?]
  have hlt : ∀ k, JFoot P M (.slice none 0 0) (.slice none 0 0) k → k < w.heap.size := fun k hk => hJ.foot k hk
  refine ⟨by go_simp, by go_simp, by go_simp, by go_simp, ⟨by go_simp, by go_simp, hf _, hf _, fun _ h => (nomatch h), .inl ⟨rfl, rfl⟩⟩, ⟨by go_simp, hf _, .inl ⟨rfl, rfl⟩, fun _ h => (nomatch h), List.Pairwise.nil, fun _ h => (nomatch h), fun _ h => (nomatch h)⟩,
    RepAll.nil, by go_simp, by go_simp, hf, hJ.ext ((ExtM.refl _).alloc _), fun k hk => ?_, fun k hk => (nomatch hk), by rw [ha]; exact fun _ h => (nomatch h), by rw [hb]; exact fun _ h => (nomatch h)⟩
  have := hlt k hk
  refine ⟨fun e => ?_, fun e => ?_⟩
  · rcases e with e | e
    · omega
    · cases e
  · rcases e with e | e | ⟨_, e, _⟩
    · omega
    · cases e
    · cases e

theorem en_new (lo hi md : Int) (w : World) (hc : checkI lo hi md = 0) :
    Calls Tryz.prog 24 #[.agg #[.int .i64 lo, .int .i64 hi, .int .i64 md]] w fun e w' => ∃ E Bs, e = .returned (.tuple #[.pointer (some ⟨E, 0, none⟩), .nilIface]) ∧ Ext w w' ∧ (∀ k, Bs k → w.heap.size ≤ k) ∧
      EAt w' E Bs lo hi md ⟨[], [], -1099511627777, -1099511627777, 0⟩ [] [] 0 0 := by
  have b0 : (w.alloc (.cells #[.int .i64 lo, .int .i64 hi, .int .i64 md] 32)).cell? ⟨w.heap.size, 0, none⟩ = some (.int .i64 lo) := by go_simp
  have b1 : (w.alloc (.cells #[.int .i64 lo, .int .i64 hi, .int .i64 md] 32)).cell? ⟨w.heap.size, 1, none⟩ = some (.int .i64 hi) := by go_simp
  have b2 : (w.alloc (.cells #[.int .i64 lo, .int .i64 hi, .int .i64 md] 32)).cell? ⟨w.heap.size, 2, none⟩ = some (.int .i64 md) := by go_simp
  have lB : w.heap.size < (w.alloc (.cells #[.int .i64 lo, .int .i64 hi, .int .i64 md] 32)).heap.size := by simp
  have hxa : Ext w (w.alloc (.cells #[.int .i64 lo, .int .i64 hi, .int .i64 md] 32)) := (ExtM.refl _).alloc _
  go_enter Tryz.func24, Tryz.ntmps24
  go_upto_region 1 with fail
  generalize w.alloc (.cells #[.int .i64 lo, .int .i64 hi, .int .i64 md] 32) = w1 at *
  go_upto_region 4 with (go_at_call 48; refine (jnew_c lo hi md _ hc).mono ?_; rintro e w2 ⟨P, M, rfl, hx2, hP, hM, hJ⟩)
  have a0 := (hx2.cell (p := ⟨w.heap.size, 0, none⟩) lB (fun h => h)).trans b0
  have a1 := (hx2.cell (p := ⟨w.heap.size, 1, none⟩) lB (fun h => h)).trans b1
  have a2 := (hx2.cell (p := ⟨w.heap.size, 2, none⟩) lB (fun h => h)).trans b2
  have hs1 := hxa.size
  have hs2 := hx2.size
  go_wp2_with fail
  go_ret2
  refine ⟨_, _, rfl, ExtM.trans _ _ _ hxa (ExtM.trans _ _ _ hx2 ((ExtM.refl _).alloc _)), fun k hk => ?_, P, M, _, _, none, none, [], en_born hJ rfl rfl, rfl⟩
  rcases hk with (hk | hk | hk | hk) | (hk | hk) | (hk | hk | ⟨_, hk, _⟩)
  · omega
  · omega
  · cases hk
  · cases hk
  · omega
  · cases hk
  · omega
  · cases hk
  · cases hk
end Go.Proofs.YtmcgnnmffeojpaaGreatDoor
/- A tale: the plan that it picks. -/
namespace Go.Proofs.YtmcgnnmffeojpaaGreatDoor
open Go.RowKit Go.Plan

def planLo (low : Int) : Int := (pickN low 41 : Nat) - 20
def planHi (low high : Int) : Int := planLo low + (pickN high 30 : Nat)
def planMd (mode : Int) : Int := (pickN mode 4 : Nat)
theorem plan_in (low high mode : Int) : (-20 ≤ planLo low ∧ planLo low ≤ 20) ∧ (planLo low ≤ planHi low high ∧ planHi low high ≤ planLo low + 29) ∧ 0 ≤ planMd mode ∧ planMd mode ≤ 3 := by
  have h1 := pickN_lt low 41 (by decide)
  have h2 := pickN_lt high 30 (by decide)
  have h3 := pickN_lt mode 4 (by decide)
  unfold planHi planLo planMd
  omega
theorem plan_check (low high mode : Int) : checkI (planLo low) (planHi low high) (planMd mode) = 0 := by
  have := plan_in low high mode
  unfold checkI
  rw [if_neg (by omega), if_neg (by omega), if_neg (by omega)]
theorem plan_ok (low high : Int) : PlanOk (planLo low) (planHi low high) := checkI_ok (plan_check low high 0)

set_option maxRecDepth 100000 in
theorem plan_c (low high mode : Int) (w : World) (h1 : I64 low) (h2 : I64 high) (h3 : I64 mode) :
    Calls Tryz.prog 28 #[.int .i64 low, .int .i64 high, .int .i64 mode] w fun e w' => e = .returned (.agg #[.int .i64 (planLo low), .int .i64 (planHi low high), .int .i64 (planMd mode)]) ∧ Ext w w' := by
  have k1 := pickN_lt low 41 (by decide)
  have k2 := pickN_lt high 30 (by decide)
  have k3 := pickN_lt mode 4 (by decide)
  have p1 : ∀ u, Calls Tryz.prog 13 #[.int .i64 low, .int .i64 41] u fun e w' => e = .returned (.int .i64 (pickN low 41 : Nat)) ∧ u = w' := fun u => pick_c low 41 u (by decide) (by decide) h1
  have p2 : ∀ u, Calls Tryz.prog 13 #[.int .i64 high, .int .i64 30] u fun e w' => e = .returned (.int .i64 (pickN high 30 : Nat)) ∧ u = w' := fun u => pick_c high 30 u (by decide) (by decide) h2
  have p3 : ∀ u, Calls Tryz.prog 13 #[.int .i64 mode, .int .i64 4] u fun e w' => e = .returned (.int .i64 (pickN mode 4 : Nat)) ∧ u = w' := fun u => pick_c mode 4 u (by decide) (by decide) h3
  unfold planHi planLo planMd
  generalize pickN low 41 = a at *
  generalize pickN high 30 = b at *
  generalize pickN mode 4 = c at *
  have r1 : wrap64 ((a : Int) - 20) = a - 20 := by unfold wrap64; omega
  have r2 : wrap64 ((a : Int) - 20 + b) = a - 20 + b := by unfold wrap64; omega
  go_enter Tryz.func28, Tryz.ntmps28
  go_wp2_with (go_at_call 13; first | (with_reducible refine (p1 _).mono ?_; rintro e w1 ⟨rfl, rfl⟩) | (with_reducible refine (p2 _).mono ?_; rintro e w1 ⟨rfl, rfl⟩) | (with_reducible refine (p3 _).mono ?_; rintro e w1 ⟨rfl, rfl⟩))
  (try simp only [Exit.inBlock, Exit.then])
  refine bodyPost_ret (results_cell_row rfl _ _ w.heap.size _ _ (0, 0) _ rfl (heap_alloc_new w _) Tryz.underlying32 rfl (by kernel_rfl)) rfl ?_
  exact ⟨rfl, (ExtM.refl _).alloc _⟩
end Go.Proofs.YtmcgnnmffeojpaaGreatDoor
namespace Go.Proofs.YtmcgnnmffeojpaaGreatDoor
open Go.RowKit Go.Plan

/-- How often each came and did not go, zeros kept. -/
def CountsZ (m : List (Out × Value)) (l : List Out) : Prop := ∀ x, (mlook m x).getD (.int .i64 0) = .int .i64 (l.count x)
def rowL (r : Row) : List Value := [.int .i64 r.k, .int .i64 r.t, .int .i64 r.v]
/-- The rows of a side of a tale, in the order of their coming. -/
def TRow (w : World) (b : Nat) (v : Value) (l : List Row) : Prop := w.ownsRow b 56 3 v l.length (l.flatMap rowL)

/-- A tale's own cells. -/
structure TCells (u : World) (T F E : Nat) (lo hi md : Int) (v0 v1 : Value) (x0 x1 : Int) : Prop where
  c0 : u.cell? ⟨T, 0, none⟩ = some (.pointer (some ⟨E, 0, none⟩))
  c1 : u.cell? ⟨T, 1, none⟩ = some (.int .i64 lo)
  c2 : u.cell? ⟨T, 2, none⟩ = some (.int .i64 hi)
  c3 : u.cell? ⟨T, 3, none⟩ = some (.int .i64 md)
  c4 : u.cell? ⟨T, 4, none⟩ = some v0
  c5 : u.cell? ⟨T, 5, none⟩ = some v1
  c6 : u.cell? ⟨T, 6, none⟩ = some (.int .i64 x0)
  c7 : u.cell? ⟨T, 7, none⟩ = some (.int .i64 x1)
  c8 : u.cell? ⟨T, 8, none⟩ = some (.map (some F))
  fz : ∀ q, u.frozen? ⟨T, q, none⟩ = false

set_option maxRecDepth 100000 in
theorem talesnew_c (low high mode : Int) (w : World) (h1 : I64 low) (h2 : I64 high) (h3 : I64 mode) :
    Calls Tryz.prog 8 #[.int .i64 low, .int .i64 high, .int .i64 mode] w fun e w' => ∃ T F E Bs, e = .returned (.pointer (some ⟨T, 0, none⟩)) ∧ Ext w w' ∧
      EAt w' E Bs (planLo low) (planHi low high) (planMd mode) ⟨[], [], -1099511627777, -1099511627777, 0⟩ [] [] 0 0 ∧ TCells w' T F E (planLo low) (planHi low high) (planMd mode) (.slice none 0 0) (.slice none 0 0) (-300) (-300) ∧
      MapIs Tryz.prog 58 encO w' F [] ∧ w.heap.size ≤ T ∧ w.heap.size ≤ F ∧ T ≠ F ∧ ¬ Bs T ∧ ¬ Bs F ∧ ∀ k, Bs k → w.heap.size ≤ k := by
  have hpl := fun u => plan_c low high mode u h1 h2 h3
  have hp := plan_check low high mode
  generalize planLo low = lo at *
  generalize planHi low high = hi at *
  generalize planMd mode = md at *
  have hmm := @run_makeMap Tryz.prog
  go_enter Tryz.func8, Tryz.ntmps8
  go_upto_region 2 with (go_at_call 28; refine (hpl _).mono ?_; rintro e w1 ⟨rfl, hx1⟩)
  have x0 : Ext w1 (w1.alloc (.map #[] 0)) := (ExtM.refl _).alloc _
  have m0 : MapIs Tryz.prog 58 encO (w1.alloc (.map #[] 0)) w1.heap.size ([] : List (Out × Value)) := MapIs.made w1
  have z0 : (w1.alloc (.map #[] 0)).heap.size = w1.heap.size + 1 := by simp
  rw [← z0]
  generalize w1.alloc (.map #[] 0) = wm at *
  have hb : ∀ o v, (#[Value.pointer none, .int .i64 lo, .int .i64 hi, .int .i64 md, .slice none 0 0, .slice none 0 0, .int .i64 (-300), .int .i64 (-300), .map (some w1.heap.size)] : Array Value)[o]? = some v → (wm.alloc (.cells #[Value.pointer none, .int .i64 lo, .int .i64 hi, .int .i64 md, .slice none 0 0, .slice none 0 0, .int .i64 (-300), .int .i64 (-300), .map (some w1.heap.size)] 38)).cell? ⟨wm.heap.size, o, none⟩ = some v := fun o v h =>
    (World.cell?_alloc_at _ _ _ o (by simp)).trans h
  have hf : ∀ o, (wm.alloc (.cells #[Value.pointer none, .int .i64 lo, .int .i64 hi, .int .i64 md, .slice none 0 0, .slice none 0 0, .int .i64 (-300), .int .i64 (-300), .map (some w1.heap.size)] 38)).frozen? ⟨wm.heap.size, o, none⟩ = false := fun o => by
    rw [Go.RowKit.frozen?_alloc_cells]; simp [World.frozen?]
  have x2 : Ext wm (wm.alloc (.cells #[Value.pointer none, .int .i64 lo, .int .i64 hi, .int .i64 md, .slice none 0 0, .slice none 0 0, .int .i64 (-300), .int .i64 (-300), .map (some w1.heap.size)] 38)) := (ExtM.refl _).alloc _
  have b0 := hb 0 (.pointer none) rfl
  have b1 := hb 1 (.int .i64 lo) rfl
  have b2 := hb 2 (.int .i64 hi) rfl
  have b3 := hb 3 (.int .i64 md) rfl
  have b4 := hb 4 (.slice none 0 0) rfl
  have b5 := hb 5 (.slice none 0 0) rfl
  have b6 := hb 6 (.int .i64 (-300)) rfl
  have b7 := hb 7 (.int .i64 (-300)) rfl
  have b8 := hb 8 (.map (some w1.heap.size)) rfl
  clear hb hmm hpl
  generalize wm.alloc (.cells #[Value.pointer none, .int .i64 lo, .int .i64 hi, .int .i64 md, .slice none 0 0, .slice none 0 0, .int .i64 (-300), .int .i64 (-300), .map (some w1.heap.size)] 38) = wt at *
  have lT : wm.heap.size < wt.heap.size := cell_lt' b0
  generalize hT : wm.heap.size = T at *
  have Z0 := Lib.hid z0
  have ZT := Lib.hid hT
  clear z0 hT
  go_upto_region 5 with (go_at_call 24; refine (en_new lo hi md _ hp).mono ?_; rintro e w2 ⟨E, Bs, rfl, hx3, hBs, hat⟩)
  have k := fun o => hx3.cell (p := ⟨T, o, none⟩) lT (fun h => h)
  have a0 := (k 0).trans b0
  have a1 := (k 1).trans b1
  have a2 := (k 2).trans b2
  have a3 := (k 3).trans b3
  have a4 := (k 4).trans b4
  have a5 := (k 5).trans b5
  have a6 := (k 6).trans b6
  have a7 := (k 7).trans b7
  have a8 := (k 8).trans b8
  have hf2 : ∀ q, w2.frozen? ⟨T, q, none⟩ = false := fun q => (hx3.frozen (p := ⟨T, q, none⟩) lT (fun h => h)).trans (hf q)
  have z7 := hf2 0
  have m2 := (m0.of x2 (fun h => h)).of hx3 (fun h => h)
  have l2 := cell_lt' a0
  have hX : Ext w w2 := ExtM.trans _ _ _ hx1 (ExtM.trans _ _ _ x0 (ExtM.trans _ _ _ x2 hx3))
  clear k b0 b1 b2 b3 b4 b5 b6 b7 b8 hf
  go_wp2_with fail
  go_ret
  have hs : ExtM (fun k => k = T) w2 (w2.setCell ⟨T, 0, none⟩ (.pointer (some ⟨E, 0, none⟩))) := ExtM.setCell (M := fun k => k = T) (ExtM.refl _) (p := ⟨T, 0, none⟩) (.inr rfl) _
  have hc : ∀ o, o ≠ 0 → (w2.setCell ⟨T, 0, none⟩ (.pointer (some ⟨E, 0, none⟩))).cell? ⟨T, o, none⟩ = w2.cell? ⟨T, o, none⟩ := fun o ho => World.cell?_setCell_other _ _ _ _ (by intro e; simp only [Addr.mk.injEq, and_true, true_and] at e; omega)
  have q0 := Z0.out
  have q1 := hx1.size
  refine ⟨T, rfl, hX.fresh' hs (fun k hk e => by subst e; omega), w1.heap.size, E, Bs, hat.keep hs (fun k hk e => by have := hBs k hk; omega),
    ⟨World.cell?_setCell_same _ _ _ a0, (hc 1 (by decide)).trans a1, (hc 2 (by decide)).trans a2, (hc 3 (by decide)).trans a3, (hc 4 (by decide)).trans a4, (hc 5 (by decide)).trans a5, (hc 6 (by decide)).trans a6, (hc 7 (by decide)).trans a7, (hc 8 (by decide)).trans a8, fun q => (World.frozen?_setCell _ _ _ _).trans (hf2 q)⟩,
    m2.of hs (by omega), by omega, q1, by omega, fun e => by have := hBs _ e; omega, fun e => by have := hBs _ e; omega, fun k hk => by have := hBs k hk; omega⟩
end Go.Proofs.YtmcgnnmffeojpaaGreatDoor
