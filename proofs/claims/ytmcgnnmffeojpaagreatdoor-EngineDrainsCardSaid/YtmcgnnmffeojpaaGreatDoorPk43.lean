/- A tale's step, whichever it is. -/
import Derived.Test.YtmcgnnmffeojpaaGreatDoorPk30
import Derived.Test.YtmcgnnmffeojpaaGreatDoorPk41
import Derived.Test.YtmcgnnmffeojpaaGreatDoorPk42
/- A tale goes on, and is saved and loaded: the walks. -/
namespace Go.Proofs.YtmcgnnmffeojpaaGreatDoor
open Go.RowKit Go.Plan

/-! ### a side's mark goes on -/
theorem emove0_c {u : World} {E : Nat} {Bs : Nat → Prop} {lo hi md : Int} {st : JSt} {V W : List Out} {f0 f1 : Int} (h : EAt u E Bs lo hi md st V W f0 f1) (hp : PlanOk lo hi) (t : Int) (hl : st.b.length < 1000000) :
    Calls Tryz.prog 23 #[.pointer (some ⟨E, 0, none⟩), .int .i64 0, .int .i64 t] u fun e u' => e = .returned (errV (moveI 0 t st.x st.y)) ∧ EUp u u' E Bs lo hi md (if moveI 0 t st.x st.y = 0 then moveJ lo hi 0 t st else st) V W f0 f1 := by
  obtain ⟨P, c3, hm⟩ := en_move0 h hp t hl
  have lE := h.lt _ h.mine
  have hm0 := hm u (ExtM.refl _)
  clear hm
  generalize (if moveI 0 t st.x st.y = 0 then moveJ lo hi 0 t st else st) = st' at *
  go_enter Tryz.func23, Tryz.ntmps23
  go_wp2_with (go_at_call 47; refine hm0.mono ?_; rintro e w1 ⟨rfl, -, hu⟩; refine Hid.out ?_)
  refine Lib.hid ?_
  clear hm0
  go_wp2_with fail
  go_ret
  exact ⟨rfl, hu⟩
theorem emove1_c {u : World} {E : Nat} {Bs : Nat → Prop} {lo hi md : Int} {st : JSt} {V W : List Out} {f0 f1 : Int} (h : EAt u E Bs lo hi md st V W f0 f1) (hp : PlanOk lo hi) (t : Int) (hl : st.a.length < 1000000) :
    Calls Tryz.prog 23 #[.pointer (some ⟨E, 0, none⟩), .int .i64 1, .int .i64 t] u fun e u' => e = .returned (errV (moveI 1 t st.x st.y)) ∧ EUp u u' E Bs lo hi md (if moveI 1 t st.x st.y = 0 then moveJ lo hi 1 t st else st) V W f0 f1 := by
  obtain ⟨P, c3, hm⟩ := en_move1 h hp t hl
  have lE := h.lt _ h.mine
  have hm0 := hm u (ExtM.refl _)
  clear hm
  generalize (if moveI 1 t st.x st.y = 0 then moveJ lo hi 1 t st else st) = st' at *
  go_enter Tryz.func23, Tryz.ntmps23
  go_wp2_with (go_at_call 47; refine hm0.mono ?_; rintro e w1 ⟨rfl, -, hu⟩; refine Hid.out ?_)
  refine Lib.hid ?_
  clear hm0
  go_wp2_with fail
  go_ret
  exact ⟨rfl, hu⟩
section
variable {u u' : World} {T F E : Nat} {Bs : Nat → Prop} {v0 v1 : Value} {lo hi md x0 x1 : Int} {s : TSt} {m : List (Out × Value)} {W : List Out}
/-- How far it let a mark be. -/
theorem TaleIs.at0 (h : TaleIs u T F E Bs v0 v1 lo hi md s m W) (a : Int) :
    TaleIs (u.setCell ⟨T, 6, none⟩ (.int .i64 a)) T F E Bs v0 v1 lo hi md { s with a0 := a } m W ∧ ExtM (fun k => k = T) u (u.setCell ⟨T, 6, none⟩ (.int .i64 a)) := by
  obtain ⟨hs, hc, hz⟩ := setT T 6 (.int .i64 a) u
  have ho := h.own
  exact ⟨⟨⟨(hc 0 (by decide)).trans ho.c0, (hc 1 (by decide)).trans ho.c1, (hc 2 (by decide)).trans ho.c2, (hc 3 (by decide)).trans ho.c3, (hc 4 (by decide)).trans ho.c4, (hc 5 (by decide)).trans ho.c5, World.cell?_setCell_same _ _ _ ho.c6, (hc 7 (by decide)).trans ho.c7, (hc 8 (by decide)).trans ho.c8, fun q => (hz q).trans (ho.fz q)⟩,
    h.eng.keep hs (fun k hk e => h.nT (e ▸ hk)), own_ext h.r0 hs (fun k hk e => (h.a0 k hk).2.1 e), own_ext h.r1 hs (fun k hk e => (h.a1 k hk).2.1 e), h.mp.of hs (fun e => h.TF e.symm), h.cz, h.nT, h.nF, h.TF, h.a0, h.a1, h.a01⟩, hs⟩
/-- How far it let a mark be. -/
theorem TaleIs.at1 (h : TaleIs u T F E Bs v0 v1 lo hi md s m W) (a : Int) :
    TaleIs (u.setCell ⟨T, 7, none⟩ (.int .i64 a)) T F E Bs v0 v1 lo hi md { s with a1 := a } m W ∧ ExtM (fun k => k = T) u (u.setCell ⟨T, 7, none⟩ (.int .i64 a)) := by
  obtain ⟨hs, hc, hz⟩ := setT T 7 (.int .i64 a) u
  have ho := h.own
  exact ⟨⟨⟨(hc 0 (by decide)).trans ho.c0, (hc 1 (by decide)).trans ho.c1, (hc 2 (by decide)).trans ho.c2, (hc 3 (by decide)).trans ho.c3, (hc 4 (by decide)).trans ho.c4, (hc 5 (by decide)).trans ho.c5, (hc 6 (by decide)).trans ho.c6, World.cell?_setCell_same _ _ _ ho.c7, (hc 8 (by decide)).trans ho.c8, fun q => (hz q).trans (ho.fz q)⟩,
    h.eng.keep hs (fun k hk e => h.nT (e ▸ hk)), own_ext h.r0 hs (fun k hk e => (h.a0 k hk).2.1 e), own_ext h.r1 hs (fun k hk e => (h.a1 k hk).2.1 e), h.mp.of hs (fun e => h.TF e.symm), h.cz, h.nT, h.nF, h.TF, h.a0, h.a1, h.a01⟩, hs⟩
/-- Another engine. -/
theorem TaleIs.loaded {E' N : Nat} {Bs' : Nat → Prop} {V' : List Out} (h : TaleIs u T F E Bs v0 v1 lo hi md s m W) (hE : EAt u E' Bs' lo hi md s.st V' V' s.f0 s.f1) (hB : ∀ k, Bs' k → N ≤ k) (hf : ∀ k, TFoot T F Bs v0 v1 k → k < N) (hp : W.Perm V') :
    TaleIs (u.setCell ⟨T, 0, none⟩ (.pointer (some ⟨E', 0, none⟩))) T F E' Bs' v0 v1 lo hi md { s with V := V' } m V' ∧ ExtM (fun k => k = T) u (u.setCell ⟨T, 0, none⟩ (.pointer (some ⟨E', 0, none⟩))) := by
  obtain ⟨hs, hc, hz⟩ := setT T 0 (.pointer (some ⟨E', 0, none⟩)) u
  have ho := h.own
  have hn : ∀ k, TFoot T F Bs v0 v1 k → ¬ Bs' k := fun k hk e => by have := hB k e; have := hf k hk; omega
  have hT := hn T (.inl rfl)
  exact ⟨⟨⟨World.cell?_setCell_same _ _ _ ho.c0, (hc 1 (by decide)).trans ho.c1, (hc 2 (by decide)).trans ho.c2, (hc 3 (by decide)).trans ho.c3, (hc 4 (by decide)).trans ho.c4, (hc 5 (by decide)).trans ho.c5, (hc 6 (by decide)).trans ho.c6, (hc 7 (by decide)).trans ho.c7, (hc 8 (by decide)).trans ho.c8, fun q => (hz q).trans (ho.fz q)⟩,
    hE.keep hs (fun k hk e => hT (e ▸ hk)), own_ext h.r0 hs (fun k hk e => (h.a0 k hk).2.1 e), own_ext h.r1 hs (fun k hk e => (h.a1 k hk).2.1 e), h.mp.of hs (fun e => h.TF e.symm), h.cz.perm hp, hT, hn F (.inr (.inl rfl)), h.TF,
    fun k hk => ⟨hn k (.inr (.inr (.inr (.inl hk)))), (h.a0 k hk).2⟩, fun k hk => ⟨hn k (.inr (.inr (.inr (.inr hk)))), (h.a1 k hk).2⟩, h.a01⟩, hs⟩
end
theorem moveI_zero {lo hi md : Int} {s : TSt} {n : Nat} (ok : TOk lo hi md s n) (hn : n < 200) {d : Int} (h0 : 0 ≤ d) (h1 : d ≤ 59) : moveI 0 (s.a0 + d) s.st.x s.st.y = 0 ∧ moveI 1 (s.a1 + d) s.st.x s.st.y = 0 := by
  have := ok.a0; have := ok.a1; have := ok.mx; have := ok.my
  constructor
  · unfold moveI ofI
    rw [if_neg (by decide), if_neg (by omega), if_pos rfl, if_neg (by omega)]
  · unfold moveI ofI
    rw [if_neg (by decide), if_neg (by omega)]
    simp only [show ¬ (1 : Int) = 0 by decide, if_false, if_true]
    rw [if_neg (by omega)]
set_option maxRecDepth 100000 in
set_option maxHeartbeats 4000000 in
theorem does10_c {u : World} {T : Nat} {Fs : Nat → Prop} {lo hi md : Int} {s : TSt} {n : Nat} (hTA : TAt u T Fs lo hi md s) (ok : TOk lo hi md s n) (hn : n < 200) (hp : PlanOk lo hi)
    (side nn key time value : Int) (i1 : I64 side) (i2 : I64 nn) (hs : pickN side 2 = 0) :
    Calls Tryz.prog 9 #[.pointer (some ⟨T, 0, none⟩), .agg #[.int .i64 1, .int .i64 side, .int .i64 nn, .int .i64 key, .int .i64 time, .int .i64 value]] u fun e u' => e = .returned (.bool true) ∧ TUp u u' T Fs lo hi md (moveT lo hi 0 (pickN nn 60 : Nat) s) := by
  obtain ⟨F, E, Bs, v0, v1, m, h, rfl⟩ := hTA
  have p0 : ∀ w, Calls Tryz.prog 13 #[.int .i64 side, .int .i64 2] w fun e w' => e = .returned (.int .i64 0) ∧ w = w' := fun w => (pick_c side 2 w (by decide) (by decide) i1).mono fun e w' hh => by rw [hs] at hh; exact hh
  have p1 : ∀ w, Calls Tryz.prog 13 #[.int .i64 nn, .int .i64 60] w fun e w' => e = .returned (.int .i64 (pickN nn 60 : Nat)) ∧ w = w' := fun w => pick_c nn 60 w (by decide) (by decide) i2
  have k1 := pickN_lt nn 60 (by decide)
  generalize pickN nn 60 = dd at *
  have hm0 := (moveI_zero ok hn (d := (dd : Int)) (by omega) (by omega)).1
  have ha0 := ok.a0
  have hll : s.st.b.length < 1000000 := by have := ok.lb; omega
  have hmt : moveT lo hi 0 (dd : Int) s = { s with st := moveJ lo hi 0 (s.a0 + dd) s.st, a0 := s.a0 + dd } := by unfold moveT; exact if_pos rfl
  have HMT := Lib.hid hmt
  clear hmt
  obtain ⟨aa, haa⟩ : ∃ aa, aa = s.a0 := ⟨_, rfl⟩
  rw [← haa] at hm0 ha0
  have HAA := Lib.hid haa
  clear haa
  go_enter Tryz.func9, Tryz.ntmps9
  go_upto_region 19 with (go_at_call 13; with_reducible refine (p0 _).mono ?_; rintro e w1 ⟨rfl, rfl⟩)
  have b2 : (u.alloc (.cells #[.int .i64 1, .int .i64 side, .int .i64 nn, .int .i64 key, .int .i64 time, .int .i64 value] 28)).cell? ⟨u.heap.size, 2, none⟩ = some (.int .i64 nn) := by go_simp
  have hxb : Ext u (u.alloc (.cells #[.int .i64 1, .int .i64 side, .int .i64 nn, .int .i64 key, .int .i64 time, .int .i64 value] 28)) := (ExtM.refl _).alloc _
  have ht := h.ext hxb
  generalize u.alloc (.cells #[.int .i64 1, .int .i64 side, .int .i64 nn, .int .i64 key, .int .i64 time, .int .i64 value] 28) = wb at *
  generalize hnb : u.heap.size = nb at *
  have lb0 := cell_lt' b2
  have c0 := ht.own.c0
  have ca := ht.own.c6
  rw [← HAA.out] at ca
  have lT := cell_lt' c0
  simp only at lT lb0
  refine Plan.begin Plan.Ext 11 rfl (by kernel_rfl) ?_
  refine Plan.left_q 0 (by rfl) (by kernel_rfl) ?_; go_big_quiet_step (fail); refine wpQuiet_nil ?_
  refine Plan.left_q 1 (by rfl) (by kernel_rfl) ?_; go_big_quiet_step (fail); refine wpQuiet_nil ?_
  refine Plan.left_q 2 (by rfl) (by kernel_rfl) ?_; go_big_quiet_step (fail); refine wpQuiet_nil ?_
  refine Plan.left_q 3 (by rfl) (by kernel_rfl) ?_; go_big_quiet_step (fail); refine wpQuiet_nil ?_
  refine Plan.left_q 4 (by rfl) (by kernel_rfl) ?_; go_big_quiet_step (fail); refine wpQuiet_nil ?_
  refine Plan.left_q 5 (by rfl) (by kernel_rfl) ?_; go_big_quiet_step (fail); refine wpQuiet_nil ?_
  refine Plan.left_q 6 (by rfl) (by kernel_rfl) ?_; go_big_quiet_step (fail); refine wpQuiet_nil ?_
  refine Plan.left_q 7 (by rfl) (by kernel_rfl) ?_; go_big_quiet_step (fail); refine wpQuiet_nil ?_
  refine Plan.left_one 8 (by kernel_rfl) (by rfl) (Plan.plain rfl fun K hK => ?_)
  go_wp2_with (fail)
  refine (p1 _).mono ?_
  rintro e w' ⟨rfl, rfl⟩
  go_wp2_with (fail)
  refine hK _ _ (ExtM.refl _) ?_
  clear hK K
  refine Plan.left_q 9 (by rfl) (by kernel_rfl) ?_; go_big_quiet_step (fail); refine wpQuiet_nil ?_
  refine Plan.left_q 10 (by rfl) (by kernel_rfl) ?_; go_big_quiet_step (fail); refine wpQuiet_nil ?_
  refine Plan.left_done (by kernel_rfl) ?_
  have hxd : Ext wb wb.drew := (ExtM.refl _).drew
  have ht2 := ht.ext hxd
  have hmv := emove0_c ht2.eng hp (aa + dd) hll
  rw [hm0, show errV 0 = .nilIface from rfl, if_pos rfl] at hmv
  have HT2 := Lib.hid ht2
  clear p0 p1 ht ht2 hm0
  go_wp2_with (go_at_call 23; refine hmv.mono ?_; rintro e w1 ⟨rfl, hup⟩; refine Hid.out ?_)
  refine Lib.hid ?_
  obtain ⟨Bs1, ht3, hB1⟩ := HT2.out.fed hup
  have hxe := hup.1
  have d6 := ht3.own.c6
  have z6 := ht3.own.fz 6
  have qT := ht3.foot T (.inl rfl)
  obtain ⟨ht4, hx4⟩ := ht3.at0 (aa + dd)
  have HX := Lib.hid (⟨ht4, hx4, hxe, hB1⟩ : _ ∧ _ ∧ _ ∧ _)
  clear ht4 hx4 hxe hB1 ht3 hup hmv c0 ca b2 lb0
  go_wp2_with fail
  go_ret
  obtain ⟨ht4, hx4, hxe, hB1⟩ := HX.out
  refine ⟨rfl, ?_⟩
  rw [HMT.out, ← HAA.out]
  refine TUp.fin h.foot (ExtM.trans _ _ _ hxb hxd) (ExtM.trans _ _ _ (hxe.mono fun k _ e => .inr (.inr (.inl e))) (hx4.mono fun k _ e => .inl e)) ⟨F, E, Bs1, v0, v1, m, ht4, rfl⟩ (fun k hk => ?_) (ExtM.refl _)
  rcases hk with e | e | e | e
  · exact .inl (.inl e)
  · exact .inl (.inr (.inl e))
  · rcases hB1 k e with e | e
    · exact .inl (.inr (.inr (.inl e)))
    · exact .inr e
  · exact .inl (.inr (.inr (.inr e)))
set_option maxRecDepth 100000 in
set_option maxHeartbeats 4000000 in
theorem does11_c {u : World} {T : Nat} {Fs : Nat → Prop} {lo hi md : Int} {s : TSt} {n : Nat} (hTA : TAt u T Fs lo hi md s) (ok : TOk lo hi md s n) (hn : n < 200) (hp : PlanOk lo hi)
    (side nn key time value : Int) (i1 : I64 side) (i2 : I64 nn) (hs : pickN side 2 = 1) :
    Calls Tryz.prog 9 #[.pointer (some ⟨T, 0, none⟩), .agg #[.int .i64 1, .int .i64 side, .int .i64 nn, .int .i64 key, .int .i64 time, .int .i64 value]] u fun e u' => e = .returned (.bool true) ∧ TUp u u' T Fs lo hi md (moveT lo hi 1 (pickN nn 60 : Nat) s) := by
  obtain ⟨F, E, Bs, v0, v1, m, h, rfl⟩ := hTA
  have p0 : ∀ w, Calls Tryz.prog 13 #[.int .i64 side, .int .i64 2] w fun e w' => e = .returned (.int .i64 1) ∧ w = w' := fun w => (pick_c side 2 w (by decide) (by decide) i1).mono fun e w' hh => by rw [hs] at hh; exact hh
  have p1 : ∀ w, Calls Tryz.prog 13 #[.int .i64 nn, .int .i64 60] w fun e w' => e = .returned (.int .i64 (pickN nn 60 : Nat)) ∧ w = w' := fun w => pick_c nn 60 w (by decide) (by decide) i2
  have k1 := pickN_lt nn 60 (by decide)
  generalize pickN nn 60 = dd at *
  have hm0 := (moveI_zero ok hn (d := (dd : Int)) (by omega) (by omega)).2
  have ha0 := ok.a1
  have hll : s.st.a.length < 1000000 := by have := ok.la; omega
  have hmt : moveT lo hi 1 (dd : Int) s = { s with st := moveJ lo hi 1 (s.a1 + dd) s.st, a1 := s.a1 + dd } := by unfold moveT; exact if_neg (by decide)
  have HMT := Lib.hid hmt
  clear hmt
  obtain ⟨aa, haa⟩ : ∃ aa, aa = s.a1 := ⟨_, rfl⟩
  rw [← haa] at hm0 ha0
  have HAA := Lib.hid haa
  clear haa
  go_enter Tryz.func9, Tryz.ntmps9
  go_upto_region 19 with (go_at_call 13; with_reducible refine (p0 _).mono ?_; rintro e w1 ⟨rfl, rfl⟩)
  have b2 : (u.alloc (.cells #[.int .i64 1, .int .i64 side, .int .i64 nn, .int .i64 key, .int .i64 time, .int .i64 value] 28)).cell? ⟨u.heap.size, 2, none⟩ = some (.int .i64 nn) := by go_simp
  have hxb : Ext u (u.alloc (.cells #[.int .i64 1, .int .i64 side, .int .i64 nn, .int .i64 key, .int .i64 time, .int .i64 value] 28)) := (ExtM.refl _).alloc _
  have ht := h.ext hxb
  generalize u.alloc (.cells #[.int .i64 1, .int .i64 side, .int .i64 nn, .int .i64 key, .int .i64 time, .int .i64 value] 28) = wb at *
  generalize hnb : u.heap.size = nb at *
  have lb0 := cell_lt' b2
  have c0 := ht.own.c0
  have ca := ht.own.c7
  rw [← HAA.out] at ca
  have lT := cell_lt' c0
  simp only at lT lb0
  refine Plan.begin Plan.Ext 11 rfl (by kernel_rfl) ?_
  refine Plan.left_q 0 (by rfl) (by kernel_rfl) ?_; go_big_quiet_step (fail); refine wpQuiet_nil ?_
  refine Plan.left_q 1 (by rfl) (by kernel_rfl) ?_; go_big_quiet_step (fail); refine wpQuiet_nil ?_
  refine Plan.left_q 2 (by rfl) (by kernel_rfl) ?_; go_big_quiet_step (fail); refine wpQuiet_nil ?_
  refine Plan.left_q 3 (by rfl) (by kernel_rfl) ?_; go_big_quiet_step (fail); refine wpQuiet_nil ?_
  refine Plan.left_q 4 (by rfl) (by kernel_rfl) ?_; go_big_quiet_step (fail); refine wpQuiet_nil ?_
  refine Plan.left_q 5 (by rfl) (by kernel_rfl) ?_; go_big_quiet_step (fail); refine wpQuiet_nil ?_
  refine Plan.left_q 6 (by rfl) (by kernel_rfl) ?_; go_big_quiet_step (fail); refine wpQuiet_nil ?_
  refine Plan.left_q 7 (by rfl) (by kernel_rfl) ?_; go_big_quiet_step (fail); refine wpQuiet_nil ?_
  refine Plan.left_one 8 (by kernel_rfl) (by rfl) (Plan.plain rfl fun K hK => ?_)
  go_wp2_with (fail)
  refine (p1 _).mono ?_
  rintro e w' ⟨rfl, rfl⟩
  go_wp2_with (fail)
  refine hK _ _ (ExtM.refl _) ?_
  clear hK K
  refine Plan.left_q 9 (by rfl) (by kernel_rfl) ?_; go_big_quiet_step (fail); refine wpQuiet_nil ?_
  refine Plan.left_q 10 (by rfl) (by kernel_rfl) ?_; go_big_quiet_step (fail); refine wpQuiet_nil ?_
  refine Plan.left_done (by kernel_rfl) ?_
  have hxd : Ext wb wb.drew := (ExtM.refl _).drew
  have ht2 := ht.ext hxd
  have hmv := emove1_c ht2.eng hp (aa + dd) hll
  rw [hm0, show errV 0 = .nilIface from rfl, if_pos rfl] at hmv
  have HT2 := Lib.hid ht2
  clear p0 p1 ht ht2 hm0
  go_wp2_with (go_at_call 23; refine hmv.mono ?_; rintro e w1 ⟨rfl, hup⟩; refine Hid.out ?_)
  refine Lib.hid ?_
  obtain ⟨Bs1, ht3, hB1⟩ := HT2.out.fed hup
  have hxe := hup.1
  have d6 := ht3.own.c7
  have z6 := ht3.own.fz 7
  have qT := ht3.foot T (.inl rfl)
  obtain ⟨ht4, hx4⟩ := ht3.at1 (aa + dd)
  have HX := Lib.hid (⟨ht4, hx4, hxe, hB1⟩ : _ ∧ _ ∧ _ ∧ _)
  clear ht4 hx4 hxe hB1 ht3 hup hmv c0 ca b2 lb0
  go_wp2_with fail
  go_ret
  obtain ⟨ht4, hx4, hxe, hB1⟩ := HX.out
  refine ⟨rfl, ?_⟩
  rw [HMT.out, ← HAA.out]
  refine TUp.fin h.foot (ExtM.trans _ _ _ hxb hxd) (ExtM.trans _ _ _ (hxe.mono fun k _ e => .inr (.inr (.inl e))) (hx4.mono fun k _ e => .inl e)) ⟨F, E, Bs1, v0, v1, m, ht4, rfl⟩ (fun k hk => ?_) (ExtM.refl _)
  rcases hk with e | e | e | e
  · exact .inl (.inl e)
  · exact .inl (.inr (.inl e))
  · rcases hB1 k e with e | e
    · exact .inl (.inr (.inr (.inl e)))
    · exact .inr e
  · exact .inl (.inr (.inr (.inr e)))
end Go.Proofs.YtmcgnnmffeojpaaGreatDoor
/- A tale is saved, and loaded: the walk. -/
namespace Go.Proofs.YtmcgnnmffeojpaaGreatDoor
open Go.RowKit Go.Plan

/-- The tale's engine, plainly. -/
def esT (lo hi md : Int) (s : TSt) : ESt := ⟨lo, hi, md, s.st, s.V, s.f0, s.f1⟩
def saveT (lo hi md : Int) (s : TSt) : TSt := if 60000 < (savedT (esT lo hi md s)).length then s else { s with V := (sortO s.V).reverse }
theorem should_ok {lo hi md : Int} {L R : List Row} (hL : ∀ r ∈ L, goodR r) (hR : ∀ r ∈ R, goodR r) : ∀ x ∈ should lo hi md 0 L R, OutOk x := by
  intro x hx
  unfold should pairsL lonesL at hx
  simp only [List.mem_append, List.mem_flatMap, List.mem_map, List.mem_filter] at hx
  rcases hx with ⟨l, hl, r, ⟨hr, hm⟩, rfl⟩ | hx | hx
  · have hk : l.k = r.k := by
      unfold mtB mtL at hm
      simp only [if_true, Bool.and_eq_true, decide_eq_true_eq] at hm
      first | exact hm.1.1 | exact hm.1
    exact .inr ⟨l, r, hL l hl, hR r hr, hk, rfl⟩
  · split at hx
    · obtain ⟨r, hr, rfl⟩ := List.mem_map.1 hx
      exact .inl ⟨0, r, by decide, hL r (List.mem_filter.1 hr).1, rfl⟩
    · cases hx
  · split at hx
    · obtain ⟨r, hr, rfl⟩ := List.mem_map.1 hx
      exact .inl ⟨1, r, by decide, hR r (List.mem_filter.1 hr).1, rfl⟩
    · cases hx
theorem TOk.eok {u : World} {E : Nat} {Bs : Nat → Prop} {lo hi md : Int} {s : TSt} {n : Nat} (ok : TOk lo hi md s n) (hn : n < 200) (hck : checkI lo hi md = 0) (h : EAt u E Bs lo hi md s.st s.V s.V s.f0 s.f1) : EOk (esT lo hi md s) := by
  obtain ⟨P, M, v0, v1, D, DG, ents, hI, -⟩ := h
  have hgL : ∀ r ∈ s.L, goodR r := fun r hr => (ok.rL r hr).good
  have hgR : ∀ r ∈ s.R, goodR r := fun r hr => (ok.rR r hr).good
  have h1 := ok.f0; have h2 := ok.f1; have h3 := ok.late; have h4 := ok.mx; have h5 := ok.my; have h6 := ok.a0; have h7 := ok.a1
  have hla := ok.la; have hlb := ok.lb; have hlL := ok.lL; have hlR := ok.lR
  refine ⟨hck, h1.1, h2.1, h3.1, by show s.f0 ≤ _; omega, by show s.f1 ≤ _; omega, by show s.st.late ≤ _; omega, by show _ ≤ s.st.x ∧ s.st.x ≤ _; omega, by show _ ≤ s.st.y ∧ s.st.y ≤ _; omega, ?_, ?_, hI.join.s0.srt, hI.join.s1.srt, by show s.st.a.length ≤ _; omega, by show s.st.b.length ≤ _; omega, fun x hx => should_ok hgL hgR x (ok.inv.v.mem_iff.1 hx)⟩
  · intro g hg
    have hg : g ∈ s.st.a := hg
    obtain ⟨D, hp, -⟩ := ok.inv.a.all
    have hm := ok.inv.a.met g hg
    have hc : s.R.countP (mtB lo hi 0 g.r) ≤ s.R.length := List.countP_le_length
    exact ⟨hgL _ (hp.mem_iff.2 (List.mem_append_left _ (List.mem_map.2 ⟨g, hg, rfl⟩))), by omega, by omega⟩
  · intro g hg
    have hg : g ∈ s.st.b := hg
    obtain ⟨D, hp, -⟩ := ok.inv.b.all
    have hm := ok.inv.b.met g hg
    have hc : s.L.countP (mtB lo hi 1 g.r) ≤ s.L.length := List.countP_le_length
    exact ⟨hgR _ (hp.mem_iff.2 (List.mem_append_left _ (List.mem_map.2 ⟨g, hg, rfl⟩))), by omega, by omega⟩
theorem EOk.sok {e : ESt} (h : EOk e) (hV : e.V.length ≤ 900000) : SOk e := by
  have hp : (-1048576 ≤ e.lo ∧ e.lo ≤ 1048576) ∧ (-1048576 ≤ e.hi ∧ e.hi ≤ 1048576) ∧ 0 ≤ e.md ∧ e.md ≤ 3 := by
    have hp := h.plan
    unfold checkI at hp
    by_cases h1 : ¬ (-1048576 ≤ e.lo ∧ e.lo ≤ 1048576) ∨ ¬ (-1048576 ≤ e.hi ∧ e.hi ≤ 1048576)
    · rw [if_pos h1] at hp; cases hp
    · rw [if_neg h1] at hp
      by_cases h2 : e.hi < e.lo
      · rw [if_pos h2] at hp; cases hp
      · rw [if_neg h2] at hp
        by_cases h3 : ¬ (0 ≤ e.md ∧ e.md ≤ 3)
        · rw [if_pos h3] at hp; cases hp
        · omega
  have := h.f0; have := h.f1; have := h.late; have := h.i0; have := h.i1; have := h.il; have := h.mx; have := h.my
  refine ⟨fun k hk => ?_, h.ga, h.gb, h.la, h.lb, fun x hx => outOk_ok (h.v x hx), hV⟩
  simp only [List.mem_cons, List.not_mem_nil, or_false] at hk
  omega
/-- The library's variables, as they lie. -/
structure Lib4 (w : World) : Prop where
  l : Laid w
  m : MaxP w
  e : ErrP w
  t : TabP w
theorem Lib4.ext {w w' : World} (h : Lib4 w) (hx : Ext w w') : Lib4 w' := ⟨h.l.of hx, h.m.ext hx, h.e.keep hx id id, h.t.keep (hx.block _ h.t.lt id)⟩

set_option maxRecDepth 100000 in
set_option maxHeartbeats 4000000 in
theorem does2_c {u : World} {T : Nat} {Fs : Nat → Prop} {lo hi md : Int} {s : TSt} {n : Nat} (hTA : TAt u T Fs lo hi md s) (ok : TOk lo hi md s n) (hn : n < 200) (hck : checkI lo hi md = 0) (hlib : Lib4 u)
    (side nn key time value : Int) (i1 : I64 side) :
    Calls Tryz.prog 9 #[.pointer (some ⟨T, 0, none⟩), .agg #[.int .i64 2, .int .i64 side, .int .i64 nn, .int .i64 key, .int .i64 time, .int .i64 value]] u fun e u' => e = .returned (.bool true) ∧ TUp u u' T Fs lo hi md (saveT lo hi md s) := by
  obtain ⟨F, E, Bs, v0, v1, m, h, rfl⟩ := hTA
  have p0 : ∀ w, Calls Tryz.prog 13 #[.int .i64 side, .int .i64 2] w fun e w' => e = .returned (.int .i64 (pickN side 2 : Nat)) ∧ w = w' := fun w => pick_c side 2 w (by decide) (by decide) i1
  generalize pickN side 2 = sd at *
  have heok := ok.eok hn hck h.eng
  have hlV := ok.lV
  have hVn : s.V.length ≤ 900000 := by
    have : n * n ≤ 200 * 200 := Nat.mul_le_mul (by omega) (by omega)
    omega
  have hsok := heok.sok (by exact hVn)
  have hST : Hid (saveT lo hi md s = if 60000 < (savedT (esT lo hi md s)).length then s else { s with V := (sortO s.V).reverse }) := Lib.hid rfl
  go_enter Tryz.func9, Tryz.ntmps9
  go_upto_region 24 with (go_at_call 13; with_reducible refine (p0 _).mono ?_; rintro e w1 ⟨rfl, rfl⟩)
  have hxb : Ext u (u.alloc (.cells #[.int .i64 2, .int .i64 side, .int .i64 nn, .int .i64 key, .int .i64 time, .int .i64 value] 28)) := (ExtM.refl _).alloc _
  have ht := h.ext hxb
  have hlb := hlib.ext hxb
  generalize u.alloc (.cells #[.int .i64 2, .int .i64 side, .int .i64 nn, .int .i64 key, .int .i64 time, .int .i64 value] 28) = wb at *
  generalize hnb : u.heap.size = nb at *
  have HNB := Lib.hid hnb
  clear hnb
  have c0 := ht.own.c0
  have lT := cell_lt' c0
  simp only at lT
  have hsave := saved_c ht.eng (esT lo hi md s) rfl hsok hlb.t
  by_cases hbig : 60000 < (savedT (esT lo hi md s)).length
  · rw [show savedV (esT lo hi md s) = .returned (.tuple #[.string ByteArray.empty, .iface 48 (.int .i64 4)]) from if_pos hbig] at hsave
    go_wp2_with (go_at_call 14; refine hsave.mono ?_; rintro e' w9 ⟨rfl, hx9⟩; refine Hid.out ?_)
    refine Lib.hid ?_
    clear hsave
    have hl9 := hlb.l.of hx9
    go_wp2_with (go_at_call 15; refine (tell_c 4 _ hl9).mono ?_; rintro e w3 ⟨rfl, hx3⟩)
    go_ret
    refine ⟨rfl, ?_⟩
    rw [hST.out, if_pos hbig]
    exact TUp.same ⟨F, E, Bs, v0, v1, m, h, rfl⟩ (ExtM.trans _ _ _ hxb (ExtM.trans _ _ _ hx9 hx3))
  · rw [show savedV (esT lo hi md s) = .returned (.tuple #[.string ⟨(savedT (esT lo hi md s)).toArray⟩, .nilIface]) from if_neg hbig] at hsave
    have hls := load_saved (esT lo hi md s) heok (by omega)
    have hload : ∀ w9, Lib4 w9 → Calls Tryz.prog 29 #[.string ⟨(savedT (esT lo hi md s)).toArray⟩] w9 fun e u' => ∃ E' Bs', e = .returned (.tuple #[.pointer (some ⟨E', 0, none⟩), .nilIface]) ∧ Ext w9 u' ∧ EAt u' E' Bs' lo hi md s.st (sortO s.V).reverse (sortO s.V).reverse s.f0 s.f1 ∧ ∀ k, Bs' k → w9.heap.size ≤ k := fun w9 hl => by
      have hsz : (ByteArray.mk (savedT (esT lo hi md s)).toArray).size ≤ 60000 := by rw [← size_data]; show (savedT (esT lo hi md s)).length ≤ 60000; omega
      refine (load_c ⟨(savedT (esT lo hi md s)).toArray⟩ (by omega) hl.m hl.e hl.t hl.l (fun hn => ?_)).mono ?_
      · have h9 : loadE (savedT (esT lo hi md s)) = none := hn
        rw [hls] at h9; cases h9
      · intro e u' hv
        unfold LoadV at hv
        have h9 : loadE (ByteArray.mk (savedT (esT lo hi md s)).toArray).data.toList = _ := hls
        rw [h9] at hv
        obtain ⟨q1, E', Bs', q2, q3, q4⟩ := hv
        exact ⟨E', Bs', q2, q1, q3, q4⟩
    have HBIG := Lib.hid hbig
    clear hls hbig heok hsok
    generalize (⟨(savedT (esT lo hi md s)).toArray⟩ : ByteArray) = tx at *
    go_wp2_with (go_at_call 14; refine hsave.mono ?_; rintro e' w9 ⟨rfl, hx9⟩; refine Hid.out ?_)
    refine Lib.hid ?_
    clear hsave
    have hl9 := hlb.ext hx9
    have ht9 := ht.ext hx9
    go_wp2_with (go_at_call 29; refine (hload _ hl9).mono ?_; rintro e' wL ⟨E', Bs', rfl, hxL, hat, hBs⟩; refine Hid.out ?_)
    refine Lib.hid ?_
    have htL := ht9.ext hxL
    have d0 := htL.own.c0
    have z0 := htL.own.fz 0
    have qT := htL.foot T (.inl rfl)
    obtain ⟨ht4, hx4⟩ := htL.loaded (N := w9.heap.size) hat hBs (fun k hk => ht9.foot k (by
      rcases hk with e | e | e | e
      · exact .inl e
      · exact .inr (.inl e)
      · exact .inr (.inr (.inl e))
      · exact .inr (.inr (.inr e)))) ((sortO_perm s.V).symm.trans (List.reverse_perm _).symm)
    have HX := Lib.hid (⟨ht4, hx4, ht9, hBs, hx9, hxL, hxb⟩ : _ ∧ _ ∧ _ ∧ _ ∧ _ ∧ _ ∧ _)
    clear ht4 hx4 hload hl9 hlb hat hBs ht ht9 htL hxL hx9 hxb c0 lT
    go_wp2_with fail
    go_ret
    obtain ⟨ht4, hx4, ht9, hBs, hx9, hxL, hxb⟩ := HX.out
    refine ⟨rfl, ?_⟩
    rw [hST.out, if_neg HBIG.out]
    refine TUp.fin (u1 := w9) h.foot (ExtM.trans _ _ _ hxb hx9) (ExtM.trans _ _ _ (hxL.mono fun _ _ h => h.elim) (hx4.mono fun k _ e => .inl e)) ⟨F, E', Bs', v0, v1, m, ht4, rfl⟩ (fun k hk => ?_) (ExtM.refl _)
    rcases hk with e | e | e | e
    · exact .inl (.inl e)
    · exact .inl (.inr (.inl e))
    · exact .inr (hBs k e)
    · exact .inl (.inr (.inr (.inr e)))
end Go.Proofs.YtmcgnnmffeojpaaGreatDoor
namespace Go.Proofs.YtmcgnnmffeojpaaGreatDoor
open Go.RowKit Go.Plan

/-- What a step leaves. -/
def stepX (lo hi md : Int) (s : TSt) (x : StE) : TSt :=
  if x.what = 0 then feedX lo hi md s x else if x.what = 1 then moveT lo hi x.sd (pickN x.n 60 : Nat) s else if x.what = 2 then saveT lo hi md s else s
theorem moveT_ok {lo hi md : Int} {s : TSt} {n : Nat} (h : TOk lo hi md s n) (x : StE) : TOk lo hi md (moveT lo hi x.sd (pickN x.n 60 : Nat) s) (n + 1) := by
  have k1 := pickN_lt x.n 60 (by decide)
  rcases x.sd_two with e | e
  · rw [e]; exact h.move0 _ (by omega) (by omega)
  · rw [e]; exact h.move1 _ (by omega) (by omega)
theorem saveT_ok {lo hi md : Int} {s : TSt} {n : Nat} (h : TOk lo hi md s n) : TOk lo hi md (saveT lo hi md s) n := by
  unfold saveT
  split
  · exact h
  · exact h.perm ((List.reverse_perm _).trans (sortO_perm _))
theorem stepX_ok {lo hi md : Int} {s : TSt} {n : Nat} (h : TOk lo hi md s n) (hn : n < 300) (x : StE) : TOk lo hi md (stepX lo hi md s x) (n + 1) := by
  unfold stepX
  split
  · exact feedX_ok h hn x
  · split
    · exact moveT_ok h x
    · split
      · exact (saveT_ok h).more
      · exact h.more
def tellX (lo hi md : Int) (l : List StE) (s : TSt) : TSt := l.foldl (stepX lo hi md) s
theorem tellX_snoc {lo hi md : Int} (l : List StE) (x : StE) (s : TSt) : tellX lo hi md (l ++ [x]) s = stepX lo hi md (tellX lo hi md l s) x := by
  unfold tellX
  rw [List.foldl_append]; rfl
theorem tellX_ok {lo hi md : Int} : ∀ (l : List StE) {s : TSt} {n : Nat}, TOk lo hi md s n → n + l.length ≤ 300 → TOk lo hi md (tellX lo hi md l s) (n + l.length)
  | [], s, n, h, _ => h
  | x :: l, s, n, h, hl => by
    simp only [List.length_cons] at hl ⊢
    have := tellX_ok l (stepX_ok h (by omega) x) (by omega)
    rw [show n + (l.length + 1) = n + 1 + l.length by omega]
    exact this
set_option maxRecDepth 100000 in
set_option maxHeartbeats 4000000 in
theorem does9_c {u : World} {T : Nat} {Fs : Nat → Prop} {lo hi md : Int} {s : TSt} (hTA : TAt u T Fs lo hi md s)
    (what side nn key time value : Int) (i1 : I64 side) (h0 : what ≠ 0) (h1 : what ≠ 1) (h2 : what ≠ 2) :
    Calls Tryz.prog 9 #[.pointer (some ⟨T, 0, none⟩), .agg #[.int .i64 what, .int .i64 side, .int .i64 nn, .int .i64 key, .int .i64 time, .int .i64 value]] u fun e u' => e = .returned (.bool true) ∧ TUp u u' T Fs lo hi md s := by
  have p0 : ∀ w, Calls Tryz.prog 13 #[.int .i64 side, .int .i64 2] w fun e w' => e = .returned (.int .i64 (pickN side 2 : Nat)) ∧ w = w' := fun w => pick_c side 2 w (by decide) (by decide) i1
  generalize pickN side 2 = sd at *
  have e0 : (what == 0) = false := beq_false_of_ne h0
  have e1 : (what == 1) = false := beq_false_of_ne h1
  have e2 : (what == 2) = false := beq_false_of_ne h2
  clear h0 h1 h2
  go_enter Tryz.func9, Tryz.ntmps9
  go_wp2_with (go_at_call 13; with_reducible refine (p0 _).mono ?_; rintro e w1 ⟨rfl, rfl⟩)
  go_ret
  exact ⟨rfl, TUp.same hTA ((ExtM.refl _).alloc _)⟩
/-- Whichever it is. -/
theorem doesA_c {u : World} {T : Nat} {Fs : Nat → Prop} {lo hi md : Int} {s : TSt} {n : Nat} (h : TAt u T Fs lo hi md s) (ok : TOk lo hi md s n) (hn : n < 200) (hck : checkI lo hi md = 0) (hlib : Lib4 u) (hz : ¬ Fs 0) (x : StE) (hx : x.ok) (hxn : I64 x.n) :
    Calls Tryz.prog 9 #[.pointer (some ⟨T, 0, none⟩), x.agg] u fun e u' => e = .returned (.bool true) ∧ TUp u u' T Fs lo hi md (stepX lo hi md s x) := by
  unfold stepX
  by_cases h0 : x.what = 0
  · rw [if_pos h0]; exact doesX_c h ok hn (checkI_ok hck) hlib.l hz x hx h0
  rw [if_neg h0]
  have h2 := x.sd_two
  obtain ⟨wh, sd, nn, k, t, v⟩ := x
  obtain ⟨i1, i2, i3, i4⟩ := hx
  by_cases h1 : wh = 1
  · rw [if_pos h1]
    subst h1
    rcases h2 with e | e
    · rw [e]; exact does10_c h ok hn (checkI_ok hck) sd nn k t v i1 hxn e
    · rw [e]; exact does11_c h ok hn (checkI_ok hck) sd nn k t v i1 hxn e
  rw [if_neg h1]
  by_cases h2 : wh = 2
  · rw [if_pos h2]
    subst h2
    exact does2_c h ok hn hck hlib sd nn k t v i1
  rw [if_neg h2]
  exact does9_c h wh sd nn k t v i1 h0 h1 h2
end Go.Proofs.YtmcgnnmffeojpaaGreatDoor
