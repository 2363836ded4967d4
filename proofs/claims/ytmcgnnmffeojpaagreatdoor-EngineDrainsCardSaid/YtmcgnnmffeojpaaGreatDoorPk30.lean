/- A tale takes a row: the walk. -/
import Derived.Test.YtmcgnnmffeojpaaGreatDoorPk29
import Derived.Deep.DeepCutAuto
import Derived.Deep.CutBlock
namespace Go.Proofs.YtmcgnnmffeojpaaGreatDoor
open Go.RowKit Go.Plan

theorem EUp.extL {u u' : World} {T n E : Nat} {Bs : Nat → Prop} {lo hi md : Int} {st : JSt} {V W : List Out} {f0 f1 : Int} (hT : ¬ Bs T) (hn : ¬ Bs n) (h : EUp u u' E Bs lo hi md st V W f0 f1) : ExtL T n u u' := ExtL.of_M hT hn h.1
theorem rowL_len (r : Row) : (rowL r).length = 3 := rfl
theorem rowL_one (r : Row) : ∀ v ∈ rowL r, v.oneCell' = true := by
  intro v hv
  simp only [rowL, List.mem_cons, List.not_mem_nil, or_false] at hv
  rcases hv with rfl | rfl | rfl <;> rfl
theorem infoRowT : (Tryz.prog.info? 56).map (fun i => (i.zero, i.size, i.bytes)) = some (some (.agg #[.int .i64 0, .int .i64 0, .int .i64 0]), 3, 24) := by kernel_rfl
theorem run_appendT (W : World) (base nb c : Nat) (v : Value) (acc : List Row) (x : Row) (ty : TypeId) (hown : TRow W base v acc) (hx : ∀ j u, (rowL x)[j]? = some u → W.cell? ⟨nb, j, none⟩ = some u) (hl : acc.length < 1000000) (hb : base ≤ W.heap.size) :
    ∃ v' w', (Builtin.append_ #[33, 33] ty #[v, .slice (some ⟨nb, 0, none⟩) 1 c]).run Tryz.prog W = .ok v' w' ∧ TRow w' base v' (acc ++ [x]) ∧ ExtR v.ownBlock W w' ∧ (v'.ownBlock = v.ownBlock ∨ ∃ k, v'.ownBlock = some k ∧ W.heap.size ≤ k) :=
  run_appendK rowL_len rowL_one 33 _ 24 infoRowT rfl (by decide) Tryz.underlying33 (by decide) W base nb c v acc x ty hown hx hl hb

theorem applyV_len : ∀ (cs : List (Out × Bool)) (V : List Out), (applyV V cs).length ≤ V.length + cs.length
  | [], V => Nat.le_refl _
  | c :: cs, V => by
    rw [applyV_step]
    have h1 := applyV_len cs (stepV V c)
    have h2 := stepV_len V c
    simp only [List.length_cons]
    omega
/-- A step's end. -/
theorem TUp.fin {u u1 u2 u' : World} {T : Nat} {Fs Fs' : Nat → Prop} {lo hi md : Int} {s : TSt} (_hl : ∀ k, Fs k → k < u.heap.size) (h0 : Ext u u1) (h1 : ExtM Fs u1 u2) (ht : TAt u2 T Fs' lo hi md s) (hF : ∀ k, Fs' k → Fs k ∨ u1.heap.size ≤ k) (h2 : Ext u2 u') : TUp u u' T Fs lo hi md s :=
  ⟨(ExtM.trans _ _ _ (h0.mono (fun _ _ h => h.elim)) (ExtM.trans _ _ _ h1 (h2.mono (fun _ _ h => h.elim))) : ExtM Fs u u'), Fs', ht.ext h2, fun k hk => (hF k hk).imp id (fun e => Nat.le_trans h0.size e)⟩

set_option maxRecDepth 100000 in
set_option maxHeartbeats 4000000 in
theorem does00_c {u : World} {T : Nat} {Fs : Nat → Prop} {lo hi md : Int} {s : TSt} {n : Nat} (hTA : TAt u T Fs lo hi md s) (ok : TOk lo hi md s n) (hn : n < 200) (hp : PlanOk lo hi) (hL : Laid u) (hz : ¬ Fs 0)
    (side nn key time value : Int) (i1 : I64 side) (i2 : I64 key) (i3 : I64 time) (i4 : I64 value) (hs : pickN side 2 = 0) :
    Calls Tryz.prog 9 #[.pointer (some ⟨T, 0, none⟩), .agg #[.int .i64 0, .int .i64 side, .int .i64 nn, .int .i64 key, .int .i64 time, .int .i64 value]] u fun e u' => e = .returned (.bool true) ∧ TUp u u' T Fs lo hi md (feedT lo hi md 0 (stepRow key time value) s) := by
  obtain ⟨F, E, Bs, v0, v1, m, h, rfl⟩ := hTA
  have p0 : ∀ w, Calls Tryz.prog 13 #[.int .i64 side, .int .i64 2] w fun e w' => e = .returned (.int .i64 0) ∧ w = w' := fun w => (pick_c side 2 w (by decide) (by decide) i1).mono fun e w' hh => by rw [hs] at hh; exact hh
  have k1 := pickN_lt key 4 (by decide)
  have k2 := pickN_lt time 200 (by decide)
  have k3 := pickN_lt value 50 (by decide)
  have p1 : ∀ w, Calls Tryz.prog 13 #[.int .i64 key, .int .i64 4] w fun e w' => e = .returned (.int .i64 (pickN key 4 : Nat)) ∧ w = w' := fun w => pick_c key 4 w (by decide) (by decide) i2
  have p2 : ∀ w, Calls Tryz.prog 13 #[.int .i64 time, .int .i64 200] w fun e w' => e = .returned (.int .i64 (pickN time 200 : Nat)) ∧ w = w' := fun w => pick_c time 200 w (by decide) (by decide) i3
  have p3 : ∀ w, Calls Tryz.prog 13 #[.int .i64 value, .int .i64 50] w fun e w' => e = .returned (.int .i64 (pickN value 50 : Nat)) ∧ w = w' := fun w => pick_c value 50 w (by decide) (by decide) i4
  have hsm := stepRow_small key time value
  have hst : stepRow key time value = ⟨(pickN key 4 : Nat), (pickN time 200 : Nat) - 100, (pickN value 50 : Nat)⟩ := rfl
  have hE2 := feedE_two (lo := lo) (hi := hi) (s := 0) hsm s.st.x s.st.y (n := (s.st.of 0).length) (by have := ok.la; show s.st.a.length < 300; omega)
  have hok := (ok.feed0 (by omega) _ hsm).2
  rw [hst] at hE2 hok ⊢
  have HSM := Lib.hid hsm
  have HZ := Lib.hid hz
  clear hst hsm hz
  generalize pickN key 4 = kk at *
  generalize pickN time 200 = tt at *
  generalize pickN value 50 = vv at *
  go_enter Tryz.func9, Tryz.ntmps9
  go_upto_region 4 with (go_at_call 13; with_reducible refine (p0 _).mono ?_; rintro e w1 ⟨rfl, rfl⟩)
  have b3 : (u.alloc (.cells #[.int .i64 0, .int .i64 side, .int .i64 nn, .int .i64 key, .int .i64 time, .int .i64 value] 28)).cell? ⟨u.heap.size, 3, none⟩ = some (.int .i64 key) := by go_simp
  have b4 : (u.alloc (.cells #[.int .i64 0, .int .i64 side, .int .i64 nn, .int .i64 key, .int .i64 time, .int .i64 value] 28)).cell? ⟨u.heap.size, 4, none⟩ = some (.int .i64 time) := by go_simp
  have b5 : (u.alloc (.cells #[.int .i64 0, .int .i64 side, .int .i64 nn, .int .i64 key, .int .i64 time, .int .i64 value] 28)).cell? ⟨u.heap.size, 5, none⟩ = some (.int .i64 value) := by go_simp
  have hxb : Ext u (u.alloc (.cells #[.int .i64 0, .int .i64 side, .int .i64 nn, .int .i64 key, .int .i64 time, .int .i64 value] 28)) := (ExtM.refl _).alloc _
  have ht := h.ext hxb
  generalize u.alloc (.cells #[.int .i64 0, .int .i64 side, .int .i64 nn, .int .i64 key, .int .i64 time, .int .i64 value] 28) = wb at *
  generalize hnb : u.heap.size = nb at *
  have lb0 := cell_lt' b3
  go_cut [6] (fun s6 wx => ∃ n6, s6 = .pointer (some ⟨n6, 0, none⟩) ∧ wb.heap.size ≤ n6 ∧ Ext wb wx ∧ wx.cell? ⟨n6, 0, none⟩ = some (.int .i64 kk) ∧ wx.cell? ⟨n6, 1, none⟩ = some (.int .i64 (tt - 100)) ∧ wx.cell? ⟨n6, 2, none⟩ = some (.int .i64 vv))
  case first =>
    -- DONE{
    refine Plan.beginT Plan.Ext [12] 13 rfl (by kernel_rfl) ?_
    refine Plan.left_q 0 (by rfl) (by kernel_rfl) ?_; go_big_quiet_step (fail); refine wpQuiet_nil ?_
    refine Plan.left_q 1 (by rfl) (by kernel_rfl) ?_; go_big_quiet_step (fail); refine wpQuiet_nil ?_
    refine Plan.left_q 3 (by rfl) (by kernel_rfl) ?_; go_big_quiet_step (fail); refine wpQuiet_nil ?_
    refine Plan.left_q 4 (by rfl) (by kernel_rfl) ?_; go_big_quiet_step (fail); refine wpQuiet_nil ?_
    refine Plan.left_q 7 (by rfl) (by kernel_rfl) ?_; go_big_quiet_step (fail); refine wpQuiet_nil ?_
    refine Plan.left_q 8 (by rfl) (by kernel_rfl) ?_; go_big_quiet_step (fail); refine wpQuiet_nil ?_
    refine Plan.left_two 2 11 (by kernel_rfl) (by rfl) (by rfl) (Plan.plain rfl fun K hK => ?_) (Plan.plain rfl fun K hK => ?_)
    focus
      go_wp2_with (fail)
      refine (p1 _).mono ?_
      rintro e w' ⟨rfl, rfl⟩
      go_wp2_with (fail)
      refine hK _ _ (ExtM.refl _) ?_
      clear hK K
      refine Plan.left_two 5 11 (by kernel_rfl) (by rfl) (by rfl) (Plan.plain rfl fun K hK => ?_) (Plan.plain rfl fun K hK => ?_)
      focus
        go_wp2_with (fail)
        refine (p2 _).mono ?_
        rintro e w' ⟨rfl, rfl⟩
        go_wp2_with (fail)
        refine hK _ _ (ExtM.refl _) ?_
        clear hK K
        refine Plan.left_q 6 (by rfl) (by kernel_rfl) ?_; go_big_quiet_step (fail); refine wpQuiet_nil ?_
        refine Plan.left_two 9 11 (by kernel_rfl) (by rfl) (by rfl) (Plan.plain rfl fun K hK => ?_) (Plan.plain rfl fun K hK => ?_)
        focus
          go_wp2_with (fail)
          refine (p3 _).mono ?_
          rintro e w' ⟨rfl, rfl⟩
          go_wp2_with (fail)
          refine hK _ _ (ExtM.refl _) ?_
          clear hK K
          refine Plan.left_q 10 (by rfl) (by kernel_rfl) ?_; go_big_quiet_step (fail); refine wpQuiet_nil ?_
          refine Plan.left_one 11 (by kernel_rfl) (by rfl) (Plan.plain rfl fun K hK => ?_)
          go_wp2_with (fail)
          refine hK _ _ ((ExtM.refl _).alloc _) ?_
          clear hK K
          refine Plan.left_one 12 (by kernel_rfl) (by rfl) (Plan.last rfl (by kernel_rfl) fun K hK => ?_)
          go_wp2_with (fail)
          refine Plan.left_done (by kernel_rfl) ?_
        rotate_left
        focus
          go_wp2_with (fail)
          refine hK _ _ ((ExtM.refl _).alloc _) ?_
          clear hK K
          refine Plan.left_one 9 (by kernel_rfl) (by rfl) (Plan.plain rfl fun K hK => ?_)
          go_wp2_with (fail)
          refine (p3 _).mono ?_
          rintro e w' ⟨rfl, rfl⟩
          go_wp2_with (fail)
          refine hK _ _ (ExtM.refl _) ?_
          clear hK K
          refine Plan.left_q 10 (by rfl) (by kernel_rfl) ?_; go_big_quiet_step (fail); refine wpQuiet_nil ?_
          refine Plan.left_one 12 (by kernel_rfl) (by rfl) (Plan.last rfl (by kernel_rfl) fun K hK => ?_)
          go_wp2_with (fail)
          refine Plan.left_done (by kernel_rfl) ?_
      rotate_left 2
      focus
        go_wp2_with (fail)
        refine hK _ _ ((ExtM.refl _).alloc _) ?_
        clear hK K
        refine Plan.left_one 5 (by kernel_rfl) (by rfl) (Plan.plain rfl fun K hK => ?_)
        go_wp2_with (fail)
        refine (p2 _).mono ?_
        rintro e w' ⟨rfl, rfl⟩
        go_wp2_with (fail)
        refine hK _ _ (ExtM.refl _) ?_
        clear hK K
        refine Plan.left_q 6 (by rfl) (by kernel_rfl) ?_; go_big_quiet_step (fail); refine wpQuiet_nil ?_
        refine Plan.left_one 9 (by kernel_rfl) (by rfl) (Plan.plain rfl fun K hK => ?_)
        go_wp2_with (fail)
        refine (p3 _).mono ?_
        rintro e w' ⟨rfl, rfl⟩
        go_wp2_with (fail)
        refine hK _ _ (ExtM.refl _) ?_
        clear hK K
        refine Plan.left_q 10 (by rfl) (by kernel_rfl) ?_; go_big_quiet_step (fail); refine wpQuiet_nil ?_
        refine Plan.left_one 12 (by kernel_rfl) (by rfl) (Plan.last rfl (by kernel_rfl) fun K hK => ?_)
        go_wp2_with (fail)
        refine Plan.left_done (by kernel_rfl) ?_
    rotate_left 3
    focus
      go_wp2_with (fail)
      refine hK _ _ ((ExtM.refl _).alloc _) ?_
      clear hK K
      refine Plan.left_one 2 (by kernel_rfl) (by rfl) (Plan.plain rfl fun K hK => ?_)
      go_wp2_with (fail)
      refine (p1 _).mono ?_
      rintro e w' ⟨rfl, rfl⟩
      go_wp2_with (fail)
      refine hK _ _ (ExtM.refl _) ?_
      clear hK K
      refine Plan.left_one 5 (by kernel_rfl) (by rfl) (Plan.plain rfl fun K hK => ?_)
      go_wp2_with (fail)
      refine (p2 _).mono ?_
      rintro e w' ⟨rfl, rfl⟩
      go_wp2_with (fail)
      refine hK _ _ (ExtM.refl _) ?_
      clear hK K
      refine Plan.left_q 6 (by rfl) (by kernel_rfl) ?_; go_big_quiet_step (fail); refine wpQuiet_nil ?_
      refine Plan.left_one 9 (by kernel_rfl) (by rfl) (Plan.plain rfl fun K hK => ?_)
      go_wp2_with (fail)
      refine (p3 _).mono ?_
      rintro e w' ⟨rfl, rfl⟩
      go_wp2_with (fail)
      refine hK _ _ (ExtM.refl _) ?_
      clear hK K
      refine Plan.left_q 10 (by rfl) (by kernel_rfl) ?_; go_big_quiet_step (fail); refine wpQuiet_nil ?_
      refine Plan.left_one 12 (by kernel_rfl) (by rfl) (Plan.last rfl (by kernel_rfl) fun K hK => ?_)
      go_wp2_with (fail)
      refine Plan.left_done (by kernel_rfl) ?_
    all_goals
      go_wp2_with fail
      go_meet
      exact ⟨_, rfl, Nat.le_refl _, ((ExtM.refl _).drew).alloc _, by go_simp, by go_simp, by go_simp⟩
    -- }DONE
  case rest =>
    obtain ⟨n6, rfl, hn6, hx6, e0, e1, e2⟩ := hcut
    clear p0 p1 p2 p3 b3 b4 b5 lb0
    have ht2 := ht.ext hx6
    have hn6B : ¬ Bs n6 := fun e => by have := ht.foot n6 (.inr (.inr (.inl e))); omega
    have hzB : ¬ Bs 0 := fun e => HZ.out (.inr (.inr (.inl e)))
    have hLc : Laid wc := (hL.of hxb).of hx6
    have hla := ok.la
    have hlb := ok.lb
    have hlV := ok.lV
    have hVn : s.V.length < 900000 := by
      have : n * n ≤ 200 * 200 := Nat.mul_le_mul (by omega) (by omega)
      omega
    have hokA : ∀ h ∈ s.st.a, h.r.ok := by obtain ⟨_, _, _, _, _, _, _, hI, -⟩ := ht2.eng; exact hI.okA
    have hokB : ∀ h ∈ s.st.b, h.r.ok := by obtain ⟨_, _, _, _, _, _, _, hI, -⟩ := ht2.eng; exact hI.okB
    have hfeed := en_feed0 (ht2.eng.ext (ExtM.refl wc).drew) hp (by omega) (by omega) (hLc.of (ExtM.refl wc).drew) hzB kk (tt - 100) vv hok hVn
    have hxw : Ext u wc := ExtM.trans _ _ _ hxb hx6
    have hlF : ∀ k, TFoot T F Bs v0 v1 k → k < u.heap.size := h.foot
    have c0 := ht2.own.c0
    have hnT := h.nT
    have lT := cell_lt' c0
    have l6 := cell_lt' e0
    simp only at lT l6
    go_upto_region 5 with fail
    rcases hE2 with hE | hE
    · have er : errV 0 = .nilIface := rfl
      rw [hE, er] at hfeed
      have HE := Lib.hid hE
      clear hE
      have hcok := feedC_ok (lo := lo) (hi := hi) (md := md) (s := 0) (r := ⟨kk, tt - 100, vv⟩) hokA hokB
      have hgl : ∀ c ∈ feedC lo hi md 0 ⟨kk, tt - 100, vv⟩ s.st, c.2 = true → (c.1.hl && c.1.hr) = false := gone_lone
      have hfl := feedC_len lo hi md 0 ⟨kk, tt - 100, vv⟩ s.st (by omega) (by omega)
      have HF := Lib.hid (feedT0_ok (md := md) HE.out)
      have hok' := Lib.hid hok
      clear hok
      generalize feedC lo hi md 0 ⟨kk, tt - 100, vv⟩ s.st = cs at *
      refine Plan.begin (Plan.ExtL T n6) 12 rfl (by kernel_rfl) ?_
      refine Plan.left_q 0 (by rfl) (by kernel_rfl) ?_; go_big_quiet_step (fail); refine wpQuiet_nil ?_
      refine Plan.left_q 1 (by rfl) (by kernel_rfl) ?_; go_big_quiet_step (fail); refine wpQuiet_nil ?_
      refine Plan.left_q 2 (by rfl) (by kernel_rfl) ?_; go_big_quiet_step (fail); refine wpQuiet_nil ?_
      refine Plan.left_q 3 (by rfl) (by kernel_rfl) ?_; go_big_quiet_step (fail); refine wpQuiet_nil ?_
      refine Plan.left_q 4 (by rfl) (by kernel_rfl) ?_; go_big_quiet_step (fail); refine wpQuiet_nil ?_
      refine Plan.left_q 5 (by rfl) (by kernel_rfl) ?_; go_big_quiet_step (fail); refine wpQuiet_nil ?_
      refine Plan.left_one 6 (by kernel_rfl) (by rfl) (Plan.plain rfl fun K hK => ?_)
      go_wp2_with (fail)
      refine (hfeed).mono ?_
      rintro e w2 ⟨vo, rfl, hrow, h2⟩
      have H2 := ExtL.trans _ _ _ (ExtL.refl _).drew (EUp.extL hnT hn6B h2)
      obtain ⟨hc2, hf2, -⟩ := ExtL.rules H2
      have hs2_0 : T < w2.heap.size := by have := H2.size; (try simp at this); omega
      have hs2_1 : n6 < w2.heap.size := by have := H2.size; (try simp at this); omega
      go_wp2_with (fail)
      refine hK _ _ (EUp.extL hnT hn6B h2) ?_
      clear hK K
      refine Plan.left_q 7 (by rfl) (by kernel_rfl) ?_; go_big_quiet_step (fail); refine wpQuiet_nil ?_
      refine Plan.left_q 8 (by rfl) (by kernel_rfl) ?_; go_big_quiet_step (fail); refine wpQuiet_nil ?_
      refine Plan.left_q 9 (by rfl) (by kernel_rfl) ?_; go_big_quiet_step (fail); refine wpQuiet_nil ?_
      refine Plan.left_q 10 (by rfl) (by kernel_rfl) ?_; go_big_quiet_step (fail); refine wpQuiet_nil ?_
      refine Plan.left_q 11 (by rfl) (by kernel_rfl) ?_; go_big_quiet_step (fail); refine wpQuiet_nil ?_
      refine Plan.left_done (by kernel_rfl) ?_
      obtain ⟨hxe, -⟩ := id h2
      obtain ⟨Bs1, ht3, hB1⟩ := (ht2.ext (ExtM.refl wc).drew).fed h2
      have f0 := (hxe.cell (p := ⟨n6, 0, none⟩) l6 hn6B).trans e0
      have f1 := (hxe.cell (p := ⟨n6, 1, none⟩) l6 hn6B).trans e1
      have f2 := (hxe.cell (p := ⟨n6, 2, none⟩) l6 hn6B).trans e2
      have hvo : ∀ k, vo.ownBlock = some k → wc.heap.size ≤ k := fun k hk => (own_lt hrow k hk).1
      have q6 : n6 < w2.heap.size := cell_lt' f0
      have qT : T < w2.heap.size := ht3.foot T (.inl rfl)
      have a4 := ht3.own.c4
      have z4 := ht3.own.fz 4
      clear hc2 hf2 hs2_0 hs2_1 H2 h2 e0 e1 e2 c0
      go_upto_region 8 with fail
      have hnR : ¬ v0.ownBlock = some T := fun e => (ht3.a0 T e).2.1 rfl
      have hn6R : ¬ v0.ownBlock = some n6 := fun e => by have := ht.foot n6 (.inr (.inr (.inr (.inl e)))); omega
      obtain ⟨v', w5, happ, hr5, hx5, hn5⟩ := run_appendT (w2.drew.alloc (.cells #[.int .i64 kk, .int .i64 (tt - 100), .int .i64 vv] 56)) 0 w2.heap.size 1 v0 s.L.reverse ⟨kk, tt - 100, vv⟩ 33
        (own_ext ht3.r0 ((ExtM.refl w2).drew.alloc _ : Ext w2 _) (fun _ _ h => h)) (fun j u hj => (World.cell?_alloc_at (w := w2.drew) _ _ w2.heap.size j rfl).trans (by simpa [rowL] using hj)) (by rw [List.length_reverse]; have := ok.lL; omega) (Nat.zero_le _)
      obtain ⟨pv, cv, hpv, -⟩ := own_slice hr5
      rw [show (s.L.reverse ++ [(⟨kk, tt - 100, vv⟩ : Row)]).length = s.L.length + 1 by simp] at hpv
      have hx5' : ExtR v0.ownBlock w2 w5 := ExtR.trans _ _ _ ((ExtR.refl w2).drew.alloc _) hx5
      have hn5' : v'.ownBlock = v0.ownBlock ∨ ∃ k, v'.ownBlock = some k ∧ w2.heap.size ≤ k := by
        rcases hn5 with e | ⟨k, e, hk⟩
        · exact .inl e
        · exact .inr ⟨k, e, by rw [World.size_alloc] at hk; exact Nat.le_trans (Nat.le_succ _) hk⟩
      have b4 := (hx5'.rules.1 T 4 qT hnR).trans a4
      have y4 := (hx5'.rules.2.1 T 4 qT hnR).trans z4
      have qT5 : T < w5.heap.size := Nat.lt_of_lt_of_le qT hx5'.size
      rw [← List.reverse_cons] at hr5
      obtain ⟨ht6, hx6', hf6⟩ := ht3.row0 hx5' hr5 hn5'
      have HH6 := Lib.hid (⟨ht6, hx6', hf6⟩ : _ ∧ _ ∧ _)
      clear ht6 hx6' hf6 hr5 hn5 hn5' hx5'
      subst hpv
      refine Plan.beginT (Plan.ExtR v0.ownBlock) [14] 15 rfl (by kernel_rfl) ?_
      refine Plan.left_q 0 (by rfl) (by kernel_rfl) ?_; go_big_quiet_step (fail); refine wpQuiet_nil ?_
      refine Plan.left_q 1 (by rfl) (by kernel_rfl) ?_; go_big_quiet_step (fail); refine wpQuiet_nil ?_
      refine Plan.left_q 2 (by rfl) (by kernel_rfl) ?_; go_big_quiet_step (fail); refine wpQuiet_nil ?_
      refine Plan.left_q 3 (by rfl) (by kernel_rfl) ?_; go_big_quiet_step (fail); refine wpQuiet_nil ?_
      refine Plan.left_q 4 (by rfl) (by kernel_rfl) ?_; go_big_quiet_step (fail); refine wpQuiet_nil ?_
      refine Plan.left_q 5 (by rfl) (by kernel_rfl) ?_; go_big_quiet_step (fail); refine wpQuiet_nil ?_
      refine Plan.left_q 6 (by rfl) (by kernel_rfl) ?_; go_big_quiet_step (fail); refine wpQuiet_nil ?_
      refine Plan.left_q 7 (by rfl) (by kernel_rfl) ?_; go_big_quiet_step (fail); refine wpQuiet_nil ?_
      refine Plan.left_q 8 (by rfl) (by kernel_rfl) ?_; go_big_quiet_step (fail); refine wpQuiet_nil ?_
      refine Plan.left_p 11 (by rfl) (by kernel_rfl) ?_; go_big_quiet_step (fail); refine wpQuiet_nil ?_
      refine Plan.left_p 12 (by rfl) (by kernel_rfl) ?_; go_big_quiet_step (fail); refine wpQuiet_nil ?_
      refine Plan.left_one 9 (by kernel_rfl) (by rfl) (Plan.plain rfl fun K hK => ?_)
      go_wp2_with (fail)
      refine hK _ _ ((ExtM.refl _).alloc _) ?_
      clear hK K
      refine Plan.left_one 10 (by kernel_rfl) (by rfl) (Plan.plain rfl fun K hK => ?_)
      refine wp_append_run (happ) rfl _ _ rfl rfl rfl ?_
      refine hK _ _ (hx5) ?_
      simp only [Act.put, List.setIfInBounds_toArray, List.set_cons_succ, List.set_cons_zero]
      clear hK K
      refine Plan.left_q 13 (by rfl) (by kernel_rfl) ?_; go_big_quiet_step (fail); refine wpQuiet_nil ?_
      refine Plan.left_one 14 (by kernel_rfl) (by rfl) (Plan.last rfl (by kernel_rfl) fun K hK => ?_)
      go_wp2_with (fail)
      refine Plan.left_done (by kernel_rfl) ?_
      obtain ⟨ht6, hx6', hf6⟩ := HH6.out
      clear happ hx5 a4 z4 b4 y4 f0 f1 f2 HH6 hn6R
      generalize w5.setCell ⟨T, 4, none⟩ (Value.slice pv (s.L.length + 1) cv) = w8 at *
      generalize hpv : Value.slice pv (s.L.length + 1) cv = v' at *
      clear hpv
      obtain ⟨p, cap, rfl, -⟩ := own_slice hrow
      have hrow8 : CRow w8 wc.drew.heap.size (.slice p cs.length cap) cs := own_ext hrow hx6' (fun k hk e => by
        have h1 := hvo k hk
        rcases e with e | e
        · have := ht2.foot k (.inl e); omega
        · have := ht2.foot k (.inr (.inr (.inr (.inl e)))); omega)
      have hB8 : wc.heap.size ≤ w8.heap.size := by
        have h1 := hxe.size
        have h2 := hx6'.size
        have h3 : wc.drew.heap.size = wc.heap.size := rfl
        omega
      have hFF : F < wc.heap.size := ht2.foot F (.inr (.inl rfl))
      have hXA : ExtM (TFoot T F Bs v0 v1) wc.drew w8 := ExtM.trans _ _ _ (hxe.mono fun k _ e => .inr (.inr (.inl e))) (hx6'.mono fun k _ e => e.elim .inl (fun e => .inr (.inr (.inr (.inl e)))))
      have hBS : wc.drew.heap.size ≤ w2.heap.size := hxe.size
      have hFA : ∀ k, TFoot T F Bs1 v' v1 k → TFoot T F Bs v0 v1 k ∨ wc.drew.heap.size ≤ k := fun k hk => by
        rcases hf6 k hk with e | e
        · rcases e with e | e | e | e
          · exact .inl (.inl e)
          · exact .inl (.inr (.inl e))
          · rcases hB1 k e with e | e
            · exact .inl (.inr (.inr (.inl e)))
            · exact .inr e
          · exact .inl (.inr (.inr (.inr e)))
        · exact .inr (Nat.le_trans hBS e)
      have hfin : ∀ (wx : World) (mx : List (Out × Value)), TaleIs wx T F E Bs1 v' v1 lo hi md { s with st := feedJ lo hi 0 ⟨kk, tt - 100, vv⟩ s.st, V := applyV s.V cs, f0 := fedI 0 s.f0, L := ⟨kk, tt - 100, vv⟩ :: s.L } mx (applyV s.V cs) → ExtM (fun k => k = F) w8 wx → TUp u wx T (TFoot T F Bs v0 v1) lo hi md (feedT lo hi md 0 ⟨kk, tt - 100, vv⟩ s) := fun wx mx h1 h2 => by
        rw [HF.out]
        have hd : ExtM (TFoot T F Bs v0 v1) wc wc.drew := ((ExtM.refl wc).drew : Ext wc wc.drew).mono (fun _ _ h => h.elim)
        exact TUp.fin hlF hxw (ExtM.trans _ _ _ hd (ExtM.trans _ _ _ hXA (h2.mono fun k _ e => .inr (.inl e)))) ⟨F, E, Bs1, _, _, mx, h1, rfl⟩ hFA (ExtM.refl _)
      have HFIN := Lib.hid hfin
      clear hf6 hx6' hxe hB1 hXA hFA hfin hBS hvo hrow ht3 hL hLc hokA hokB hn6 hn6B hzB hx6 q6 qT qT5 hnT hnR
      go_wp2_with fail
      go_loopg [9] (cs.length + 1) (fun kx s9 wr => ∃ (i : Nat) (m' : List (Out × Value)), s9 = .int .i64 i ∧ i ≤ cs.length ∧ cs.length - i ≤ kx ∧ TaleIs wr T F E Bs1 v' v1 lo hi md { s with st := feedJ lo hi 0 ⟨kk, tt - 100, vv⟩ s.st, V := applyV s.V cs, f0 := fedI 0 s.f0, L := ⟨kk, tt - 100, vv⟩ :: s.L } m' (applyV s.V (cs.take i)) ∧ ExtM (fun k => k = F) w8 wr)
      case atStart => exact ⟨0, m, rfl, by omega, by omega, ht6, ExtM.refl _⟩
      case round =>
        clear ht6
        obtain ⟨i, m', rfl, hli, hgk, ht, hx⟩ := hrel
        by_cases hil : i < cs.length
        · have hrow1 : CRow wr wc.drew.heap.size _ cs := own_ext hrow8 hx (fun k hk e => by have := (own_lt hrow8 k hk).1; have h3 : wc.drew.heap.size = wc.heap.size := rfl; omega)
          obtain ⟨g, rc, e1, hg, hc⟩ := crow_cells hrow1 i cs[i] (List.getElem?_eq_getElem hil)
          simp only [Value.slice.injEq, true_and] at e1
          obtain ⟨rfl, rfl⟩ := e1
          have hck := hcok _ (List.getElem_mem hil)
          have hgn := hgl _ (List.getElem_mem hil)
          have hva := valid_at cs s.V i hil hok'.out
          have HSN := Lib.hid (applyV_snoc s.V cs i hil)
          have hlen : (applyV s.V (cs.take i)).length < 1000000000 := by
            have h1 := applyV_len (cs.take i) s.V
            have h2 : (cs.take i).length ≤ 601 := by rw [List.length_take]; omega
            omega
          generalize cs[i] = c at *
          obtain ⟨x, gg⟩ := c
          simp only at hck hgn hva
          have y0 := hc 0 _ rfl
          have y1 := hc 1 _ rfl
          have y2 := hc 2 _ rfl
          have y3 := hc 3 _ rfl
          have y4 := hc 4 _ rfl
          have y5 := hc 5 _ rfl
          have y6 := hc 6 _ rfl
          have y7 := hc 7 _ rfl
          have y8 := hc 8 _ rfl
          have y9 := hc 9 _ rfl
          simp only [Nat.add_zero] at y0 y1 y2 y3 y4 y5 y6 y7 y8 y9
          clear hc
          go_upto_region 13 with fail
          have bx := BoxC.mk' wr x gg 72
          have hxa : Ext wr (wr.alloc (.cells #[.int .i64 x.key, .int .i64 x.l.k, .int .i64 x.l.t, .int .i64 x.l.v, .int .i64 x.r.k, .int .i64 x.r.t, .int .i64 x.r.v, .bool x.hl, .bool x.hr, .bool gg] 72)) := (ExtM.refl _).alloc _
          have htw := ht.ext hxa
          have hxw1 : ExtM (fun k => k = F) w8 _ := ExtM.trans _ _ _ hx (hxa.mono fun _ _ h => h.elim)
          have hnF : ¬ wr.heap.size = F := fun e => by have := ht.foot F (.inr (.inl rfl)); omega
          clear y0 y1 y2 y3 y4 y5 y6 y7 y8 y9 ht hx hxa hrow1
          generalize wr.alloc (.cells #[.int .i64 x.key, .int .i64 x.l.k, .int .i64 x.l.t, .int .i64 x.l.v, .int .i64 x.r.k, .int .i64 x.r.t, .int .i64 x.r.v, .bool x.hl, .bool x.hr, .bool gg] 72) = w1 at *
          generalize wr.heap.size = n at *
          have c8 := htw.own.c8
          have lT1 := cell_lt' c8
          have hTF : ¬ T = F := htw.TF
          have hm := htw.mp
          have hcz := htw.cz x
          have hcb1 : (((applyV s.V (cs.take i)).count x : Nat) : Int) < 1000000000 := by have := List.count_le_length (a := x) (l := applyV s.V (cs.take i)); omega
          have hcb0 : 0 ≤ (((applyV s.V (cs.take i)).count x : Nat) : Int) := Int.natCast_nonneg _
          simp only at lT1
          have hln : n < w1.heap.size := cell_lt' bx.e0
          obtain ⟨e0, e1, e2, e3, e4, e5, e6, e7, e8, e9⟩ := id bx
          cases gg with
          | false =>
            have hadd := htw.cz.add x
            have hlk := (hm.of (ExtM.drew (ExtM.refl w1) : Ext w1 w1.drew) id).run_look false outLaw encO_inj Tryz.underlying36 zeroInt x (keyO x hck)
            obtain ⟨stp, w2', hme, x2, z2, hlk2, hst⟩ := (hm.of (ExtM.drew (ExtM.refl w1) : Ext w1 w1.drew) id).run_entry outLaw encO_inj Tryz.underlying36 zeroInt x (keyO x hck)
            obtain ⟨w3', hst3, x3, z3, hm3⟩ := hst (.int .i64 (((applyV s.V (cs.take i)).count x : Int) + 1))
            rw [hcz] at hlk hme hlk2
            simp only [encO_run, Bool.false_eq_true, if_false] at hlk hme hlk2
            have y3 : ExtB F w1 w3' := ExtB.trans _ _ _ (ExtB.of_ext ((ExtM.refl w1).drew)) (ExtB.trans _ _ _ x2 x3)
            have hft := htw.folded y3 hm3 hadd
            have hxw3 : ExtM (fun k => k = F) w8 w3' := ExtM.trans _ _ _ hxw1 y3
            have HNX := Lib.hid (show TaleIs w3' T F E Bs1 v' v1 lo hi md _ _ (applyV s.V (cs.take (i + 1))) by rw [HSN.out]; exact hft)
            clear hft y3 hm3 hst z2 z3 hm hxw1
            generalize (((applyV s.V (cs.take i)).count x : Nat) : Int) = cc at *
            go_upto_region 14 with fail
            refine Plan.begin (Plan.ExtB F) 11 rfl (by kernel_rfl) ?_
            refine Plan.left_q 0 (by rfl) (by kernel_rfl) ?_; go_big_quiet_step (fail); refine wpQuiet_nil ?_
            refine Plan.left_q 1 (by rfl) (by kernel_rfl) ?_; go_big_quiet_step (fail); refine wpQuiet_nil ?_
            refine Plan.left_q 2 (by rfl) (by kernel_rfl) ?_; go_big_quiet_step (fail); refine wpQuiet_nil ?_
            refine Plan.left_q 3 (by rfl) (by kernel_rfl) ?_; go_big_quiet_step (fail); refine wpQuiet_nil ?_
            refine Plan.left_q 4 (by rfl) (by kernel_rfl) ?_; go_big_quiet_step (fail); refine wpQuiet_nil ?_
            refine Plan.left_q 5 (by rfl) (by kernel_rfl) ?_; go_big_quiet_step (fail); refine wpQuiet_nil ?_
            refine Plan.left_two 6 8 (by kernel_rfl) (by rfl) (by rfl) (Plan.plain rfl fun K hK => ?_) (Plan.plain rfl fun K hK => ?_)
            focus
              go_wp2_with (fail)
              refine hK _ _ (ExtM.refl _) ?_
              clear hK K
              refine Plan.left_q 7 (by rfl) (by kernel_rfl) ?_; go_big_quiet_step (fail); refine wpQuiet_nil ?_
              refine Plan.left_one 8 (by kernel_rfl) (by rfl) (Plan.plain rfl fun K hK => ?_)
              go_wp2_with (fail)
              refine hK _ _ (x2) ?_
              clear hK K
              refine Plan.left_q 9 (by rfl) (by kernel_rfl) ?_; go_big_quiet_step (fail); refine wpQuiet_nil ?_
              refine Plan.left_one 10 (by kernel_rfl) (by rfl) (Plan.plain rfl fun K hK => ?_)
              go_wp2_with (fail)
              refine hK _ _ (x3) ?_
              clear hK K
              refine Plan.left_done (by kernel_rfl) ?_
            rotate_left
            focus
              go_wp2_with (fail)
              refine hK _ _ (x2) ?_
              clear hK K
              refine Plan.left_q 9 (by rfl) (by kernel_rfl) ?_; go_big_quiet_step (fail); refine wpQuiet_nil ?_
              refine Plan.left_one 6 (by kernel_rfl) (by rfl) (Plan.plain rfl fun K hK => ?_)
              go_wp2_with (fail)
              refine hK _ _ (ExtM.refl _) ?_
              clear hK K
              refine Plan.left_q 7 (by rfl) (by kernel_rfl) ?_; go_big_quiet_step (fail); refine wpQuiet_nil ?_
              refine Plan.left_one 10 (by kernel_rfl) (by rfl) (Plan.plain rfl fun K hK => ?_)
              go_wp2_with (fail)
              refine hK _ _ (x3) ?_
              clear hK K
              refine Plan.left_done (by kernel_rfl) ?_
            all_goals
              clear e0 e1 e2 e3 e4 e5 e6 e7 e8 e9
              go_wp2_with fail
              go_roundg (cs.length - (i + 1))
              case measure => omega
              case rel => exact ⟨i + 1, _, by go_num, by omega, Nat.le_refl _, HNX.out, hxw3⟩
          | true =>
            have hmem := hva rfl
            have hlss := htw.cz.less x hmem
            have hpos : 0 < (applyV s.V (cs.take i)).count x := List.count_pos_iff.2 hmem
            have hz0 : ((((applyV s.V (cs.take i)).count x : Nat) : Int) == 0) = false := by simp; omega
            have hlq := fun p => (hm.of (ext_E ExtM.refl w1.drew p |> fun h => ExtM.trans _ _ _ (ExtM.drew (ExtM.refl w1)) h : Ext w1 (Plan.ext Ext w1.drew p)) id).run_look false outLaw encO_inj Tryz.underlying36 zeroInt x (keyO x hck)
            simp only [hcz, encO_run, Bool.false_eq_true, if_false] at hlq
            have xd : Ext w1 w1.drew := (ExtM.refl _).drew
            have hmd := hm.of xd id
            have htd := htw.ext xd
            have bxd := bx.of xd id
            have hxd := ExtM.trans _ _ _ hxw1 (xd.mono fun _ _ h => h.elim)
            go_upto_region 15 with fail
            go_cut [107] (fun s107 wx => s107 = .bool false ∧ wx = w1.drew)
            case first =>
              obtain ⟨xk, xl, xr, hhl, hhr⟩ := x
              cases hhl <;> cases hhr
              all_goals first
                | (exfalso; revert hgn; simp; done)
                | skip
              -- DONE{
              all_goals
                simp only at e0 e1 e2 e3 e4 e5 e6 e7 e8 e9
                refine Plan.begin Plan.Ext 18 rfl (by kernel_rfl) ?_
                refine Plan.left_q 0 (by rfl) (by kernel_rfl) ?_; go_big_quiet_step (fail); refine wpQuiet_nil ?_
                refine Plan.left_q 1 (by rfl) (by kernel_rfl) ?_; go_big_quiet_step (fail); refine wpQuiet_nil ?_
                refine Plan.left_q 2 (by rfl) (by kernel_rfl) ?_; go_big_quiet_step (fail); refine wpQuiet_nil ?_
                refine Plan.left_q 3 (by rfl) (by kernel_rfl) ?_; go_big_quiet_step (fail); refine wpQuiet_nil ?_
                refine Plan.left_q 4 (by rfl) (by kernel_rfl) ?_; go_big_quiet_step (fail); refine wpQuiet_nil ?_
                refine Plan.left_q 5 (by rfl) (by kernel_rfl) ?_; go_big_quiet_step (fail); refine wpQuiet_nil ?_
                refine Plan.left_q 6 (by rfl) (by kernel_rfl) ?_; go_big_quiet_step (fail); refine wpQuiet_nil ?_
                refine Plan.left_q 7 (by rfl) (by kernel_rfl) ?_; go_big_quiet_step (fail); refine wpQuiet_nil ?_
                refine Plan.left_q 8 (by rfl) (by kernel_rfl) ?_; go_big_quiet_step (fail); refine wpQuiet_nil ?_
                refine Plan.left_q 9 (by rfl) (by kernel_rfl) ?_; go_big_quiet_step (fail); refine wpQuiet_nil ?_
                refine Plan.left_q 10 (by rfl) (by kernel_rfl) ?_; go_big_quiet_step (fail); refine wpQuiet_nil ?_
                refine Plan.left_q 11 (by rfl) (by kernel_rfl) ?_; go_big_quiet_step (fail); refine wpQuiet_nil ?_
                refine Plan.left_q 12 (by rfl) (by kernel_rfl) ?_; go_big_quiet_step (fail); refine wpQuiet_nil ?_
                refine Plan.left_q 13 (by rfl) (by kernel_rfl) ?_; go_big_quiet_step (fail); refine wpQuiet_nil ?_
                refine Plan.left_q 14 (by rfl) (by kernel_rfl) ?_; go_big_quiet_step (fail); refine wpQuiet_nil ?_
                refine Plan.left_q 15 (by rfl) (by kernel_rfl) ?_; go_big_quiet_step (fail); refine wpQuiet_nil ?_
                refine Plan.left_q 16 (by rfl) (by kernel_rfl) ?_; go_big_quiet_step (fail); refine wpQuiet_nil ?_
                refine Plan.left_q 17 (by rfl) (by kernel_rfl) ?_; go_big_quiet_step (fail); refine wpQuiet_nil ?_
                refine Plan.left_done (by kernel_rfl) ?_
                go_wp2_with fail
                go_meet
                exact ⟨rfl, rfl⟩
              -- }DONE
            case rest =>
              obtain ⟨rfl, rfl⟩ := hcut
              clear hlq hm bx htw hxw1 e0 e1 e2 e3 e4 e5 e6 e7 e8 e9 c8 hln lT1 xd hz0
              generalize w1.drew = v1w at *
              have c8 := htd.own.c8
              have lT1 := cell_lt' c8
              simp only at lT1
              have hln : n < v1w.heap.size := cell_lt' bxd.e0
              obtain ⟨e0, e1, e2, e3, e4, e5, e6, e7, e8, e9⟩ := id bxd
              have hlk := (hmd.of (ExtM.drew (ExtM.refl v1w) : Ext v1w v1w.drew) id).run_look false outLaw encO_inj Tryz.underlying36 zeroInt x (keyO x hck)
              obtain ⟨stp, w2', hme, x2, z2, hlk2, hst⟩ := (hmd.of (ExtM.drew (ExtM.refl v1w) : Ext v1w v1w.drew) id).run_entry outLaw encO_inj Tryz.underlying36 zeroInt x (keyO x hck)
              obtain ⟨w3', hst3, x3, z3, hm3⟩ := hst (.int .i64 (((applyV s.V (cs.take i)).count x : Int) - 1))
              rw [hcz] at hlk hme hlk2
              simp only [encO_run, Bool.false_eq_true, if_false] at hlk hme hlk2
              have y3 : ExtB F v1w w3' := ExtB.trans _ _ _ (ExtB.of_ext ((ExtM.refl v1w).drew)) (ExtB.trans _ _ _ x2 x3)
              have hft := htd.folded y3 hm3 hlss
              have hxw3 : ExtM (fun k => k = F) w8 w3' := ExtM.trans _ _ _ hxd y3
              have HNX := Lib.hid (show TaleIs w3' T F E Bs1 v' v1 lo hi md _ _ (applyV s.V (cs.take (i + 1))) by rw [HSN.out]; exact hft)
              clear hft y3 hm3 hst z2 z3 hmd hxd
              generalize (((applyV s.V (cs.take i)).count x : Nat) : Int) = cc at *
              go_upto_region 17 with fail
              refine Plan.begin (Plan.ExtB F) 11 rfl (by kernel_rfl) ?_
              refine Plan.left_q 0 (by rfl) (by kernel_rfl) ?_; go_big_quiet_step (fail); refine wpQuiet_nil ?_
              refine Plan.left_q 1 (by rfl) (by kernel_rfl) ?_; go_big_quiet_step (fail); refine wpQuiet_nil ?_
              refine Plan.left_q 2 (by rfl) (by kernel_rfl) ?_; go_big_quiet_step (fail); refine wpQuiet_nil ?_
              refine Plan.left_q 3 (by rfl) (by kernel_rfl) ?_; go_big_quiet_step (fail); refine wpQuiet_nil ?_
              refine Plan.left_q 4 (by rfl) (by kernel_rfl) ?_; go_big_quiet_step (fail); refine wpQuiet_nil ?_
              refine Plan.left_q 5 (by rfl) (by kernel_rfl) ?_; go_big_quiet_step (fail); refine wpQuiet_nil ?_
              refine Plan.left_two 6 8 (by kernel_rfl) (by rfl) (by rfl) (Plan.plain rfl fun K hK => ?_) (Plan.plain rfl fun K hK => ?_)
              focus
                go_wp2_with (fail)
                refine hK _ _ (ExtM.refl _) ?_
                clear hK K
                refine Plan.left_q 7 (by rfl) (by kernel_rfl) ?_; go_big_quiet_step (fail); refine wpQuiet_nil ?_
                refine Plan.left_one 8 (by kernel_rfl) (by rfl) (Plan.plain rfl fun K hK => ?_)
                go_wp2_with (fail)
                refine hK _ _ (x2) ?_
                clear hK K
                refine Plan.left_q 9 (by rfl) (by kernel_rfl) ?_; go_big_quiet_step (fail); refine wpQuiet_nil ?_
                refine Plan.left_one 10 (by kernel_rfl) (by rfl) (Plan.plain rfl fun K hK => ?_)
                go_wp2_with (fail)
                refine hK _ _ (x3) ?_
                clear hK K
                refine Plan.left_done (by kernel_rfl) ?_
              rotate_left
              focus
                go_wp2_with (fail)
                refine hK _ _ (x2) ?_
                clear hK K
                refine Plan.left_q 9 (by rfl) (by kernel_rfl) ?_; go_big_quiet_step (fail); refine wpQuiet_nil ?_
                refine Plan.left_one 6 (by kernel_rfl) (by rfl) (Plan.plain rfl fun K hK => ?_)
                go_wp2_with (fail)
                refine hK _ _ (ExtM.refl _) ?_
                clear hK K
                refine Plan.left_q 7 (by rfl) (by kernel_rfl) ?_; go_big_quiet_step (fail); refine wpQuiet_nil ?_
                refine Plan.left_one 10 (by kernel_rfl) (by rfl) (Plan.plain rfl fun K hK => ?_)
                go_wp2_with (fail)
                refine hK _ _ (x3) ?_
                clear hK K
                refine Plan.left_done (by kernel_rfl) ?_
              all_goals
                clear e0 e1 e2 e3 e4 e5 e6 e7 e8 e9
                go_wp2_with fail
                go_roundg (cs.length - (i + 1))
                case measure => omega
                case rel => exact ⟨i + 1, _, by go_num, by omega, Nat.le_refl _, HNX.out, hxw3⟩
        · obtain rfl : i = cs.length := by omega
          have hz : decide (cs.length < cs.length) = false := by simp
          have hz2 : decide ((cs.length : Int) < cs.length) = false := by simp
          go_wp2_with fail
          go_ret
          rw [List.take_length] at ht
          exact ⟨rfl, HFIN.out _ _ ht hx⟩
    · have er : errV 10 = .iface 48 (.int .i64 10) := rfl
      rw [hE, er] at hfeed
      have HF := Lib.hid (feedT0_late (md := md) hE)
      have hnil : applyV s.V (feedC lo hi md 0 ⟨kk, tt - 100, vv⟩ s.st) = s.V := by unfold feedC; rw [if_neg (by rw [hE]; decide)]; rfl
      have HN := Lib.hid hnil
      clear hE hok hnil
      refine Plan.begin (Plan.ExtL T n6) 12 rfl (by kernel_rfl) ?_
      refine Plan.left_q 0 (by rfl) (by kernel_rfl) ?_; go_big_quiet_step (fail); refine wpQuiet_nil ?_
      refine Plan.left_q 1 (by rfl) (by kernel_rfl) ?_; go_big_quiet_step (fail); refine wpQuiet_nil ?_
      refine Plan.left_q 2 (by rfl) (by kernel_rfl) ?_; go_big_quiet_step (fail); refine wpQuiet_nil ?_
      refine Plan.left_q 3 (by rfl) (by kernel_rfl) ?_; go_big_quiet_step (fail); refine wpQuiet_nil ?_
      refine Plan.left_q 4 (by rfl) (by kernel_rfl) ?_; go_big_quiet_step (fail); refine wpQuiet_nil ?_
      refine Plan.left_q 5 (by rfl) (by kernel_rfl) ?_; go_big_quiet_step (fail); refine wpQuiet_nil ?_
      refine Plan.left_one 6 (by kernel_rfl) (by rfl) (Plan.plain rfl fun K hK => ?_)
      go_wp2_with (fail)
      refine (hfeed).mono ?_
      rintro e w2 ⟨vo, rfl, hrow, h2⟩
      have H2 := ExtL.trans _ _ _ (ExtL.refl _).drew (EUp.extL hnT hn6B h2)
      obtain ⟨hc2, hf2, -⟩ := ExtL.rules H2
      have hs2_0 : T < w2.heap.size := by have := H2.size; (try simp at this); omega
      have hs2_1 : n6 < w2.heap.size := by have := H2.size; (try simp at this); omega
      go_wp2_with (fail)
      refine hK _ _ (EUp.extL hnT hn6B h2) ?_
      clear hK K
      refine Plan.left_q 7 (by rfl) (by kernel_rfl) ?_; go_big_quiet_step (fail); refine wpQuiet_nil ?_
      refine Plan.left_q 8 (by rfl) (by kernel_rfl) ?_; go_big_quiet_step (fail); refine wpQuiet_nil ?_
      refine Plan.left_q 9 (by rfl) (by kernel_rfl) ?_; go_big_quiet_step (fail); refine wpQuiet_nil ?_
      refine Plan.left_q 10 (by rfl) (by kernel_rfl) ?_; go_big_quiet_step (fail); refine wpQuiet_nil ?_
      refine Plan.left_q 11 (by rfl) (by kernel_rfl) ?_; go_big_quiet_step (fail); refine wpQuiet_nil ?_
      refine Plan.left_done (by kernel_rfl) ?_
      obtain ⟨hxe, -⟩ := id h2
      obtain ⟨Bs1, ht3, hB1⟩ := (ht2.ext (ExtM.refl wc).drew).fed h2
      have hL3 : Laid w2 := (hLc.of (ExtM.refl wc).drew).ofM hxe hzB
      have hcz := ht3.cz
      rw [← HN.out] at hcz
      have ht4 := ht3.folded (ExtM.refl w2) ht3.mp hcz
      have hd : ExtM (TFoot T F Bs v0 v1) wc wc.drew := ((ExtM.refl wc).drew : Ext wc wc.drew).mono (fun _ _ h => h.elim)
      have hfin : TUp u w2 T (TFoot T F Bs v0 v1) lo hi md (feedT lo hi md 0 ⟨kk, tt - 100, vv⟩ s) := by
        rw [HF.out]
        refine TUp.fin hlF hxw (ExtM.trans _ _ _ hd (hxe.mono fun k _ e => .inr (.inr (.inl e)))) ⟨F, E, Bs1, _, _, m, ht4, rfl⟩ (fun k hk => ?_) (ExtM.refl _)
        rcases hk with e | e | e | e
        · exact .inl (.inl e)
        · exact .inl (.inr (.inl e))
        · rcases hB1 k e with e | e
          · exact .inl (.inr (.inr (.inl e)))
          · exact .inr e
        · exact .inl (.inr (.inr (.inr e)))
      have HFIN := Lib.hid hfin
      clear hc2 hf2 hs2_0 hs2_1 H2 h2 e0 e1 e2 c0 hfin hd ht4 hcz ht3 hB1 hxe hrow
      go_wp2_with (go_at_call 15; refine (tell_c 10 _ hL3).mono ?_; rintro e w3 ⟨rfl, hx3⟩)
      go_ret
      obtain ⟨q1, Fs', q2, q3⟩ := HFIN.out
      exact ⟨rfl, ExtM.trans _ _ _ q1 (hx3.mono (fun _ _ h => h.elim)), Fs', q2.ext hx3, q3⟩
set_option maxRecDepth 100000 in
set_option maxHeartbeats 4000000 in
theorem does01_c {u : World} {T : Nat} {Fs : Nat → Prop} {lo hi md : Int} {s : TSt} {n : Nat} (hTA : TAt u T Fs lo hi md s) (ok : TOk lo hi md s n) (hn : n < 200) (hp : PlanOk lo hi) (hL : Laid u) (hz : ¬ Fs 0)
    (side nn key time value : Int) (i1 : I64 side) (i2 : I64 key) (i3 : I64 time) (i4 : I64 value) (hs : pickN side 2 = 1) :
    Calls Tryz.prog 9 #[.pointer (some ⟨T, 0, none⟩), .agg #[.int .i64 0, .int .i64 side, .int .i64 nn, .int .i64 key, .int .i64 time, .int .i64 value]] u fun e u' => e = .returned (.bool true) ∧ TUp u u' T Fs lo hi md (feedT lo hi md 1 (stepRow key time value) s) := by
  obtain ⟨F, E, Bs, v0, v1, m, h, rfl⟩ := hTA
  have p0 : ∀ w, Calls Tryz.prog 13 #[.int .i64 side, .int .i64 2] w fun e w' => e = .returned (.int .i64 1) ∧ w = w' := fun w => (pick_c side 2 w (by decide) (by decide) i1).mono fun e w' hh => by rw [hs] at hh; exact hh
  have k1 := pickN_lt key 4 (by decide)
  have k2 := pickN_lt time 200 (by decide)
  have k3 := pickN_lt value 50 (by decide)
  have p1 : ∀ w, Calls Tryz.prog 13 #[.int .i64 key, .int .i64 4] w fun e w' => e = .returned (.int .i64 (pickN key 4 : Nat)) ∧ w = w' := fun w => pick_c key 4 w (by decide) (by decide) i2
  have p2 : ∀ w, Calls Tryz.prog 13 #[.int .i64 time, .int .i64 200] w fun e w' => e = .returned (.int .i64 (pickN time 200 : Nat)) ∧ w = w' := fun w => pick_c time 200 w (by decide) (by decide) i3
  have p3 : ∀ w, Calls Tryz.prog 13 #[.int .i64 value, .int .i64 50] w fun e w' => e = .returned (.int .i64 (pickN value 50 : Nat)) ∧ w = w' := fun w => pick_c value 50 w (by decide) (by decide) i4
  have hsm := stepRow_small key time value
  have hst : stepRow key time value = ⟨(pickN key 4 : Nat), (pickN time 200 : Nat) - 100, (pickN value 50 : Nat)⟩ := rfl
  have hE2 := feedE_two (lo := lo) (hi := hi) (s := 1) hsm s.st.x s.st.y (n := (s.st.of 1).length) (by have := ok.lb; show s.st.b.length < 300; omega)
  have hok := (ok.feed1 (by omega) _ hsm).2
  rw [hst] at hE2 hok ⊢
  have HSM := Lib.hid hsm
  have HZ := Lib.hid hz
  clear hst hsm hz
  generalize pickN key 4 = kk at *
  generalize pickN time 200 = tt at *
  generalize pickN value 50 = vv at *
  go_enter Tryz.func9, Tryz.ntmps9
  go_upto_region 4 with (go_at_call 13; with_reducible refine (p0 _).mono ?_; rintro e w1 ⟨rfl, rfl⟩)
  have b3 : (u.alloc (.cells #[.int .i64 0, .int .i64 side, .int .i64 nn, .int .i64 key, .int .i64 time, .int .i64 value] 28)).cell? ⟨u.heap.size, 3, none⟩ = some (.int .i64 key) := by go_simp
  have b4 : (u.alloc (.cells #[.int .i64 0, .int .i64 side, .int .i64 nn, .int .i64 key, .int .i64 time, .int .i64 value] 28)).cell? ⟨u.heap.size, 4, none⟩ = some (.int .i64 time) := by go_simp
  have b5 : (u.alloc (.cells #[.int .i64 0, .int .i64 side, .int .i64 nn, .int .i64 key, .int .i64 time, .int .i64 value] 28)).cell? ⟨u.heap.size, 5, none⟩ = some (.int .i64 value) := by go_simp
  have hxb : Ext u (u.alloc (.cells #[.int .i64 0, .int .i64 side, .int .i64 nn, .int .i64 key, .int .i64 time, .int .i64 value] 28)) := (ExtM.refl _).alloc _
  have ht := h.ext hxb
  generalize u.alloc (.cells #[.int .i64 0, .int .i64 side, .int .i64 nn, .int .i64 key, .int .i64 time, .int .i64 value] 28) = wb at *
  generalize hnb : u.heap.size = nb at *
  have lb0 := cell_lt' b3
  go_cut [6] (fun s6 wx => ∃ n6, s6 = .pointer (some ⟨n6, 0, none⟩) ∧ wb.heap.size ≤ n6 ∧ Ext wb wx ∧ wx.cell? ⟨n6, 0, none⟩ = some (.int .i64 kk) ∧ wx.cell? ⟨n6, 1, none⟩ = some (.int .i64 (tt - 100)) ∧ wx.cell? ⟨n6, 2, none⟩ = some (.int .i64 vv))
  case first =>
    -- DONE{
    refine Plan.beginT Plan.Ext [12] 13 rfl (by kernel_rfl) ?_
    refine Plan.left_q 0 (by rfl) (by kernel_rfl) ?_; go_big_quiet_step (fail); refine wpQuiet_nil ?_
    refine Plan.left_q 1 (by rfl) (by kernel_rfl) ?_; go_big_quiet_step (fail); refine wpQuiet_nil ?_
    refine Plan.left_q 3 (by rfl) (by kernel_rfl) ?_; go_big_quiet_step (fail); refine wpQuiet_nil ?_
    refine Plan.left_q 4 (by rfl) (by kernel_rfl) ?_; go_big_quiet_step (fail); refine wpQuiet_nil ?_
    refine Plan.left_q 7 (by rfl) (by kernel_rfl) ?_; go_big_quiet_step (fail); refine wpQuiet_nil ?_
    refine Plan.left_q 8 (by rfl) (by kernel_rfl) ?_; go_big_quiet_step (fail); refine wpQuiet_nil ?_
    refine Plan.left_two 2 11 (by kernel_rfl) (by rfl) (by rfl) (Plan.plain rfl fun K hK => ?_) (Plan.plain rfl fun K hK => ?_)
    focus
      go_wp2_with (fail)
      refine (p1 _).mono ?_
      rintro e w' ⟨rfl, rfl⟩
      go_wp2_with (fail)
      refine hK _ _ (ExtM.refl _) ?_
      clear hK K
      refine Plan.left_two 5 11 (by kernel_rfl) (by rfl) (by rfl) (Plan.plain rfl fun K hK => ?_) (Plan.plain rfl fun K hK => ?_)
      focus
        go_wp2_with (fail)
        refine (p2 _).mono ?_
        rintro e w' ⟨rfl, rfl⟩
        go_wp2_with (fail)
        refine hK _ _ (ExtM.refl _) ?_
        clear hK K
        refine Plan.left_q 6 (by rfl) (by kernel_rfl) ?_; go_big_quiet_step (fail); refine wpQuiet_nil ?_
        refine Plan.left_two 9 11 (by kernel_rfl) (by rfl) (by rfl) (Plan.plain rfl fun K hK => ?_) (Plan.plain rfl fun K hK => ?_)
        focus
          go_wp2_with (fail)
          refine (p3 _).mono ?_
          rintro e w' ⟨rfl, rfl⟩
          go_wp2_with (fail)
          refine hK _ _ (ExtM.refl _) ?_
          clear hK K
          refine Plan.left_q 10 (by rfl) (by kernel_rfl) ?_; go_big_quiet_step (fail); refine wpQuiet_nil ?_
          refine Plan.left_one 11 (by kernel_rfl) (by rfl) (Plan.plain rfl fun K hK => ?_)
          go_wp2_with (fail)
          refine hK _ _ ((ExtM.refl _).alloc _) ?_
          clear hK K
          refine Plan.left_one 12 (by kernel_rfl) (by rfl) (Plan.last rfl (by kernel_rfl) fun K hK => ?_)
          go_wp2_with (fail)
          refine Plan.left_done (by kernel_rfl) ?_
        rotate_left
        focus
          go_wp2_with (fail)
          refine hK _ _ ((ExtM.refl _).alloc _) ?_
          clear hK K
          refine Plan.left_one 9 (by kernel_rfl) (by rfl) (Plan.plain rfl fun K hK => ?_)
          go_wp2_with (fail)
          refine (p3 _).mono ?_
          rintro e w' ⟨rfl, rfl⟩
          go_wp2_with (fail)
          refine hK _ _ (ExtM.refl _) ?_
          clear hK K
          refine Plan.left_q 10 (by rfl) (by kernel_rfl) ?_; go_big_quiet_step (fail); refine wpQuiet_nil ?_
          refine Plan.left_one 12 (by kernel_rfl) (by rfl) (Plan.last rfl (by kernel_rfl) fun K hK => ?_)
          go_wp2_with (fail)
          refine Plan.left_done (by kernel_rfl) ?_
      rotate_left 2
      focus
        go_wp2_with (fail)
        refine hK _ _ ((ExtM.refl _).alloc _) ?_
        clear hK K
        refine Plan.left_one 5 (by kernel_rfl) (by rfl) (Plan.plain rfl fun K hK => ?_)
        go_wp2_with (fail)
        refine (p2 _).mono ?_
        rintro e w' ⟨rfl, rfl⟩
        go_wp2_with (fail)
        refine hK _ _ (ExtM.refl _) ?_
        clear hK K
        refine Plan.left_q 6 (by rfl) (by kernel_rfl) ?_; go_big_quiet_step (fail); refine wpQuiet_nil ?_
        refine Plan.left_one 9 (by kernel_rfl) (by rfl) (Plan.plain rfl fun K hK => ?_)
        go_wp2_with (fail)
        refine (p3 _).mono ?_
        rintro e w' ⟨rfl, rfl⟩
        go_wp2_with (fail)
        refine hK _ _ (ExtM.refl _) ?_
        clear hK K
        refine Plan.left_q 10 (by rfl) (by kernel_rfl) ?_; go_big_quiet_step (fail); refine wpQuiet_nil ?_
        refine Plan.left_one 12 (by kernel_rfl) (by rfl) (Plan.last rfl (by kernel_rfl) fun K hK => ?_)
        go_wp2_with (fail)
        refine Plan.left_done (by kernel_rfl) ?_
    rotate_left 3
    focus
      go_wp2_with (fail)
      refine hK _ _ ((ExtM.refl _).alloc _) ?_
      clear hK K
      refine Plan.left_one 2 (by kernel_rfl) (by rfl) (Plan.plain rfl fun K hK => ?_)
      go_wp2_with (fail)
      refine (p1 _).mono ?_
      rintro e w' ⟨rfl, rfl⟩
      go_wp2_with (fail)
      refine hK _ _ (ExtM.refl _) ?_
      clear hK K
      refine Plan.left_one 5 (by kernel_rfl) (by rfl) (Plan.plain rfl fun K hK => ?_)
      go_wp2_with (fail)
      refine (p2 _).mono ?_
      rintro e w' ⟨rfl, rfl⟩
      go_wp2_with (fail)
      refine hK _ _ (ExtM.refl _) ?_
      clear hK K
      refine Plan.left_q 6 (by rfl) (by kernel_rfl) ?_; go_big_quiet_step (fail); refine wpQuiet_nil ?_
      refine Plan.left_one 9 (by kernel_rfl) (by rfl) (Plan.plain rfl fun K hK => ?_)
      go_wp2_with (fail)
      refine (p3 _).mono ?_
      rintro e w' ⟨rfl, rfl⟩
      go_wp2_with (fail)
      refine hK _ _ (ExtM.refl _) ?_
      clear hK K
      refine Plan.left_q 10 (by rfl) (by kernel_rfl) ?_; go_big_quiet_step (fail); refine wpQuiet_nil ?_
      refine Plan.left_one 12 (by kernel_rfl) (by rfl) (Plan.last rfl (by kernel_rfl) fun K hK => ?_)
      go_wp2_with (fail)
      refine Plan.left_done (by kernel_rfl) ?_
    all_goals
      go_wp2_with fail
      go_meet
      exact ⟨_, rfl, Nat.le_refl _, ((ExtM.refl _).drew).alloc _, by go_simp, by go_simp, by go_simp⟩
    -- }DONE
  case rest =>
    obtain ⟨n6, rfl, hn6, hx6, e0, e1, e2⟩ := hcut
    clear p0 p1 p2 p3 b3 b4 b5 lb0
    have ht2 := ht.ext hx6
    have hn6B : ¬ Bs n6 := fun e => by have := ht.foot n6 (.inr (.inr (.inl e))); omega
    have hzB : ¬ Bs 0 := fun e => HZ.out (.inr (.inr (.inl e)))
    have hLc : Laid wc := (hL.of hxb).of hx6
    have hla := ok.la
    have hlb := ok.lb
    have hlV := ok.lV
    have hVn : s.V.length < 900000 := by
      have : n * n ≤ 200 * 200 := Nat.mul_le_mul (by omega) (by omega)
      omega
    have hokA : ∀ h ∈ s.st.a, h.r.ok := by obtain ⟨_, _, _, _, _, _, _, hI, -⟩ := ht2.eng; exact hI.okA
    have hokB : ∀ h ∈ s.st.b, h.r.ok := by obtain ⟨_, _, _, _, _, _, _, hI, -⟩ := ht2.eng; exact hI.okB
    have hfeed := en_feed1 (ht2.eng.ext (ExtM.refl wc).drew) hp (by omega) (by omega) (hLc.of (ExtM.refl wc).drew) hzB kk (tt - 100) vv hok hVn
    have hxw : Ext u wc := ExtM.trans _ _ _ hxb hx6
    have hlF : ∀ k, TFoot T F Bs v0 v1 k → k < u.heap.size := h.foot
    have c0 := ht2.own.c0
    have hnT := h.nT
    have lT := cell_lt' c0
    have l6 := cell_lt' e0
    simp only at lT l6
    go_upto_region 5 with fail
    rcases hE2 with hE | hE
    · have er : errV 0 = .nilIface := rfl
      rw [hE, er] at hfeed
      have HE := Lib.hid hE
      clear hE
      have hcok := feedC_ok (lo := lo) (hi := hi) (md := md) (s := 1) (r := ⟨kk, tt - 100, vv⟩) hokA hokB
      have hgl : ∀ c ∈ feedC lo hi md 1 ⟨kk, tt - 100, vv⟩ s.st, c.2 = true → (c.1.hl && c.1.hr) = false := gone_lone
      have hfl := feedC_len lo hi md 1 ⟨kk, tt - 100, vv⟩ s.st (by omega) (by omega)
      have HF := Lib.hid (feedT1_ok (md := md) HE.out)
      have hok' := Lib.hid hok
      clear hok
      generalize feedC lo hi md 1 ⟨kk, tt - 100, vv⟩ s.st = cs at *
      refine Plan.begin (Plan.ExtL T n6) 12 rfl (by kernel_rfl) ?_
      refine Plan.left_q 0 (by rfl) (by kernel_rfl) ?_; go_big_quiet_step (fail); refine wpQuiet_nil ?_
      refine Plan.left_q 1 (by rfl) (by kernel_rfl) ?_; go_big_quiet_step (fail); refine wpQuiet_nil ?_
      refine Plan.left_q 2 (by rfl) (by kernel_rfl) ?_; go_big_quiet_step (fail); refine wpQuiet_nil ?_
      refine Plan.left_q 3 (by rfl) (by kernel_rfl) ?_; go_big_quiet_step (fail); refine wpQuiet_nil ?_
      refine Plan.left_q 4 (by rfl) (by kernel_rfl) ?_; go_big_quiet_step (fail); refine wpQuiet_nil ?_
      refine Plan.left_q 5 (by rfl) (by kernel_rfl) ?_; go_big_quiet_step (fail); refine wpQuiet_nil ?_
      refine Plan.left_one 6 (by kernel_rfl) (by rfl) (Plan.plain rfl fun K hK => ?_)
      go_wp2_with (fail)
      refine (hfeed).mono ?_
      rintro e w2 ⟨vo, rfl, hrow, h2⟩
      have H2 := ExtL.trans _ _ _ (ExtL.refl _).drew (EUp.extL hnT hn6B h2)
      obtain ⟨hc2, hf2, -⟩ := ExtL.rules H2
      have hs2_0 : T < w2.heap.size := by have := H2.size; (try simp at this); omega
      have hs2_1 : n6 < w2.heap.size := by have := H2.size; (try simp at this); omega
      go_wp2_with (fail)
      refine hK _ _ (EUp.extL hnT hn6B h2) ?_
      clear hK K
      refine Plan.left_q 7 (by rfl) (by kernel_rfl) ?_; go_big_quiet_step (fail); refine wpQuiet_nil ?_
      refine Plan.left_q 8 (by rfl) (by kernel_rfl) ?_; go_big_quiet_step (fail); refine wpQuiet_nil ?_
      refine Plan.left_q 9 (by rfl) (by kernel_rfl) ?_; go_big_quiet_step (fail); refine wpQuiet_nil ?_
      refine Plan.left_q 10 (by rfl) (by kernel_rfl) ?_; go_big_quiet_step (fail); refine wpQuiet_nil ?_
      refine Plan.left_q 11 (by rfl) (by kernel_rfl) ?_; go_big_quiet_step (fail); refine wpQuiet_nil ?_
      refine Plan.left_done (by kernel_rfl) ?_
      obtain ⟨hxe, -⟩ := id h2
      obtain ⟨Bs1, ht3, hB1⟩ := (ht2.ext (ExtM.refl wc).drew).fed h2
      have f0 := (hxe.cell (p := ⟨n6, 0, none⟩) l6 hn6B).trans e0
      have f1 := (hxe.cell (p := ⟨n6, 1, none⟩) l6 hn6B).trans e1
      have f2 := (hxe.cell (p := ⟨n6, 2, none⟩) l6 hn6B).trans e2
      have hvo : ∀ k, vo.ownBlock = some k → wc.heap.size ≤ k := fun k hk => (own_lt hrow k hk).1
      have q6 : n6 < w2.heap.size := cell_lt' f0
      have qT : T < w2.heap.size := ht3.foot T (.inl rfl)
      have a4 := ht3.own.c5
      have z4 := ht3.own.fz 5
      clear hc2 hf2 hs2_0 hs2_1 H2 h2 e0 e1 e2 c0
      go_upto_region 8 with fail
      have hnR : ¬ v1.ownBlock = some T := fun e => (ht3.a1 T e).2.1 rfl
      have hn6R : ¬ v1.ownBlock = some n6 := fun e => by have := ht.foot n6 (.inr (.inr (.inr (.inr e)))); omega
      obtain ⟨v', w5, happ, hr5, hx5, hn5⟩ := run_appendT (w2.drew.alloc (.cells #[.int .i64 kk, .int .i64 (tt - 100), .int .i64 vv] 56)) 0 w2.heap.size 1 v1 s.R.reverse ⟨kk, tt - 100, vv⟩ 33
        (own_ext ht3.r1 ((ExtM.refl w2).drew.alloc _ : Ext w2 _) (fun _ _ h => h)) (fun j u hj => (World.cell?_alloc_at (w := w2.drew) _ _ w2.heap.size j rfl).trans (by simpa [rowL] using hj)) (by rw [List.length_reverse]; have := ok.lR; omega) (Nat.zero_le _)
      obtain ⟨pv, cv, hpv, -⟩ := own_slice hr5
      rw [show (s.R.reverse ++ [(⟨kk, tt - 100, vv⟩ : Row)]).length = s.R.length + 1 by simp] at hpv
      have hx5' : ExtR v1.ownBlock w2 w5 := ExtR.trans _ _ _ ((ExtR.refl w2).drew.alloc _) hx5
      have hn5' : v'.ownBlock = v1.ownBlock ∨ ∃ k, v'.ownBlock = some k ∧ w2.heap.size ≤ k := by
        rcases hn5 with e | ⟨k, e, hk⟩
        · exact .inl e
        · exact .inr ⟨k, e, by rw [World.size_alloc] at hk; exact Nat.le_trans (Nat.le_succ _) hk⟩
      have b4 := (hx5'.rules.1 T 5 qT hnR).trans a4
      have y4 := (hx5'.rules.2.1 T 5 qT hnR).trans z4
      have qT5 : T < w5.heap.size := Nat.lt_of_lt_of_le qT hx5'.size
      rw [← List.reverse_cons] at hr5
      obtain ⟨ht6, hx6', hf6⟩ := ht3.row1 hx5' hr5 hn5'
      have HH6 := Lib.hid (⟨ht6, hx6', hf6⟩ : _ ∧ _ ∧ _)
      clear ht6 hx6' hf6 hr5 hn5 hn5' hx5'
      subst hpv
      refine Plan.beginT (Plan.ExtR v1.ownBlock) [14] 15 rfl (by kernel_rfl) ?_
      refine Plan.left_q 0 (by rfl) (by kernel_rfl) ?_; go_big_quiet_step (fail); refine wpQuiet_nil ?_
      refine Plan.left_q 1 (by rfl) (by kernel_rfl) ?_; go_big_quiet_step (fail); refine wpQuiet_nil ?_
      refine Plan.left_q 2 (by rfl) (by kernel_rfl) ?_; go_big_quiet_step (fail); refine wpQuiet_nil ?_
      refine Plan.left_q 3 (by rfl) (by kernel_rfl) ?_; go_big_quiet_step (fail); refine wpQuiet_nil ?_
      refine Plan.left_q 4 (by rfl) (by kernel_rfl) ?_; go_big_quiet_step (fail); refine wpQuiet_nil ?_
      refine Plan.left_q 5 (by rfl) (by kernel_rfl) ?_; go_big_quiet_step (fail); refine wpQuiet_nil ?_
      refine Plan.left_q 6 (by rfl) (by kernel_rfl) ?_; go_big_quiet_step (fail); refine wpQuiet_nil ?_
      refine Plan.left_q 7 (by rfl) (by kernel_rfl) ?_; go_big_quiet_step (fail); refine wpQuiet_nil ?_
      refine Plan.left_q 8 (by rfl) (by kernel_rfl) ?_; go_big_quiet_step (fail); refine wpQuiet_nil ?_
      refine Plan.left_p 11 (by rfl) (by kernel_rfl) ?_; go_big_quiet_step (fail); refine wpQuiet_nil ?_
      refine Plan.left_p 12 (by rfl) (by kernel_rfl) ?_; go_big_quiet_step (fail); refine wpQuiet_nil ?_
      refine Plan.left_one 9 (by kernel_rfl) (by rfl) (Plan.plain rfl fun K hK => ?_)
      go_wp2_with (fail)
      refine hK _ _ ((ExtM.refl _).alloc _) ?_
      clear hK K
      refine Plan.left_one 10 (by kernel_rfl) (by rfl) (Plan.plain rfl fun K hK => ?_)
      refine wp_append_run (happ) rfl _ _ rfl rfl rfl ?_
      refine hK _ _ (hx5) ?_
      simp only [Act.put, List.setIfInBounds_toArray, List.set_cons_succ, List.set_cons_zero]
      clear hK K
      refine Plan.left_q 13 (by rfl) (by kernel_rfl) ?_; go_big_quiet_step (fail); refine wpQuiet_nil ?_
      refine Plan.left_one 14 (by kernel_rfl) (by rfl) (Plan.last rfl (by kernel_rfl) fun K hK => ?_)
      go_wp2_with (fail)
      refine Plan.left_done (by kernel_rfl) ?_
      obtain ⟨ht6, hx6', hf6⟩ := HH6.out
      clear happ hx5 a4 z4 b4 y4 f0 f1 f2 HH6 hn6R
      generalize w5.setCell ⟨T, 5, none⟩ (Value.slice pv (s.R.length + 1) cv) = w8 at *
      generalize hpv : Value.slice pv (s.R.length + 1) cv = v' at *
      clear hpv
      obtain ⟨p, cap, rfl, -⟩ := own_slice hrow
      have hrow8 : CRow w8 wc.drew.heap.size (.slice p cs.length cap) cs := own_ext hrow hx6' (fun k hk e => by
        have h1 := hvo k hk
        rcases e with e | e
        · have := ht2.foot k (.inl e); omega
        · have := ht2.foot k (.inr (.inr (.inr (.inr e)))); omega)
      have hB8 : wc.heap.size ≤ w8.heap.size := by
        have h1 := hxe.size
        have h2 := hx6'.size
        have h3 : wc.drew.heap.size = wc.heap.size := rfl
        omega
      have hFF : F < wc.heap.size := ht2.foot F (.inr (.inl rfl))
      have hXA : ExtM (TFoot T F Bs v0 v1) wc.drew w8 := ExtM.trans _ _ _ (hxe.mono fun k _ e => .inr (.inr (.inl e))) (hx6'.mono fun k _ e => e.elim .inl (fun e => .inr (.inr (.inr (.inr e)))))
      have hBS : wc.drew.heap.size ≤ w2.heap.size := hxe.size
      have hFA : ∀ k, TFoot T F Bs1 v0 v' k → TFoot T F Bs v0 v1 k ∨ wc.drew.heap.size ≤ k := fun k hk => by
        rcases hf6 k hk with e | e
        · rcases e with e | e | e | e
          · exact .inl (.inl e)
          · exact .inl (.inr (.inl e))
          · rcases hB1 k e with e | e
            · exact .inl (.inr (.inr (.inl e)))
            · exact .inr e
          · exact .inl (.inr (.inr (.inr e)))
        · exact .inr (Nat.le_trans hBS e)
      have hfin : ∀ (wx : World) (mx : List (Out × Value)), TaleIs wx T F E Bs1 v0 v' lo hi md { s with st := feedJ lo hi 1 ⟨kk, tt - 100, vv⟩ s.st, V := applyV s.V cs, f1 := fedI 0 s.f1, R := ⟨kk, tt - 100, vv⟩ :: s.R } mx (applyV s.V cs) → ExtM (fun k => k = F) w8 wx → TUp u wx T (TFoot T F Bs v0 v1) lo hi md (feedT lo hi md 1 ⟨kk, tt - 100, vv⟩ s) := fun wx mx h1 h2 => by
        rw [HF.out]
        have hd : ExtM (TFoot T F Bs v0 v1) wc wc.drew := ((ExtM.refl wc).drew : Ext wc wc.drew).mono (fun _ _ h => h.elim)
        exact TUp.fin hlF hxw (ExtM.trans _ _ _ hd (ExtM.trans _ _ _ hXA (h2.mono fun k _ e => .inr (.inl e)))) ⟨F, E, Bs1, _, _, mx, h1, rfl⟩ hFA (ExtM.refl _)
      have HFIN := Lib.hid hfin
      clear hf6 hx6' hxe hB1 hXA hFA hfin hBS hvo hrow ht3 hL hLc hokA hokB hn6 hn6B hzB hx6 q6 qT qT5 hnT hnR
      go_wp2_with fail
      go_loopg [9] (cs.length + 1) (fun kx s9 wr => ∃ (i : Nat) (m' : List (Out × Value)), s9 = .int .i64 i ∧ i ≤ cs.length ∧ cs.length - i ≤ kx ∧ TaleIs wr T F E Bs1 v0 v' lo hi md { s with st := feedJ lo hi 1 ⟨kk, tt - 100, vv⟩ s.st, V := applyV s.V cs, f1 := fedI 0 s.f1, R := ⟨kk, tt - 100, vv⟩ :: s.R } m' (applyV s.V (cs.take i)) ∧ ExtM (fun k => k = F) w8 wr)
      case atStart => exact ⟨0, m, rfl, by omega, by omega, ht6, ExtM.refl _⟩
      case round =>
        clear ht6
        obtain ⟨i, m', rfl, hli, hgk, ht, hx⟩ := hrel
        by_cases hil : i < cs.length
        · have hrow1 : CRow wr wc.drew.heap.size _ cs := own_ext hrow8 hx (fun k hk e => by have := (own_lt hrow8 k hk).1; have h3 : wc.drew.heap.size = wc.heap.size := rfl; omega)
          obtain ⟨g, rc, e1, hg, hc⟩ := crow_cells hrow1 i cs[i] (List.getElem?_eq_getElem hil)
          simp only [Value.slice.injEq, true_and] at e1
          obtain ⟨rfl, rfl⟩ := e1
          have hck := hcok _ (List.getElem_mem hil)
          have hgn := hgl _ (List.getElem_mem hil)
          have hva := valid_at cs s.V i hil hok'.out
          have HSN := Lib.hid (applyV_snoc s.V cs i hil)
          have hlen : (applyV s.V (cs.take i)).length < 1000000000 := by
            have h1 := applyV_len (cs.take i) s.V
            have h2 : (cs.take i).length ≤ 601 := by rw [List.length_take]; omega
            omega
          generalize cs[i] = c at *
          obtain ⟨x, gg⟩ := c
          simp only at hck hgn hva
          have y0 := hc 0 _ rfl
          have y1 := hc 1 _ rfl
          have y2 := hc 2 _ rfl
          have y3 := hc 3 _ rfl
          have y4 := hc 4 _ rfl
          have y5 := hc 5 _ rfl
          have y6 := hc 6 _ rfl
          have y7 := hc 7 _ rfl
          have y8 := hc 8 _ rfl
          have y9 := hc 9 _ rfl
          simp only [Nat.add_zero] at y0 y1 y2 y3 y4 y5 y6 y7 y8 y9
          clear hc
          go_upto_region 13 with fail
          have bx := BoxC.mk' wr x gg 72
          have hxa : Ext wr (wr.alloc (.cells #[.int .i64 x.key, .int .i64 x.l.k, .int .i64 x.l.t, .int .i64 x.l.v, .int .i64 x.r.k, .int .i64 x.r.t, .int .i64 x.r.v, .bool x.hl, .bool x.hr, .bool gg] 72)) := (ExtM.refl _).alloc _
          have htw := ht.ext hxa
          have hxw1 : ExtM (fun k => k = F) w8 _ := ExtM.trans _ _ _ hx (hxa.mono fun _ _ h => h.elim)
          have hnF : ¬ wr.heap.size = F := fun e => by have := ht.foot F (.inr (.inl rfl)); omega
          clear y0 y1 y2 y3 y4 y5 y6 y7 y8 y9 ht hx hxa hrow1
          generalize wr.alloc (.cells #[.int .i64 x.key, .int .i64 x.l.k, .int .i64 x.l.t, .int .i64 x.l.v, .int .i64 x.r.k, .int .i64 x.r.t, .int .i64 x.r.v, .bool x.hl, .bool x.hr, .bool gg] 72) = w1 at *
          generalize wr.heap.size = n at *
          have c8 := htw.own.c8
          have lT1 := cell_lt' c8
          have hTF : ¬ T = F := htw.TF
          have hm := htw.mp
          have hcz := htw.cz x
          have hcb1 : (((applyV s.V (cs.take i)).count x : Nat) : Int) < 1000000000 := by have := List.count_le_length (a := x) (l := applyV s.V (cs.take i)); omega
          have hcb0 : 0 ≤ (((applyV s.V (cs.take i)).count x : Nat) : Int) := Int.natCast_nonneg _
          simp only at lT1
          have hln : n < w1.heap.size := cell_lt' bx.e0
          obtain ⟨e0, e1, e2, e3, e4, e5, e6, e7, e8, e9⟩ := id bx
          cases gg with
          | false =>
            have hadd := htw.cz.add x
            have hlk := (hm.of (ExtM.drew (ExtM.refl w1) : Ext w1 w1.drew) id).run_look false outLaw encO_inj Tryz.underlying36 zeroInt x (keyO x hck)
            obtain ⟨stp, w2', hme, x2, z2, hlk2, hst⟩ := (hm.of (ExtM.drew (ExtM.refl w1) : Ext w1 w1.drew) id).run_entry outLaw encO_inj Tryz.underlying36 zeroInt x (keyO x hck)
            obtain ⟨w3', hst3, x3, z3, hm3⟩ := hst (.int .i64 (((applyV s.V (cs.take i)).count x : Int) + 1))
            rw [hcz] at hlk hme hlk2
            simp only [encO_run, Bool.false_eq_true, if_false] at hlk hme hlk2
            have y3 : ExtB F w1 w3' := ExtB.trans _ _ _ (ExtB.of_ext ((ExtM.refl w1).drew)) (ExtB.trans _ _ _ x2 x3)
            have hft := htw.folded y3 hm3 hadd
            have hxw3 : ExtM (fun k => k = F) w8 w3' := ExtM.trans _ _ _ hxw1 y3
            have HNX := Lib.hid (show TaleIs w3' T F E Bs1 v0 v' lo hi md _ _ (applyV s.V (cs.take (i + 1))) by rw [HSN.out]; exact hft)
            clear hft y3 hm3 hst z2 z3 hm hxw1
            generalize (((applyV s.V (cs.take i)).count x : Nat) : Int) = cc at *
            go_upto_region 14 with fail
            refine Plan.begin (Plan.ExtB F) 11 rfl (by kernel_rfl) ?_
            refine Plan.left_q 0 (by rfl) (by kernel_rfl) ?_; go_big_quiet_step (fail); refine wpQuiet_nil ?_
            refine Plan.left_q 1 (by rfl) (by kernel_rfl) ?_; go_big_quiet_step (fail); refine wpQuiet_nil ?_
            refine Plan.left_q 2 (by rfl) (by kernel_rfl) ?_; go_big_quiet_step (fail); refine wpQuiet_nil ?_
            refine Plan.left_q 3 (by rfl) (by kernel_rfl) ?_; go_big_quiet_step (fail); refine wpQuiet_nil ?_
            refine Plan.left_q 4 (by rfl) (by kernel_rfl) ?_; go_big_quiet_step (fail); refine wpQuiet_nil ?_
            refine Plan.left_q 5 (by rfl) (by kernel_rfl) ?_; go_big_quiet_step (fail); refine wpQuiet_nil ?_
            refine Plan.left_two 6 8 (by kernel_rfl) (by rfl) (by rfl) (Plan.plain rfl fun K hK => ?_) (Plan.plain rfl fun K hK => ?_)
            focus
              go_wp2_with (fail)
              refine hK _ _ (ExtM.refl _) ?_
              clear hK K
              refine Plan.left_q 7 (by rfl) (by kernel_rfl) ?_; go_big_quiet_step (fail); refine wpQuiet_nil ?_
              refine Plan.left_one 8 (by kernel_rfl) (by rfl) (Plan.plain rfl fun K hK => ?_)
              go_wp2_with (fail)
              refine hK _ _ (x2) ?_
              clear hK K
              refine Plan.left_q 9 (by rfl) (by kernel_rfl) ?_; go_big_quiet_step (fail); refine wpQuiet_nil ?_
              refine Plan.left_one 10 (by kernel_rfl) (by rfl) (Plan.plain rfl fun K hK => ?_)
              go_wp2_with (fail)
              refine hK _ _ (x3) ?_
              clear hK K
              refine Plan.left_done (by kernel_rfl) ?_
            rotate_left
            focus
              go_wp2_with (fail)
              refine hK _ _ (x2) ?_
              clear hK K
              refine Plan.left_q 9 (by rfl) (by kernel_rfl) ?_; go_big_quiet_step (fail); refine wpQuiet_nil ?_
              refine Plan.left_one 6 (by kernel_rfl) (by rfl) (Plan.plain rfl fun K hK => ?_)
              go_wp2_with (fail)
              refine hK _ _ (ExtM.refl _) ?_
              clear hK K
              refine Plan.left_q 7 (by rfl) (by kernel_rfl) ?_; go_big_quiet_step (fail); refine wpQuiet_nil ?_
              refine Plan.left_one 10 (by kernel_rfl) (by rfl) (Plan.plain rfl fun K hK => ?_)
              go_wp2_with (fail)
              refine hK _ _ (x3) ?_
              clear hK K
              refine Plan.left_done (by kernel_rfl) ?_
            all_goals
              clear e0 e1 e2 e3 e4 e5 e6 e7 e8 e9
              go_wp2_with fail
              go_roundg (cs.length - (i + 1))
              case measure => omega
              case rel => exact ⟨i + 1, _, by go_num, by omega, Nat.le_refl _, HNX.out, hxw3⟩
          | true =>
            have hmem := hva rfl
            have hlss := htw.cz.less x hmem
            have hpos : 0 < (applyV s.V (cs.take i)).count x := List.count_pos_iff.2 hmem
            have hz0 : ((((applyV s.V (cs.take i)).count x : Nat) : Int) == 0) = false := by simp; omega
            have hlq := fun p => (hm.of (ext_E ExtM.refl w1.drew p |> fun h => ExtM.trans _ _ _ (ExtM.drew (ExtM.refl w1)) h : Ext w1 (Plan.ext Ext w1.drew p)) id).run_look false outLaw encO_inj Tryz.underlying36 zeroInt x (keyO x hck)
            simp only [hcz, encO_run, Bool.false_eq_true, if_false] at hlq
            have xd : Ext w1 w1.drew := (ExtM.refl _).drew
            have hmd := hm.of xd id
            have htd := htw.ext xd
            have bxd := bx.of xd id
            have hxd := ExtM.trans _ _ _ hxw1 (xd.mono fun _ _ h => h.elim)
            go_upto_region 15 with fail
            go_cut [107] (fun s107 wx => s107 = .bool false ∧ wx = w1.drew)
            case first =>
              obtain ⟨xk, xl, xr, hhl, hhr⟩ := x
              cases hhl <;> cases hhr
              all_goals first
                | (exfalso; revert hgn; simp; done)
                | skip
              -- DONE{
              all_goals
                simp only at e0 e1 e2 e3 e4 e5 e6 e7 e8 e9
                refine Plan.begin Plan.Ext 18 rfl (by kernel_rfl) ?_
                refine Plan.left_q 0 (by rfl) (by kernel_rfl) ?_; go_big_quiet_step (fail); refine wpQuiet_nil ?_
                refine Plan.left_q 1 (by rfl) (by kernel_rfl) ?_; go_big_quiet_step (fail); refine wpQuiet_nil ?_
                refine Plan.left_q 2 (by rfl) (by kernel_rfl) ?_; go_big_quiet_step (fail); refine wpQuiet_nil ?_
                refine Plan.left_q 3 (by rfl) (by kernel_rfl) ?_; go_big_quiet_step (fail); refine wpQuiet_nil ?_
                refine Plan.left_q 4 (by rfl) (by kernel_rfl) ?_; go_big_quiet_step (fail); refine wpQuiet_nil ?_
                refine Plan.left_q 5 (by rfl) (by kernel_rfl) ?_; go_big_quiet_step (fail); refine wpQuiet_nil ?_
                refine Plan.left_q 6 (by rfl) (by kernel_rfl) ?_; go_big_quiet_step (fail); refine wpQuiet_nil ?_
                refine Plan.left_q 7 (by rfl) (by kernel_rfl) ?_; go_big_quiet_step (fail); refine wpQuiet_nil ?_
                refine Plan.left_q 8 (by rfl) (by kernel_rfl) ?_; go_big_quiet_step (fail); refine wpQuiet_nil ?_
                refine Plan.left_q 9 (by rfl) (by kernel_rfl) ?_; go_big_quiet_step (fail); refine wpQuiet_nil ?_
                refine Plan.left_q 10 (by rfl) (by kernel_rfl) ?_; go_big_quiet_step (fail); refine wpQuiet_nil ?_
                refine Plan.left_q 11 (by rfl) (by kernel_rfl) ?_; go_big_quiet_step (fail); refine wpQuiet_nil ?_
                refine Plan.left_q 12 (by rfl) (by kernel_rfl) ?_; go_big_quiet_step (fail); refine wpQuiet_nil ?_
                refine Plan.left_q 13 (by rfl) (by kernel_rfl) ?_; go_big_quiet_step (fail); refine wpQuiet_nil ?_
                refine Plan.left_q 14 (by rfl) (by kernel_rfl) ?_; go_big_quiet_step (fail); refine wpQuiet_nil ?_
                refine Plan.left_q 15 (by rfl) (by kernel_rfl) ?_; go_big_quiet_step (fail); refine wpQuiet_nil ?_
                refine Plan.left_q 16 (by rfl) (by kernel_rfl) ?_; go_big_quiet_step (fail); refine wpQuiet_nil ?_
                refine Plan.left_q 17 (by rfl) (by kernel_rfl) ?_; go_big_quiet_step (fail); refine wpQuiet_nil ?_
                refine Plan.left_done (by kernel_rfl) ?_
                go_wp2_with fail
                go_meet
                exact ⟨rfl, rfl⟩
              -- }DONE
            case rest =>
              obtain ⟨rfl, rfl⟩ := hcut
              clear hlq hm bx htw hxw1 e0 e1 e2 e3 e4 e5 e6 e7 e8 e9 c8 hln lT1 xd hz0
              generalize w1.drew = v1w at *
              have c8 := htd.own.c8
              have lT1 := cell_lt' c8
              simp only at lT1
              have hln : n < v1w.heap.size := cell_lt' bxd.e0
              obtain ⟨e0, e1, e2, e3, e4, e5, e6, e7, e8, e9⟩ := id bxd
              have hlk := (hmd.of (ExtM.drew (ExtM.refl v1w) : Ext v1w v1w.drew) id).run_look false outLaw encO_inj Tryz.underlying36 zeroInt x (keyO x hck)
              obtain ⟨stp, w2', hme, x2, z2, hlk2, hst⟩ := (hmd.of (ExtM.drew (ExtM.refl v1w) : Ext v1w v1w.drew) id).run_entry outLaw encO_inj Tryz.underlying36 zeroInt x (keyO x hck)
              obtain ⟨w3', hst3, x3, z3, hm3⟩ := hst (.int .i64 (((applyV s.V (cs.take i)).count x : Int) - 1))
              rw [hcz] at hlk hme hlk2
              simp only [encO_run, Bool.false_eq_true, if_false] at hlk hme hlk2
              have y3 : ExtB F v1w w3' := ExtB.trans _ _ _ (ExtB.of_ext ((ExtM.refl v1w).drew)) (ExtB.trans _ _ _ x2 x3)
              have hft := htd.folded y3 hm3 hlss
              have hxw3 : ExtM (fun k => k = F) w8 w3' := ExtM.trans _ _ _ hxd y3
              have HNX := Lib.hid (show TaleIs w3' T F E Bs1 v0 v' lo hi md _ _ (applyV s.V (cs.take (i + 1))) by rw [HSN.out]; exact hft)
              clear hft y3 hm3 hst z2 z3 hmd hxd
              generalize (((applyV s.V (cs.take i)).count x : Nat) : Int) = cc at *
              go_upto_region 17 with fail
              refine Plan.begin (Plan.ExtB F) 11 rfl (by kernel_rfl) ?_
              refine Plan.left_q 0 (by rfl) (by kernel_rfl) ?_; go_big_quiet_step (fail); refine wpQuiet_nil ?_
              refine Plan.left_q 1 (by rfl) (by kernel_rfl) ?_; go_big_quiet_step (fail); refine wpQuiet_nil ?_
              refine Plan.left_q 2 (by rfl) (by kernel_rfl) ?_; go_big_quiet_step (fail); refine wpQuiet_nil ?_
              refine Plan.left_q 3 (by rfl) (by kernel_rfl) ?_; go_big_quiet_step (fail); refine wpQuiet_nil ?_
              refine Plan.left_q 4 (by rfl) (by kernel_rfl) ?_; go_big_quiet_step (fail); refine wpQuiet_nil ?_
              refine Plan.left_q 5 (by rfl) (by kernel_rfl) ?_; go_big_quiet_step (fail); refine wpQuiet_nil ?_
              refine Plan.left_two 6 8 (by kernel_rfl) (by rfl) (by rfl) (Plan.plain rfl fun K hK => ?_) (Plan.plain rfl fun K hK => ?_)
              focus
                go_wp2_with (fail)
                refine hK _ _ (ExtM.refl _) ?_
                clear hK K
                refine Plan.left_q 7 (by rfl) (by kernel_rfl) ?_; go_big_quiet_step (fail); refine wpQuiet_nil ?_
                refine Plan.left_one 8 (by kernel_rfl) (by rfl) (Plan.plain rfl fun K hK => ?_)
                go_wp2_with (fail)
                refine hK _ _ (x2) ?_
                clear hK K
                refine Plan.left_q 9 (by rfl) (by kernel_rfl) ?_; go_big_quiet_step (fail); refine wpQuiet_nil ?_
                refine Plan.left_one 10 (by kernel_rfl) (by rfl) (Plan.plain rfl fun K hK => ?_)
                go_wp2_with (fail)
                refine hK _ _ (x3) ?_
                clear hK K
                refine Plan.left_done (by kernel_rfl) ?_
              rotate_left
              focus
                go_wp2_with (fail)
                refine hK _ _ (x2) ?_
                clear hK K
                refine Plan.left_q 9 (by rfl) (by kernel_rfl) ?_; go_big_quiet_step (fail); refine wpQuiet_nil ?_
                refine Plan.left_one 6 (by kernel_rfl) (by rfl) (Plan.plain rfl fun K hK => ?_)
                go_wp2_with (fail)
                refine hK _ _ (ExtM.refl _) ?_
                clear hK K
                refine Plan.left_q 7 (by rfl) (by kernel_rfl) ?_; go_big_quiet_step (fail); refine wpQuiet_nil ?_
                refine Plan.left_one 10 (by kernel_rfl) (by rfl) (Plan.plain rfl fun K hK => ?_)
                go_wp2_with (fail)
                refine hK _ _ (x3) ?_
                clear hK K
                refine Plan.left_done (by kernel_rfl) ?_
              all_goals
                clear e0 e1 e2 e3 e4 e5 e6 e7 e8 e9
                go_wp2_with fail
                go_roundg (cs.length - (i + 1))
                case measure => omega
                case rel => exact ⟨i + 1, _, by go_num, by omega, Nat.le_refl _, HNX.out, hxw3⟩
        · obtain rfl : i = cs.length := by omega
          have hz : decide (cs.length < cs.length) = false := by simp
          have hz2 : decide ((cs.length : Int) < cs.length) = false := by simp
          go_wp2_with fail
          go_ret
          rw [List.take_length] at ht
          exact ⟨rfl, HFIN.out _ _ ht hx⟩
    · have er : errV 10 = .iface 48 (.int .i64 10) := rfl
      rw [hE, er] at hfeed
      have HF := Lib.hid (feedT1_late (md := md) hE)
      have hnil : applyV s.V (feedC lo hi md 1 ⟨kk, tt - 100, vv⟩ s.st) = s.V := by unfold feedC; rw [if_neg (by rw [hE]; decide)]; rfl
      have HN := Lib.hid hnil
      clear hE hok hnil
      refine Plan.begin (Plan.ExtL T n6) 12 rfl (by kernel_rfl) ?_
      refine Plan.left_q 0 (by rfl) (by kernel_rfl) ?_; go_big_quiet_step (fail); refine wpQuiet_nil ?_
      refine Plan.left_q 1 (by rfl) (by kernel_rfl) ?_; go_big_quiet_step (fail); refine wpQuiet_nil ?_
      refine Plan.left_q 2 (by rfl) (by kernel_rfl) ?_; go_big_quiet_step (fail); refine wpQuiet_nil ?_
      refine Plan.left_q 3 (by rfl) (by kernel_rfl) ?_; go_big_quiet_step (fail); refine wpQuiet_nil ?_
      refine Plan.left_q 4 (by rfl) (by kernel_rfl) ?_; go_big_quiet_step (fail); refine wpQuiet_nil ?_
      refine Plan.left_q 5 (by rfl) (by kernel_rfl) ?_; go_big_quiet_step (fail); refine wpQuiet_nil ?_
      refine Plan.left_one 6 (by kernel_rfl) (by rfl) (Plan.plain rfl fun K hK => ?_)
      go_wp2_with (fail)
      refine (hfeed).mono ?_
      rintro e w2 ⟨vo, rfl, hrow, h2⟩
      have H2 := ExtL.trans _ _ _ (ExtL.refl _).drew (EUp.extL hnT hn6B h2)
      obtain ⟨hc2, hf2, -⟩ := ExtL.rules H2
      have hs2_0 : T < w2.heap.size := by have := H2.size; (try simp at this); omega
      have hs2_1 : n6 < w2.heap.size := by have := H2.size; (try simp at this); omega
      go_wp2_with (fail)
      refine hK _ _ (EUp.extL hnT hn6B h2) ?_
      clear hK K
      refine Plan.left_q 7 (by rfl) (by kernel_rfl) ?_; go_big_quiet_step (fail); refine wpQuiet_nil ?_
      refine Plan.left_q 8 (by rfl) (by kernel_rfl) ?_; go_big_quiet_step (fail); refine wpQuiet_nil ?_
      refine Plan.left_q 9 (by rfl) (by kernel_rfl) ?_; go_big_quiet_step (fail); refine wpQuiet_nil ?_
      refine Plan.left_q 10 (by rfl) (by kernel_rfl) ?_; go_big_quiet_step (fail); refine wpQuiet_nil ?_
      refine Plan.left_q 11 (by rfl) (by kernel_rfl) ?_; go_big_quiet_step (fail); refine wpQuiet_nil ?_
      refine Plan.left_done (by kernel_rfl) ?_
      obtain ⟨hxe, -⟩ := id h2
      obtain ⟨Bs1, ht3, hB1⟩ := (ht2.ext (ExtM.refl wc).drew).fed h2
      have hL3 : Laid w2 := (hLc.of (ExtM.refl wc).drew).ofM hxe hzB
      have hcz := ht3.cz
      rw [← HN.out] at hcz
      have ht4 := ht3.folded (ExtM.refl w2) ht3.mp hcz
      have hd : ExtM (TFoot T F Bs v0 v1) wc wc.drew := ((ExtM.refl wc).drew : Ext wc wc.drew).mono (fun _ _ h => h.elim)
      have hfin : TUp u w2 T (TFoot T F Bs v0 v1) lo hi md (feedT lo hi md 1 ⟨kk, tt - 100, vv⟩ s) := by
        rw [HF.out]
        refine TUp.fin hlF hxw (ExtM.trans _ _ _ hd (hxe.mono fun k _ e => .inr (.inr (.inl e)))) ⟨F, E, Bs1, _, _, m, ht4, rfl⟩ (fun k hk => ?_) (ExtM.refl _)
        rcases hk with e | e | e | e
        · exact .inl (.inl e)
        · exact .inl (.inr (.inl e))
        · rcases hB1 k e with e | e
          · exact .inl (.inr (.inr (.inl e)))
          · exact .inr e
        · exact .inl (.inr (.inr (.inr e)))
      have HFIN := Lib.hid hfin
      clear hc2 hf2 hs2_0 hs2_1 H2 h2 e0 e1 e2 c0 hfin hd ht4 hcz ht3 hB1 hxe hrow
      go_wp2_with (go_at_call 15; refine (tell_c 10 _ hL3).mono ?_; rintro e w3 ⟨rfl, hx3⟩)
      go_ret
      obtain ⟨q1, Fs', q2, q3⟩ := HFIN.out
      exact ⟨rfl, ExtM.trans _ _ _ q1 (hx3.mono (fun _ _ h => h.elim)), Fs', q2.ext hx3, q3⟩
end Go.Proofs.YtmcgnnmffeojpaaGreatDoor
