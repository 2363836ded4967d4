/- What an engine tells of its sides; both marks at the end of time. -/
import Derived.Test.YtmcgnnmffeojpaaGreatDoorPk44
import Derived.Test.YtmcgnnmffeojpaaGreatDoorPk45
import Derived.Test.YtmcgnnmffeojpaaGreatDoorPk47
/- EngineView: the walk. -/
namespace Go.Proofs.YtmcgnnmffeojpaaGreatDoor
open Go.RowKit Go.Plan

theorem TOk.outs {lo hi md : Int} {s : TSt} {n : Nat} (ok : TOk lo hi md s n) : ∀ x ∈ sortO s.V, x.ok := fun x hx =>
  (outOk_ok (should_ok (fun r hr => (ok.rL r hr).good) (fun r hr => (ok.rR r hr).good) x (ok.inv.v.mem_iff.1 ((sortO_perm _).mem_iff.1 hx)))).2
theorem TOk.lV2 {lo hi md : Int} {s : TSt} {n : Nat} (ok : TOk lo hi md s n) (hn : n < 200) : s.V.length < 1000000 := by
  have h1 := ok.lV
  have : n * n ≤ 200 * 200 := Nat.mul_le_mul (by omega) (by omega)
  omega
set_option maxRecDepth 100000 in
set_option maxHeartbeats 8000000 in
theorem engineView_w (low high mode : Int) (a : Option Addr) (cap : Nat) (xs : List StE) (w : World) (i1 : I64 low) (i2 : I64 high) (i3 : I64 mode) (hlib : Lib4 w) (hin : StepsIn w a xs) (hok : ∀ x ∈ xs, x.ok ∧ I64 x.n) :
    Calls Tryz.prog 3 #[.int .i64 low, .int .i64 high, .int .i64 mode, .slice a xs.length cap] w fun e w' => e = .returned (.bool true) ∧ Ext w w' := by
  have hw0 : 0 < w.heap.size := cell_lt hlib.l
  by_cases h80 : 80 < xs.length
  · have d : decide (80 < (xs.length : Int)) = true := by simp; omega
    go_enter Tryz.func3, Tryz.ntmps3
    go_wp2_with fail
    go_ret
    exact ⟨rfl, ExtM.refl _⟩
  have d : decide (80 < (xs.length : Int)) = false := by simp; omega
  have hck := plan_check low high mode
  have hnw := fun u => tale_new low high mode u i1 i2 i3
  generalize planLo low = lo at *
  generalize planHi low high = hi at *
  generalize planMd mode = md at *
  go_enter Tryz.func3, Tryz.ntmps3
  go_upto_region 5 with (go_at_call 7; refine (met_c _ hlib.l).mono ?_; rintro e w1 ⟨rfl, hx1⟩)
  go_wp2_with (go_at_call 8; refine (hnw _).mono ?_; rintro e w2 ⟨Ta, Fa, rfl, hx2, hta, hna⟩)
  have hX0 : Ext w w2 := ExtM.trans _ _ _ hx1 hx2
  have hF0 : ∀ k, Fa k → w.heap.size ≤ k := fun k hk => Nat.le_trans hx1.size (hna k hk)
  clear hnw hx1 hx2 hna
  go_loopg [10] (xs.length + 1) (fun kx s10 wr => ∃ (i : Nat) (Fb : Nat → Prop), s10 = .int .i64 i ∧ i ≤ xs.length ∧ xs.length - i ≤ kx ∧ Ext w wr ∧ TAt wr Ta Fb lo hi md (tellX lo hi md (xs.take i) TSt.new) ∧ ∀ k, Fb k → w.heap.size ≤ k)
  case atStart => exact ⟨0, Fa, rfl, by omega, by omega, hX0, hta, hF0⟩
  case round =>
    clear hta hX0 hF0
    obtain ⟨i, Fb, rfl, hi', hgk, hX, hT, hF⟩ := hrel
    by_cases hil : i < xs.length
    · rcases hin with hin | ⟨b, off, rfl, hel⟩
      · rw [hin] at hil; simp at hil
      have hel := (hel i hil).of hX
      have hxo := hok _ (List.getElem_mem hil)
      have hto : TOk lo hi md (tellX lo hi md (xs.take i) TSt.new) (0 + (xs.take i).length) := tellX_ok _ (TOk.new lo hi md) (by rw [List.length_take]; omega)
      have hnl : 0 + (xs.take i).length < 100 := by rw [List.length_take]; omega
      have HSN : Hid (tellX lo hi md (xs.take (i + 1)) TSt.new = stepX lo hi md (tellX lo hi md (xs.take i) TSt.new) xs[i]) := Lib.hid (by rw [List.take_succ_eq_append_getElem hil, tellX_snoc])
      generalize xs[i] = x at *
      generalize 0 + (xs.take i).length = n at *
      generalize tellX lo hi md (xs.take i) TSt.new = s at *
      have hz0 : ¬ Fb 0 := fun e => by have := hF 0 e; omega
      have hdo := doesA_c hT hto (by omega) hck (hlib.ext hX) hz0 x hxo.1 hxo.2
      have hto2 := stepX_ok hto (by omega) x
      rw [← HSN.out] at hdo hto2
      generalize hs2 : tellX lo hi md (xs.take (i + 1)) TSt.new = s2 at *
      have HS2 := Lib.hid hs2
      clear hs2
      obtain ⟨wh, sd, sn, ky, tm, vl⟩ := x
      obtain ⟨q0, q1, q2, q3, q4, q5⟩ := hel
      simp only [StE.agg] at q0 q1 q2 q3 q4 q5 hdo
      have hlb := cell_lt' q0
      clear hT hto hxo
      go_wp2_with (go_at_call 9; refine hdo.mono ?_; rintro e w6 ⟨rfl, hu6⟩; refine Hid.out ?_)
      refine Lib.hid ?_
      obtain ⟨hxu, Fb2, hT2, hF2⟩ := hu6
      have hX6 : Ext w w6 := hX.fresh' hxu (fun k hk e => by have := hF k e; omega)
      have hF6 : ∀ k, Fb2 k → w.heap.size ≤ k := fun k hk => (hF2 k hk).elim (hF k) (fun e => Nat.le_trans hX.size e)
      obtain ⟨F, E, Bs, v0, v1, m, ht, rfl⟩ := hT2
      have c0 := ht.own.c0
      have lT := cell_lt' c0
      simp only at lT
      have hVl := hto2.lV2 (by omega)
      have hva := (view_c ht.eng hVl).mono fun e w' h => h.out
      have hvo := hto2.outs
      clear hdo q0 q1 q2 q3 q4 q5 hlb hxu hF2 hX
      have hpS : (sortO s2.V).Perm (should lo hi md 0 s2.L s2.R) := (sortO_perm _).trans hto2.inv.v
      have hpV : (sortO s2.V).Perm s2.V := sortO_perm _
      have hvl : (sortO s2.V).length < 1000000 := by rw [sortO_length]; exact hVl
      go_wp2_with (go_at_call 10; refine hva.mono ?_; rintro e w7 ⟨p, cv, rfl, hx7, ho7⟩; refine Hid.out ?_)
      refine Lib.hid ?_
      have ht7 := ht.ext hx7
      have hsh := should_c ht7 hto2 (by omega)
      clear hva c0 lT
      go_wp2_with (go_at_call 12; refine hsh.mono ?_; rintro e w8 ⟨D, m', rfl, hx8, hmD, hcD⟩; refine Hid.out ?_)
      refine Lib.hid ?_
      have ht8 := ht7.ext hx8
      have hr1 := right_c p cv (sortO s2.V) _ D m' w8 (ho7.of hx8) hvo hmD hcD hpS hvl
      clear hsh
      go_wp2_with (go_at_call 11; refine hr1.mono ?_; rintro e w9 ⟨rfl, hx9⟩; refine Hid.out ?_)
      refine Lib.hid ?_
      have ht9 := ht8.ext hx9
      have hr2 := right_c p cv (sortO s2.V) _ F m w9 ((ho7.of hx8).of hx9) hvo ht9.mp ht9.cz hpV hvl
      have c8 := ht9.own.c8
      have lT := cell_lt' c8
      simp only at lT
      clear hr1
      go_wp2_with (go_at_call 11; refine hr2.mono ?_; rintro e wA ⟨rfl, hxA⟩; refine Hid.out ?_)
      refine Lib.hid ?_
      have HN := Lib.hid (⟨ExtM.trans _ _ _ hX6 (ExtM.trans _ _ _ hx7 (ExtM.trans _ _ _ hx8 (ExtM.trans _ _ _ hx9 hxA))), ht9.ext hxA, hF6⟩ : Ext w wA ∧ _ ∧ _)
      clear hr2 c8 lT ht9 ht8 ht7 ht hX6 hx7 hx8 hx9 hxA hF6 ho7 hmD hcD
      go_wp2_with fail
      go_roundg (xs.length - (i + 1))
      case measure => omega
      case rel =>
        obtain ⟨r1, r2, r3⟩ := HN.out
        refine ⟨i + 1, _, by go_num, by omega, Nat.le_refl _, r1, ?_, r3⟩
        rw [HS2.out]
        exact ⟨F, E, Bs, v0, v1, m, r2, rfl⟩
    · obtain rfl : i = xs.length := by omega
      have hz : decide (xs.length < xs.length) = false := by simp
      have hz2 : decide ((xs.length : Int) < xs.length) = false := by simp
      go_wp2_with fail
      go_ret
      exact ⟨rfl, hX⟩
end Go.Proofs.YtmcgnnmffeojpaaGreatDoor
/- Two tales that differ in the order of their views alone; what an engine tells of its join. -/
namespace Go.Proofs.YtmcgnnmffeojpaaGreatDoor
open Go.RowKit Go.Plan

section
variable {u : World} {E : Nat} {Bs : Nat → Prop} {lo hi md : Int} {st : JSt} {V W : List Out} {f0 f1 : Int}
theorem EAt.join (h : EAt u E Bs lo hi md st V W f0 f1) : ∃ P M v0 v1, u.cell? ⟨E, 3, none⟩ = some (.pointer (some ⟨P, 0, none⟩)) ∧ E < u.heap.size ∧ JIs u P M v0 v1 lo hi md st := by
  obtain ⟨P, M, v0, v1, D, DG, ents, hI, -⟩ := h
  exact ⟨P, M, v0, v1, hI.c3, hI.lt, hI.join⟩
theorem elate_c (h : EAt u E Bs lo hi md st V W f0 f1) : Calls Tryz.prog 16 #[.pointer (some ⟨E, 0, none⟩)] u fun e u' => e = .returned (.int .i64 st.late) ∧ u = u' := by
  obtain ⟨P, M, v0, v1, c3, lE, hj⟩ := h.join
  have hl := jlate_c hj
  clear hj
  go_enter Tryz.func16, Tryz.ntmps16
  go_wp2_with (go_at_call 34; refine hl.mono ?_; rintro e w1 ⟨rfl, rfl⟩)
  go_ret
  exact ⟨rfl, rfl⟩
end

/-- The same but for the order of their views. -/
def SimT (a b : TSt) : Prop := ∃ V, V.Perm a.V ∧ b = { a with V := V }
theorem SimT.refl (a : TSt) : SimT a a := ⟨a.V, List.Perm.refl _, rfl⟩
theorem applyV_perm : ∀ (cs : List (Out × Bool)) {V V' : List Out}, V.Perm V' → (applyV V cs).Perm (applyV V' cs)
  | [], _, _, h => h
  | c :: cs, V, V', h => by
    rw [applyV_cons, applyV_cons]
    refine applyV_perm cs ?_
    split
    · exact h.erase _
    · exact List.Perm.cons _ h
theorem SimT.save {lo hi md : Int} {a b : TSt} (h : SimT a b) : SimT a (saveT lo hi md b) := by
  unfold saveT
  split
  · exact h
  · obtain ⟨V, hp, rfl⟩ := h
    exact ⟨_, ((List.reverse_perm _).trans (sortO_perm _)).trans hp, rfl⟩
theorem SimT.step {lo hi md : Int} {a b : TSt} (h : SimT a b) (x : StE) (hx : x.what ≠ 2) : SimT (stepX lo hi md a x) (stepX lo hi md b x) := by
  obtain ⟨V, hp, rfl⟩ := h
  unfold stepX
  by_cases h0 : x.what = 0
  · rw [if_pos h0, if_pos h0]
    exact ⟨_, applyV_perm _ hp, rfl⟩
  rw [if_neg h0, if_neg h0]
  by_cases h1 : x.what = 1
  · rw [if_pos h1, if_pos h1]
    unfold moveT
    by_cases hs : x.sd = 0
    · rw [if_pos hs, if_pos hs]; exact ⟨V, hp, rfl⟩
    · rw [if_neg hs, if_neg hs]; exact ⟨V, hp, rfl⟩
  rw [if_neg h1, if_neg h1, if_neg hx, if_neg hx]
  exact ⟨V, hp, rfl⟩
theorem SimT.ok {lo hi md : Int} {a b : TSt} {n : Nat} (h : SimT a b) (ok : TOk lo hi md a n) : TOk lo hi md b n := by
  obtain ⟨V, hp, rfl⟩ := h
  exact ok.perm hp
theorem SimT.saved {lo hi md : Int} {a b : TSt} (h : SimT a b) : savedT (esT lo hi md b) = savedT (esT lo hi md a) := by
  obtain ⟨V, hp, rfl⟩ := h
  exact savedT_perm (e := esT lo hi md a) hp
theorem SimT.rest {a b : TSt} (h : SimT a b) : b.L = a.L ∧ b.R = a.R ∧ b.st.late = a.st.late := by
  obtain ⟨V, hp, rfl⟩ := h
  exact ⟨rfl, rfl, rfl⟩
theorem two_nil {w0 w : World} {Ta Tb : Nat} {lo hi md : Int} {sa sb : TSt} {Fa Fb : Nat → Prop} (hx : Ext w0 w) (ha : TAt w Ta Fa lo hi md sa) (hb : TAt w Tb Fb lo hi md sb) (hab : ∀ k, Fa k → ¬ Fb k) (hna : ∀ k, Fa k → w0.heap.size ≤ k) (hnb : ∀ k, Fb k → w0.heap.size ≤ k) :
    Two2 w0 w Ta Tb lo hi md sa sb (.slice none 0 0) [] Fa Fb := ⟨hx, ha, hb, hab, hna, hnb, ⟨rfl, .inl ⟨rfl, rfl⟩⟩, fun _k hk => nomatch hk⟩
end Go.Proofs.YtmcgnnmffeojpaaGreatDoor
namespace Go.Proofs.YtmcgnnmffeojpaaGreatDoor
open Go.RowKit Go.Plan

section
variable {u : World} {E : Nat} {Bs : Nat → Prop} {lo hi md : Int} {st : JSt} {V W : List Out} {f0 f1 : Int}
theorem emark_c (s : Int) (h : EAt u E Bs lo hi md st V W f0 f1) : Calls Tryz.prog 19 #[.pointer (some ⟨E, 0, none⟩), .int .i64 s] u fun e u' => e = .returned (.int .i64 (ofI s st.x st.y)) ∧ u = u' := by
  obtain ⟨P, M, v0, v1, c3, lE, hj⟩ := h.join
  have hl := jmark_c s hj
  clear hj
  generalize ofI s st.x st.y = q at *
  go_enter Tryz.func19, Tryz.ntmps19
  go_wp2_with (go_at_call 35; refine hl.mono ?_; rintro e w1 ⟨rfl, rfl⟩)
  go_ret
  exact ⟨rfl, rfl⟩
theorem eheld_c (s : Nat) (hs : s < 2) (h : EAt u E Bs lo hi md st V W f0 f1) : Calls Tryz.prog 20 #[.pointer (some ⟨E, 0, none⟩), .int .i64 (s : Nat)] u fun e u' => e = .returned (.int .i64 ((st.of s).length : Nat)) ∧ u = u' := by
  obtain ⟨P, M, v0, v1, c3, lE, hj⟩ := h.join
  have hl := jheld_c s hs hj
  clear hj
  generalize (st.of s).length = q at *
  go_enter Tryz.func20, Tryz.ntmps20
  go_wp2_with (go_at_call 41; refine hl.mono ?_; rintro e w1 ⟨rfl, rfl⟩)
  go_ret
  exact ⟨rfl, rfl⟩
theorem erows_c (s : Nat) (hs : s < 2) (h : EAt u E Bs lo hi md st V W f0 f1) (hl : (st.of s).length < 1000000) : Calls Tryz.prog 18 #[.pointer (some ⟨E, 0, none⟩), .int .i64 (s : Nat)] u fun e u' => ∃ vo, e = .returned vo ∧ MRow u' u.heap.size vo (st.of s) ∧ Ext u u' := by
  obtain ⟨P, M, v0, v1, c3, lE, hj⟩ := h.join
  have hl := jrows_c s hs hj hl
  clear hj
  generalize st.of s = q at *
  go_enter Tryz.func18, Tryz.ntmps18
  go_wp2_with (go_at_call 36; refine hl.mono ?_; rintro e w1 ⟨vo, rfl, hm, hx⟩)
  go_ret
  exact ⟨vo, rfl, hm, hx⟩
end

/-- What is held, and why. -/
theorem TOk.held0 {lo hi md : Int} {s : TSt} {n : Nat} (ok : TOk lo hi md s n) : ∀ g ∈ s.st.a, smallR g.r ∧ 0 ≤ g.m ∧ s.st.y < g.r.t + hi := fun g hg => by
  obtain ⟨D, hp, -⟩ := ok.inv.a.all
  have hm := ok.inv.a.met g hg
  have := ok.ha g hg
  exact ⟨ok.rL _ (hp.mem_iff.2 (List.mem_append_left _ (List.mem_map.2 ⟨g, hg, rfl⟩))), by omega, this⟩
theorem TOk.held1 {lo hi md : Int} {s : TSt} {n : Nat} (ok : TOk lo hi md s n) : ∀ g ∈ s.st.b, smallR g.r ∧ 0 ≤ g.m ∧ s.st.x < g.r.t - lo := fun g hg => by
  obtain ⟨D, hp, -⟩ := ok.inv.b.all
  have hm := ok.inv.b.met g hg
  have := ok.hb g hg
  exact ⟨ok.rR _ (hp.mem_iff.2 (List.mem_append_left _ (List.mem_map.2 ⟨g, hg, rfl⟩))), by omega, this⟩
/-- Both marks at the end. -/
def endJ (lo hi : Int) (st : JSt) : JSt := moveJ lo hi 1 1099511627776 (moveJ lo hi 0 1099511627776 st)
theorem end_zero {lo hi md : Int} {s : TSt} {n : Nat} (ok : TOk lo hi md s n) (hn : n < 200) : moveI 0 1099511627776 s.st.x s.st.y = 0 ∧ moveI 1 1099511627776 (moveJ lo hi 0 1099511627776 s.st).x (moveJ lo hi 0 1099511627776 s.st).y = 0 := by
  have := ok.a0; have := ok.a1; have := ok.mx; have := ok.my
  constructor
  · unfold moveI ofI
    rw [if_neg (by decide), if_neg (by decide), if_pos rfl, if_neg (by omega)]
  · have e : (moveJ lo hi 0 1099511627776 s.st).y = s.st.y := rfl
    rw [e]
    unfold moveI ofI
    rw [if_neg (by decide), if_neg (by decide)]
    simp only [show ¬ (1 : Int) = 0 by decide, if_false, if_true]
    rw [if_neg (by omega)]
theorem end_held {lo hi md : Int} {s : TSt} {n : Nat} (ok : TOk lo hi md s n) (hp : PlanOk lo hi) : (endJ lo hi s.st).a = [] ∧ (endJ lo hi s.st).b = [] := by
  unfold PlanOk at hp
  constructor
  · show (s.st.a.filter (fun h => decide (tilI lo hi 0 h.r.t > 1099511627776))) = []
    refine List.filter_eq_nil_iff.2 fun g hg => ?_
    have h1 := (ok.held0 g hg).1.2.1
    have e : tilI lo hi 0 g.r.t = g.r.t + hi := rfl
    rw [e]; simp; omega
  · show (s.st.b.filter (fun h => decide (tilI lo hi 1 h.r.t > 1099511627776))) = []
    refine List.filter_eq_nil_iff.2 fun g hg => ?_
    have h1 := (ok.held1 g hg).1.2.1
    have e : tilI lo hi 1 g.r.t = g.r.t - lo := rfl
    rw [e]; simp; omega
end Go.Proofs.YtmcgnnmffeojpaaGreatDoor
