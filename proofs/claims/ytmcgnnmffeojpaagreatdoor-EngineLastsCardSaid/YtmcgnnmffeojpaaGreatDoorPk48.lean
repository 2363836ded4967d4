/- EngineLasts: the walk. -/
import Derived.Test.YtmcgnnmffeojpaaGreatDoorPk45
import Derived.Test.YtmcgnnmffeojpaaGreatDoorPk47
import Derived.Deep.DeepCutAuto
import Derived.Deep.CutBlock
/- EngineView: the walk. -/
namespace Go.Proofs.YtmcgnnmffeojpaaGreatDoor
open Go.RowKit Go.Plan

theorem TOk.outs {lo hi md : Int} {s : TSt} {n : Nat} (ok : TOk lo hi md s n) : ∀ x ∈ sortO s.V, x.ok := fun x hx =>
  (outOk_ok (should_ok (fun r hr => (ok.rL r hr).good) (fun r hr => (ok.rR r hr).good) x (ok.inv.v.mem_iff.1 ((sortO_perm _).mem_iff.1 hx)))).2
theorem TOk.lV2 {lo hi md : Int} {s : TSt} {n : Nat} (ok : TOk lo hi md s n) (hn : n < 200) : s.V.length < 1000000 := by
  have h1 := ok.lV
  have : n * n ≤ 200 * 200 := Nat.mul_le_mul (by omega) (by omega)
  omega
set_option maxRecDepth 100000 in
set_option maxHeartbeats 8000000 in
theorem engineView_w (low high mode : Int) (a : Option Addr) (cap : Nat) (xs : List StE) (w : World) (i1 : I64 low) (i2 : I64 high) (i3 : I64 mode) (hlib : Lib4 w) (hin : StepsIn w a xs) (hok : ∀ x ∈ xs, x.ok ∧ I64 x.n) :
    Calls Tryz.prog 3 #[.int .i64 low, .int .i64 high, .int .i64 mode, .slice a xs.length cap] w fun e w' => e = .returned (.bool true) ∧ Ext w w' := by
  have hw0 : 0 < w.heap.size := cell_lt hlib.l
  by_cases h80 : 80 < xs.length
  · have d : decide (80 < (xs.length : Int)) = true := by simp; omega
    go_enter Tryz.func3, Tryz.ntmps3
    go_wp2_with fail
    go_ret
    exact ⟨rfl, ExtM.refl _⟩
  have d : decide (80 < (xs.length : Int)) = false := by simp; omega
  have hck := plan_check low high mode
  have hnw := fun u => tale_new low high mode u i1 i2 i3
  generalize planLo low = lo at *
  generalize planHi low high = hi at *
  generalize planMd mode = md at *
  go_enter Tryz.func3, Tryz.ntmps3
  go_upto_region 5 with (go_at_call 7; refine (met_c _ hlib.l).mono ?_; rintro e w1 ⟨rfl, hx1⟩)
  go_wp2_with (go_at_call 8; refine (hnw _).mono ?_; rintro e w2 ⟨Ta, Fa, rfl, hx2, hta, hna⟩)
  have hX0 : Ext w w2 := ExtM.trans _ _ _ hx1 hx2
  have hF0 : ∀ k, Fa k → w.heap.size ≤ k := fun k hk => Nat.le_trans hx1.size (hna k hk)
  clear hnw hx1 hx2 hna
  go_loopg [10] (xs.length + 1) (fun kx s10 wr => ∃ (i : Nat) (Fb : Nat → Prop), s10 = .int .i64 i ∧ i ≤ xs.length ∧ xs.length - i ≤ kx ∧ Ext w wr ∧ TAt wr Ta Fb lo hi md (tellX lo hi md (xs.take i) TSt.new) ∧ ∀ k, Fb k → w.heap.size ≤ k)
  case atStart => exact ⟨0, Fa, rfl, by omega, by omega, hX0, hta, hF0⟩
  case round =>
    clear hta hX0 hF0
    obtain ⟨i, Fb, rfl, hi', hgk, hX, hT, hF⟩ := hrel
    by_cases hil : i < xs.length
    · rcases hin with hin | ⟨b, off, rfl, hel⟩
      · rw [hin] at hil; simp at hil
      have hel := (hel i hil).of hX
      have hxo := hok _ (List.getElem_mem hil)
      have hto : TOk lo hi md (tellX lo hi md (xs.take i) TSt.new) (0 + (xs.take i).length) := tellX_ok _ (TOk.new lo hi md) (by rw [List.length_take]; omega)
      have hnl : 0 + (xs.take i).length < 100 := by rw [List.length_take]; omega
      have HSN : Hid (tellX lo hi md (xs.take (i + 1)) TSt.new = stepX lo hi md (tellX lo hi md (xs.take i) TSt.new) xs[i]) := Lib.hid (by rw [List.take_succ_eq_append_getElem hil, tellX_snoc])
      generalize xs[i] = x at *
      generalize 0 + (xs.take i).length = n at *
      generalize tellX lo hi md (xs.take i) TSt.new = s at *
      have hz0 : ¬ Fb 0 := fun e => by have := hF 0 e; omega
      have hdo := doesA_c hT hto (by omega) hck (hlib.ext hX) hz0 x hxo.1 hxo.2
      have hto2 := stepX_ok hto (by omega) x
      rw [← HSN.out] at hdo hto2
      generalize hs2 : tellX lo hi md (xs.take (i + 1)) TSt.new = s2 at *
      have HS2 := Lib.hid hs2
      clear hs2
      obtain ⟨wh, sd, sn, ky, tm, vl⟩ := x
      obtain ⟨q0, q1, q2, q3, q4, q5⟩ := hel
      simp only [StE.agg] at q0 q1 q2 q3 q4 q5 hdo
      have hlb := cell_lt' q0
      clear hT hto hxo
      go_wp2_with (go_at_call 9; refine hdo.mono ?_; rintro e w6 ⟨rfl, hu6⟩; refine Hid.out ?_)
      refine Lib.hid ?_
      obtain ⟨hxu, Fb2, hT2, hF2⟩ := hu6
      have hX6 : Ext w w6 := hX.fresh' hxu (fun k hk e => by have := hF k e; omega)
      have hF6 : ∀ k, Fb2 k → w.heap.size ≤ k := fun k hk => (hF2 k hk).elim (hF k) (fun e => Nat.le_trans hX.size e)
      obtain ⟨F, E, Bs, v0, v1, m, ht, rfl⟩ := hT2
      have c0 := ht.own.c0
      have lT := cell_lt' c0
      simp only at lT
      have hVl := hto2.lV2 (by omega)
      have hva := (view_c ht.eng hVl).mono fun e w' h => h.out
      have hvo := hto2.outs
      clear hdo q0 q1 q2 q3 q4 q5 hlb hxu hF2 hX
      have hpS : (sortO s2.V).Perm (should lo hi md 0 s2.L s2.R) := (sortO_perm _).trans hto2.inv.v
      have hpV : (sortO s2.V).Perm s2.V := sortO_perm _
      have hvl : (sortO s2.V).length < 1000000 := by rw [sortO_length]; exact hVl
      go_wp2_with (go_at_call 10; refine hva.mono ?_; rintro e w7 ⟨p, cv, rfl, hx7, ho7⟩; refine Hid.out ?_)
      refine Lib.hid ?_
      have ht7 := ht.ext hx7
      have hsh := should_c ht7 hto2 (by omega)
      clear hva c0 lT
      go_wp2_with (go_at_call 12; refine hsh.mono ?_; rintro e w8 ⟨D, m', rfl, hx8, hmD, hcD⟩; refine Hid.out ?_)
      refine Lib.hid ?_
      have ht8 := ht7.ext hx8
      have hr1 := right_c p cv (sortO s2.V) _ D m' w8 (ho7.of hx8) hvo hmD hcD hpS hvl
      clear hsh
      go_wp2_with (go_at_call 11; refine hr1.mono ?_; rintro e w9 ⟨rfl, hx9⟩; refine Hid.out ?_)
      refine Lib.hid ?_
      have ht9 := ht8.ext hx9
      have hr2 := right_c p cv (sortO s2.V) _ F m w9 ((ho7.of hx8).of hx9) hvo ht9.mp ht9.cz hpV hvl
      have c8 := ht9.own.c8
      have lT := cell_lt' c8
      simp only at lT
      clear hr1
      go_wp2_with (go_at_call 11; refine hr2.mono ?_; rintro e wA ⟨rfl, hxA⟩; refine Hid.out ?_)
      refine Lib.hid ?_
      have HN := Lib.hid (⟨ExtM.trans _ _ _ hX6 (ExtM.trans _ _ _ hx7 (ExtM.trans _ _ _ hx8 (ExtM.trans _ _ _ hx9 hxA))), ht9.ext hxA, hF6⟩ : Ext w wA ∧ _ ∧ _)
      clear hr2 c8 lT ht9 ht8 ht7 ht hX6 hx7 hx8 hx9 hxA hF6 ho7 hmD hcD
      go_wp2_with fail
      go_roundg (xs.length - (i + 1))
      case measure => omega
      case rel =>
        obtain ⟨r1, r2, r3⟩ := HN.out
        refine ⟨i + 1, _, by go_num, by omega, Nat.le_refl _, r1, ?_, r3⟩
        rw [HS2.out]
        exact ⟨F, E, Bs, v0, v1, m, r2, rfl⟩
    · obtain rfl : i = xs.length := by omega
      have hz : decide (xs.length < xs.length) = false := by simp
      have hz2 : decide ((xs.length : Int) < xs.length) = false := by simp
      go_wp2_with fail
      go_ret
      exact ⟨rfl, hX⟩
end Go.Proofs.YtmcgnnmffeojpaaGreatDoor
/- Two tales that differ in the order of their views alone; what an engine tells of its join. -/
namespace Go.Proofs.YtmcgnnmffeojpaaGreatDoor
open Go.RowKit Go.Plan

section
variable {u : World} {E : Nat} {Bs : Nat → Prop} {lo hi md : Int} {st : JSt} {V W : List Out} {f0 f1 : Int}
theorem EAt.join (h : EAt u E Bs lo hi md st V W f0 f1) : ∃ P M v0 v1, u.cell? ⟨E, 3, none⟩ = some (.pointer (some ⟨P, 0, none⟩)) ∧ E < u.heap.size ∧ JIs u P M v0 v1 lo hi md st := by
  obtain ⟨P, M, v0, v1, D, DG, ents, hI, -⟩ := h
  exact ⟨P, M, v0, v1, hI.c3, hI.lt, hI.join⟩
theorem elate_c (h : EAt u E Bs lo hi md st V W f0 f1) : Calls Tryz.prog 16 #[.pointer (some ⟨E, 0, none⟩)] u fun e u' => e = .returned (.int .i64 st.late) ∧ u = u' := by
  obtain ⟨P, M, v0, v1, c3, lE, hj⟩ := h.join
  have hl := jlate_c hj
  clear hj
  go_enter Tryz.func16, Tryz.ntmps16
  go_wp2_with (go_at_call 34; refine hl.mono ?_; rintro e w1 ⟨rfl, rfl⟩)
  go_ret
  exact ⟨rfl, rfl⟩
end

/-- The same but for the order of their views. -/
def SimT (a b : TSt) : Prop := ∃ V, V.Perm a.V ∧ b = { a with V := V }
theorem SimT.refl (a : TSt) : SimT a a := ⟨a.V, List.Perm.refl _, rfl⟩
theorem applyV_perm : ∀ (cs : List (Out × Bool)) {V V' : List Out}, V.Perm V' → (applyV V cs).Perm (applyV V' cs)
  | [], _, _, h => h
  | c :: cs, V, V', h => by
    rw [applyV_cons, applyV_cons]
    refine applyV_perm cs ?_
    split
    · exact h.erase _
    · exact List.Perm.cons _ h
theorem SimT.save {lo hi md : Int} {a b : TSt} (h : SimT a b) : SimT a (saveT lo hi md b) := by
  unfold saveT
  split
  · exact h
  · obtain ⟨V, hp, rfl⟩ := h
    exact ⟨_, ((List.reverse_perm _).trans (sortO_perm _)).trans hp, rfl⟩
theorem SimT.step {lo hi md : Int} {a b : TSt} (h : SimT a b) (x : StE) (hx : x.what ≠ 2) : SimT (stepX lo hi md a x) (stepX lo hi md b x) := by
  obtain ⟨V, hp, rfl⟩ := h
  unfold stepX
  by_cases h0 : x.what = 0
  · rw [if_pos h0, if_pos h0]
    exact ⟨_, applyV_perm _ hp, rfl⟩
  rw [if_neg h0, if_neg h0]
  by_cases h1 : x.what = 1
  · rw [if_pos h1, if_pos h1]
    unfold moveT
    by_cases hs : x.sd = 0
    · rw [if_pos hs, if_pos hs]; exact ⟨V, hp, rfl⟩
    · rw [if_neg hs, if_neg hs]; exact ⟨V, hp, rfl⟩
  rw [if_neg h1, if_neg h1, if_neg hx, if_neg hx]
  exact ⟨V, hp, rfl⟩
theorem SimT.ok {lo hi md : Int} {a b : TSt} {n : Nat} (h : SimT a b) (ok : TOk lo hi md a n) : TOk lo hi md b n := by
  obtain ⟨V, hp, rfl⟩ := h
  exact ok.perm hp
theorem SimT.saved {lo hi md : Int} {a b : TSt} (h : SimT a b) : savedT (esT lo hi md b) = savedT (esT lo hi md a) := by
  obtain ⟨V, hp, rfl⟩ := h
  exact savedT_perm (e := esT lo hi md a) hp
theorem SimT.rest {a b : TSt} (h : SimT a b) : b.L = a.L ∧ b.R = a.R ∧ b.st.late = a.st.late := by
  obtain ⟨V, hp, rfl⟩ := h
  exact ⟨rfl, rfl, rfl⟩
theorem two_nil {w0 w : World} {Ta Tb : Nat} {lo hi md : Int} {sa sb : TSt} {Fa Fb : Nat → Prop} (hx : Ext w0 w) (ha : TAt w Ta Fa lo hi md sa) (hb : TAt w Tb Fb lo hi md sb) (hab : ∀ k, Fa k → ¬ Fb k) (hna : ∀ k, Fa k → w0.heap.size ≤ k) (hnb : ∀ k, Fb k → w0.heap.size ≤ k) :
    Two2 w0 w Ta Tb lo hi md sa sb (.slice none 0 0) [] Fa Fb := ⟨hx, ha, hb, hab, hna, hnb, ⟨rfl, .inl ⟨rfl, rfl⟩⟩, fun k hk => nomatch hk⟩
end Go.Proofs.YtmcgnnmffeojpaaGreatDoor
namespace Go.Proofs.YtmcgnnmffeojpaaGreatDoor
open Go.RowKit Go.Plan

theorem TOk.lV9 {lo hi md : Int} {s : TSt} {n : Nat} (ok : TOk lo hi md s n) (hn : n < 200) : s.V.length ≤ 900000 := by
  have h1 := ok.lV
  have : n * n ≤ 200 * 200 := Nat.mul_le_mul (by omega) (by omega)
  omega
set_option maxRecDepth 100000 in
set_option maxHeartbeats 8000000 in
theorem engineLasts_w (low high mode : Int) (a : Option Addr) (cap : Nat) (xs : List StE) (when_ : Int) (w : World) (i1 : I64 low) (i2 : I64 high) (i3 : I64 mode) (i4 : I64 when_) (hlib : Lib4 w) (hin : StepsIn w a xs) (hok : ∀ x ∈ xs, x.ok ∧ I64 x.n) :
    Calls Tryz.prog 4 #[.int .i64 low, .int .i64 high, .int .i64 mode, .slice a xs.length cap, .int .i64 when_] w fun e w' => e = .returned (.bool true) ∧ Ext w w' := by
  have hw0 : 0 < w.heap.size := cell_lt hlib.l
  by_cases h80 : 80 < xs.length
  · have d : decide (80 < (xs.length : Int)) = true := by simp; omega
    go_enter Tryz.func4, Tryz.ntmps4
    go_wp2_with fail
    go_ret
    exact ⟨rfl, ExtM.refl _⟩
  have d : decide (80 < (xs.length : Int)) = false := by simp; omega
  have hck := plan_check low high mode
  have hnw := fun u => tale_new low high mode u i1 i2 i3
  generalize planLo low = lo at *
  generalize planHi low high = hi at *
  generalize planMd mode = md at *
  have hpk := fun u => pick_c when_ (xs.length + 1) u (by omega) (by omega) i4
  have hpn := pickN_lt when_ (xs.length + 1) (by omega)
  generalize pickN when_ (xs.length + 1) = wn at *
  rw [show ((xs.length + 1 : Nat) : Int) = (xs.length : Int) + 1 by push_cast; rfl] at hpk
  go_enter Tryz.func4, Tryz.ntmps4
  go_upto_region 5 with (go_at_call 7; refine (met_c _ hlib.l).mono ?_; rintro e w1 ⟨rfl, hx1⟩)
  go_wp2_with fail
  refine (hnw _).mono ?_
  rintro e w2 ⟨Ta, Fa, rfl, hx2, hta, hna⟩
  go_upto_region 8 with (go_at_call 8; refine (hnw _).mono ?_; rintro e w3 ⟨Tb, Fb, rfl, hx3, htb, hnb⟩)
  have hs1 := hx1.size
  have hs2 := hx2.size
  have hs3 := hx3.size
  have hT0 : Two2 w w3 Ta Tb lo hi md TSt.new TSt.new (.slice none 0 0) [] Fa Fb :=
    two_nil (ExtM.trans _ _ _ hx1 (ExtM.trans _ _ _ hx2 hx3)) (hta.ext hx3) htb (fun k ha hb => by have := hta.lt k ha; have := hnb k hb; omega) (fun k hk => by have := hna k hk; omega) (fun k hk => by have := hnb k hk; omega)
  clear hx1 hx2 hx3 hs1 hs2 hs3 hta htb hna hnb hnw
  go_wp2_with (go_at_call 13; refine (hpk _).mono ?_; rintro e w' ⟨rfl, rfl⟩)
  go_loopg [13] (xs.length + 1) (fun kx s13 wr => ∃ (i : Nat) (Fa Fb : Nat → Prop) (sa sb : TSt), s13 = .int .i64 i ∧ i ≤ xs.length ∧ xs.length - i ≤ kx ∧ Two2 w wr Ta Tb lo hi md sa sb (.slice none 0 0) [] Fa Fb ∧ TOk lo hi md sa i ∧ SimT sa sb)
  case atStart => exact ⟨0, Fa, Fb, TSt.new, TSt.new, rfl, by omega, by omega, hT0, TOk.new lo hi md, SimT.refl _⟩
  case round =>
    clear hT0
    obtain ⟨i, Fa', Fb', sa, sb, rfl, hi', hgk, hT, hto, hsim⟩ := hrel
    by_cases hil : i < xs.length
    · rcases hin with hin | ⟨b, off, rfl, hel⟩
      · rw [hin] at hil; simp at hil
      have helw := hel i hil
      have hxo := hok _ (List.getElem_mem hil)
      clear hel
      generalize xs[i] = x at *
      obtain ⟨wh, sd, sn, ky, tm, vl⟩ := x
      have HEL := Lib.hid helw
      clear helw
      go_upto_region 12 with fail
      go_cut [57] (fun s57 wx => s57 = .bool false ∧ ∃ (sb' : TSt) (Fb2 : Nat → Prop), Two2 w wx Ta Tb lo hi md sa sb' (.slice none 0 0) [] Fa' Fb2 ∧ SimT sa sb')
      case first =>
        by_cases hw : wn ≤ i
        · have hw1 : (wn : Int) ≤ i := by omega
          have hz0 : ¬ Fb' 0 := fun e => by have := hT.nb 0 e; omega
          have hdo := doesA_c hT.b (hsim.ok hto) (by omega) hck (hlib.ext hT.ext) hz0 ⟨2, 0, 0, 0, 0, 0⟩ (by unfold StE.ok I64; simp) (by unfold I64; simp)
          have hst : stepX lo hi md sb ⟨2, 0, 0, 0, 0, 0⟩ = saveT lo hi md sb := rfl
          rw [hst] at hdo
          simp only [StE.agg] at hdo
          have HT := Lib.hid hT
          clear hT hst
          go_wp2_with (go_at_call 9; refine hdo.mono ?_; rintro e w6 ⟨rfl, hu6⟩; refine Hid.out ?_)
          refine Lib.hid ?_
          obtain ⟨Fb2, hT2⟩ := HT.out.upB hu6
          have HN := Lib.hid hT2
          clear hu6 hT2 hdo
          go_wp2_with fail
          go_meet
          case rel => exact ⟨rfl, _, Fb2, HN.out, hsim.save⟩
        · have hw1 : ¬ (wn : Int) ≤ i := by omega
          have HT := Lib.hid hT
          clear hT
          go_wp2_with fail
          go_meet
          case rel => exact ⟨rfl, sb, Fb', HT.out, hsim⟩
      case rest =>
        obtain ⟨rfl, sb', Fb2, hT, hsim⟩ := hcut
        obtain ⟨q0, q1, q2, q3, q4, q5⟩ := HEL.out.of hT.ext
        simp only at q0 q1 q2 q3 q4 q5
        have hlq := cell_lt' q0
        simp only at hlq
        go_upto_region 15 with fail
        have hxb : Ext wc (wc.alloc (.cells #[.int .i64 wh, .int .i64 sd, .int .i64 sn, .int .i64 ky, .int .i64 tm, .int .i64 vl] 28)) := (ExtM.refl _).alloc _
        have bx : ElemE (wc.alloc (.cells #[.int .i64 wh, .int .i64 sd, .int .i64 sn, .int .i64 ky, .int .i64 tm, .int .i64 vl] 28)) wc.heap.size 0 ⟨wh, sd, sn, ky, tm, vl⟩ := ⟨by go_simp, by go_simp, by go_simp, by go_simp, by go_simp, by go_simp⟩
        have hT1 := hT.of hxb
        have hnF : w.heap.size ≤ wc.heap.size := hT.ext.size
        generalize wc.alloc (.cells #[.int .i64 wh, .int .i64 sd, .int .i64 sn, .int .i64 ky, .int .i64 tm, .int .i64 vl] 28) = wb at *
        have hnA : ¬ Fa' wc.heap.size := fun e => by have := hT.a.lt _ e; omega
        have hnB : ¬ Fb2 wc.heap.size := fun e => by have := hT.b.lt _ e; omega
        generalize wc.heap.size = nb at *
        clear hT q0 q1 q2 q3 q4 q5 hlq hxb
        obtain ⟨e0, e1, e2, e3, e4, e5⟩ := id bx
        simp only [Nat.zero_add] at e0 e1 e2 e3 e4 e5
        have lb := cell_lt' e0
        by_cases h2 : wh = 2
        · have h2' : (wh == 2) = true := by simp [h2]
          have H2 := Lib.hid h2
          have HN := Lib.hid hT1
          clear h2 hT1 bx
          go_wp2_with fail
          go_roundg (xs.length - (i + 1))
          case measure => omega
          case rel => exact ⟨i + 1, Fa', Fb2, sa, sb', by go_num, by omega, Nat.le_refl _, HN.out, hto.more, hsim⟩
        · have h2' : (wh == 2) = false := by simp [h2]
          have hz0 : ¬ Fa' 0 := fun e => by have := hT1.na 0 e; omega
          have hz1 : ¬ Fb2 0 := fun e => by have := hT1.nb 0 e; omega
          have hdoA := doesA_c hT1.a hto (by omega) hck (hlib.ext hT1.ext) hz0 ⟨wh, sd, sn, ky, tm, vl⟩ hxo.1 hxo.2
          have hto2 := stepX_ok hto (by omega) (⟨wh, sd, sn, ky, tm, vl⟩ : StE)
          have hsim2 := hsim.step (lo := lo) (hi := hi) (md := md) ⟨wh, sd, sn, ky, tm, vl⟩ h2
          simp only [StE.agg] at hdoA
          go_wp2_with (go_at_call 9; refine hdoA.mono ?_; rintro e w6 ⟨rfl, hu6⟩; refine Hid.out ?_)
          refine Lib.hid ?_
          obtain ⟨Fa3, hT2⟩ := hT1.upA hu6
          have bx2 := bx.keep hu6.1 hnA
          have hdoB := doesA_c hT2.b (hsim.ok hto) (by omega) hck (hlib.ext hT2.ext) hz1 ⟨wh, sd, sn, ky, tm, vl⟩ hxo.1 hxo.2
          simp only [StE.agg] at hdoB
          clear hdoA hu6 hT1 e0 e1 e2 e3 e4 e5 lb bx
          obtain ⟨e0, e1, e2, e3, e4, e5⟩ := id bx2
          simp only [Nat.zero_add] at e0 e1 e2 e3 e4 e5
          have lb := cell_lt' e0
          go_wp2_with (go_at_call 9; refine hdoB.mono ?_; rintro e w7 ⟨rfl, hu7⟩; refine Hid.out ?_)
          refine Lib.hid ?_
          obtain ⟨Fb3, hT3⟩ := hT2.upB hu7
          clear hdoB hu7 hT2 e0 e1 e2 e3 e4 e5 lb bx2 hto hsim
          generalize stepX lo hi md sa ⟨wh, sd, sn, ky, tm, vl⟩ = sa2 at *
          generalize stepX lo hi md sb' ⟨wh, sd, sn, ky, tm, vl⟩ = sb2 at *
          have HT3 := Lib.hid hT3
          have hX7 := hT3.ext
          obtain ⟨FA, EA, BA, va0, va1, ma, hta, -⟩ := hT3.a
          obtain ⟨FB, EB, BB, vb0, vb1, mb, htb, -⟩ := hT3.b
          have htoB := hsim2.ok hto2
          have hsvA := saved_c hta.eng (esT lo hi md sa2) rfl ((hto2.eok (by omega) hck hta.eng).sok (hto2.lV9 (by omega))) (hlib.ext hX7).t
          have hsvB := fun (wq : World) (hq : Ext w7 wq) => saved_c (htb.ext hq).eng (esT lo hi md sb2) rfl ((htoB.eok (by omega) hck (htb.ext hq).eng).sok (htoB.lV9 (by omega))) (hlib.ext (ExtM.trans _ _ _ hX7 hq)).t
          have hee : savedV (esT lo hi md sb2) = savedV (esT lo hi md sa2) := by unfold savedV; rw [hsim2.saved]
          rw [hee] at hsvB
          obtain ⟨hrL, hrR, hrl⟩ := hsim2.rest
          have hlA := fun (wq : World) (hq : Ext w7 wq) => elate_c (hta.ext hq).eng
          have hlB := fun (wq : World) (hq : Ext w7 wq) => elate_c (htb.ext hq).eng
          rw [hrl] at hlB
          have a0 := hta.own.c0
          have a4 := hta.own.c4
          have a5 := hta.own.c5
          have b0 := htb.own.c0
          have b4 := htb.own.c4
          have b5 := htb.own.c5
          obtain ⟨pa0, ca0, rfl, -⟩ := own_slice hta.r0
          obtain ⟨pa1, ca1, rfl, -⟩ := own_slice hta.r1
          obtain ⟨pb0, cb0, rfl, -⟩ := own_slice htb.r0
          obtain ⟨pb1, cb1, rfl, -⟩ := own_slice htb.r1
          rw [List.length_reverse] at a4 a5 b4 b5
          rw [hrL] at b4
          rw [hrR] at b5
          have lA := cell_lt' a0
          have lB := cell_lt' b0
          simp only at lA lB
          have HFIN := Lib.hid (fun (wq : World) (hq : Ext w7 wq) => HT3.out.of hq)
          clear hT3 HT3 hta htb htoB hee hrL hrR hrl hX7
          generalize sa2.L.length = nL at *
          generalize sa2.R.length = nR at *
          by_cases hbig : 60000 < (savedT (esT lo hi md sa2)).length
          · rw [show savedV (esT lo hi md sa2) = .returned (.tuple #[.string ByteArray.empty, .iface 48 (.int .i64 4)]) from if_pos hbig] at hsvA hsvB
            go_wp2_with (go_at_call 14; refine hsvA.mono ?_; rintro e w8 ⟨rfl, hx8⟩; refine Hid.out ?_)
            refine Lib.hid ?_
            have hB1 := hsvB w8 hx8
            have a0' := (hx8.cell (p := ⟨Ta, 0, none⟩) lA id).trans a0
            have a4' := (hx8.cell (p := ⟨Ta, 4, none⟩) lA id).trans a4
            have a5' := (hx8.cell (p := ⟨Ta, 5, none⟩) lA id).trans a5
            have b0' := (hx8.cell (p := ⟨Tb, 0, none⟩) lB id).trans b0
            have b4' := (hx8.cell (p := ⟨Tb, 4, none⟩) lB id).trans b4
            have b5' := (hx8.cell (p := ⟨Tb, 5, none⟩) lB id).trans b5
            clear a0 a4 a5 b0 b4 b5 lA lB hsvA hsvB
            have lA := cell_lt' a0'
            have lB := cell_lt' b0'
            simp only at lA lB
            go_wp2_with (go_at_call 14; refine hB1.mono ?_; rintro e w9 ⟨rfl, hx9⟩; refine Hid.out ?_)
            refine Lib.hid ?_
            have hx79 : Ext w7 w9 := ExtM.trans _ _ _ hx8 hx9
            have a0 := (hx9.cell (p := ⟨Ta, 0, none⟩) lA id).trans a0'
            have a4 := (hx9.cell (p := ⟨Ta, 4, none⟩) lA id).trans a4'
            have a5 := (hx9.cell (p := ⟨Ta, 5, none⟩) lA id).trans a5'
            have b0 := (hx9.cell (p := ⟨Tb, 0, none⟩) lB id).trans b0'
            have b4 := (hx9.cell (p := ⟨Tb, 4, none⟩) lB id).trans b4'
            have b5 := (hx9.cell (p := ⟨Tb, 5, none⟩) lB id).trans b5'
            clear a0' a4' a5' b0' b4' b5' lA lB hB1
            have lA := cell_lt' a0
            have lB := cell_lt' b0
            simp only at lA lB
            have hlA9 := fun wq (hq : Ext w9 wq) => hlA wq (ExtM.trans _ _ _ hx79 hq)
            have hlB9 := fun wq (hq : Ext w9 wq) => hlB wq (ExtM.trans _ _ _ hx79 hq)
            clear hlA hlB
            generalize sa2.st.late = lt at *
            have HLL := Lib.hid (⟨hto2, hsim2⟩ : _ ∧ _)
            clear hto2 hsim2
            have hL9 : Laid w9 := (hlib.ext (ExtM.trans _ _ _ (HFIN.out _ (ExtM.refl _)).ext hx79)).l
            go_upto_region 20 with fail
            have hL9d := hL9.of (ExtM.refl w9).drew
            refine Plan.begin Plan.Ext 53 rfl (by kernel_rfl) ?_
            refine Plan.left_q 0 (by rfl) (by kernel_rfl) ?_; go_big_quiet_step (fail); refine wpQuiet_nil ?_
            refine Plan.left_q 1 (by rfl) (by kernel_rfl) ?_; go_big_quiet_step (fail); refine wpQuiet_nil ?_
            refine Plan.left_q 2 (by rfl) (by kernel_rfl) ?_; go_big_quiet_step (fail); refine wpQuiet_nil ?_
            refine Plan.left_q 3 (by rfl) (by kernel_rfl) ?_; go_big_quiet_step (fail); refine wpQuiet_nil ?_
            refine Plan.left_q 4 (by rfl) (by kernel_rfl) ?_; go_big_quiet_step (fail); refine wpQuiet_nil ?_
            refine Plan.left_q 6 (by rfl) (by kernel_rfl) ?_; go_big_quiet_step (fail); refine wpQuiet_nil ?_
            refine Plan.left_one 5 (by kernel_rfl) (by rfl) (Plan.want rfl fun K hK => ?_)
            go_wp2_with (fail)
            refine (tell_c 4 _ hL9d).mono ?_
            rintro e w10 ⟨rfl, h10⟩
            have H10 := ExtM.trans _ _ _ (ExtM.refl _).drew h10
            obtain ⟨hc10, hf10, -⟩ := Ext.rules H10
            have hs10_0 : Ta < w10.heap.size := by have := H10.size; (try simp at this); omega
            have hs10_1 : Tb < w10.heap.size := by have := H10.size; (try simp at this); omega
            go_wp2_with (fail)
            refine hK _ _ h10 ?_
            clear hK K
            refine Plan.left_one 7 (by kernel_rfl) (by rfl) (Plan.want rfl fun K hK => ?_)
            go_wp2_with (fail)
            refine (tell_c 4 _ (hL9.of H10)).mono ?_
            rintro e w11 ⟨rfl, h11⟩
            clear hc10 hf10 hs10_0 hs10_1
            have H11 := ExtM.trans _ _ _ H10 h11
            obtain ⟨hc11, hf11, -⟩ := Ext.rules H11
            have hs11_0 : Ta < w11.heap.size := by have := H11.size; (try simp at this); omega
            have hs11_1 : Tb < w11.heap.size := by have := H11.size; (try simp at this); omega
            go_wp2_with (fail)
            refine hK _ _ h11 ?_
            clear hK K
            refine Plan.left_q 8 (by rfl) (by kernel_rfl) ?_; go_big_quiet_step (fail); refine wpQuiet_nil ?_
            refine Plan.left_q 9 (by rfl) (by kernel_rfl) ?_; go_big_quiet_step (fail); refine wpQuiet_nil ?_
            refine Plan.left_q 10 (by rfl) (by kernel_rfl) ?_; go_big_quiet_step (fail); refine wpQuiet_nil ?_
            refine Plan.left_q 11 (by rfl) (by kernel_rfl) ?_; go_big_quiet_step (fail); refine wpQuiet_nil ?_
            refine Plan.left_q 12 (by rfl) (by kernel_rfl) ?_; go_big_quiet_step (fail); refine wpQuiet_nil ?_
            refine Plan.left_q 13 (by rfl) (by kernel_rfl) ?_; go_big_quiet_step (fail); refine wpQuiet_nil ?_
            refine Plan.left_q 14 (by rfl) (by kernel_rfl) ?_; go_big_quiet_step (fail); refine wpQuiet_nil ?_
            refine Plan.left_q 15 (by rfl) (by kernel_rfl) ?_; go_big_quiet_step (fail); refine wpQuiet_nil ?_
            refine Plan.left_q 16 (by rfl) (by kernel_rfl) ?_; go_big_quiet_step (fail); refine wpQuiet_nil ?_
            refine Plan.left_q 17 (by rfl) (by kernel_rfl) ?_; go_big_quiet_step (fail); refine wpQuiet_nil ?_
            refine Plan.left_q 18 (by rfl) (by kernel_rfl) ?_; go_big_quiet_step (fail); refine wpQuiet_nil ?_
            refine Plan.left_q 19 (by rfl) (by kernel_rfl) ?_; go_big_quiet_step (fail); refine wpQuiet_nil ?_
            refine Plan.left_q 20 (by rfl) (by kernel_rfl) ?_; go_big_quiet_step (fail); refine wpQuiet_nil ?_
            refine Plan.left_q 21 (by rfl) (by kernel_rfl) ?_; go_big_quiet_step (fail); refine wpQuiet_nil ?_
            refine Plan.left_q 22 (by rfl) (by kernel_rfl) ?_; go_big_quiet_step (fail); refine wpQuiet_nil ?_
            refine Plan.left_q 23 (by rfl) (by kernel_rfl) ?_; go_big_quiet_step (fail); refine wpQuiet_nil ?_
            refine Plan.left_q 24 (by rfl) (by kernel_rfl) ?_; go_big_quiet_step (fail); refine wpQuiet_nil ?_
            refine Plan.left_q 25 (by rfl) (by kernel_rfl) ?_; go_big_quiet_step (fail); refine wpQuiet_nil ?_
            refine Plan.left_q 26 (by rfl) (by kernel_rfl) ?_; go_big_quiet_step (fail); refine wpQuiet_nil ?_
            refine Plan.left_q 27 (by rfl) (by kernel_rfl) ?_; go_big_quiet_step (fail); refine wpQuiet_nil ?_
            refine Plan.left_q 28 (by rfl) (by kernel_rfl) ?_; go_big_quiet_step (fail); refine wpQuiet_nil ?_
            refine Plan.left_q 29 (by rfl) (by kernel_rfl) ?_; go_big_quiet_step (fail); refine wpQuiet_nil ?_
            refine Plan.left_q 30 (by rfl) (by kernel_rfl) ?_; go_big_quiet_step (fail); refine wpQuiet_nil ?_
            refine Plan.left_q 31 (by rfl) (by kernel_rfl) ?_; go_big_quiet_step (fail); refine wpQuiet_nil ?_
            refine Plan.left_q 32 (by rfl) (by kernel_rfl) ?_; go_big_quiet_step (fail); refine wpQuiet_nil ?_
            refine Plan.left_q 33 (by rfl) (by kernel_rfl) ?_; go_big_quiet_step (fail); refine wpQuiet_nil ?_
            refine Plan.left_q 34 (by rfl) (by kernel_rfl) ?_; go_big_quiet_step (fail); refine wpQuiet_nil ?_
            refine Plan.left_q 35 (by rfl) (by kernel_rfl) ?_; go_big_quiet_step (fail); refine wpQuiet_nil ?_
            refine Plan.left_q 36 (by rfl) (by kernel_rfl) ?_; go_big_quiet_step (fail); refine wpQuiet_nil ?_
            refine Plan.left_q 37 (by rfl) (by kernel_rfl) ?_; go_big_quiet_step (fail); refine wpQuiet_nil ?_
            refine Plan.left_q 38 (by rfl) (by kernel_rfl) ?_; go_big_quiet_step (fail); refine wpQuiet_nil ?_
            refine Plan.left_q 39 (by rfl) (by kernel_rfl) ?_; go_big_quiet_step (fail); refine wpQuiet_nil ?_
            refine Plan.left_q 40 (by rfl) (by kernel_rfl) ?_; go_big_quiet_step (fail); refine wpQuiet_nil ?_
            refine Plan.left_q 41 (by rfl) (by kernel_rfl) ?_; go_big_quiet_step (fail); refine wpQuiet_nil ?_
            refine Plan.left_q 42 (by rfl) (by kernel_rfl) ?_; go_big_quiet_step (fail); refine wpQuiet_nil ?_
            refine Plan.left_q 43 (by rfl) (by kernel_rfl) ?_; go_big_quiet_step (fail); refine wpQuiet_nil ?_
            refine Plan.left_q 44 (by rfl) (by kernel_rfl) ?_; go_big_quiet_step (fail); refine wpQuiet_nil ?_
            refine Plan.left_q 46 (by rfl) (by kernel_rfl) ?_; go_big_quiet_step (fail); refine wpQuiet_nil ?_
            refine Plan.left_q 47 (by rfl) (by kernel_rfl) ?_; go_big_quiet_step (fail); refine wpQuiet_nil ?_
            refine Plan.left_q 48 (by rfl) (by kernel_rfl) ?_; go_big_quiet_step (fail); refine wpQuiet_nil ?_
            refine Plan.left_q 49 (by rfl) (by kernel_rfl) ?_; go_big_quiet_step (fail); refine wpQuiet_nil ?_
            refine Plan.left_one 45 (by kernel_rfl) (by rfl) (Plan.want rfl fun K hK => ?_)
            go_wp2_with (fail)
            refine (hlA9 _ H11).mono ?_
            rintro e w' ⟨rfl, rfl⟩
            go_wp2_with (fail)
            refine hK _ _ (ExtM.refl _) ?_
            clear hK K
            refine Plan.left_one 50 (by kernel_rfl) (by rfl) (Plan.want rfl fun K hK => ?_)
            go_wp2_with (fail)
            refine (hlB9 _ H11).mono ?_
            rintro e w' ⟨rfl, rfl⟩
            go_wp2_with (fail)
            refine hK _ _ (ExtM.refl _) ?_
            clear hK K
            refine Plan.left_q 51 (by rfl) (by kernel_rfl) ?_; go_big_quiet_step (fail); refine wpQuiet_nil ?_
            refine Plan.left_q 52 (by rfl) (by kernel_rfl) ?_; go_big_quiet_step (fail); refine wpQuiet_nil ?_
            refine Plan.left_done (by kernel_rfl) ?_
            have HE := Lib.hid (HFIN.out _ (ExtM.trans _ _ _ hx79 H11))
            clear a0 a4 a5 b0 b4 b5 lA lB hlA9 hlB9 hx8 hx9 hx79 hc11 hf11 hs11_0 hs11_1 H10 H11 h10 h11 hL9 hL9d
            go_wp2_with fail
            go_roundg (xs.length - (i + 1))
            case measure => omega
            case rel =>
              obtain ⟨r1, r2⟩ := HLL.out
              exact ⟨i + 1, _, _, sa2, sb2, by go_num, by omega, Nat.le_refl _, HE.out, r1, r2⟩
          · rw [show savedV (esT lo hi md sa2) = .returned (.tuple #[.string ⟨(savedT (esT lo hi md sa2)).toArray⟩, .nilIface]) from if_neg hbig] at hsvA hsvB
            generalize (⟨(savedT (esT lo hi md sa2)).toArray⟩ : ByteArray) = tx at *
            go_wp2_with (go_at_call 14; refine hsvA.mono ?_; rintro e w8 ⟨rfl, hx8⟩; refine Hid.out ?_)
            refine Lib.hid ?_
            have hB1 := hsvB w8 hx8
            have a0' := (hx8.cell (p := ⟨Ta, 0, none⟩) lA id).trans a0
            have a4' := (hx8.cell (p := ⟨Ta, 4, none⟩) lA id).trans a4
            have a5' := (hx8.cell (p := ⟨Ta, 5, none⟩) lA id).trans a5
            have b0' := (hx8.cell (p := ⟨Tb, 0, none⟩) lB id).trans b0
            have b4' := (hx8.cell (p := ⟨Tb, 4, none⟩) lB id).trans b4
            have b5' := (hx8.cell (p := ⟨Tb, 5, none⟩) lB id).trans b5
            clear a0 a4 a5 b0 b4 b5 lA lB hsvA hsvB
            have lA := cell_lt' a0'
            have lB := cell_lt' b0'
            simp only at lA lB
            go_wp2_with (go_at_call 14; refine hB1.mono ?_; rintro e w9 ⟨rfl, hx9⟩; refine Hid.out ?_)
            refine Lib.hid ?_
            have hx79 : Ext w7 w9 := ExtM.trans _ _ _ hx8 hx9
            have a0 := (hx9.cell (p := ⟨Ta, 0, none⟩) lA id).trans a0'
            have a4 := (hx9.cell (p := ⟨Ta, 4, none⟩) lA id).trans a4'
            have a5 := (hx9.cell (p := ⟨Ta, 5, none⟩) lA id).trans a5'
            have b0 := (hx9.cell (p := ⟨Tb, 0, none⟩) lB id).trans b0'
            have b4 := (hx9.cell (p := ⟨Tb, 4, none⟩) lB id).trans b4'
            have b5 := (hx9.cell (p := ⟨Tb, 5, none⟩) lB id).trans b5'
            clear a0' a4' a5' b0' b4' b5' lA lB hB1
            have lA := cell_lt' a0
            have lB := cell_lt' b0
            simp only at lA lB
            have hlA9 := fun wq (hq : Ext w9 wq) => hlA wq (ExtM.trans _ _ _ hx79 hq)
            have hlB9 := fun wq (hq : Ext w9 wq) => hlB wq (ExtM.trans _ _ _ hx79 hq)
            clear hlA hlB
            generalize sa2.st.late = lt at *
            have HLL := Lib.hid (⟨hto2, hsim2⟩ : _ ∧ _)
            clear hto2 hsim2
            go_upto_region 20 with fail
            refine Plan.begin Plan.Ext 53 rfl (by kernel_rfl) ?_
            refine Plan.left_q 0 (by rfl) (by kernel_rfl) ?_; go_big_quiet_step (fail); refine wpQuiet_nil ?_
            refine Plan.left_q 1 (by rfl) (by kernel_rfl) ?_; go_big_quiet_step (fail); refine wpQuiet_nil ?_
            refine Plan.left_q 2 (by rfl) (by kernel_rfl) ?_; go_big_quiet_step (fail); refine wpQuiet_nil ?_
            refine Plan.left_q 3 (by rfl) (by kernel_rfl) ?_; go_big_quiet_step (fail); refine wpQuiet_nil ?_
            refine Plan.left_q 4 (by rfl) (by kernel_rfl) ?_; go_big_quiet_step (fail); refine wpQuiet_nil ?_
            refine Plan.left_q 6 (by rfl) (by kernel_rfl) ?_; go_big_quiet_step (fail); refine wpQuiet_nil ?_
            refine Plan.left_one 5 (by kernel_rfl) (by rfl) (Plan.want rfl fun K hK => ?_)
            go_wp2_with (fail)
            refine (tell_nil _).mono ?_
            rintro e w' ⟨rfl, rfl⟩
            go_wp2_with (fail)
            refine hK _ _ (ExtM.refl _) ?_
            clear hK K
            refine Plan.left_one 7 (by kernel_rfl) (by rfl) (Plan.want rfl fun K hK => ?_)
            go_wp2_with (fail)
            refine (tell_nil _).mono ?_
            rintro e w' ⟨rfl, rfl⟩
            go_wp2_with (fail)
            refine hK _ _ (ExtM.refl _) ?_
            clear hK K
            refine Plan.left_q 8 (by rfl) (by kernel_rfl) ?_; go_big_quiet_step (fail); refine wpQuiet_nil ?_
            refine Plan.left_q 9 (by rfl) (by kernel_rfl) ?_; go_big_quiet_step (fail); refine wpQuiet_nil ?_
            refine Plan.left_q 10 (by rfl) (by kernel_rfl) ?_; go_big_quiet_step (fail); refine wpQuiet_nil ?_
            refine Plan.left_q 11 (by rfl) (by kernel_rfl) ?_; go_big_quiet_step (fail); refine wpQuiet_nil ?_
            refine Plan.left_q 12 (by rfl) (by kernel_rfl) ?_; go_big_quiet_step (fail); refine wpQuiet_nil ?_
            refine Plan.left_q 13 (by rfl) (by kernel_rfl) ?_; go_big_quiet_step (fail); refine wpQuiet_nil ?_
            refine Plan.left_q 14 (by rfl) (by kernel_rfl) ?_; go_big_quiet_step (fail); refine wpQuiet_nil ?_
            refine Plan.left_q 15 (by rfl) (by kernel_rfl) ?_; go_big_quiet_step (fail); refine wpQuiet_nil ?_
            refine Plan.left_q 16 (by rfl) (by kernel_rfl) ?_; go_big_quiet_step (fail); refine wpQuiet_nil ?_
            refine Plan.left_q 17 (by rfl) (by kernel_rfl) ?_; go_big_quiet_step (fail); refine wpQuiet_nil ?_
            refine Plan.left_q 18 (by rfl) (by kernel_rfl) ?_; go_big_quiet_step (fail); refine wpQuiet_nil ?_
            refine Plan.left_q 19 (by rfl) (by kernel_rfl) ?_; go_big_quiet_step (fail); refine wpQuiet_nil ?_
            refine Plan.left_q 20 (by rfl) (by kernel_rfl) ?_; go_big_quiet_step (fail); refine wpQuiet_nil ?_
            refine Plan.left_q 21 (by rfl) (by kernel_rfl) ?_; go_big_quiet_step (fail); refine wpQuiet_nil ?_
            refine Plan.left_q 22 (by rfl) (by kernel_rfl) ?_; go_big_quiet_step (fail); refine wpQuiet_nil ?_
            refine Plan.left_q 23 (by rfl) (by kernel_rfl) ?_; go_big_quiet_step (fail); refine wpQuiet_nil ?_
            refine Plan.left_q 24 (by rfl) (by kernel_rfl) ?_; go_big_quiet_step (fail); refine wpQuiet_nil ?_
            refine Plan.left_q 25 (by rfl) (by kernel_rfl) ?_; go_big_quiet_step (fail); refine wpQuiet_nil ?_
            refine Plan.left_q 26 (by rfl) (by kernel_rfl) ?_; go_big_quiet_step (fail); refine wpQuiet_nil ?_
            refine Plan.left_q 27 (by rfl) (by kernel_rfl) ?_; go_big_quiet_step (fail); refine wpQuiet_nil ?_
            refine Plan.left_q 28 (by rfl) (by kernel_rfl) ?_; go_big_quiet_step (fail); refine wpQuiet_nil ?_
            refine Plan.left_q 29 (by rfl) (by kernel_rfl) ?_; go_big_quiet_step (fail); refine wpQuiet_nil ?_
            refine Plan.left_q 30 (by rfl) (by kernel_rfl) ?_; go_big_quiet_step (fail); refine wpQuiet_nil ?_
            refine Plan.left_q 31 (by rfl) (by kernel_rfl) ?_; go_big_quiet_step (fail); refine wpQuiet_nil ?_
            refine Plan.left_q 32 (by rfl) (by kernel_rfl) ?_; go_big_quiet_step (fail); refine wpQuiet_nil ?_
            refine Plan.left_q 33 (by rfl) (by kernel_rfl) ?_; go_big_quiet_step (fail); refine wpQuiet_nil ?_
            refine Plan.left_q 34 (by rfl) (by kernel_rfl) ?_; go_big_quiet_step (fail); refine wpQuiet_nil ?_
            refine Plan.left_q 35 (by rfl) (by kernel_rfl) ?_; go_big_quiet_step (fail); refine wpQuiet_nil ?_
            refine Plan.left_q 36 (by rfl) (by kernel_rfl) ?_; go_big_quiet_step (fail); refine wpQuiet_nil ?_
            refine Plan.left_q 37 (by rfl) (by kernel_rfl) ?_; go_big_quiet_step (fail); refine wpQuiet_nil ?_
            refine Plan.left_q 38 (by rfl) (by kernel_rfl) ?_; go_big_quiet_step (fail); refine wpQuiet_nil ?_
            refine Plan.left_q 39 (by rfl) (by kernel_rfl) ?_; go_big_quiet_step (fail); refine wpQuiet_nil ?_
            refine Plan.left_q 40 (by rfl) (by kernel_rfl) ?_; go_big_quiet_step (fail); refine wpQuiet_nil ?_
            refine Plan.left_q 41 (by rfl) (by kernel_rfl) ?_; go_big_quiet_step (fail); refine wpQuiet_nil ?_
            refine Plan.left_q 42 (by rfl) (by kernel_rfl) ?_; go_big_quiet_step (fail); refine wpQuiet_nil ?_
            refine Plan.left_q 43 (by rfl) (by kernel_rfl) ?_; go_big_quiet_step (fail); refine wpQuiet_nil ?_
            refine Plan.left_q 44 (by rfl) (by kernel_rfl) ?_; go_big_quiet_step (fail); refine wpQuiet_nil ?_
            refine Plan.left_q 46 (by rfl) (by kernel_rfl) ?_; go_big_quiet_step (fail); refine wpQuiet_nil ?_
            refine Plan.left_q 47 (by rfl) (by kernel_rfl) ?_; go_big_quiet_step (fail); refine wpQuiet_nil ?_
            refine Plan.left_q 48 (by rfl) (by kernel_rfl) ?_; go_big_quiet_step (fail); refine wpQuiet_nil ?_
            refine Plan.left_q 49 (by rfl) (by kernel_rfl) ?_; go_big_quiet_step (fail); refine wpQuiet_nil ?_
            refine Plan.left_one 45 (by kernel_rfl) (by rfl) (Plan.want rfl fun K hK => ?_)
            go_wp2_with (fail)
            refine (hlA9 _ (ExtM.refl _).drew).mono ?_
            rintro e w' ⟨rfl, rfl⟩
            go_wp2_with (fail)
            refine hK _ _ (ExtM.refl _) ?_
            clear hK K
            refine Plan.left_one 50 (by kernel_rfl) (by rfl) (Plan.want rfl fun K hK => ?_)
            go_wp2_with (fail)
            refine (hlB9 _ (ExtM.refl _).drew).mono ?_
            rintro e w' ⟨rfl, rfl⟩
            go_wp2_with (fail)
            refine hK _ _ (ExtM.refl _) ?_
            clear hK K
            refine Plan.left_q 51 (by rfl) (by kernel_rfl) ?_; go_big_quiet_step (fail); refine wpQuiet_nil ?_
            refine Plan.left_q 52 (by rfl) (by kernel_rfl) ?_; go_big_quiet_step (fail); refine wpQuiet_nil ?_
            refine Plan.left_done (by kernel_rfl) ?_
            have HE := Lib.hid (HFIN.out _ (ExtM.trans _ _ _ hx79 ((ExtM.refl w9).drew)))
            clear a0 a4 a5 b0 b4 b5 lA lB hlA9 hlB9 hx8 hx9 hx79
            go_wp2_with fail
            go_roundg (xs.length - (i + 1))
            case measure => omega
            case rel =>
              obtain ⟨r1, r2⟩ := HLL.out
              exact ⟨i + 1, _, _, sa2, sb2, by go_num, by omega, Nat.le_refl _, HE.out, r1, r2⟩
    · obtain rfl : i = xs.length := by omega
      have hz : decide (xs.length < xs.length) = false := by simp
      have hz2 : decide ((xs.length : Int) < xs.length) = false := by simp
      have hX := hT.ext
      go_wp2_with fail
      go_ret
      exact ⟨rfl, hX⟩
end Go.Proofs.YtmcgnnmffeojpaaGreatDoor
