/- The reference's Put and Move, Feed of no side. -/
import Derived.Test.YtggjceolhbdalaaGreatDoorJFeedL
import Derived.Test.YtggjceolhbdalaaGreatDoorJLaw
import Derived.Test.YtggjceolhbdalaaGreatDoorJRef
namespace Go.Proofs.YtggjceolhbdalaaGreatDoor
open Go.RowKit Go.Plan

section
variable {u : World} {J : Nat} {r0 r1 : Value} {lo hi md : Int} {st : RSt}
theorem jrput0_c (h : RIs u J r0 r1 lo hi md st) (k t q m : Int) (hc : 0 ≤ st.came ∧ st.came < 1000000) :
    Calls Tryz.prog 15 #[.pointer (some ⟨J, 0, none⟩), .int .i64 0, .agg #[.int .i64 k, .int .i64 t, .int .i64 q], .int .i64 m] u fun e u' => e = .returned (.int .i64 (addE (st.a.map RHd.hd) ⟨⟨k, t, q⟩, m⟩)) ∧ RUp u u' J (RFoot J r0 r1) lo hi md (rputJ 0 ⟨⟨k, t, q⟩, m⟩ st) :=
  (rput_c J 0 r0 st.a st.came ⟨⟨k, t, q⟩, m⟩ u h.j0 hc).mono fun e u' hh => ⟨hh.1, h.up0 hh.2⟩
theorem jrput1_c (h : RIs u J r0 r1 lo hi md st) (k t q m : Int) (hc : 0 ≤ st.came ∧ st.came < 1000000) :
    Calls Tryz.prog 15 #[.pointer (some ⟨J, 0, none⟩), .int .i64 1, .agg #[.int .i64 k, .int .i64 t, .int .i64 q], .int .i64 m] u fun e u' => e = .returned (.int .i64 (addE (st.b.map RHd.hd) ⟨⟨k, t, q⟩, m⟩)) ∧ RUp u u' J (RFoot J r0 r1) lo hi md (rputJ 1 ⟨⟨k, t, q⟩, m⟩ st) :=
  (rput_c J 1 r1 st.b st.came ⟨⟨k, t, q⟩, m⟩ u h.j1 hc).mono fun e u' hh => ⟨hh.1, h.up1 hh.2⟩
theorem rputN_c (J : Nat) (s k t q m : Int) (u : World) (hs : s ≠ 0 ∧ s ≠ 1) :
    Calls Tryz.prog 15 #[.pointer (some ⟨J, 0, none⟩), .int .i64 s, .agg #[.int .i64 k, .int .i64 t, .int .i64 q], .int .i64 m] u fun e u' => e = .returned (.int .i64 1) ∧ Ext u u' := by
  have hin : decide ((0 : Int) ≤ s ∧ s ≤ 1) = false := by simp; omega
  clear hs
  go_enter Tryz.func15, Tryz.ntmps15
  go_wp2_with (go_at_call 24; refine (rin_c _ _ _ _).mono ?_; rintro e w1 ⟨rfl, rfl⟩; rw [hin])
  go_ret
  exact ⟨rfl, (ExtM.refl _).alloc _⟩
set_option maxRecDepth 100000 in
theorem rfeedN_c (J : Nat) (s k t q : Int) (u : World) (hs : s ≠ 0 ∧ s ≠ 1) :
    Calls Tryz.prog 9 #[.pointer (some ⟨J, 0, none⟩), .int .i64 s, .agg #[.int .i64 k, .int .i64 t, .int .i64 q]] u fun e u' => e = .returned (.tuple #[.slice none 0 0, .int .i64 1]) ∧ Ext u u' := by
  have hin : decide ((0 : Int) ≤ s ∧ s ≤ 1) = false := by simp; omega
  clear hs
  go_enter Tryz.func9, Tryz.ntmps9
  go_wp2_with (go_at_call 24; refine (rin_c _ _ _ _).mono ?_; rintro e w1 ⟨rfl, rfl⟩; rw [hin])
  go_ret2
  exact ⟨rfl, (ExtM.refl _).alloc _⟩
end

theorem RIs.mark {u : World} {J : Nat} {r0 r1 : Value} {lo hi md : Int} {st : RSt} (h : RIs u J r0 r1 lo hi md st) (s : Nat) (hs : s < 2) (t : Int) :
    RIs (u.setCell ⟨J, 5 + s, none⟩ (.int .i64 t)) J r0 r1 lo hi md (if s = 0 then { st with x := t } else { st with y := t }) ∧ ExtM (fun k => k = J) u (u.setCell ⟨J, 5 + s, none⟩ (.int .i64 t)) := by
  have hx : ExtM (fun k => k = J) u (u.setCell ⟨J, 5 + s, none⟩ (.int .i64 t)) := ExtM.setCell (M := fun k => k = J) (ExtM.refl u) (p := ⟨J, 5 + s, none⟩) (.inr rfl) _
  have hc : ∀ o, o ≠ 5 + s → (u.setCell ⟨J, 5 + s, none⟩ (.int .i64 t)).cell? ⟨J, o, none⟩ = u.cell? ⟨J, o, none⟩ := fun o ho => World.cell?_setCell_other _ _ _ _ (by intro e; simp only [Addr.mk.injEq, and_true, true_and] at e; omega)
  have hf : ∀ o, (u.setCell ⟨J, 5 + s, none⟩ (.int .i64 t)).frozen? ⟨J, o, none⟩ = false := fun o => (World.frozen?_setCell _ _ _ _).trans (h.fz o)
  refine ⟨?_, hx⟩
  have hs' : s = 0 ∨ s = 1 := by omega
  rcases hs' with rfl | rfl
  · exact ⟨(hc 0 (by decide)).trans h.c0, (hc 1 (by decide)).trans h.c1, (hc 2 (by decide)).trans h.c2, h.j0.other hx (hc 3 (by decide)) ((hc 8 (by decide)).trans h.j0.c8) hf, h.j1.other hx (hc 4 (by decide)) ((hc 8 (by decide)).trans h.j0.c8) hf, World.cell?_setCell_same _ _ _ h.c5, (hc 6 (by decide)).trans h.c6, (hc 7 (by decide)).trans h.c7, h.sep⟩
  · exact ⟨(hc 0 (by decide)).trans h.c0, (hc 1 (by decide)).trans h.c1, (hc 2 (by decide)).trans h.c2, h.j0.other hx (hc 3 (by decide)) ((hc 8 (by decide)).trans h.j0.c8) hf, h.j1.other hx (hc 4 (by decide)) ((hc 8 (by decide)).trans h.j0.c8) hf, (hc 5 (by decide)).trans h.c5, World.cell?_setCell_same _ _ _ h.c6, (hc 7 (by decide)).trans h.c7, h.sep⟩
/-- Other rows of a side. -/
theorem RIs.rows0 {u : World} {J b : Nat} {r0 r1 r' : Value} {lo hi md : Int} {st : RSt} {L' : List RHd} (h : RIs u J r0 r1 lo hi md st) (hrow : JRow u b r' L') (hJ : r'.ownBlock ≠ some J) (hs : ∀ k, r'.ownBlock = some k → r1.ownBlock ≠ some k) :
    RIs (u.setCell ⟨J, 3, none⟩ r') J r' r1 lo hi md { st with a := L' } ∧ ExtM (fun k => k = J) u (u.setCell ⟨J, 3, none⟩ r') := by
  have hx : ExtM (fun k => k = J) u (u.setCell ⟨J, 3, none⟩ r') := ExtM.setCell (M := fun k => k = J) (ExtM.refl u) (p := ⟨J, 3, none⟩) (.inr rfl) _
  have hc : ∀ o, o ≠ 3 → (u.setCell ⟨J, 3, none⟩ r').cell? ⟨J, o, none⟩ = u.cell? ⟨J, o, none⟩ := fun o ho => World.cell?_setCell_other _ _ _ _ (by intro e; simp only [Addr.mk.injEq, and_true, true_and] at e; omega)
  have hf : ∀ o, (u.setCell ⟨J, 3, none⟩ r').frozen? ⟨J, o, none⟩ = false := fun o => (World.frozen?_setCell _ _ _ _).trans (h.fz o)
  exact ⟨⟨(hc 0 (by decide)).trans h.c0, (hc 1 (by decide)).trans h.c1, (hc 2 (by decide)).trans h.c2, ⟨h.j0.hs, World.cell?_setCell_same _ _ _ h.j0.c3, (hc 8 (by decide)).trans h.j0.c8, hf, own_weaken (own_ext hrow hx (fun k hk e => hJ (e ▸ hk))) (Nat.zero_le _), hJ⟩, h.j1.other hx (hc 4 (by decide)) ((hc 8 (by decide)).trans h.j0.c8) hf, (hc 5 (by decide)).trans h.c5, (hc 6 (by decide)).trans h.c6, (hc 7 (by decide)).trans h.c7, hs⟩, hx⟩
theorem RIs.rows1 {u : World} {J b : Nat} {r0 r1 r' : Value} {lo hi md : Int} {st : RSt} {L' : List RHd} (h : RIs u J r0 r1 lo hi md st) (hrow : JRow u b r' L') (hJ : r'.ownBlock ≠ some J) (hs : ∀ k, r'.ownBlock = some k → r0.ownBlock ≠ some k) :
    RIs (u.setCell ⟨J, 4, none⟩ r') J r0 r' lo hi md { st with b := L' } ∧ ExtM (fun k => k = J) u (u.setCell ⟨J, 4, none⟩ r') := by
  have hx : ExtM (fun k => k = J) u (u.setCell ⟨J, 4, none⟩ r') := ExtM.setCell (M := fun k => k = J) (ExtM.refl u) (p := ⟨J, 4, none⟩) (.inr rfl) _
  have hc : ∀ o, o ≠ 4 → (u.setCell ⟨J, 4, none⟩ r').cell? ⟨J, o, none⟩ = u.cell? ⟨J, o, none⟩ := fun o ho => World.cell?_setCell_other _ _ _ _ (by intro e; simp only [Addr.mk.injEq, and_true, true_and] at e; omega)
  have hf : ∀ o, (u.setCell ⟨J, 4, none⟩ r').frozen? ⟨J, o, none⟩ = false := fun o => (World.frozen?_setCell _ _ _ _).trans (h.fz o)
  exact ⟨⟨(hc 0 (by decide)).trans h.c0, (hc 1 (by decide)).trans h.c1, (hc 2 (by decide)).trans h.c2, h.j0.other hx (hc 3 (by decide)) ((hc 8 (by decide)).trans h.j0.c8) hf, ⟨h.j1.hs, World.cell?_setCell_same _ _ _ h.j1.c3, (hc 8 (by decide)).trans h.j0.c8, hf, own_weaken (own_ext hrow hx (fun k hk e => hJ (e ▸ hk))) (Nat.zero_le _), hJ⟩, (hc 5 (by decide)).trans h.c5, (hc 6 (by decide)).trans h.c6, (hc 7 (by decide)).trans h.c7, fun k hk e => hs k e hk⟩, hx⟩

theorem rin_T (a b c : Int) (w : World) (h : a ≤ b ∧ b ≤ c) : Calls Tryz.prog 24 #[.int .i64 b, .int .i64 a, .int .i64 c] w fun e w' => e = .returned (.bool true) ∧ w = w' :=
  (rin_c _ _ _ _).mono fun e w' hh => ⟨by rw [hh.1]; simp [h], hh.2⟩
theorem rin_F (a b c : Int) (w : World) (h : ¬ (a ≤ b ∧ b ≤ c)) : Calls Tryz.prog 24 #[.int .i64 b, .int .i64 a, .int .i64 c] w fun e w' => e = .returned (.bool false) ∧ w = w' :=
  (rin_c _ _ _ _).mono fun e w' hh => ⟨by rw [hh.1]; simp [h], hh.2⟩
set_option maxRecDepth 100000 in
theorem rmoveArg_c (J : Nat) (s t : Int) (u : World) (hs : s ≠ 0 ∧ s ≠ 1) :
    Calls Tryz.prog 13 #[.pointer (some ⟨J, 0, none⟩), .int .i64 s, .int .i64 t] u fun e u' => e = .returned (.int .i64 1) ∧ Ext u u' := by
  go_enter Tryz.func13, Tryz.ntmps13
  go_wp2_with (go_at_call 24; refine (rin_F _ _ _ _ (by omega)).mono ?_; rintro e w1 ⟨rfl, rfl⟩)
  go_ret
  exact ⟨rfl, ExtM.refl _⟩

theorem _root_.Go.Plan.ExtM.trans' {a b c : World} (h : Ext a b) (k : Ext b c) : Ext a c := ExtM.trans _ _ _ h k
/-- Times as rows have them. -/
def TimesOk (L : List RHd) : Prop := ∀ x ∈ L, -1099511627776 ≤ x.r.t ∧ x.r.t ≤ 1099511627776
theorem box5 {wr w3 : World} {X : RHd} (hx3 : Ext (wr.alloc (.cells #[.int .i64 X.r.k, .int .i64 X.r.t, .int .i64 X.r.v, .int .i64 X.m, .int .i64 X.c] 81)) w3) (q : Nat) (u : Value) (h : X.cells[q]? = some u) : w3.cell? ⟨wr.heap.size, q, none⟩ = some u :=
  (hx3.cell (p := ⟨wr.heap.size, q, none⟩) (by simp) (fun h => h)).trans (newA wr X q u h)
set_option maxRecDepth 100000 in
set_option maxHeartbeats 4000000 in
theorem rmove0_c (u : World) (J : Nat) (r0 r1 : Value) (lo hi md : Int) (st : RSt) (h : RIs u J r0 r1 lo hi md st) (hp : PlanOk lo hi) (t : Int) (hl : st.b.length < 100000) (ht : TimesOk st.b) :
    Calls Tryz.prog 13 #[.pointer (some ⟨J, 0, none⟩), .int .i64 0, .int .i64 t] u fun e u' => e = .returned (.int .i64 (moveI 0 t st.x st.y)) ∧ RUp u u' J (RFoot J r0 r1) lo hi md (if moveI 0 t st.x st.y = 0 then rmoveJ lo hi 0 t st else st) := by
  have hmv : moveI 0 t st.x st.y = if t < -1099511627776 ∨ 1099511627776 < t then 2 else if t < st.x then 10 else 0 := by unfold moveI; rw [if_neg (by decide)]; rfl
  have hsame : RUp u u J (RFoot J r0 r1) lo hi md st := RUp.same ⟨r0, r1, h, rfl⟩ (ExtM.refl _)
  have c5 := h.c5
  by_cases hr : -1099511627776 ≤ t ∧ t ≤ 1099511627776
  · have HR := Lib.hid hr
    rw [hmv, if_neg (by omega)]
    clear hmv
    by_cases hlt : t < st.x
    · have d : decide (t < st.x) = true := by simp [hlt]
      rw [if_pos hlt, if_neg (by decide)]
      clear hr hlt
      go_enter Tryz.func13, Tryz.ntmps13
      go_upto_region 3 with (go_at_call 24; refine (rin_T _ _ _ _ (by decide)).mono ?_; rintro e w1 ⟨rfl, rfl⟩)
      go_wp2_with (go_at_call 24; refine (rin_T _ _ _ _ HR.out).mono ?_; rintro e w1 ⟨rfl, rfl⟩)
      go_ret
      exact ⟨rfl, hsame⟩
    · have d : decide (t < st.x) = false := by simp; omega
      rw [if_neg hlt, if_pos rfl]
      obtain ⟨h1, hx1⟩ := h.mark 0 (by omega) t
      have f5 := h.fz 5
      have HH := Lib.hid h
      clear hr hlt hsame h
      go_enter Tryz.func13, Tryz.ntmps13
      go_upto_region 3 with (go_at_call 24; refine (rin_T _ _ _ _ (by decide)).mono ?_; rintro e w1 ⟨rfl, rfl⟩)
      go_upto_region 8 with (go_at_call 24; refine (rin_T _ _ _ _ HR.out).mono ?_; rintro e w1 ⟨rfl, rfl⟩)
      simp only [if_true, Nat.reduceAdd] at h1 hx1
      have hxsz : u.heap.size = (u.setCell ⟨J, 5, none⟩ (.int .i64 t)).heap.size := by simp
      generalize u.setCell ⟨J, 5, none⟩ (.int .i64 t) = W at *
      have hrow := h1.j1.row
      have crow := h1.j1.c3
      have c0 := h1.c0
      have c1 := h1.c1
      have lJ := h1.lt
      simp only [Nat.reduceAdd] at crow hrow
      obtain ⟨p0, cap0, hr1, -⟩ := own_slice hrow
      rw [hr1] at crow hrow
      generalize hL : st.b = L at *
      have HL := Lib.hid hL
      clear hL
      go_wp2_with fail
      go_loopg [8, 42] (L.length + 1) (fun kx s8 s42 wr => ∃ i : Nat, s42 = .int .i64 i ∧ i ≤ L.length ∧ L.length - i ≤ kx ∧ Ext W wr ∧ JRow wr W.heap.size s8 ((L.take i).filter (fun x => decide (tilI lo hi 1 x.r.t > t))))
      case atStart => exact ⟨0, rfl, by omega, by omega, ExtM.refl _, ⟨rfl, .inl ⟨rfl, rfl⟩⟩⟩
      case round =>
        obtain ⟨i, rfl, hi', hgk, hx, hout⟩ := hrel
        by_cases hil : i < L.length
        · obtain ⟨g, rc, e', hg, x0, x1, x2, x3, x4⟩ := rrow_cells (hrow.extF hx) i hil
          simp only [Value.slice.injEq, true_and] at e'
          obtain ⟨rfl, rfl⟩ := e'
          have hXt := ht L[i]! (by rw [getElem!_pos L i hil]; exact List.getElem_mem hil)
          have htk : L.take (i + 1) = L.take i ++ [L[i]!] := by rw [List.take_succ_eq_append_getElem hil, getElem!_pos L i hil]
          have HTK := Lib.hid htk
          clear htk
          have hlk : ((L.take i).filter (fun x => decide (tilI lo hi 1 x.r.t > t))).length < 1000000 := Nat.lt_of_le_of_lt (List.length_filter_le _ _) (by simp; omega)
          generalize L[i]! = X at *
          have c0' := (hx.cell (p := ⟨J, 0, none⟩) lJ (fun h => h)).trans c0
          have c1' := (hx.cell (p := ⟨J, 1, none⟩) lJ (fun h => h)).trans c1
          have lJ' : J < wr.heap.size := Nat.lt_of_lt_of_le lJ hx.size
          by_cases hk : tilI lo hi 1 X.r.t > t
          · have dk : decide (t < tilI lo hi 1 X.r.t) = true := by simp; omega
            have HK : Hid (decide (tilI lo hi 1 X.r.t > t) = true) := Lib.hid dk
            clear hk
            go_wp2_with (first
              | (go_at_call 27
                 refine (may_c J lo hi _ 1 _ (by omega) hp hXt (by go_simp) (by go_simp)).mono ?_
                 rintro e w3 ⟨rfl, hx3⟩
                 have y0 := box5 hx3 0 _ rfl
                 have y1 := box5 hx3 1 _ rfl
                 have y2 := box5 hx3 2 _ rfl
                 have y3 := box5 hx3 3 _ rfl
                 have y4 := box5 hx3 4 _ rfl
                 have hx3w : Ext W w3 := ExtM.trans _ _ _ (hx.alloc _) hx3
                 obtain ⟨v', w', happ, hown', hgr', -⟩ := run_appendR (w3.alloc (.cells #[.int .i64 X.r.k, .int .i64 X.r.t, .int .i64 X.r.v, .int .i64 X.m, .int .i64 X.c] 81)) W.heap.size w3.heap.size 1 u8 _ X 51 (hout.extF (((ExtM.refl wr).alloc _).trans' (hx3.alloc _))) (newA w3 X) hlk (by have := hx3w.size; simp; omega)
                 have hx' : Ext W w' := (hx3w.alloc (.cells #[.int .i64 X.r.k, .int .i64 X.r.t, .int .i64 X.r.v, .int .i64 X.m, .int .i64 X.c] 81)).fresh hgr' (fun k hk e => by have := (own_lt hout k e).1; omega)
                 have HX := Lib.hid hx'
                 have HOW := Lib.hid hown'
                 clear hx' hown' hgr')
              | (at_builtin; refine wpList_append_run happ rfl rfl _ _ rfl rfl rfl ?_; clear happ))
            go_roundg (L.length - (i + 1))
            case measure => omega
            case rel => exact ⟨i + 1, by go_num, by omega, Nat.le_refl _, HX.out, by rw [HTK.out, List.filter_append, List.filter_cons, HK.out, if_pos rfl, List.filter_nil]; exact HOW.out⟩
          · have dk : decide (t < tilI lo hi 1 X.r.t) = false := by simp; omega
            have HK : Hid (decide (tilI lo hi 1 X.r.t > t) = false) := Lib.hid dk
            clear hk
            go_wp2_with (
              go_at_call 27
              refine (may_c J lo hi _ 1 _ (by omega) hp hXt (by go_simp) (by go_simp)).mono ?_
              rintro e w3 ⟨rfl, hx3⟩
              have hx3w : Ext W w3 := ExtM.trans _ _ _ (hx.alloc _) hx3)
            go_roundg (L.length - (i + 1))
            case measure => omega
            case rel => exact ⟨i + 1, by go_num, by omega, Nat.le_refl _, hx3w, by rw [HTK.out, List.filter_append, List.filter_cons, HK.out, if_neg (by decide), List.filter_nil, List.append_nil]; exact hout.extF (((ExtM.refl wr).alloc _).trans' hx3)⟩
        · obtain rfl : i = L.length := by omega
          rw [List.take_length] at hout
          have h2 := h1.ext hx
          have lJ' : J < wr.heap.size := h2.lt
          have cw := h2.j1.c3
          have fw := h2.fz (1 + 3)
          simp only [Nat.reduceAdd] at cw fw
          have hge : ∀ k, u8.ownBlock = some k → W.heap.size ≤ k := fun k hk => (own_lt hout k hk).1
          obtain ⟨pu, cu, rfl⟩ := hout.slice
          have hlen := L.length_filter_le (fun x => decide (tilI lo hi 1 x.r.t > t))
          have HLe := Lib.hid hlen
          have hsJ := h2.foot J (.inl rfl)
          obtain ⟨h3, hx2⟩ := h2.rows1 hout (fun e => by have := hge _ e; omega) (fun k e1 e2 => by have := hge _ e1; have := HH.out.foot k (.inr (.inl e2)); omega)
          clear hrow crow hil hi' hgk hlen hout h2
          generalize (L.filter (fun x => decide (tilI lo hi 1 x.r.t > t))).length = n at *
          go_wp2_with fail
          go_ret
          have hL' := HL.out
          subst hL'
          refine ⟨rfl, ((hx1.fresh' hx (fun _ _ h => h.elim)).fresh' hx2 (fun _ _ h => h)).mono (fun k _ hk => .inl hk), _, ⟨_, _, h3, rfl⟩, fun k hk => ?_⟩
          rcases hk with hk | hk | hk
          · exact .inl (.inl hk)
          · exact .inl (.inr (.inl hk))
          · exact .inr (Nat.le_trans (Nat.le_of_eq hxsz) (hge k hk))
  · rw [hmv, if_pos (by omega), if_neg (by decide)]
    have HR := Lib.hid hr
    clear hr hmv
    go_enter Tryz.func13, Tryz.ntmps13
    go_upto_region 3 with (go_at_call 24; refine (rin_T _ _ _ _ (by decide)).mono ?_; rintro e w1 ⟨rfl, rfl⟩)
    go_wp2_with (go_at_call 24; refine (rin_F _ _ _ _ HR.out).mono ?_; rintro e w1 ⟨rfl, rfl⟩)
    go_ret
    exact ⟨rfl, hsame⟩
set_option maxRecDepth 100000 in
set_option maxHeartbeats 4000000 in
theorem rmove1_c (u : World) (J : Nat) (r0 r1 : Value) (lo hi md : Int) (st : RSt) (h : RIs u J r0 r1 lo hi md st) (hp : PlanOk lo hi) (t : Int) (hl : st.a.length < 100000) (ht : TimesOk st.a) :
    Calls Tryz.prog 13 #[.pointer (some ⟨J, 0, none⟩), .int .i64 1, .int .i64 t] u fun e u' => e = .returned (.int .i64 (moveI 1 t st.x st.y)) ∧ RUp u u' J (RFoot J r0 r1) lo hi md (if moveI 1 t st.x st.y = 0 then rmoveJ lo hi 1 t st else st) := by
  have hmv : moveI 1 t st.x st.y = if t < -1099511627776 ∨ 1099511627776 < t then 2 else if t < st.y then 10 else 0 := by unfold moveI; rw [if_neg (by decide)]; rfl
  have hsame : RUp u u J (RFoot J r0 r1) lo hi md st := RUp.same ⟨r0, r1, h, rfl⟩ (ExtM.refl _)
  have c6 := h.c6
  by_cases hr : -1099511627776 ≤ t ∧ t ≤ 1099511627776
  · have HR := Lib.hid hr
    rw [hmv, if_neg (by omega)]
    clear hmv
    by_cases hlt : t < st.y
    · have d : decide (t < st.y) = true := by simp [hlt]
      rw [if_pos hlt, if_neg (by decide)]
      clear hr hlt
      go_enter Tryz.func13, Tryz.ntmps13
      go_upto_region 3 with (go_at_call 24; refine (rin_T _ _ _ _ (by decide)).mono ?_; rintro e w1 ⟨rfl, rfl⟩)
      go_wp2_with (go_at_call 24; refine (rin_T _ _ _ _ HR.out).mono ?_; rintro e w1 ⟨rfl, rfl⟩)
      go_ret
      exact ⟨rfl, hsame⟩
    · have d : decide (t < st.y) = false := by simp; omega
      rw [if_neg hlt, if_pos rfl]
      obtain ⟨h1, hx1⟩ := h.mark 1 (by omega) t
      have f6 := h.fz 6
      have HH := Lib.hid h
      clear hr hlt hsame h
      go_enter Tryz.func13, Tryz.ntmps13
      go_upto_region 3 with (go_at_call 24; refine (rin_T _ _ _ _ (by decide)).mono ?_; rintro e w1 ⟨rfl, rfl⟩)
      go_upto_region 8 with (go_at_call 24; refine (rin_T _ _ _ _ HR.out).mono ?_; rintro e w1 ⟨rfl, rfl⟩)
      simp only [if_neg (show ¬ (1 : Nat) = 0 by decide), Nat.reduceAdd] at h1 hx1
      have hxsz : u.heap.size = (u.setCell ⟨J, 6, none⟩ (.int .i64 t)).heap.size := by simp
      generalize u.setCell ⟨J, 6, none⟩ (.int .i64 t) = W at *
      have hrow := h1.j0.row
      have crow := h1.j0.c3
      have c0 := h1.c0
      have c1 := h1.c1
      have lJ := h1.lt
      simp only [Nat.reduceAdd] at crow hrow
      obtain ⟨p0, cap0, hr0, -⟩ := own_slice hrow
      rw [hr0] at crow hrow
      generalize hL : st.a = L at *
      have HL := Lib.hid hL
      clear hL
      go_wp2_with fail
      go_loopg [8, 42] (L.length + 1) (fun kx s8 s42 wr => ∃ i : Nat, s42 = .int .i64 i ∧ i ≤ L.length ∧ L.length - i ≤ kx ∧ Ext W wr ∧ JRow wr W.heap.size s8 ((L.take i).filter (fun x => decide (tilI lo hi 0 x.r.t > t))))
      case atStart => exact ⟨0, rfl, by omega, by omega, ExtM.refl _, ⟨rfl, .inl ⟨rfl, rfl⟩⟩⟩
      case round =>
        obtain ⟨i, rfl, hi', hgk, hx, hout⟩ := hrel
        by_cases hil : i < L.length
        · obtain ⟨g, rc, e', hg, x0, x1, x2, x3, x4⟩ := rrow_cells (hrow.extF hx) i hil
          simp only [Value.slice.injEq, true_and] at e'
          obtain ⟨rfl, rfl⟩ := e'
          have hXt := ht L[i]! (by rw [getElem!_pos L i hil]; exact List.getElem_mem hil)
          have htk : L.take (i + 1) = L.take i ++ [L[i]!] := by rw [List.take_succ_eq_append_getElem hil, getElem!_pos L i hil]
          have HTK := Lib.hid htk
          clear htk
          have hlk : ((L.take i).filter (fun x => decide (tilI lo hi 0 x.r.t > t))).length < 1000000 := Nat.lt_of_le_of_lt (List.length_filter_le _ _) (by simp; omega)
          generalize L[i]! = X at *
          have c0' := (hx.cell (p := ⟨J, 0, none⟩) lJ (fun h => h)).trans c0
          have c1' := (hx.cell (p := ⟨J, 1, none⟩) lJ (fun h => h)).trans c1
          have lJ' : J < wr.heap.size := Nat.lt_of_lt_of_le lJ hx.size
          by_cases hk : tilI lo hi 0 X.r.t > t
          · have dk : decide (t < tilI lo hi 0 X.r.t) = true := by simp; omega
            have HK : Hid (decide (tilI lo hi 0 X.r.t > t) = true) := Lib.hid dk
            clear hk
            go_wp2_with (first
              | (go_at_call 27
                 refine (may_c J lo hi _ 0 _ (by omega) hp hXt (by go_simp) (by go_simp)).mono ?_
                 rintro e w3 ⟨rfl, hx3⟩
                 have y0 := box5 hx3 0 _ rfl
                 have y1 := box5 hx3 1 _ rfl
                 have y2 := box5 hx3 2 _ rfl
                 have y3 := box5 hx3 3 _ rfl
                 have y4 := box5 hx3 4 _ rfl
                 have hx3w : Ext W w3 := ExtM.trans _ _ _ (hx.alloc _) hx3
                 obtain ⟨v', w', happ, hown', hgr', -⟩ := run_appendR (w3.alloc (.cells #[.int .i64 X.r.k, .int .i64 X.r.t, .int .i64 X.r.v, .int .i64 X.m, .int .i64 X.c] 81)) W.heap.size w3.heap.size 1 u8 _ X 51 (hout.extF (((ExtM.refl wr).alloc _).trans' (hx3.alloc _))) (newA w3 X) hlk (by have := hx3w.size; simp; omega)
                 have hx' : Ext W w' := (hx3w.alloc (.cells #[.int .i64 X.r.k, .int .i64 X.r.t, .int .i64 X.r.v, .int .i64 X.m, .int .i64 X.c] 81)).fresh hgr' (fun k hk e => by have := (own_lt hout k e).1; omega)
                 have HX := Lib.hid hx'
                 have HOW := Lib.hid hown'
                 clear hx' hown' hgr')
              | (at_builtin; refine wpList_append_run happ rfl rfl _ _ rfl rfl rfl ?_; clear happ))
            go_roundg (L.length - (i + 1))
            case measure => omega
            case rel => exact ⟨i + 1, by go_num, by omega, Nat.le_refl _, HX.out, by rw [HTK.out, List.filter_append, List.filter_cons, HK.out, if_pos rfl, List.filter_nil]; exact HOW.out⟩
          · have dk : decide (t < tilI lo hi 0 X.r.t) = false := by simp; omega
            have HK : Hid (decide (tilI lo hi 0 X.r.t > t) = false) := Lib.hid dk
            clear hk
            go_wp2_with (
              go_at_call 27
              refine (may_c J lo hi _ 0 _ (by omega) hp hXt (by go_simp) (by go_simp)).mono ?_
              rintro e w3 ⟨rfl, hx3⟩
              have hx3w : Ext W w3 := ExtM.trans _ _ _ (hx.alloc _) hx3)
            go_roundg (L.length - (i + 1))
            case measure => omega
            case rel => exact ⟨i + 1, by go_num, by omega, Nat.le_refl _, hx3w, by rw [HTK.out, List.filter_append, List.filter_cons, HK.out, if_neg (by decide), List.filter_nil, List.append_nil]; exact hout.extF (((ExtM.refl wr).alloc _).trans' hx3)⟩
        · obtain rfl : i = L.length := by omega
          rw [List.take_length] at hout
          have h2 := h1.ext hx
          have lJ' : J < wr.heap.size := h2.lt
          have cw := h2.j0.c3
          have fw := h2.fz (0 + 3)
          simp only [Nat.reduceAdd] at cw fw
          have hge : ∀ k, u8.ownBlock = some k → W.heap.size ≤ k := fun k hk => (own_lt hout k hk).1
          obtain ⟨pu, cu, rfl⟩ := hout.slice
          have hlen := L.length_filter_le (fun x => decide (tilI lo hi 0 x.r.t > t))
          have HLe := Lib.hid hlen
          have hsJ := h2.foot J (.inl rfl)
          obtain ⟨h3, hx2⟩ := h2.rows0 hout (fun e => by have := hge _ e; omega) (fun k e1 e2 => by have := hge _ e1; have := HH.out.foot k (.inr (.inr e2)); omega)
          clear hrow crow hil hi' hgk hlen hout h2
          generalize (L.filter (fun x => decide (tilI lo hi 0 x.r.t > t))).length = n at *
          go_wp2_with fail
          go_ret
          have hL' := HL.out
          subst hL'
          refine ⟨rfl, ((hx1.fresh' hx (fun _ _ h => h.elim)).fresh' hx2 (fun _ _ h => h)).mono (fun k _ hk => .inl hk), _, ⟨_, _, h3, rfl⟩, fun k hk => ?_⟩
          rcases hk with hk | hk | hk
          · exact .inl (.inl hk)
          · exact .inr (Nat.le_trans (Nat.le_of_eq hxsz) (hge k hk))
          · exact .inl (.inr (.inr hk))
  · rw [hmv, if_pos (by omega), if_neg (by decide)]
    have HR := Lib.hid hr
    clear hr hmv
    go_enter Tryz.func13, Tryz.ntmps13
    go_upto_region 3 with (go_at_call 24; refine (rin_T _ _ _ _ (by decide)).mono ?_; rintro e w1 ⟨rfl, rfl⟩)
    go_wp2_with (go_at_call 24; refine (rin_F _ _ _ _ HR.out).mono ?_; rintro e w1 ⟨rfl, rfl⟩)
    go_ret
    exact ⟨rfl, hsame⟩
end Go.Proofs.YtggjceolhbdalaaGreatDoor
