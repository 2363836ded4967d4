/- JoinPlays: the walk. -/
import Derived.Test.YtggjceolhbdalaaGreatDoorJPc
import Derived.Test.YtggjceolhbdalaaGreatDoorSameC
import Derived.Test.YtggjceolhbdalaaGreatDoorHeldC
import Derived.Test.YtggjceolhbdalaaGreatDoorErrs2
import Derived.Test.YtggjceolhbdalaaGreatDoorSliceArgs
import Derived.Deep.DeepCutAuto
import Derived.Deep.CutBlock
namespace Go.Proofs.YtggjceolhbdalaaGreatDoor
open Go.RowKit Go.Plan

/-- bare, at an error and its number. -/
theorem bareE_c (n : Int) (w : World) (hg : Laid w) : Calls Tryz.prog 6 #[errV n, .int .i64 n] w fun e w' => e = .returned (.bool true) ∧ Ext w w' := by
  unfold errV
  split
  · rename_i h; subst h
    exact (lbare_nil 0 w).mono fun e w' hh => ⟨by simpa using hh.1, hh.2 ▸ ExtM.refl _⟩
  · exact (lbare_c n n w hg).mono fun e w' hh => ⟨by simpa using hh.1, hh.2⟩
theorem MRow.of {w w' : World} {b : Nat} {v : Value} {l : List Hd} (h : MRow w b v l) (hx : Ext w w') : MRow w' b v l := own_ext h hx (fun _ _ h => h)

/-- One of the law's steps. -/
structure StX where
  what : Int
  side : Int
  n : Int
  r : Row
structure ElemS (w : World) (b o : Nat) (d : StX) : Prop where
  c0 : w.cell? ⟨b, o, none⟩ = some (.int .i64 d.what)
  c1 : w.cell? ⟨b, o + 1, none⟩ = some (.int .i64 d.side)
  c2 : w.cell? ⟨b, o + 2, none⟩ = some (.int .i64 d.n)
  c3 : w.cell? ⟨b, o + 3, none⟩ = some (.int .i64 d.r.k)
  c4 : w.cell? ⟨b, o + 4, none⟩ = some (.int .i64 d.r.t)
  c5 : w.cell? ⟨b, o + 5, none⟩ = some (.int .i64 d.r.v)
theorem ElemS.lt {w : World} {b o : Nat} {d : StX} (h : ElemS w b o d) : b < w.heap.size := lt_of_cell h.c0
theorem ElemS.of {w w' : World} {b o : Nat} {d : StX} (h : ElemS w b o d) (hx : Ext w w') : ElemS w' b o d := by
  have k := fun q => hx.cell (p := ⟨b, q, none⟩) h.lt (fun h => h)
  exact ⟨(k _).trans h.c0, (k _).trans h.c1, (k _).trans h.c2, (k _).trans h.c3, (k _).trans h.c4, (k _).trans h.c5⟩
def StsIn (w : World) (a : Option Addr) (xs : List StX) : Prop := xs = [] ∨ ∃ b off, a = some ⟨b, off, none⟩ ∧ ∀ i (h : i < xs.length), ElemS w b (off + i * 6) xs[i]

/-- What holds between the law's rounds. -/
def JL (w u : World) (P M J : Nat) (lo hi md : Int) (n : Nat) : Prop := ∃ st rs Bs Cs, JX w u P M J lo hi md (fun _ => False) Bs Cs st rs ∧ Good2 st rs n
theorem JL.ext {w u : World} {P M J : Nat} {lo hi md : Int} {n : Nat} (h : JL w u P M J lo hi md n) : Ext w u := by
  obtain ⟨st, rs, Bs, Cs, h, -⟩ := h; exact h.ext
theorem feed_len (lo hi md s : Int) (r : Row) (st : JSt) (la : st.a.length ≤ 300) (lb : st.b.length ≤ 300) : (stepC lo hi md s r st).length ≤ 601 := by
  have hc : ∀ s' : Nat, (feedC lo hi md s' r st).length ≤ 601 := fun s' => by
    unfold feedC
    split
    · rw [chgs_eq, List.length_append]
      have h1 := flat_len2 md s' r ((st.of (1 - s')).filter (meetP r.k (frI lo hi s' r.t) (tilI lo hi s' r.t)))
      have h2 : ((st.of (1 - s')).filter (meetP r.k (frI lo hi s' r.t) (tilI lo hi s' r.t))).length ≤ 300 := Nat.le_trans (List.length_filter_le _ _) (by unfold JSt.of; split <;> assumption)
      have h3 : ∀ b : Bool, (if b = true then [(loneS s' r, false)] else [] : List (Out × Bool)).length ≤ 1 := fun b => by cases b <;> simp
      have := h3 (decide (((st.of (1 - s')).filter (meetP r.k (frI lo hi s' r.t) (tilI lo hi s' r.t))).length = 0) && tellsB md s')
      omega
    · simp
  unfold stepC
  split
  · exact hc 0
  · split
    · exact hc 1
    · simp

set_option maxRecDepth 100000 in
set_option maxHeartbeats 8000000 in
theorem joinPlays_w (lo hi md : Int) (a : Option Addr) (cap : Nat) (xs : List StX) (late : Int) (w : World) (hg : Laid w) (hin : StsIn w a xs) :
    Calls Tryz.prog 3 #[.agg #[.int .i64 lo, .int .i64 hi, .int .i64 md], .slice a xs.length cap, .int .i64 late] w fun e w' => e = .returned (.bool true) ∧ Ext w w' := by
  have hx0 : Ext w (w.alloc (.cells #[.int .i64 lo, .int .i64 hi, .int .i64 md] 23)) := (ExtM.refl w).alloc _
  by_cases h100 : 100 < xs.length
  · have d : decide (100 < (xs.length : Int)) = true := by simp; omega
    go_enter Tryz.func3, Tryz.ntmps3
    go_wp2_with fail
    go_ret
    exact ⟨rfl, hx0⟩
  have d : decide (100 < (xs.length : Int)) = false := by simp; omega
  have b0 : (w.alloc (.cells #[.int .i64 lo, .int .i64 hi, .int .i64 md] 23)).cell? ⟨w.heap.size, 0, none⟩ = some (.int .i64 lo) := by go_simp
  have b1 : (w.alloc (.cells #[.int .i64 lo, .int .i64 hi, .int .i64 md] 23)).cell? ⟨w.heap.size, 1, none⟩ = some (.int .i64 hi) := by go_simp
  have b2 : (w.alloc (.cells #[.int .i64 lo, .int .i64 hi, .int .i64 md] 23)).cell? ⟨w.heap.size, 2, none⟩ = some (.int .i64 md) := by go_simp
  have lB : w.heap.size < (w.alloc (.cells #[.int .i64 lo, .int .i64 hi, .int .i64 md] 23)).heap.size := by simp
  by_cases hc : checkI lo hi md = 0
  · have hck := fun u => check_c lo hi md u
    have hrk := fun u => rcheck_c lo hi md u
    have hnw := fun u => jnew_c lo hi md u hc
    rw [hc] at hrk hck
    rw [errV, if_pos rfl] at hck
    have hp := checkI_ok hc
    have HC := Lib.hid hc
    clear hc
    go_enter Tryz.func3, Tryz.ntmps3
    go_upto_region 10 with (first
      | (go_at_call 4
         refine (hnw _).mono ?_
         rintro e w1 ⟨P, M, rfl, hx1, hP, hM, hJ⟩
         have k := fun o => hx1.cell (p := ⟨w.heap.size, o, none⟩) lB (fun h => h)
         have c0 := (k _).trans b0
         have c1 := (k _).trans b1
         have c2 := (k _).trans b2
         have lB1 : w.heap.size < w1.heap.size := Nat.lt_of_lt_of_le lB hx1.size
         clear k b0 b1 b2)
      | (go_at_call 5
         refine (hrk _).mono ?_
         rintro e w2 ⟨rfl, hx2⟩
         have k := fun o => hx2.cell (p := ⟨w.heap.size, o, none⟩) lB1 (fun h => h)
         have e0 := (k _).trans c0
         have e1 := (k _).trans c1
         have e2 := (k _).trans c2
         have lB2 : w.heap.size < w2.heap.size := Nat.lt_of_lt_of_le lB1 hx2.size
         clear k c0 c1 c2)
      | (go_at_call 7
         refine (hck _).mono ?_
         rintro e w3 ⟨rfl, hx3⟩
         have k := fun o => hx3.cell (p := ⟨w.heap.size, o, none⟩) lB2 (fun h => h)
         have f0 := (k _).trans e0
         have f1 := (k _).trans e1
         have f2 := (k _).trans e2
         have lB3 : w.heap.size < w3.heap.size := Nat.lt_of_lt_of_le lB2 hx3.size
         clear k e0 e1 e2)
      | (go_at_call 8
         refine (newJoin_c _ _ _ _).mono ?_
         rintro e w4 ⟨rfl, hN⟩))
    have hxx : Ext w1 w4 := ExtM.trans _ _ _ (ExtM.trans _ _ _ hx2 hx3) hN.ext
    have hX : Ext w w4 := ExtM.trans _ _ _ (ExtM.trans _ _ _ hx0 hx1) hxx
    have hr0 : RIs w4 (w3.heap.size + 1) (.slice none 0 0) (.slice none 0 0) lo hi md ⟨[], [], -1099511627777, -1099511627777, 0, 0⟩ :=
      ⟨hN.c0, hN.c1, hN.c2, hN.rj 0 (by omega), hN.rj 1 (by omega), hN.c5, hN.c6, hN.c7, fun k hk => by cases hk⟩
    have hsz : w1.heap.size ≤ w3.heap.size := (ExtM.trans _ _ _ hx2 hx3).size
    have hsw : w.heap.size ≤ w1.heap.size := (ExtM.trans _ _ _ hx0 hx1).size
    have hsw0 : w.heap.size + 1 ≤ w1.heap.size := lB1
    have lP := hJ.lt
    have lM := hJ.mks.lt
    have hS0 : JL w w4 P M (w3.heap.size + 1) lo hi md 0 := by
      refine ⟨_, _, _, _, ⟨hX, ⟨_, _, hJ.ext hxx, rfl⟩, ⟨_, _, hr0, rfl⟩, fun k hk => ⟨?_, fun e => ?_, fun e => e⟩, fun k hk => ⟨?_, fun e => e⟩, fun b hb => hb.elim⟩, Good2.mk (RelJ.mk ⟨[], RelS.nil 0⟩ ⟨[], RelS.nil 0⟩ rfl rfl rfl) (Nat.zero_le _) (Nat.zero_le _) (fun x hx => nomatch hx) (fun x hx => nomatch hx) (Int.le_refl _) (Int.le_refl _)⟩
      · rcases hk with rfl | rfl | hk | hk
        · simp at hP; omega
        · simp at hM; omega
        · cases hk
        · cases hk
      · rcases e with rfl | e | e
        · rcases hk with hk | hk | hk | hk
          · omega
          · omega
          · cases hk
          · cases hk
        · cases e
        · cases e
      · rcases hk with rfl | e | e
        · omega
        · cases e
        · cases e
    clear hr0 hN hJ hP hM hxx hX hsz hsw hsw0 lP lM hx1 hx2 hx3 f0 f1 f2 lB lB1 lB2 lB3 hx0 hck hrk hnw
    generalize w3.heap.size + 1 = J at *
    go_wp2_with fail
    go_loopg [11] (xs.length + 1) (fun kx s11 wr => ∃ n : Nat, s11 = .int .i64 n ∧ n ≤ xs.length ∧ xs.length - n ≤ kx ∧ JL w wr P M J lo hi md n)
    case atStart => exact ⟨0, rfl, by omega, by omega, hS0⟩
    case round =>
      clear hS0
      obtain ⟨n, rfl, hn, hgk, hS⟩ := hrel
      by_cases hlt : n < xs.length
      · obtain ⟨b, off, rfl, hel⟩ : ∃ b off, a = some ⟨b, off, none⟩ ∧ ∀ i (h : i < xs.length), ElemS w b (off + i * 6) xs[i] := by
          rcases hin with h | h
          · subst h; simp at hlt
          · exact h
        have hx := hS.ext
        have lw := (hel n hlt).lt
        obtain ⟨c0, c1, c2, c3, c4, c5⟩ := (hel n hlt).of hx
        clear hel
        generalize xs[n] = dd at *
        obtain ⟨wh, sd, sn, ⟨rk, rt, rv⟩⟩ := dd
        simp only at c0 c1 c2 c3 c4 c5
        go_upto_block 2 with fail
        obtain ⟨st, rs, Bs, Cs, h0', hgd⟩ := hS
        have h8 : JX w (wr.alloc (.cells #[.int .i64 wh, .int .i64 sd, .int .i64 sn, .int .i64 rk, .int .i64 rt, .int .i64 rv] 39)) P M J lo hi md (fun k => k = wr.heap.size) Bs Cs st rs :=
          h0'.wide ((ExtM.refl _).alloc _) (fun b hb => .inr ⟨by omega, by simp; omega⟩)
        have hB : w.heap.size ≤ wr.heap.size := h0'.ext.size
        have b0 : (wr.alloc (.cells #[.int .i64 wh, .int .i64 sd, .int .i64 sn, .int .i64 rk, .int .i64 rt, .int .i64 rv] 39)).cell? ⟨wr.heap.size, 0, none⟩ = some (.int .i64 wh) := by go_simp
        have b1 : (wr.alloc (.cells #[.int .i64 wh, .int .i64 sd, .int .i64 sn, .int .i64 rk, .int .i64 rt, .int .i64 rv] 39)).cell? ⟨wr.heap.size, 1, none⟩ = some (.int .i64 sd) := by go_simp
        have b2 : (wr.alloc (.cells #[.int .i64 wh, .int .i64 sd, .int .i64 sn, .int .i64 rk, .int .i64 rt, .int .i64 rv] 39)).cell? ⟨wr.heap.size, 2, none⟩ = some (.int .i64 sn) := by go_simp
        have b3 : (wr.alloc (.cells #[.int .i64 wh, .int .i64 sd, .int .i64 sn, .int .i64 rk, .int .i64 rt, .int .i64 rv] 39)).cell? ⟨wr.heap.size, 3, none⟩ = some (.int .i64 rk) := by go_simp
        have b4 : (wr.alloc (.cells #[.int .i64 wh, .int .i64 sd, .int .i64 sn, .int .i64 rk, .int .i64 rt, .int .i64 rv] 39)).cell? ⟨wr.heap.size, 4, none⟩ = some (.int .i64 rt) := by go_simp
        have b5 : (wr.alloc (.cells #[.int .i64 wh, .int .i64 sd, .int .i64 sn, .int .i64 rk, .int .i64 rt, .int .i64 rv] 39)).cell? ⟨wr.heap.size, 5, none⟩ = some (.int .i64 rv) := by go_simp
        have lB : wr.heap.size < (wr.alloc (.cells #[.int .i64 wh, .int .i64 sd, .int .i64 sn, .int .i64 rk, .int .i64 rt, .int .i64 rv] 39)).heap.size := by simp
        generalize wr.alloc (.cells #[.int .i64 wh, .int .i64 sd, .int .i64 sn, .int .i64 rk, .int .i64 rt, .int .i64 rv] 39) = W8 at *
        clear h0' c0 c1 c2 c3 c4 c5 hx lw
        generalize wr.heap.size = B at *
        have hgr := hg.of h8.ext
        have hla := hgd.la
        have hlb := hgd.lb
        have hlaj : st.a.length ≤ 300 := by rw [hgd.a]; exact hla
        have hlbj : st.b.length ≤ 300 := by rw [hgd.b]; exact hlb
        go_cut [] (fun wx => JL w wx P M J lo hi md (n + 1))
        case first =>
          by_cases q0 : wh = 0
          · subst q0
            have HG := Lib.hid (hgd.feed lo hi sd ⟨rk, rt, rv⟩)
            have HL := Lib.hid (feed_len lo hi md sd ⟨rk, rt, rv⟩ st hlaj hlbj)
            -- DONE{
            go_wp2_with (first
              | (go_at_call 9
                 refine (jx_rfeed h8 hp hgd (by omega) sd rk rt rv).mono ?_
                 rintro e w1 ⟨vr, rfl, hr1, hx1, Cs', h9⟩
                 have k := fun o => hx1.cell (p := ⟨B, o, none⟩) lB (fun e => e rfl)
                 have e1 := (k _).trans b1
                 have e3 := (k _).trans b3
                 have e4 := (k _).trans b4
                 have e5 := (k _).trans b5
                 have lB1 : B < w1.heap.size := Nat.lt_of_lt_of_le lB hx1.size
                 clear k)
              | (go_at_call 10
                 refine (jx_feed h9 hp hlaj hlbj sd rk rt rv).mono ?_
                 rintro e w2 ⟨vj, rfl, hr2, hxB, hx2, Bs', h10⟩
                 have hr1' : CRow w2 W8.heap.size vr _ := own_ext hr1 hxB (fun k hk e => by have h1 := (own_lt hr1 k hk).1; have h2 := h8.j.lt k e; omega)
                 have hgr2 := hg.of h10.ext)
              | (go_at_call 6
                 refine (bareE_c _ _ hgr2).mono ?_
                 rintro e w3 ⟨rfl, hx3⟩)
              | (go_at_call 11
                 refine (sameChanges_c _ _ _ _ _ _ (hr2.of hx3) (hr1'.of hx3) (by have := HL.out; omega)).mono ?_
                 rintro e w4 ⟨rfl, hx4⟩))
            go_meet
            case rel => exact ⟨_, _, _, _, ((h10.of hx3).of hx4).narrow (fun b hb => hb.elim), HG.out⟩
            -- }DONE
          have d0 : (wh == 0) = false := by simp [q0]
          by_cases q1 : wh = 1
          · subst q1
            have HG := Lib.hid (hgd.move lo hi sd sn)
            have hta := hgd.ta
            have htb := hgd.tb
            have hmv : moveI sd sn rs.x rs.y = moveI sd sn st.x st.y := by rw [hgd.rel.x, hgd.rel.y]
            -- DONE{
            go_wp2_with fail
            refine Plan.begin (Plan.ExtK B) 14 rfl (by kernel_rfl) ?_
            refine Plan.left_q 0 (by rfl) (by kernel_rfl) ?_; go_big_quiet_step (fail); refine wpQuiet_nil ?_
            refine Plan.left_q 1 (by rfl) (by kernel_rfl) ?_; go_big_quiet_step (fail); refine wpQuiet_nil ?_
            refine Plan.left_q 2 (by rfl) (by kernel_rfl) ?_; go_big_quiet_step (fail); refine wpQuiet_nil ?_
            refine Plan.left_q 3 (by rfl) (by kernel_rfl) ?_; go_big_quiet_step (fail); refine wpQuiet_nil ?_
            refine Plan.left_q 4 (by rfl) (by kernel_rfl) ?_; go_big_quiet_step (fail); refine wpQuiet_nil ?_
            refine Plan.left_q 6 (by rfl) (by kernel_rfl) ?_; go_big_quiet_step (fail); refine wpQuiet_nil ?_
            refine Plan.left_q 7 (by rfl) (by kernel_rfl) ?_; go_big_quiet_step (fail); refine wpQuiet_nil ?_
            refine Plan.left_q 8 (by rfl) (by kernel_rfl) ?_; go_big_quiet_step (fail); refine wpQuiet_nil ?_
            refine Plan.left_q 9 (by rfl) (by kernel_rfl) ?_; go_big_quiet_step (fail); refine wpQuiet_nil ?_
            refine Plan.left_q 10 (by rfl) (by kernel_rfl) ?_; go_big_quiet_step (fail); refine wpQuiet_nil ?_
            refine Plan.left_one 5 (by kernel_rfl) (by rfl) (Plan.plain rfl fun K hK => ?_)
            go_wp2_with (fail)
            refine (jx_move (h8.of (ExtM.refl _).drew) hp hlaj hlbj sd sn).mono ?_
            rintro e w1 ⟨rfl, h1, Bs', k1⟩
            have H1 := ExtK.trans _ _ _ (ExtK.refl _).drew h1
            obtain ⟨hc1, hf1, -⟩ := ExtK.rules H1
            have hs1_0 : B < w1.heap.size := by have := H1.size; (try simp at this); omega
            go_wp2_with (fail)
            refine hK _ _ h1 ?_
            clear hK K
            refine Plan.left_one 11 (by kernel_rfl) (by rfl) (Plan.plain rfl fun K hK => ?_)
            go_wp2_with (fail)
            refine (jx_rmove k1 _ hp hla hlb hta htb sd sn hmv).mono ?_
            rintro e w2 ⟨rfl, h2, Cs', k2⟩
            clear hc1 hf1 hs1_0
            have H2 := ExtK.trans _ _ _ H1 h2
            obtain ⟨hc2, hf2, -⟩ := ExtK.rules H2
            have hs2_0 : B < w2.heap.size := by have := H2.size; (try simp at this); omega
            go_wp2_with (fail)
            refine hK _ _ h2 ?_
            clear hK K
            refine Plan.left_one 12 (by kernel_rfl) (by rfl) (Plan.plain rfl fun K hK => ?_)
            go_wp2_with (fail)
            refine (bareE_c _ _ (hg.of k2.ext)).mono ?_
            rintro e w3 ⟨rfl, h3⟩
            clear hc2 hf2 hs2_0
            have H3 := ExtK.trans _ _ _ H2 (ExtK.of_ext h3)
            obtain ⟨hc3, hf3, -⟩ := ExtK.rules H3
            have hs3_0 : B < w3.heap.size := by have := H3.size; (try simp at this); omega
            go_wp2_with (fail)
            refine hK _ _ (ExtK.of_ext h3) ?_
            clear hK K
            refine Plan.left_q 13 (by rfl) (by kernel_rfl) ?_; go_big_quiet_step (fail); refine wpQuiet_nil ?_
            refine Plan.left_done (by kernel_rfl) ?_
            go_wp2_with fail
            go_meet
            case rel => exact ⟨_, _, _, _, (k2.of h3).narrow (fun b hb => hb.elim), HG.out⟩
            -- }DONE
          have d1 : (wh == 1) = false := by simp [q1]
          by_cases q2 : wh = 2
          · subst q2
            have HG := Lib.hid (hgd.put sd ⟨⟨rk, rt, rv⟩, sn⟩)
            have hc0 := hgd.c0
            have hc1 := hgd.c1
            have hpe : (if sd = 0 then addE (rs.a.map RHd.hd) ⟨⟨rk, rt, rv⟩, sn⟩ else if sd = 1 then addE (rs.b.map RHd.hd) ⟨⟨rk, rt, rv⟩, sn⟩ else 1) = putE sd ⟨⟨rk, rt, rv⟩, sn⟩ st := by
              unfold putE addE; rw [List.length_map, List.length_map, hgd.a, hgd.b]
            have HPE := Lib.hid hpe
            clear hpe
            -- DONE{
            go_wp2_with fail
            refine Plan.begin (Plan.ExtK B) 18 rfl (by kernel_rfl) ?_
            refine Plan.left_q 0 (by rfl) (by kernel_rfl) ?_; go_big_quiet_step (fail); refine wpQuiet_nil ?_
            refine Plan.left_q 1 (by rfl) (by kernel_rfl) ?_; go_big_quiet_step (fail); refine wpQuiet_nil ?_
            refine Plan.left_q 2 (by rfl) (by kernel_rfl) ?_; go_big_quiet_step (fail); refine wpQuiet_nil ?_
            refine Plan.left_q 3 (by rfl) (by kernel_rfl) ?_; go_big_quiet_step (fail); refine wpQuiet_nil ?_
            refine Plan.left_q 4 (by rfl) (by kernel_rfl) ?_; go_big_quiet_step (fail); refine wpQuiet_nil ?_
            refine Plan.left_q 5 (by rfl) (by kernel_rfl) ?_; go_big_quiet_step (fail); refine wpQuiet_nil ?_
            refine Plan.left_q 6 (by rfl) (by kernel_rfl) ?_; go_big_quiet_step (fail); refine wpQuiet_nil ?_
            refine Plan.left_q 8 (by rfl) (by kernel_rfl) ?_; go_big_quiet_step (fail); refine wpQuiet_nil ?_
            refine Plan.left_q 9 (by rfl) (by kernel_rfl) ?_; go_big_quiet_step (fail); refine wpQuiet_nil ?_
            refine Plan.left_q 10 (by rfl) (by kernel_rfl) ?_; go_big_quiet_step (fail); refine wpQuiet_nil ?_
            refine Plan.left_q 11 (by rfl) (by kernel_rfl) ?_; go_big_quiet_step (fail); refine wpQuiet_nil ?_
            refine Plan.left_q 12 (by rfl) (by kernel_rfl) ?_; go_big_quiet_step (fail); refine wpQuiet_nil ?_
            refine Plan.left_q 13 (by rfl) (by kernel_rfl) ?_; go_big_quiet_step (fail); refine wpQuiet_nil ?_
            refine Plan.left_q 14 (by rfl) (by kernel_rfl) ?_; go_big_quiet_step (fail); refine wpQuiet_nil ?_
            refine Plan.left_one 7 (by kernel_rfl) (by rfl) (Plan.plain rfl fun K hK => ?_)
            go_wp2_with (fail)
            refine (jx_put (h8.of (ExtM.refl _).drew) sd rk rt rv sn).mono ?_
            rintro e w1 ⟨rfl, h1, Bs', k1⟩
            have H1 := ExtK.trans _ _ _ (ExtK.refl _).drew h1
            obtain ⟨hc1, hf1, -⟩ := ExtK.rules H1
            have hs1_0 : B < w1.heap.size := by have := H1.size; (try simp at this); omega
            go_wp2_with (fail)
            refine hK _ _ h1 ?_
            clear hK K
            refine Plan.left_one 15 (by kernel_rfl) (by rfl) (Plan.plain rfl fun K hK => ?_)
            go_wp2_with (fail)
            refine (jx_rput k1 _ sd rk rt rv sn ⟨hc0, by omega⟩ HPE.out).mono ?_
            rintro e w2 ⟨rfl, h2, Cs', k2⟩
            clear hc1 hf1 hs1_0
            have H2 := ExtK.trans _ _ _ H1 h2
            obtain ⟨hc2, hf2, -⟩ := ExtK.rules H2
            have hs2_0 : B < w2.heap.size := by have := H2.size; (try simp at this); omega
            go_wp2_with (fail)
            refine hK _ _ h2 ?_
            clear hK K
            refine Plan.left_one 16 (by kernel_rfl) (by rfl) (Plan.plain rfl fun K hK => ?_)
            go_wp2_with (fail)
            refine (bareE_c _ _ (hg.of k2.ext)).mono ?_
            rintro e w3 ⟨rfl, h3⟩
            clear hc2 hf2 hs2_0
            have H3 := ExtK.trans _ _ _ H2 (ExtK.of_ext h3)
            obtain ⟨hc3, hf3, -⟩ := ExtK.rules H3
            have hs3_0 : B < w3.heap.size := by have := H3.size; (try simp at this); omega
            go_wp2_with (fail)
            refine hK _ _ (ExtK.of_ext h3) ?_
            clear hK K
            refine Plan.left_q 17 (by rfl) (by kernel_rfl) ?_; go_big_quiet_step (fail); refine wpQuiet_nil ?_
            refine Plan.left_done (by kernel_rfl) ?_
            go_wp2_with fail
            go_meet
            case rel => exact ⟨_, _, _, _, (k2.of h3).narrow (fun b hb => hb.elim), HG.out⟩
            -- }DONE
          have d2 : (wh == 2) = false := by simp [q2]
          have HK : Hid (JL w W8 P M J lo hi md (n + 1)) := Lib.hid ⟨_, _, _, _, h8.narrow (fun b hb => hb.elim), hgd.more⟩
          go_wp2_with fail
          go_meet
          case rel => exact HK.out
        case rest =>
          clear hla hlb hlaj hlbj h8 b0 b1 b2 b3 b4 b5 lB hgr hgd
          obtain ⟨st, rs, Bs, Cs, h9, hgd⟩ := hcut
          go_wp2_with fail
          go_loopg [17] 3 (fun kx s17 wr => ∃ i : Nat, s17 = .int .i64 i ∧ i ≤ 2 ∧ 2 - i ≤ kx ∧ JX w wr P M J lo hi md (fun _ => False) Bs Cs st rs)
          case atStart => exact ⟨0, rfl, by omega, by omega, h9⟩
          case round =>
            clear h9
            obtain ⟨i, rfl, hi2', hgk2, h9⟩ := hrel
            by_cases hi2 : i < 2
            · have HGD := Lib.hid hgd
              obtain ⟨r0, r1, hr, hCs⟩ := h9.r
              have c3 := hr.j0.c3
              have c4 := hr.j1.c3
              have c5 := hr.c5
              have c6 := hr.c6
              have lJ := hr.lt
              obtain ⟨p0, q0, rfl⟩ := hr.j0.row.slice
              obtain ⟨p1, q1, rfl⟩ := hr.j1.row.slice
              simp only [Nat.add_zero, Nat.reduceAdd] at c3 c4
              clear hr hCs hgd
              have hi' : i = 0 ∨ i = 1 := by omega
              rcases hi' with rfl | rfl
              · skip
                have hheld : ∀ u, JX w u P M J lo hi md (fun _ => False) Bs Cs st rs → Calls Tryz.prog 16 #[.pointer (some ⟨P, 0, none⟩), .int .i64 0] u fun e u' => e = .returned (.int .i64 (rs.a.length : Nat)) ∧ Ext u u' := fun u h => by
                  have := jx_held h 0 (by omega)
                  rw [show (st.of 0).length = rs.a.length from HGD.out.a] at this
                  exact this
                have hmark : ∀ u, JX w u P M J lo hi md (fun _ => False) Bs Cs st rs → Calls Tryz.prog 17 #[.pointer (some ⟨P, 0, none⟩), .int .i64 0] u fun e u' => e = .returned (.int .i64 rs.x) ∧ Ext u u' := fun u h => jx_mark h 0 rs.x HGD.out.rel.x
                have hrows : ∀ u, JX w u P M J lo hi md (fun _ => False) Bs Cs st rs → Calls Tryz.prog 19 #[.pointer (some ⟨P, 0, none⟩), .int .i64 0] u fun e u' => ∃ vo, e = .returned vo ∧ MRow u' u.heap.size vo st.a ∧ Ext u u' := fun u h => jx_rows h 0 (by omega) (by have := HGD.out.a; have := HGD.out.la; show st.a.length < 1000000; omega)
                have hrall : ∀ u, JX w u P M J lo hi md (fun _ => False) Bs Cs st rs → Calls Tryz.prog 20 #[.pointer (some ⟨J, 0, none⟩), .int .i64 0] u (RAllPost rs.a u) := fun u h => jx_rall h 0 (by omega) (by have := HGD.out.la; show rs.a.length < 100000; omega)
                go_wp2_with fail
                -- DONE{
                as_aux_lemma =>
                  refine Plan.begin Plan.Ext 33 rfl (by kernel_rfl) ?_
                  refine Plan.left_q 0 (by rfl) (by kernel_rfl) ?_; go_big_quiet_step (fail); refine wpQuiet_nil ?_
                  refine Plan.left_q 1 (by rfl) (by kernel_rfl) ?_; go_big_quiet_step (fail); refine wpQuiet_nil ?_
                  refine Plan.left_q 3 (by rfl) (by kernel_rfl) ?_; go_big_quiet_step (fail); refine wpQuiet_nil ?_
                  refine Plan.left_q 4 (by rfl) (by kernel_rfl) ?_; go_big_quiet_step (fail); refine wpQuiet_nil ?_
                  refine Plan.left_q 5 (by rfl) (by kernel_rfl) ?_; go_big_quiet_step (fail); refine wpQuiet_nil ?_
                  refine Plan.left_q 6 (by rfl) (by kernel_rfl) ?_; go_big_quiet_step (fail); refine wpQuiet_nil ?_
                  refine Plan.left_q 7 (by rfl) (by kernel_rfl) ?_; go_big_quiet_step (fail); refine wpQuiet_nil ?_
                  refine Plan.left_q 8 (by rfl) (by kernel_rfl) ?_; go_big_quiet_step (fail); refine wpQuiet_nil ?_
                  refine Plan.left_q 9 (by rfl) (by kernel_rfl) ?_; go_big_quiet_step (fail); refine wpQuiet_nil ?_
                  refine Plan.left_one 2 (by kernel_rfl) (by rfl) (Plan.plain rfl fun K hK => ?_)
                  go_wp2_with (fail)
                  refine (hheld _ (h9.of (ExtM.refl _).drew)).mono ?_
                  rintro e w1 ⟨rfl, h1⟩
                  have H1 := ExtM.trans _ _ _ (ExtM.refl _).drew h1
                  obtain ⟨hc1, hf1, -⟩ := Ext.rules H1
                  have hs1_0 : J < w1.heap.size := by have := H1.size; (try simp at this); omega
                  go_wp2_with (fail)
                  refine hK _ _ h1 ?_
                  clear hK K
                  refine Plan.left_q 10 (by rfl) (by kernel_rfl) ?_; go_big_quiet_step (fail); refine wpQuiet_nil ?_
                  refine Plan.left_q 11 (by rfl) (by kernel_rfl) ?_; go_big_quiet_step (fail); refine wpQuiet_nil ?_
                  refine Plan.left_q 12 (by rfl) (by kernel_rfl) ?_; go_big_quiet_step (fail); refine wpQuiet_nil ?_
                  refine Plan.left_q 13 (by rfl) (by kernel_rfl) ?_; go_big_quiet_step (fail); refine wpQuiet_nil ?_
                  refine Plan.left_q 15 (by rfl) (by kernel_rfl) ?_; go_big_quiet_step (fail); refine wpQuiet_nil ?_
                  refine Plan.left_q 16 (by rfl) (by kernel_rfl) ?_; go_big_quiet_step (fail); refine wpQuiet_nil ?_
                  refine Plan.left_q 17 (by rfl) (by kernel_rfl) ?_; go_big_quiet_step (fail); refine wpQuiet_nil ?_
                  refine Plan.left_q 18 (by rfl) (by kernel_rfl) ?_; go_big_quiet_step (fail); refine wpQuiet_nil ?_
                  refine Plan.left_q 19 (by rfl) (by kernel_rfl) ?_; go_big_quiet_step (fail); refine wpQuiet_nil ?_
                  refine Plan.left_q 20 (by rfl) (by kernel_rfl) ?_; go_big_quiet_step (fail); refine wpQuiet_nil ?_
                  refine Plan.left_one 14 (by kernel_rfl) (by rfl) (Plan.want rfl fun K hK => ?_)
                  go_wp2_with (fail)
                  refine (hmark _ (h9.of H1)).mono ?_
                  rintro e w2 ⟨rfl, h2⟩
                  clear hc1 hf1 hs1_0
                  have H2 := ExtM.trans _ _ _ H1 h2
                  obtain ⟨hc2, hf2, -⟩ := Ext.rules H2
                  have hs2_0 : J < w2.heap.size := by have := H2.size; (try simp at this); omega
                  go_wp2_with (fail)
                  refine hK _ _ h2 ?_
                  clear hK K
                  refine Plan.left_q 21 (by rfl) (by kernel_rfl) ?_; go_big_quiet_step (fail); refine wpQuiet_nil ?_
                  refine Plan.left_q 22 (by rfl) (by kernel_rfl) ?_; go_big_quiet_step (fail); refine wpQuiet_nil ?_
                  refine Plan.left_q 23 (by rfl) (by kernel_rfl) ?_; go_big_quiet_step (fail); refine wpQuiet_nil ?_
                  refine Plan.left_q 24 (by rfl) (by kernel_rfl) ?_; go_big_quiet_step (fail); refine wpQuiet_nil ?_
                  refine Plan.left_q 25 (by rfl) (by kernel_rfl) ?_; go_big_quiet_step (fail); refine wpQuiet_nil ?_
                  refine Plan.left_q 27 (by rfl) (by kernel_rfl) ?_; go_big_quiet_step (fail); refine wpQuiet_nil ?_
                  refine Plan.left_q 28 (by rfl) (by kernel_rfl) ?_; go_big_quiet_step (fail); refine wpQuiet_nil ?_
                  refine Plan.left_one 26 (by kernel_rfl) (by rfl) (Plan.want rfl fun K hK => ?_)
                  go_wp2_with (fail)
                  refine (hrows _ (h9.of H2)).mono ?_
                  rintro e w3 ⟨vo, rfl, km, h3⟩
                  clear hc2 hf2 hs2_0
                  have H3 := ExtM.trans _ _ _ H2 h3
                  obtain ⟨hc3, hf3, -⟩ := Ext.rules H3
                  have hs3_0 : J < w3.heap.size := by have := H3.size; (try simp at this); omega
                  go_wp2_with (fail)
                  refine hK _ _ h3 ?_
                  clear hK K
                  refine Plan.left_one 29 (by kernel_rfl) (by rfl) (Plan.want rfl fun K hK => ?_)
                  go_wp2_with (fail)
                  refine (hrall _ (h9.of H3)).mono ?_
                  rintro e w4 ⟨uo, R, rfl, kr, h4, kp, ks⟩
                  clear hc3 hf3 hs3_0
                  have H4 := ExtM.trans _ _ _ H3 h4
                  obtain ⟨hc4, hf4, -⟩ := Ext.rules H4
                  have hs4_0 : J < w4.heap.size := by have := H4.size; (try simp at this); omega
                  go_wp2_with (fail)
                  refine hK _ _ h4 ?_
                  clear hK K
                  refine Plan.left_one 30 (by kernel_rfl) (by rfl) (Plan.want rfl fun K hK => ?_)
                  go_wp2_with (fail)
                  refine (held_c _ _ _ st.a R _ (MRow.of km h4) (own_weaken kr (Nat.zero_le _)) (HGD.out.chg 0 R kp ks) (by rw [kp.length_eq]; have := HGD.out.la; omega)).mono ?_
                  rintro e w5 ⟨rfl, h5⟩
                  clear hc4 hf4 hs4_0
                  have H5 := ExtM.trans _ _ _ H4 h5
                  obtain ⟨hc5, hf5, -⟩ := Ext.rules H5
                  have hs5_0 : J < w5.heap.size := by have := H5.size; (try simp at this); omega
                  go_wp2_with (fail)
                  refine hK _ _ h5 ?_
                  clear hK K
                  refine Plan.left_q 31 (by rfl) (by kernel_rfl) ?_; go_big_quiet_step (fail); refine wpQuiet_nil ?_
                  refine Plan.left_q 32 (by rfl) (by kernel_rfl) ?_; go_big_quiet_step (fail); refine wpQuiet_nil ?_
                  refine Plan.left_done (by kernel_rfl) ?_
                  go_wp2_with fail
                  go_roundg (2 - (0 + 1))
                  case measure => omega
                  case rel => exact ⟨0 + 1, by go_num, by omega, Nat.le_refl _, h9.of H5⟩
                -- }DONE
              · skip
                have hheld : ∀ u, JX w u P M J lo hi md (fun _ => False) Bs Cs st rs → Calls Tryz.prog 16 #[.pointer (some ⟨P, 0, none⟩), .int .i64 1] u fun e u' => e = .returned (.int .i64 (rs.b.length : Nat)) ∧ Ext u u' := fun u h => by
                  have := jx_held h 1 (by omega)
                  rw [show (st.of 1).length = rs.b.length from HGD.out.b] at this
                  exact this
                have hmark : ∀ u, JX w u P M J lo hi md (fun _ => False) Bs Cs st rs → Calls Tryz.prog 17 #[.pointer (some ⟨P, 0, none⟩), .int .i64 1] u fun e u' => e = .returned (.int .i64 rs.y) ∧ Ext u u' := fun u h => jx_mark h 1 rs.y HGD.out.rel.y
                have hrows : ∀ u, JX w u P M J lo hi md (fun _ => False) Bs Cs st rs → Calls Tryz.prog 19 #[.pointer (some ⟨P, 0, none⟩), .int .i64 1] u fun e u' => ∃ vo, e = .returned vo ∧ MRow u' u.heap.size vo st.b ∧ Ext u u' := fun u h => jx_rows h 1 (by omega) (by have := HGD.out.b; have := HGD.out.lb; show st.b.length < 1000000; omega)
                have hrall : ∀ u, JX w u P M J lo hi md (fun _ => False) Bs Cs st rs → Calls Tryz.prog 20 #[.pointer (some ⟨J, 0, none⟩), .int .i64 1] u (RAllPost rs.b u) := fun u h => jx_rall h 1 (by omega) (by have := HGD.out.lb; show rs.b.length < 100000; omega)
                go_wp2_with fail
                -- DONE{
                as_aux_lemma =>
                  refine Plan.begin Plan.Ext 33 rfl (by kernel_rfl) ?_
                  refine Plan.left_q 0 (by rfl) (by kernel_rfl) ?_; go_big_quiet_step (fail); refine wpQuiet_nil ?_
                  refine Plan.left_q 1 (by rfl) (by kernel_rfl) ?_; go_big_quiet_step (fail); refine wpQuiet_nil ?_
                  refine Plan.left_q 3 (by rfl) (by kernel_rfl) ?_; go_big_quiet_step (fail); refine wpQuiet_nil ?_
                  refine Plan.left_q 4 (by rfl) (by kernel_rfl) ?_; go_big_quiet_step (fail); refine wpQuiet_nil ?_
                  refine Plan.left_q 5 (by rfl) (by kernel_rfl) ?_; go_big_quiet_step (fail); refine wpQuiet_nil ?_
                  refine Plan.left_q 6 (by rfl) (by kernel_rfl) ?_; go_big_quiet_step (fail); refine wpQuiet_nil ?_
                  refine Plan.left_q 7 (by rfl) (by kernel_rfl) ?_; go_big_quiet_step (fail); refine wpQuiet_nil ?_
                  refine Plan.left_q 8 (by rfl) (by kernel_rfl) ?_; go_big_quiet_step (fail); refine wpQuiet_nil ?_
                  refine Plan.left_q 9 (by rfl) (by kernel_rfl) ?_; go_big_quiet_step (fail); refine wpQuiet_nil ?_
                  refine Plan.left_one 2 (by kernel_rfl) (by rfl) (Plan.plain rfl fun K hK => ?_)
                  go_wp2_with (fail)
                  refine (hheld _ (h9.of (ExtM.refl _).drew)).mono ?_
                  rintro e w1 ⟨rfl, h1⟩
                  have H1 := ExtM.trans _ _ _ (ExtM.refl _).drew h1
                  obtain ⟨hc1, hf1, -⟩ := Ext.rules H1
                  have hs1_0 : J < w1.heap.size := by have := H1.size; (try simp at this); omega
                  go_wp2_with (fail)
                  refine hK _ _ h1 ?_
                  clear hK K
                  refine Plan.left_q 10 (by rfl) (by kernel_rfl) ?_; go_big_quiet_step (fail); refine wpQuiet_nil ?_
                  refine Plan.left_q 11 (by rfl) (by kernel_rfl) ?_; go_big_quiet_step (fail); refine wpQuiet_nil ?_
                  refine Plan.left_q 12 (by rfl) (by kernel_rfl) ?_; go_big_quiet_step (fail); refine wpQuiet_nil ?_
                  refine Plan.left_q 13 (by rfl) (by kernel_rfl) ?_; go_big_quiet_step (fail); refine wpQuiet_nil ?_
                  refine Plan.left_q 15 (by rfl) (by kernel_rfl) ?_; go_big_quiet_step (fail); refine wpQuiet_nil ?_
                  refine Plan.left_q 16 (by rfl) (by kernel_rfl) ?_; go_big_quiet_step (fail); refine wpQuiet_nil ?_
                  refine Plan.left_q 17 (by rfl) (by kernel_rfl) ?_; go_big_quiet_step (fail); refine wpQuiet_nil ?_
                  refine Plan.left_q 18 (by rfl) (by kernel_rfl) ?_; go_big_quiet_step (fail); refine wpQuiet_nil ?_
                  refine Plan.left_q 19 (by rfl) (by kernel_rfl) ?_; go_big_quiet_step (fail); refine wpQuiet_nil ?_
                  refine Plan.left_q 20 (by rfl) (by kernel_rfl) ?_; go_big_quiet_step (fail); refine wpQuiet_nil ?_
                  refine Plan.left_one 14 (by kernel_rfl) (by rfl) (Plan.want rfl fun K hK => ?_)
                  go_wp2_with (fail)
                  refine (hmark _ (h9.of H1)).mono ?_
                  rintro e w2 ⟨rfl, h2⟩
                  clear hc1 hf1 hs1_0
                  have H2 := ExtM.trans _ _ _ H1 h2
                  obtain ⟨hc2, hf2, -⟩ := Ext.rules H2
                  have hs2_0 : J < w2.heap.size := by have := H2.size; (try simp at this); omega
                  go_wp2_with (fail)
                  refine hK _ _ h2 ?_
                  clear hK K
                  refine Plan.left_q 21 (by rfl) (by kernel_rfl) ?_; go_big_quiet_step (fail); refine wpQuiet_nil ?_
                  refine Plan.left_q 22 (by rfl) (by kernel_rfl) ?_; go_big_quiet_step (fail); refine wpQuiet_nil ?_
                  refine Plan.left_q 23 (by rfl) (by kernel_rfl) ?_; go_big_quiet_step (fail); refine wpQuiet_nil ?_
                  refine Plan.left_q 24 (by rfl) (by kernel_rfl) ?_; go_big_quiet_step (fail); refine wpQuiet_nil ?_
                  refine Plan.left_q 25 (by rfl) (by kernel_rfl) ?_; go_big_quiet_step (fail); refine wpQuiet_nil ?_
                  refine Plan.left_q 27 (by rfl) (by kernel_rfl) ?_; go_big_quiet_step (fail); refine wpQuiet_nil ?_
                  refine Plan.left_q 28 (by rfl) (by kernel_rfl) ?_; go_big_quiet_step (fail); refine wpQuiet_nil ?_
                  refine Plan.left_one 26 (by kernel_rfl) (by rfl) (Plan.want rfl fun K hK => ?_)
                  go_wp2_with (fail)
                  refine (hrows _ (h9.of H2)).mono ?_
                  rintro e w3 ⟨vo, rfl, km, h3⟩
                  clear hc2 hf2 hs2_0
                  have H3 := ExtM.trans _ _ _ H2 h3
                  obtain ⟨hc3, hf3, -⟩ := Ext.rules H3
                  have hs3_0 : J < w3.heap.size := by have := H3.size; (try simp at this); omega
                  go_wp2_with (fail)
                  refine hK _ _ h3 ?_
                  clear hK K
                  refine Plan.left_one 29 (by kernel_rfl) (by rfl) (Plan.want rfl fun K hK => ?_)
                  go_wp2_with (fail)
                  refine (hrall _ (h9.of H3)).mono ?_
                  rintro e w4 ⟨uo, R, rfl, kr, h4, kp, ks⟩
                  clear hc3 hf3 hs3_0
                  have H4 := ExtM.trans _ _ _ H3 h4
                  obtain ⟨hc4, hf4, -⟩ := Ext.rules H4
                  have hs4_0 : J < w4.heap.size := by have := H4.size; (try simp at this); omega
                  go_wp2_with (fail)
                  refine hK _ _ h4 ?_
                  clear hK K
                  refine Plan.left_one 30 (by kernel_rfl) (by rfl) (Plan.want rfl fun K hK => ?_)
                  go_wp2_with (fail)
                  refine (held_c _ _ _ st.b R _ (MRow.of km h4) (own_weaken kr (Nat.zero_le _)) (HGD.out.chg 1 R kp ks) (by rw [kp.length_eq]; have := HGD.out.lb; omega)).mono ?_
                  rintro e w5 ⟨rfl, h5⟩
                  clear hc4 hf4 hs4_0
                  have H5 := ExtM.trans _ _ _ H4 h5
                  obtain ⟨hc5, hf5, -⟩ := Ext.rules H5
                  have hs5_0 : J < w5.heap.size := by have := H5.size; (try simp at this); omega
                  go_wp2_with (fail)
                  refine hK _ _ h5 ?_
                  clear hK K
                  refine Plan.left_q 31 (by rfl) (by kernel_rfl) ?_; go_big_quiet_step (fail); refine wpQuiet_nil ?_
                  refine Plan.left_q 32 (by rfl) (by kernel_rfl) ?_; go_big_quiet_step (fail); refine wpQuiet_nil ?_
                  refine Plan.left_done (by kernel_rfl) ?_
                  go_wp2_with fail
                  go_roundg (2 - (1 + 1))
                  case measure => omega
                  case rel => exact ⟨1 + 1, by go_num, by omega, Nat.le_refl _, h9.of H5⟩
                -- }DONE
            · have hz : decide ((i : Int) < 2) = false := by simp; omega
              have hz' : decide (i < 2) = false := by simp; omega
              obtain ⟨r0, r1, hr, hCs⟩ := h9.r
              have c7 := hr.c7
              have lJ := hr.lt
              have hlt' := fun u (h : JX w u P M J lo hi md (fun _ => False) Bs Cs st rs) => jx_late h
              rw [hgd.rel.late] at hlt'
              clear hr hCs hi2
              go_wp2_with fail
              -- DONE{
              as_aux_lemma =>
                refine Plan.begin Plan.Ext 7 rfl (by kernel_rfl) ?_
                refine Plan.left_q 0 (by rfl) (by kernel_rfl) ?_; go_big_quiet_step (fail); refine wpQuiet_nil ?_
                refine Plan.left_q 2 (by rfl) (by kernel_rfl) ?_; go_big_quiet_step (fail); refine wpQuiet_nil ?_
                refine Plan.left_q 3 (by rfl) (by kernel_rfl) ?_; go_big_quiet_step (fail); refine wpQuiet_nil ?_
                refine Plan.left_q 4 (by rfl) (by kernel_rfl) ?_; go_big_quiet_step (fail); refine wpQuiet_nil ?_
                refine Plan.left_q 5 (by rfl) (by kernel_rfl) ?_; go_big_quiet_step (fail); refine wpQuiet_nil ?_
                refine Plan.left_one 1 (by kernel_rfl) (by rfl) (Plan.plain rfl fun K hK => ?_)
                go_wp2_with (fail)
                refine (hlt' _ (h9.of (ExtM.refl _).drew)).mono ?_
                rintro e w1 ⟨rfl, h1⟩
                have H1 := ExtM.trans _ _ _ (ExtM.refl _).drew h1
                obtain ⟨hc1, hf1, -⟩ := Ext.rules H1
                have hs1_0 : J < w1.heap.size := by have := H1.size; (try simp at this); omega
                go_wp2_with (fail)
                refine hK _ _ h1 ?_
                clear hK K
                refine Plan.left_q 6 (by rfl) (by kernel_rfl) ?_; go_big_quiet_step (fail); refine wpQuiet_nil ?_
                refine Plan.left_done (by kernel_rfl) ?_
                go_wp2_with fail
                go_roundg (xs.length - (n + 1))
                case measure => omega
                case rel => exact ⟨n + 1, by go_num, by omega, Nat.le_refl _, _, _, _, _, h9.of H1, hgd⟩
              -- }DONE
      · have hz : decide (n < xs.length) = false := by simp; omega
        obtain ⟨st, rs, Bs, Cs, h9, hgd⟩ := hS
        have hX := h9.ext
        obtain ⟨v0, v1, hj, rfl⟩ := h9.j
        have hl1 := fun n => jlateness_c hj n
        have hB : ∀ k, JFoot P M v0 v1 k → w.heap.size ≤ k := fun k hk => (h9.nB k hk).1
        clear h9 hgd
        -- DONE{
        go_wp2_with (first
          | (go_at_call 22
             refine (hl1 _).mono ?_
             rintro e w1 ⟨rfl, hj1, hx1⟩)
          | (go_at_call 21; refine (jlate_c hj1).mono ?_; rintro e w2 ⟨rfl, rfl⟩)
          | (go_at_call 16; refine (jheldBad_c P _).mono ?_; rintro e w2 ⟨rfl, rfl⟩)
          | (go_at_call 17; refine (jmark_c (-1) hj1).mono ?_; rintro e w2 ⟨rfl, rfl⟩)
          | (go_at_call 19; refine (jrowsBad_c P _).mono ?_; rintro e w2 ⟨rfl, rfl⟩))
        go_ret
        exact ⟨rfl, hX.fresh hx1 (fun k hk e => by have := hB k (.inl e); omega)⟩
        -- }DONE
  · have hck := fun u => check_c lo hi md u
    have hrk := fun u => rcheck_c lo hi md u
    have hnw := fun u => jnewBad_c lo hi md u hc
    have hne : (checkI lo hi md != 0) = true := by simp [hc]
    generalize checkI lo hi md = c at *
    have HC := Lib.hid hc
    clear hc
    -- DONE{
    go_enter Tryz.func3, Tryz.ntmps3
    go_wp2_with (first
      | (go_at_call 4
         refine (hnw _).mono ?_
         rintro e w1 ⟨rfl, hx1⟩
         have k := fun o => hx1.cell (p := ⟨w.heap.size, o, none⟩) lB (fun h => h)
         have c0 := (k _).trans b0
         have c1 := (k _).trans b1
         have c2 := (k _).trans b2
         have lB1 : w.heap.size < w1.heap.size := Nat.lt_of_lt_of_le lB hx1.size
         clear k b0 b1 b2)
      | (go_at_call 5
         refine (hrk _).mono ?_
         rintro e w2 ⟨rfl, hx2⟩
         have k := fun o => hx2.cell (p := ⟨w.heap.size, o, none⟩) lB1 (fun h => h)
         have e0 := (k _).trans c0
         have e1 := (k _).trans c1
         have e2 := (k _).trans c2
         have hX2 := ExtM.trans _ _ _ (ExtM.trans _ _ _ hx0 hx1) hx2
         have lB2 : w.heap.size < w2.heap.size := Nat.lt_of_lt_of_le lB1 hx2.size
         clear k c0 c1 c2)
      | (go_at_call 6
         refine (bareE_c c w2 (hg.of hX2)).mono ?_
         rintro e w3 ⟨rfl, hx3⟩
         have k := fun o => hx3.cell (p := ⟨w.heap.size, o, none⟩) lB2 (fun h => h)
         have f0 := (k _).trans e0
         have f1 := (k _).trans e1
         have f2 := (k _).trans e2
         have hX3 := ExtM.trans _ _ _ hX2 hx3
         clear k e0 e1 e2)
      | (go_at_call 7
         refine (hck _).mono ?_
         rintro e w4 ⟨rfl, hx4⟩
         have hX4 := ExtM.trans _ _ _ hX3 hx4)
      | (go_at_call 6
         refine (bareE_c c w4 (hg.of hX4)).mono ?_
         rintro e w5 ⟨rfl, hx5⟩))
    go_ret
    exact ⟨rfl, ExtM.trans _ _ _ hX4 hx5⟩
    -- }DONE
end Go.Proofs.YtggjceolhbdalaaGreatDoor
