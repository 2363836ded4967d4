/- BagPlays: the walk. -/
import Derived.Test.YtggjceolhbdalaaDoorBagPlC
import Derived.Test.YtggjceolhbdalaaDoorElemC
import Derived.Test.YtggjceolhbdalaaDoorErrs2
namespace Go.Proofs.YtggjceolhbdalaaDoor
open Go.RowKit Go.Plan

theorem lbare0_c (w : World) : Calls Tryd.prog 10 #[.nilIface, .int .i64 0] w fun e w' => e = .returned (.bool true) ∧ Ext w w' :=
  (lbare_nil 0 w).mono fun e w' hh => ⟨by simpa using hh.1, hh.2 ▸ ExtM.refl _⟩
theorem lbare8_c (w : World) (hg : Laid w) : Calls Tryd.prog 10 #[.iface 30 (.int .i64 8), .int .i64 8] w fun e w' => e = .returned (.bool true) ∧ Ext w w' :=
  (lbare_c 8 8 w hg).mono fun e w' hh => ⟨by simpa using hh.1, hh.2⟩

/-- What holds between the law's rounds. -/
def BPL (w u : World) (A B n : Nat) : Prop := ∃ r, BP w u A B r r ∧ r.length ≤ n


set_option maxRecDepth 100000 in
set_option maxHeartbeats 8000000 in
theorem bagPlays_w (a : Option Addr) (cap : Nat) (xs : List (Out × Bool)) (w : World) (hg : Laid w) (hin : ChangesIn w a xs) (hok : ∀ x ∈ xs, x.1.ok) :
    Calls Tryd.prog 5 #[.slice a xs.length cap] w fun e w' => e = .returned (.bool true) ∧ Ext w w' := by
  by_cases h150 : 150 < xs.length
  · have d : decide (150 < (xs.length : Int)) = true := by simp; omega
    go_enter Tryd.func5, Tryd.ntmps5
    go_wp2_with fail
    go_ret
    exact ⟨rfl, ExtM.refl _⟩
  have d : decide (150 < (xs.length : Int)) = false := by simp; omega
  have hA := BagIs.new w 64
  have hx0 : Ext w (w.alloc (.cells #[.map none, .int .i64 0] 64)) := (ExtM.refl w).alloc _
  have lA : w.heap.size < (w.alloc (.cells #[.map none, .int .i64 0] 64)).heap.size := by simp
  have hS0 : BPL w ((w.alloc (.cells #[.map none, .int .i64 0] 64)).alloc (.cells #[.slice none 0 0] 67)) w.heap.size (w.heap.size + 1) 0 := by
    refine ⟨[], ⟨none, .slice none 0 0, hx0.alloc _, hA.of ((ExtM.refl _).alloc _ : Ext _ _) (fun h => h) (fun _ _ h => h), ⟨by go_simp, by go_simp, ⟨rfl, .inl ⟨rfl, rfl⟩⟩, fun e => by cases e⟩, fun k hk => ?_, by omega, fun k hk => by cases hk⟩, by simp⟩
    rcases hk with rfl | hk
    · exact ⟨Nat.le_refl _, by omega, fun e => by cases e⟩
    · cases hk
  clear hA hx0 lA
  go_enter Tryd.func5, Tryd.ntmps5
  go_wp2_with fail
  have hAB : w.heap.size ≠ w.heap.size + 1 := by omega
  generalize w.heap.size + 1 = B at *
  go_loopg [5] (xs.length + 1) (fun kx s5 wr => ∃ n : Nat, s5 = .int .i64 n ∧ n ≤ xs.length ∧ xs.length - n ≤ kx ∧ BPL w wr w.heap.size B n)
  case atStart => exact ⟨0, rfl, by omega, by omega, hS0⟩
  case round =>
    clear hS0
    obtain ⟨n, rfl, hn, hgk, hS⟩ := hrel
    by_cases hlt : n < xs.length
    · obtain ⟨b, off, rfl, hel⟩ : ∃ b off, a = some ⟨b, off, none⟩ ∧ ∀ i (h : i < xs.length), ElemC w b (off + i * 10) xs[i].1 xs[i].2 := by
        rcases hin with h | h
        · subst h; simp at hlt
        · exact h
      obtain ⟨r, hbp, hrl⟩ := hS
      have hx := hbp.ext
      have hbN := (hel n hlt).lt
      have hel := (hel n hlt).of hx
      have hok := hok _ (List.getElem_mem hlt)
      generalize xs[n] = c at *
      obtain ⟨x, g⟩ := c
      simp only at hel hok
      have hgr := hg.of hx
      have hh := hbp.has
      cases g with
      | false =>
        have hng : ∀ u, HasR B r u → ¬ HasR B (r ++ [x]) u := fun u h1 h2 => by
          have := congrArg List.length (h1.same h2)
          simp at this
        have hpm : (x :: r).Perm (r ++ [x]) := (List.perm_append_singleton x r).symm
        have hlen : (r ++ [x]).length ≤ n + 1 := by simp; omega
        obtain ⟨e0, e1, e2, e3, e4, e5, e6, e7, e8, e9⟩ := id hel
        have lb := hel.lt
        obtain ⟨cn, hcn⟩ : ∃ cn, (r ++ [x]).count x = cn := ⟨_, rfl⟩
        obtain ⟨ln, hln⟩ : ∃ ln, (r ++ [x]).length = ln := ⟨_, rfl⟩
        have hl1 : ln ≤ n + 1 := by rw [← hln]; exact hlen
        have HCN := Lib.hid hcn
        have HLN := Lib.hid hln
        have hl2 : (r ++ [x]).length < 1000000 := by omega
        have HL2 := Lib.hid hl2
        have hr2 : r.length < 1000000 := by omega
        have HR2 := Lib.hid hr2
        have hln2 : ln < 1000000000 := by omega
        clear hel hcn hln hl2 hr2
        go_wp2_with fail
        -- DONE{
        as_aux_lemma =>
          refine Plan.begin (Plan.ExtG w.heap.size B (HasR B (r ++ [x]))) 45 rfl (by kernel_rfl) ?_
          refine Plan.left_q 0 (by rfl) (by kernel_rfl) ?_; go_big_quiet_step (fail); refine wpQuiet_nil ?_
          refine Plan.left_q 1 (by rfl) (by kernel_rfl) ?_; go_big_quiet_step (fail); refine wpQuiet_nil ?_
          refine Plan.left_q 2 (by rfl) (by kernel_rfl) ?_; go_big_quiet_step (fail); refine wpQuiet_nil ?_
          refine Plan.left_q 3 (by rfl) (by kernel_rfl) ?_; go_big_quiet_step (fail); refine wpQuiet_nil ?_
          refine Plan.left_q 5 (by rfl) (by kernel_rfl) ?_; go_big_quiet_step (fail); refine wpQuiet_nil ?_
          refine Plan.left_q 6 (by rfl) (by kernel_rfl) ?_; go_big_quiet_step (fail); refine wpQuiet_nil ?_
          refine Plan.left_q 7 (by rfl) (by kernel_rfl) ?_; go_big_quiet_step (fail); refine wpQuiet_nil ?_
          refine Plan.left_q 8 (by rfl) (by kernel_rfl) ?_; go_big_quiet_step (fail); refine wpQuiet_nil ?_
          refine Plan.left_q 9 (by rfl) (by kernel_rfl) ?_; go_big_quiet_step (fail); refine wpQuiet_nil ?_
          refine Plan.left_one 4 (by kernel_rfl) (by rfl) (Plan.plain rfl fun K hK => ?_)
          go_wp2_with (fail)
          refine (bp_add (hbp.of (ExtM.refl _).drew) x hok HR2.out (hng _ (hh.of (ExtM.refl _).drew))).mono ?_
          rintro e w1 ⟨rfl, h1, k1⟩
          have H1 := ExtG.trans _ _ _ (ExtG.drew (ExtG.refl _)) h1
          obtain ⟨hc1, hf1, -⟩ := ExtG.rules H1
          have hs1_0 : b < w1.heap.size := by have := H1.size; (try simp at this); omega
          go_wp2_with (fail)
          refine hK _ _ h1 ?_
          clear hK K
          refine Plan.left_one 10 (by kernel_rfl) (by rfl) (Plan.plain rfl fun K hK => ?_)
          go_wp2_with (fail)
          refine (bp_radd k1 x HR2.out (hng _ k1.has)).mono ?_
          rintro e w2 ⟨rfl, h2, k2⟩
          clear hc1 hf1 hs1_0
          have H2 := ExtG.trans _ _ _ H1 h2
          obtain ⟨hc2, hf2, -⟩ := ExtG.rules H2
          have hs2_0 : b < w2.heap.size := by have := H2.size; (try simp at this); omega
          go_wp2_with (fail)
          refine hK _ _ h2 ?_
          clear hK K
          refine Plan.left_one 11 (by kernel_rfl) (by rfl) (Plan.plain rfl fun K hK => ?_)
          go_wp2_with (fail)
          refine (lbare0_c _).mono ?_
          rintro e w3 ⟨rfl, h3⟩
          clear hc2 hf2 hs2_0
          have H3 := ExtG.trans _ _ _ H2 (ExtG.of_ext (N := w.heap.size) (B := B) (r := (r ++ [x])) h3)
          obtain ⟨hc3, hf3, -⟩ := ExtG.rules H3
          have hs3_0 : b < w3.heap.size := by have := H3.size; (try simp at this); omega
          go_wp2_with (fail)
          refine hK _ _ (ExtG.of_ext (N := w.heap.size) (B := B) (r := (r ++ [x])) h3) ?_
          clear hK K
          refine Plan.left_q 12 (by rfl) (by kernel_rfl) ?_; go_big_quiet_step (fail); refine wpQuiet_nil ?_
          refine Plan.left_q 13 (by rfl) (by kernel_rfl) ?_; go_big_quiet_step (fail); refine wpQuiet_nil ?_
          refine Plan.left_q 14 (by rfl) (by kernel_rfl) ?_; go_big_quiet_step (fail); refine wpQuiet_nil ?_
          refine Plan.left_q 15 (by rfl) (by kernel_rfl) ?_; go_big_quiet_step (fail); refine wpQuiet_nil ?_
          refine Plan.left_q 16 (by rfl) (by kernel_rfl) ?_; go_big_quiet_step (fail); refine wpQuiet_nil ?_
          refine Plan.left_q 17 (by rfl) (by kernel_rfl) ?_; go_big_quiet_step (fail); refine wpQuiet_nil ?_
          refine Plan.left_q 18 (by rfl) (by kernel_rfl) ?_; go_big_quiet_step (fail); refine wpQuiet_nil ?_
          refine Plan.left_q 20 (by rfl) (by kernel_rfl) ?_; go_big_quiet_step (fail); refine wpQuiet_nil ?_
          refine Plan.left_q 21 (by rfl) (by kernel_rfl) ?_; go_big_quiet_step (fail); refine wpQuiet_nil ?_
          refine Plan.left_q 22 (by rfl) (by kernel_rfl) ?_; go_big_quiet_step (fail); refine wpQuiet_nil ?_
          refine Plan.left_q 23 (by rfl) (by kernel_rfl) ?_; go_big_quiet_step (fail); refine wpQuiet_nil ?_
          refine Plan.left_q 24 (by rfl) (by kernel_rfl) ?_; go_big_quiet_step (fail); refine wpQuiet_nil ?_
          refine Plan.left_q 25 (by rfl) (by kernel_rfl) ?_; go_big_quiet_step (fail); refine wpQuiet_nil ?_
          refine Plan.left_one 19 (by kernel_rfl) (by rfl) (Plan.want rfl fun K hK => ?_)
          go_wp2_with (fail)
          refine (bp_many ((k2.perm hpm).of h3) x hok cn HCN.out).mono ?_
          rintro e w4 ⟨rfl, h4⟩
          clear hc3 hf3 hs3_0
          have H4 := ExtG.trans _ _ _ H3 (ExtG.of_ext (N := w.heap.size) (B := B) (r := (r ++ [x])) h4)
          obtain ⟨hc4, hf4, -⟩ := ExtG.rules H4
          have hs4_0 : b < w4.heap.size := by have := H4.size; (try simp at this); omega
          go_wp2_with (fail)
          refine hK _ _ (ExtG.of_ext (N := w.heap.size) (B := B) (r := (r ++ [x])) h4) ?_
          clear hK K
          refine Plan.left_one 26 (by kernel_rfl) (by rfl) (Plan.want rfl fun K hK => ?_)
          go_wp2_with (fail)
          refine (bp_rmany' (((k2.perm hpm).of h3).of h4) x HL2.out cn ln HCN.out HLN.out).mono ?_
          rintro e w5 ⟨rfl, h5, q1, q2, cB, lB5, hG5⟩
          clear hc4 hf4 hs4_0
          have H5 := ExtG.trans _ _ _ H4 (ExtG.of_ext (N := w.heap.size) (B := B) (r := (r ++ [x])) h5)
          obtain ⟨hc5, hf5, -⟩ := ExtG.rules H5
          have hs5_0 : b < w5.heap.size := by have := H5.size; (try simp at this); omega
          go_wp2_with (fail)
          refine hK _ _ (ExtG.of_ext (N := w.heap.size) (B := B) (r := (r ++ [x])) h5) ?_
          clear hK K
          refine Plan.left_q 27 (by rfl) (by kernel_rfl) ?_; go_big_quiet_step (fail); refine wpQuiet_nil ?_
          refine Plan.left_q 28 (by rfl) (by kernel_rfl) ?_; go_big_quiet_step (fail); refine wpQuiet_nil ?_
          refine Plan.left_q 29 (by rfl) (by kernel_rfl) ?_; go_big_quiet_step (fail); refine wpQuiet_nil ?_
          refine Plan.left_q 31 (by rfl) (by kernel_rfl) ?_; go_big_quiet_step (fail); refine wpQuiet_nil ?_
          refine Plan.left_q 32 (by rfl) (by kernel_rfl) ?_; go_big_quiet_step (fail); refine wpQuiet_nil ?_
          refine Plan.left_q 33 (by rfl) (by kernel_rfl) ?_; go_big_quiet_step (fail); refine wpQuiet_nil ?_
          refine Plan.left_q 34 (by rfl) (by kernel_rfl) ?_; go_big_quiet_step (fail); refine wpQuiet_nil ?_
          refine Plan.left_q 35 (by rfl) (by kernel_rfl) ?_; go_big_quiet_step (fail); refine wpQuiet_nil ?_
          refine Plan.left_one 30 (by kernel_rfl) (by rfl) (Plan.want rfl fun K hK => ?_)
          go_wp2_with (fail)
          refine (bp_size ((((k2.perm hpm).of h3).of h4).of h5) ln HLN.out).mono ?_
          rintro e w6 ⟨rfl, h6⟩
          clear hc5 hf5 hs5_0
          have H6 := ExtG.trans _ _ _ H5 (ExtG.of_ext (N := w.heap.size) (B := B) (r := (r ++ [x])) h6)
          obtain ⟨hc6, hf6, -⟩ := ExtG.rules H6
          have hs6_0 : b < w6.heap.size := by have := H6.size; (try simp at this); omega
          go_wp2_with (fail)
          refine hK _ _ (ExtG.of_ext (N := w.heap.size) (B := B) (r := (r ++ [x])) h6) ?_
          clear hK K
          refine Plan.left_q 36 (by rfl) (by kernel_rfl) ?_; go_big_quiet_step (fail); refine wpQuiet_nil ?_
          refine Plan.left_q 37 (by rfl) (by kernel_rfl) ?_; go_big_quiet_step (fail); refine wpQuiet_nil ?_
          refine Plan.left_q 38 (by rfl) (by kernel_rfl) ?_; go_big_quiet_step (fail); refine wpQuiet_nil ?_
          refine Plan.left_q 40 (by rfl) (by kernel_rfl) ?_; go_big_quiet_step (fail); refine wpQuiet_nil ?_
          refine Plan.left_one 39 (by kernel_rfl) (by rfl) (Plan.want rfl fun K hK => ?_)
          go_wp2_with (fail)
          refine (bp_all (((((k2.perm hpm).of h3).of h4).of h5).of h6) HL2.out ln HLN.out).mono ?_
          rintro e w7 ⟨p, cap', rfl, h7, o1⟩
          clear hc6 hf6 hs6_0
          have H7 := ExtG.trans _ _ _ H6 (ExtG.of_ext (N := w.heap.size) (B := B) (r := (r ++ [x])) h7)
          obtain ⟨hc7, hf7, -⟩ := ExtG.rules H7
          have hs7_0 : b < w7.heap.size := by have := H7.size; (try simp at this); omega
          go_wp2_with (fail)
          refine hK _ _ (ExtG.of_ext (N := w.heap.size) (B := B) (r := (r ++ [x])) h7) ?_
          clear hK K
          refine Plan.left_one 41 (by kernel_rfl) (by rfl) (Plan.want rfl fun K hK => ?_)
          go_wp2_with (fail)
          refine (bp_sorted ((((((k2.perm hpm).of h3).of h4).of h5).of h6).of h7) HL2.out ln HLN.out).mono ?_
          rintro e w8 ⟨p2, cap2, rfl, h8, o2⟩
          clear hc7 hf7 hs7_0
          have H8 := ExtG.trans _ _ _ H7 (ExtG.of_ext (N := w.heap.size) (B := B) (r := (r ++ [x])) h8)
          obtain ⟨hc8, hf8, -⟩ := ExtG.rules H8
          have hs8_0 : b < w8.heap.size := by have := H8.size; (try simp at this); omega
          go_wp2_with (fail)
          refine hK _ _ (ExtG.of_ext (N := w.heap.size) (B := B) (r := (r ++ [x])) h8) ?_
          clear hK K
          refine Plan.left_one 42 (by kernel_rfl) (by rfl) (Plan.want rfl fun K hK => ?_)
          go_wp2_with (fail)
          refine (sameOuts_c _ _ _ _ ln (sortO (r ++ [x])) _ (o1.of h8) o2 (by rw [sortO_length]; exact HLN.out) hln2).mono ?_
          rintro e w9 ⟨rfl, h9⟩
          clear hc8 hf8 hs8_0
          have H9 := ExtG.trans _ _ _ H8 (ExtG.of_ext (N := w.heap.size) (B := B) (r := (r ++ [x])) h9)
          obtain ⟨hc9, hf9, -⟩ := ExtG.rules H9
          have hs9_0 : b < w9.heap.size := by have := H9.size; (try simp at this); omega
          go_wp2_with (fail)
          refine hK _ _ (ExtG.of_ext (N := w.heap.size) (B := B) (r := (r ++ [x])) h9) ?_
          clear hK K
          refine Plan.left_q 43 (by rfl) (by kernel_rfl) ?_; go_big_quiet_step (fail); refine wpQuiet_nil ?_
          refine Plan.left_q 44 (by rfl) (by kernel_rfl) ?_; go_big_quiet_step (fail); refine wpQuiet_nil ?_
          refine Plan.left_done (by kernel_rfl) ?_
          go_wp2_with fail
          go_roundg (xs.length - (n + 1))
          case measure => omega
          case rel => exact ⟨n + 1, by go_num, by omega, Nat.le_refl _, r ++ [x], (((((((k2.perm hpm).of h3).of h4).of h5).of h6).of h7).of h8).of h9, by rw [HLN.out]; exact hl1⟩
        -- }DONE
      | true =>
        by_cases hxr : x ∈ r
        · have hng : ∀ u, HasR B r u → ¬ HasR B (r.erase x) u := fun u h1 h2 => by
            have := congrArg List.length (h1.same h2)
            rw [List.length_erase_of_mem hxr] at this
            have := List.length_pos_of_mem hxr
            omega
          have hlen : (r.erase x).length ≤ n + 1 := Nat.le_trans List.length_erase_le (by omega)
          obtain ⟨e0, e1, e2, e3, e4, e5, e6, e7, e8, e9⟩ := id hel
          have lb := hel.lt
          obtain ⟨cn, hcn⟩ : ∃ cn, (r.erase x).count x = cn := ⟨_, rfl⟩
          obtain ⟨ln, hln⟩ : ∃ ln, (r.erase x).length = ln := ⟨_, rfl⟩
          have hl1 : ln ≤ n + 1 := by rw [← hln]; exact hlen
          have HCN := Lib.hid hcn
          have HLN := Lib.hid hln
          have hl2 : (r.erase x).length < 1000000 := by omega
          have HL2 := Lib.hid hl2
          have hr2 : r.length < 1000000 := by omega
          have HR2 := Lib.hid hr2
          have hln2 : ln < 1000000000 := by omega
          clear hel hcn hln hl2 hr2
          go_wp2_with fail
          -- DONE{
          as_aux_lemma =>
            refine Plan.begin (Plan.ExtG w.heap.size B (HasR B (r.erase x))) 45 rfl (by kernel_rfl) ?_
            refine Plan.left_q 0 (by rfl) (by kernel_rfl) ?_; go_big_quiet_step (fail); refine wpQuiet_nil ?_
            refine Plan.left_q 1 (by rfl) (by kernel_rfl) ?_; go_big_quiet_step (fail); refine wpQuiet_nil ?_
            refine Plan.left_q 2 (by rfl) (by kernel_rfl) ?_; go_big_quiet_step (fail); refine wpQuiet_nil ?_
            refine Plan.left_q 3 (by rfl) (by kernel_rfl) ?_; go_big_quiet_step (fail); refine wpQuiet_nil ?_
            refine Plan.left_q 5 (by rfl) (by kernel_rfl) ?_; go_big_quiet_step (fail); refine wpQuiet_nil ?_
            refine Plan.left_q 6 (by rfl) (by kernel_rfl) ?_; go_big_quiet_step (fail); refine wpQuiet_nil ?_
            refine Plan.left_q 7 (by rfl) (by kernel_rfl) ?_; go_big_quiet_step (fail); refine wpQuiet_nil ?_
            refine Plan.left_q 8 (by rfl) (by kernel_rfl) ?_; go_big_quiet_step (fail); refine wpQuiet_nil ?_
            refine Plan.left_q 9 (by rfl) (by kernel_rfl) ?_; go_big_quiet_step (fail); refine wpQuiet_nil ?_
            refine Plan.left_one 4 (by kernel_rfl) (by rfl) (Plan.plain rfl fun K hK => ?_)
            go_wp2_with (fail)
            refine (bp_less (hbp.of (ExtM.refl _).drew) x hxr HR2.out (hng _ (hh.of (ExtM.refl _).drew))).mono ?_
            rintro e w1 ⟨rfl, h1, k1⟩
            have H1 := ExtG.trans _ _ _ (ExtG.drew (ExtG.refl _)) h1
            obtain ⟨hc1, hf1, -⟩ := ExtG.rules H1
            have hs1_0 : b < w1.heap.size := by have := H1.size; (try simp at this); omega
            go_wp2_with (fail)
            refine hK _ _ h1 ?_
            clear hK K
            refine Plan.left_one 10 (by kernel_rfl) (by rfl) (Plan.plain rfl fun K hK => ?_)
            go_wp2_with (fail)
            refine (bp_rless k1 x hxr HR2.out (hng _ k1.has)).mono ?_
            rintro e w2 ⟨rfl, h2, k2⟩
            clear hc1 hf1 hs1_0
            have H2 := ExtG.trans _ _ _ H1 h2
            obtain ⟨hc2, hf2, -⟩ := ExtG.rules H2
            have hs2_0 : b < w2.heap.size := by have := H2.size; (try simp at this); omega
            go_wp2_with (fail)
            refine hK _ _ h2 ?_
            clear hK K
            refine Plan.left_one 11 (by kernel_rfl) (by rfl) (Plan.plain rfl fun K hK => ?_)
            go_wp2_with (fail)
            refine (lbare0_c _).mono ?_
            rintro e w3 ⟨rfl, h3⟩
            clear hc2 hf2 hs2_0
            have H3 := ExtG.trans _ _ _ H2 (ExtG.of_ext (N := w.heap.size) (B := B) (r := (r.erase x)) h3)
            obtain ⟨hc3, hf3, -⟩ := ExtG.rules H3
            have hs3_0 : b < w3.heap.size := by have := H3.size; (try simp at this); omega
            go_wp2_with (fail)
            refine hK _ _ (ExtG.of_ext (N := w.heap.size) (B := B) (r := (r.erase x)) h3) ?_
            clear hK K
            refine Plan.left_q 12 (by rfl) (by kernel_rfl) ?_; go_big_quiet_step (fail); refine wpQuiet_nil ?_
            refine Plan.left_q 13 (by rfl) (by kernel_rfl) ?_; go_big_quiet_step (fail); refine wpQuiet_nil ?_
            refine Plan.left_q 14 (by rfl) (by kernel_rfl) ?_; go_big_quiet_step (fail); refine wpQuiet_nil ?_
            refine Plan.left_q 15 (by rfl) (by kernel_rfl) ?_; go_big_quiet_step (fail); refine wpQuiet_nil ?_
            refine Plan.left_q 16 (by rfl) (by kernel_rfl) ?_; go_big_quiet_step (fail); refine wpQuiet_nil ?_
            refine Plan.left_q 17 (by rfl) (by kernel_rfl) ?_; go_big_quiet_step (fail); refine wpQuiet_nil ?_
            refine Plan.left_q 18 (by rfl) (by kernel_rfl) ?_; go_big_quiet_step (fail); refine wpQuiet_nil ?_
            refine Plan.left_q 20 (by rfl) (by kernel_rfl) ?_; go_big_quiet_step (fail); refine wpQuiet_nil ?_
            refine Plan.left_q 21 (by rfl) (by kernel_rfl) ?_; go_big_quiet_step (fail); refine wpQuiet_nil ?_
            refine Plan.left_q 22 (by rfl) (by kernel_rfl) ?_; go_big_quiet_step (fail); refine wpQuiet_nil ?_
            refine Plan.left_q 23 (by rfl) (by kernel_rfl) ?_; go_big_quiet_step (fail); refine wpQuiet_nil ?_
            refine Plan.left_q 24 (by rfl) (by kernel_rfl) ?_; go_big_quiet_step (fail); refine wpQuiet_nil ?_
            refine Plan.left_q 25 (by rfl) (by kernel_rfl) ?_; go_big_quiet_step (fail); refine wpQuiet_nil ?_
            refine Plan.left_one 19 (by kernel_rfl) (by rfl) (Plan.want rfl fun K hK => ?_)
            go_wp2_with (fail)
            refine (bp_many (k2.of h3) x hok cn HCN.out).mono ?_
            rintro e w4 ⟨rfl, h4⟩
            clear hc3 hf3 hs3_0
            have H4 := ExtG.trans _ _ _ H3 (ExtG.of_ext (N := w.heap.size) (B := B) (r := (r.erase x)) h4)
            obtain ⟨hc4, hf4, -⟩ := ExtG.rules H4
            have hs4_0 : b < w4.heap.size := by have := H4.size; (try simp at this); omega
            go_wp2_with (fail)
            refine hK _ _ (ExtG.of_ext (N := w.heap.size) (B := B) (r := (r.erase x)) h4) ?_
            clear hK K
            refine Plan.left_one 26 (by kernel_rfl) (by rfl) (Plan.want rfl fun K hK => ?_)
            go_wp2_with (fail)
            refine (bp_rmany' ((k2.of h3).of h4) x HL2.out cn ln HCN.out HLN.out).mono ?_
            rintro e w5 ⟨rfl, h5, q1, q2, cB, lB5, hG5⟩
            clear hc4 hf4 hs4_0
            have H5 := ExtG.trans _ _ _ H4 (ExtG.of_ext (N := w.heap.size) (B := B) (r := (r.erase x)) h5)
            obtain ⟨hc5, hf5, -⟩ := ExtG.rules H5
            have hs5_0 : b < w5.heap.size := by have := H5.size; (try simp at this); omega
            go_wp2_with (fail)
            refine hK _ _ (ExtG.of_ext (N := w.heap.size) (B := B) (r := (r.erase x)) h5) ?_
            clear hK K
            refine Plan.left_q 27 (by rfl) (by kernel_rfl) ?_; go_big_quiet_step (fail); refine wpQuiet_nil ?_
            refine Plan.left_q 28 (by rfl) (by kernel_rfl) ?_; go_big_quiet_step (fail); refine wpQuiet_nil ?_
            refine Plan.left_q 29 (by rfl) (by kernel_rfl) ?_; go_big_quiet_step (fail); refine wpQuiet_nil ?_
            refine Plan.left_q 31 (by rfl) (by kernel_rfl) ?_; go_big_quiet_step (fail); refine wpQuiet_nil ?_
            refine Plan.left_q 32 (by rfl) (by kernel_rfl) ?_; go_big_quiet_step (fail); refine wpQuiet_nil ?_
            refine Plan.left_q 33 (by rfl) (by kernel_rfl) ?_; go_big_quiet_step (fail); refine wpQuiet_nil ?_
            refine Plan.left_q 34 (by rfl) (by kernel_rfl) ?_; go_big_quiet_step (fail); refine wpQuiet_nil ?_
            refine Plan.left_q 35 (by rfl) (by kernel_rfl) ?_; go_big_quiet_step (fail); refine wpQuiet_nil ?_
            refine Plan.left_one 30 (by kernel_rfl) (by rfl) (Plan.want rfl fun K hK => ?_)
            go_wp2_with (fail)
            refine (bp_size (((k2.of h3).of h4).of h5) ln HLN.out).mono ?_
            rintro e w6 ⟨rfl, h6⟩
            clear hc5 hf5 hs5_0
            have H6 := ExtG.trans _ _ _ H5 (ExtG.of_ext (N := w.heap.size) (B := B) (r := (r.erase x)) h6)
            obtain ⟨hc6, hf6, -⟩ := ExtG.rules H6
            have hs6_0 : b < w6.heap.size := by have := H6.size; (try simp at this); omega
            go_wp2_with (fail)
            refine hK _ _ (ExtG.of_ext (N := w.heap.size) (B := B) (r := (r.erase x)) h6) ?_
            clear hK K
            refine Plan.left_q 36 (by rfl) (by kernel_rfl) ?_; go_big_quiet_step (fail); refine wpQuiet_nil ?_
            refine Plan.left_q 37 (by rfl) (by kernel_rfl) ?_; go_big_quiet_step (fail); refine wpQuiet_nil ?_
            refine Plan.left_q 38 (by rfl) (by kernel_rfl) ?_; go_big_quiet_step (fail); refine wpQuiet_nil ?_
            refine Plan.left_q 40 (by rfl) (by kernel_rfl) ?_; go_big_quiet_step (fail); refine wpQuiet_nil ?_
            refine Plan.left_one 39 (by kernel_rfl) (by rfl) (Plan.want rfl fun K hK => ?_)
            go_wp2_with (fail)
            refine (bp_all ((((k2.of h3).of h4).of h5).of h6) HL2.out ln HLN.out).mono ?_
            rintro e w7 ⟨p, cap', rfl, h7, o1⟩
            clear hc6 hf6 hs6_0
            have H7 := ExtG.trans _ _ _ H6 (ExtG.of_ext (N := w.heap.size) (B := B) (r := (r.erase x)) h7)
            obtain ⟨hc7, hf7, -⟩ := ExtG.rules H7
            have hs7_0 : b < w7.heap.size := by have := H7.size; (try simp at this); omega
            go_wp2_with (fail)
            refine hK _ _ (ExtG.of_ext (N := w.heap.size) (B := B) (r := (r.erase x)) h7) ?_
            clear hK K
            refine Plan.left_one 41 (by kernel_rfl) (by rfl) (Plan.want rfl fun K hK => ?_)
            go_wp2_with (fail)
            refine (bp_sorted (((((k2.of h3).of h4).of h5).of h6).of h7) HL2.out ln HLN.out).mono ?_
            rintro e w8 ⟨p2, cap2, rfl, h8, o2⟩
            clear hc7 hf7 hs7_0
            have H8 := ExtG.trans _ _ _ H7 (ExtG.of_ext (N := w.heap.size) (B := B) (r := (r.erase x)) h8)
            obtain ⟨hc8, hf8, -⟩ := ExtG.rules H8
            have hs8_0 : b < w8.heap.size := by have := H8.size; (try simp at this); omega
            go_wp2_with (fail)
            refine hK _ _ (ExtG.of_ext (N := w.heap.size) (B := B) (r := (r.erase x)) h8) ?_
            clear hK K
            refine Plan.left_one 42 (by kernel_rfl) (by rfl) (Plan.want rfl fun K hK => ?_)
            go_wp2_with (fail)
            refine (sameOuts_c _ _ _ _ ln (sortO (r.erase x)) _ (o1.of h8) o2 (by rw [sortO_length]; exact HLN.out) hln2).mono ?_
            rintro e w9 ⟨rfl, h9⟩
            clear hc8 hf8 hs8_0
            have H9 := ExtG.trans _ _ _ H8 (ExtG.of_ext (N := w.heap.size) (B := B) (r := (r.erase x)) h9)
            obtain ⟨hc9, hf9, -⟩ := ExtG.rules H9
            have hs9_0 : b < w9.heap.size := by have := H9.size; (try simp at this); omega
            go_wp2_with (fail)
            refine hK _ _ (ExtG.of_ext (N := w.heap.size) (B := B) (r := (r.erase x)) h9) ?_
            clear hK K
            refine Plan.left_q 43 (by rfl) (by kernel_rfl) ?_; go_big_quiet_step (fail); refine wpQuiet_nil ?_
            refine Plan.left_q 44 (by rfl) (by kernel_rfl) ?_; go_big_quiet_step (fail); refine wpQuiet_nil ?_
            refine Plan.left_done (by kernel_rfl) ?_
            go_wp2_with fail
            go_roundg (xs.length - (n + 1))
            case measure => omega
            case rel => exact ⟨n + 1, by go_num, by omega, Nat.le_refl _, r.erase x, ((((((k2.of h3).of h4).of h5).of h6).of h7).of h8).of h9, by rw [HLN.out]; exact hl1⟩
          -- }DONE
        · have hlen : r.length ≤ n + 1 := by omega
          obtain ⟨e0, e1, e2, e3, e4, e5, e6, e7, e8, e9⟩ := id hel
          have lb := hel.lt
          obtain ⟨cn, hcn⟩ : ∃ cn, (r).count x = cn := ⟨_, rfl⟩
          obtain ⟨ln, hln⟩ : ∃ ln, (r).length = ln := ⟨_, rfl⟩
          have hl1 : ln ≤ n + 1 := by rw [← hln]; exact hlen
          have HCN := Lib.hid hcn
          have HLN := Lib.hid hln
          have hl2 : (r).length < 1000000 := by omega
          have HL2 := Lib.hid hl2
          have hr2 : r.length < 1000000 := by omega
          have HR2 := Lib.hid hr2
          have hln2 : ln < 1000000000 := by omega
          clear hel hcn hln hl2 hr2
          go_wp2_with fail
          -- DONE{
          as_aux_lemma =>
            refine Plan.begin (Plan.ExtG w.heap.size B (HasR B r)) 45 rfl (by kernel_rfl) ?_
            refine Plan.left_q 0 (by rfl) (by kernel_rfl) ?_; go_big_quiet_step (fail); refine wpQuiet_nil ?_
            refine Plan.left_q 1 (by rfl) (by kernel_rfl) ?_; go_big_quiet_step (fail); refine wpQuiet_nil ?_
            refine Plan.left_q 2 (by rfl) (by kernel_rfl) ?_; go_big_quiet_step (fail); refine wpQuiet_nil ?_
            refine Plan.left_q 3 (by rfl) (by kernel_rfl) ?_; go_big_quiet_step (fail); refine wpQuiet_nil ?_
            refine Plan.left_q 5 (by rfl) (by kernel_rfl) ?_; go_big_quiet_step (fail); refine wpQuiet_nil ?_
            refine Plan.left_q 6 (by rfl) (by kernel_rfl) ?_; go_big_quiet_step (fail); refine wpQuiet_nil ?_
            refine Plan.left_q 7 (by rfl) (by kernel_rfl) ?_; go_big_quiet_step (fail); refine wpQuiet_nil ?_
            refine Plan.left_q 8 (by rfl) (by kernel_rfl) ?_; go_big_quiet_step (fail); refine wpQuiet_nil ?_
            refine Plan.left_q 9 (by rfl) (by kernel_rfl) ?_; go_big_quiet_step (fail); refine wpQuiet_nil ?_
            refine Plan.left_one 4 (by kernel_rfl) (by rfl) (Plan.plain rfl fun K hK => ?_)
            go_wp2_with (fail)
            refine (bp_none (hbp.of (ExtM.refl _).drew) x hok hxr).mono ?_
            rintro e w1 ⟨rfl, h1⟩
            have H1 := ExtG.trans _ _ _ (ExtG.drew (ExtG.refl _)) (ExtG.of_ext (N := w.heap.size) (B := B) (r := r) h1)
            obtain ⟨hc1, hf1, -⟩ := ExtG.rules H1
            have hs1_0 : b < w1.heap.size := by have := H1.size; (try simp at this); omega
            go_wp2_with (fail)
            refine hK _ _ (ExtG.of_ext (N := w.heap.size) (B := B) (r := r) h1) ?_
            clear hK K
            refine Plan.left_one 10 (by kernel_rfl) (by rfl) (Plan.plain rfl fun K hK => ?_)
            go_wp2_with (fail)
            refine (bp_rnone ((hbp.of (ExtM.refl _).drew).of h1) x hxr HR2.out).mono ?_
            rintro e w2 ⟨rfl, h2⟩
            clear hc1 hf1 hs1_0
            have H2 := ExtG.trans _ _ _ H1 (ExtG.of_ext (N := w.heap.size) (B := B) (r := r) h2)
            obtain ⟨hc2, hf2, -⟩ := ExtG.rules H2
            have hs2_0 : b < w2.heap.size := by have := H2.size; (try simp at this); omega
            go_wp2_with (fail)
            refine hK _ _ (ExtG.of_ext (N := w.heap.size) (B := B) (r := r) h2) ?_
            clear hK K
            refine Plan.left_one 11 (by kernel_rfl) (by rfl) (Plan.plain rfl fun K hK => ?_)
            go_wp2_with (fail)
            refine (lbare8_c _ (hg.of (((hbp.of (ExtM.refl _).drew).of h1).of h2).ext)).mono ?_
            rintro e w3 ⟨rfl, h3⟩
            clear hc2 hf2 hs2_0
            have H3 := ExtG.trans _ _ _ H2 (ExtG.of_ext (N := w.heap.size) (B := B) (r := r) h3)
            obtain ⟨hc3, hf3, -⟩ := ExtG.rules H3
            have hs3_0 : b < w3.heap.size := by have := H3.size; (try simp at this); omega
            go_wp2_with (fail)
            refine hK _ _ (ExtG.of_ext (N := w.heap.size) (B := B) (r := r) h3) ?_
            clear hK K
            refine Plan.left_q 12 (by rfl) (by kernel_rfl) ?_; go_big_quiet_step (fail); refine wpQuiet_nil ?_
            refine Plan.left_q 13 (by rfl) (by kernel_rfl) ?_; go_big_quiet_step (fail); refine wpQuiet_nil ?_
            refine Plan.left_q 14 (by rfl) (by kernel_rfl) ?_; go_big_quiet_step (fail); refine wpQuiet_nil ?_
            refine Plan.left_q 15 (by rfl) (by kernel_rfl) ?_; go_big_quiet_step (fail); refine wpQuiet_nil ?_
            refine Plan.left_q 16 (by rfl) (by kernel_rfl) ?_; go_big_quiet_step (fail); refine wpQuiet_nil ?_
            refine Plan.left_q 17 (by rfl) (by kernel_rfl) ?_; go_big_quiet_step (fail); refine wpQuiet_nil ?_
            refine Plan.left_q 18 (by rfl) (by kernel_rfl) ?_; go_big_quiet_step (fail); refine wpQuiet_nil ?_
            refine Plan.left_q 20 (by rfl) (by kernel_rfl) ?_; go_big_quiet_step (fail); refine wpQuiet_nil ?_
            refine Plan.left_q 21 (by rfl) (by kernel_rfl) ?_; go_big_quiet_step (fail); refine wpQuiet_nil ?_
            refine Plan.left_q 22 (by rfl) (by kernel_rfl) ?_; go_big_quiet_step (fail); refine wpQuiet_nil ?_
            refine Plan.left_q 23 (by rfl) (by kernel_rfl) ?_; go_big_quiet_step (fail); refine wpQuiet_nil ?_
            refine Plan.left_q 24 (by rfl) (by kernel_rfl) ?_; go_big_quiet_step (fail); refine wpQuiet_nil ?_
            refine Plan.left_q 25 (by rfl) (by kernel_rfl) ?_; go_big_quiet_step (fail); refine wpQuiet_nil ?_
            refine Plan.left_one 19 (by kernel_rfl) (by rfl) (Plan.want rfl fun K hK => ?_)
            go_wp2_with (fail)
            refine (bp_many ((((hbp.of (ExtM.refl _).drew).of h1).of h2).of h3) x hok cn HCN.out).mono ?_
            rintro e w4 ⟨rfl, h4⟩
            clear hc3 hf3 hs3_0
            have H4 := ExtG.trans _ _ _ H3 (ExtG.of_ext (N := w.heap.size) (B := B) (r := r) h4)
            obtain ⟨hc4, hf4, -⟩ := ExtG.rules H4
            have hs4_0 : b < w4.heap.size := by have := H4.size; (try simp at this); omega
            go_wp2_with (fail)
            refine hK _ _ (ExtG.of_ext (N := w.heap.size) (B := B) (r := r) h4) ?_
            clear hK K
            refine Plan.left_one 26 (by kernel_rfl) (by rfl) (Plan.want rfl fun K hK => ?_)
            go_wp2_with (fail)
            refine (bp_rmany' (((((hbp.of (ExtM.refl _).drew).of h1).of h2).of h3).of h4) x HL2.out cn ln HCN.out HLN.out).mono ?_
            rintro e w5 ⟨rfl, h5, q1, q2, cB, lB5, hG5⟩
            clear hc4 hf4 hs4_0
            have H5 := ExtG.trans _ _ _ H4 (ExtG.of_ext (N := w.heap.size) (B := B) (r := r) h5)
            obtain ⟨hc5, hf5, -⟩ := ExtG.rules H5
            have hs5_0 : b < w5.heap.size := by have := H5.size; (try simp at this); omega
            go_wp2_with (fail)
            refine hK _ _ (ExtG.of_ext (N := w.heap.size) (B := B) (r := r) h5) ?_
            clear hK K
            refine Plan.left_q 27 (by rfl) (by kernel_rfl) ?_; go_big_quiet_step (fail); refine wpQuiet_nil ?_
            refine Plan.left_q 28 (by rfl) (by kernel_rfl) ?_; go_big_quiet_step (fail); refine wpQuiet_nil ?_
            refine Plan.left_q 29 (by rfl) (by kernel_rfl) ?_; go_big_quiet_step (fail); refine wpQuiet_nil ?_
            refine Plan.left_q 31 (by rfl) (by kernel_rfl) ?_; go_big_quiet_step (fail); refine wpQuiet_nil ?_
            refine Plan.left_q 32 (by rfl) (by kernel_rfl) ?_; go_big_quiet_step (fail); refine wpQuiet_nil ?_
            refine Plan.left_q 33 (by rfl) (by kernel_rfl) ?_; go_big_quiet_step (fail); refine wpQuiet_nil ?_
            refine Plan.left_q 34 (by rfl) (by kernel_rfl) ?_; go_big_quiet_step (fail); refine wpQuiet_nil ?_
            refine Plan.left_q 35 (by rfl) (by kernel_rfl) ?_; go_big_quiet_step (fail); refine wpQuiet_nil ?_
            refine Plan.left_one 30 (by kernel_rfl) (by rfl) (Plan.want rfl fun K hK => ?_)
            go_wp2_with (fail)
            refine (bp_size ((((((hbp.of (ExtM.refl _).drew).of h1).of h2).of h3).of h4).of h5) ln HLN.out).mono ?_
            rintro e w6 ⟨rfl, h6⟩
            clear hc5 hf5 hs5_0
            have H6 := ExtG.trans _ _ _ H5 (ExtG.of_ext (N := w.heap.size) (B := B) (r := r) h6)
            obtain ⟨hc6, hf6, -⟩ := ExtG.rules H6
            have hs6_0 : b < w6.heap.size := by have := H6.size; (try simp at this); omega
            go_wp2_with (fail)
            refine hK _ _ (ExtG.of_ext (N := w.heap.size) (B := B) (r := r) h6) ?_
            clear hK K
            refine Plan.left_q 36 (by rfl) (by kernel_rfl) ?_; go_big_quiet_step (fail); refine wpQuiet_nil ?_
            refine Plan.left_q 37 (by rfl) (by kernel_rfl) ?_; go_big_quiet_step (fail); refine wpQuiet_nil ?_
            refine Plan.left_q 38 (by rfl) (by kernel_rfl) ?_; go_big_quiet_step (fail); refine wpQuiet_nil ?_
            refine Plan.left_q 40 (by rfl) (by kernel_rfl) ?_; go_big_quiet_step (fail); refine wpQuiet_nil ?_
            refine Plan.left_one 39 (by kernel_rfl) (by rfl) (Plan.want rfl fun K hK => ?_)
            go_wp2_with (fail)
            refine (bp_all (((((((hbp.of (ExtM.refl _).drew).of h1).of h2).of h3).of h4).of h5).of h6) HL2.out ln HLN.out).mono ?_
            rintro e w7 ⟨p, cap', rfl, h7, o1⟩
            clear hc6 hf6 hs6_0
            have H7 := ExtG.trans _ _ _ H6 (ExtG.of_ext (N := w.heap.size) (B := B) (r := r) h7)
            obtain ⟨hc7, hf7, -⟩ := ExtG.rules H7
            have hs7_0 : b < w7.heap.size := by have := H7.size; (try simp at this); omega
            go_wp2_with (fail)
            refine hK _ _ (ExtG.of_ext (N := w.heap.size) (B := B) (r := r) h7) ?_
            clear hK K
            refine Plan.left_one 41 (by kernel_rfl) (by rfl) (Plan.want rfl fun K hK => ?_)
            go_wp2_with (fail)
            refine (bp_sorted ((((((((hbp.of (ExtM.refl _).drew).of h1).of h2).of h3).of h4).of h5).of h6).of h7) HL2.out ln HLN.out).mono ?_
            rintro e w8 ⟨p2, cap2, rfl, h8, o2⟩
            clear hc7 hf7 hs7_0
            have H8 := ExtG.trans _ _ _ H7 (ExtG.of_ext (N := w.heap.size) (B := B) (r := r) h8)
            obtain ⟨hc8, hf8, -⟩ := ExtG.rules H8
            have hs8_0 : b < w8.heap.size := by have := H8.size; (try simp at this); omega
            go_wp2_with (fail)
            refine hK _ _ (ExtG.of_ext (N := w.heap.size) (B := B) (r := r) h8) ?_
            clear hK K
            refine Plan.left_one 42 (by kernel_rfl) (by rfl) (Plan.want rfl fun K hK => ?_)
            go_wp2_with (fail)
            refine (sameOuts_c _ _ _ _ ln (sortO (r)) _ (o1.of h8) o2 (by rw [sortO_length]; exact HLN.out) hln2).mono ?_
            rintro e w9 ⟨rfl, h9⟩
            clear hc8 hf8 hs8_0
            have H9 := ExtG.trans _ _ _ H8 (ExtG.of_ext (N := w.heap.size) (B := B) (r := r) h9)
            obtain ⟨hc9, hf9, -⟩ := ExtG.rules H9
            have hs9_0 : b < w9.heap.size := by have := H9.size; (try simp at this); omega
            go_wp2_with (fail)
            refine hK _ _ (ExtG.of_ext (N := w.heap.size) (B := B) (r := r) h9) ?_
            clear hK K
            refine Plan.left_q 43 (by rfl) (by kernel_rfl) ?_; go_big_quiet_step (fail); refine wpQuiet_nil ?_
            refine Plan.left_q 44 (by rfl) (by kernel_rfl) ?_; go_big_quiet_step (fail); refine wpQuiet_nil ?_
            refine Plan.left_done (by kernel_rfl) ?_
            go_wp2_with fail
            go_roundg (xs.length - (n + 1))
            case measure => omega
            case rel => exact ⟨n + 1, by go_num, by omega, Nat.le_refl _, r, (((((((((hbp.of (ExtM.refl _).drew).of h1).of h2).of h3).of h4).of h5).of h6).of h7).of h8).of h9, by rw [HLN.out]; exact hl1⟩
          -- }DONE
    · have hz : decide (n < xs.length) = false := by simp; omega
      obtain ⟨r, hbp, hrl⟩ := hS
      have hx := hbp.ext
      go_wp2_with fail
      go_ret
      exact ⟨rfl, hx⟩
end Go.Proofs.YtggjceolhbdalaaDoor
