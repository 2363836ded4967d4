/- SidePlays: the walk. -/
import Derived.Test.YtggjceolhbdalaaDoorSPc
import Derived.Test.YtggjceolhbdalaaDoorErrs3
import Derived.Test.YtggjceolhbdalaaDoorSliceArgs
import Derived.Deep.DeepCutAuto
import Derived.Deep.CutBlock
namespace Go.Proofs.YtggjceolhbdalaaDoor
open Go.RowKit Go.Plan

/-- bare, at an error and its number. -/
theorem bareE_c (n : Int) (w : World) (hg : Laid w) : Calls Tryd.prog 10 #[errV n, .int .i64 n] w fun e w' => e = .returned (.bool true) ∧ Ext w w' := by
  unfold errV
  split
  · rename_i h; subst h
    exact (lbare_nil 0 w).mono fun e w' hh => ⟨by simpa using hh.1, hh.2 ▸ ExtM.refl _⟩
  · exact (lbare_c n n w hg).mono fun e w' hh => ⟨by simpa using hh.1, hh.2⟩

theorem MRow.of {w w' : World} {b : Nat} {v : Value} {l : List Hd} (h : MRow w b v l) (hx : Ext w w') : MRow w' b v l := own_ext h hx (fun _ _ h => h)

/-- One of the law's steps. -/
structure DoX where
  what : Int
  met : Int
  fr : Int
  til : Int
  r : Row
def DoX.hd (d : DoX) : Hd := ⟨d.r, d.met⟩
/-- A step's cells. -/
structure ElemD (w : World) (b o : Nat) (d : DoX) : Prop where
  c0 : w.cell? ⟨b, o, none⟩ = some (.int .i64 d.what)
  c1 : w.cell? ⟨b, o + 1, none⟩ = some (.int .i64 d.met)
  c2 : w.cell? ⟨b, o + 2, none⟩ = some (.int .i64 d.fr)
  c3 : w.cell? ⟨b, o + 3, none⟩ = some (.int .i64 d.til)
  c4 : w.cell? ⟨b, o + 4, none⟩ = some (.int .i64 d.r.k)
  c5 : w.cell? ⟨b, o + 5, none⟩ = some (.int .i64 d.r.t)
  c6 : w.cell? ⟨b, o + 6, none⟩ = some (.int .i64 d.r.v)
theorem ElemD.lt {w : World} {b o : Nat} {d : DoX} (h : ElemD w b o d) : b < w.heap.size := lt_of_cell h.c0
theorem ElemD.of {w w' : World} {b o : Nat} {d : DoX} (h : ElemD w b o d) (hx : Ext w w') : ElemD w' b o d := by
  have k := fun q => hx.cell (p := ⟨b, q, none⟩) h.lt (fun h => h)
  exact ⟨(k _).trans h.c0, (k _).trans h.c1, (k _).trans h.c2, (k _).trans h.c3, (k _).trans h.c4, (k _).trans h.c5, (k _).trans h.c6⟩
def DosIn (w : World) (a : Option Addr) (xs : List DoX) : Prop := xs = [] ∨ ∃ b off, a = some ⟨b, off, none⟩ ∧ ∀ i (h : i < xs.length), ElemD w b (off + i * 7) xs[i]

/-- The reference's row behind a Meet. -/
def bumpR (key fr til : Int) (x : RHd) : RHd := if meetP key fr til x.hd then ⟨x.r, wrap64 (x.m + 1), x.c⟩ else x
theorem bumpR_hd (key fr til : Int) (x : RHd) : (bumpR key fr til x).r = x.r ∧ (bumpR key fr til x).c = x.c ∧ (bumpR key fr til x).hd = bumpIf (meetP key fr til) x.hd := by
  unfold bumpR bumpIf
  split <;> exact ⟨rfl, rfl, rfl⟩
theorem bump_get (f : RHd → RHd) (L : List RHd) (q : Nat) (h : q < L.length) : ((L.take q).map f ++ L.drop q)[q]? = some L[q] := by
  rw [List.getElem?_append_right (by simp; omega)]
  simp [Nat.min_eq_left (Nat.le_of_lt h)]
theorem bump_set (f : RHd → RHd) (L : List RHd) (q : Nat) (h : q < L.length) : ((L.take q).map f ++ L.drop q).set q (f L[q]) = (L.take (q + 1)).map f ++ L.drop (q + 1) := by
  have e : q - ((L.take q).map f).length = 0 := by simp; omega
  rw [List.set_append_right _ _ (by simp; omega), e, List.drop_eq_getElem_cons h, List.set_cons_zero, List.take_succ_eq_append_getElem h, List.map_append, List.append_assoc]
  rfl
theorem List.set_getElem?_self {α : Type} {l : List α} {i : Nat} {x : α} (h : l[i]? = some x) : l.set i x = l := by
  obtain ⟨hi, rfl⟩ := List.getElem?_eq_some_iff.1 h
  exact List.set_getElem_self hi

/-- What holds between the law's rounds. -/
def SPL (w u : World) (A J n : Nat) : Prop := ∃ hs L came, SP0 w u A J (fun _ => False) hs L came ∧ (∃ S, RelS hs S L came) ∧ L.length ≤ 300 ∧ 0 ≤ came ∧ came ≤ (n : Int)
theorem SPL.of {w u u' : World} {A J n : Nat} (h : SPL w u A J n) (hx : Ext u u') : SPL w u' A J n := by
  obtain ⟨hs, L, came, h1, h2⟩ := h; exact ⟨hs, L, came, h1.of hx, h2⟩
theorem SPL.ext {w u : World} {A J n : Nat} (h : SPL w u A J n) : Ext w u := by
  obtain ⟨hs, L, came, h1, -⟩ := h; exact h1.ext
theorem putL_len {L : List RHd} {x : Hd} {came : Int} (h : L.length ≤ 300) : (putL L x came).length ≤ 300 := by
  unfold putL
  by_cases he : addE (L.map RHd.hd) x = 0
  · rw [if_pos he, List.length_append, List.length_singleton]
    unfold addE at he
    rw [List.length_map] at he
    by_cases h1 : (goodB x.r.k x.r.t x.r.v && decide (0 ≤ x.m)) = false
    · rw [if_pos h1] at he; omega
    · rw [if_neg h1] at he
      by_cases h2 : 300 ≤ L.length
      · rw [if_pos h2] at he; omega
      · omega
  · rw [if_neg he]; exact h
theorem putN_le {L : List RHd} {x : Hd} {came : Int} : came ≤ putN L x came ∧ putN L x came ≤ came + 1 := by
  unfold putN; split <;> omega

set_option maxRecDepth 100000 in
set_option maxHeartbeats 8000000 in
theorem sidePlays_w (a : Option Addr) (cap : Nat) (xs : List DoX) (fill : Int) (w : World) (hg : Laid w) (hin : DosIn w a xs) (_ : I64 fill) :
    Calls Tryd.prog 6 #[.slice a xs.length cap, .int .i64 fill] w fun e w' => e = .returned (.bool true) ∧ Ext w w' := by
  by_cases h100 : 100 < xs.length
  · have d : decide (100 < (xs.length : Int)) = true := by simp; omega
    go_enter Tryd.func6, Tryd.ntmps6
    go_wp2_with fail
    go_ret
    exact ⟨rfl, ExtM.refl _⟩
  have d : decide (100 < (xs.length : Int)) = false := by simp; omega
  have e1 : IntKind.u64.wrap fill = fill % 18446744073709551616 := by simp [IntKind.wrap, IntKind.bits, IntKind.signed]
  have h0 : 0 ≤ fill % 18446744073709551616 := Int.emod_nonneg _ (by decide)
  go_enter Tryd.func6, Tryd.ntmps6
  go_wp2_with (
    go_at_call 28
    refine (newJoin_c _ _ _ _).mono ?_
    rintro e w1 ⟨rfl, hN⟩)
  have hA0 : w.heap.size < (w.alloc (.cells #[.slice none 0 0] 76)).heap.size := by simp
  have hX0 : Ext w w1 := ExtM.trans _ _ _ ((ExtM.refl w).alloc _) hN.ext
  have hrj := hN.rj 0 (by omega)
  have hrow : ∀ k, (Value.slice none 0 0).ownBlock ≠ some k := fun k e => by cases e
  have hside : SideIs w1 w.heap.size 0 (.slice none 0 0) [] :=
    ⟨(hN.ext.cell (p := ⟨w.heap.size, 0, none⟩) hA0 (fun h => h)).trans (by go_simp), (hN.ext.frozen (p := ⟨w.heap.size, 0, none⟩) hA0 (fun h => h)).trans (by go_simp), ⟨rfl, .inl ⟨rfl, rfl⟩⟩, List.Pairwise.nil, hrow _⟩
  have hJ : (w.alloc (.cells #[.slice none 0 0] 76)).heap.size + 1 = w.heap.size + 1 + 1 := by simp
  rw [hJ] at hrj
  have hS0 : SPL w w1 w.heap.size (w.heap.size + 1 + 1) 0 := ⟨[], [], 0, ⟨_, _, hX0, Nat.le_refl _, by omega, by omega, hside, hrj, fun k hk => absurd hk (hrow k), fun k hk => absurd hk (hrow k), fun b hb => hb.elim⟩, ⟨[], RelS.nil 0⟩, by simp, by omega, by omega⟩
  clear hside hrj hrow hX0 hA0 hN hJ
  have hnA : w.heap.size < w.heap.size + 1 + 1 := by omega
  generalize w.heap.size + 1 + 1 = J at *
  go_loopg [7] 303 (fun kx s7 wr => ∃ i : Nat, s7 = .int .i64 i ∧ i ≤ 302 ∧ 302 - i ≤ kx ∧ SPL w wr w.heap.size J i)
  case atStart => exact ⟨0, rfl, by omega, by omega, hS0⟩
  case round =>
    clear hS0
    obtain ⟨i, rfl, hi, hgk, hS⟩ := hrel
    by_cases hlt : (i : Int) < fill % 18446744073709551616 % 302
    · have hle : fill % 18446744073709551616 % 302 < 302 := Int.emod_lt_of_pos _ (by decide)
      go_wp2_with fail
      obtain ⟨hs, L, came, h0', hrel, hL, hc0, hc1⟩ := hS
      have h8 : SP0 w (wr.alloc (.cells #[.int .i64 ((i : Int) % 3), .int .i64 ((i : Int) % 7), .int .i64 0] 43)) w.heap.size J (fun k => k = wr.heap.size) hs L came := by
        obtain ⟨v, r, h⟩ := h0'
        exact ⟨v, r, h.wide ((ExtM.refl _).alloc _) (fun b hb => .inr ⟨by omega, by simp; omega⟩)⟩
      have hgr := hg.of h8.ext
      have b0 : (wr.alloc (.cells #[.int .i64 ((i : Int) % 3), .int .i64 ((i : Int) % 7), .int .i64 0] 43)).cell? ⟨wr.heap.size, 0, none⟩ = some (.int .i64 ((i : Int) % 3)) := by go_simp
      have b1 : (wr.alloc (.cells #[.int .i64 ((i : Int) % 3), .int .i64 ((i : Int) % 7), .int .i64 0] 43)).cell? ⟨wr.heap.size, 1, none⟩ = some (.int .i64 ((i : Int) % 7)) := by go_simp
      have b2 : (wr.alloc (.cells #[.int .i64 ((i : Int) % 3), .int .i64 ((i : Int) % 7), .int .i64 0] 43)).cell? ⟨wr.heap.size, 2, none⟩ = some (.int .i64 0) := by go_simp
      have lB : wr.heap.size < (wr.alloc (.cells #[.int .i64 ((i : Int) % 3), .int .i64 ((i : Int) % 7), .int .i64 0] 43)).heap.size := by simp
      generalize wr.alloc (.cells #[.int .i64 ((i : Int) % 3), .int .i64 ((i : Int) % 7), .int .i64 0] 43) = W8 at *
      have hB : w.heap.size ≤ wr.heap.size := h0'.ext.size
      clear h0'
      generalize wr.heap.size = B at *
      have hl : addE (L.map RHd.hd) ⟨⟨(i : Int) % 3, (i : Int) % 7, 0⟩, 0⟩ = addE hs ⟨⟨(i : Int) % 3, (i : Int) % 7, 0⟩, 0⟩ := by
        obtain ⟨S, hS⟩ := hrel
        unfold addE; rw [List.length_map, hS.len]
      have hput := fun u (h : SP0 w u w.heap.size J (fun k => k = B) (addL hs ⟨⟨(i : Int) % 3, (i : Int) % 7, 0⟩, 0⟩) L came) => sp_put h ⟨⟨(i : Int) % 3, (i : Int) % 7, 0⟩, 0⟩ ⟨hc0, by omega⟩
      rw [hl] at hput
      clear hl
      have hrel' := relS_addput hrel ⟨⟨(i : Int) % 3, (i : Int) % 7, 0⟩, 0⟩
      have hL' := putL_len (x := ⟨⟨(i : Int) % 3, (i : Int) % 7, 0⟩, 0⟩) (came := came) hL
      have hcm := putN_le (L := L) (x := ⟨⟨(i : Int) % 3, (i : Int) % 7, 0⟩, 0⟩) (came := came)
      have HH := Lib.hid (And.intro hrel' (And.intro hL' hcm))
      clear hrel' hL' hcm hrel
      -- DONE{
      as_aux_lemma =>
        refine Plan.begin (Plan.ExtK B) 7 rfl (by kernel_rfl) ?_
        refine Plan.left_q 0 (by rfl) (by kernel_rfl) ?_; go_big_quiet_step (fail); refine wpQuiet_nil ?_
        refine Plan.left_q 2 (by rfl) (by kernel_rfl) ?_; go_big_quiet_step (fail); refine wpQuiet_nil ?_
        refine Plan.left_q 3 (by rfl) (by kernel_rfl) ?_; go_big_quiet_step (fail); refine wpQuiet_nil ?_
        refine Plan.left_one 1 (by kernel_rfl) (by rfl) (Plan.plain rfl fun K hK => ?_)
        go_wp2_with (fail)
        refine (sp_add (h8.of (ExtM.refl _).drew) ⟨⟨_, _, _⟩, _⟩).mono ?_
        rintro e w1 ⟨rfl, ⟨h1, k1⟩⟩
        have H1 := ExtK.trans _ _ _ (ExtK.refl _).drew h1
        obtain ⟨hc1, hf1, -⟩ := ExtK.rules H1
        have hs1_0 : B < w1.heap.size := by have := H1.size; (try simp at this); omega
        go_wp2_with (fail)
        refine hK _ _ h1 ?_
        clear hK K
        refine Plan.left_one 4 (by kernel_rfl) (by rfl) (Plan.plain rfl fun K hK => ?_)
        go_wp2_with (fail)
        refine (hput _ k1).mono ?_
        rintro e w2 ⟨rfl, ⟨h2, k2⟩⟩
        clear hc1 hf1 hs1_0
        have H2 := ExtK.trans _ _ _ H1 h2
        obtain ⟨hc2, hf2, -⟩ := ExtK.rules H2
        have hs2_0 : B < w2.heap.size := by have := H2.size; (try simp at this); omega
        go_wp2_with (fail)
        refine hK _ _ h2 ?_
        clear hK K
        refine Plan.left_one 5 (by kernel_rfl) (by rfl) (Plan.plain rfl fun K hK => ?_)
        go_wp2_with (fail)
        refine (bareE_c _ _ (hg.of k2.ext)).mono ?_
        rintro e w3 ⟨rfl, h3⟩
        clear hc2 hf2 hs2_0
        have H3 := ExtK.trans _ _ _ H2 (ExtK.of_ext h3)
        obtain ⟨hc3, hf3, -⟩ := ExtK.rules H3
        have hs3_0 : B < w3.heap.size := by have := H3.size; (try simp at this); omega
        go_wp2_with (fail)
        refine hK _ _ (ExtK.of_ext h3) ?_
        clear hK K
        refine Plan.left_q 6 (by rfl) (by kernel_rfl) ?_; go_big_quiet_step (fail); refine wpQuiet_nil ?_
        refine Plan.left_done (by kernel_rfl) ?_
        go_wp2_with fail
        go_roundg (302 - (i + 1))
        case measure => omega
        case rel =>
          obtain ⟨hr, hL', hcm⟩ := HH.out
          obtain ⟨v, r, k2⟩ := k2.of h3
          exact ⟨i + 1, by go_num, by omega, Nat.le_refl _, _, _, _, ⟨v, r, k2.narrow (fun b hb => hb.elim)⟩, hr, hL', by omega, by push_cast; omega⟩
      -- }DONE
    · have hz : decide ((i : Int) < fill % 18446744073709551616 % 302) = false := by simp; omega
      go_wp2_with fail
      have hS0 : SPL w wr w.heap.size J 302 := by
        obtain ⟨hs, L, came, h1, h2, h3, h4, h5⟩ := hS
        exact ⟨hs, L, came, h1, h2, h3, h4, by omega⟩
      clear hS hz hlt hi hgk
      go_loopg [9] (xs.length + 1) (fun kx s9 wr => ∃ n : Nat, s9 = .int .i64 n ∧ n ≤ xs.length ∧ xs.length - n ≤ kx ∧ SPL w wr w.heap.size J (302 + n))
      case atStart => exact ⟨0, rfl, by omega, by omega, hS0⟩
      case round =>
        clear hS0
        obtain ⟨n, rfl, hn, hgk, hS⟩ := hrel
        by_cases hlt : n < xs.length
        · obtain ⟨b, off, rfl, hel⟩ : ∃ b off, a = some ⟨b, off, none⟩ ∧ ∀ i (h : i < xs.length), ElemD w b (off + i * 7) xs[i] := by
            rcases hin with h | h
            · subst h; simp at hlt
            · exact h
          have hx := hS.ext
          have lw := (hel n hlt).lt
          obtain ⟨c0, c1, c2, c3, c4, c5, c6⟩ := (hel n hlt).of hx
          clear hel
          generalize xs[n] = dd at *
          obtain ⟨wh, mt, fr, til, ⟨rk, rt, rv⟩⟩ := dd
          simp only at c0 c1 c2 c3 c4 c5 c6
          go_upto_block 4 with fail
          obtain ⟨hs, L, came, h0', hrel, hL, hc0, hc1⟩ := hS
          have h8 : SP0 w (wr.alloc (.cells #[.int .i64 wh, .int .i64 mt, .int .i64 fr, .int .i64 til, .int .i64 rk, .int .i64 rt, .int .i64 rv] 85)) w.heap.size J (fun k => k = wr.heap.size) hs L came := by
            obtain ⟨v, r, h⟩ := h0'
            exact ⟨v, r, h.wide ((ExtM.refl _).alloc _) (fun b hb => .inr ⟨by omega, by simp; omega⟩)⟩
          have hB : w.heap.size ≤ wr.heap.size := h0'.ext.size
          have b0 : (wr.alloc (.cells #[.int .i64 wh, .int .i64 mt, .int .i64 fr, .int .i64 til, .int .i64 rk, .int .i64 rt, .int .i64 rv] 85)).cell? ⟨wr.heap.size, 0, none⟩ = some (.int .i64 wh) := by go_simp
          have b1 : (wr.alloc (.cells #[.int .i64 wh, .int .i64 mt, .int .i64 fr, .int .i64 til, .int .i64 rk, .int .i64 rt, .int .i64 rv] 85)).cell? ⟨wr.heap.size, 1, none⟩ = some (.int .i64 mt) := by go_simp
          have b2 : (wr.alloc (.cells #[.int .i64 wh, .int .i64 mt, .int .i64 fr, .int .i64 til, .int .i64 rk, .int .i64 rt, .int .i64 rv] 85)).cell? ⟨wr.heap.size, 2, none⟩ = some (.int .i64 fr) := by go_simp
          have b3 : (wr.alloc (.cells #[.int .i64 wh, .int .i64 mt, .int .i64 fr, .int .i64 til, .int .i64 rk, .int .i64 rt, .int .i64 rv] 85)).cell? ⟨wr.heap.size, 3, none⟩ = some (.int .i64 til) := by go_simp
          have b4 : (wr.alloc (.cells #[.int .i64 wh, .int .i64 mt, .int .i64 fr, .int .i64 til, .int .i64 rk, .int .i64 rt, .int .i64 rv] 85)).cell? ⟨wr.heap.size, 4, none⟩ = some (.int .i64 rk) := by go_simp
          have b5 : (wr.alloc (.cells #[.int .i64 wh, .int .i64 mt, .int .i64 fr, .int .i64 til, .int .i64 rk, .int .i64 rt, .int .i64 rv] 85)).cell? ⟨wr.heap.size, 5, none⟩ = some (.int .i64 rt) := by go_simp
          have b6 : (wr.alloc (.cells #[.int .i64 wh, .int .i64 mt, .int .i64 fr, .int .i64 til, .int .i64 rk, .int .i64 rt, .int .i64 rv] 85)).cell? ⟨wr.heap.size, 6, none⟩ = some (.int .i64 rv) := by go_simp
          have lB : wr.heap.size < (wr.alloc (.cells #[.int .i64 wh, .int .i64 mt, .int .i64 fr, .int .i64 til, .int .i64 rk, .int .i64 rt, .int .i64 rv] 85)).heap.size := by simp
          generalize wr.alloc (.cells #[.int .i64 wh, .int .i64 mt, .int .i64 fr, .int .i64 til, .int .i64 rk, .int .i64 rt, .int .i64 rv] 85) = W8 at *
          clear h0' c0 c1 c2 c3 c4 c5 c6 hx lw
          generalize wr.heap.size = B at *
          have hgr := hg.of h8.ext
          have hll : hs.length = L.length := by obtain ⟨S, hS⟩ := hrel; exact hS.len
          go_cut [] (fun wx => SPL w wx w.heap.size J (302 + (n + 1)))
          case first =>
            by_cases q0 : wh = 0
            · subst q0
              go_wp2_with fail
              have hl : addE (L.map RHd.hd) ⟨⟨rk, rt, rv⟩, mt⟩ = addE hs ⟨⟨rk, rt, rv⟩, mt⟩ := by unfold addE; rw [List.length_map, hll]
              have hput := fun u (h : SP0 w u w.heap.size J (fun k => k = B) (addL hs ⟨⟨rk, rt, rv⟩, mt⟩) L came) => sp_put h ⟨⟨rk, rt, rv⟩, mt⟩ ⟨hc0, by omega⟩
              rw [hl] at hput
              clear hl
              have HH := Lib.hid (And.intro (relS_addput hrel ⟨⟨rk, rt, rv⟩, mt⟩) (And.intro (putL_len (x := ⟨⟨rk, rt, rv⟩, mt⟩) (came := came) hL) (putN_le (L := L) (x := ⟨⟨rk, rt, rv⟩, mt⟩) (came := came))))
              clear hrel hll
              -- DONE{
              as_aux_lemma =>
                refine Plan.begin (Plan.ExtK B) 13 rfl (by kernel_rfl) ?_
                refine Plan.left_q 0 (by rfl) (by kernel_rfl) ?_; go_big_quiet_step (fail); refine wpQuiet_nil ?_
                refine Plan.left_q 1 (by rfl) (by kernel_rfl) ?_; go_big_quiet_step (fail); refine wpQuiet_nil ?_
                refine Plan.left_q 2 (by rfl) (by kernel_rfl) ?_; go_big_quiet_step (fail); refine wpQuiet_nil ?_
                refine Plan.left_q 3 (by rfl) (by kernel_rfl) ?_; go_big_quiet_step (fail); refine wpQuiet_nil ?_
                refine Plan.left_q 5 (by rfl) (by kernel_rfl) ?_; go_big_quiet_step (fail); refine wpQuiet_nil ?_
                refine Plan.left_q 6 (by rfl) (by kernel_rfl) ?_; go_big_quiet_step (fail); refine wpQuiet_nil ?_
                refine Plan.left_q 7 (by rfl) (by kernel_rfl) ?_; go_big_quiet_step (fail); refine wpQuiet_nil ?_
                refine Plan.left_q 8 (by rfl) (by kernel_rfl) ?_; go_big_quiet_step (fail); refine wpQuiet_nil ?_
                refine Plan.left_q 9 (by rfl) (by kernel_rfl) ?_; go_big_quiet_step (fail); refine wpQuiet_nil ?_
                refine Plan.left_one 4 (by kernel_rfl) (by rfl) (Plan.plain rfl fun K hK => ?_)
                go_wp2_with (fail)
                refine (sp_add (h8.of (ExtM.refl _).drew) ⟨⟨_, _, _⟩, _⟩).mono ?_
                rintro e w1 ⟨rfl, ⟨h1, k1⟩⟩
                have H1 := ExtK.trans _ _ _ (ExtK.refl _).drew h1
                obtain ⟨hc1, hf1, -⟩ := ExtK.rules H1
                have hs1_0 : B < w1.heap.size := by have := H1.size; (try simp at this); omega
                go_wp2_with (fail)
                refine hK _ _ h1 ?_
                clear hK K
                refine Plan.left_one 10 (by kernel_rfl) (by rfl) (Plan.plain rfl fun K hK => ?_)
                go_wp2_with (fail)
                refine (hput _ k1).mono ?_
                rintro e w2 ⟨rfl, ⟨h2, k2⟩⟩
                clear hc1 hf1 hs1_0
                have H2 := ExtK.trans _ _ _ H1 h2
                obtain ⟨hc2, hf2, -⟩ := ExtK.rules H2
                have hs2_0 : B < w2.heap.size := by have := H2.size; (try simp at this); omega
                go_wp2_with (fail)
                refine hK _ _ h2 ?_
                clear hK K
                refine Plan.left_one 11 (by kernel_rfl) (by rfl) (Plan.plain rfl fun K hK => ?_)
                go_wp2_with (fail)
                refine (bareE_c _ _ (hg.of k2.ext)).mono ?_
                rintro e w3 ⟨rfl, h3⟩
                clear hc2 hf2 hs2_0
                have H3 := ExtK.trans _ _ _ H2 (ExtK.of_ext h3)
                obtain ⟨hc3, hf3, -⟩ := ExtK.rules H3
                have hs3_0 : B < w3.heap.size := by have := H3.size; (try simp at this); omega
                go_wp2_with (fail)
                refine hK _ _ (ExtK.of_ext h3) ?_
                clear hK K
                refine Plan.left_q 12 (by rfl) (by kernel_rfl) ?_; go_big_quiet_step (fail); refine wpQuiet_nil ?_
                refine Plan.left_done (by kernel_rfl) ?_
                go_wp2_with fail
                go_meet
                case rel =>
                  obtain ⟨hr, hL', hcm⟩ := HH.out
                  obtain ⟨v, r, k2⟩ := k2.of h3
                  exact ⟨_, _, _, ⟨v, r, k2.narrow (fun b hb => hb.elim)⟩, hr, hL', by omega, by push_cast; omega⟩
              -- }DONE
            · have d0 : (wh == 0) = false := by simp [q0]
              have hkeep : SPL w W8 w.heap.size J (302 + (n + 1)) := by
                obtain ⟨v, r, h⟩ := h8
                exact ⟨hs, L, came, ⟨v, r, h.narrow (fun b hb => hb.elim)⟩, hrel, hL, hc0, by push_cast at *; omega⟩
              by_cases q1 : wh = 1
              · subst q1
                clear hkeep
                obtain ⟨S, hS⟩ := hrel
                have HR := Lib.hid hS
                clear hS
                have hl9 : L.length < 100000 := by omega
                go_wp2_with (
                  go_at_call 31
                  refine (sp_rall h8 hl9).mono ?_
                  rintro e w1 ⟨u, R, rfl, kr, hx1, kp, ks⟩)
                obtain ⟨pu, cu, rfl⟩ := kr.slice
                have HRS : Hid (R = S ∧ R.length = L.length) := Lib.hid ⟨weak_unique HR.out.srt (kp.trans HR.out.perm.symm) ks, kp.length_eq⟩
                have hRl : R.length ≤ 300 := by rw [kp.length_eq]; exact hL
                clear kp ks
                obtain ⟨v0, r0, h8x⟩ := h8
                have h1x := h8x.of hx1
                have lB1 : B < w1.heap.size := Nat.lt_of_lt_of_le lB hx1.size
                have kB := fun q => hx1.cell (p := ⟨B, q, none⟩) lB (fun h => h)
                have B2 := (kB _).trans b2
                have B3 := (kB _).trans b3
                have B4 := (kB _).trans b4
                have B5 := (kB _).trans b5
                have B6 := (kB _).trans b6
                clear kB b0 b1 b2 b3 b4 b5 b6 hgr
                go_loopg [11, 13] (R.length + 1) (fun kx s11 s13 wr => ∃ k : Nat, s13 = .int .i64 k ∧ k ≤ R.length ∧ R.length - k ≤ kx ∧ Ext w1 wr ∧ JRow wr w1.heap.size s11 ((R.take k).filter (fun x => meetP rk fr til x.hd)))
                case atStart => exact ⟨0, rfl, by omega, by omega, ExtM.refl _, ⟨rfl, .inl ⟨rfl, rfl⟩⟩⟩
                case round =>
                  obtain ⟨k, rfl, hk, hgk2, hxk, hwant⟩ := hrel
                  have kB := fun q => hxk.cell (p := ⟨B, q, none⟩) lB1 (fun h => h)
                  have C2 := (kB _).trans B2
                  have C3 := (kB _).trans B3
                  have C4 := (kB _).trans B4
                  have C5 := (kB _).trans B5
                  have C6 := (kB _).trans B6
                  have lB2 : B < wr.heap.size := Nat.lt_of_lt_of_le lB1 hxk.size
                  clear kB
                  by_cases hkl : k < R.length
                  · obtain ⟨g, rc, e', hg', x0, x1, x2, x3, x4⟩ := rrow_cells (own_weaken (kr.extF hxk) (Nat.zero_le _)) k hkl
                    simp only [Value.slice.injEq, true_and] at e'
                    obtain ⟨rfl, rfl⟩ := e'
                    have htk : R.take (k + 1) = R.take k ++ [R[k]!] := by rw [List.take_succ_eq_append_getElem hkl, getElem!_pos R k hkl]
                    generalize R[k]! = X at *
                    have HTK := Lib.hid htk
                    clear htk
                    have hlw : ((R.take k).filter (fun x => meetP rk fr til x.hd)).length < 1000000 := by
                      have h1 := List.length_filter_le (fun x => meetP rk fr til x.hd) (R.take k)
                      rw [List.length_take] at h1
                      have := HRS.out.2
                      omega
                    -- DONE{
                    as_aux_lemma =>
                      by_cases hk1 : X.r.k = rk
                      · have dk : (X.r.k == rk) = true := by simp [hk1]
                        by_cases hk2 : fr ≤ X.r.t
                        · have dk2 : decide (fr ≤ X.r.t) = true := by simp [hk2]
                          by_cases hk3 : X.r.t ≤ til
                          · have dk3 : decide (X.r.t ≤ til) = true := by simp [hk3]
                            have HM : Hid (meetP rk fr til X.hd = true) := Lib.hid ((meetP_iff _ _ _ _).2 ⟨hk1, hk2, hk3⟩)
                            clear hk1 hk2 hk3
                            obtain ⟨v', w', happ, hown', hgr', hloc⟩ := run_appendR ((wr.alloc (.cells #[.int .i64 X.r.k, .int .i64 X.r.t, .int .i64 X.r.v, .int .i64 X.m, .int .i64 X.c] 89)).alloc (.cells #[.int .i64 X.r.k, .int .i64 X.r.t, .int .i64 X.r.v, .int .i64 X.m, .int .i64 X.c] 89)) w1.heap.size (wr.heap.size + 1) 1 u11 ((R.take k).filter (fun x => meetP rk fr til x.hd)) X 86 (hwant.extF (((ExtM.refl wr).alloc _).alloc _)) (newB wr _ X) hlw (by have := hxk.size; simp; omega)
                            have hge : ∀ q, u11.ownBlock = some q → w1.heap.size ≤ q := fun q hq => (own_lt hwant q hq).1
                            have hx' : Ext w1 w' := ((hxk.alloc (.cells #[.int .i64 X.r.k, .int .i64 X.r.t, .int .i64 X.r.v, .int .i64 X.m, .int .i64 X.c] 89)).alloc (.cells #[.int .i64 X.r.k, .int .i64 X.r.t, .int .i64 X.r.v, .int .i64 X.m, .int .i64 X.c] 89)).fresh hgr' (fun q hq e => by have := hge q e; omega)
                            have HX := Lib.hid hx'
                            have HOW := Lib.hid hown'
                            clear hx' hown' hgr' hloc
                            go_wp2_with (at_builtin; refine wpList_append_run happ rfl rfl _ _ rfl rfl rfl ?_; clear happ)
                            go_roundg (R.length - (k + 1))
                            case measure => omega
                            case rel => exact ⟨k + 1, by go_num, by omega, Nat.le_refl _, HX.out, by rw [HTK.out, List.filter_append, List.filter_cons, HM.out, if_pos rfl, List.filter_nil]; exact HOW.out⟩
                          · have dk3 : decide (X.r.t ≤ til) = false := by simp; omega
                            have HM : Hid (meetP rk fr til X.hd = false) := Lib.hid (Bool.eq_false_iff.2 fun h => hk3 ((meetP_iff _ _ _ _).1 h).2.2)
                            clear hk1 hk2 hk3
                            go_wp2_with fail
                            go_roundg (R.length - (k + 1))
                            case measure => omega
                            case rel => exact ⟨k + 1, by go_num, by omega, Nat.le_refl _, hxk.alloc _, by rw [HTK.out, List.filter_append, List.filter_cons, HM.out, if_neg (by decide), List.filter_nil, List.append_nil]; exact hwant.extF ((ExtM.refl _).alloc _)⟩
                        · have dk2 : decide (fr ≤ X.r.t) = false := by simp; omega
                          have HM : Hid (meetP rk fr til X.hd = false) := Lib.hid (Bool.eq_false_iff.2 fun h => hk2 ((meetP_iff _ _ _ _).1 h).2.1)
                          clear hk1 hk2
                          go_wp2_with fail
                          go_roundg (R.length - (k + 1))
                          case measure => omega
                          case rel => exact ⟨k + 1, by go_num, by omega, Nat.le_refl _, hxk.alloc _, by rw [HTK.out, List.filter_append, List.filter_cons, HM.out, if_neg (by decide), List.filter_nil, List.append_nil]; exact hwant.extF ((ExtM.refl _).alloc _)⟩
                      · have dk : (X.r.k == rk) = false := by simp [hk1]
                        have HM : Hid (meetP rk fr til X.hd = false) := Lib.hid (Bool.eq_false_iff.2 fun h => hk1 ((meetP_iff _ _ _ _).1 h).1)
                        clear hk1
                        go_wp2_with fail
                        go_roundg (R.length - (k + 1))
                        case measure => omega
                        case rel => exact ⟨k + 1, by go_num, by omega, Nat.le_refl _, hxk.alloc _, by rw [HTK.out, List.filter_append, List.filter_cons, HM.out, if_neg (by decide), List.filter_nil, List.append_nil]; exact hwant.extF ((ExtM.refl _).alloc _)⟩
                    -- }DONE
                  · have hz : decide (k < R.length) = false := by simp; omega
                    rw [List.take_of_length_le (by omega)] at hwant
                    have hzw : ∀ q, u11.ownBlock = some q → w1.heap.size ≤ q ∧ q < wr.heap.size := fun q hq => own_lt hwant q hq
                    have h2x := h1x.wide (Av' := fun q => q = B ∨ u11.ownBlock = some q) hxk (fun q hq => hq.elim .inl (fun h => .inr (hzw q h)))
                    obtain ⟨pr, cr, rfl⟩ := h2x.ref.row.slice
                    have c3 := h2x.ref.c3
                    have lJ := h2x.ref.lt
                    simp only [Nat.add_zero] at c3
                    clear h8x h1x B2 B3 B4 B5 B6 hx1 kr hzw
                    go_wp2_with fail
                    go_loopg [15] (L.length + 1) (fun kx s15 wk => ∃ q : Nat, s15 = .int .i64 q ∧ q ≤ L.length ∧ L.length - q ≤ kx ∧ SPx w wk w.heap.size J (fun q => q = B ∨ u11.ownBlock = some q) v0 (.slice pr L.length cr) hs ((L.take q).map (bumpR rk fr til) ++ L.drop q) came ∧ ExtM (fun j => ¬ (j = B ∨ u11.ownBlock = some j)) wr wk)
                    case atStart => exact ⟨0, rfl, by omega, by omega, by simpa using h2x, ExtM.refl _⟩
                    case round =>
                      clear h2x c3 lJ
                      obtain ⟨q, rfl, hq, hgq, h3x, hxq⟩ := hrel
                      have kB := fun o => hxq.cell (p := ⟨B, o, none⟩) lB2 (fun h => h (.inl rfl))
                      have D2 := (kB _).trans C2
                      have D3 := (kB _).trans C3
                      have D4 := (kB _).trans C4
                      have D5 := (kB _).trans C5
                      have D6 := (kB _).trans C6
                      clear kB
                      have c3 := h3x.ref.c3
                      simp only [Nat.add_zero] at c3
                      by_cases hql : q < L.length
                      · have hlq : q < ((L.take q).map (bumpR rk fr til) ++ L.drop q).length := by simp; omega
                        have hgq := bump_get (bumpR rk fr til) L q hql
                        obtain ⟨g, rc, e', hg', x0, x1, x2, x3, x4⟩ := rrow_cells h3x.ref.row q hlq
                        have hgq' : ((L.take q).map (bumpR rk fr til) ++ L.drop q)[q]! = L[q] := by rw [List.getElem!_eq_getElem?_getD, hgq]; rfl
                        rw [hgq'] at x0 x1 x2 x3 x4
                        simp only [Value.slice.injEq] at e'
                        obtain ⟨rfl, -, rfl⟩ := e'
                        have hset := bump_set (bumpR rk fr til) L q hql
                        have hfz := own_cell (enc := RHd.cells) rhd_len h3x.ref.row q 3 hlq (by omega)
                        have fz : wr.frozen? ⟨g, q * 5 + 3, none⟩ = false := by
                          obtain ⟨g', cap', e1, -, -, e2⟩ := hfz
                          simp only [Value.slice.injEq, Option.some.injEq, Addr.mk.injEq, and_true] at e1
                          rw [e1.1]; exact e2
                        clear hfz hgq'
                        have HGQ := Lib.hid hgq
                        have HST := Lib.hid hset
                        clear hgq hset hlq
                        generalize L[q] = X at *
                        -- DONE{
                        as_aux_lemma =>
                          by_cases hk1 : X.r.k = rk
                          · have dk : (X.r.k == rk) = true := by simp [hk1]
                            by_cases hk2 : fr ≤ X.r.t
                            · have dk2 : decide (fr ≤ X.r.t) = true := by simp [hk2]
                              by_cases hk3 : X.r.t ≤ til
                              · have dk3 : decide (X.r.t ≤ til) = true := by simp [hk3]
                                have HM : Hid (meetP rk fr til X.hd = true) := Lib.hid ((meetP_iff _ _ _ _).2 ⟨hk1, hk2, hk3⟩)
                                clear hk1 hk2 hk3
                                go_wp2_with fail
                                go_quiet (fail)
                                go_wp2_with fail
                                go_roundg (L.length - (q + 1))
                                case measure => omega
                                case rel =>
                                  have e : bumpR rk fr til X = ⟨X.r, wrap64 (X.m + 1), X.c⟩ := by unfold bumpR; rw [HM.out]; rfl
                                  have h4 := (h3x.of ((ExtM.refl wr).drewN nq)).setM q X HGQ.out (wrap64 (X.m + 1))
                                  refine ⟨q + 1, by go_num, by omega, Nat.le_refl _, ?_, ExtM.trans _ _ _ (hxq.drewN _) h4.2⟩
                                  rw [← HST.out, e]
                                  exact h4.1
                              · have dk3 : decide (X.r.t ≤ til) = false := by simp; omega
                                have HM : Hid (meetP rk fr til X.hd = false) := Lib.hid (Bool.eq_false_iff.2 fun h => hk3 ((meetP_iff _ _ _ _).1 h).2.2)
                                clear hk1 hk2 hk3
                                go_wp2_with fail
                                go_quiet (fail)
                                go_wp2_with fail
                                go_roundg (L.length - (q + 1))
                                case measure => omega
                                case rel =>
                                  have e : bumpR rk fr til X = X := by unfold bumpR; rw [HM.out]; rfl
                                  refine ⟨q + 1, by go_num, by omega, Nat.le_refl _, ?_, hxq.drewN _⟩
                                  rw [← HST.out, e, List.set_getElem?_self HGQ.out]
                                  exact h3x.of ((ExtM.refl _).drewN _)
                            · have dk2 : decide (fr ≤ X.r.t) = false := by simp; omega
                              have HM : Hid (meetP rk fr til X.hd = false) := Lib.hid (Bool.eq_false_iff.2 fun h => hk2 ((meetP_iff _ _ _ _).1 h).2.1)
                              clear hk1 hk2
                              go_wp2_with fail
                              go_quiet (fail)
                              go_wp2_with fail
                              go_roundg (L.length - (q + 1))
                              case measure => omega
                              case rel =>
                                have e : bumpR rk fr til X = X := by unfold bumpR; rw [HM.out]; rfl
                                refine ⟨q + 1, by go_num, by omega, Nat.le_refl _, ?_, hxq.drewN _⟩
                                rw [← HST.out, e, List.set_getElem?_self HGQ.out]
                                exact h3x.of ((ExtM.refl _).drewN _)
                          · have dk : (X.r.k == rk) = false := by simp [hk1]
                            have HM : Hid (meetP rk fr til X.hd = false) := Lib.hid (Bool.eq_false_iff.2 fun h => hk1 ((meetP_iff _ _ _ _).1 h).1)
                            clear hk1
                            go_wp2_with fail
                            go_quiet (fail)
                            go_wp2_with fail
                            go_roundg (L.length - (q + 1))
                            case measure => omega
                            case rel =>
                              have e : bumpR rk fr til X = X := by unfold bumpR; rw [HM.out]; rfl
                              refine ⟨q + 1, by go_num, by omega, Nat.le_refl _, ?_, hxq.drewN _⟩
                              rw [← HST.out, e, List.set_getElem?_self HGQ.out]
                              exact h3x.of ((ExtM.refl _).drewN _)
                        -- }DONE
                      · have hz2 : decide (q < L.length) = false := by simp; omega
                        have e1' : (L.take q).map (bumpR rk fr til) ++ L.drop q = L.map (bumpR rk fr til) := by
                          rw [List.take_of_length_le (by omega), List.drop_eq_nil_of_le (by omega), List.append_nil]
                        rw [e1'] at h3x
                        have h3 : SP0 w wr w.heap.size J (fun q => q = B ∨ u11.ownBlock = some q) hs (L.map (bumpR rk fr til)) came := ⟨_, _, h3x⟩
                        have hwq := own_ext hwant hxq (fun k hk h => h (.inr hk))
                        have HE := Lib.hid e1'
                        clear e1' h3x
                        have hmeet := sp_meet h3 rk fr til (by omega)
                        have hgw := fun u h => hg.of (w' := u) h
                        clear h3 C2 C3 C4 C5 C6 D5 D6
                        go_wp2_with (first
                          | (go_at_call 33
                             refine hmeet.mono ?_
                             rintro e w5 ⟨vo, rfl, hm, hx5, h5⟩
                             clear hmeet
                             have hw5 : JRow w5 w1.heap.size u11 ((R.filter (fun x => meetP rk fr til x.hd))) := own_ext hwq hx5 (fun k hk h => h.1 (.inr hk)))
                          | (go_at_call 32
                             refine (held_c _ _ _ (hs.filter (meetP rk fr til)) (R.filter (fun x => meetP rk fr til x.hd)) _ hm (own_weaken hw5 (Nat.zero_le _)) (by rw [HR.out.eq, HRS.out.1, List.filter_map]; rfl) (by have := List.length_filter_le (fun x => meetP rk fr til x.hd) R; omega)).mono ?_
                             rintro e w6 ⟨rfl, hx6⟩))
                        go_meet
                        case rel =>
                          obtain ⟨v5, r5, h5⟩ := h5.of hx6
                          exact ⟨_, _, _, ⟨v5, r5, h5.narrow (fun b hb => hb.elim)⟩, ⟨_, HR.out.map (bumpIf (meetP rk fr til)) (bumpR rk fr til) (bumpR_hd rk fr til)⟩, by rw [List.length_map]; exact hL, hc0, by push_cast at *; omega⟩
              · have d1 : (wh == 1) = false := by simp [q1]
                by_cases q2 : wh = 2
                · subst q2
                  clear hkeep
                  obtain ⟨v0, r0, h8x⟩ := h8
                  obtain ⟨pr, cr, rfl⟩ := h8x.ref.row.slice
                  have c3 := h8x.ref.c3
                  have lJ := h8x.ref.lt
                  simp only [Nat.add_zero] at c3
                  clear b0 b1 b2 b4 b5 b6 hgr
                  go_wp2_with fail
                  go_loopg [17, 18] (L.length + 1) (fun kx s17 s18 wr => ∃ k : Nat, s18 = .int .i64 k ∧ k ≤ L.length ∧ L.length - k ≤ kx ∧ Ext W8 wr ∧ JRow wr W8.heap.size s17 ((L.take k).filter (fun x => !dropB til x.hd)))
                  case atStart => exact ⟨0, rfl, by omega, by omega, ExtM.refl _, ⟨rfl, .inl ⟨rfl, rfl⟩⟩⟩
                  case round =>
                    obtain ⟨k, rfl, hk, hgk2, hxk, hleft⟩ := hrel
                    have C3 := (hxk.cell (p := ⟨B, 3, none⟩) lB (fun h => h)).trans b3
                    have J3 := (hxk.cell (p := ⟨J, 3, none⟩) lJ (fun h => h)).trans c3
                    have lJ2 : J < wr.heap.size := Nat.lt_of_lt_of_le lJ hxk.size
                    have lB2 : B < wr.heap.size := Nat.lt_of_lt_of_le lB hxk.size
                    by_cases hkl : k < L.length
                    · obtain ⟨g, rc, e', hg', x0, x1, x2, x3, x4⟩ := rrow_cells (h8x.ref.row.extF hxk) k hkl
                      simp only [Value.slice.injEq, true_and] at e'
                      obtain ⟨rfl, rfl⟩ := e'
                      have htk : L.take (k + 1) = L.take k ++ [L[k]!] := by rw [List.take_succ_eq_append_getElem hkl, getElem!_pos L k hkl]
                      generalize L[k]! = X at *
                      have HTK := Lib.hid htk
                      clear htk
                      have hlw : ((L.take k).filter (fun x => !dropB til x.hd)).length < 1000000 := by
                        have h1 := List.length_filter_le (fun x => !dropB til x.hd) (L.take k)
                        rw [List.length_take] at h1
                        omega
                      by_cases hd1 : til < X.r.t
                      · have dk : decide (til < X.r.t) = true := by simp [hd1]
                        have HM : Hid (dropB til X.hd = false) := Lib.hid (by unfold dropB RHd.hd; simp; omega)
                        clear hd1
                        go_wp2_with fail
                        go_quiet (fail)
                        obtain ⟨v', w', happ, hown', hgr', hloc⟩ := run_appendR ((wr.drewN nq).alloc (.cells #[.int .i64 X.r.k, .int .i64 X.r.t, .int .i64 X.r.v, .int .i64 X.m, .int .i64 X.c] 89)) W8.heap.size wr.heap.size 1 u17 ((L.take k).filter (fun x => !dropB til x.hd)) X 86 (hleft.extF (((ExtM.refl wr).drewN nq).alloc _)) (newA (wr.drewN nq) X) hlw (by have := hxk.size; simp; omega)
                        have hge : ∀ q, u17.ownBlock = some q → W8.heap.size ≤ q := fun q hq => (own_lt hleft q hq).1
                        have hx' : Ext W8 w' := ((hxk.drewN nq).alloc (.cells #[.int .i64 X.r.k, .int .i64 X.r.t, .int .i64 X.r.v, .int .i64 X.m, .int .i64 X.c] 89)).fresh hgr' (fun q hq e => by have := hge q e; omega)
                        have HX := Lib.hid hx'
                        have HOW := Lib.hid hown'
                        clear hx' hown' hgr' hloc
                        go_wp2_with (at_builtin; refine wpList_append_run happ rfl rfl _ _ rfl rfl rfl ?_; clear happ)
                        go_roundg (L.length - (k + 1))
                        case measure => omega
                        case rel => exact ⟨k + 1, by go_num, by omega, Nat.le_refl _, HX.out, by rw [HTK.out, List.filter_append, List.filter_cons, HM.out, if_pos (by decide), List.filter_nil]; exact HOW.out⟩
                      · have dk : decide (til < X.r.t) = false := by simp; omega
                        have HM : Hid (dropB til X.hd = true) := Lib.hid (by unfold dropB RHd.hd; simp; omega)
                        clear hd1
                        go_wp2_with fail
                        go_quiet (fail)
                        go_wp2_with fail
                        go_roundg (L.length - (k + 1))
                        case measure => omega
                        case rel => exact ⟨k + 1, by go_num, by omega, Nat.le_refl _, hxk.drewN _, by rw [HTK.out, List.filter_append, List.filter_cons, HM.out, if_neg (by decide), List.filter_nil, List.append_nil]; exact hleft.extF ((ExtM.refl _).drewN _)⟩
                    · have hz2 : decide (k < L.length) = false := by simp; omega
                      rw [List.take_of_length_le (by omega)] at hleft
                      obtain ⟨S, hS⟩ := hrel
                      have hf := hS.filter (fun x => !dropB til x)
                      have hlen : (dropL til hs).length = (L.filter (fun x => !dropB til x.hd)).length := hf.len
                      have hle : (L.filter (fun x => !dropB til x.hd)).length ≤ L.length := List.length_filter_le _ _
                      have hn : ((hs.length - (dropL til hs).length : Nat) : Int) = (L.length : Int) - ((L.filter (fun x => !dropB til x.hd)).length : Int) := by omega
                      obtain ⟨pl, cl, rfl⟩ := hleft.slice
                      have fJ := (h8x.of hxk).ref.f3 3
                      have hown9 : ∀ q, (Value.slice pl (L.filter (fun x => !dropB til x.hd)).length cl).ownBlock = some q → W8.heap.size ≤ q := fun q hq => (own_lt hleft q hq).1
                      have hvl : ∀ q, v0.ownBlock = some q → q < W8.heap.size := fun q hq => (own_lt h8x.side.row q hq).2
                      have lA := h8x.side.lt
                      have h4 := (h8x.of hxk).setRows hleft (fun q hq => by have := hown9 q hq; exact ⟨by omega, by omega, by omega, by omega, fun e => by have := hvl q e; omega⟩)
                      have hdrop := sp_drop (⟨_, _, h4.1⟩ : SP0 _ _ _ _ _ _ _ _) til (by omega)
                      rw [hn] at hdrop
                      have HF := Lib.hid (And.intro hf (Nat.le_trans hle hL))
                      have E3 := (h4.2.cell (p := ⟨B, 3, none⟩) lB2 (fun h => h rfl)).trans C3
                      clear hf hlen hn h4 hown9 hvl hS h8x hleft
                      generalize L.filter (fun x => !dropB til x.hd) = lf at *
                      generalize hm : lf.length = m at *
                      have HMM := Lib.hid hm
                      clear hm
                      go_wp2_with (
                        go_at_call 34
                        refine hdrop.mono ?_
                        rintro e w6 ⟨rfl, hx6, h6⟩
                        clear hdrop)
                      go_meet
                      case rel =>
                        obtain ⟨v6, r6, h6⟩ := h6
                        exact ⟨_, _, _, ⟨v6, r6, h6.narrow (fun b hb => hb.elim)⟩, ⟨_, HF.out.1⟩, by rw [HMM.out]; exact HF.out.2, hc0, by push_cast at *; omega⟩
                · have d2 : (wh == 2) = false := by simp [q2]
                  have HK := Lib.hid hkeep
                  clear hkeep
                  go_wp2_with fail
                  go_meet
                  case rel => exact HK.out
          case rest =>
            clear hrel hll hL hc0 hc1 h8 b0 b1 b2 b3 b4 b5 b6 lB hgr
            obtain ⟨hs, L, came, h9, hrel, hL, hc0, hc1⟩ := hcut
            obtain ⟨S, hS⟩ := hrel
            have hll : hs.length = L.length := hS.len
            have hmany := fun u (h : SP0 w u w.heap.size J (fun _ => False) hs L came) => sp_many h
            rw [hll] at hmany
            obtain ⟨v9, r9, h9⟩ := h9
            have c3 := h9.ref.c3
            obtain ⟨p9, q9, rfl⟩ := h9.ref.row.slice
            have h9' : SP0 w wc w.heap.size J (fun _ => False) hs L came := ⟨_, _, h9⟩
            have lJ := h9.ref.lt
            have HR := Lib.hid hS
            clear hS hll h9
            simp only [Nat.add_zero] at c3
            go_wp2_with fail
            -- DONE{
            as_aux_lemma =>
              refine Plan.begin Plan.Ext 15 rfl (by kernel_rfl) ?_
              refine Plan.left_q 1 (by rfl) (by kernel_rfl) ?_; go_big_quiet_step (fail); refine wpQuiet_nil ?_
              refine Plan.left_q 2 (by rfl) (by kernel_rfl) ?_; go_big_quiet_step (fail); refine wpQuiet_nil ?_
              refine Plan.left_q 3 (by rfl) (by kernel_rfl) ?_; go_big_quiet_step (fail); refine wpQuiet_nil ?_
              refine Plan.left_q 4 (by rfl) (by kernel_rfl) ?_; go_big_quiet_step (fail); refine wpQuiet_nil ?_
              refine Plan.left_q 5 (by rfl) (by kernel_rfl) ?_; go_big_quiet_step (fail); refine wpQuiet_nil ?_
              refine Plan.left_q 6 (by rfl) (by kernel_rfl) ?_; go_big_quiet_step (fail); refine wpQuiet_nil ?_
              refine Plan.left_one 0 (by kernel_rfl) (by rfl) (Plan.plain rfl fun K hK => ?_)
              go_wp2_with (fail)
              refine (hmany _ (h9'.of (ExtM.refl _).drew)).mono ?_
              rintro e w1 ⟨rfl, h1⟩
              have H1 := ExtM.trans _ _ _ (ExtM.refl _).drew h1
              obtain ⟨hc1, hf1, -⟩ := Ext.rules H1
              have hs1_0 : J < w1.heap.size := by have := H1.size; (try simp at this); omega
              go_wp2_with (fail)
              refine hK _ _ h1 ?_
              clear hK K
              refine Plan.left_q 7 (by rfl) (by kernel_rfl) ?_; go_big_quiet_step (fail); refine wpQuiet_nil ?_
              refine Plan.left_q 8 (by rfl) (by kernel_rfl) ?_; go_big_quiet_step (fail); refine wpQuiet_nil ?_
              refine Plan.left_q 10 (by rfl) (by kernel_rfl) ?_; go_big_quiet_step (fail); refine wpQuiet_nil ?_
              refine Plan.left_one 9 (by kernel_rfl) (by rfl) (Plan.want rfl fun K hK => ?_)
              go_wp2_with (fail)
              refine (sp_all (h9'.of H1) (by have := HR.out.len; omega)).mono ?_
              rintro e w2 ⟨vo, rfl, km, h2⟩
              clear hc1 hf1 hs1_0
              have H2 := ExtM.trans _ _ _ H1 h2
              obtain ⟨hc2, hf2, -⟩ := Ext.rules H2
              have hs2_0 : J < w2.heap.size := by have := H2.size; (try simp at this); omega
              go_wp2_with (fail)
              refine hK _ _ h2 ?_
              clear hK K
              refine Plan.left_one 11 (by kernel_rfl) (by rfl) (Plan.want rfl fun K hK => ?_)
              go_wp2_with (fail)
              refine (sp_rall (h9'.of H2) (by omega)).mono ?_
              rintro e w3 ⟨uo, R, rfl, kr, h3, kp, ks⟩
              clear hc2 hf2 hs2_0
              have H3 := ExtM.trans _ _ _ H2 h3
              obtain ⟨hc3, hf3, -⟩ := Ext.rules H3
              have hs3_0 : J < w3.heap.size := by have := H3.size; (try simp at this); omega
              go_wp2_with (fail)
              refine hK _ _ h3 ?_
              clear hK K
              refine Plan.left_one 12 (by kernel_rfl) (by rfl) (Plan.want rfl fun K hK => ?_)
              go_wp2_with (fail)
              refine (held_c _ _ _ hs R _ (MRow.of km h3) (own_weaken kr (Nat.zero_le _)) (by rw [HR.out.eq, weak_unique HR.out.srt (kp.trans HR.out.perm.symm) ks]) (by rw [kp.length_eq]; omega)).mono ?_
              rintro e w4 ⟨rfl, h4⟩
              clear hc3 hf3 hs3_0
              have H4 := ExtM.trans _ _ _ H3 h4
              obtain ⟨hc4, hf4, -⟩ := Ext.rules H4
              have hs4_0 : J < w4.heap.size := by have := H4.size; (try simp at this); omega
              go_wp2_with (fail)
              refine hK _ _ h4 ?_
              clear hK K
              refine Plan.left_q 13 (by rfl) (by kernel_rfl) ?_; go_big_quiet_step (fail); refine wpQuiet_nil ?_
              refine Plan.left_q 14 (by rfl) (by kernel_rfl) ?_; go_big_quiet_step (fail); refine wpQuiet_nil ?_
              refine Plan.left_done (by kernel_rfl) ?_
              go_wp2_with fail
              go_roundg (xs.length - (n + 1))
              case measure => omega
              case rel => exact ⟨n + 1, by go_num, by omega, Nat.le_refl _, hs, L, came, h9'.of H4, ⟨S, HR.out⟩, hL, hc0, hc1⟩
            -- }DONE
        · have hz : decide (n < xs.length) = false := by simp; omega
          go_wp2_with fail
          go_ret
          exact ⟨rfl, hS.ext⟩
end Go.Proofs.YtggjceolhbdalaaDoor
