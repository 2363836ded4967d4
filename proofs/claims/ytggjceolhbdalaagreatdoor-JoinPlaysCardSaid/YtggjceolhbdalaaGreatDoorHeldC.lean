/- The reference's All: a side's rows in the order of 4.1. The law's own held: the rows of a side against the reference's. -/
import Derived.Test.YtggjceolhbdalaaGreatDoorRSort
import Derived.Test.YtggjceolhbdalaaGreatDoorMeet
-- RAll
namespace Go.Proofs.YtggjceolhbdalaaGreatDoor
open Go.RowKit Go.Plan Go.Sort

theorem map_range {α : Type} [Inhabited α] (L : List α) : (List.range L.length).map (fun i => L[i]!) = L := by
  apply List.ext_getElem
  · simp
  · intro i h1 h2
    simp only [List.getElem_map, List.getElem_range]
    exact getElem!_pos L i h2
/-- The one sorted order of rows of which no two are the same. -/
theorem weak_unique {S R : List RHd} (hS : S.Pairwise ltR) (hp : R.Perm S) (hR : R.Pairwise (fun a b => ¬ ltR b a)) : R = S := by
  have hT : S.Pairwise (fun a b => ltR a b ∨ ltR b a) := hS.imp (fun h => .inl h)
  have hT2 : R.Pairwise (fun a b => ltR a b ∨ ltR b a) := (hp.pairwise_iff (fun h => h.symm)).2 hT
  have hR2 : R.Pairwise ltR := (List.pairwise_and_iff.2 ⟨hT2, hR⟩).imp (fun h => h.1.resolve_right h.2)
  exact sortedR_unique hp hR2 hS

def RAllPost (L : List RHd) (w : World) (e : Ending) (w' : World) : Prop :=
  ∃ (u : Value) (R : List RHd), e = .returned u ∧ JRow w' w.heap.size u R ∧ Ext w w' ∧ R.Perm L ∧ R.Pairwise (fun a b => ¬ ltR b a)

set_option maxRecDepth 100000 in
set_option maxHeartbeats 4000000 in
theorem rall_c (J s : Nat) (v : Value) (L : List RHd) (w : World) (hs : s < 2) (h4 : w.cell? ⟨J, 3 + s, none⟩ = some v) (row : JRow w 0 v L) (hl : L.length < 100000) :
    Calls Tryz.prog 20 #[.pointer (some ⟨J, 0, none⟩), .int .i64 s] w (RAllPost L w) := by
  have hc := sorted_c J s v L w hs h4 row hl
  have l4 := lt_of_cell h4
  obtain ⟨p0, cap0, rfl, -⟩ := own_slice row
  go_enter Tryz.func20, Tryz.ntmps20
  go_wp2_with (
    go_at_call 28
    refine hc.mono ?_
    rintro e w1 ⟨p, cap, is, rfl, hx1, hsr, hlen, hcells⟩
    have HSR := Lib.hid hsr
    have HCL := Lib.hid hcells
    have HLN := Lib.hid hlen
    clear hsr hcells hlen)
  go_loopg [5, 12] (L.length + 1) (fun kx s5 s12 wr => ∃ (i : Nat), s12 = .int .i64 i ∧ i ≤ L.length ∧ L.length - i ≤ kx ∧ Ext w1 wr ∧ JRow wr w1.heap.size s5 ((is.take i).map (fun q => L[q]!)))
  case atStart => exact ⟨0, rfl, by omega, by omega, ExtM.refl _, ⟨rfl, .inl ⟨rfl, rfl⟩⟩⟩
  case round =>
    obtain ⟨i, rfl, hi, hgk, hx, hrow⟩ := hrel
    by_cases hlt : i < L.length
    · obtain ⟨b, rfl, hb1, hb2, hbc⟩ : ∃ b, p = some ⟨b, 0, none⟩ ∧ w.heap.size ≤ b ∧ b < w1.heap.size ∧ ∀ i, i < L.length → w1.cell? ⟨b, i, none⟩ = some (.int .i64 (is[i]! : Nat)) := by
        rcases HCL.out with h | h
        · subst h; simp at hlt
        · exact h
      have hil : i < is.length := by have := HLN.out; omega
      have hq : is[i]! < L.length := by
        have : is[i] ∈ List.range L.length := HSR.out.1.mem_iff.1 (List.getElem_mem hil)
        rw [getElem!_pos is i hil]; simpa using this
      have hcell : wr.cell? ⟨b, i, none⟩ = some (.int .i64 (is[i]! : Nat)) := (hx.cell (p := ⟨b, i, none⟩) hb2 (fun h => h)).trans (hbc i hlt)
      have htk : (is.take (i + 1)).map (fun q => L[q]!) = (is.take i).map (fun q => L[q]!) ++ [L[is[i]!]!] := by
        rw [List.take_succ_eq_append_getElem hil, List.map_append, List.map_singleton, getElem!_pos is i hil]
      have HTK := Lib.hid htk
      clear htk hbc
      generalize is[i]! = q at *
      have hxw : Ext w wr := ExtM.trans _ _ _ hx1 hx
      have c4 : wr.cell? ⟨J, 3 + s, none⟩ = some (.slice p0 L.length cap0) := (hxw.cell (p := ⟨J, 3 + s, none⟩) l4 (fun h => h)).trans h4
      obtain ⟨g, rc, e', hg, x0, x1, x2, x3, x4⟩ := rrow_cells (row.extF hxw) q hq
      simp only [Value.slice.injEq, true_and] at e'
      obtain ⟨rfl, rfl⟩ := e'
      have hlk : ((is.take i).map (fun q => L[q]!)).length < 1000000 := by simp; omega
      generalize L[q]! = X at *
      obtain ⟨v', w', happ, hown', hgr, hloc⟩ := run_appendR (wr.alloc (.cells #[.int .i64 X.r.k, .int .i64 X.r.t, .int .i64 X.r.v, .int .i64 X.m, .int .i64 X.c] 81)) w1.heap.size wr.heap.size 1 u5 ((is.take i).map (fun q => L[q]!)) X 51 (hrow.extF ((ExtM.refl wr).alloc _)) (newA wr X) hlk (by have := hx.size; simp; omega)
      have hge : ∀ k, u5.ownBlock = some k → w1.heap.size ≤ k := fun k hk => (own_lt hrow k hk).1
      have hx' : Ext w1 w' := (hx.alloc (.cells #[.int .i64 X.r.k, .int .i64 X.r.t, .int .i64 X.r.v, .int .i64 X.m, .int .i64 X.c] 81)).fresh hgr (fun k hk e => by have := hge k e; omega)
      have HX := Lib.hid hx'
      have HOW := Lib.hid hown'
      clear hx' hown' hgr hloc
      go_wp2_with (at_builtin; refine wpList_append_run happ rfl rfl _ _ rfl rfl rfl ?_; clear happ)
      go_roundg (L.length - (i + 1))
      case measure => omega
      case rel => exact ⟨i + 1, by go_num, by omega, Nat.le_refl _, HX.out, by rw [HTK.out]; exact HOW.out⟩
    · obtain rfl : i = L.length := by omega
      have hxw : Ext w wr := ExtM.trans _ _ _ hx1 hx
      go_wp2_with fail
      go_ret
      refine ⟨_, _, rfl, own_weaken hrow hx1.size, hxw, ?_, ?_⟩
      · rw [List.take_of_length_le (by have := HLN.out; omega)]
        have := HSR.out.1.map (fun i => L[i]!)
        rwa [map_range] at this
      · rw [List.take_of_length_le (by have := HLN.out; omega)]
        exact HSR.out.2
end Go.Proofs.YtggjceolhbdalaaGreatDoor

-- HeldC
namespace Go.Proofs.YtggjceolhbdalaaGreatDoor
open Go.RowKit Go.Plan

theorem mrow_cells {w : World} {b : Nat} {v : Value} {L : List Hd} (h : MRow w b v L) (x : Nat) (X : Hd) (hx : L[x]? = some X) :
    ∃ g cap, v = .slice (some ⟨g, 0, none⟩) L.length cap ∧ g < w.heap.size ∧ w.cell? ⟨g, x * 4, none⟩ = some (.int .i64 X.r.k) ∧ w.cell? ⟨g, x * 4 + 1, none⟩ = some (.int .i64 X.r.t) ∧ w.cell? ⟨g, x * 4 + 2, none⟩ = some (.int .i64 X.r.v) ∧ w.cell? ⟨g, x * 4 + 3, none⟩ = some (.int .i64 X.m) := by
  obtain ⟨hlt, rfl⟩ := List.getElem?_eq_some_iff.1 hx
  obtain ⟨g, cap, rfl, hg, h0, -⟩ := own_cell (enc := Hd.cells) hd_len h x 0 hlt (by omega)
  have hk : ∀ c, c < 4 → w.cell? ⟨g, x * 4 + c, none⟩ = (L[x].cells)[c]? := fun c hc => by
    obtain ⟨g', cap', e1, -, e2, -⟩ := own_cell (enc := Hd.cells) hd_len h x c hlt hc
    simp only [Value.slice.injEq, Option.some.injEq, Addr.mk.injEq, and_true, true_and] at e1
    rw [e1.1]; exact e2
  exact ⟨g, cap, rfl, hg, hk 0 (by omega), hk 1 (by omega), hk 2 (by omega), hk 3 (by omega)⟩

set_option maxRecDepth 100000 in
set_option maxHeartbeats 4000000 in
theorem held_c (b1 : Nat) (v1 v2 : Value) (ms : List Hd) (R : List RHd) (w : World) (h1 : MRow w b1 v1 ms) (h2 : JRow w 0 v2 R) (he : ms = R.map RHd.hd) (hl : R.length < 1000000) :
    Calls Tryz.prog 18 #[v1, v2] w fun e w' => e = .returned (.bool true) ∧ Ext w w' := by
  subst he
  obtain ⟨p1, c1, rfl, -⟩ := own_slice h1
  obtain ⟨p2, c2, rfl, -⟩ := own_slice h2
  rw [List.length_map] at *
  go_enter Tryz.func18, Tryz.ntmps18
  go_wp2_with fail
  go_loopg [5] (R.length + 1) (fun kx s5 wr => ∃ (i : Nat), s5 = .int .i64 i ∧ i ≤ R.length ∧ R.length - i ≤ kx ∧ Ext w wr)
  case atStart => exact ⟨0, rfl, by omega, by omega, ExtM.refl _⟩
  case round =>
    obtain ⟨i, rfl, hi, hgk, hx⟩ := hrel
    by_cases hlt : i < R.length
    · obtain ⟨g, rc, e1, hg, x0, x1, x2, x3, x4⟩ := rrow_cells (h2.extF hx) i hlt
      simp only [Value.slice.injEq, true_and] at e1
      obtain ⟨rfl, rfl⟩ := e1
      obtain ⟨g', rc', e2, hg', y0, y1, y2, y3⟩ := mrow_cells (own_ext h1 hx (fun _ _ h => h) : MRow wr b1 _ (R.map RHd.hd)) i R[i]!.hd (by rw [List.getElem?_map, List.getElem?_eq_getElem hlt, getElem!_pos R i hlt]; rfl)
      simp only [Value.slice.injEq] at e2
      obtain ⟨rfl, -, rfl⟩ := e2
      simp only [RHd.hd] at y0 y1 y2 y3
      generalize R[i]! = X at *
      go_wp2_with fail
      go_quiet (fail)
      go_wp2_with fail
      go_roundg (R.length - (i + 1))
      case measure => omega
      case rel => exact ⟨i + 1, by go_num, by omega, Nat.le_refl _, hx.drewN _⟩
    · go_wp2_with fail
      go_ret
      exact ⟨rfl, hx⟩
end Go.Proofs.YtggjceolhbdalaaGreatDoor
