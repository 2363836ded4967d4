/- An engine as a text: all of it. -/
import Derived.Test.YtmcgnnmffeojpaaGreatDoorPk29
import Derived.Test.YtmcgnnmffeojpaaGreatDoorPk31
import Derived.Test.YtmcgnnmffeojpaaGreatDoorPk33
import Derived.Test.YtmcgnnmffeojpaaGreatDoorPk34
import Derived.Deep.DeepCutAuto
import Derived.Deep.CutBlock
/- An engine as a text: a line. -/
namespace Go.Proofs.YtmcgnnmffeojpaaGreatDoor
open Go.RowKit Go.Plan

/-- Numbers in a row of the call's own. -/
def NumsIn (w : World) (b : Nat) (a : Option Addr) (ns : List Int) : Prop :=
  ns = [] ∨ ∃ g c t fz, a = some ⟨g, 0, none⟩ ∧ g ≠ b ∧ t ≠ 5 ∧ w.heap[g]? = some (.cells c t fz) ∧ ∀ i (h : i < ns.length), c[i]? = some (.int .i64 ns[i])
theorem NumsIn.keep {w w' : World} {B b : Nat} {a : Option Addr} {ns : List Int} (h : NumsIn w b a ns) (hx : BExt B b w w') : NumsIn w' b a ns := by
  rcases h with h | ⟨g, c, t, fz, h1, h2, h3, h4, h5⟩
  · exact .inl h
  · exact .inr ⟨g, c, t, fz, h1, h2, h3, hx.row h4 h2 h3, h5⟩
def numB (n : Int) : List UInt8 := 32 :: Lib.itoa n
theorem lineB_eq (nm : List UInt8) (l : List Int) : lineB nm l = nm ++ l.flatMap numB := rfl
theorem nums_len : ∀ (l : List Int), (∀ n ∈ l, -9223372036854775808 ≤ n ∧ n ≤ 9223372036854775807) → (l.flatMap numB).length ≤ 22 * l.length
  | [], _ => by simp
  | n :: l, h => by
    have h1 := h n List.mem_cons_self
    have h2 := Lib.itoa_length_le n h1.1 h1.2
    have h3 := nums_len l (fun m hm => h m (List.mem_cons_of_mem _ hm))
    have h4 : (numB n).length = (Lib.itoa n).length + 1 := rfl
    rw [List.flatMap_cons, List.length_append, List.length_cons]
    omega
theorem TabP.bext {B b : Nat} {w w' : World} (h : TabP w) (hx : BExt B b w w') (hB : 3 < B) : TabP w' := h.keep (hx.1.block _ hB)

set_option maxRecDepth 100000 in
set_option maxHeartbeats 4000000 in
theorem line_c (B b : Nat) (acc nm : List UInt8) (s : ByteArray) (hs : s.data.toList = nm) (a : Option Addr) (cap : Nat) (ns : List Int) (w : World) (hS : SB B b acc w) (ht : TabP w) (hB : 3 < B) (hr : NumsIn w b a ns)
    (hn : ∀ n ∈ ns, -9223372036854775808 ≤ n ∧ n ≤ 9223372036854775807) (hl : acc.length + nm.length + 22 * ns.length ≤ 900000000) :
    Calls Tryz.prog 31 #[.string s, .slice a ns.length cap, .pointer (some ⟨b, 0, none⟩)] w fun e w' => e = .returned (.tuple #[]) ∧ SB B b (acc ++ (lineB nm ns ++ [10])) w' ∧ BExt B b w w' := by
  have hsz : s.size = nm.length := by rw [← hs, Array.length_toList]; rfl
  go_enter Tryz.func31, Tryz.ntmps31
  go_wp2_with (go_at_call 32; refine (ws_c B b acc s w hS (by omega)).mono ?_; rintro e w1 ⟨rfl, hS1, hx1⟩; refine Hid.out ?_)
  refine Lib.hid ?_
  rw [hs] at hS1
  have HS := Lib.hid hs
  have HZ := Lib.hid hsz
  clear hs hsz
  go_wp2_with fail
  go_loopg [11] (ns.length + 1) (fun kx s11 wr => ∃ i : Nat, s11 = .int .i64 i ∧ i ≤ ns.length ∧ ns.length - i ≤ kx ∧ SB B b (acc ++ (nm ++ (ns.take i).flatMap numB)) wr ∧ BExt B b w wr)
  case atStart => exact ⟨0, rfl, by omega, by omega, by simpa using hS1, hx1⟩
  case round =>
    clear hS1 hx1
    obtain ⟨i, rfl, hi, hgk, hS1, hx1⟩ := hrel
    have htw := ht.bext hx1 hB
    by_cases hil : i < ns.length
    · rcases hr.keep hx1 with e | ⟨g, c, t, fz, rfl, hgb, htu, hg, hc⟩
      · subst e; simp at hil
      have hcell : wr.cell? ⟨g, i, none⟩ = some (.int .i64 ns[i]) := by
        have := hc i hil
        simpa [World.cell?, hg] using this
      have hni := hn _ (List.getElem_mem hil)
      have HT := Lib.hid (List.take_succ_eq_append_getElem hil)
      have hlen : (acc ++ (nm ++ (ns.take i).flatMap numB)).length ≤ 900000000 := by
        have h1 := nums_len (ns.take i) (fun n hn' => hn n (List.mem_of_mem_take hn'))
        have h2 : (ns.take i).length ≤ ns.length := List.length_take_le' _ _
        rw [List.length_append, List.length_append]
        omega
      have hgl : g < wr.heap.size := (Array.getElem?_eq_some_iff.1 hg).1
      generalize ns[i] = n at *
      clear hc hg
      go_wp2_with (go_at_call 33; refine (itoa_c n _ hni.1 hni.2 htw).mono ?_; rintro e w2 ⟨rfl, hx2⟩; refine Hid.out ?_)
      refine Lib.hid ?_
      have hS2 := hS1.ext hx2
      have hx12 := hx1.trans (BExt.of_ext hx2 (by have := hS1.lt; omega))
      have hil2 := Lib.itoa_length_le n hni.1 hni.2
      clear hS1 hx1 hx2 hcell
      go_wp2_with (go_at_call 32; refine (ws_c B b _ _ _ hS2 (by
        have : (ByteArray.mk #[32] ++ ByteArray.mk (Lib.itoa n).toArray).size = 1 + (Lib.itoa n).length := by rw [ByteArray.size_append]; rfl
        omega)).mono ?_; rintro e w3 ⟨rfl, hS3, hx3⟩; refine Hid.out ?_)
      refine Lib.hid ?_
      have hdat : (ByteArray.mk #[32] ++ ByteArray.mk (Lib.itoa n).toArray).data.toList = numB n := by
        rw [ByteArray.data_append, Array.toList_append]; rfl
      rw [hdat, List.append_assoc, List.append_assoc] at hS3
      have hxx := hx12.trans hx3
      clear hdat hS2 hx12 hx3
      go_wp2_with fail
      go_roundg (ns.length - (i + 1))
      case measure => omega
      case rel =>
        refine ⟨i + 1, by go_num, by omega, Nat.le_refl _, ?_, hxx⟩
        rw [HT.out, List.flatMap_append]
        simpa using hS3
    · obtain rfl : i = ns.length := by omega
      have hz : decide (ns.length < ns.length) = false := by simp
      have hz2 : decide ((ns.length : Int) < ns.length) = false := by simp
      rw [List.take_length] at hS1
      have hlen : (acc ++ (nm ++ ns.flatMap numB)).length ≤ 900000000 := by
        have h1 := nums_len ns hn
        rw [List.length_append, List.length_append]
        omega
      go_wp2_with (go_at_call 32; refine (ws_c B b _ _ _ hS1 (by have : (ByteArray.mk #[10]).size = 1 := rfl; omega)).mono ?_; rintro e w3 ⟨rfl, hS3, hx3⟩; refine Hid.out ?_)
      refine Lib.hid ?_
      go_wp2_with fail
      go_end0
      refine ⟨rfl, ?_, hx1.trans hx3⟩
      rw [lineB_eq]
      simpa [List.append_assoc] using hS3
end Go.Proofs.YtmcgnnmffeojpaaGreatDoor
/- An engine as a text: what came of rows, as numbers. -/
namespace Go.Proofs.YtmcgnnmffeojpaaGreatDoor
open Go.RowKit Go.Plan

/-- Numbers in a row of the call's own. -/
def IR (w : World) (b : Nat) (v : Value) (xs : List Int) : Prop := w.ownsRow b 3 1 v xs.length (xs.map (Value.int .i64))
theorem infoI3 : (Tryz.prog.info? 3).map (fun i => (i.zero, i.size, i.bytes)) = some (some (.int .i64 0), 1, 8) := by kernel_rfl
theorem run_appendN (W : World) (base nb c : Nat) (v : Value) (acc xs : List Int) (ty : TypeId) (hown : IR W base v acc) (hx : ∀ j u, (xs.map (Value.int .i64))[j]? = some u → W.cell? ⟨nb, j, none⟩ = some u) (hl : acc.length + xs.length < 1000000) (hb : base ≤ W.heap.size) :
    ∃ v' w', (Builtin.append_ #[52, 52] ty #[v, .slice (some ⟨nb, 0, none⟩) xs.length c]).run Tryz.prog W = .ok v' w' ∧ IR w' base v' (acc ++ xs) ∧ ExtR v.ownBlock W w' ∧ (v'.ownBlock = v.ownBlock ∨ ∃ k, v'.ownBlock = some k ∧ W.heap.size ≤ k) := by
  obtain ⟨i0, hi, hz0, hz1, hz2⟩ := info_parts infoI3
  obtain ⟨v', w', h1', h2, h3, -, h5⟩ := run_append_own_at (P := Tryz.prog) W base 52 ty 3 i0 (.int .i64 0) 1 8 Tryz.underlying52 hi hz0 hz1 hz2 rfl (by decide) v acc.length _ hown ⟨nb, 0, none⟩ xs.length c (xs.map (Value.int .i64)) (by simp)
    (fun j u hj => by
      have e1 : (⟨nb, 0, none⟩ : Addr).add j = ⟨nb, j, none⟩ := by unfold Addr.add; split <;> simp_all
      rw [e1]; exact hx j u hj) (fun u hu => by obtain ⟨n, -, rfl⟩ := List.mem_map.1 hu; rfl) (by unfold maxLen; omega) (by omega) hb
  refine ⟨v', w', h1', ?_, ⟨h3.os, h3.tape, h3.output, h3.size, fun k hk hn => h3.block k hk (fun e => hn e.symm)⟩, ?_⟩
  · unfold IR
    rw [List.map_append, List.length_append]
    exact h2
  · rcases h5 with h | h
    · exact .inl h
    · exact .inr ⟨_, h, Nat.le_refl _⟩
/-- Such a row, for a line. -/
theorem IR.nums {w : World} {B b : Nat} {v : Value} {xs : List Int} (h : IR w B v xs) (hb : b < B) : ∃ a cap, v = .slice a xs.length cap ∧ NumsIn w b a xs := by
  rcases h.2 with ⟨rfl, h0⟩ | ⟨g, cap, cur, rfl, e1, e2, e3, e4, e5, e6⟩
  · exact ⟨none, 0, by rw [h0], .inl (List.eq_nil_of_length_eq_zero h0)⟩
  · refine ⟨_, _, rfl, .inr ⟨g, cur, 3, (0, 0), rfl, by omega, by decide, e2, fun i hi => ?_⟩⟩
    have h1 : (cur.toList.take (xs.length * 1))[i]? = (xs.map (Value.int .i64))[i]? := by rw [e6]
    rw [List.getElem?_take_of_lt (by omega), Array.getElem?_toList, List.getElem?_map, List.getElem?_eq_getElem hi] at h1
    exact h1

/-- What is put together behind i sides. -/
def hasN (x : Out) (i : Nat) : Int := (if 0 < i ∧ x.hl = true then 1 else 0) + (if 1 < i ∧ x.hr = true then 2 else 0)
def numsN (x : Out) (i : Nat) : List Int := (if 0 < i ∧ x.hl = true then [x.l.k, x.l.t, x.l.v] else []) ++ (if 1 < i ∧ x.hr = true then [x.r.k, x.r.t, x.r.v] else [])
theorem outN_eq (x : Out) : outN x = hasN x 2 :: numsN x 2 := by
  unfold outN hasN numsN
  simp
theorem numsN_len (x : Out) (i : Nat) : (numsN x i).length ≤ 6 := by
  unfold numsN
  rw [List.length_append]
  split <;> split <;> simp
theorem newI3 (W : World) (a b c : Int) (t : TypeId) : ∀ j u, ([a, b, c].map (Value.int .i64))[j]? = some u → (W.alloc (.cells #[.int .i64 a, .int .i64 b, .int .i64 c] t)).cell? ⟨W.heap.size, j, none⟩ = some u := fun j u hj =>
  (World.cell?_alloc_at _ _ _ j rfl).trans (by simpa using hj)
set_option maxRecDepth 100000 in
set_option maxHeartbeats 4000000 in
theorem outs_c (x : Out) (w : World) (hx : x.hl = true ∨ x.hr = true) :
    Calls Tryz.prog 37 #[.agg #[.int .i64 x.key, .int .i64 x.l.k, .int .i64 x.l.t, .int .i64 x.l.v, .int .i64 x.r.k, .int .i64 x.r.t, .int .i64 x.r.v, .bool x.hl, .bool x.hr]] w fun e w' => ∃ v, e = .returned v ∧ IR w' w.heap.size v (outN x) ∧ Ext w w' := by
  rw [outN_eq]
  have hl2 := numsN_len x 2
  have hne : numsN x 2 ≠ [] := by
    unfold numsN
    rcases hx with h | h <;> simp [h]
  obtain ⟨key, ⟨lk, lt, lv⟩, ⟨rk, rt, rv⟩, hl, hr⟩ := x
  simp only at hx ⊢
  generalize hX : (⟨key, ⟨lk, lt, lv⟩, ⟨rk, rt, rv⟩, hl, hr⟩ : Out) = x at *
  have c0 : ((w.alloc (.cells #[.int .i64 key, .int .i64 lk, .int .i64 lt, .int .i64 lv, .int .i64 rk, .int .i64 rt, .int .i64 rv, .bool hl, .bool hr] 58)).alloc (.cells #[.int .i64 lk, .int .i64 lt, .int .i64 lv, .int .i64 rk, .int .i64 rt, .int .i64 rv] 56)).cell? ⟨w.heap.size + 1, 0, none⟩ = some (.int .i64 lk) := by go_simp
  have c1 : ((w.alloc (.cells #[.int .i64 key, .int .i64 lk, .int .i64 lt, .int .i64 lv, .int .i64 rk, .int .i64 rt, .int .i64 rv, .bool hl, .bool hr] 58)).alloc (.cells #[.int .i64 lk, .int .i64 lt, .int .i64 lv, .int .i64 rk, .int .i64 rt, .int .i64 rv] 56)).cell? ⟨w.heap.size + 1, 1, none⟩ = some (.int .i64 lt) := by go_simp
  have c2 : ((w.alloc (.cells #[.int .i64 key, .int .i64 lk, .int .i64 lt, .int .i64 lv, .int .i64 rk, .int .i64 rt, .int .i64 rv, .bool hl, .bool hr] 58)).alloc (.cells #[.int .i64 lk, .int .i64 lt, .int .i64 lv, .int .i64 rk, .int .i64 rt, .int .i64 rv] 56)).cell? ⟨w.heap.size + 1, 2, none⟩ = some (.int .i64 lv) := by go_simp
  have c3 : ((w.alloc (.cells #[.int .i64 key, .int .i64 lk, .int .i64 lt, .int .i64 lv, .int .i64 rk, .int .i64 rt, .int .i64 rv, .bool hl, .bool hr] 58)).alloc (.cells #[.int .i64 lk, .int .i64 lt, .int .i64 lv, .int .i64 rk, .int .i64 rt, .int .i64 rv] 56)).cell? ⟨w.heap.size + 1, 3, none⟩ = some (.int .i64 rk) := by go_simp
  have c4 : ((w.alloc (.cells #[.int .i64 key, .int .i64 lk, .int .i64 lt, .int .i64 lv, .int .i64 rk, .int .i64 rt, .int .i64 rv, .bool hl, .bool hr] 58)).alloc (.cells #[.int .i64 lk, .int .i64 lt, .int .i64 lv, .int .i64 rk, .int .i64 rt, .int .i64 rv] 56)).cell? ⟨w.heap.size + 1, 4, none⟩ = some (.int .i64 rt) := by go_simp
  have c5 : ((w.alloc (.cells #[.int .i64 key, .int .i64 lk, .int .i64 lt, .int .i64 lv, .int .i64 rk, .int .i64 rt, .int .i64 rv, .bool hl, .bool hr] 58)).alloc (.cells #[.int .i64 lk, .int .i64 lt, .int .i64 lv, .int .i64 rk, .int .i64 rt, .int .i64 rv] 56)).cell? ⟨w.heap.size + 1, 5, none⟩ = some (.int .i64 rv) := by go_simp
  have b7 : ((w.alloc (.cells #[.int .i64 key, .int .i64 lk, .int .i64 lt, .int .i64 lv, .int .i64 rk, .int .i64 rt, .int .i64 rv, .bool hl, .bool hr] 58)).alloc (.cells #[.int .i64 lk, .int .i64 lt, .int .i64 lv, .int .i64 rk, .int .i64 rt, .int .i64 rv] 56)).cell? ⟨w.heap.size, 7, none⟩ = some (.bool hl) := by go_simp
  have b8 : ((w.alloc (.cells #[.int .i64 key, .int .i64 lk, .int .i64 lt, .int .i64 lv, .int .i64 rk, .int .i64 rt, .int .i64 rv, .bool hl, .bool hr] 58)).alloc (.cells #[.int .i64 lk, .int .i64 lt, .int .i64 lv, .int .i64 rk, .int .i64 rt, .int .i64 rv] 56)).cell? ⟨w.heap.size, 8, none⟩ = some (.bool hr) := by go_simp
  have hx0 : Ext w ((w.alloc (.cells #[.int .i64 key, .int .i64 lk, .int .i64 lt, .int .i64 lv, .int .i64 rk, .int .i64 rt, .int .i64 rv, .bool hl, .bool hr] 58)).alloc (.cells #[.int .i64 lk, .int .i64 lt, .int .i64 lv, .int .i64 rk, .int .i64 rt, .int .i64 rv] 56)) := ((ExtM.refl _).alloc _).alloc _
  have HXX := Lib.hid hX
  clear hX hx
  go_enter Tryz.func37, Tryz.ntmps37
  go_wp2_with fail
  generalize (w.alloc (.cells #[.int .i64 key, .int .i64 lk, .int .i64 lt, .int .i64 lv, .int .i64 rk, .int .i64 rt, .int .i64 rv, .bool hl, .bool hr] 58)).alloc (.cells #[.int .i64 lk, .int .i64 lt, .int .i64 lv, .int .i64 rk, .int .i64 rt, .int .i64 rv] 56) = w0 at *
  have l1 := cell_lt' c0
  have l0 := cell_lt' b7
  simp only at l0 l1
  obtain ⟨N, hN⟩ : ∃ N, N = w0.heap.size := ⟨_, rfl⟩
  have hNl : w.heap.size + 1 < N := by omega
  have HN := Lib.hid hN
  clear hN
  go_loopg [3, 4, 13] 3 (fun kx s3 s4 s13 wr => ∃ i : Nat, s13 = .int .i64 i ∧ i ≤ 2 ∧ 2 - i ≤ kx ∧ s4 = .int .i64 (hasN x i) ∧ IR wr N s3 (numsN x i) ∧ Plan.ExtF N w0 wr)
  case atStart =>
    refine ⟨0, rfl, by omega, by omega, ?_, ?_, ExtF.refl _⟩
    · unfold hasN; simp
    · unfold numsN; simp; exact ⟨rfl, .inl ⟨rfl, rfl⟩⟩
  case round =>
    obtain ⟨i, rfl, hi, hgk, rfl, hir, hx⟩ := hrel
    have hN0 := HN.out
    have kr := hx.rules.1
    have e0 := (kr _ 0 l1 (by omega)).trans c0
    have e1 := (kr _ 1 l1 (by omega)).trans c1
    have e2 := (kr _ 2 l1 (by omega)).trans c2
    have e3 := (kr _ 3 l1 (by omega)).trans c3
    have e4 := (kr _ 4 l1 (by omega)).trans c4
    have e5 := (kr _ 5 l1 (by omega)).trans c5
    have e7 := (kr _ 7 l0 (by omega)).trans b7
    have e8 := (kr _ 8 l0 (by omega)).trans b8
    have q1 : w.heap.size + 1 < wr.heap.size := Nat.lt_of_lt_of_le l1 hx.size
    have q0 : w.heap.size < wr.heap.size := by omega
    have hNw : N ≤ wr.heap.size := by have := hx.size; omega
    clear kr hN0
    by_cases hi2 : i < 2
    · have hX := HXX.out
      have hi3 : i = 0 ∨ i = 1 := by omega
      clear hi2 hi
      rcases hi3 with rfl | rfl
      · skip
        have hnx : numsN x (0 + 1) = numsN x 0 ++ (if hl = true then [lk, lt, lv] else []) := by subst hX; unfold numsN; cases hl <;> cases hr <;> simp
        have hhx : hasN x (0 + 1) = hasN x 0 + (if hl = true then 1 else 0) := by subst hX; unfold hasN; cases hl <;> cases hr <;> simp
        have hh0 : hasN x 0 = 0 ∨ (0 = 1 ∧ hasN x 0 = 1) := by subst hX; unfold hasN; cases hl <;> cases hr <;> simp
        have HNX := Lib.hid hnx
        have HHX := Lib.hid hhx
        clear hnx hhx hX
        cases hl with
        | false =>
          have hgo := hir.alloc (.cells #[.int .i64 lk, .int .i64 lt, .int .i64 lv] 56)
          go_wp2_with fail
          go_roundg (2 - (0 + 1))
          case measure => omega
          case rel =>
            refine ⟨0 + 1, by go_num, by omega, Nat.le_refl _, ?_, ?_, hx.alloc _⟩
            · rw [HHX.out]; simp
            · rw [HNX.out, if_neg (by decide), List.append_nil]
              exact hgo
        | true =>
          obtain ⟨v', w', happ, hir', hxr, hloc⟩ := run_appendN ((wr.alloc (.cells #[.int .i64 lk, .int .i64 lt, .int .i64 lv] 56)).alloc (.cells #[.int .i64 lk, .int .i64 lt, .int .i64 lv] 3)) N (wr.alloc (.cells #[.int .i64 lk, .int .i64 lt, .int .i64 lv] 56)).heap.size 3 u3 (numsN x 0) [lk, lt, lv] 52 ((hir.alloc _).alloc _) (newI3 _ lk lt lv 3) (by have := numsN_len x 0; simp only [List.length_cons, List.length_nil]; omega) (by rw [World.size_alloc, World.size_alloc]; have := hx.size; omega)
          have hxf : Plan.ExtF N w0 w' := ExtF.trans _ _ _ ((hx.alloc _).alloc _) (ExtM.mono hxr (fun k _ e => (own_lt hir k e).1))
          rw [World.size_alloc] at happ
          clear hxr hloc
          rcases hh0 with hh0 | ⟨hh1, hh0⟩
          · skip
            rw [hh0]
            go_wp2_with (at_builtin; refine wpList_append_run happ rfl rfl _ _ rfl rfl rfl ?_; clear happ)
            go_roundg (2 - (0 + 1))
            case measure => omega
            case rel =>
              refine ⟨0 + 1, by go_num, by omega, Nat.le_refl _, ?_, ?_, hxf⟩
              · rw [HHX.out, hh0]; rfl
              · rw [HNX.out]
                exact hir'
          · skip
            exact absurd hh1 (by decide)
      · skip
        have hnx : numsN x (1 + 1) = numsN x 1 ++ (if hr = true then [rk, rt, rv] else []) := by subst hX; unfold numsN; cases hl <;> cases hr <;> simp
        have hhx : hasN x (1 + 1) = hasN x 1 + (if hr = true then 2 else 0) := by subst hX; unfold hasN; cases hl <;> cases hr <;> simp
        have hh0 : hasN x 1 = 0 ∨ (1 = 1 ∧ hasN x 1 = 1) := by subst hX; unfold hasN; cases hl <;> cases hr <;> simp
        have HNX := Lib.hid hnx
        have HHX := Lib.hid hhx
        clear hnx hhx hX
        cases hr with
        | false =>
          have hgo := hir.alloc (.cells #[.int .i64 rk, .int .i64 rt, .int .i64 rv] 56)
          go_wp2_with fail
          go_roundg (2 - (1 + 1))
          case measure => omega
          case rel =>
            refine ⟨1 + 1, by go_num, by omega, Nat.le_refl _, ?_, ?_, hx.alloc _⟩
            · rw [HHX.out]; simp
            · rw [HNX.out, if_neg (by decide), List.append_nil]
              exact hgo
        | true =>
          obtain ⟨v', w', happ, hir', hxr, hloc⟩ := run_appendN ((wr.alloc (.cells #[.int .i64 rk, .int .i64 rt, .int .i64 rv] 56)).alloc (.cells #[.int .i64 rk, .int .i64 rt, .int .i64 rv] 3)) N (wr.alloc (.cells #[.int .i64 rk, .int .i64 rt, .int .i64 rv] 56)).heap.size 3 u3 (numsN x 1) [rk, rt, rv] 52 ((hir.alloc _).alloc _) (newI3 _ rk rt rv 3) (by have := numsN_len x 1; simp only [List.length_cons, List.length_nil]; omega) (by rw [World.size_alloc, World.size_alloc]; have := hx.size; omega)
          have hxf : Plan.ExtF N w0 w' := ExtF.trans _ _ _ ((hx.alloc _).alloc _) (ExtM.mono hxr (fun k _ e => (own_lt hir k e).1))
          rw [World.size_alloc] at happ
          clear hxr hloc
          rcases hh0 with hh0 | ⟨hh1, hh0⟩
          · skip
            rw [hh0]
            go_wp2_with (at_builtin; refine wpList_append_run happ rfl rfl _ _ rfl rfl rfl ?_; clear happ)
            go_roundg (2 - (1 + 1))
            case measure => omega
            case rel =>
              refine ⟨1 + 1, by go_num, by omega, Nat.le_refl _, ?_, ?_, hxf⟩
              · rw [HHX.out, hh0]; rfl
              · rw [HNX.out]
                exact hir'
          · skip
            rw [hh0]
            go_wp2_with (at_builtin; refine wpList_append_run happ rfl rfl _ _ rfl rfl rfl ?_; clear happ)
            go_roundg (2 - (1 + 1))
            case measure => omega
            case rel =>
              refine ⟨1 + 1, by go_num, by omega, Nat.le_refl _, ?_, ?_, hxf⟩
              · rw [HHX.out, hh0]; rfl
              · rw [HNX.out]
                exact hir'
    · obtain rfl : i = 2 := by omega
      have hN0 := HN.out
      have hNs := numsN_len x 2
      obtain ⟨p3, q3, hv3, -⟩ := own_slice hir
      subst hv3
      have hsz2 : w.heap.size ≤ (wr.alloc (.cells #[.int .i64 (hasN x 2)] 3)).heap.size := by rw [World.size_alloc]; omega
      have hacc : IR (wr.alloc (.cells #[.int .i64 (hasN x 2)] 3)) w.heap.size (.slice (some ⟨wr.heap.size, 0, none⟩) 1 1) [hasN x 2] := ⟨rfl, .inr ⟨wr.heap.size, 1, #[.int .i64 (hasN x 2)], rfl, by omega, heap_alloc_new _ _, Nat.le_refl _, by unfold maxLen; decide, rfl, rfl⟩⟩
      obtain ⟨g, cap, cur, hg1, hg2, hg3, hg4⟩ : ∃ g cap cur, p3 = some ⟨g, 0, none⟩ ∧ q3 = cap ∧ wr.heap[g]? = some (.cells cur 3 (0, 0)) ∧ ∀ j u, ((numsN x 2).map (Value.int .i64))[j]? = some u → cur[j]? = some u := by
        rcases hir.2 with ⟨e, h0⟩ | ⟨g, cap, cur, e, e1, e2, e3, e4, e5, e6⟩
        · exact absurd (List.eq_nil_of_length_eq_zero h0) hne
        · simp only [Value.slice.injEq, true_and] at e
          refine ⟨g, cap, cur, e.1, e.2, e2, fun j u hj => ?_⟩
          rw [← e6, List.getElem?_take] at hj
          split at hj
          · rw [Array.getElem?_toList] at hj; exact hj
          · cases hj
      subst hg1; subst hg2
      obtain ⟨v', w', happ, hir', hxr, hloc⟩ := run_appendN (wr.alloc (.cells #[.int .i64 (hasN x 2)] 3)) w.heap.size g q3 (.slice (some ⟨wr.heap.size, 0, none⟩) 1 1) [hasN x 2] (numsN x 2) 52 hacc
        (fun j u hj => by
          rw [World.cell?_alloc_lt _ _ _ (show g < wr.heap.size from (Array.getElem?_eq_some_iff.1 hg3).1)]
          have := hg4 j u hj
          simpa [World.cell?, hg3] using this) (by simp only [List.length_cons, List.length_nil]; omega) hsz2
      have hxf : Plan.ExtF N w0 w' := ExtF.trans _ _ _ (hx.alloc _) (ExtM.mono hxr (fun k _ e => by have := Option.some.inj e; have h8 := hx.size; simp at this; omega))
      have hfin : Ext w w' := ExtM.trans _ _ _ hx0 (hxf.ext (by omega))
      clear hxr hloc hxf hx hir hacc hg3 hg4 e0 e1 e2 e3 e4 e5 e7 e8
      go_wp2_with (at_builtin; refine wpList_append_run happ rfl rfl _ _ rfl rfl rfl ?_; clear happ)
      go_ret
      exact ⟨_, rfl, hir', hfin⟩
end Go.Proofs.YtmcgnnmffeojpaaGreatDoor
namespace Go.Proofs.YtmcgnnmffeojpaaGreatDoor
open Go.RowKit Go.Plan

/-- Numbers that a line may bear. -/
def LineOk (x : List UInt8 × List Int) : Prop := x.1.length ≤ 8 ∧ x.2.length ≤ 8 ∧ ∀ n ∈ x.2, -9223372036854775808 ≤ n ∧ n ≤ 9223372036854775807
theorem text_len : ∀ ls : List (List UInt8 × List Int), (∀ x ∈ ls, LineOk x) → (textB ls).length ≤ 200 * ls.length
  | [], _ => by simp [textB]
  | x :: ls, h => by
    obtain ⟨h1, h2, h3⟩ := h x List.mem_cons_self
    have h4 := nums_len x.2 h3
    have h5 := text_len ls (fun y hy => h y (List.mem_cons_of_mem _ hy))
    rw [textB_cons, lineB_eq, List.length_append, List.length_append, List.length_append]
    simp only [List.length_cons, List.length_nil]
    omega
theorem own_bext {w w' : World} {B b bb n sz : Nat} {e : TypeId} {v : Value} {xs : List Value} (h : w.ownsRow bb e sz v n xs) (hx : BExt B b w w') (he : e ≠ 5) (hv : v.ownBlock ≠ some b) : w'.ownsRow bb e sz v n xs := by
  obtain ⟨h1, h2⟩ := h
  refine ⟨h1, ?_⟩
  rcases h2 with h2 | ⟨g, cap, cur, rfl, e2, e3, e4⟩
  · exact .inl h2
  · exact .inr ⟨g, cap, cur, rfl, e2, hx.row e3 (fun q => hv (by rw [← q]; rfl)) he, e4⟩
theorem BExt.extF {B b : Nat} {w w' : World} (h : BExt B b w w') : Plan.ExtF B w w' := ⟨h.1.os, h.1.tape, h.1.output, h.1.size, fun k _ hn => h.1.block k (by omega)⟩
/-- One line more. -/
theorem lineT_c (B b : Nat) (ls : List (List UInt8 × List Int)) (x : List UInt8 × List Int) (s : ByteArray) (hs : s.data.toList = x.1) (a : Option Addr) (cap : Nat) (w : World) (hS : SB B b (textB ls) w) (ht : TabP w) (hB : 3 < B) (hr : NumsIn w b a x.2)
    (hls : ∀ x ∈ ls, LineOk x) (hx : LineOk x) (hl : ls.length ≤ 2000000) :
    Calls Tryz.prog 31 #[.string s, .slice a x.2.length cap, .pointer (some ⟨b, 0, none⟩)] w fun e w' => e = .returned (.tuple #[]) ∧ SB B b (textB (ls ++ [x])) w' ∧ BExt B b w w' := by
  obtain ⟨h1, h2, h3⟩ := hx
  have h4 := text_len ls hls
  refine (line_c B b (textB ls) x.1 s hs a cap x.2 w hS ht hB hr h3 (by omega)).mono ?_
  rintro e w' ⟨he, hS', hx'⟩
  refine ⟨he, ?_, hx'⟩
  rw [textB_append]
  have : textB [x] = lineB x.1 x.2 ++ [10] := by rw [textB_cons]; simp [textB]
  rw [this]
  exact hS'
theorem NumsIn.new {W : World} {b : Nat} (l : List Int) (hb : b < W.heap.size) : NumsIn (W.alloc (.cells (l.map (Value.int .i64)).toArray 3)) b (some ⟨W.heap.size, 0, none⟩) l :=
  .inr ⟨W.heap.size, _, 3, (0, 0), rfl, by omega, by decide, heap_alloc_new _ _, fun i hi => by simp [hi]⟩

/-- What makes a text of an engine. -/
structure SOk (e : ESt) : Prop where
  l0 : ∀ n ∈ [e.lo, e.hi, e.md, e.f0, e.f1, e.st.late, e.st.x, e.st.y], -9223372036854775808 ≤ n ∧ n ≤ 9223372036854775807
  ga : ∀ h ∈ e.st.a, goodR h.r ∧ 0 ≤ h.m ∧ h.m ≤ 9223372036854775807
  gb : ∀ h ∈ e.st.b, goodR h.r ∧ 0 ≤ h.m ∧ h.m ≤ 9223372036854775807
  la : e.st.a.length ≤ 300
  lb : e.st.b.length ≤ 300
  v : ∀ x ∈ e.V, (x.hl = true ∨ x.hr = true) ∧ x.ok
  lv : e.V.length ≤ 900000
/-- The lines up to the rows of a side. -/
def upLs (e : ESt) (i : Nat) : List (List UInt8 × List Int) := headLs e ++ ((if 0 < i then e.st.a.map (fun h => (wRow, rowN 0 h)) else []) ++ (if 1 < i then e.st.b.map (fun h => (wRow, rowN 1 h)) else []))
theorem savedLs_eq (e : ESt) : savedLs e = upLs e 2 ++ ((sortO e.V).map (fun x => (wOut, outN x)) ++ [(wEnd, [])]) := by
  unfold savedLs upLs bodyLs
  simp [List.append_assoc]
theorem outN_ok {x : Out} (h : x.ok) : LineOk (wOut, outN x) := by
  obtain ⟨h1, ⟨h2, h3, h4⟩, h5, h6, h7⟩ := h
  unfold I64 at *
  refine ⟨(show wOut.length ≤ 8 by decide), ?_, fun n hn => ?_⟩
  · unfold outN; simp only [List.length_cons, List.length_append]; split <;> split <;> simp
  · unfold outN at hn
    rcases List.mem_cons.1 hn with rfl | hn
    · split <;> split <;> decide
    · rcases List.mem_append.1 hn with hn | hn
      · split at hn
        · simp only [List.mem_cons, List.not_mem_nil, or_false] at hn
          rcases hn with rfl | rfl | rfl <;> assumption
        · cases hn
      · split at hn
        · simp only [List.mem_cons, List.not_mem_nil, or_false] at hn
          rcases hn with rfl | rfl | rfl <;> assumption
        · cases hn
theorem rowN_ok {s : Int} (hs : s = 0 ∨ s = 1) {h : Hd} (hg : goodR h.r ∧ 0 ≤ h.m ∧ h.m ≤ 9223372036854775807) : LineOk (wRow, rowN s h) := ⟨(show wRow.length ≤ 8 by decide), (show 5 ≤ 8 by decide), rowN_i64 hs hg.1 hg.2.1 hg.2.2⟩
theorem headLs_ok {e : ESt} (h : SOk e) : ∀ x ∈ headLs e, LineOk x := by
  have h0 := h.l0
  simp only [List.mem_cons, List.not_mem_nil, or_false, forall_eq_or_imp, forall_eq] at h0
  intro x hx
  unfold headLs at hx
  simp only [List.mem_cons, List.not_mem_nil, or_false] at hx
  rcases hx with rfl | rfl | rfl
  · refine ⟨(show wPlan.length ≤ 8 by decide), (show 3 ≤ 8 by decide), fun n hn => ?_⟩
    simp only [List.mem_cons, List.not_mem_nil, or_false] at hn
    omega
  · refine ⟨(show wFed.length ≤ 8 by decide), (show 3 ≤ 8 by decide), fun n hn => ?_⟩
    simp only [List.mem_cons, List.not_mem_nil, or_false] at hn
    omega
  · refine ⟨(show wMarks.length ≤ 8 by decide), (show 2 ≤ 8 by decide), fun n hn => ?_⟩
    simp only [List.mem_cons, List.not_mem_nil, or_false] at hn
    omega
end Go.Proofs.YtmcgnnmffeojpaaGreatDoor
