/- The reference's rows in the order of 4.1: sorted, All. -/
import Derived.Test.YtggjceolhbdalaaGreatDoorRPut
import Derived.Test.YtggjceolhbdalaaGreatDoorSIf10
import Derived.Test.YtggjceolhbdalaaGreatDoorSideLaw
namespace Go.Proofs.YtggjceolhbdalaaGreatDoor
open Go.RowKit Go.Plan Go.Sort

instance : Inhabited RHd := ⟨⟨⟨0, 0, 0⟩, 0, 0⟩⟩
/-- Ahead in the order of 4.1: by key, time, as they came. -/
def ltRB (a b : RHd) : Bool := decide (ordI [a.r.k, a.r.t, a.c] [b.r.k, b.r.t, b.c] < 0)
theorem ltRB_iff (a b : RHd) : ltRB a b = true ↔ ltR a b := by
  unfold ltRB ltR ordI ordI ordI ordI
  simp only [decide_eq_true_eq]
  split
  · simp; omega
  · split
    · simp; omega
    · split
      · simp; omega
      · split
        · simp; omega
        · split
          · simp; omega
          · split
            · simp; omega
            · simp; omega
theorem ltRB_false (a b : RHd) : ltRB a b = false ↔ ¬ ltR a b := by
  rw [← ltRB_iff]; simp
theorem swoRB : SWO ltRB := by
  refine ⟨fun x => ?_, fun x y z h1 h2 => ?_, fun x y z h1 h2 => ?_⟩
  · rw [ltRB_false]; exact ltR_irrefl x
  · rw [ltRB_iff] at *; exact ltR_trans h1 h2
  · rw [ltRB_false] at *; unfold ltR at *; omega

theorem rrow_cells {w : World} {v : Value} {L : List RHd} (h : JRow w 0 v L) (x : Nat) (hx : x < L.length) :
    ∃ g cap, v = .slice (some ⟨g, 0, none⟩) L.length cap ∧ g < w.heap.size ∧ w.cell? ⟨g, x * 5, none⟩ = some (.int .i64 L[x]!.r.k) ∧ w.cell? ⟨g, x * 5 + 1, none⟩ = some (.int .i64 L[x]!.r.t) ∧ w.cell? ⟨g, x * 5 + 2, none⟩ = some (.int .i64 L[x]!.r.v) ∧ w.cell? ⟨g, x * 5 + 3, none⟩ = some (.int .i64 L[x]!.m) ∧ w.cell? ⟨g, x * 5 + 4, none⟩ = some (.int .i64 L[x]!.c) := by
  have e : L[x]! = L[x] := getElem!_pos L x hx
  rw [e]
  obtain ⟨g, cap, rfl, hg, h0, -⟩ := own_cell (enc := RHd.cells) rhd_len h x 0 hx (by omega)
  have hh := fun c (hc : c < 5) => own_cell (enc := RHd.cells) rhd_len h x c hx hc
  have hk : ∀ c, c < 5 → w.cell? ⟨g, x * 5 + c, none⟩ = (L[x].cells)[c]? := fun c hc => by
    obtain ⟨g', cap', e1, -, e2, -⟩ := hh c hc
    simp only [Value.slice.injEq, Option.some.injEq, Addr.mk.injEq, and_true, true_and] at e1
    rw [e1.1]; exact e2
  exact ⟨g, cap, rfl, hg, hk 0 (by omega), hk 1 (by omega), hk 2 (by omega), hk 3 (by omega), hk 4 (by omega)⟩

theorem extF_both {w u v : World} (hu : Ext w u) (hv : Ext w v) (hs : u.heap.size ≤ v.heap.size) : ExtF w.heap.size u v :=
  ⟨hv.os.trans hu.os.symm, hv.tape.trans hu.tape.symm, hv.output.trans hu.output.symm, hs, fun k _ hk => (hv.block k (by omega) id).trans (hu.block k (by omega) id).symm⟩

set_option maxRecDepth 100000 in
set_option maxHeartbeats 4000000 in
theorem sortedLess_c (J s bj bs bl blk n cap i j x y : Nat) (v : Value) (L : List RHd) (w : World) (hs : s < 2) (h1 : w.cell? ⟨bj, 0, none⟩ = some (.pointer (some ⟨J, 0, none⟩))) (h2 : w.cell? ⟨bs, 0, none⟩ = some (.int .i64 s)) (h3 : w.cell? ⟨bl, 0, none⟩ = some (.slice (some ⟨blk, 0, none⟩) n cap))
    (h4 : w.cell? ⟨J, 3 + s, none⟩ = some v) (row : JRow w 0 v L) (hi : i < n) (hj : j < n) (ci : w.cell? ⟨blk, i, none⟩ = some (.int .i64 x)) (cj : w.cell? ⟨blk, j, none⟩ = some (.int .i64 y)) (hx : x < L.length) (hy : y < L.length) :
    Calls Tryz.prog 48 #[.int .i64 i, .int .i64 j, .pointer (some ⟨bj, 0, none⟩), .pointer (some ⟨bs, 0, none⟩), .pointer (some ⟨bl, 0, none⟩)] w fun e w' => e = .returned (.bool (ltRB L[x]! L[y]!)) ∧ Ext w w' := by
  obtain ⟨g, rc, rfl, hg, x0, x1, x2, x3, x4⟩ := rrow_cells row x hx
  obtain ⟨g', rc', e', -, y0, y1, y2, y3, y4⟩ := rrow_cells row y hy
  simp only [Value.slice.injEq, Option.some.injEq, Addr.mk.injEq, and_true, true_and] at e'
  obtain ⟨rfl, rfl⟩ := e'
  have lt_of : ∀ {b o u}, w.cell? ⟨b, o, none⟩ = some u → b < w.heap.size := fun {b o u} h => by
    unfold World.cell? at h
    split at h
    · rename_i hb; exact (Array.getElem?_eq_some_iff.1 hb).1
    · cases h
  have l1 := lt_of h1
  have l2 := lt_of h2
  have l3 := lt_of h3
  have l4 := lt_of h4
  have l5 := lt_of ci
  unfold ltRB
  generalize L[x]! = X at *
  generalize L[y]! = Y at *
  go_enter Tryz.func48, Tryz.ntmps48
  go_wp2_with fail
  refine Plan.beginT (Plan.ExtF w.heap.size) [27] 28 rfl (by kernel_rfl) ?_
  refine Plan.left_q 0 (by rfl) (by kernel_rfl) ?_; go_big_quiet_step (fail); refine wpQuiet_nil ?_
  refine Plan.left_q 1 (by rfl) (by kernel_rfl) ?_; go_big_quiet_step (fail); refine wpQuiet_nil ?_
  refine Plan.left_q 2 (by rfl) (by kernel_rfl) ?_; go_big_quiet_step (fail); refine wpQuiet_nil ?_
  refine Plan.left_q 3 (by rfl) (by kernel_rfl) ?_; go_big_quiet_step (fail); refine wpQuiet_nil ?_
  refine Plan.left_q 4 (by rfl) (by kernel_rfl) ?_; go_big_quiet_step (fail); refine wpQuiet_nil ?_
  refine Plan.left_q 5 (by rfl) (by kernel_rfl) ?_; go_big_quiet_step (fail); refine wpQuiet_nil ?_
  refine Plan.left_q 6 (by rfl) (by kernel_rfl) ?_; go_big_quiet_step (fail); refine wpQuiet_nil ?_
  refine Plan.left_q 7 (by rfl) (by kernel_rfl) ?_; go_big_quiet_step (fail); refine wpQuiet_nil ?_
  refine Plan.left_q 8 (by rfl) (by kernel_rfl) ?_; go_big_quiet_step (fail); refine wpQuiet_nil ?_
  refine Plan.left_q 9 (by rfl) (by kernel_rfl) ?_; go_big_quiet_step (fail); refine wpQuiet_nil ?_
  refine Plan.left_q 10 (by rfl) (by kernel_rfl) ?_; go_big_quiet_step (fail); refine wpQuiet_nil ?_
  refine Plan.left_q 11 (by rfl) (by kernel_rfl) ?_; go_big_quiet_step (fail); refine wpQuiet_nil ?_
  refine Plan.left_q 12 (by rfl) (by kernel_rfl) ?_; go_big_quiet_step (fail); refine wpQuiet_nil ?_
  refine Plan.left_q 13 (by rfl) (by kernel_rfl) ?_; go_big_quiet_step (fail); refine wpQuiet_nil ?_
  refine Plan.left_q 14 (by rfl) (by kernel_rfl) ?_; go_big_quiet_step (fail); refine wpQuiet_nil ?_
  refine Plan.left_q 15 (by rfl) (by kernel_rfl) ?_; go_big_quiet_step (fail); refine wpQuiet_nil ?_
  refine Plan.left_q 16 (by rfl) (by kernel_rfl) ?_; go_big_quiet_step (fail); refine wpQuiet_nil ?_
  refine Plan.left_q 17 (by rfl) (by kernel_rfl) ?_; go_big_quiet_step (fail); refine wpQuiet_nil ?_
  refine Plan.left_q 18 (by rfl) (by kernel_rfl) ?_; go_big_quiet_step (fail); refine wpQuiet_nil ?_
  refine Plan.left_q 19 (by rfl) (by kernel_rfl) ?_; go_big_quiet_step (fail); refine wpQuiet_nil ?_
  refine Plan.left_q 20 (by rfl) (by kernel_rfl) ?_; go_big_quiet_step (fail); refine wpQuiet_nil ?_
  refine Plan.left_q 21 (by rfl) (by kernel_rfl) ?_; go_big_quiet_step (fail); refine wpQuiet_nil ?_
  refine Plan.left_q 22 (by rfl) (by kernel_rfl) ?_; go_big_quiet_step (fail); refine wpQuiet_nil ?_
  refine Plan.left_q 23 (by rfl) (by kernel_rfl) ?_; go_big_quiet_step (fail); refine wpQuiet_nil ?_
  refine Plan.left_two 24 25 (by kernel_rfl) (by rfl) (by rfl) (Plan.plain rfl fun K hK => ?_) (Plan.plain rfl fun K hK => ?_)
  focus
    go_wp2_with (fail)
    refine hK _ _ ((ExtF.refl _).alloc _) ?_
    clear hK K
    refine Plan.left_one 25 (by kernel_rfl) (by rfl) (Plan.plain rfl fun K hK => ?_)
    go_wp2_with (fail)
    refine hK _ _ ((ExtF.refl _).alloc _) ?_
    clear hK K
    refine Plan.left_one 26 (by kernel_rfl) (by rfl) (Plan.plain rfl fun K hK => ?_)
    go_wp2_with (fail)
    refine hK _ _ (extF_both (((ExtM.refl w).alloc _).alloc _).drew (((ExtM.refl w).alloc _).alloc _).drew (by simp)) ?_
    clear hK K
    refine Plan.left_one 27 (by kernel_rfl) (by rfl) (Plan.last rfl (by kernel_rfl) fun K hK => ?_)
    go_wp2_with (fail)
    refine Plan.left_done (by kernel_rfl) ?_
  rotate_left
  focus
    go_wp2_with (fail)
    refine hK _ _ ((ExtF.refl _).alloc _) ?_
    clear hK K
    refine Plan.left_one 24 (by kernel_rfl) (by rfl) (Plan.plain rfl fun K hK => ?_)
    go_wp2_with (fail)
    refine hK _ _ ((ExtF.refl _).alloc _) ?_
    clear hK K
    refine Plan.left_one 26 (by kernel_rfl) (by rfl) (Plan.plain rfl fun K hK => ?_)
    go_wp2_with (fail)
    refine hK _ _ (extF_both (((ExtM.refl w).alloc _).alloc _).drew (((ExtM.refl w).alloc _).alloc _).drew (by simp)) ?_
    clear hK K
    refine Plan.left_one 27 (by kernel_rfl) (by rfl) (Plan.last rfl (by kernel_rfl) fun K hK => ?_)
    go_wp2_with (fail)
    refine Plan.left_done (by kernel_rfl) ?_
  all_goals
    go_wp2_with (
      go_at_call 49
      refine (order_c [X.r.k, X.r.t, X.c] [Y.r.k, Y.r.t, Y.c] _ _ _ _ _ _ _ (fun i hi => by match i, hi with | 0, _ => go_simp | 1, _ => go_simp | 2, _ => go_simp) (fun i hi => by match i, hi with | 0, _ => go_simp | 1, _ => go_simp | 2, _ => go_simp) rfl (by simp)).mono ?_
      rintro e w' ⟨rfl, q, rfl⟩)
    go_ret
    exact ⟨rfl, (((((ExtM.refl w).alloc _).alloc _).alloc _).alloc _).drewN _⟩

/-! ### a row of ints -/
def encI1 (x : Int) : List Value := [.int .i64 x]
theorem encI1_len (x : Int) : (encI1 x).length = 1 := rfl
theorem encI1_one (x : Int) : ∀ u ∈ encI1 x, u.oneCell' = true := fun u hu => by
  rw [encI1, List.mem_singleton] at hu; subst hu; rfl
def IRow (w : World) (base : Nat) (v : Value) (l : List Int) : Prop := w.ownsRow base 3 1 v l.length (l.flatMap encI1)
theorem sInfoI : (Tryz.prog.info? 3).map (fun i => (i.zero, i.size, i.bytes)) = some (some (.int .i64 0), 1, 8) := by kernel_rfl
theorem run_appendI1 (W : World) (base nb c : Nat) (v : Value) (acc : List Int) (x : Int) (ty : TypeId) (hown : IRow W base v acc) (hx : W.cell? ⟨nb, 0, none⟩ = some (.int .i64 x)) (hl : acc.length < 1000000) (hb : base ≤ W.heap.size) :
    ∃ v' w', (Builtin.append_ #[77, 77] ty #[v, .slice (some ⟨nb, 0, none⟩) 1 c]).run Tryz.prog W = .ok v' w' ∧ IRow w' base v' (acc ++ [x]) ∧ ExtR v.ownBlock W w' ∧ (v'.ownBlock = v.ownBlock ∨ ∃ k, v'.ownBlock = some k ∧ W.heap.size ≤ k) :=
  run_appendK encI1_len encI1_one 77 _ 8 sInfoI rfl (by decide) Tryz.underlying77 (by decide) W base nb c v acc x ty hown (fun j u hj => by
    match j, hj with
    | 0, hj => rw [hx]; simpa [encI1] using hj
    | j + 1, hj => simp [encI1] at hj) hl hb
theorem IRow.holds {w : World} {base blk cap n : Nat} {l : List Int} (h : IRow w base (.slice (some ⟨blk, 0, none⟩) n cap) l) : Holds (Value.int .i64) w blk 0 l.toArray ∧ blk < w.heap.size := by
  refine ⟨fun j hj => ?_, (own_lt h blk rfl).2⟩
  have hj' : j < l.length := by simpa using hj
  obtain ⟨g, c2, e2, hg, hc, hf⟩ := own_cell (enc := encI1) encI1_len h j 0 hj' (by omega)
  simp only [Value.slice.injEq, Option.some.injEq, Addr.mk.injEq, and_true] at e2
  obtain ⟨rfl, -⟩ := e2
  rw [Nat.mul_one, Nat.add_zero] at hc hf
  rw [Nat.zero_add]
  refine ⟨?_, hf⟩
  rw [hc, getElem!_pos _ j hj]
  rfl

/-- What sorted hands back: the places of the rows, in the order of 4.1. -/
def SortedR (L : List RHd) (is : List Nat) : Prop := is.Perm (List.range L.length) ∧ (is.map (fun i => L[i]!)).Pairwise (fun a b => ¬ ltR b a)
def SortedPost (L : List RHd) (w : World) (e : Ending) (w' : World) : Prop :=
  ∃ (p : Option Addr) (cap : Nat) (is : List Nat), e = .returned (.slice p L.length cap) ∧ Ext w w' ∧ SortedR L is ∧ is.length = L.length ∧ (L = [] ∨ ∃ b, p = some ⟨b, 0, none⟩ ∧ w.heap.size ≤ b ∧ b < w'.heap.size ∧ ∀ i, i < L.length → w'.cell? ⟨b, i, none⟩ = some (.int .i64 (is[i]! : Nat)))

/-- From the sort's own words. -/
theorem sorted_of {L : List RHd} {d' : Array Int} (hp : PermIn 0 L.length ((List.range L.length).map Int.ofNat).toArray d') (hs : SortedIn (fun x y : Int => ltRB L[x.toNat]! L[y.toNat]!) 0 L.length d') : SortedR L (d'.toList.map Int.toNat) ∧ ∀ i, i < L.length → d'[i]! = (((d'.toList.map Int.toNat)[i]! : Nat) : Int) := by
  have hsz : d'.size = L.length := by rw [hp.1]; simp
  have hperm : d'.toList.Perm ((List.range L.length).map Int.ofNat) := by
    have h := hp.2.2
    rw [show d'.extract 0 L.length = d' by rw [← hsz]; simp, show (((List.range L.length).map Int.ofNat).toArray).extract 0 L.length = ((List.range L.length).map Int.ofNat).toArray by simp [List.take_of_length_le]] at h
    simpa using h
  refine ⟨⟨?_, ?_⟩, fun i hi => ?_⟩
  · have := hperm.map Int.toNat
    rw [List.map_map] at this
    have e : (Int.toNat ∘ Int.ofNat) = id := by funext x; simp
    rw [e, List.map_id] at this
    exact this
  · rw [List.map_map, List.pairwise_map, List.pairwise_iff_getElem]
    intro i j hi hj hij
    have h := hs i j (Nat.zero_le _) hij (by rw [← hsz]; simpa using hj)
    rw [ltRB_false, getElem!_pos d' j (by simpa using hj), getElem!_pos d' i (by simpa using hi)] at h
    simpa using h
  · have hi' : i < d'.size := by omega
    have hm : d'[i] ∈ (List.range L.length).map Int.ofNat := hperm.mem_iff.1 (by simp)
    obtain ⟨q, -, hq⟩ := List.mem_map.1 hm
    rw [getElem!_pos d' i hi', getElem!_pos _ i (by simpa using hi')]
    simp only [List.getElem_map, Array.getElem_toList, ← hq]
    simp

theorem lt_of_cell {w : World} {b o : Nat} {u : Value} (h : w.cell? ⟨b, o, none⟩ = some u) : b < w.heap.size := by
  unfold World.cell? at h
  split at h
  · rename_i hb; exact (Array.getElem?_eq_some_iff.1 hb).1
  · cases h

set_option maxRecDepth 100000 in
set_option maxHeartbeats 4000000 in
theorem sorted_c (J s : Nat) (v : Value) (L : List RHd) (w : World) (hs : s < 2) (h4 : w.cell? ⟨J, 3 + s, none⟩ = some v) (row : JRow w 0 v L) (hl : L.length < 100000) :
    Calls Tryz.prog 28 #[.pointer (some ⟨J, 0, none⟩), .int .i64 s] w (SortedPost L w) := by
  obtain ⟨p0, cap0, rfl, -⟩ := own_slice row
  have l4 := lt_of_cell h4
  have hx3 : Ext w (((w.alloc (.cells #[.pointer (some ⟨J, 0, none⟩)] 34)).alloc (.cells #[.int .i64 s] 3)).alloc (.cells #[.slice none 0 0] 77)) := (((ExtM.refl w).alloc _).alloc _).alloc _
  go_enter Tryz.func28, Tryz.ntmps28
  go_wp2_with fail
  have b0 : (((w.alloc (.cells #[.pointer (some ⟨J, 0, none⟩)] 34)).alloc (.cells #[.int .i64 s] 3)).alloc (.cells #[.slice none 0 0] 77)).cell? ⟨w.heap.size, 0, none⟩ = some (.pointer (some ⟨J, 0, none⟩)) := by go_simp
  have b1 : (((w.alloc (.cells #[.pointer (some ⟨J, 0, none⟩)] 34)).alloc (.cells #[.int .i64 s] 3)).alloc (.cells #[.slice none 0 0] 77)).cell? ⟨w.heap.size + 1, 0, none⟩ = some (.int .i64 s) := by go_simp
  have b2 : (((w.alloc (.cells #[.pointer (some ⟨J, 0, none⟩)] 34)).alloc (.cells #[.int .i64 s] 3)).alloc (.cells #[.slice none 0 0] 77)).cell? ⟨w.heap.size + 2, 0, none⟩ = some (.slice none 0 0) := by go_simp
  have f2 : (((w.alloc (.cells #[.pointer (some ⟨J, 0, none⟩)] 34)).alloc (.cells #[.int .i64 s] 3)).alloc (.cells #[.slice none 0 0] 77)).frozen? ⟨w.heap.size + 2, 0, none⟩ = false := by go_simp
  have sz : w.heap.size + 2 < (((w.alloc (.cells #[.pointer (some ⟨J, 0, none⟩)] 34)).alloc (.cells #[.int .i64 s] 3)).alloc (.cells #[.slice none 0 0] 77)).heap.size := by simp
  generalize ((w.alloc (.cells #[.pointer (some ⟨J, 0, none⟩)] 34)).alloc (.cells #[.int .i64 s] 3)).alloc (.cells #[.slice none 0 0] 77) = W3 at *
  have d4 : W3.cell? ⟨J, 3 + s, none⟩ = some (.slice p0 L.length cap0) := (hx3.cell (p := ⟨J, 3 + s, none⟩) l4 (fun h => h)).trans h4
  go_quiet (fail)
  go_wp2_with fail
  go_loopg [14] (L.length + 1) (fun kx s14 wr => ∃ (i : Nat) (u : Value), s14 = .int .i64 i ∧ i ≤ L.length ∧ L.length - i ≤ kx ∧ wr.cell? ⟨w.heap.size, 0, none⟩ = some (.pointer (some ⟨J, 0, none⟩)) ∧ wr.cell? ⟨w.heap.size + 1, 0, none⟩ = some (.int .i64 s) ∧ wr.cell? ⟨w.heap.size + 2, 0, none⟩ = some u ∧ wr.frozen? ⟨w.heap.size + 2, 0, none⟩ = false ∧
    Ext w wr ∧ w.heap.size + 2 < wr.heap.size ∧ IRow wr (w.heap.size + 3) u ((List.range i).map Int.ofNat))
  case atStart => exact ⟨0, .slice none 0 0, rfl, by omega, by omega, b0, b1, b2, f2, hx3.drewN _, sz, ⟨rfl, .inl ⟨rfl, rfl⟩⟩⟩
  case round =>
    clear b0 b1 b2 f2 sz d4
    obtain ⟨i, u, rfl, hi, hgk, b0, b1, b2, f2, hx, sz, hrow⟩ := hrel
    by_cases hlt : i < L.length
    · have hJw : J < wr.heap.size := by have := hx.size; omega
      obtain ⟨v', w', happ, hown', hgr, hloc⟩ := run_appendI1 (wr.alloc (.cells #[.int .i64 i] 3)) (w.heap.size + 3) wr.heap.size 1 u ((List.range i).map Int.ofNat) i 77 (own_ext hrow ((ExtM.refl wr).alloc _ : Ext wr _) (fun _ _ h => h)) (by go_simp) (by simp; omega) (by have := hx.size; simp; omega)
      have hge : ∀ k, u.ownBlock = some k → w.heap.size + 3 ≤ k := fun k hk => (own_lt hrow k hk).1
      have hge' : ∀ k, v'.ownBlock = some k → w.heap.size + 3 ≤ k := fun k hk => (own_lt hown' k hk).1
      have hc : ∀ b o, b < w.heap.size + 3 → w'.cell? ⟨b, o, none⟩ = wr.cell? ⟨b, o, none⟩ := fun b o hb => by
        rw [hgr.cell (p := ⟨b, o, none⟩) (by simp; omega) (fun e => by have : w.heap.size + 3 ≤ b := hge _ e; omega), World.cell?_alloc_past _ _ _ (show b < wr.heap.size by omega)]
      have hf : ∀ b o, b < w.heap.size + 3 → w'.frozen? ⟨b, o, none⟩ = wr.frozen? ⟨b, o, none⟩ := fun b o hb => by
        rw [hgr.frozen (p := ⟨b, o, none⟩) (by simp; omega) (fun e => by have : w.heap.size + 3 ≤ b := hge _ e; omega), World.frozen?_alloc_past _ _ _ (show b < wr.heap.size by omega)]
      have g0 := (hc _ 0 (by omega)).trans b0
      have g1 := (hc _ 0 (by omega)).trans b1
      have g2 := (hc _ 0 (by omega)).trans b2
      have k2 := (hf _ 0 (by omega)).trans f2
      have hx' : Ext w w' := ⟨hgr.os.trans hx.os, hgr.tape.trans hx.tape, hgr.output.trans hx.output, Nat.le_trans hx.size (Nat.le_trans (by simp) hgr.size), fun k hk _ => by
        have h1 := hgr.block k (by simp; omega) (fun e => by have := hge _ e; omega)
        rw [h1, heap_alloc_old _ _ (by have := hx.size; omega)]
        exact hx.block k hk id⟩
      have hlen : ((List.range i).map Int.ofNat ++ [(i : Int)]).length = i + 1 := by simp
      obtain ⟨vp, vc, rfl, -⟩ := own_slice hown'
      rw [hlen] at hown' hge'
      clear hc hf
      go_wp2_with (at_builtin; refine wpList_append_run happ rfl rfl _ _ rfl rfl rfl ?_; clear happ)
      go_roundg (L.length - (i + 1))
      case measure => omega
      case rel =>
        have hx2 := fun v' => (show Ext w (w'.setCell ⟨w.heap.size + 2, 0, none⟩ v') from ExtM.setCell (p := ⟨w.heap.size + 2, 0, none⟩) hx' (.inl (by simp)) _)
        refine ⟨i + 1, _, by go_num, by omega, Nat.le_refl _, ?_, ?_, World.cell?_setCell_same _ _ _ g2, by simpa using k2, hx2 _, by simpa using (by have := hgr.size; simp at this; omega : w.heap.size + 2 < w'.heap.size), ?_⟩
        · rw [World.cell?_setCell_other _ _ _ _ (by intro e; simp only [Addr.mk.injEq, and_true] at e; omega)]; exact g0
        · rw [World.cell?_setCell_other _ _ _ _ (by intro e; simp only [Addr.mk.injEq, and_true] at e; omega)]; exact g1
        · rw [List.range_succ, List.map_append, List.map_singleton]
          exact own_ext hown' (ExtM.setCell (M := fun k => k = w.heap.size + 2) (ExtM.refl w') (p := ⟨w.heap.size + 2, 0, none⟩) (.inr rfl) _) (fun k hk e => by have := hge' k hk; omega)
    · obtain rfl : i = L.length := by omega
      have hp2 : ((List.range L.length).map Int.ofNat).length = L.length := by simp
      obtain ⟨up, uc, rfl, huc⟩ := own_slice hrow
      rw [hp2] at hrow b2
      have hge : ∀ k, (Value.slice up L.length uc).ownBlock = some k → w.heap.size + 3 ≤ k := fun k hk => (own_lt hrow k hk).1
      have hkind : (up = none ∧ uc = 0 ∧ L = []) ∨ ∃ g, up = some ⟨g, 0, none⟩ := by
        rcases hrow.2 with ⟨e, h0⟩ | ⟨g, cap, cur, e, -⟩
        · simp only [Value.slice.injEq] at e
          exact .inl ⟨e.1, e.2.2, List.eq_nil_of_length_eq_zero (by simpa using h0)⟩
        · simp only [Value.slice.injEq] at e
          exact .inr ⟨g, e.1⟩
      rcases hkind with ⟨rfl, rfl, rfl⟩ | ⟨g, rfl⟩
      · have hc0 := sliceI0_c (.func 48) #[] #[.pointer (some ⟨w.heap.size, 0, none⟩), .pointer (some ⟨w.heap.size + 1, 0, none⟩), .pointer (some ⟨w.heap.size + 1 + 1, 0, none⟩)] wr
        go_wp2_with (
          go_at_call 47
          refine hc0.mono ?_
          rintro e w2 ⟨rfl, hx2⟩
          have b2' : w2.cell? ⟨w.heap.size + 2, 0, none⟩ = _ := (hx2.cell (p := ⟨w.heap.size + 2, 0, none⟩) sz (fun h => h)).trans b2)
        go_ret
        exact ⟨none, 0, [], rfl, ExtM.trans _ _ _ hx hx2, ⟨by simp, by simp⟩, rfl, .inl rfl⟩
      · obtain ⟨hH, hg⟩ := IRow.holds hrow
        have hg3 : w.heap.size + 3 ≤ g := hge g rfl
        have hd : (((List.range L.length).map Int.ofNat).toArray).size = L.length := by simp
        have swo : SWO (fun x y : Int => ltRB L[x.toNat]! L[y.toNat]!) := ⟨fun x => swoRB.irrefl _, fun x y z => swoRB.trans _ _ _, fun x y z => swoRB.ntrans _ _ _⟩
        have eg : ∀ args w, (callFunc 48 args).run Tryz.prog w = .ok (.enter 48 args) w := enters_of Tryz.func48 (by kernel_rfl) rfl
        have hsl := sliceI_c (P := fun x => 0 ≤ x ∧ x.toNat < L.length) swo 48 #[.pointer (some ⟨w.heap.size, 0, none⟩), .pointer (some ⟨w.heap.size + 1, 0, none⟩), .pointer (some ⟨w.heap.size + 1 + 1, 0, none⟩)] g uc _ wr (by rw [hd]; omega) eg hH
          (fun k hk => by
            rw [hd] at hk
            rw [getElem!_pos _ k (by rw [hd]; exact hk)]
            simp; omega) hg
          (fun D W i j hD hW hi hj => by
            obtain ⟨hHW, hPW, hxW⟩ := hW
            rw [hd] at hi hj hPW hD
            have keep : ∀ b o, b < wr.heap.size → b ≠ g → W.cell? ⟨b, o, none⟩ = wr.cell? ⟨b, o, none⟩ := fun b o hb hne => hxW.cell (p := ⟨b, o, none⟩) hb hne
            have c4 : wr.cell? ⟨J, 3 + s, none⟩ = some (.slice p0 L.length cap0) := (hx.cell (p := ⟨J, 3 + s, none⟩) l4 (fun h => h)).trans h4
            have rowW : JRow W 0 (.slice p0 L.length cap0) L := (row.extF hx).ext hxW (fun k hk e => by have := (own_lt row k hk).2; omega)
            have zi := hPW i hi
            have zj := hPW j hj
            have hci := (hHW i (by omega)).1
            have hcj := (hHW j (by omega)).1
            rw [Nat.zero_add, show D[i]! = ((D[i]!.toNat : Nat) : Int) by omega] at hci
            rw [Nat.zero_add, show D[j]! = ((D[j]!.toNat : Nat) : Int) by omega] at hcj
            exact sortedLess_c J s w.heap.size (w.heap.size + 1) (w.heap.size + 1 + 1) g L.length uc i j D[i]!.toNat D[j]!.toNat (.slice p0 L.length cap0) L W hs ((keep _ _ (by omega) (by omega)).trans b0) ((keep _ _ (by omega) (by omega)).trans b1) ((keep _ _ (by omega) (by omega)).trans b2)
              ((keep _ _ (by have := hx.size; omega) (by omega)).trans c4) rowW hi hj hci hcj zi.2 zj.2)
        rw [hd] at hsl
        have hgN : ¬ g = w.heap.size + 2 := by omega
        have HSL := Lib.hid hsl
        clear hsl swo hH
        go_wp2_with (
          go_at_call 47
          refine HSL.out.mono ?_
          rintro e w2 ⟨rfl, d', hp, hso, hH2, hx2⟩
          have b2' : w2.cell? ⟨w.heap.size + 2, 0, none⟩ = _ := (hx2.cell (p := ⟨w.heap.size + 2, 0, none⟩) sz (fun h => hgN h.symm)).trans b2
          have H2 := Lib.hid (And.intro hp (And.intro hso hH2))
          clear hp hso hH2)
        go_ret
        obtain ⟨hp, hso, hH2⟩ := H2.out
        obtain ⟨q1, q2⟩ := sorted_of hp hso
        have hds : d'.size = L.length := by rw [hp.1]; exact hd
        exact ⟨some ⟨g, 0, none⟩, uc, d'.toList.map Int.toNat, rfl, hx.fresh hx2 (fun k hk e => by omega), q1, by simpa using hds, .inr ⟨g, rfl, by omega, Nat.lt_of_lt_of_le hg hx2.size, fun i hi => by
          have := (hH2 i (by omega)).1
          rw [Nat.zero_add, q2 i hi] at this
          exact this⟩⟩
end Go.Proofs.YtggjceolhbdalaaGreatDoor
