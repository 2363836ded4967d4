/- What all rows come to, put together pair by pair: the walk. -/
import Derived.Test.YtmcgnnmffeojpaaGreatDoorPk46
namespace Go.Proofs.YtmcgnnmffeojpaaGreatDoor
open Go.RowKit Go.Plan

theorem TRow.cells {w : World} {b : Nat} {v : Value} {l : List Row} (h : TRow w b v l) (i : Nat) (hi : i < l.length) :
    ∃ g cap, v = .slice (some ⟨g, 0, none⟩) l.length cap ∧ g < w.heap.size ∧ w.cell? ⟨g, i * 3, none⟩ = some (.int .i64 l[i].k) ∧ w.cell? ⟨g, i * 3 + 1, none⟩ = some (.int .i64 l[i].t) ∧ w.cell? ⟨g, i * 3 + 2, none⟩ = some (.int .i64 l[i].v) := by
  obtain ⟨g, cap, rfl, hg, h0, -⟩ := own_cell (enc := rowL) rowL_len h i 0 hi (by omega)
  have hk : ∀ c, c < 3 → w.cell? ⟨g, i * 3 + c, none⟩ = (rowL l[i])[c]? := fun c hc => by
    obtain ⟨g', cap', e1, -, e2, -⟩ := own_cell (enc := rowL) rowL_len h i c hi hc
    simp only [Value.slice.injEq, Option.some.injEq, Addr.mk.injEq, and_true, true_and] at e1
    rw [e1.1]; exact e2
  exact ⟨g, cap, rfl, hg, hk 0 (by omega), hk 1 (by omega), hk 2 (by omega)⟩
/-- A row in a box. -/
structure BoxR (w : World) (n : Nat) (r : Row) : Prop where
  e0 : w.cell? ⟨n, 0, none⟩ = some (.int .i64 r.k)
  e1 : w.cell? ⟨n, 1, none⟩ = some (.int .i64 r.t)
  e2 : w.cell? ⟨n, 2, none⟩ = some (.int .i64 r.v)
theorem BoxR.lt {w : World} {n : Nat} {r : Row} (h : BoxR w n r) : n < w.heap.size := cell_lt' h.e0
theorem BoxR.keep {M : Nat → Prop} {w w' : World} {n : Nat} {r : Row} (h : BoxR w n r) (hx : ExtM M w w') (hM : ¬ M n) : BoxR w' n r :=
  ⟨(hx.cell (p := ⟨n, 0, none⟩) h.lt hM).trans h.e0, (hx.cell (p := ⟨n, 1, none⟩) h.lt hM).trans h.e1, (hx.cell (p := ⟨n, 2, none⟩) h.lt hM).trans h.e2⟩
theorem BoxR.mk' (w : World) (r : Row) : BoxR (w.alloc (.cells #[.int .i64 r.k, .int .i64 r.t, .int .i64 r.v] 56)) w.heap.size r := ⟨by go_simp, by go_simp, by go_simp⟩
theorem ShIs.boxed {u w w' : World} {D Mt n q : Nat} {m m' : List (Out × Value)} {A A' : List Out} {f f' : Nat → Bool} {r : Row} (_h : ShIs u w D Mt n m A f) (b : BoxR w q r) (hb : ExtM (fun k => k = D ∨ k = Mt) w w') (hD : q ≠ D) (hM : q ≠ Mt) (_h' : ShIs u w' D Mt n m' A' f') : BoxR w' q r := b.keep hb (fun e => e.elim hD hM)
theorem pair_ok {l r : Row} (hl : smallR l) (hr : smallR r) : (pairO l r).ok := out_ok3 hl.good hr.good
theorem lone_ok {r : Row} (s : Nat) (hs : s < 2) (hr : smallR r) : (loneS s r).ok := (outOk_ok (.inl ⟨s, r, hs, hr.good, rfl⟩)).2
theorem smallR.ok {r : Row} (h : smallR r) : r.ok := by
  unfold smallR at h
  refine ⟨?_, ?_, ?_⟩ <;> unfold I64 <;> omega
theorem infoB : (Tryz.prog.info? 4).map (fun i => (i.zero, i.size, i.bytes)) = some (some (.bool false), 1, 1) := by kernel_rfl
set_option maxRecDepth 100000 in
theorem make_bools (n : Nat) (hn : n < 1000000) (w : World) : (Instr.makeSlice 88 (.int .i64 n) (.int .i64 n)).run Tryz.prog w = .ok (.slice (some ⟨w.heap.size, 0, none⟩) n n) (w.alloc (.cells (Array.replicate n (.bool false)) 4)) := by
  obtain ⟨i0, hi, hz0, hz1, hz2⟩ := info_parts infoB
  have := run_makeSlice (P := Tryz.prog) w 88 4 i0 (.bool false) Tryz.underlying88 hi hz0 .i64 .i64 (n : Int) n (by omega) (Int.le_refl _) (by rw [hz1]; simp; omega) (by rw [hz2]; omega) (by omega)
  rw [this]
  simp only [Int.toNat_natCast, hz1, Nat.mul_one]
  congr 3
  apply Array.ext'
  rw [show (Value.bool false).cells = #[.bool false] from rfl, toList_madeCells_one, Array.toList_replicate]
theorem bools_cell (n : Nat) (w : World) (k : Nat) (hk : k < n) : (w.alloc (.cells (Array.replicate n (.bool false)) 4)).cell? ⟨w.heap.size, k, none⟩ = some (.bool false) ∧ (w.alloc (.cells (Array.replicate n (.bool false)) 4)).frozen? ⟨w.heap.size, k, none⟩ = false := by
  constructor
  · exact (World.cell?_alloc_at _ _ _ k rfl).trans (by simp [hk])
  · rw [Go.RowKit.frozen?_alloc_cells]; simp [World.frozen?]
set_option maxRecDepth 100000 in
set_option maxHeartbeats 8000000 in
theorem should_c {u : World} {T F E : Nat} {Bs : Nat → Prop} {v0 v1 : Value} {lo hi md : Int} {s : TSt} {m : List (Out × Value)} {W : List Out} {n : Nat} (h : TaleIs u T F E Bs v0 v1 lo hi md s m W) (ok : TOk lo hi md s n) (hn : n < 200) :
    Calls Tryz.prog 12 #[.pointer (some ⟨T, 0, none⟩)] u fun e u' => ∃ D m', e = .returned (.map (some D)) ∧ Ext u u' ∧ MapIs Tryz.prog 58 encO u' D m' ∧ CountsZ m' (should lo hi md 0 s.L s.R) := by
  have hX : Hid (∀ A : List Out, A.Perm (outLX lo hi md s.L.reverse s.R.reverse ++ lonR lo hi md s.L.reverse s.R.reverse) → A.Perm (should lo hi md 0 s.L s.R)) := Lib.hid fun A hA => hA.trans ((shouldX_perm lo hi md _ _).trans (should_perm (List.reverse_perm _) (List.reverse_perm _)))
  have hsX : ∀ r ∈ s.L.reverse, smallR r := fun r hr => ok.rL r (List.mem_reverse.1 hr)
  have hsY : ∀ r ∈ s.R.reverse, smallR r := fun r hr => ok.rR r (List.mem_reverse.1 hr)
  have hlX : s.L.reverse.length < 200 := by rw [List.length_reverse]; have := ok.lL; omega
  have hlY : s.R.reverse.length < 200 := by rw [List.length_reverse]; have := ok.lR; omega
  have hr0 := h.r0
  have hr1 := h.r1
  have c1 := h.own.c1
  have c2 := h.own.c2
  have c3 := h.own.c3
  have c4 := h.own.c4
  have c5 := h.own.c5
  have lT := cell_lt' c4
  simp only at lT
  clear h ok
  generalize s.L.reverse = X at *
  generalize s.R.reverse = Y at *
  obtain ⟨p0, q0, rfl, -⟩ := own_slice hr0
  obtain ⟨p1, q1, rfl, -⟩ := own_slice hr1
  have HT := Lib.hid (fun (wr : World) (hx : Ext u wr) => (⟨(hx.cell (p := ⟨T, 1, none⟩) lT id).trans c1, (hx.cell (p := ⟨T, 2, none⟩) lT id).trans c2, (hx.cell (p := ⟨T, 3, none⟩) lT id).trans c3, (hx.cell (p := ⟨T, 4, none⟩) lT id).trans c4, (hx.cell (p := ⟨T, 5, none⟩) lT id).trans c5⟩ : _ ∧ _ ∧ _ ∧ _ ∧ _))
  have hmm := @run_makeMap Tryz.prog
  have hms := make_bools Y.length (by omega)
  go_enter Tryz.func12, Tryz.ntmps12
  go_wp2_with fail
  have x0 : Ext u (u.alloc (.map #[] 0)) := (ExtM.refl _).alloc _
  have m0 : MapIs Tryz.prog 58 encO (u.alloc (.map #[] 0)) u.heap.size ([] : List (Out × Value)) := MapIs.made u
  have x1 : Ext (u.alloc (.map #[] 0)) ((u.alloc (.map #[] 0)).alloc (.cells (Array.replicate Y.length (.bool false)) 4)) := (ExtM.refl _).alloc _
  have hbc := bools_cell Y.length (u.alloc (.map #[] 0))
  have hz0 : (u.alloc (.map #[] 0)).heap.size = u.heap.size + 1 := World.size_alloc _ _
  rw [hz0] at hbc
  have hS0 : ShIs u ((u.alloc (.map #[] 0)).alloc (.cells (Array.replicate Y.length (.bool false)) 4)) u.heap.size (u.heap.size + 1) Y.length [] (outLX lo hi md (X.take 0) Y) (fun k => (X.take 0).any (fun l => mtL lo hi l (Y.getD k ⟨0, 0, 0⟩))) :=
    ⟨ExtM.trans _ _ _ x0 x1, m0.of x1 id, fun x => rfl, fun k hk => hbc k hk, by omega, Nat.le_refl _, by omega, by rw [World.size_alloc, hz0]; omega⟩
  clear hmm hms x0 m0 x1 hbc hz0 lT c1 c2 c3 c4 c5
  generalize (u.alloc (.map #[] 0)).alloc (.cells (Array.replicate Y.length (.bool false)) 4) = w0 at *
  generalize hDD : u.heap.size = D at *
  generalize hMM : D + 1 = Mt at *
  have HDD := Lib.hid hDD
  clear hDD hMM
  go_loopg [5] (X.length + 1) (fun kx s5 wr => ∃ (i : Nat) (m : List (Out × Value)) (A : List Out), s5 = .int .i64 i ∧ i ≤ X.length ∧ X.length - i ≤ kx ∧ ShIs u wr D Mt Y.length m A (fun k => (X.take i).any (fun l => mtL lo hi l (Y.getD k ⟨0, 0, 0⟩))) ∧ A.Perm (outLX lo hi md (X.take i) Y))
  case atStart => exact ⟨0, [], _, rfl, by omega, by omega, hS0, List.Perm.refl _⟩
  case round =>
    clear hS0
    obtain ⟨i, m, A, rfl, hi', hgk, hS, hA⟩ := hrel
    obtain ⟨d1, d2, d3, d4, d5⟩ := HT.out wr hS.ext
    have lTr := cell_lt' d4
    simp only at lTr
    by_cases hil : i < X.length
    · skip
      -- DONE{
      obtain ⟨g, cap, e, hg, y0, y1, y2⟩ := TRow.cells hr0 i hil
      simp only [Value.slice.injEq, true_and] at e
      obtain ⟨rfl, rfl⟩ := e
      have z0 := (hS.ext.cell (p := ⟨g, i * 3, none⟩) hg id).trans y0
      have z1 := (hS.ext.cell (p := ⟨g, i * 3 + 1, none⟩) hg id).trans y1
      have z2 := (hS.ext.cell (p := ⟨g, i * 3 + 2, none⟩) hg id).trans y2
      have hsl := hsX _ (List.getElem_mem hil)
      have HOS := Lib.hid (outLX_succ (lo := lo) (hi := hi) (md := md) (X := X) (Y := Y) i hil)
      have HAS := fun r => Lib.hid (any_succ (p := fun l => mtL lo hi l r) (Y := X) i hil)
      generalize X[i] = l at *
      clear y0 y1 y2
      go_upto_region 7 with fail
      have hxa : Ext wr (wr.alloc (.cells #[.int .i64 l.k, .int .i64 l.t, .int .i64 l.v] 56)) := (ExtM.refl _).alloc _
      have bl := BoxR.mk' wr l
      have hS1 := hS.of hxa
      have hnM := hS.lM
      have hDM : D < wr.heap.size := by have := hS.mp.lt; exact this
      generalize wr.alloc (.cells #[.int .i64 l.k, .int .i64 l.t, .int .i64 l.v] 56) = w1 at *
      generalize wr.heap.size = n6 at *
      have hS1' : ShIs u w1 D Mt Y.length m A (fun j => (X.take i).any (fun l => mtL lo hi l (Y.getD j ⟨0, 0, 0⟩)) || (decide (j < 0) && mtL lo hi l (Y.getD j ⟨0, 0, 0⟩))) := hS1.same (fun k hk => by simp)
      clear hS hS1 z0 z1 z2 d1 d2 d3 d4 d5 lTr hxa
      go_wp2_with fail
      go_loopg [7, 8] (Y.length + 1) (fun kx s7 s8 wq => ∃ (k : Nat) (m : List (Out × Value)) (A : List Out), s8 = .int .i64 k ∧ k ≤ Y.length ∧ Y.length - k ≤ kx ∧ s7 = .bool ((Y.take k).any (mtL lo hi l)) ∧ ShIs u wq D Mt Y.length m A (fun j => (X.take i).any (fun l => mtL lo hi l (Y.getD j ⟨0, 0, 0⟩)) || (decide (j < k) && mtL lo hi l (Y.getD j ⟨0, 0, 0⟩))) ∧ A.Perm (outLX lo hi md (X.take i) Y ++ prL lo hi l (Y.take k)) ∧ BoxR wq n6 l)
      case atStart => exact ⟨0, m, A, rfl, by omega, by omega, rfl, hS1', by simpa [prL] using hA, bl⟩
      case round =>
        clear hS1' bl hA m A
        obtain ⟨k, m, A, rfl, hk', hgk2, rfl, hS, hA, bl⟩ := hrel
        obtain ⟨d1, d2, d3, d4, d5⟩ := HT.out wr hS.ext
        have lTr := cell_lt' d4
        simp only at lTr
        by_cases hkl : k < Y.length
        · skip
          -- DONE{
          obtain ⟨g2, cap2, e, hg2, y0, y1, y2⟩ := TRow.cells hr1 k hkl
          simp only [Value.slice.injEq, true_and] at e
          obtain ⟨rfl, rfl⟩ := e
          have z0 := (hS.ext.cell (p := ⟨g2, k * 3, none⟩) hg2 id).trans y0
          have z1 := (hS.ext.cell (p := ⟨g2, k * 3 + 1, none⟩) hg2 id).trans y1
          have z2 := (hS.ext.cell (p := ⟨g2, k * 3 + 2, none⟩) hg2 id).trans y2
          have hsr := hsY _ (List.getElem_mem hkl)
          have HPS := Lib.hid (prL_succ (lo := lo) (hi := hi) (l := l) (Y := Y) k hkl)
          have HYS := Lib.hid (any_succ (p := mtL lo hi l) (Y := Y) k hkl)
          have HYK : Hid (Y.getD k ⟨0, 0, 0⟩ = Y[k]) := Lib.hid (by simp [List.getD, hkl])
          generalize Y[k] = r at *
          have hnM := hS.lM
          have hDM : D < wr.heap.size := hS.mp.lt
          have hn6l := bl.lt
          have hlen : A.length < 1000000000 := by
            have h1 := hA.length_eq
            rw [List.length_append] at h1
            have h2 := outLX_len lo hi md (X.take i) Y
            have h3 : (prL lo hi l (Y.take k)).length ≤ 200 := by
              unfold prL; rw [List.length_map]
              have := List.length_filter_le (mtL lo hi l) (Y.take k)
              rw [List.length_take] at this
              omega
            have h4 : (X.take i).length * (Y.length + 1) ≤ 200 * 200 := Nat.mul_le_mul (by rw [List.length_take]; omega) (by omega)
            omega
          clear y0 y1 y2
          go_upto_region 12 with fail
          have hxa : Ext wr (wr.alloc (.cells #[.int .i64 r.k, .int .i64 r.t, .int .i64 r.v] 56)) := (ExtM.refl _).alloc _
          have br := BoxR.mk' wr r
          have hS1 := hS.of hxa
          have bl1 := bl.keep hxa id
          obtain ⟨d1, d2, d3, d4, d5⟩ := HT.out _ hS1.ext
          generalize wr.alloc (.cells #[.int .i64 r.k, .int .i64 r.t, .int .i64 r.v] 56) = w2 at *
          generalize wr.heap.size = n9 at *
          have lTr := cell_lt' d4
          simp only at lTr
          clear hS bl hxa z0 z1 z2
          obtain ⟨a0, a1, a2⟩ := id bl1
          obtain ⟨b0, b1, b2⟩ := id br
          have l6 := bl1.lt
          have l9 := br.lt
          have hsl1 := hsl.2.1
          have hsr1 := hsr.2.1
          go_upto_region 13 with fail
          go_cut [84] (fun s84 wx => s84 = .bool (mtL lo hi l r) ∧ wx = w2)
          case first =>
            -- DONE{
            have hmt : mtL lo hi l r = (decide (l.k = r.k) && decide (lo ≤ r.t - l.t) && decide (r.t - l.t ≤ hi)) := rfl
            have HMT := Lib.hid hmt
            clear hmt
            by_cases hk : l.k = r.k
            · have hk1 : (l.k == r.k) = true := by simp [hk]
              have hk2 : decide (l.k = r.k) = true := by simp [hk]
              have HK := Lib.hid hk
              clear hk
              by_cases h1 : lo ≤ r.t - l.t
              · by_cases h2 : r.t - l.t ≤ hi
                · have q : mtL lo hi l r = true := by rw [HMT.out]; simp [HK.out, h1, h2]
                  go_wp2_with fail
                  go_meet
                  case rel => exact ⟨by rw [q], rfl⟩
                · have q : mtL lo hi l r = false := by rw [HMT.out]; simp [HK.out, h1, h2]
                  go_wp2_with fail
                  go_meet
                  case rel => exact ⟨by rw [q], rfl⟩
              · have q : mtL lo hi l r = false := by rw [HMT.out]; simp [HK.out, h1]
                go_wp2_with fail
                go_meet
                case rel => exact ⟨by rw [q], rfl⟩
            · have hk1 : (l.k == r.k) = false := by simp [hk]
              have q : mtL lo hi l r = false := by rw [HMT.out]; simp [hk]
              go_wp2_with fail
              go_meet
              case rel => exact ⟨by rw [q], rfl⟩
            -- }DONE
          case rest =>
            obtain ⟨rfl, rfl⟩ := hcut
            have hsame : ∀ f : Nat → Bool, ShIs u wc D Mt Y.length m A f → (∀ j, j < Y.length → ((X.take i).any (fun l => mtL lo hi l (Y.getD j ⟨0, 0, 0⟩)) || (decide (j < k + 1) && mtL lo hi l (Y.getD j ⟨0, 0, 0⟩))) = f j) → ShIs u wc D Mt Y.length m A (fun j => (X.take i).any (fun l => mtL lo hi l (Y.getD j ⟨0, 0, 0⟩)) || (decide (j < k + 1) && mtL lo hi l (Y.getD j ⟨0, 0, 0⟩))) := fun f h hf => h.same hf
            cases hb : mtL lo hi l r with
            | false =>
              have hSn : ShIs u wc D Mt Y.length m A (fun j => (X.take i).any (fun l => mtL lo hi l (Y.getD j ⟨0, 0, 0⟩)) || (decide (j < k + 1) && mtL lo hi l (Y.getD j ⟨0, 0, 0⟩))) := hS1.same (fun j hj => by
                by_cases hjk : j = k
                · subst hjk
                  rw [HYK.out, hb]; simp
                · have : decide (j < k + 1) = decide (j < k) := by congr 1; simp; omega
                  rw [this])
              have hAn : A.Perm (outLX lo hi md (X.take i) Y ++ prL lo hi l (Y.take (k + 1))) := by rw [HPS.out, hb]; simpa using hA
              have han : (Y.take (k + 1)).any (mtL lo hi l) = (Y.take k).any (mtL lo hi l) := by rw [HYS.out, hb]; simp
              have HN := Lib.hid (⟨hSn, hAn, bl1, han⟩ : _ ∧ _ ∧ _ ∧ _)
              clear hSn hAn bl1 han hsame hS1 a0 a1 a2 b0 b1 b2 br hb d1 d2 d3 d4 d5
              go_wp2_with fail
              go_roundg (Y.length - (k + 1))
              case measure => omega
              case rel =>
                obtain ⟨q1, q2, q3, q4⟩ := HN.out
                exact ⟨k + 1, m, A, by go_num, by omega, Nat.le_refl _, by rw [q4], q1, q2, q3⟩
            | true =>
              obtain ⟨stp, w2', w3', m', hlk, hme, x2, hlk2, hst3, x3, hS3, hcb⟩ := hS1.inc (pairO l r) (pair_ok hsl hsr) hlen
              have hw3 : ExtB D wc w3' := ExtB.trans _ _ _ (ExtB.of_ext ((ExtM.refl wc).drew)) (ExtB.trans _ _ _ x2 x3)
              have hn6D : ¬ n6 = D := by omega
              have hn9D : ¬ n9 = D := by omega
              have bl3 := bl1.keep hw3 hn6D
              have hAn : (pairO l r :: A).Perm (outLX lo hi md (X.take i) Y ++ prL lo hi l (Y.take (k + 1))) := by
                rw [HPS.out, hb, if_pos rfl, ← List.append_assoc]
                exact (List.Perm.cons _ hA).trans (List.perm_append_singleton _ _).symm
              have han : (Y.take (k + 1)).any (mtL lo hi l) = true := by rw [HYS.out, hb]; simp
              have hgo := fun hk0 => hS3.tell (f' := fun j => (X.take i).any (fun l => mtL lo hi l (Y.getD j ⟨0, 0, 0⟩)) || (decide (j < k + 1) && mtL lo hi l (Y.getD j ⟨0, 0, 0⟩))) k hk0 (fun j hj => by
                by_cases hjk : j = k
                · subst hjk
                  rw [HYK.out, hb, if_pos rfl]; simp
                · have : decide (j < k + 1) = decide (j < k) := by congr 1; simp; omega
                  rw [this, if_neg hjk])
              have hS4 := hgo hkl
              obtain ⟨hmk, hfk⟩ := hS3.met k hkl
              have hM3 := hS3.lM
              have HN := Lib.hid (⟨hS4, hAn, bl3.keep (ExtM.setCell (M := fun k => k = Mt) (ExtM.refl w3') (p := ⟨Mt, k, none⟩) (.inr rfl) (.bool true)) (by show ¬ n6 = Mt; omega), han⟩ : _ ∧ _ ∧ _ ∧ _)
              clear hS4 hAn bl3 han hsame hS3 hgo hb d1 d2 d3 d4 d5 hw3 hS1 hA
              generalize ((A.count (pairO l r) : Nat) : Int) = cc at *
              simp only [encO_run, pairO] at hlk hme hlk2
              go_upto_region 14 with fail
              go_cut [] (fun wx => wx = w3')
              case first =>
                refine Plan.begin (Plan.ExtB D) 11 rfl (by kernel_rfl) ?_
                refine Plan.left_q 0 (by rfl) (by kernel_rfl) ?_; go_big_quiet_step (fail); refine wpQuiet_nil ?_
                refine Plan.left_q 1 (by rfl) (by kernel_rfl) ?_; go_big_quiet_step (fail); refine wpQuiet_nil ?_
                refine Plan.left_q 2 (by rfl) (by kernel_rfl) ?_; go_big_quiet_step (fail); refine wpQuiet_nil ?_
                refine Plan.left_q 3 (by rfl) (by kernel_rfl) ?_; go_big_quiet_step (fail); refine wpQuiet_nil ?_
                refine Plan.left_q 4 (by rfl) (by kernel_rfl) ?_; go_big_quiet_step (fail); refine wpQuiet_nil ?_
                refine Plan.left_q 5 (by rfl) (by kernel_rfl) ?_; go_big_quiet_step (fail); refine wpQuiet_nil ?_
                refine Plan.left_two 6 8 (by kernel_rfl) (by rfl) (by rfl) (Plan.plain rfl fun K hK => ?_) (Plan.plain rfl fun K hK => ?_)
                focus
                  go_wp2_with (fail)
                  refine hK _ _ (ExtM.refl _) ?_
                  clear hK K
                  refine Plan.left_q 7 (by rfl) (by kernel_rfl) ?_; go_big_quiet_step (fail); refine wpQuiet_nil ?_
                  refine Plan.left_one 8 (by kernel_rfl) (by rfl) (Plan.plain rfl fun K hK => ?_)
                  go_wp2_with (fail)
                  refine hK _ _ (x2) ?_
                  clear hK K
                  refine Plan.left_q 9 (by rfl) (by kernel_rfl) ?_; go_big_quiet_step (fail); refine wpQuiet_nil ?_
                  refine Plan.left_one 10 (by kernel_rfl) (by rfl) (Plan.plain rfl fun K hK => ?_)
                  go_wp2_with (fail)
                  refine hK _ _ (x3) ?_
                  clear hK K
                  refine Plan.left_done (by kernel_rfl) ?_
                rotate_left
                focus
                  go_wp2_with (fail)
                  refine hK _ _ (x2) ?_
                  clear hK K
                  refine Plan.left_q 9 (by rfl) (by kernel_rfl) ?_; go_big_quiet_step (fail); refine wpQuiet_nil ?_
                  refine Plan.left_one 6 (by kernel_rfl) (by rfl) (Plan.plain rfl fun K hK => ?_)
                  go_wp2_with (fail)
                  refine hK _ _ (ExtM.refl _) ?_
                  clear hK K
                  refine Plan.left_q 7 (by rfl) (by kernel_rfl) ?_; go_big_quiet_step (fail); refine wpQuiet_nil ?_
                  refine Plan.left_one 10 (by kernel_rfl) (by rfl) (Plan.plain rfl fun K hK => ?_)
                  go_wp2_with (fail)
                  refine hK _ _ (x3) ?_
                  clear hK K
                  refine Plan.left_done (by kernel_rfl) ?_
                all_goals
                  go_wp2_with fail
                  go_meet
                  case rel => rfl
              case rest =>
                obtain rfl := hcut
                clear hlk hme hlk2 hst3 x2 x3 a0 a1 a2 b0 b1 b2 bl1 br
                go_wp2_with fail
                go_roundg (Y.length - (k + 1))
                case measure => omega
                case rel =>
                  obtain ⟨q1, q2, q3, q4⟩ := HN.out
                  exact ⟨k + 1, m', pairO l r :: A, by go_num, by omega, Nat.le_refl _, by rw [q4], q1, q2, q3⟩
          -- }DONE
        · obtain rfl : k = Y.length := by omega
          have hz : decide (Y.length < Y.length) = false := by simp
          have hz2 : decide ((Y.length : Int) < Y.length) = false := by simp
          rw [List.take_length] at hA
          have hS1 : ShIs u wr D Mt Y.length m A (fun j => (X.take (i + 1)).any (fun l => mtL lo hi l (Y.getD j ⟨0, 0, 0⟩))) := hS.same (fun j hj => by rw [(HAS _).out]; simp [hj])
          have htk : Y.take Y.length = Y := List.take_length
          rw [htk]
          have hlnL : lnL lo hi md l Y = if (!Y.any (mtL lo hi l) && tellsB md 0) = true then [loneS 0 l] else [] := by
            unfold lnL
            cases tellsB md 0 <;> cases Y.any (mtL lo hi l) <;> rfl
          have hlen : A.length < 1000000000 := by
            have h1 := hA.length_eq
            rw [List.length_append] at h1
            have h2 := outLX_len lo hi md (X.take i) Y
            have h3 : (prL lo hi l Y).length ≤ 200 := by
              unfold prL; rw [List.length_map]
              have := List.length_filter_le (mtL lo hi l) Y
              omega
            have h4 : (X.take i).length * (Y.length + 1) ≤ 200 * 200 := Nat.mul_le_mul (by rw [List.length_take]; omega) (by omega)
            omega
          obtain ⟨a0, a1, a2⟩ := id bl
          have hDM : D < wr.heap.size := hS.mp.lt
          have hn6l := bl.lt
          have HLN := Lib.hid hlnL
          clear hS hlnL htk
          generalize Y.any (mtL lo hi l) = bb at *
          go_upto_region 16 with fail
          go_cut [115] (fun s115 wx => s115 = .bool (!bb && tellsB md 0) ∧ wx = wr)
          case first =>
            have htl : tellsB md 0 = (decide (md = 1) || decide (md = 3)) := rfl
            have HTL := Lib.hid htl
            clear htl
            cases bb with
            | true =>
              go_wp2_with fail
              go_meet
              case rel => exact ⟨by simp, rfl⟩
            | false =>
              by_cases h1 : md = 1
              · have e1 : (md == 1) = true := by simp [h1]
                have q : tellsB md 0 = true := by rw [HTL.out]; simp [h1]
                have Q := Lib.hid q
                clear q h1
                go_wp2_with fail
                go_meet
                case rel => exact ⟨by rw [Q.out]; rfl, rfl⟩
              · have e1 : (md == 1) = false := by simp [h1]
                by_cases h3 : md = 3
                · have e3 : (md == 3) = true := by simp [h3]
                  have q : tellsB md 0 = true := by rw [HTL.out]; simp [h3]
                  have Q := Lib.hid q
                  clear q h1 h3
                  go_wp2_with fail
                  go_meet
                  case rel => exact ⟨by rw [Q.out]; rfl, rfl⟩
                · have e3 : (md == 3) = false := by simp [h3]
                  have q : tellsB md 0 = false := by rw [HTL.out]; simp [h1, h3]
                  have Q := Lib.hid q
                  clear q h1 h3
                  go_wp2_with fail
                  go_meet
                  case rel => exact ⟨by rw [Q.out]; rfl, rfl⟩
          case rest =>
            obtain ⟨rfl, rfl⟩ := hcut
            generalize (!bb && tellsB md 0) = tl at *
            cases tl with
            | false =>
              have hAn : A.Perm (outLX lo hi md (X.take (i + 1)) Y) := by
                rw [HOS.out, HLN.out]
                simpa [List.append_assoc] using hA
              have HN := Lib.hid (⟨hS1, hAn⟩ : _ ∧ _)
              clear hS1 hAn hA a0 a1 a2 bl d1 d2 d3 d4 d5
              go_wp2_with fail
              go_roundg (X.length - (i + 1))
              case measure => omega
              case rel =>
                obtain ⟨q1, q2⟩ := HN.out
                exact ⟨i + 1, m, A, by go_num, by omega, Nat.le_refl _, q1, q2⟩
            | true =>
              obtain ⟨stp, w2', w3', m', hlk, hme, x2, hlk2, hst3, x3, hS3, hcb⟩ := hS1.inc (loneS 0 l) (lone_ok 0 (by decide) hsl) hlen
              have hn6D : ¬ n6 = D := by omega
              have hAn : (loneS 0 l :: A).Perm (outLX lo hi md (X.take (i + 1)) Y) := by
                rw [HOS.out, HLN.out, if_pos rfl, ← List.append_assoc]
                exact (List.Perm.cons _ hA).trans (List.perm_append_singleton _ _).symm
              have HN := Lib.hid (⟨hS3, hAn⟩ : _ ∧ _)
              clear hS3 hAn d1 d2 d3 d4 d5 hS1 hA
              generalize ((A.count (loneS 0 l) : Nat) : Int) = cc at *
              have hen : encO (loneS 0 l) = .agg #[.int .i64 l.k, .int .i64 l.k, .int .i64 l.t, .int .i64 l.v, .int .i64 0, .int .i64 0, .int .i64 0, .bool true, .bool false] := rfl
              rw [hen] at hlk hme hlk2
              clear hen
              go_upto_region 17 with fail
              refine Plan.begin (Plan.ExtB D) 10 rfl (by kernel_rfl) ?_
              refine Plan.left_q 0 (by rfl) (by kernel_rfl) ?_; go_big_quiet_step (fail); refine wpQuiet_nil ?_
              refine Plan.left_q 1 (by rfl) (by kernel_rfl) ?_; go_big_quiet_step (fail); refine wpQuiet_nil ?_
              refine Plan.left_q 2 (by rfl) (by kernel_rfl) ?_; go_big_quiet_step (fail); refine wpQuiet_nil ?_
              refine Plan.left_q 3 (by rfl) (by kernel_rfl) ?_; go_big_quiet_step (fail); refine wpQuiet_nil ?_
              refine Plan.left_q 4 (by rfl) (by kernel_rfl) ?_; go_big_quiet_step (fail); refine wpQuiet_nil ?_
              refine Plan.left_two 5 7 (by kernel_rfl) (by rfl) (by rfl) (Plan.plain rfl fun K hK => ?_) (Plan.plain rfl fun K hK => ?_)
              focus
                go_wp2_with (fail)
                refine hK _ _ (ExtM.refl _) ?_
                clear hK K
                refine Plan.left_q 6 (by rfl) (by kernel_rfl) ?_; go_big_quiet_step (fail); refine wpQuiet_nil ?_
                refine Plan.left_one 7 (by kernel_rfl) (by rfl) (Plan.plain rfl fun K hK => ?_)
                go_wp2_with (fail)
                refine hK _ _ (x2) ?_
                clear hK K
                refine Plan.left_q 8 (by rfl) (by kernel_rfl) ?_; go_big_quiet_step (fail); refine wpQuiet_nil ?_
                refine Plan.left_one 9 (by kernel_rfl) (by rfl) (Plan.plain rfl fun K hK => ?_)
                go_wp2_with (fail)
                refine hK _ _ (x3) ?_
                clear hK K
                refine Plan.left_done (by kernel_rfl) ?_
              rotate_left
              focus
                go_wp2_with (fail)
                refine hK _ _ (x2) ?_
                clear hK K
                refine Plan.left_q 8 (by rfl) (by kernel_rfl) ?_; go_big_quiet_step (fail); refine wpQuiet_nil ?_
                refine Plan.left_one 5 (by kernel_rfl) (by rfl) (Plan.plain rfl fun K hK => ?_)
                go_wp2_with (fail)
                refine hK _ _ (ExtM.refl _) ?_
                clear hK K
                refine Plan.left_q 6 (by rfl) (by kernel_rfl) ?_; go_big_quiet_step (fail); refine wpQuiet_nil ?_
                refine Plan.left_one 9 (by kernel_rfl) (by rfl) (Plan.plain rfl fun K hK => ?_)
                go_wp2_with (fail)
                refine hK _ _ (x3) ?_
                clear hK K
                refine Plan.left_done (by kernel_rfl) ?_
              all_goals
                clear hlk hme hlk2 hst3 x2 x3 a0 a1 a2 bl
                go_wp2_with fail
                go_roundg (X.length - (i + 1))
                case measure => omega
                case rel =>
                  obtain ⟨q1, q2⟩ := HN.out
                  exact ⟨i + 1, m', loneS 0 l :: A, by go_num, by omega, Nat.le_refl _, q1, q2⟩
      -- }DONE
    · obtain rfl : i = X.length := by omega
      have hz : decide (X.length < X.length) = false := by simp
      have hz2 : decide ((X.length : Int) < X.length) = false := by simp
      rw [List.take_length] at hS hA
      have hA0 : A.Perm (outLX lo hi md X Y ++ lonR lo hi md X (Y.take 0)) := by simpa [lonR] using hA
      clear hA
      go_wp2_with fail
      go_loopg [11] (Y.length + 1) (fun kx s11 wq => ∃ (k : Nat) (m : List (Out × Value)) (A : List Out), s11 = .int .i64 k ∧ k ≤ Y.length ∧ Y.length - k ≤ kx ∧ ShIs u wq D Mt Y.length m A (fun j => X.any (fun l => mtL lo hi l (Y.getD j ⟨0, 0, 0⟩))) ∧ A.Perm (outLX lo hi md X Y ++ lonR lo hi md X (Y.take k)))
      case atStart => exact ⟨0, m, A, rfl, by omega, by omega, hS, hA0⟩
      case round =>
        clear hS hA0 m A d1 d2 d3 d4 d5 lTr
        obtain ⟨k, m, A, rfl, hk', hgk2, hS, hA⟩ := hrel
        obtain ⟨d1, d2, d3, d4, d5⟩ := HT.out wr hS.ext
        have lTr := cell_lt' d4
        simp only at lTr
        by_cases hkl : k < Y.length
        · obtain ⟨g2, cap2, e, hg2, y0, y1, y2⟩ := TRow.cells hr1 k hkl
          simp only [Value.slice.injEq, true_and] at e
          obtain ⟨rfl, rfl⟩ := e
          have z0 := (hS.ext.cell (p := ⟨g2, k * 3, none⟩) hg2 id).trans y0
          have z1 := (hS.ext.cell (p := ⟨g2, k * 3 + 1, none⟩) hg2 id).trans y1
          have z2 := (hS.ext.cell (p := ⟨g2, k * 3 + 2, none⟩) hg2 id).trans y2
          have hsr := hsY _ (List.getElem_mem hkl)
          have HLS := Lib.hid (lonR_succ (lo := lo) (hi := hi) (md := md) (X := X) (Y := Y) k hkl)
          have hyk : Y.getD k ⟨0, 0, 0⟩ = Y[k] := by simp [List.getD, hkl]
          have hme0 := (hS.met k hkl).1
          rw [hyk] at hme0
          have hlen : A.length < 1000000000 := by
            have h1 := hA.length_eq
            rw [List.length_append] at h1
            have h2 := outLX_len lo hi md X Y
            have h3 : (lonR lo hi md X (Y.take k)).length ≤ 200 := by
              have h9 : (lonR lo hi md X (Y.take k)).Perm (lonesL lo hi md 1 (Y.take k) X) := by
                unfold lonR lnR lonesL
                rw [flat_if]
                exact List.Perm.refl _
              rw [h9.length_eq]
              have := lones_len lo hi md 1 (Y.take k) X
              rw [List.length_take] at this
              omega
            have h4 : X.length * (Y.length + 1) ≤ 200 * 200 := Nat.mul_le_mul (by omega) (by omega)
            omega
          generalize Y[k] = r at *
          have hnM := hS.lM
          have hDM : D < wr.heap.size := hS.mp.lt
          clear y0 y1 y2 hyk
          go_upto_region 22 with fail
          have hxa : Ext wr (wr.alloc (.cells #[.int .i64 r.k, .int .i64 r.t, .int .i64 r.v] 56)) := (ExtM.refl _).alloc _
          have br := BoxR.mk' wr r
          have hS1 := hS.of hxa
          have hme1 := (hxa.cell (p := ⟨Mt, k, none⟩) hnM id).trans hme0
          obtain ⟨d1, d2, d3, d4, d5⟩ := HT.out _ hS1.ext
          generalize wr.alloc (.cells #[.int .i64 r.k, .int .i64 r.t, .int .i64 r.v] 56) = w2 at *
          generalize wr.heap.size = n9 at *
          have lTr := cell_lt' d4
          simp only at lTr
          have hMl := hS1.lM
          clear hS hxa z0 z1 z2 hme0
          obtain ⟨b0, b1, b2⟩ := id br
          have l9 := br.lt
          have hlnR : lnR lo hi md X r = if (!X.any (fun l => mtL lo hi l r) && tellsB md 1) = true then [loneS 1 r] else [] := by
            unfold lnR
            cases tellsB md 1 <;> cases X.any (fun l => mtL lo hi l r) <;> rfl
          have HLN := Lib.hid hlnR
          clear hlnR
          generalize X.any (fun l => mtL lo hi l r) = bb at *
          go_cut [163] (fun s163 wx => s163 = .bool (!bb && tellsB md 1) ∧ wx = w2)
          case first =>
            have htl : tellsB md 1 = (decide (md = 2) || decide (md = 3)) := rfl
            have HTL := Lib.hid htl
            clear htl
            cases bb with
            | true =>
              go_wp2_with fail
              go_meet
              case rel => exact ⟨by simp, rfl⟩
            | false =>
              by_cases h1 : md = 2
              · have e1 : (md == 2) = true := by simp [h1]
                have q : tellsB md 1 = true := by rw [HTL.out]; simp [h1]
                have Q := Lib.hid q
                clear q h1
                go_wp2_with fail
                go_meet
                case rel => exact ⟨by rw [Q.out]; rfl, rfl⟩
              · have e1 : (md == 2) = false := by simp [h1]
                by_cases h3 : md = 3
                · have e3 : (md == 3) = true := by simp [h3]
                  have q : tellsB md 1 = true := by rw [HTL.out]; simp [h3]
                  have Q := Lib.hid q
                  clear q h1 h3
                  go_wp2_with fail
                  go_meet
                  case rel => exact ⟨by rw [Q.out]; rfl, rfl⟩
                · have e3 : (md == 3) = false := by simp [h3]
                  have q : tellsB md 1 = false := by rw [HTL.out]; simp [h1, h3]
                  have Q := Lib.hid q
                  clear q h1 h3
                  go_wp2_with fail
                  go_meet
                  case rel => exact ⟨by rw [Q.out]; rfl, rfl⟩
          case rest =>
            obtain ⟨rfl, rfl⟩ := hcut
            generalize (!bb && tellsB md 1) = tl at *
            cases tl with
            | false =>
              have hAn : A.Perm (outLX lo hi md X Y ++ lonR lo hi md X (Y.take (k + 1))) := by
                rw [HLS.out, HLN.out]
                simpa [List.append_assoc] using hA
              have HN := Lib.hid (⟨hS1, hAn⟩ : _ ∧ _)
              clear hS1 hAn hA b0 b1 b2 br d1 d2 d3 d4 d5
              go_wp2_with fail
              go_roundg (Y.length - (k + 1))
              case measure => omega
              case rel =>
                obtain ⟨q1, q2⟩ := HN.out
                exact ⟨k + 1, m, A, by go_num, by omega, Nat.le_refl _, q1, q2⟩
            | true =>
              obtain ⟨stp, w2', w3', m', hlk, hme, x2, hlk2, hst3, x3, hS3, hcb⟩ := hS1.inc (loneS 1 r) (lone_ok 1 (by decide) hsr) hlen
              have hn9D : ¬ n9 = D := by omega
              have hAn : (loneS 1 r :: A).Perm (outLX lo hi md X Y ++ lonR lo hi md X (Y.take (k + 1))) := by
                rw [HLS.out, HLN.out, if_pos rfl, ← List.append_assoc]
                exact (List.Perm.cons _ hA).trans (List.perm_append_singleton _ _).symm
              have HN := Lib.hid (⟨hS3, hAn⟩ : _ ∧ _)
              clear hS3 hAn d1 d2 d3 d4 d5 hS1 hA
              generalize ((A.count (loneS 1 r) : Nat) : Int) = cc at *
              have hen : encO (loneS 1 r) = .agg #[.int .i64 r.k, .int .i64 0, .int .i64 0, .int .i64 0, .int .i64 r.k, .int .i64 r.t, .int .i64 r.v, .bool false, .bool true] := rfl
              rw [hen] at hlk hme hlk2
              clear hen
              go_upto_region 23 with fail
              refine Plan.begin (Plan.ExtB D) 10 rfl (by kernel_rfl) ?_
              refine Plan.left_q 0 (by rfl) (by kernel_rfl) ?_; go_big_quiet_step (fail); refine wpQuiet_nil ?_
              refine Plan.left_q 1 (by rfl) (by kernel_rfl) ?_; go_big_quiet_step (fail); refine wpQuiet_nil ?_
              refine Plan.left_q 2 (by rfl) (by kernel_rfl) ?_; go_big_quiet_step (fail); refine wpQuiet_nil ?_
              refine Plan.left_q 3 (by rfl) (by kernel_rfl) ?_; go_big_quiet_step (fail); refine wpQuiet_nil ?_
              refine Plan.left_q 4 (by rfl) (by kernel_rfl) ?_; go_big_quiet_step (fail); refine wpQuiet_nil ?_
              refine Plan.left_two 5 7 (by kernel_rfl) (by rfl) (by rfl) (Plan.plain rfl fun K hK => ?_) (Plan.plain rfl fun K hK => ?_)
              focus
                go_wp2_with (fail)
                refine hK _ _ (ExtM.refl _) ?_
                clear hK K
                refine Plan.left_q 6 (by rfl) (by kernel_rfl) ?_; go_big_quiet_step (fail); refine wpQuiet_nil ?_
                refine Plan.left_one 7 (by kernel_rfl) (by rfl) (Plan.plain rfl fun K hK => ?_)
                go_wp2_with (fail)
                refine hK _ _ (x2) ?_
                clear hK K
                refine Plan.left_q 8 (by rfl) (by kernel_rfl) ?_; go_big_quiet_step (fail); refine wpQuiet_nil ?_
                refine Plan.left_one 9 (by kernel_rfl) (by rfl) (Plan.plain rfl fun K hK => ?_)
                go_wp2_with (fail)
                refine hK _ _ (x3) ?_
                clear hK K
                refine Plan.left_done (by kernel_rfl) ?_
              rotate_left
              focus
                go_wp2_with (fail)
                refine hK _ _ (x2) ?_
                clear hK K
                refine Plan.left_q 8 (by rfl) (by kernel_rfl) ?_; go_big_quiet_step (fail); refine wpQuiet_nil ?_
                refine Plan.left_one 5 (by kernel_rfl) (by rfl) (Plan.plain rfl fun K hK => ?_)
                go_wp2_with (fail)
                refine hK _ _ (ExtM.refl _) ?_
                clear hK K
                refine Plan.left_q 6 (by rfl) (by kernel_rfl) ?_; go_big_quiet_step (fail); refine wpQuiet_nil ?_
                refine Plan.left_one 9 (by kernel_rfl) (by rfl) (Plan.plain rfl fun K hK => ?_)
                go_wp2_with (fail)
                refine hK _ _ (x3) ?_
                clear hK K
                refine Plan.left_done (by kernel_rfl) ?_
              all_goals
                clear hlk hme hlk2 hst3 x2 x3 b0 b1 b2 br
                go_wp2_with fail
                go_roundg (Y.length - (k + 1))
                case measure => omega
                case rel =>
                  obtain ⟨q1, q2⟩ := HN.out
                  exact ⟨k + 1, m', loneS 1 r :: A, by go_num, by omega, Nat.le_refl _, q1, q2⟩
        · obtain rfl : k = Y.length := by omega
          have hz : decide (Y.length < Y.length) = false := by simp
          have hz2 : decide ((Y.length : Int) < Y.length) = false := by simp
          rw [List.take_length] at hA
          have hfin := hX.out A hA
          have HN := Lib.hid (⟨hS, hfin⟩ : _ ∧ _)
          clear hS hfin hA
          go_wp2_with fail
          go_ret
          obtain ⟨q1, q2⟩ := HN.out
          exact ⟨D, m, rfl, q1.ext, q1.mp, q1.cz.perm q2⟩
end Go.Proofs.YtmcgnnmffeojpaaGreatDoor
