/- slices.DeleteFunc over held rows; Side.Drop. -/
import Derived.Test.YtggjceolhbdalaaGreatDoorHDel
import Derived.Lib.SliceRun
namespace Go.Proofs.YtggjceolhbdalaaGreatDoor
open Go.RowKit Go.Plan

def zeroH : List Value := [.int .i64 0, .int .i64 0, .int .i64 0, .int .i64 0]
theorem zeroVH (w : World) : (zeroValue 109).run Tryz.prog w = .ok (.agg #[.int .i64 0, .int .i64 0, .int .i64 0, .int .i64 0]) w := by kernel_rfl

/-- 'clear' of rows. -/
theorem run_clear_h (w : World) (b o n c : Nat) (hn : 0 < n) (hc : ∀ j, j < n * 4 → (w.cell? ⟨b, o + j, none⟩).isSome = true) (hf : ∀ j, j < n * 4 → w.frozen? ⟨b, o + j, none⟩ = false) :
    ∃ zs, zs.length = n * 4 ∧ ∀ ty, (Builtin.clear_ #[65] ty #[.slice (some ⟨b, o, none⟩) n c]).run Tryz.prog w = .ok (.tuple #[]) (w.setCells b o zs) := by
  have hl : (Builtin.zeroCells (Value.agg #[.int .i64 0, .int .i64 0, .int .i64 0, .int .i64 0]).cells n).toList.length = n * 4 := by
    rw [Array.length_toList]; exact zero_size n
  refine ⟨_, hl, fun ty => ?_⟩
  have h1 : ∀ v ∈ (Builtin.zeroCells (Value.agg #[.int .i64 0, .int .i64 0, .int .i64 0, .int .i64 0]).cells n).toList, v.oneCell' = true := by
    intro v hv
    simp [Builtin.zeroCells, Value.cells] at hv
    obtain ⟨a, -, rfl⟩ := hv
    have : a % 4 < 4 := Nat.mod_lt _ (by decide)
    generalize a % 4 = q at *
    match q, this with
    | 0, _ => rfl
    | 1, _ => rfl
    | 2, _ => rfl
    | 3, _ => rfl
  have hst := run_storeCells_cells (P := Tryz.prog) b o _ 0 w (by rw [hl]; simpa using hc) (by rw [hl]; simpa using hf) h1
  simp only [Nat.add_zero] at hst
  obtain ⟨m, rfl⟩ : ∃ m, n = m + 1 := ⟨n - 1, by omega⟩
  have hu := run_underlying (w := w) Tryz.underlying65
  simp [Builtin.clear_, hu, hst]

theorem HRow.set0 {w : World} {g n cap : Nat} {hs : List Hd} (h : HRow w (.slice (some ⟨g, 0, none⟩) n cap) hs) (j : Nat) (x : Hd) (hj : hs[j]? = some x) (m : Int) : HRow (w.setCell ⟨g, j * 4, none⟩ (.int .i64 m)) (.slice (some ⟨g, 0, none⟩) n cap) (hs.set j ⟨⟨m, x.r.t, x.r.v⟩, x.m⟩) := by
  obtain ⟨hj', rfl⟩ := List.getElem?_eq_some_iff.1 hj
  obtain ⟨p', cap', he, -⟩ := own_slice h
  injection he with h1 h2 h3
  subst h2
  exact own_setCell hd_len h j 0 hj' (by decide) _ _ rfl
theorem HRow.set1 {w : World} {g n cap : Nat} {hs : List Hd} (h : HRow w (.slice (some ⟨g, 0, none⟩) n cap) hs) (j : Nat) (x : Hd) (hj : hs[j]? = some x) (m : Int) : HRow (w.setCell ⟨g, j * 4 + 1, none⟩ (.int .i64 m)) (.slice (some ⟨g, 0, none⟩) n cap) (hs.set j ⟨⟨x.r.k, m, x.r.v⟩, x.m⟩) := by
  obtain ⟨hj', rfl⟩ := List.getElem?_eq_some_iff.1 hj
  obtain ⟨p', cap', he, -⟩ := own_slice h
  injection he with h1 h2 h3
  subst h2
  exact own_setCell hd_len h j 1 hj' (by decide) _ _ rfl
theorem HRow.set2 {w : World} {g n cap : Nat} {hs : List Hd} (h : HRow w (.slice (some ⟨g, 0, none⟩) n cap) hs) (j : Nat) (x : Hd) (hj : hs[j]? = some x) (m : Int) : HRow (w.setCell ⟨g, j * 4 + 2, none⟩ (.int .i64 m)) (.slice (some ⟨g, 0, none⟩) n cap) (hs.set j ⟨⟨x.r.k, x.r.t, m⟩, x.m⟩) := by
  obtain ⟨hj', rfl⟩ := List.getElem?_eq_some_iff.1 hj
  obtain ⟨p', cap', he, -⟩ := own_slice h
  injection he with h1 h2 h3
  subst h2
  exact own_setCell hd_len h j 2 hj' (by decide) _ _ rfl
theorem HRow.setAll {w : World} {g n cap : Nat} {hs : List Hd} (h : HRow w (.slice (some ⟨g, 0, none⟩) n cap) hs) (j : Nat) (hj : j < hs.length) (y : Hd) :
    HRow ((((w.setCell ⟨g, j * 4, none⟩ (.int .i64 y.r.k)).setCell ⟨g, j * 4 + 1, none⟩ (.int .i64 y.r.t)).setCell ⟨g, j * 4 + 2, none⟩ (.int .i64 y.r.v)).setCell ⟨g, j * 4 + 3, none⟩ (.int .i64 y.m)) (.slice (some ⟨g, 0, none⟩) n cap) (hs.set j y) := by
  have g1 : ∀ (l : List Hd) (z : Hd), l.length = hs.length → (l.set j z)[j]? = some z := fun l z hl => by rw [List.getElem?_set_self (by omega)]
  have h1 := h.set0 j _ (List.getElem?_eq_getElem hj) y.r.k
  have h2 := h1.set1 j _ (g1 _ _ rfl) y.r.t
  have h3 := h2.set2 j _ (g1 _ _ (by simp)) y.r.v
  have h4 := h3.setM j _ (g1 _ _ (by simp)) y.m
  simp only [List.set_set] at h4
  exact h4

set_option maxRecDepth 100000 in
set_option maxHeartbeats 4000000 in
theorem deleteFunc_c (g cap : Nat) (hs : List Hd) (to : Int) (B : Nat) (w : World) (h : HRow w (.slice (some ⟨g, 0, none⟩) hs.length cap) hs) (hl : hs.length < 1000000) (hB : w.cell? ⟨B, 0, none⟩ = some (.int .i64 to)) (hBg : B ≠ g) :
    Calls Tryz.prog 53 #[.slice (some ⟨g, 0, none⟩) hs.length cap, dropFn B] w fun e w' => ∃ n, e = .returned (.slice (some ⟨g, 0, none⟩) n cap) ∧ HRow w' (.slice (some ⟨g, 0, none⟩) n cap) (hs.filter (fun x => !dropB to x)) ∧ ExtM (fun k => k = g) w w' := by
  have hif := indexFunc_c _ hs to B w h hl hB
  have hBl : B < w.heap.size := by
    unfold World.cell? at hB
    split at hB
    · rename_i hb; exact (Array.getElem?_eq_some_iff.1 hb).1
    · cases hB
  have hdf : dropFn B = .func (.func 54) #[] #[.pointer (some ⟨B, 0, none⟩)] := rfl
  go_enter Tryz.func53, Tryz.ntmps53
  go_wp2_with (go_at_call 66; refine hif.mono ?_; rintro e w1 ⟨hx1, ⟨rfl, hno⟩ | ⟨k, x, rfl, hk, hkl, hdx, hpre⟩⟩)
  · go_ret
    refine ⟨hs.length, rfl, ?_, hx1.mono (fun _ _ h => h.elim)⟩
    rw [List.filter_eq_self.2 (fun a ha => by rw [hno a ha]; rfl)]
    exact h.extF hx1
  · have hst : hs.take k = (hs.take (k + 1)).filter (fun x => !dropB to x) := by
      obtain ⟨_, rfl⟩ := List.getElem?_eq_some_iff.1 hk
      rw [List.take_succ_eq_append_getElem hkl, List.filter_append, List.filter_eq_self.2 (fun a ha => by rw [hpre a ha]; rfl), List.filter_eq_nil_iff.2 (fun a ha => by rw [List.mem_singleton.1 ha, hdx]; decide), List.append_nil]
    have hr1 := h.extF hx1
    go_loopg [5, 6] hs.length (fun kx s5 s6 wr => ∃ (i j : Nat) (cur : List Hd), s5 = .int .i64 (i : Int) ∧ s6 = .int .i64 (j : Int) ∧ i < j ∧ j ≤ hs.length ∧ hs.length - j ≤ kx ∧ HRow wr (.slice (some ⟨g, 0, none⟩) hs.length cap) cur ∧ cur.take i = (hs.take j).filter (fun x => !dropB to x) ∧ cur.drop j = hs.drop j ∧ ExtM (fun k => k = g) w wr)
    case atStart => exact ⟨k, k + 1, hs, rfl, by go_num, by omega, by omega, by omega, hr1, hst, rfl, hx1.mono (fun _ _ h => h.elim)⟩
    case round =>
      obtain ⟨i, j, cur, rfl, rfl, hij, hjn, hgk, hrow, htk, hdr, hx⟩ := hrel
      have hlen : cur.length = hs.length := hrow.len.symm
      have HL := Lib.hid hlen
      clear hlen
      by_cases hjl : j < hs.length
      · have hcj : cur[j]? = some (hs[j]'hjl) := by
          have := congrArg List.head? hdr
          rw [List.head?_drop, List.head?_drop, List.getElem?_eq_getElem hjl] at this
          exact this
        obtain ⟨g', hg', hgl, ⟨e0, e1, e2, e3, fz⟩⟩ := hrow.at? _ _ hcj
        obtain rfl : g = g' := by injection hg' with hg'; injection hg'
        clear hg'
        have HT := Lib.hid (List.take_succ_eq_append_getElem hjl)
        have HC := Lib.hid hcj
        have HTK := Lib.hid htk
        have HDR := Lib.hid hdr
        generalize hs[j] = x at *
        clear hcj htk hdr
        have hB' : ∀ u, ExtM (fun k => k = g) w u → u.cell? ⟨B, 0, none⟩ = some (.int .i64 to) := fun u hu => (hu.cell (p := ⟨B, 0, none⟩) hBl hBg).trans hB
        have hd2 : HRow wr (.slice (some ⟨g, 0, none⟩) hs.length cap) cur := hrow
        have hcl := dropFn_c to B x (wr.alloc (.cells #[.int .i64 x.r.k, .int .i64 x.r.t, .int .i64 x.r.v, .int .i64 x.m] 109)) (hB' _ (hx.alloc _))
        have htk' : ∀ b, dropB to x = b → (hs.take (j + 1)).filter (fun x => !dropB to x) = if b = true then cur.take i else cur.take i ++ [x] := fun b hb => by
          rw [HT.out, List.filter_append, ← HTK.out]
          cases b <;> simp [hb]
        have hdr' : ∀ c : List Hd, c.drop j = hs.drop j → c.drop (j + 1) = hs.drop (j + 1) := fun c hc => by
          have := congrArg (List.drop 1) hc
          rwa [List.drop_drop, List.drop_drop] at this
        have HF := Lib.hid htk'
        have HD2 := Lib.hid hdr'
        clear htk' hdr' hif hk hdx hpre hst hr1 hd2 h hB
        cases hq : dropB to x with
        | true =>
          rw [hq] at hcl
          have HQ := Lib.hid hq
          clear hq
          go_wp2_with (go_at_call 54; refine hcl.mono ?_; rintro e w2 ⟨rfl, hx2⟩)
          have hx2' : Ext wr w2 := ExtM.trans _ _ _ ((ExtM.refl wr).alloc _) hx2
          go_roundg (hs.length - (j + 1))
          case measure => omega
          case rel =>
            exact ⟨i, j + 1, cur, rfl, by go_num, by omega, by omega, Nat.le_refl _, hrow.extF hx2', by rw [HF.out _ HQ.out, if_pos rfl], HD2.out cur HDR.out, ExtM.trans _ _ _ hx (hx2'.mono (fun _ _ h => h.elim))⟩
        | false =>
          rw [hq] at hcl
          have HQ := Lib.hid hq
          clear hq
          obtain ⟨y, hy⟩ : ∃ y, cur[i]? = some y := ⟨_, List.getElem?_eq_getElem (by have := HL.out; omega)⟩
          obtain ⟨g', hg', -, ⟨f0, f1, f2, f3, -⟩⟩ := hrow.at? _ _ hy
          obtain rfl : g = g' := by injection hg' with hg'; injection hg'
          have HY := Lib.hid hy
          clear hg' hy
          go_wp2_with (
            go_at_call 54
            refine hcl.mono ?_
            rintro e w2 ⟨rfl, hx2⟩
            have hx2' : Ext wr w2 := ExtM.trans _ _ _ ((ExtM.refl wr).alloc _) hx2
            have b0 : w2.cell? ⟨wr.heap.size, 0, none⟩ = some (.int .i64 x.r.k) := (hx2.rules.1 _ _ (by simp)).trans (by go_simp)
            have b1 : w2.cell? ⟨wr.heap.size, 1, none⟩ = some (.int .i64 x.r.t) := (hx2.rules.1 _ _ (by simp)).trans (by go_simp)
            have b2 : w2.cell? ⟨wr.heap.size, 2, none⟩ = some (.int .i64 x.r.v) := (hx2.rules.1 _ _ (by simp)).trans (by go_simp)
            have b3 : w2.cell? ⟨wr.heap.size, 3, none⟩ = some (.int .i64 x.m) := (hx2.rules.1 _ _ (by simp)).trans (by go_simp)
            have q0 := (hx2'.rules.1 _ _ hgl).trans f0
            have q1 := (hx2'.rules.1 _ _ hgl).trans f1
            have q2 := (hx2'.rules.1 _ _ hgl).trans f2
            have q3 := (hx2'.rules.1 _ _ hgl).trans f3
            have qz : ∀ o, w2.frozen? ⟨g, o, none⟩ = false := fun o => (hx2'.rules.2.1 _ _ hgl).trans (fz o))
          go_roundg (hs.length - (j + 1))
          case measure => omega
          case rel =>
            have hil : i < cur.length := by have := HL.out; omega
            have h5 := (hrow.extF hx2').setAll i hil x
            refine ⟨i + 1, j + 1, cur.set i x, by go_num, by go_num, by omega, by omega, Nat.le_refl _, h5, ?_, ?_, ?_⟩
            · rw [HF.out _ HQ.out, if_neg (by decide), List.take_set, List.take_succ_eq_append_getElem hil, List.set_append_right _ _ (by rw [List.length_take]; omega), List.length_take, show i - min i cur.length = 0 by omega]
              rfl
            · refine HD2.out _ ?_
              rw [List.drop_set_of_lt (by omega)]
              exact HDR.out
            · have h6 : ExtM (fun k => k = g) w w2 := ExtM.trans _ _ _ hx (hx2'.mono (fun _ _ h => h.elim))
              exact ExtM.setCell (p := ⟨g, _, none⟩) (ExtM.setCell (p := ⟨g, _, none⟩) (ExtM.setCell (p := ⟨g, _, none⟩) (ExtM.setCell (p := ⟨g, _, none⟩) h6 (.inr rfl) _) (.inr rfl) _) (.inr rfl) _) (.inr rfl) _
      · have hjn2 : j = hs.length := by omega
        rw [hjn2, List.take_length] at htk
        have HJ := Lib.hid hjn2
        have HTK := Lib.hid htk
        clear htk hdr hjn2 hst hr1 hpre hdx hk hif
        have hin : i < hs.length := by omega
        obtain ⟨cap', f, hcap', hg, hnc, hc63, hf⟩ : ∃ cap' f, cap' = cap ∧ wr.rowIs g 109 (cap' * 4) f ∧ cur.length ≤ cap' ∧ cap' ≤ maxLen ∧ ∀ j, j < cur.length * 4 → (cur.flatMap Hd.cells)[j]? = some (f j) := by
          rcases rowIs_of_own hrow with ⟨h1, -⟩ | ⟨g', cap', f, h1, -, hg, hnc, hc63, hf⟩
          · cases h1
          injection h1 with h1 h2 h3
          injection h1 with h1
          injection h1 with h1
          subst h1
          exact ⟨cap', f, h3.symm, hg, hnc, hc63, hf⟩
        subst hcap'
        have hnc' : hs.length ≤ cap' := by have := HL.out; omega
        obtain ⟨zs, hzl, hcl⟩ := run_clear_h wr g (i * 4) (hs.length - i) (cap' - i) (by omega) (fun j hj => by rw [hg.cell (by omega)]; rfl) (fun j _ => hg.frozen _)
        have hg2 := rowIs_setCells zs (i * 4) wr f hg
        have hx2 : ExtM (fun k => k = g) w (wr.setCells g (i * 4) zs) := ExtM.trans _ _ _ hx (ext_setCells' _ _ _ _)
        have hP : HRow (wr.setCells g (i * 4) zs) (.slice (some ⟨g, 0, none⟩) i cap') (hs.filter (fun x => !dropB to x)) := by
          have hli : (cur.take i).length = i := by rw [List.length_take]; have := HL.out; omega
          rw [← HTK.out]
          unfold HRow
          rw [hli]
          refine own_of_rowIs hg2 (Nat.zero_le _) (by omega) hc63 (by rw [hds_len, hli]) (fun q hq => ?_)
          rw [if_neg (by omega), flat_take hd_len, List.getElem?_take_of_lt hq]
          exact hf q (by have := HL.out; omega)
        clear hg2 hg hf
        unfold maxLen at hc63
        go_wp2_with fail
        all_goals
          go_ret
          exact ⟨i, rfl, hP, hx2⟩

/-- The rows behind a Drop. -/
def dropL (to : Int) (hs : List Hd) : List Hd := hs.filter (fun x => !dropB to x)

theorem nilRow (w : World) : HRow w (.slice none 0 0) [] := ⟨rfl, .inl ⟨rfl, rfl⟩⟩

set_option maxRecDepth 100000 in
set_option maxHeartbeats 4000000 in
theorem deleteFunc_any (v : Value) (hs : List Hd) (to : Int) (B : Nat) (w : World) (h : HRow w v hs) (hl : hs.length < 1000000) (hB : w.cell? ⟨B, 0, none⟩ = some (.int .i64 to)) (hBg : v.ownBlock ≠ some B) :
    Calls Tryz.prog 53 #[v, dropFn B] w fun e w' => ∃ v', e = .returned v' ∧ v'.ownBlock = v.ownBlock ∧ HRow w' v' (dropL to hs) ∧ ExtM (fun k => v.ownBlock = some k) w w' := by
  rcases h.2 with ⟨rfl, h0⟩ | ⟨g, cap, cur, rfl, -⟩
  · obtain rfl := List.eq_nil_of_length_eq_zero h0
    have hif := indexFunc_c _ [] to B w h (by simp) hB
    have hdf : dropFn B = .func (.func 54) #[] #[.pointer (some ⟨B, 0, none⟩)] := rfl
    go_enter Tryz.func53, Tryz.ntmps53
    go_wp2_with (go_at_call 66; refine hif.mono ?_; rintro e w1 ⟨hx1, ⟨rfl, hno⟩ | ⟨k, x, rfl, hk, -⟩⟩)
    · go_ret
      exact ⟨_, rfl, rfl, nilRow _, hx1.mono (fun _ _ h => h.elim)⟩
  · exact (deleteFunc_c g cap hs to B w h hl hB (fun e => hBg (by rw [e]; rfl))).mono fun e w' ⟨n, he, hr, hx⟩ => ⟨_, he, rfl, hr, hx.mono (fun k _ e => by rw [e]; rfl)⟩

set_option maxRecDepth 100000 in
set_option maxHeartbeats 4000000 in
theorem drop_c (S o : Nat) (v : Value) (hs : List Hd) (to : Int) (w : World) (h : SideIs w S o v hs) (hl : hs.length < 1000000) :
    Calls Tryz.prog 44 #[.pointer (some ⟨S, o, none⟩), .int .i64 to] w fun e w' => e = .returned (.int .i64 ((hs.length - (dropL to hs).length : Nat) : Int)) ∧ SideUp w w' S o v (dropL to hs) := by
  have hle : (dropL to hs).length ≤ hs.length := List.length_filter_le _ _
  have hlt := h.lt
  have hx1 : Ext w (w.alloc (.cells #[.int .i64 to] 3)) := (ExtM.refl w).alloc _
  have h1 := h.ext hx1
  have c0 := h.c0
  have fz := h.fz
  have hdel := deleteFunc_any v hs to w.heap.size _ h1.row hl (by go_simp) (h.row.ne (Nat.le_refl _))
  have hdf : dropFn w.heap.size = .func (.func 54) #[] #[.pointer (some ⟨w.heap.size, 0, none⟩)] := rfl
  obtain ⟨p, cap, rfl, -⟩ := own_slice h.row
  have hown := h.own
  have h0 := h
  clear h h1
  go_enter Tryz.func44, Tryz.ntmps44
  go_wp2_with (
    go_at_call 53
    refine hdel.mono ?_
    rintro e w2 ⟨v', rfl, hvo, hr, hx⟩
    have hx3 := ExtM.trans _ _ _ (hx1.mono (fun _ _ h => h.elim)) hx
    have c2 := (ExtM.cell hx3 (p := ⟨S, o, none⟩) hlt hown).trans c0
    have f2 := (ExtM.frozen hx3 (p := ⟨S, o, none⟩) hlt hown).trans fz
    obtain ⟨p2, cap2, rfl, -⟩ := own_slice hr
    clear hx)
  go_ret
  exact ⟨by rw [Int.ofNat_sub hle]; rfl, side_set h0 hx3 hr (.inl hvo) (h0.srt.sublist List.filter_sublist)⟩
end Go.Proofs.YtggjceolhbdalaaGreatDoor
