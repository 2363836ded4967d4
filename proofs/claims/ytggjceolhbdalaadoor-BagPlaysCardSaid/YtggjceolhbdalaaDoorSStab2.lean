/- sort's stable sort over a less and a swap: symMerge_func, stable_func. -/
import Derived.Test.YtggjceolhbdalaaDoorSStab
import Derived.Test.YtggjceolhbdalaaDoorSStabP
import Derived.Deep.DeepCutAuto
import Derived.Deep.CutBlock
namespace Go.Proofs.YtggjceolhbdalaaDoor
open Go.RowKit Go.Plan Go.Sort
variable {α : Type} [Inhabited α]


section
variable {n : Nat} {lt : α → α → Bool} {g : Nat} {lb : Array Value} {sf : Nat} {sb : Array Value} {blk : Nat} {H : Array α → World → Prop}

set_option maxRecDepth 100000 in
set_option maxHeartbeats 8000000 in
theorem symMerge_c (I : SIf n lt g lb sf sb blk H) (hO : SWO lt) (hn : n < 1000000) :
    ∀ (N a m b : Nat) (d : Array α) (w : World), b - a < N → H d w → d.size = n → a < m → m < b → b ≤ n → SortedIn lt a m d → SortedIn lt m b d →
    Calls Tryd.prog 117 #[.agg #[.func (.func g) #[] lb, .func (.func sf) #[] sb], .int .i64 a, .int .i64 m, .int .i64 b] w fun e w' => e = .returned (.tuple #[]) ∧
      ∃ d' : Array α, d'.size = n ∧ PermIn a b d d' ∧ SortedIn lt a b d' ∧ H d' w' ∧ ExtM (fun k => k = blk) w w' := by
  intro N
  induction N with
  | zero => intro _ _ _ _ _ h; exact absurd h (Nat.not_lt_zero _)
  | succ N ih =>
    intro a m b d w hN hH hs ham hmb hb hsl hsr
    have IH := Lib.hid ih
    have SL := Lib.hid hsl
    have SR := Lib.hid hsr
    clear ih hsl hsr
    have hbl := I.lt' d w hH
    have hx1 : Ext w (w.alloc (.cells #[.func (.func g) #[] lb, .func (.func sf) #[] sb] 155)) := (ExtM.refl w).alloc _
    have hH1 := I.ext d w _ hH hx1
    have eg := I.eg
    have HX1 : Hid (ExtM (fun k => k = blk) w (w.alloc (.cells #[.func (.func g) #[] lb, .func (.func sf) #[] sb] 155))) := Lib.hid (hx1.mono (fun _ _ h => h.elim))
    go_enter Tryd.func117, Tryd.ntmps117
    go_upto_region 1 with fail
    have q0 : (w.alloc (.cells #[.func (.func g) #[] lb, .func (.func sf) #[] sb] 155)).cell? ⟨w.heap.size, 0, none⟩ = some (.func (.func g) #[] lb) := by go_simp
    have q1 : (w.alloc (.cells #[.func (.func g) #[] lb, .func (.func sf) #[] sb] 155)).cell? ⟨w.heap.size, 1, none⟩ = some (.func (.func sf) #[] sb) := by go_simp
    have hN1 : w.heap.size < (w.alloc (.cells #[.func (.func g) #[] lb, .func (.func sf) #[] sb] 155)).heap.size := by simp
    generalize w.alloc (.cells #[.func (.func g) #[] lb, .func (.func sf) #[] sb] 155) = W1 at *
    have hcc : ∀ u, ExtM (fun k => k = blk) W1 u → u.cell? ⟨w.heap.size, 0, none⟩ = some (.func (.func g) #[] lb) ∧ u.cell? ⟨w.heap.size, 1, none⟩ = some (.func (.func sf) #[] sb) := fun u hu =>
      ⟨(hu.cell (p := ⟨w.heap.size, 0, none⟩) hN1 (by simp; omega)).trans q0, (hu.cell (p := ⟨w.heap.size, 1, none⟩) hN1 (by simp; omega)).trans q1⟩
    have HCC := Lib.hid hcc
    clear hcc q0 q1
    by_cases hm1 : m = a + 1
    · have hma : m ≤ a + 1 := by omega
      clear hm1
      have hz1 : ((m : Int) - (a : Int) == 1) = true := by simp; omega
      -- DONE{
      as_aux_lemma =>
        go_wp2_with fail
        go_loopg [8, 9] (b - a + 1) (fun kx s8 s9 wr => ∃ i j : Nat, s8 = .int .i64 (i : Int) ∧ s9 = .int .i64 (j : Int) ∧ a + 1 ≤ i ∧ i ≤ j ∧ j ≤ b ∧ j - i ≤ kx ∧ H d wr ∧ ExtM (fun k => k = blk) W1 wr ∧ (∀ h, a + 1 ≤ h → h < i → lt d[h]! d[a]! = true) ∧ (∀ h, j ≤ h → h < b → lt d[h]! d[a]! = false))
        case atStart => exact ⟨m, b, rfl, rfl, by omega, by omega, Nat.le_refl _, by omega, hH1, ExtM.refl _, fun h h1 h2 => by omega, fun h h1 h2 => by omega⟩
        case round =>
          obtain ⟨i, j, rfl, rfl, hi, hij, hj, hgk, hHk, hxk, hi1, hi2⟩ := hrel
          obtain ⟨c0, c1⟩ := HCC.out _ hxk
          have I1 := Lib.hid hi1
          have I2 := Lib.hid hi2
          clear hi1 hi2
          by_cases hlt : i < j
          · have hcl := I.less d wr ((i + j) / 2) a hs hHk (by omega) (by omega)
            rw [show (((i + j) / 2 : Nat) : Int) = ((i : Int) + (j : Int)) / 2 by omega] at hcl
            cases hq : lt d[(i + j) / 2]! d[a]! with
            | true =>
              have HQ := Lib.hid hq
              rw [hq] at hcl
              clear hq
              go_wp2_with (go_at_fn g; refine hcl.mono ?_; rintro e w2 ⟨rfl, hx2⟩)
              go_roundg (j - ((i + j) / 2 + 1))
              case measure => omega
              case rel =>
                exact ⟨(i + j) / 2 + 1, j, by rw [show (((i + j) / 2 + 1 : Nat) : Int) = ((i : Int) + (j : Int)) / 2 + 1 by omega], rfl, by omega, by omega, hj, Nat.le_refl _, I.ext _ _ _ hHk hx2, ExtM.trans _ _ _ hxk (hx2.mono (fun _ _ h => h.elim)), fun h h1 h2 => swo_le_lt hO (sorted_le hO SR.out (i := h) (j := (i + j) / 2) (by omega) (by omega) (by omega)) HQ.out, I2.out⟩
            | false =>
              have HQ := Lib.hid hq
              rw [hq] at hcl
              clear hq
              go_wp2_with (go_at_fn g; refine hcl.mono ?_; rintro e w2 ⟨rfl, hx2⟩)
              go_roundg ((i + j) / 2 - i)
              case measure => omega
              case rel =>
                exact ⟨i, (i + j) / 2, rfl, by rw [show (((i + j) / 2 : Nat) : Int) = ((i : Int) + (j : Int)) / 2 by omega], hi, by omega, by omega, Nat.le_refl _, I.ext _ _ _ hHk hx2, ExtM.trans _ _ _ hxk (hx2.mono (fun _ _ h => h.elim)), I1.out, fun h h1 h2 => hO.ntrans _ _ _ (sorted_le hO SR.out (i := (i + j) / 2) (j := h) (by omega) h1 h2) HQ.out⟩
          · obtain rfl : j = i := by omega
            go_wp2_with fail
            clear hH1 hH c0 c1
            go_loopg [11] (j + 1) (fun kx s11 wr2 => ∃ (k : Nat) (dk : Array α), s11 = .int .i64 (k : Int) ∧ a ≤ k ∧ k + 1 ≤ j ∧ j - k ≤ kx ∧ dk.size = n ∧ (∀ x, dk[x]! = rotF (fun x => d[x]!) a (a + 1) (k + 1) x) ∧ PermIn a b d dk ∧ H dk wr2 ∧ ExtM (fun k => k = blk) W1 wr2)
            case atStart => exact ⟨a, d, rfl, Nat.le_refl _, hi, by omega, hs, rotL_none d a, permIn_refl _ _ _, hHk, hxk⟩
            case round =>
              clear hHk hxk
              obtain ⟨k, dk, rfl, hak, hkj, hgk2, hsk, hdk, hpk, hHk, hxk⟩ := hrel
              obtain ⟨c0, c1⟩ := HCC.out _ hxk
              have HD := Lib.hid hdk
              have HP := Lib.hid hpk
              clear hdk hpk
              by_cases hkl : k + 1 < j
              · obtain ⟨w3, hsw, hH3, hx3⟩ := I.swap dk wr k (k + 1) hsk hHk (by omega) (by omega)
                rw [show ((k + 1 : Nat) : Int) = (k : Int) + 1 by omega] at hsw
                have hz2 : decide ((k : Int) < (j : Int) - 1) = true := by simp; omega
                go_wp2
                go_roundg (j - (k + 1))
                case measure => omega
                case rel => exact ⟨k + 1, swp dk k (k + 1), by go_num, by omega, by omega, Nat.le_refl _, by rw [size_swp]; exact hsk, rotL_step hak (by omega) HD.out, permIn_trans _ _ _ _ _ HP.out (swp_permIn dk a b k (k + 1) (by omega) (by omega) (by omega) (by omega) (by omega)), hH3, ExtM.trans _ _ _ hxk hx3⟩
              · have hjk : j ≤ k + 1 := by omega
                have hz2 : decide ((k : Int) < (j : Int) - 1) = false := by simp; omega
                go_wp2
                (try simp only [Exit.inBlock, Exit.then]); refine bodyPost_ret (results_none rfl _ _ _) rfl ?_
                obtain rfl : j = k + 1 := by omega
                obtain rfl : m = a + 1 := by omega
                exact ⟨rfl, dk, hsk, HP.out, insert_left hO (i := k + 1) SR.out ⟨by omega, hj⟩ I1.out I2.out HD.out, hHk, ExtM.trans _ _ _ HX1.out hxk⟩
      -- }DONE
    have hz1 : ((m : Int) - (a : Int) == 1) = false := by simp; omega
    by_cases hb1 : b = m + 1
    · have hbm : b ≤ m + 1 := by omega
      clear hb1
      have hz3 : ((b : Int) - (m : Int) == 1) = true := by simp; omega
      -- DONE{
      as_aux_lemma =>
        go_wp2_with fail
        go_loopg [12, 13] (m - a + 1) (fun kx s12 s13 wr => ∃ i j : Nat, s12 = .int .i64 (i : Int) ∧ s13 = .int .i64 (j : Int) ∧ a ≤ i ∧ i ≤ j ∧ j ≤ m ∧ j - i ≤ kx ∧ H d wr ∧ ExtM (fun k => k = blk) W1 wr ∧ (∀ h, a ≤ h → h < i → lt d[m]! d[h]! = false) ∧ (∀ h, j ≤ h → h < m → lt d[m]! d[h]! = true))
        case atStart => exact ⟨a, m, rfl, rfl, Nat.le_refl _, by omega, Nat.le_refl _, by omega, hH1, ExtM.refl _, fun h h1 h2 => by omega, fun h h1 h2 => by omega⟩
        case round =>
          obtain ⟨i, j, rfl, rfl, hi, hij, hj, hgk, hHk, hxk, hi1, hi2⟩ := hrel
          obtain ⟨c0, c1⟩ := HCC.out _ hxk
          have I1 := Lib.hid hi1
          have I2 := Lib.hid hi2
          clear hi1 hi2
          by_cases hlt : i < j
          · have hcl := I.less d wr m ((i + j) / 2) hs hHk (by omega) (by omega)
            rw [show (((i + j) / 2 : Nat) : Int) = ((i : Int) + (j : Int)) / 2 by omega] at hcl
            cases hq : lt d[m]! d[(i + j) / 2]! with
            | false =>
              have HQ := Lib.hid hq
              rw [hq] at hcl
              clear hq
              go_wp2_with (go_at_fn g; refine hcl.mono ?_; rintro e w2 ⟨rfl, hx2⟩)
              go_roundg (j - ((i + j) / 2 + 1))
              case measure => omega
              case rel =>
                exact ⟨(i + j) / 2 + 1, j, by rw [show (((i + j) / 2 + 1 : Nat) : Int) = ((i : Int) + (j : Int)) / 2 + 1 by omega], rfl, by omega, by omega, hj, Nat.le_refl _, I.ext _ _ _ hHk hx2, ExtM.trans _ _ _ hxk (hx2.mono (fun _ _ h => h.elim)), fun h h1 h2 => hO.ntrans _ _ _ HQ.out (sorted_le hO SL.out (i := h) (j := (i + j) / 2) h1 (by omega) (by omega)), I2.out⟩
            | true =>
              have HQ := Lib.hid hq
              rw [hq] at hcl
              clear hq
              go_wp2_with (go_at_fn g; refine hcl.mono ?_; rintro e w2 ⟨rfl, hx2⟩)
              go_roundg ((i + j) / 2 - i)
              case measure => omega
              case rel =>
                exact ⟨i, (i + j) / 2, rfl, by rw [show (((i + j) / 2 : Nat) : Int) = ((i : Int) + (j : Int)) / 2 by omega], hi, by omega, by omega, Nat.le_refl _, I.ext _ _ _ hHk hx2, ExtM.trans _ _ _ hxk (hx2.mono (fun _ _ h => h.elim)), I1.out, fun h h1 h2 => swo_lt_le hO HQ.out (sorted_le hO SL.out (i := (i + j) / 2) (j := h) (by omega) h1 h2)⟩
          · obtain rfl : j = i := by omega
            go_wp2_with fail
            clear hH1 hH c0 c1
            go_loopg [15] (m + 1) (fun kx s15 wr2 => ∃ (k : Nat) (dk : Array α), s15 = .int .i64 (k : Int) ∧ j ≤ k ∧ k ≤ m ∧ k - j ≤ kx ∧ dk.size = n ∧ (∀ x, dk[x]! = rotF (fun x => d[x]!) k m (m + 1) x) ∧ PermIn a b d dk ∧ H dk wr2 ∧ ExtM (fun k => k = blk) W1 wr2)
            case atStart => exact ⟨m, d, rfl, hj, Nat.le_refl _, by omega, hs, rotR_none d m, permIn_refl _ _ _, hHk, hxk⟩
            case round =>
              clear hHk hxk
              obtain ⟨k, dk, rfl, hjk, hkm, hgk2, hsk, hdk, hpk, hHk, hxk⟩ := hrel
              obtain ⟨c0, c1⟩ := HCC.out _ hxk
              have HD := Lib.hid hdk
              have HP := Lib.hid hpk
              clear hdk hpk
              by_cases hkl : j < k
              · obtain ⟨w3, hsw, hH3, hx3⟩ := I.swap dk wr k (k - 1) hsk hHk (by omega) (by omega)
                rw [show ((k - 1 : Nat) : Int) = (k : Int) - 1 by omega] at hsw
                go_wp2
                go_roundg (k - 1 - j)
                case measure => omega
                case rel => exact ⟨k - 1, swp dk k (k - 1), by rw [show ((k - 1 : Nat) : Int) = (k : Int) - 1 by omega], by omega, by omega, Nat.le_refl _, by rw [size_swp]; exact hsk, rotR_step (by omega) hkm (by omega) HD.out, permIn_trans _ _ _ _ _ HP.out (swp_permIn dk a b k (k - 1) (by omega) (by omega) (by omega) (by omega) (by omega)), hH3, ExtM.trans _ _ _ hxk hx3⟩
              · obtain rfl : j = k := by omega
                go_wp2
                (try simp only [Exit.inBlock, Exit.then]); refine bodyPost_ret (results_none rfl _ _ _) rfl ?_
                obtain rfl : b = m + 1 := by omega
                exact ⟨rfl, dk, hsk, HP.out, insert_right hO SL.out ⟨hi, hj⟩ I1.out I2.out HD.out, hHk, ExtM.trans _ _ _ HX1.out hxk⟩
      -- }DONE
    have hz3 : ((b : Int) - (m : Int) == 1) = false := by simp; omega
    go_upto_region 26 with fail
    obtain ⟨mid, hmid⟩ : ∃ mid, mid = (a + b) / 2 := ⟨_, rfl⟩
    have emid : ((a : Int) + (b : Int)) / 2 = (mid : Int) := by omega
    have hmid1 : 2 * mid ≤ a + b := by omega
    have hmid2 : a + b ≤ 2 * mid + 1 := by omega
    have hma2 : a + 2 ≤ m := by omega
    have hbm2 : m + 2 ≤ b := by omega
    rw [emid]
    have hw1 : IntKind.i64.wrap ((a : Int) + (b : Int)) = (a : Int) + (b : Int) := by rw [IntKind.wrap_i64]; omega
    clear emid hmid hm1 hb1
    go_upto_if 106 with fail
    go_cut [18, 19] (fun s18 s19 wx => ∃ s0 r0 : Nat, s18 = .int .i64 (s0 : Int) ∧ s19 = .int .i64 (r0 : Int) ∧ ((mid < m ∧ s0 + b = mid + m ∧ r0 = mid) ∨ (m ≤ mid ∧ s0 = a ∧ r0 = m)) ∧ wx = W1)
    case first =>
      by_cases hc : mid < m
      · go_wp2_with fail
        go_meet
        case rel => exact ⟨mid + m - b, mid, by rw [show ((mid + m - b : Nat) : Int) = (mid : Int) + (m : Int) - (b : Int) by omega], rfl, .inl ⟨hc, by omega, rfl⟩, rfl⟩
      · go_wp2_with fail
        go_meet
        case rel => exact ⟨a, m, rfl, rfl, .inr ⟨by omega, rfl, rfl⟩, rfl⟩
    case rest =>
      obtain ⟨s0, r0, rfl, rfl, hsr, hw⟩ := hcut
      have hw := hw.symm
      subst hw
      go_wp2_with fail
      go_loopg [18, 19] (b - a + 1) (fun kx s18 s19 wr => ∃ s r : Nat, s18 = .int .i64 (s : Int) ∧ s19 = .int .i64 (r : Int) ∧ s0 ≤ s ∧ s ≤ r ∧ r ≤ r0 ∧ r - s ≤ kx ∧ H d wr ∧ ExtM (fun k => k = blk) W1 wr ∧ (s = s0 ∨ (s0 < s ∧ lt d[mid + m - 1 - (s - 1)]! d[s - 1]! = false)) ∧ (r = r0 ∨ (r < r0 ∧ lt d[mid + m - 1 - r]! d[r]! = true)))
      case atStart => exact ⟨s0, r0, rfl, rfl, Nat.le_refl _, by omega, Nat.le_refl _, by omega, hH1, ExtM.refl _, .inl rfl, .inl rfl⟩
      case round =>
        obtain ⟨s, r, rfl, rfl, hs0, hsr1, hr0, hgk, hHk, hxk, hi1, hi2⟩ := hrel
        obtain ⟨c0, c1⟩ := HCC.out _ hxk
        have I1 := Lib.hid hi1
        have I2 := Lib.hid hi2
        clear hi1 hi2
        by_cases hlt : s < r
        · have hcl := I.less d wr (mid + m - 1 - (s + r) / 2) ((s + r) / 2) hs hHk (by omega) (by omega)
          rw [show ((mid + m - 1 - (s + r) / 2 : Nat) : Int) = (mid : Int) + (m : Int) - 1 - ((s : Int) + (r : Int)) / 2 by omega, show (((s + r) / 2 : Nat) : Int) = ((s : Int) + (r : Int)) / 2 by omega] at hcl
          cases hq : lt d[mid + m - 1 - (s + r) / 2]! d[(s + r) / 2]! with
          | false =>
            have HQ := Lib.hid hq
            rw [hq] at hcl
            clear hq
            go_wp2_with (go_at_fn g; refine hcl.mono ?_; rintro e w2 ⟨rfl, hx2⟩)
            go_roundg (r - ((s + r) / 2 + 1))
            case measure => omega
            case rel =>
              exact ⟨(s + r) / 2 + 1, r, by rw [show (((s + r) / 2 + 1 : Nat) : Int) = ((s : Int) + (r : Int)) / 2 + 1 by omega], rfl, by omega, by omega, hr0, Nat.le_refl _, I.ext _ _ _ hHk hx2, ExtM.trans _ _ _ hxk (hx2.mono (fun _ _ h => h.elim)), .inr ⟨by omega, by rw [Nat.add_sub_cancel]; exact HQ.out⟩, I2.out⟩
          | true =>
            have HQ := Lib.hid hq
            rw [hq] at hcl
            clear hq
            go_wp2_with (go_at_fn g; refine hcl.mono ?_; rintro e w2 ⟨rfl, hx2⟩)
            go_roundg ((s + r) / 2 - s)
            case measure => omega
            case rel =>
              exact ⟨s, (s + r) / 2, rfl, by rw [show (((s + r) / 2 : Nat) : Int) = ((s : Int) + (r : Int)) / 2 by omega], hs0, by omega, by omega, Nat.le_refl _, I.ext _ _ _ hHk hx2, ExtM.trans _ _ _ hxk (hx2.mono (fun _ _ h => h.elim)), I1.out, .inr ⟨by omega, HQ.out⟩⟩
        · obtain rfl : r = s := by omega
          go_upto_region 40 with fail
          obtain ⟨e, he⟩ : ∃ e, e = mid + m - r := ⟨_, rfl⟩
          have ee : (mid : Int) + (m : Int) - (r : Int) = (e : Int) := by omega
          rw [ee]
          have he1 : e + r = mid + m := by omega
          have hhv := fun (d1 : Array α) (hd : ∀ k, d1[k]! = rotF (fun x => d[x]!) r m (mid + m - r) k) => halves hO (d := d) (d' := d1) (a := a) (m := m) (b := b) (start := r) (mid := mid) (s0 := s0) (r0 := r0) SL.out SR.out ⟨by omega, by omega, by omega, by omega⟩ ⟨by omega, by omega⟩ I1.out (by omega) I2.out (by omega) hd
          rw [← he] at hhv
          have HHV := Lib.hid hhv
          clear ee he hhv c0 c1 hH1
          have hr1 : a ≤ r := by omega
          have hr2 : r ≤ m := by omega
          have hr3 : m ≤ e := by omega
          have hr4 : e ≤ b := by omega
          have hr5 : r ≤ mid := by omega
          have hr6 : mid ≤ e := by omega
          go_cut [145] (fun s145 wx => s145 = .bool (decide (r < m) && decide (m < e)) ∧ wx = wr)
          case first =>
            by_cases h1 : r < m
            · by_cases h2 : m < e
              · go_wp2_with fail
                go_meet
                case rel => exact ⟨by simp [h1, h2], rfl⟩
              · go_wp2_with fail
                go_meet
                case rel => exact ⟨by simp [h2], rfl⟩
            · go_wp2_with fail
              go_meet
              case rel => exact ⟨by simp [h1], rfl⟩
          case rest =>
            obtain ⟨rfl, rfl⟩ := hcut
            cases hq : (decide (r < m) && decide (m < e))
            · have hd0 : ∀ k, d[k]! = rotF (fun x => d[x]!) r m e k := fun k => (rot_none (f := fun x => d[x]!) (by
                simp only [Bool.and_eq_false_iff, decide_eq_false_iff_not] at hq
                omega) ⟨hr2, hr3⟩ k).symm
              have hv := HHV.out d hd0
              have HV := Lib.hid hv
              have hp1 : PermIn a b d d := permIn_refl _ _ _
              have HP1 := Lib.hid hp1
              clear hd0 hv hp1 hq
              go_upto_region 42 with fail
              go_cut [158] (fun s158 wx => s158 = .bool (decide (a < r) && decide (r < mid)) ∧ wx = wc)
              case first =>
                by_cases h1 : a < r
                · by_cases h2 : r < mid
                  · go_wp2_with fail
                    go_meet
                    case rel => exact ⟨by simp [h1, h2], rfl⟩
                  · go_wp2_with fail
                    go_meet
                    case rel => exact ⟨by simp [h2], rfl⟩
                · go_wp2_with fail
                  go_meet
                  case rel => exact ⟨by simp [h1], rfl⟩
              case rest =>
                obtain ⟨rfl, rfl⟩ := hcut
                go_upto_if 158 with fail
                go_cut [] (fun wx => ∃ d2 : Array α, d2.size = n ∧ PermIn a mid d d2 ∧ SortedIn lt a mid d2 ∧ H d2 wx ∧ ExtM (fun k => k = blk) W1 wx)
                case first =>
                  as_aux_lemma =>
                    cases hq : (decide (a < r) && decide (r < mid))
                    · have hss : SortedIn lt a mid d := by
                        simp only [Bool.and_eq_false_iff, decide_eq_false_iff_not] at hq
                        rcases hq with hq | hq
                        · obtain rfl : r = a := by omega
                          exact HV.out.s2
                        · obtain rfl : r = mid := by omega
                          exact HV.out.s1
                      have HSS := Lib.hid hss
                      clear hss
                      go_wp2_with fail
                      go_meet
                      case rel => exact ⟨d, hs, permIn_refl _ _ _, HSS.out, hHk, hxk⟩
                    · have hq' : a < r ∧ r < mid := by simpa using hq
                      have hc := IH.out a r mid d wc (by omega) hHk hs hq'.1 hq'.2 (by omega) HV.out.s1 HV.out.s2
                      obtain ⟨c0, c1⟩ := HCC.out _ hxk
                      go_wp2_with (go_at_call 117; refine hc.mono ?_; rintro e' w3 ⟨rfl, d2, hs2, hp2, hso2, hH3, hx3⟩)
                      go_meet
                      case rel => exact ⟨d2, hs2, hp2, hso2, hH3, ExtM.trans _ _ _ hxk hx3⟩
                case rest =>
                  obtain ⟨d2, hs2, hp2, hso2, hH2', hx2''⟩ := hcut
                  have HP2 := Lib.hid hp2
                  have HSO2 := Lib.hid hso2
                  clear hp2 hso2 hHk hxk
                  go_upto_region 44 with fail
                  go_cut [171] (fun s171 wx => s171 = .bool (decide (mid < e) && decide (e < b)) ∧ wx = wc)
                  case first =>
                    by_cases h1 : mid < e
                    · by_cases h2 : e < b
                      · go_wp2_with fail
                        go_meet
                        case rel => exact ⟨by simp [h1, h2], rfl⟩
                      · go_wp2_with fail
                        go_meet
                        case rel => exact ⟨by simp [h2], rfl⟩
                    · go_wp2_with fail
                      go_meet
                      case rel => exact ⟨by simp [h1], rfl⟩
                  case rest =>
                    obtain ⟨rfl, rfl⟩ := hcut
                    as_aux_lemma =>
                      cases hq : (decide (mid < e) && decide (e < b))
                      · have hss : SortedIn lt mid b d := by
                          simp only [Bool.and_eq_false_iff, decide_eq_false_iff_not] at hq
                          rcases hq with hq | hq
                          · obtain rfl : e = mid := by omega
                            exact HV.out.s4
                          · obtain rfl : e = b := by omega
                            exact HV.out.s3
                        have HSS := Lib.hid (sorted_keep hss HP2.out (.inr (Nat.le_refl _)))
                        clear hss
                        go_wp2_with fail
                        refine bodyPost_end (a := ⟨_, _⟩) (results_none rfl _ _ _) rfl ?_
                        obtain ⟨j1, j2⟩ := halves_join (lt := lt) (d1 := d) (d2 := d2) (d3 := d2) (a := a) (mid := mid) (b := b) (by omega) (by omega) (by omega) HP2.out HSO2.out (permIn_refl _ _ _) HSS.out HV.out.cross
                        exact ⟨rfl, d2, hs2, permIn_trans _ _ _ _ _ HP1.out j1, j2, hH2', ExtM.trans _ _ _ HX1.out hx2''⟩
                      · have hq' : mid < e ∧ e < b := by simpa using hq
                        have hc := IH.out mid e b d2 wc (by omega) hH2' hs2 hq'.1 hq'.2 (by omega) (sorted_keep HV.out.s3 HP2.out (.inr (Nat.le_refl _))) (sorted_keep HV.out.s4 HP2.out (.inr (by omega)))
                        obtain ⟨c0, c1⟩ := HCC.out _ hx2''
                        go_wp2_with (go_at_call 117; refine hc.mono ?_; rintro e' w4 ⟨rfl, d3, hs3, hp3, hso3, hH4, hx4⟩)
                        refine bodyPost_end (a := ⟨_, _⟩) (results_none rfl _ _ _) rfl ?_
                        obtain ⟨j1, j2⟩ := halves_join (lt := lt) (d1 := d) (d2 := d2) (d3 := d3) (a := a) (mid := mid) (b := b) (by omega) (by omega) (by omega) HP2.out HSO2.out hp3 hso3 HV.out.cross
                        exact ⟨rfl, d3, hs3, permIn_trans _ _ _ _ _ HP1.out j1, j2, hH4, ExtM.trans _ _ _ HX1.out (ExtM.trans _ _ _ hx2'' hx4)⟩
            · have hq' : r < m ∧ m < e := by simpa using hq
              have hc := rotate_c I r m e d wc hHk hs hq'.1 hq'.2 (by omega) hn
              obtain ⟨c0, c1⟩ := HCC.out _ hxk
              clear hq hq'
              go_upto_region 42 with (go_at_call 132; refine hc.mono ?_; rintro e' w2 ⟨rfl, d1, hd1, hs1, hp1, hH2, hx2⟩)
              have HV := Lib.hid (HHV.out d1 hd1)
              have HP1 := Lib.hid (permIn_range hp1 hr1 hr4 (by omega))
              have hx2' := ExtM.trans _ _ _ hxk hx2
              clear hd1 hp1 c0 c1 hc
              go_cut [158] (fun s158 wx => s158 = .bool (decide (a < r) && decide (r < mid)) ∧ wx = w2)
              case first =>
                by_cases h1 : a < r
                · by_cases h2 : r < mid
                  · go_wp2_with fail
                    go_meet
                    case rel => exact ⟨by simp [h1, h2], rfl⟩
                  · go_wp2_with fail
                    go_meet
                    case rel => exact ⟨by simp [h2], rfl⟩
                · go_wp2_with fail
                  go_meet
                  case rel => exact ⟨by simp [h1], rfl⟩
              case rest =>
                obtain ⟨rfl, rfl⟩ := hcut
                go_upto_if 158 with fail
                go_cut [] (fun wx => ∃ d2 : Array α, d2.size = n ∧ PermIn a mid d1 d2 ∧ SortedIn lt a mid d2 ∧ H d2 wx ∧ ExtM (fun k => k = blk) W1 wx)
                case first =>
                  as_aux_lemma =>
                    cases hq : (decide (a < r) && decide (r < mid))
                    · have hss : SortedIn lt a mid d1 := by
                        simp only [Bool.and_eq_false_iff, decide_eq_false_iff_not] at hq
                        rcases hq with hq | hq
                        · obtain rfl : r = a := by omega
                          exact HV.out.s2
                        · obtain rfl : r = mid := by omega
                          exact HV.out.s1
                      have HSS := Lib.hid hss
                      clear hss
                      go_wp2_with fail
                      go_meet
                      case rel => exact ⟨d1, hs1, permIn_refl _ _ _, HSS.out, hH2, hx2'⟩
                    · have hq' : a < r ∧ r < mid := by simpa using hq
                      have hc := IH.out a r mid d1 wc (by omega) hH2 hs1 hq'.1 hq'.2 (by omega) HV.out.s1 HV.out.s2
                      obtain ⟨c0, c1⟩ := HCC.out _ hx2'
                      go_wp2_with (go_at_call 117; refine hc.mono ?_; rintro e' w3 ⟨rfl, d2, hs2, hp2, hso2, hH3, hx3⟩)
                      go_meet
                      case rel => exact ⟨d2, hs2, hp2, hso2, hH3, ExtM.trans _ _ _ hx2' hx3⟩
                case rest =>
                  obtain ⟨d2, hs2, hp2, hso2, hH2', hx2''⟩ := hcut
                  have HP2 := Lib.hid hp2
                  have HSO2 := Lib.hid hso2
                  clear hp2 hso2 hH2 hx2'
                  go_upto_region 44 with fail
                  go_cut [171] (fun s171 wx => s171 = .bool (decide (mid < e) && decide (e < b)) ∧ wx = wc)
                  case first =>
                    by_cases h1 : mid < e
                    · by_cases h2 : e < b
                      · go_wp2_with fail
                        go_meet
                        case rel => exact ⟨by simp [h1, h2], rfl⟩
                      · go_wp2_with fail
                        go_meet
                        case rel => exact ⟨by simp [h2], rfl⟩
                    · go_wp2_with fail
                      go_meet
                      case rel => exact ⟨by simp [h1], rfl⟩
                  case rest =>
                    obtain ⟨rfl, rfl⟩ := hcut
                    as_aux_lemma =>
                      cases hq : (decide (mid < e) && decide (e < b))
                      · have hss : SortedIn lt mid b d1 := by
                          simp only [Bool.and_eq_false_iff, decide_eq_false_iff_not] at hq
                          rcases hq with hq | hq
                          · obtain rfl : e = mid := by omega
                            exact HV.out.s4
                          · obtain rfl : e = b := by omega
                            exact HV.out.s3
                        have HSS := Lib.hid (sorted_keep hss HP2.out (.inr (Nat.le_refl _)))
                        clear hss
                        go_wp2_with fail
                        refine bodyPost_end (a := ⟨_, _⟩) (results_none rfl _ _ _) rfl ?_
                        obtain ⟨j1, j2⟩ := halves_join (lt := lt) (d1 := d1) (d2 := d2) (d3 := d2) (a := a) (mid := mid) (b := b) (by omega) (by omega) (by omega) HP2.out HSO2.out (permIn_refl _ _ _) HSS.out HV.out.cross
                        exact ⟨rfl, d2, hs2, permIn_trans _ _ _ _ _ HP1.out j1, j2, hH2', ExtM.trans _ _ _ HX1.out hx2''⟩
                      · have hq' : mid < e ∧ e < b := by simpa using hq
                        have hc := IH.out mid e b d2 wc (by omega) hH2' hs2 hq'.1 hq'.2 (by omega) (sorted_keep HV.out.s3 HP2.out (.inr (Nat.le_refl _))) (sorted_keep HV.out.s4 HP2.out (.inr (by omega)))
                        obtain ⟨c0, c1⟩ := HCC.out _ hx2''
                        go_wp2_with (go_at_call 117; refine hc.mono ?_; rintro e' w4 ⟨rfl, d3, hs3, hp3, hso3, hH4, hx4⟩)
                        refine bodyPost_end (a := ⟨_, _⟩) (results_none rfl _ _ _) rfl ?_
                        obtain ⟨j1, j2⟩ := halves_join (lt := lt) (d1 := d1) (d2 := d2) (d3 := d3) (a := a) (mid := mid) (b := b) (by omega) (by omega) (by omega) HP2.out HSO2.out hp3 hso3 HV.out.cross
                        exact ⟨rfl, d3, hs3, permIn_trans _ _ _ _ _ HP1.out j1, j2, hH4, ExtM.trans _ _ _ HX1.out (ExtM.trans _ _ _ hx2'' hx4)⟩
end
end Go.Proofs.YtggjceolhbdalaaDoor
