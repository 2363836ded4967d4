/- sort's stable sort over a less and a swap: stable_func. -/
import Derived.Test.YtggjceolhbdalaaDoorSStab2
namespace Go.Proofs.YtggjceolhbdalaaDoor
open Go.RowKit Go.Plan Go.Sort
variable {α : Type} [Inhabited α]

theorem blk_step {lt : α → α → Bool} {n bs q A b : Nat} {d d' : Array α} (hA : A = q * bs) (h1 : Blk lt n bs 0 A d) (hb : b = min (A + bs) n) (hp : PermIn A b d d') (hs : SortedIn lt A b d') : Blk lt n bs 0 (A + bs) d' := by
  subst hA
  intro p _ hp2
  by_cases hpq : p < q
  · have hle : p * bs + bs ≤ q * bs := by
      have := Nat.mul_le_mul_right bs (show p + 1 ≤ q by omega)
      rwa [Nat.add_mul, Nat.one_mul] at this
    by_cases h0 : bs = 0
    · subst h0
      intro i j x1 x2 x3
      simp at x1 x3
    exact sorted_keep (h1 p (Nat.zero_le _) (by omega)) hp (.inl (by omega))
  · by_cases hpe : p = q
    · subst hpe
      rw [← hb]; exact hs
    · have := Nat.mul_le_mul_right bs (show q + 1 ≤ p by omega)
      rw [Nat.add_mul, Nat.one_mul] at this
      omega
theorem blk_rest {lt : α → α → Bool} {n bs lo b A : Nat} {d d' : Array α} (h : Blk lt n bs lo n d) (hp : PermIn A b d d') (hlo : lo ≤ b) (hb : b ≤ n ∨ True) : Blk lt n bs b n d' := fun p h1 h2 => sorted_keep (h p (by omega) h2) hp (.inr h1)
theorem blk_pair {lt : α → α → Bool} {n bs q A : Nat} {d : Array α} (hA : A = q * (2 * bs)) (h : Blk lt n bs A n d) : (A < n → SortedIn lt A (min (A + bs) n) d) ∧ (A + bs < n → SortedIn lt (A + bs) (min (A + 2 * bs) n) d) := by
  have e1 : 2 * q * bs = A := by rw [hA, Nat.mul_comm 2 q, Nat.mul_assoc]
  have e2 : (2 * q + 1) * bs = A + bs := by rw [Nat.add_mul, Nat.one_mul, e1]
  refine ⟨fun hlt => ?_, fun hlt => ?_⟩
  · have := h (2 * q) (by omega) (by omega)
    rwa [e1] at this
  · have := h (2 * q + 1) (by omega) (by omega)
    rw [e2] at this
    rwa [show A + 2 * bs = A + bs + bs by omega]
theorem blk_wide {lt : α → α → Bool} {n bs hi : Nat} {d : Array α} (h : Blk lt n bs 0 hi d) (hn : n ≤ hi) : Blk lt n bs 0 n d := fun p h1 h2 => h p h1 (by omega)
theorem blk_nil {lt : α → α → Bool} {n bs : Nat} {d : Array α} : Blk lt n bs 0 0 d := fun p _ h => absurd h (Nat.not_lt_zero _)

section
variable {n : Nat} {lt : α → α → Bool} {g : Nat} {lb : Array Value} {sf : Nat} {sb : Array Value} {blk : Nat} {H : Array α → World → Prop}


set_option maxRecDepth 100000 in
set_option maxHeartbeats 8000000 in
theorem stable_c (I : SIf n lt g lb sf sb blk H) (hO : SWO lt) (hn : n < 1000000) (d : Array α) (w : World) (hH : H d w) (hs : d.size = n) :
    Calls Tryd.prog 72 #[.agg #[.func (.func g) #[] lb, .func (.func sf) #[] sb], .int .i64 n] w fun e w' => e = .returned (.tuple #[]) ∧
      ∃ d' : Array α, d'.size = n ∧ PermIn 0 n d d' ∧ SortedIn lt 0 n d' ∧ H d' w' ∧ ExtM (fun k => k = blk) w w' := by
  have hbl := I.lt' d w hH
  have hx1 : Ext w (w.alloc (.cells #[.func (.func g) #[] lb, .func (.func sf) #[] sb] 155)) := (ExtM.refl w).alloc _
  have hH1 := I.ext d w _ hH hx1
  have HX1 : Hid (ExtM (fun k => k = blk) w (w.alloc (.cells #[.func (.func g) #[] lb, .func (.func sf) #[] sb] 155))) := Lib.hid (hx1.mono (fun _ _ h => h.elim))
  go_enter Tryd.func72, Tryd.ntmps72
  go_wp2
  have q0 : (w.alloc (.cells #[.func (.func g) #[] lb, .func (.func sf) #[] sb] 155)).cell? ⟨w.heap.size, 0, none⟩ = some (.func (.func g) #[] lb) := by go_simp
  have q1 : (w.alloc (.cells #[.func (.func g) #[] lb, .func (.func sf) #[] sb] 155)).cell? ⟨w.heap.size, 1, none⟩ = some (.func (.func sf) #[] sb) := by go_simp
  have hN1 : w.heap.size < (w.alloc (.cells #[.func (.func g) #[] lb, .func (.func sf) #[] sb] 155)).heap.size := by simp
  generalize w.alloc (.cells #[.func (.func g) #[] lb, .func (.func sf) #[] sb] 155) = W1 at *
  have hcc : ∀ u, ExtM (fun k => k = blk) W1 u → u.cell? ⟨w.heap.size, 0, none⟩ = some (.func (.func g) #[] lb) ∧ u.cell? ⟨w.heap.size, 1, none⟩ = some (.func (.func sf) #[] sb) := fun u hu =>
    ⟨(hu.cell (p := ⟨w.heap.size, 0, none⟩) hN1 (by simp; omega)).trans q0, (hu.cell (p := ⟨w.heap.size, 1, none⟩) hN1 (by simp; omega)).trans q1⟩
  have HCC := Lib.hid hcc
  clear hcc q0 q1
  go_loopg [5, 6] (n + 1) (fun kx s5 s6 wr => ∃ (q A : Nat) (dk : Array α), s5 = .int .i64 (A : Int) ∧ s6 = .int .i64 ((A : Int) + 20) ∧ Hid (A = q * 20) ∧ A ≤ n ∧ n - A ≤ kx ∧ dk.size = n ∧ PermIn 0 n d dk ∧ Blk lt n 20 0 A dk ∧ H dk wr ∧ ExtM (fun k => k = blk) W1 wr)
  case atStart => exact ⟨0, 0, d, rfl, rfl, Lib.hid rfl, Nat.zero_le _, by omega, hs, permIn_refl _ _ _, blk_nil, hH1, ExtM.refl _⟩
  case round =>
    obtain ⟨q, A, dk, rfl, rfl, hA, hAn, hgk, hsk, hpk, hbk, hHk, hxk⟩ := hrel
    obtain ⟨c0, c1⟩ := HCC.out _ hxk
    have HP := Lib.hid hpk
    have HB := Lib.hid hbk
    clear hpk hbk
    by_cases hle : A + 20 ≤ n
    · have hc := insSort_c I A (A + 20) dk wr hHk hsk (by omega) hle hn
      rw [show ((A + 20 : Nat) : Int) = (A : Int) + 20 by omega] at hc
      have hle' : (A : Int) + 20 ≤ (n : Int) := by omega
      obtain ⟨p1, p2⟩ := insertionSort_holds (lt := lt) hO dk A (A + 20) (by omega) (by omega)
      have P1 := Lib.hid p1
      have P2 := Lib.hid p2
      have hsz : (insertionSort lt dk A (A + 20)).size = n := by rw [p1.1]; exact hsk
      clear p1 p2
      go_wp2_with (go_at_call 116; refine hc.mono ?_; rintro e w2 ⟨rfl, hH2, hx2⟩)
      go_roundg (n - (A + 20))
      case measure => omega
      case rel =>
        exact ⟨q + 1, A + 20, insertionSort lt dk A (A + 20), by go_num, by go_num, Lib.hid (by have := hA.out; omega), hle, Nat.le_refl _, hsz, permIn_trans _ _ _ _ _ HP.out (permIn_range P1.out (Nat.zero_le _) hle (by omega)), blk_step hA.out HB.out (by omega) P1.out P2.out, hH2, ExtM.trans _ _ _ hxk hx2⟩
    · have hle' : ¬ (A : Int) + 20 ≤ (n : Int) := by omega
      have hc := insSort_c I A n dk wr hHk hsk hAn (Nat.le_refl _) hn
      obtain ⟨p1, p2⟩ := insertionSort_holds (lt := lt) hO dk A n hAn (by omega)
      have hsz : (insertionSort lt dk A n).size = n := by rw [p1.1]; exact hsk
      have HB1 := Lib.hid (blk_wide (blk_step hA.out HB.out (show n = min (A + 20) n by omega) p1 p2) (by omega))
      have HP1 := Lib.hid (permIn_trans _ _ _ _ _ HP.out (permIn_range p1 (Nat.zero_le _) (Nat.le_refl _) (by omega)))
      clear p1 p2 HP HB hA
      go_wp2_with (go_at_call 116; refine hc.mono ?_; rintro e w2 ⟨rfl, hH2, hx2⟩)
      have hx2' := ExtM.trans _ _ _ hxk hx2
      clear hxk hx2 hHk hsk hH1 hH c0 c1 hc hle hle' hgk hAn
      generalize insertionSort lt dk A n = d1 at *
      go_loopg [4] (n + 1) (fun kx s4 wr => ∃ (bs : Nat) (dk : Array α), s4 = .int .i64 (bs : Int) ∧ 20 ≤ bs ∧ bs ≤ 2 * n + 20 ∧ n - bs ≤ kx ∧ dk.size = n ∧ PermIn 0 n d dk ∧ Blk lt n bs 0 n dk ∧ H dk wr ∧ ExtM (fun k => k = blk) W1 wr)
      case atStart => exact ⟨20, d1, rfl, Nat.le_refl _, by omega, by omega, hsz, HP1.out, HB1.out, hH2, hx2'⟩
      case round =>
        clear hsz hH2 hx2' HP1 HB1
        obtain ⟨bs, dk, rfl, hb20, hbn, hgk, hsk, hpk, hbk, hHk, hxk⟩ := hrel
        obtain ⟨c0, c1⟩ := HCC.out _ hxk
        have HP := Lib.hid hpk
        have HB := Lib.hid hbk
        clear hpk hbk
        by_cases hlt : bs < n
        · go_wp2_with fail
          clear c0 c1
          go_loopg [5, 6] (n + 1) (fun kx s5 s6 wr => ∃ (q A : Nat) (dk : Array α), s5 = .int .i64 (A : Int) ∧ s6 = .int .i64 ((A : Int) + 2 * (bs : Int)) ∧ Hid (A = q * (2 * bs)) ∧ A ≤ n ∧ n - A ≤ kx ∧ dk.size = n ∧ PermIn 0 n d dk ∧ Blk lt n (2 * bs) 0 A dk ∧ Blk lt n bs A n dk ∧ H dk wr ∧ ExtM (fun k => k = blk) W1 wr)
          case atStart => exact ⟨0, 0, dk, rfl, by go_num, Lib.hid (by omega), Nat.zero_le _, by omega, hsk, HP.out, blk_nil, HB.out, hHk, hxk⟩
          case round =>
            clear hsk hHk hxk HP HB
            obtain ⟨q, A, dk, rfl, rfl, hA, hAn, hgk2, hsk, hpk, hbk, hbr, hHk, hxk⟩ := hrel
            obtain ⟨c0, c1⟩ := HCC.out _ hxk
            have HP := Lib.hid hpk
            have HB := Lib.hid hbk
            have HR := Lib.hid hbr
            obtain ⟨t1, t2⟩ := blk_pair hA.out hbr
            have T1 := Lib.hid t1
            have T2 := Lib.hid t2
            clear hpk hbk hbr t1 t2
            by_cases hle : A + 2 * bs ≤ n
            · have hle' : (A : Int) + 2 * (bs : Int) ≤ (n : Int) := by omega
              have hc := symMerge_c I hO hn (2 * bs + 1) A (A + bs) (A + 2 * bs) dk wr (by omega) hHk hsk (by omega) (by omega) hle
                (by have := T1.out (by omega); rwa [show min (A + bs) n = A + bs by omega] at this) (by have := T2.out (by omega); rwa [show min (A + 2 * bs) n = A + 2 * bs by omega] at this)
              rw [show ((A + bs : Nat) : Int) = (A : Int) + (bs : Int) by omega, show ((A + 2 * bs : Nat) : Int) = (A : Int) + 2 * (bs : Int) by omega] at hc
              go_wp2_with (go_at_call 117; refine hc.mono ?_; rintro e w2 ⟨rfl, d2, hs2, hp2, hso2, hH2, hx2⟩)
              go_roundg (n - (A + 2 * bs))
              case measure => omega
              case rel =>
                exact ⟨q + 1, A + 2 * bs, d2, by rw [show ((A + 2 * bs : Nat) : Int) = (A : Int) + 2 * (bs : Int) by omega], by rw [show ((A + 2 * bs : Nat) : Int) = (A : Int) + 2 * (bs : Int) by omega], Lib.hid (by rw [hA.out, Nat.add_mul, Nat.one_mul]), hle, Nat.le_refl _, hs2, permIn_trans _ _ _ _ _ HP.out (permIn_range hp2 (Nat.zero_le _) hle (by omega)), blk_step hA.out HB.out (by omega) hp2 hso2, blk_rest HR.out hp2 (by omega) (.inr trivial), hH2, ExtM.trans _ _ _ hxk hx2⟩
            · have hle' : ¬ (A : Int) + 2 * (bs : Int) ≤ (n : Int) := by omega
              by_cases hm : A + bs < n
              · have hm' : (A : Int) + (bs : Int) < (n : Int) := by omega
                have hc := symMerge_c I hO hn (2 * bs + 1) A (A + bs) n dk wr (by omega) hHk hsk (by omega) hm (Nat.le_refl _)
                  (by have := T1.out (by omega); rwa [show min (A + bs) n = A + bs by omega] at this) (by have := T2.out hm; rwa [show min (A + 2 * bs) n = n by omega] at this)
                rw [show ((A + bs : Nat) : Int) = (A : Int) + (bs : Int) by omega] at hc
                go_wp2_with (go_at_call 117; refine hc.mono ?_; rintro e w2 ⟨rfl, d2, hs2, hp2, hso2, hH2, hx2⟩)
                go_roundg (n - 2 * bs)
                case measure => omega
                case rel =>
                  exact ⟨2 * bs, d2, by rw [show ((2 * bs : Nat) : Int) = (bs : Int) * 2 by omega], by omega, by omega, Nat.le_refl _, hs2, permIn_trans _ _ _ _ _ HP.out (permIn_range hp2 (Nat.zero_le _) (Nat.le_refl _) (by omega)), blk_wide (blk_step hA.out HB.out (by omega) hp2 hso2) (by omega), hH2, ExtM.trans _ _ _ hxk hx2⟩
              · have hm' : ¬ (A : Int) + (bs : Int) < (n : Int) := by omega
                go_wp2_with fail
                go_roundg (n - 2 * bs)
                case measure => omega
                case rel =>
                  have hss : SortedIn lt A n dk := by
                    by_cases hz : A < n
                    · have := T1.out hz
                      rwa [show min (A + bs) n = n by omega] at this
                    · intro i j h1 h2 h3; omega
                  exact ⟨2 * bs, dk, by rw [show ((2 * bs : Nat) : Int) = (bs : Int) * 2 by omega], by omega, by omega, Nat.le_refl _, hsk, HP.out, blk_wide (blk_step hA.out HB.out (b := n) (by omega) (permIn_refl _ _ _) hss) (by omega), hHk, hxk⟩
        · go_wp2_with fail
          refine bodyPost_end (a := ⟨_, _⟩) (results_none rfl _ _ _) rfl ?_
          exact ⟨rfl, dk, hsk, HP.out, blk_last HB.out (by omega), hHk, ExtM.trans _ _ _ HX1.out hxk⟩
end
end Go.Proofs.YtggjceolhbdalaaDoor
