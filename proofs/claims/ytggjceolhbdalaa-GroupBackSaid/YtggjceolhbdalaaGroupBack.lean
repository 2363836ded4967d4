/- The law GroupBack: its walk. -/
import Derived.Test.YtggjceolhbdalaaGrpBackC
namespace Go.Proofs.Ytggjceolhbdalaa
open Go.RowKit Go.Plan

set_option maxRecDepth 100000 in
set_option maxHeartbeats 8000000 in
theorem groupBack_w (pa pb : Option Addr) (ca cb : Nat) (xs ys : List Out) (t : Int) (w : World) (hxs : ∀ x ∈ xs, x.ok) (hys : ∀ x ∈ ys, x.ok) (ia : OutsIn w pa xs) (ib : OutsIn w pb ys) (ht : I64 t) :
    Calls Try.prog 4 #[.slice pa xs.length ca, .slice pb ys.length cb, .int .i64 t] w fun e w' => e = .returned (.bool true) ∧ Ext w w' := by
  by_cases h60 : 60 < xs.length
  · have d1 : decide (60 < (xs.length : Int)) = true := by simp; omega
    go_enter Try.func4, Try.ntmps4
    go_wp2_with fail
    go_ret
    exact ⟨rfl, ExtM.refl _⟩
  have d1 : decide (60 < (xs.length : Int)) = false := by simp; omega
  by_cases h61 : 60 < ys.length
  · have d2 : decide (60 < (ys.length : Int)) = true := by simp; omega
    go_enter Try.func4, Try.ntmps4
    go_wp2_with fail
    go_ret
    exact ⟨rfl, ExtM.refl _⟩
  have d2 : decide (60 < (ys.length : Int)) = false := by simp; omega
  go_enter Try.func4, Try.ntmps4
  go_wp2_with fail
  refine (summed_c w).mono ?_
  rintro e w1 ⟨rfl, h1⟩
  go_wp2_with fail
  have hT := TwoG.new w w1 h1 42
  generalize (w1.alloc (.cells #[.map none] 42)).alloc (.cells #[.map none] 42) = w2 at *
  generalize w1.heap.size = A at *
  clear h1
  obtain ⟨R, hR⟩ : ∃ R, pickN t xs.length = R := ⟨_, rfl⟩
  go_loopw [9] (fun i wr => ∃ (k : Nat), k ≤ xs.length ∧ i = .int .i64 k ∧ TwoG w wr A (xs.take k) ((rot R xs).take k)) (fun i _ => xs.length - (intOf i).toNat)
  case atStart => exact ⟨0, Nat.zero_le _, rfl, by simpa using hT⟩
  case round =>
    clear hT
    obtain ⟨k, hk, rfl, hT⟩ := hrel
    by_cases hkl : k < xs.length
    · have hd : decide ((k : Int) < xs.length) = true := by simp; omega
      rcases ia with rfl | ⟨b, off, rfl, hel⟩
      · simp at hkl
      have hRl : R < xs.length := by rw [← hR]; exact pickN_lt _ _ (by omega)
      have hpk := fun u => pick_c t xs.length u (by omega) (by omega) ht
      rw [hR] at hpk
      have el := (hel k hkl).of hT.ext
      have lb := el.lt
      obtain ⟨e0, e1, e2, e3, e4, e5, e6, e7, e8⟩ := id el
      generalize hx : xs[k] = x at *
      go_wp2_with fail
      refine (twoG_addA hT x (hxs x (hx ▸ List.getElem_mem hkl)) (by simp; omega)).mono ?_
      rintro e w3 ⟨rfl, hT3⟩
      clear e0 e1 e2 e3 e4 e5 e6 e7 e8 el lb hT
      go_wp2_with fail
      refine (hpk _).mono ?_
      rintro e w' ⟨rfl, rfl⟩
      have hj : (k + R) % xs.length < xs.length := Nat.mod_lt _ (by omega)
      have el := (hel _ hj).of hT3.ext
      have lb := el.lt
      have hm0 : 0 ≤ ((k : Int) + R) % xs.length := Int.emod_nonneg _ (by omega)
      have hm1 : ((k : Int) + R) % xs.length < xs.length := Int.emod_lt_of_pos _ (by omega)
      obtain ⟨e0, e1, e2, e3, e4, e5, e6, e7, e8⟩ := id el
      have hy := rot_get R xs hRl k hkl
      rw [List.getElem?_eq_getElem hj] at hy
      generalize hyx : xs[(k + R) % xs.length] = y at *
      have hyk : y.ok := hxs y (hyx ▸ List.getElem_mem hj)
      have hxk : xs[k]? = some x := by rw [← hx]; exact List.getElem?_eq_getElem hkl
      clear hyx hx
      go_wp2_with fail
      refine (twoG_addB hT3 y hyk (by simp [rot_length]; omega)).mono ?_
      rintro e w4 ⟨rfl, hT4⟩
      clear e0 e1 e2 e3 e4 e5 e6 e7 e8 el lb hT3 hm0 hm1 hj
      have hT5 := hT4.perm (take_snoc_perm hxk) (take_snoc_perm hy)
      clear hT4 hy hxk hpk hR hel
      go_wp2_with fail
      go_roundw
      case rel => exact ⟨k + 1, by omega, by go_num, hT5⟩
      case measure => simp [intOf]; omega
    · obtain rfl : k = xs.length := by omega
      have hd : decide ((xs.length : Int) < xs.length) = false := by simp
      have hT0 : TwoG w wr A xs (rot R xs) := by
        have e1 : xs.take xs.length = xs := List.take_length
        have e2 : (rot R xs).take xs.length = rot R xs := by rw [← rot_length R xs]; exact List.take_length
        rwa [e1, e2] at hT
      clear hT hkl hk
      go_wp2_with fail
      clear ia
      go_loopw [10] (fun i wr => ∃ (k : Nat), k ≤ ys.length ∧ i = .int .i64 k ∧ TwoG w wr A xs (ys.take k ++ rot R xs)) (fun i _ => ys.length - (intOf i).toNat)
      case atStart => exact ⟨0, Nat.zero_le _, rfl, by simpa using hT0⟩
      case round =>
        clear hT0
        obtain ⟨k, hk, rfl, hT⟩ := hrel
        by_cases hkl : k < ys.length
        · have hd : decide ((k : Int) < ys.length) = true := by simp; omega
          rcases ib with rfl | ⟨b, off, rfl, hel⟩
          · simp at hkl
          have el := (hel k hkl).of hT.ext
          have lb := el.lt
          obtain ⟨e0, e1, e2, e3, e4, e5, e6, e7, e8⟩ := id el
          have hyk : ys[k]? = some ys[k] := List.getElem?_eq_getElem hkl
          generalize hyx : ys[k] = y at *
          have hyok : y.ok := hys y (hyx ▸ List.getElem_mem hkl)
          clear hyx
          go_wp2_with fail
          refine (twoG_addB hT y hyok (by simp [rot_length]; omega)).mono ?_
          rintro e w4 ⟨rfl, hT4⟩
          have hT5 := hT4.perm (List.Perm.refl _) ((take_snoc_perm hyk).append_right (rot R xs))
          clear e0 e1 e2 e3 e4 e5 e6 e7 e8 el lb hT hT4 hyk hel hR
          go_wp2_with fail
          go_roundw
          case rel => exact ⟨k + 1, by omega, by go_num, hT5⟩
          case measure => simp [intOf]; omega
        · obtain rfl : k = ys.length := by omega
          have hd : decide ((ys.length : Int) < ys.length) = false := by simp
          obtain ⟨S, hS⟩ : ∃ S, pickN t ys.length = S := ⟨_, rfl⟩
          have hT0 : TwoG w wr A xs ((rot S ys).drop 0 ++ rot R xs) := by
            rw [List.drop_zero]
            rw [List.take_length] at hT
            exact hT.perm (List.Perm.refl _) ((rot_perm S ys).symm.append_right _)
          clear hT hkl hk
          go_wp2_with fail
          go_loopw [11] (fun i wr => ∃ (k : Nat), k ≤ ys.length ∧ i = .int .i64 k ∧ TwoG w wr A xs ((rot S ys).drop k ++ rot R xs)) (fun i _ => ys.length - (intOf i).toNat)
          case atStart => exact ⟨0, Nat.zero_le _, rfl, hT0⟩
          case round =>
            clear hT0
            obtain ⟨k, hk, rfl, hT⟩ := hrel
            by_cases hkl : k < ys.length
            · have hd : decide ((k : Int) < ys.length) = true := by simp; omega
              rcases ib with rfl | ⟨b, off, rfl, hel⟩
              · simp at hkl
              have hSl : S < ys.length := by rw [← hS]; exact pickN_lt _ _ (by omega)
              have hpk := fun u => pick_c t ys.length u (by omega) (by omega) ht
              rw [hS] at hpk
              go_wp2_with fail
              refine (hpk _).mono ?_
              rintro e w' ⟨rfl, rfl⟩
              have hj : (k + S) % ys.length < ys.length := Nat.mod_lt _ (by omega)
              have el := (hel _ hj).of hT.ext
              have lb := el.lt
              have hm0 : 0 ≤ ((k : Int) + S) % ys.length := Int.emod_nonneg _ (by omega)
              have hm1 : ((k : Int) + S) % ys.length < ys.length := Int.emod_lt_of_pos _ (by omega)
              obtain ⟨e0, e1, e2, e3, e4, e5, e6, e7, e8⟩ := id el
              have hy := rot_get S ys hSl k hkl
              rw [List.getElem?_eq_getElem hj] at hy
              generalize hyx : ys[(k + S) % ys.length] = y at *
              have hyok : y.ok := hys y (hyx ▸ List.getElem_mem hj)
              clear hyx
              have hdr : (rot S ys).drop k = y :: (rot S ys).drop (k + 1) := by
                obtain ⟨hk2, rfl⟩ := List.getElem?_eq_some_iff.1 hy
                exact List.drop_eq_getElem_cons hk2
              have hlen : ((rot S ys).drop k ++ rot R xs).length < 1000000 := by simp [rot_length]; omega
              have hmem : y ∈ (rot S ys).drop k ++ rot R xs := by rw [hdr]; simp
              go_wp2_with fail
              refine (twoG_lessB hT y hmem hyok hlen).mono ?_
              rintro e w4 ⟨rfl, hT4⟩
              have hT5 : TwoG w w4 A xs ((rot S ys).drop (k + 1) ++ rot R xs) := by
                rw [hdr, List.cons_append, List.erase_cons_head] at hT4
                exact hT4
              clear e0 e1 e2 e3 e4 e5 e6 e7 e8 el lb hT hT4 hm0 hm1 hj hy hpk hS hel hR hdr hlen hmem
              go_wp2_with fail
              go_roundw
              case rel => exact ⟨k + 1, by omega, by go_num, hT5⟩
              case measure => simp [intOf]; omega
            · obtain rfl : k = ys.length := by omega
              have hd : decide ((ys.length : Int) < ys.length) = false := by simp
              have hT0 : TwoG w wr A xs (rot R xs) := by
                have e1 : (rot S ys).drop ys.length = [] := List.drop_eq_nil_of_le (by rw [rot_length]; exact Nat.le_refl _)
                rw [e1, List.nil_append] at hT
                exact hT
              clear hT hkl hk hR hS ib
              go_wp2_with fail
              obtain ⟨rows, hrl, hall, hallB⟩ := twoG_allA hT0 (rot_perm R xs).symm (by omega)
              have hx0 := hT0.ext
              clear hT0
              refine hall.mono ?_
              rintro e w5 ⟨p1, cap1, rfl, x5, ho1⟩
              go_wp2_with fail
              refine (hallB w5 x5).mono ?_
              rintro e w6 ⟨p2, cap2, rfl, x6, ho2⟩
              have ho3 := ho1.of x6
              have hx2 : Ext w w6 := ExtM.trans _ _ _ (ExtM.trans _ _ _ hx0 x5) x6
              clear hall hallB ho1 x5 x6 hx0
              generalize hrn : rows.length = n at *
              have HRN := Lib.hid hrn
              clear hrn
              go_wp2_with fail
              go_loopw [14] (fun i wr => ∃ (k : Nat), k ≤ n ∧ i = .int .i64 k ∧ Ext w wr ∧ GrpsOf wr p1 rows ∧ GrpsOf wr p2 rows) (fun i _ => n - (intOf i).toNat)
              case atStart => exact ⟨0, Nat.zero_le _, rfl, hx2, ho3, ho2⟩
              case round =>
                clear hx2 ho3 ho2
                obtain ⟨k, hk, rfl, hx, ho1, ho2⟩ := hrel
                by_cases hkl : k < n
                · have hd : decide ((k : Int) < n) = true := by simp; omega
                  have hks : k < rows.length := by rw [HRN.out]; exact hkl
                  have q1 := ho1.of ((ExtM.refl wr).drew : Ext wr wr.drew)
                  have q2 := ho2.of ((ExtM.refl wr).drew : Ext wr wr.drew)
                  rcases ho1 with ho1 | ⟨b1, rfl, ho1⟩
                  · rw [ho1] at hks; simp at hks
                  rcases ho2 with ho2 | ⟨b2, rfl, ho2⟩
                  · rw [ho2] at hks; simp at hks
                  have el1 := ho1 k hks
                  have el2 := ho2 k hks
                  have lb1 := el1.lt
                  have lb2 := el2.lt
                  generalize rows[k] = y at el1 el2
                  have hne := fun u => neq_grp_self y u
                  obtain ⟨e0, e1, e2, e3, e4, e5⟩ := id el1
                  obtain ⟨g0, g1, g2, g3, g4, g5⟩ := id el2
                  clear el1 el2 ho1 ho2 hks
                  go_wp2_with fail
                  refine Plan.begin Plan.Ext 9 rfl (by kernel_rfl) ?_
                  refine Plan.left_q 0 (by rfl) (by kernel_rfl) ?_; go_big_quiet_step (fail); refine wpQuiet_nil ?_
                  refine Plan.left_q 1 (by rfl) (by kernel_rfl) ?_; go_big_quiet_step (fail); refine wpQuiet_nil ?_
                  refine Plan.left_q 2 (by rfl) (by kernel_rfl) ?_; go_big_quiet_step (fail); refine wpQuiet_nil ?_
                  refine Plan.left_q 3 (by rfl) (by kernel_rfl) ?_; go_big_quiet_step (fail); refine wpQuiet_nil ?_
                  refine Plan.left_q 4 (by rfl) (by kernel_rfl) ?_; go_big_quiet_step (fail); refine wpQuiet_nil ?_
                  refine Plan.left_q 5 (by rfl) (by kernel_rfl) ?_; go_big_quiet_step (fail); refine wpQuiet_nil ?_
                  refine Plan.left_q 6 (by rfl) (by kernel_rfl) ?_; go_big_quiet_step (fail); refine wpQuiet_nil ?_
                  refine Plan.left_q 7 (by rfl) (by kernel_rfl) ?_; go_big_quiet_step (fail); refine wpQuiet_nil ?_
                  refine Plan.left_q 8 (by rfl) (by kernel_rfl) ?_; go_big_quiet_step (fail); refine wpQuiet_nil ?_
                  refine Plan.left_done (by kernel_rfl) ?_
                  clear e0 e1 e2 e3 e4 e5 g0 g1 g2 g3 g4 g5 hne
                  go_wp2_with fail
                  go_roundw
                  case rel => exact ⟨k + 1, by omega, by go_num, hx.drew, q1, q2⟩
                  case measure => simp [intOf]; omega
                · obtain rfl : k = n := by omega
                  have hd : decide ((k : Int) < k) = false := by simp
                  go_wp2_with fail
                  go_ret
                  exact ⟨rfl, hx⟩
end Go.Proofs.Ytggjceolhbdalaa
