/- The law GroupBack: what its walk wants. -/
import Derived.Test.YtggjceolhbdalaaGrpSep
namespace Go.Proofs.Ytggjceolhbdalaa
open Go.RowKit Go.Plan

/-- What 'summed' sums. -/
def s1 : Out := ⟨1, ⟨1, 0, 5⟩, ⟨1, 0, 3⟩, true, true⟩
def s2 : Out := ⟨1, ⟨0, 0, 0⟩, ⟨1, 0, 8⟩, false, true⟩
theorem s1_ok : s1.ok := by unfold Out.ok Row.ok I64 s1; decide
theorem s2_ok : s2.ok := by unfold Out.ok Row.ok I64 s2; decide
theorem s12 {ents : List Ent} (h : RepAll ents [s2, s1]) : st ents 1 = some ⟨2, 5, [3, 8]⟩ := by
  have h1 := h 1
  have e : ofKey [s2, s1] 1 = [s2, s1] := by unfold ofKey; decide
  rw [e] at h1
  refine h1.eq (u := some ⟨2, 5, [3, 8]⟩) ⟨by simp, rfl, ?_, ?_, ?_⟩
  · show (5 : Int) = wrap64 (lsum [s2, s1])
    have : lsum [s2, s1] = 5 := by decide
    rw [this]; unfold wrap64; decide
  · show [3, 8].Perm [8, 3]
    exact List.Perm.swap _ _ _
  · simp

set_option maxRecDepth 100000 in
set_option maxHeartbeats 4000000 in
theorem summed_c (w : World) : Calls Try.prog 10 #[] w fun e w' => e = .returned (.bool true) ∧ Ext w w' := by
  go_enter Try.func10, Try.ntmps10
  go_wp2_with fail
  have hb := GrpIs.new w 42
  have hx : Ext w (w.alloc (.cells #[.map none] 42)) := (ExtM.refl _).alloc _
  have hs : w.heap.size < (w.alloc (.cells #[.map none] 42)).heap.size := by rw [World.size_alloc]; omega
  generalize w.alloc (.cells #[.map none] 42) = w1 at *
  have x2 : Ext w1 (w1.alloc (.cells #[.int .i64 1, .int .i64 1, .int .i64 0, .int .i64 5, .int .i64 1, .int .i64 0, .int .i64 3, .bool true, .bool true] 33)) := (ExtM.refl _).alloc _
  replace hb := hb.of x2 (fun _ _ => id)
  replace hx := ExtM.trans _ _ _ hx x2
  replace hs := Nat.lt_of_lt_of_le hs x2.size
  clear x2
  generalize w1.alloc (.cells #[.int .i64 1, .int .i64 1, .int .i64 0, .int .i64 5, .int .i64 1, .int .i64 0, .int .i64 3, .bool true, .bool true] 33) = w2 at *
  have hF0 : ∀ k, grpM w.heap.size none [] k → w.heap.size ≤ k := fun k hk => by
    rcases hk with rfl | hk | ⟨e, he, -⟩
    · exact Nat.le_refl _
    · cases hk
    · cases he
  refine (grpAdd w.heap.size 0 none [] [] s1 w2 hb RepAll.nil s1_ok (by decide)).mono ?_
  rintro e w3 ⟨rfl, D1, e1, h1, r1, t1⟩
  have hx3 := turned_ext t1 hx (Nat.le_refl _) hF0
  have hF1 := turned_foot t1 (by omega) hF0
  have hs3 := Nat.lt_of_lt_of_le hs t1.ext.size
  clear hx hF0 hb hs t1
  go_wp2_with fail
  refine (grpAdd w.heap.size 0 D1 e1 [s1] s2 w3 h1 r1 s2_ok (by decide)).mono ?_
  rintro e w4 ⟨rfl, D2, e2, h2, r2, t2⟩
  have hx4 := turned_ext t2 hx3 (Nat.le_refl _) hF1
  clear hx3 hF1 hs3 t2 h1 r1
  go_wp2_with fail
  refine (grpOfSome_c w.heap.size 0 D2 e2 1 ⟨2, 5, [3, 8]⟩ w4 h2 (by unfold I64; decide) (s12 r2) (by decide)).mono ?_
  rintro e w5 ⟨rfl, x5⟩
  have hx5 := ExtM.trans _ _ _ hx4 x5
  have hg : grpOf 1 ⟨2, 5, [3, 8]⟩ = .agg #[.int .i64 1, .int .i64 2, .int .i64 5, .int .i64 3, .int .i64 8, .bool true] := rfl
  rw [hg]
  clear hg x5 hx4 h2 r2
  go_wp2_with fail
  go_ret
  exact ⟨rfl, hx5.alloc _⟩
end Go.Proofs.Ytggjceolhbdalaa
