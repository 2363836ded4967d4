/- The law GroupBack: what its walk wants. -/
import Derived.Test.YtmcgnnmffeojpaaGreatDoorPk21
namespace Go.Proofs.YtmcgnnmffeojpaaGreatDoor
open Go.RowKit Go.Plan

/-- What 'summed' sums. -/
def s1 : Out := ⟨1, ⟨1, 0, 5⟩, ⟨1, 0, 3⟩, true, true⟩
def s2 : Out := ⟨1, ⟨0, 0, 0⟩, ⟨1, 0, 8⟩, false, true⟩
theorem s1_ok : s1.ok := by unfold Out.ok Row.ok I64 s1; decide
theorem s2_ok : s2.ok := by unfold Out.ok Row.ok I64 s2; decide
theorem s12 {ents : List Ent} (h : RepAll ents [s2, s1]) : st ents 1 = some ⟨2, 5, [3, 8]⟩ := by
  have h1 := h 1
  have e : ofKey [s2, s1] 1 = [s2, s1] := by unfold ofKey; decide
  rw [e] at h1
  refine h1.eq (u := some ⟨2, 5, [3, 8]⟩) ⟨by simp, rfl, ?_, ?_, ?_⟩
  · show (5 : Int) = wrap64 (lsum [s2, s1])
    have : lsum [s2, s1] = 5 := by decide
    rw [this]; unfold wrap64; decide
  · show [3, 8].Perm [8, 3]
    exact List.Perm.swap _ _ _
  · simp

end Go.Proofs.YtmcgnnmffeojpaaGreatDoor
