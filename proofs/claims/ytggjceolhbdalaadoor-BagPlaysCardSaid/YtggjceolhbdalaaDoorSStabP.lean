/- For the stable sort: one element carried along; blocks of a size. Plain. -/
import Derived.Test.YtggjceolhbdalaaDoorSymP
namespace Go.Proofs.YtggjceolhbdalaaDoor
open Go.Sort
variable {α : Type} [Inhabited α]

theorem rotL_step {d dk : Array α} {a k : Nat} (hak : a ≤ k) (hk : k + 1 < dk.size) (h : ∀ x, dk[x]! = rotF (fun x => d[x]!) a (a + 1) (k + 1) x) (x : Nat) : (swp dk k (k + 1))[x]! = rotF (fun x => d[x]!) a (a + 1) (k + 1 + 1) x := by
  rw [swp_at dk (by omega) hk, h, h, h]
  unfold rotF
  (repeat' split) <;> first | rfl | (exfalso; omega) | (congr 1; omega)
theorem rotR_step {d dk : Array α} {k m : Nat} (hk0 : 0 < k) (hkm : k ≤ m) (hk : m < dk.size) (h : ∀ x, dk[x]! = rotF (fun x => d[x]!) k m (m + 1) x) (x : Nat) : (swp dk k (k - 1))[x]! = rotF (fun x => d[x]!) (k - 1) m (m + 1) x := by
  rw [swp_at dk (by omega) (by omega), h, h, h]
  unfold rotF
  (repeat' split) <;> first | rfl | (exfalso; omega) | (congr 1; omega)
/-- Nothing is carried. -/
theorem rotL_none (d : Array α) (a x : Nat) : d[x]! = rotF (fun x => d[x]!) a (a + 1) (a + 1) x := (rot_none (f := fun x => d[x]!) (.inr rfl) ⟨by omega, by omega⟩ x).symm
theorem rotR_none (d : Array α) (m x : Nat) : d[x]! = rotF (fun x => d[x]!) m m (m + 1) x := (rot_none (f := fun x => d[x]!) (.inl rfl) ⟨by omega, by omega⟩ x).symm

theorem blk_join {lt : α → α → Bool} {n bs : Nat} {d d' : Array α} {q : Nat} (hn : n ≤ d.size) (h0 : 0 < bs) (h1 : Blk lt n (2 * bs) 0 (q * (2 * bs)) d) (h2 : Blk lt n bs (q * (2 * bs)) n d) {b : Nat} (hb : b = min (q * (2 * bs) + 2 * bs) n) (hp : PermIn (q * (2 * bs)) b d d') (hs : SortedIn lt (q * (2 * bs)) b d') :
    Blk lt n (2 * bs) 0 ((q + 1) * (2 * bs)) d' ∧ Blk lt n bs ((q + 1) * (2 * bs)) n d' := by
  have e1 : (q + 1) * (2 * bs) = q * (2 * bs) + 2 * bs := by rw [Nat.add_mul, Nat.one_mul]
  refine ⟨fun p hp1 hp2 => ?_, fun p hp1 hp2 => ?_⟩
  · by_cases hpq : p < q
    · have hle : p * (2 * bs) + 2 * bs ≤ q * (2 * bs) := by
        have := Nat.mul_le_mul_right (2 * bs) (show p + 1 ≤ q by omega)
        rwa [Nat.add_mul, Nat.one_mul] at this
      exact sorted_keep (h1 p hp1 (by omega)) hp (.inl (by omega))
    · have hpe : p = q := by
        have : ¬ q + 1 ≤ p := fun h => by
          have := Nat.mul_le_mul_right (2 * bs) h
          omega
        omega
      subst hpe
      rw [← hb]; exact hs
  · refine sorted_keep (h2 p (by omega) hp2) hp (.inr (by omega))
theorem blk_last {lt : α → α → Bool} {n bs : Nat} {d : Array α} (h : Blk lt n bs 0 n d) (hb : n ≤ bs) : SortedIn lt 0 n d := by
  intro i j h1 h2 h3
  have := h 0 (by omega) (by omega)
  rw [Nat.zero_mul] at this
  exact this i j h1 h2 (by omega)
end Go.Proofs.YtggjceolhbdalaaDoor
