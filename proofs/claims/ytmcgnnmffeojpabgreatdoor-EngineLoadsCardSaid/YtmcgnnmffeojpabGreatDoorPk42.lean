import Derived.Test.YtmcgnnmffeojpabGreatDoorPk34
set_option maxRecDepth 100000
set_option maxHeartbeats 8000000
namespace Go.Proofs.YtmcgnnmffeojpabGreatDoor
open Go.Sort
variable {α:Type} [Inhabited α]
theorem zk5 {d dk:Array α} {a k:Nat} (hak:a <= k) (hk:k + 1 < dk.size) (h:∀ x,dk[x]! = rotF (fun x=>d[x]!) a (a + 1) (k + 1) x) (x:Nat):(swp dk k (k + 1))[x]! = rotF (fun x=>d[x]!) a (a + 1) (k + 1 + 1) x:=by
 rw [zig dk (by omega) hk,h,h,h];unfold rotF
 (repeat' split) <;> first | rfl | (exfalso;omega) | (congr 1;omega)
theorem zjL {d dk:Array α} {k m:Nat} (hk0:0 < k) (hkm:k <= m) (hk:m < dk.size) (h:∀ x,dk[x]! = rotF (fun x=>d[x]!) k m (m + 1) x) (x:Nat):(swp dk k (k - 1))[x]! = rotF (fun x=>d[x]!) (k - 1) m (m + 1) x:=by
 rw [zig dk (by omega) (by omega),h,h,h];unfold rotF
 (repeat' split) <;> first | rfl | (exfalso;omega) | (congr 1;omega)
theorem zjB (d:Array α) (a x:Nat):d[x]! = rotF (fun x=>d[x]!) a (a + 1) (a + 1) x:=(zfK (f:=fun x=>d[x]!) (.inr rfl) ⟨by omega,by omega⟩ x).symm
theorem zkn (d:Array α) (m x:Nat):d[x]! = rotF (fun x=>d[x]!) m m (m + 1) x:=(zfK (f:=fun x=>d[x]!) (.inl rfl) ⟨by omega,by omega⟩ x).symm
theorem zmD {lt:α -> α -> Bool} {n bs:Nat} {d:Array α} (h:Blk lt n bs 0 n d) (hb:n <= bs):SortedIn lt 0 n d:=by
 intro i j h1 h2 h3
 have:=h 0 (by omega) (by omega)
 rw [Nat.zero_mul] at this;exact this i j h1 h2 (by omega)
end Go.Proofs.YtmcgnnmffeojpabGreatDoor
