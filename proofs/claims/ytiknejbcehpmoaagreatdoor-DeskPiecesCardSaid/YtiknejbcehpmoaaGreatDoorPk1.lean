import Derived.Lib.SplitLaws
import Derived.Lib.ItoaLen
import Derived.Lib.AtoiAllCases
set_option maxRecDepth 100000
set_option maxHeartbeats 8000000
namespace Go.Proofs.YtiknejbcehpmoaaGreatDoor
open Go.Lib
def cut1 (c:UInt8):List UInt8 -> List (List UInt8)
 | []=>[[]]
 | b :: r=>if b = c then [] :: cut1 c r else match cut1 c r with | h :: t=>(b :: h) :: t | []=>[[b]]
theorem znF (c:UInt8) (l:List UInt8):cut1 c l ≠ []:=by
 cases l with
 | nil=>simp [cut1]
 | cons b r => unfold cut1;split;. simp
               split <;> simp
theorem zc0 {c:UInt8}:∀ {a:List UInt8},c ∉ a -> cut1 c a = [a]
 | [],_=>rfl
 | b :: r,h=>by
   have hb:b ≠ c:=fun e=>h (by rw [e];exact List.mem_cons_self);rw [cut1,if_neg hb,zc0 (fun e=>h (List.mem_cons_of_mem _ e))]
theorem zcA {c:UInt8} (r:List UInt8):∀ {a:List UInt8},c ∉ a -> cut1 c (a ++ c :: r) = a :: cut1 c r
 | [],_=>by rw [List.nil_append,cut1,if_pos rfl]
 | b :: a,h=>by
   have hb:b ≠ c:=fun e=>h (by rw [e];exact List.mem_cons_self);rw [List.cons_append,cut1,if_neg hb,zcA r (fun e=>h (List.mem_cons_of_mem _ e))]
theorem zel {c:UInt8}:∀ {a:List UInt8},c ∉ a -> index a [c] = -1
 | [],_=>by simp [index]
 | b :: r,h=>by
   have hb:b ≠ c:=fun e=>h (by rw [e];exact List.mem_cons_self);have hp:([c]:List UInt8).isPrefixOf (b :: r) = false:=by simp [List.isPrefixOf,Ne.symm hb]
   rw [index,hp,zel (fun e=>h (List.mem_cons_of_mem _ e))];simp
theorem zeQ {c:UInt8} (r:List UInt8):∀ {a:List UInt8},c ∉ a -> index (a ++ c :: r) [c] = (a.length:Nat)
 | [],_=>by rw [List.nil_append,index];simp [List.isPrefixOf]
 | b :: a,h=>by
   have hb:b ≠ c:=fun e=>h (by rw [e];exact List.mem_cons_self);have hp:([c]:List UInt8).isPrefixOf (b :: (a ++ c :: r)) = false:=by simp [List.isPrefixOf,Ne.symm hb]
   rw [List.cons_append,index,hp,zeQ r (fun e=>h (List.mem_cons_of_mem _ e))];have:((a.length:Nat):Int) ≠ -1:=by omega
   simp [this]
theorem zc8 (c:UInt8):∀ s:List UInt8,c ∉ s \/ ∃ a r,c ∉ a /\ s = a ++ c :: r
 | []=>.inl (by simp)
 | b :: s=>by
   by_cases hb:b = c
   . exact .inr ⟨[],s,by simp,by rw [hb];rfl⟩
   . rcases zc8 c s with h | ⟨a,r,h1,h2⟩
     . exact .inl (by rw [List.mem_cons];exact fun e=>e.elim (fun e=>hb e.symm) h)
     . exact .inr ⟨b :: a,r,by rw [List.mem_cons];exact fun e=>e.elim (fun e=>hb e.symm) h1,by rw [h2];rfl⟩
theorem ziN (c:UInt8) (n:Nat):∀ s:List UInt8,s.length <= n -> split s [c] = cut1 c s:=by
 induction n with
 | zero =>
   intro s hs;obtain rfl:s = []:=List.eq_nil_of_length_eq_zero (by omega);unfold split;rw [count_miss (by simp [index])];rfl
 | succ n ih =>
   intro s hs;rcases zc8 c s with h | ⟨a,r,h1,rfl⟩
   . unfold split;rw [count_miss (zel h),zc0 h];rfl
   . have hi:=zeQ r h1;have hc:=count_hit (sub:=[c]) (by simp) hi;have e1:(a ++ c :: r).drop (a.length + 1) = r:=by
      rw [List.drop_append,List.drop_eq_nil_of_le (by omega)];simp
     simp only [List.length_cons,List.length_nil,Nat.zero_add] at hc;rw [e1] at hc;have ih2:=ih r (by simp at hs;omega);unfold split at ih2 ⊢;rw [hc,Nat.add_comm,splitK,zcA r h1,hi];have:¬ (((a.length:Nat):Int) == -1) = true:=fun e=>by have:=beq_iff_eq.1 e;omega
     rw [if_neg this];simp only [Int.toNat_natCast,List.length_cons,List.length_nil,Nat.zero_add,Nat.add_zero];rw [e1,ih2,List.take_left]
theorem zpc (c:UInt8) (n:Nat):∀ s:List UInt8,s.length <= n -> ∀ p ∈ cut1 c s,c ∉ p:=by
 induction n with
 | zero =>
   intro s hs p hp;obtain rfl:s = []:=List.eq_nil_of_length_eq_zero (by omega);simp [cut1] at hp;subst hp;simp
 | succ n ih =>
   intro s hs p hp;rcases zc8 c s with h | ⟨a,r,h1,rfl⟩
   . rw [zc0 h,List.mem_singleton] at hp;subst hp;exact h
   . rw [zcA r h1] at hp;rcases List.mem_cons.1 hp with rfl | hp
     . exact h1
     . exact ih r (by simp at hs;omega) p hp
theorem zer (c:UInt8) (n:Nat):∀ s:List UInt8,s.length <= n -> (cut1 c s).length <= s.length + 1:=by
 induction n with
 | zero =>
   intro s hs;obtain rfl:s = []:=List.eq_nil_of_length_eq_zero (by omega);simp [cut1]
 | succ n ih =>
   intro s hs;rcases zc8 c s with h | ⟨a,r,h1,rfl⟩
   . rw [zc0 h];simp
   . rw [zcA r h1]
     have:=ih r (by simp at hs;omega)
     simp;omega
theorem zbC (u:Nat):∀ b ∈ decDigits u,48 <= b.toNat /\ b.toNat <= 57:=by
 induction u using Nat.strongRecOn with
 | _ u ih =>
   have hd:∀ k:Nat,k < 10 -> 48 <= (UInt8.ofNat (48 + k)).toNat /\ (UInt8.ofNat (48 + k)).toNat <= 57:=fun k hk=>by
    rw [UInt8.toNat_ofNat'];omega
   by_cases h:u < 10
   . rw [decDigits,dif_pos h];intro b hb;rw [List.mem_singleton] at hb;subst hb;exact hd u h
   . rw [decDigits,dif_neg h];intro b hb;rcases List.mem_append.1 hb with hb | hb
     . exact ih (u / 10) (by omega) b hb
     . rw [List.mem_singleton] at hb;subst hb;exact hd _ (by omega)
theorem zeW (n:Int):∀ b ∈ itoa n,45 <= b.toNat /\ b.toNat <= 57:=by
 intro b hb;unfold itoa at hb;split at hb
 . rcases List.mem_cons.1 hb with rfl | hb
   . decide
   . have:=zbC _ b hb;omega
 . have:=zbC _ b hb;omega
theorem zd9 (u:Nat):decDigits u ≠ []:=by
 intro e
 have:=decDigits_length u
 rw [e] at this
 have:=nDigits_pos u
 simp at *;omega
theorem zg1 (u:Nat):∀ (r:List UInt8),u < 18446744073709551616 -> parseUint10 0 (decDigits u ++ r) = parseUint10 u r:=by
 induction u using Nat.strongRecOn with
 | _ u ih =>
   intro r hu;have hd:∀ k:Nat,k < 10 -> (UInt8.ofNat (48 + k)).toNat = 48 + k:=fun k hk=>by
    rw [UInt8.toNat_ofNat'];omega
   by_cases h:u < 10
   . rw [decDigits,dif_pos h,List.singleton_append,parseUint10,hd u h,if_pos (by omega),if_neg (by omega),if_neg (by omega)];congr 1;omega
   . rw [decDigits,dif_neg h,List.append_assoc,ih (u / 10) (by omega) _ (by omega),List.singleton_append,parseUint10,hd (u % 10) (by omega),if_pos (by omega),if_neg (by omega),if_neg (by omega)];congr 1;omega
theorem zdB (u:Nat) (hu:u < 18446744073709551616):parseMag (decDigits u) = .ok u:=by
 unfold parseMag;rw [if_neg (zd9 u)]
 have:=zg1 u [] hu
 rw [List.append_nil] at this;rw [this];rfl
theorem zk8 (n:Int) (h0:-9223372036854775808 <= n) (h1:n <= 9223372036854775807):atoiAll (itoa n) = .ok n:=by
 unfold itoa;split
 . rw [atoiAll_minus,zdB _ (by omega)];unfold signed;simp only
   first | (rw [if_neg (by omega)];congr 1;omega) | (rw [if_pos (by omega)];congr 1;omega)
 . obtain ⟨c,r,e⟩:=List.exists_cons_of_ne_nil (zd9 n.toNat);have hb:=zbC n.toNat c (by rw [e];exact List.mem_cons_self);rw [e,atoiAll_plain c r (by omega) (by omega),<- e,zdB _ (by omega)];unfold signless;simp only
   first | (rw [if_neg (by omega)];congr 1;omega) | (rw [if_pos (by omega)];congr 1;omega)
def lineB (nm:List UInt8) (l:List Int):List UInt8:=nm ++ l.flatMap (fun n=>32 :: itoa n)
def zst (ls:List (List UInt8 × List Int)):List UInt8:=ls.flatMap fun x=>lineB x.1 x.2 ++ [10]
theorem zaR (a b:List (List UInt8 × List Int)):zst (a ++ b) = zst a ++ zst b:=List.flatMap_append
theorem zca (a:List UInt8 × List Int) (b:List (List UInt8 × List Int)):zst (a :: b) = (lineB a.1 a.2 ++ [10]) ++ zst b:=rfl
theorem zjI (c:UInt8) (hc:c.toNat < 32) (l:List Int):c ∉ l.flatMap (fun n=>32 :: itoa n):=by
 intro h;obtain ⟨n,-,h⟩:=List.mem_flatMap.1 h;rcases List.mem_cons.1 h with rfl | h
 . simp at hc
 . have:=zeW n c h;omega
theorem zkc {nm:List UInt8} (h:∀ b ∈ nm,97 <= b.toNat) (l:List Int):(10:UInt8) ∉ lineB nm l:=by
 intro e;rcases List.mem_append.1 e with e | e
 . have:=h 10 e;simp at this
 . exact zjI 10 (by decide) l e
theorem ziz:∀ (l:List Int) (nm:List UInt8),(32:UInt8) ∉ nm -> cut1 32 (nm ++ l.flatMap (fun n=>32 :: itoa n)) = nm :: l.map itoa
 | [],nm,h=>by simp only [List.flatMap_nil,List.append_nil,List.map_nil];exact zc0 h
 | n :: l,nm,h=>by
   rw [List.flatMap_cons,List.cons_append,zcA _ h,ziz l (itoa n) (fun e=>by have:=zeW n 32 e;simp at this)];rfl
theorem zmV {nm:List UInt8} (h:∀ b ∈ nm,97 <= b.toNat) (l:List Int):cut1 32 (lineB nm l) = nm :: l.map itoa :=
 ziz l nm (fun e=>by have:=h 32 e;simp at this)
theorem zis:∀ (ls:List (List UInt8 × List Int)),(∀ x ∈ ls,∀ b ∈ x.1,97 <= b.toNat) -> cut1 10 (zst ls) = ls.map (fun x=>lineB x.1 x.2) ++ [[]]
 | [],_=>rfl
 | x :: ls,h=>by
   rw [zca,List.append_assoc,List.singleton_append,zcA _ (zkc (h x List.mem_cons_self) x.2),zis ls (fun y hy=>h y (List.mem_cons_of_mem _ hy))];rfl
end Go.Proofs.YtiknejbcehpmoaaGreatDoor
