import Derived.Test.YtmcgnnmffeojpabGreatDoorPk3
import Derived.Test.YtmcgnnmffeojpabGreatDoorPk4
import Derived.Sort.AssemblyPlain
import Derived.Sort.WalkA
import Derived.Deep.LoopGhost
import Derived.Shelf.Abstract
import Derived.WalkSpells
import Derived.Carry
import Derived.Lib.Hide
set_option maxRecDepth 100000
set_option maxHeartbeats 8000000
namespace Go.Proofs.YtmcgnnmffeojpabGreatDoor
open Go.RowKit Go.Plan Go.Sort
variable {α:Type} [Inhabited α]
structure SIf (n:Nat) (lt:α -> α -> Bool) (g:Nat) (lb:Array Value) (sf:Nat) (sb:Array Value) (blk:Nat) (H:Array α -> World -> Prop):Prop where
 base:∃ B,(∀ d W,H d W -> B <= W.heap.size) /\ blk < B /\ ∀ d W W',H d W -> ExtM (fun k=>B <= k) W W' -> H d W'
 eg:∀ args w,(callFunc g args).run Tryz.prog w = .ok (.enter g args) w
 less:∀ (d:Array α) (W:World) (i j:Nat),d.size = n -> H d W -> i < n -> j < n -> Calls Tryz.prog g (#[.int .i64 i,.int .i64 j] ++ lb) W fun e w'=>e = .returned (.bool (lt d[i]! d[j]!)) /\ Ext W w'
 swap:∀ (d:Array α) (W:World) (i j:Nat),d.size = n -> H d W -> i < n -> j < n -> ∃ W',(callFunc sf (#[.int .i64 i,.int .i64 j] ++ sb)).run Tryz.prog W = .ok (.value (.tuple #[])) W' /\ H (swp d i j) W' /\ ExtM (fun k=>k = blk) W W'
theorem SIf.lt' {n:Nat} {lt:α -> α -> Bool} {g:Nat} {lb:Array Value} {sf:Nat} {sb:Array Value} {blk:Nat} {H:Array α -> World -> Prop} (I:SIf n lt g lb sf sb blk H) (d:Array α) (W:World) (h:H d W):blk < W.heap.size:=by
 obtain ⟨B,h1,h2,-⟩:=I.base;exact Nat.lt_of_lt_of_le h2 (h1 d W h)
theorem SIf.ext {n:Nat} {lt:α -> α -> Bool} {g:Nat} {lb:Array Value} {sf:Nat} {sb:Array Value} {blk:Nat} {H:Array α -> World -> Prop} (I:SIf n lt g lb sf sb blk H) (d:Array α) (W W':World) (h:H d W) (hx:Ext W W'):H d W':=by
 obtain ⟨B,-,-,h3⟩:=I.base;exact h3 d W W' h (ExtM.mono hx (fun _ _ h=>h.elim))
theorem zeb {n:Nat} {lt:α -> α -> Bool} {g:Nat} {lb:Array Value} {sf:Nat} {sb:Array Value} {blk:Nat} {H:Array α -> World -> Prop} (I:SIf n lt g lb sf sb blk H) (a b:Nat) (d:Array α) (w:World) (hH:H d w) (hs:d.size = n) (hab:a <= b) (hb:b <= n) (hn:n < 1000000) :
 Calls Tryz.prog 157 #[.agg #[.func (.func g) #[] lb,.func (.func sf) #[] sb],.int .i64 a,.int .i64 b] w fun e w'=>e = .returned (.tuple #[]) /\ H (insertionSort lt d a b) w' /\ ExtM (fun k=>k = blk) w w':=by
 have hbl:=I.lt' d w hH;have hx1:Ext w (w.alloc (.cells #[.func (.func g) #[] lb,.func (.func sf) #[] sb] 193)):=(ExtM.refl w).alloc _;have hH1:=I.ext d w _ hH hx1;have eg:=I.eg;go_enter Tryz.func157,Tryz.ntmps157;go_wp2;have q0:(w.alloc (.cells #[.func (.func g) #[] lb,.func (.func sf) #[] sb] 193)).cell? ⟨w.heap.size,0,none⟩ = some (.func (.func g) #[] lb):=by go_simp
 have q1:(w.alloc (.cells #[.func (.func g) #[] lb,.func (.func sf) #[] sb] 193)).cell? ⟨w.heap.size,1,none⟩ = some (.func (.func sf) #[] sb):=by go_simp
 have hN:w.heap.size < (w.alloc (.cells #[.func (.func g) #[] lb,.func (.func sf) #[] sb] 193)).heap.size:=by simp
 generalize w.alloc (.cells #[.func (.func g) #[] lb,.func (.func sf) #[] sb] 193) = W1 at *;have hcc:∀ u,ExtM (fun k=>k = blk) W1 u -> u.cell? ⟨w.heap.size,0,none⟩ = some (.func (.func g) #[] lb) /\ u.cell? ⟨w.heap.size,1,none⟩ = some (.func (.func sf) #[] sb):=fun u hu =>
  ⟨(hu.cell (p:=⟨w.heap.size,0,none⟩) hN (by simp;omega)).trans q0,(hu.cell (p:=⟨w.heap.size,1,none⟩) hN (by simp;omega)).trans q1⟩
 have HCC:=Lib.hid hcc;clear hcc q0 q1;go_loopg [6] (b + 1) (fun kx s6 wr=>∃ (i:Nat) (dk:Array α),s6 = .int .i64 (i:Int) /\ a < i /\ i <= b + 1 /\ b + 1 - i <= kx /\ dk.size = n /\ H dk wr /\ ExtM (fun k=>k = blk) W1 wr /\ insOuter lt a b i dk = insOuter lt a b (a + 1) d)
 case atStart=>exact ⟨a + 1,d,by go_num,by omega,by omega,by omega,hs,hH1,ExtM.refl _,rfl⟩
 case round =>
  obtain ⟨i,dk,rfl,hai,hib,hgk,hsk,hHk,hxk,hO⟩:=hrel;have HO:=Lib.hid hO;clear hO;by_cases hi:i < b
  . go_wp2;go_loopg [7] (i + 1) (fun kx s7 wr2=>∃ (j:Nat) (dj:Array α),s7 = .int .i64 (j:Int) /\ a <= j /\ j <= i /\ j <= kx /\ dj.size = n /\ H dj wr2 /\ ExtM (fun k=>k = blk) W1 wr2 /\ insInner lt a j dj = insInner lt a i dk)
    case atStart=>exact ⟨i,dk,rfl,by omega,Nat.le_refl _,by omega,hsk,hHk,hxk,rfl⟩
    case round =>
     obtain ⟨j,dj,rfl,haj,hji,hjk,hsj,hHj,hxj,hI⟩:=hrel;have HI:=Lib.hid hI;clear hI hHk hxk;obtain ⟨c0,c1⟩:=HCC.out _ hxj;by_cases hja:a < j
     . have hcl:=I.less dj wr j (j - 1) hsj hHj (by omega) (by omega);have hj1:((j - 1:Nat):Int) = (j:Int) - 1:=by omega
       rw [hj1] at hcl;cases hq:lt dj[j]! dj[j - 1]! with
       | true =>
         have HQ:=Lib.hid hq;rw [hq] at hcl;clear hq
         go_wp2_with (
          go_at_fn g;refine hcl.mono ?_;rintro e w2 ⟨rfl,hx2⟩;have hx2':=ExtM.trans _ _ _ hxj (hx2.mono (fun _ _ h=>h.elim):ExtM (fun k=>k = blk) _ _);obtain ⟨d0,d1⟩:=HCC.out _ hx2';obtain ⟨w3,hsw,hH3,hx3⟩:=I.swap dj w2 j (j - 1) hsj (I.ext _ _ _ hHj hx2) (by omega) (by omega)
          rw [hj1] at hsw)
         go_roundg (j - 1)
         case measure=>omega
         case rel =>
          exact ⟨j - 1,swp dj j (j - 1),by rw [hj1],by omega,by omega,Nat.le_refl _,by rw [size_swp];exact hsj,hH3,ExtM.trans _ _ _ hx2' hx3,by rw [<- HI.out,insInner_go lt a j dj hja HQ.out]⟩
       | false =>
         have HQ:=Lib.hid hq;rw [hq] at hcl;clear hq
         go_wp2_with (
          go_at_fn g;refine hcl.mono ?_;rintro e w2 ⟨rfl,hx2⟩
          have hx2':=ExtM.trans _ _ _ hxj (hx2.mono (fun _ _ h=>h.elim):ExtM (fun k=>k = blk) _ _))
         go_roundg (b + 1 - (i + 1))
         case measure=>omega
         case rel =>
          exact ⟨i + 1,dj,by go_num,by omega,by omega,Nat.le_refl _,hsj,I.ext _ _ _ hHj hx2,hx2',by rw [<- HO.out,insOuter_go _ _ _ _ _ hi,<- HI.out,insInner_stop _ _ _ _ (.inr HQ.out)]⟩
     . go_wp2;go_roundg (b + 1 - (i + 1))
       case measure=>omega
       case rel =>
        exact ⟨i + 1,dj,by go_num,by omega,by omega,Nat.le_refl _,hsj,hHj,hxj,by rw [<- HO.out,insOuter_go _ _ _ _ _ hi,<- HI.out,insInner_stop _ _ _ _ (.inl (by omega))]⟩
  . go_wp2;go_end0;refine ⟨rfl,?_,ExtM.trans _ _ _ (hx1.mono (fun _ _ h=>h.elim)) hxk⟩
    . unfold insertionSort;rw [<- HO.out,insOuter_stop _ _ _ _ _ hi];exact hHk
end Go.Proofs.YtmcgnnmffeojpabGreatDoor
