import Derived.Test.YtmcgnnmffeojpabGreatDoorPk32
import Derived.Sort.WalkB3
import Derived.Sort.WalkC4
set_option maxRecDepth 100000
set_option maxHeartbeats 8000000
namespace Go.Proofs.YtmcgnnmffeojpabGreatDoor
open Go.RowKit Go.Plan Go.Sort
variable {α:Type} [Inhabited α]
theorem zps {lt:α -> α -> Bool} {hi first root:Nat} {d:Array α} (h:hi <= 2 * root + 1):siftDown lt hi first root d = d:=by
 rw [siftDown,dif_pos h]
theorem zhO {lt:α -> α -> Bool} {hi first root:Nat} {d:Array α} (h:2 * root + 2 < hi) (hl:lt d[first + (2 * root + 1)]! d[first + (2 * root + 1) + 1]! = true) :
 siftDown lt hi first root d = if lt d[first + root]! d[first + (2 * root + 2)]! = true then siftDown lt hi first (2 * root + 2) (swp d (first + root) (first + (2 * root + 2))) else d:=by
 rw [siftDown,dif_neg (by omega),if_pos (by rw [hl];simp;omega)];by_cases h2:lt d[first + root]! d[first + (2 * root + 2)]! = true
 . rw [if_neg (by rw [h2];decide),dif_pos h,if_pos h2]
 . rw [if_pos (by simpa using h2),if_neg h2]
theorem zfz {lt:α -> α -> Bool} {hi first root:Nat} {d:Array α} (h:2 * root + 1 < hi) (hl:¬ (2 * root + 2 < hi /\ lt d[first + (2 * root + 1)]! d[first + (2 * root + 1) + 1]! = true)) :
 siftDown lt hi first root d = if lt d[first + root]! d[first + (2 * root + 1)]! = true then siftDown lt hi first (2 * root + 1) (swp d (first + root) (first + (2 * root + 1))) else d:=by
 rw [siftDown,dif_neg (by omega),if_neg (by simpa using hl)];by_cases h2:lt d[first + root]! d[first + (2 * root + 1)]! = true
 . rw [if_neg (by rw [h2];decide),if_pos h2]
 . rw [if_pos (by simpa using h2),if_neg h2]
theorem zeI {n:Nat} {lt:α -> α -> Bool} {g:Nat} {lb:Array Value} {sf:Nat} {sb:Array Value} {blk:Nat} {H:Array α -> World -> Prop} (I:SIf n lt g lb sf sb blk H) (lo hi first:Nat) (d:Array α) (w:World) (hH:H d w) (hs:d.size = n) (hlo:lo <= n) (hfh:first + hi <= n) (hn:n < 1000000) :
 Calls Tryz.prog 233 #[.agg #[.func (.func g) #[] lb,.func (.func sf) #[] sb],.int .i64 lo,.int .i64 hi,.int .i64 first] w fun e w'=>e = .returned (.tuple #[]) /\ H (siftDown lt hi first lo d) w' /\ ExtM (fun k=>k = blk) w w':=by
 have hbl:=I.lt' d w hH;have hx1:Ext w (w.alloc (.cells #[.func (.func g) #[] lb,.func (.func sf) #[] sb] 193)):=(ExtM.refl w).alloc _;have hH1:=I.ext d w _ hH hx1;have eg:=I.eg;go_enter Tryz.func233,Tryz.ntmps233;go_wp2;have q0:(w.alloc (.cells #[.func (.func g) #[] lb,.func (.func sf) #[] sb] 193)).cell? ⟨w.heap.size,0,none⟩ = some (.func (.func g) #[] lb):=by go_simp
 have q1:(w.alloc (.cells #[.func (.func g) #[] lb,.func (.func sf) #[] sb] 193)).cell? ⟨w.heap.size,1,none⟩ = some (.func (.func sf) #[] sb):=by go_simp
 have hN:w.heap.size < (w.alloc (.cells #[.func (.func g) #[] lb,.func (.func sf) #[] sb] 193)).heap.size:=by simp
 generalize w.alloc (.cells #[.func (.func g) #[] lb,.func (.func sf) #[] sb] 193) = W1 at *;have hcc:∀ u,ExtM (fun k=>k = blk) W1 u -> u.cell? ⟨w.heap.size,0,none⟩ = some (.func (.func g) #[] lb) /\ u.cell? ⟨w.heap.size,1,none⟩ = some (.func (.func sf) #[] sb):=fun u hu =>
  ⟨(hu.cell (p:=⟨w.heap.size,0,none⟩) hN (by simp;omega)).trans q0,(hu.cell (p:=⟨w.heap.size,1,none⟩) hN (by simp;omega)).trans q1⟩
 have HCC:=Lib.hid hcc;clear hcc q0 q1;go_loopg [8] (hi + n) (fun kx s8 wr=>∃ (root:Nat) (dk:Array α),s8 = .int .i64 (root:Int) /\ root <= n /\ hi + n - root <= kx /\ dk.size = n /\ H dk wr /\ ExtM (fun k=>k = blk) W1 wr /\ siftDown lt hi first root dk = siftDown lt hi first lo d)
 case atStart=>exact ⟨lo,d,rfl,hlo,by omega,hs,hH1,ExtM.refl _,rfl⟩
 case round =>
  obtain ⟨root,dk,rfl,hrn,hgk,hsk,hHk,hxk,hO⟩:=hrel;have HO:=Lib.hid hO;clear hO;obtain ⟨c0,c1⟩:=HCC.out _ hxk;by_cases h1:hi <= 2 * root + 1
  . have hz:decide ((hi:Int) <= 2 * (root:Int) + 1) = true:=by simp;omega
    go_wp2;go_end0;exact ⟨rfl,by rw [<- HO.out,zps h1];exact hHk,ExtM.trans _ _ _ (hx1.mono (fun _ _ h=>h.elim)) hxk⟩
  . have hz:decide ((hi:Int) <= 2 * (root:Int) + 1) = false:=by simp;omega
    by_cases h2:2 * root + 2 < hi
    . have hcl:=I.less dk wr (first + (2 * root + 1)) (first + (2 * root + 1) + 1) hsk hHk (by omega) (by omega);have hz2:decide (2 * (root:Int) + 1 + 1 < (hi:Int)) = true:=by simp;omega
      simp only [Int.natCast_add,Int.natCast_mul,Int.cast_ofNat_Int] at hcl;cases hq:lt dk[first + (2 * root + 1)]! dk[first + (2 * root + 1) + 1]! with
      | true =>
        have HQ:=Lib.hid hq;rw [hq] at hcl;clear hq;have hcl2:=fun u hu=>I.less dk u (first + root) (first + (2 * root + 2)) hsk (I.ext _ _ _ hHk hu) (by omega) (by omega);have hi2:((first + (2 * root + 2):Nat):Int) = (first:Int) + (2 * (root:Int) + 1 + 1):=by omega
        have hi3:((first + root:Nat):Int) = (first:Int) + (root:Int):=by omega
        rw [hi2,hi3] at hcl2;cases hq2:lt dk[first + root]! dk[first + (2 * root + 2)]! with
        | true =>
          have HQ2:=Lib.hid hq2;rw [hq2] at hcl2;clear hq2
          go_wp2_with (first
           | (go_at_fn g
              refine hcl.mono ?_;rintro e w2 ⟨rfl,hx2⟩;clear hcl;have hx2':=ExtM.trans _ _ _ hxk (hx2.mono (fun _ _ h=>h.elim):ExtM (fun k=>k = blk) _ _);have hH2:=I.ext _ _ _ hHk hx2
              obtain ⟨d0,d1⟩:=HCC.out _ hx2')
           | (go_at_fn g
              refine (hcl2 _ hx2).mono ?_;rintro e w3 ⟨rfl,hx3⟩;clear hcl2;have hx3':=ExtM.trans _ _ _ hx2' (hx3.mono (fun _ _ h=>h.elim):ExtM (fun k=>k = blk) _ _);have hH3:=I.ext _ _ _ hH2 hx3;obtain ⟨g0,g1⟩:=HCC.out _ hx3';obtain ⟨w4,hsw,hH4,hx4⟩:=I.swap dk w3 (first + root) (first + (2 * root + 2)) hsk hH3 (by omega) (by omega)
              rw [hi2,hi3] at hsw))
          go_roundg (hi + n - (2 * root + 2))
          case measure=>omega
          case rel =>
           exact ⟨(2 * root + 2),_,by go_num,by omega,Nat.le_refl _,by rw [size_swp];exact hsk,hH4,ExtM.trans _ _ _ hx3' hx4,by rw [<- HO.out,zhO h2 HQ.out,if_pos HQ2.out]⟩
        | false =>
          have HQ2:=Lib.hid hq2;rw [hq2] at hcl2;clear hq2
          go_wp2_with (first
           | (go_at_fn g
              refine hcl.mono ?_;rintro e w2 ⟨rfl,hx2⟩;clear hcl;have hx2':=ExtM.trans _ _ _ hxk (hx2.mono (fun _ _ h=>h.elim):ExtM (fun k=>k = blk) _ _);have hH2:=I.ext _ _ _ hHk hx2
              obtain ⟨d0,d1⟩:=HCC.out _ hx2')
           | (go_at_fn g
              refine (hcl2 _ hx2).mono ?_;rintro e w3 ⟨rfl,hx3⟩;clear hcl2;have hx3':=ExtM.trans _ _ _ hx2' (hx3.mono (fun _ _ h=>h.elim):ExtM (fun k=>k = blk) _ _)
              have hH3:=I.ext _ _ _ hH2 hx3))
          refine bodyPost_ret (results_none rfl _ _ _) rfl ?_;exact ⟨rfl,by rw [<- HO.out,zhO h2 HQ.out,if_neg (by rw [HQ2.out];decide)];exact hH3,ExtM.trans _ _ _ (hx1.mono (fun _ _ h=>h.elim)) hx3'⟩
      | false =>
        have HQ:=Lib.hid hq;rw [hq] at hcl;clear hq;have hcl2:=fun u hu=>I.less dk u (first + root) (first + (2 * root + 1)) hsk (I.ext _ _ _ hHk hu) (by omega) (by omega);have hi2:((first + (2 * root + 1):Nat):Int) = (first:Int) + (2 * (root:Int) + 1):=by omega
        have hi3:((first + root:Nat):Int) = (first:Int) + (root:Int):=by omega
        rw [hi2,hi3] at hcl2;cases hq2:lt dk[first + root]! dk[first + (2 * root + 1)]! with
        | true =>
          have HQ2:=Lib.hid hq2;rw [hq2] at hcl2;clear hq2
          go_wp2_with (first
           | (go_at_fn g
              refine hcl.mono ?_;rintro e w2 ⟨rfl,hx2⟩;clear hcl;have hx2':=ExtM.trans _ _ _ hxk (hx2.mono (fun _ _ h=>h.elim):ExtM (fun k=>k = blk) _ _);have hH2:=I.ext _ _ _ hHk hx2
              obtain ⟨d0,d1⟩:=HCC.out _ hx2')
           | (go_at_fn g
              refine (hcl2 _ hx2).mono ?_;rintro e w3 ⟨rfl,hx3⟩;clear hcl2;have hx3':=ExtM.trans _ _ _ hx2' (hx3.mono (fun _ _ h=>h.elim):ExtM (fun k=>k = blk) _ _);have hH3:=I.ext _ _ _ hH2 hx3;obtain ⟨g0,g1⟩:=HCC.out _ hx3';obtain ⟨w4,hsw,hH4,hx4⟩:=I.swap dk w3 (first + root) (first + (2 * root + 1)) hsk hH3 (by omega) (by omega)
              rw [hi2,hi3] at hsw))
          go_roundg (hi + n - (2 * root + 1))
          case measure=>omega
          case rel =>
           exact ⟨(2 * root + 1),_,by go_num,by omega,Nat.le_refl _,by rw [size_swp];exact hsk,hH4,ExtM.trans _ _ _ hx3' hx4,by rw [<- HO.out,zfz (show 2 * root + 1 < hi by omega) (fun h=>by rw [HQ.out] at h;exact absurd h.2 (by decide)),if_pos HQ2.out]⟩
        | false =>
          have HQ2:=Lib.hid hq2;rw [hq2] at hcl2;clear hq2
          go_wp2_with (first
           | (go_at_fn g
              refine hcl.mono ?_;rintro e w2 ⟨rfl,hx2⟩;clear hcl;have hx2':=ExtM.trans _ _ _ hxk (hx2.mono (fun _ _ h=>h.elim):ExtM (fun k=>k = blk) _ _);have hH2:=I.ext _ _ _ hHk hx2
              obtain ⟨d0,d1⟩:=HCC.out _ hx2')
           | (go_at_fn g
              refine (hcl2 _ hx2).mono ?_;rintro e w3 ⟨rfl,hx3⟩;clear hcl2;have hx3':=ExtM.trans _ _ _ hx2' (hx3.mono (fun _ _ h=>h.elim):ExtM (fun k=>k = blk) _ _)
              have hH3:=I.ext _ _ _ hH2 hx3))
          refine bodyPost_ret (results_none rfl _ _ _) rfl ?_;exact ⟨rfl,by rw [<- HO.out,zfz (show 2 * root + 1 < hi by omega) (fun h=>by rw [HQ.out] at h;exact absurd h.2 (by decide)),if_neg (by rw [HQ2.out];decide)];exact hH3,ExtM.trans _ _ _ (hx1.mono (fun _ _ h=>h.elim)) hx3'⟩
    . have hz2:decide (2 * (root:Int) + 1 + 1 < (hi:Int)) = false:=by simp;omega
      have hcl2:=fun u hu=>I.less dk u (first + root) (first + (2 * root + 1)) hsk (I.ext _ _ _ hHk hu) (by omega) (by omega);have hi2:((first + (2 * root + 1):Nat):Int) = (first:Int) + (2 * (root:Int) + 1):=by omega
      have hi3:((first + root:Nat):Int) = (first:Int) + (root:Int):=by omega
      rw [hi2,hi3] at hcl2;cases hq2:lt dk[first + root]! dk[first + (2 * root + 1)]! with
      | true =>
        have HQ2:=Lib.hid hq2;rw [hq2] at hcl2;clear hq2
        go_wp2_with (first
         | (go_at_fn g
            refine (hcl2 _ (ExtM.refl _)).mono ?_;rintro e w3 ⟨rfl,hx3⟩;clear hcl2;have hx3':=ExtM.trans _ _ _ hxk (hx3.mono (fun _ _ h=>h.elim):ExtM (fun k=>k = blk) _ _);have hH3:=I.ext _ _ _ hHk hx3;obtain ⟨g0,g1⟩:=HCC.out _ hx3';obtain ⟨w4,hsw,hH4,hx4⟩:=I.swap dk w3 (first + root) (first + (2 * root + 1)) hsk hH3 (by omega) (by omega)
            rw [hi2,hi3] at hsw))
        go_roundg (hi + n - (2 * root + 1))
        case measure=>omega
        case rel =>
         exact ⟨(2 * root + 1),_,by go_num,by omega,Nat.le_refl _,by rw [size_swp];exact hsk,hH4,ExtM.trans _ _ _ hx3' hx4,by rw [<- HO.out,zfz (show 2 * root + 1 < hi by omega) (fun h=>h2 h.1),if_pos HQ2.out]⟩
      | false =>
        have HQ2:=Lib.hid hq2;rw [hq2] at hcl2;clear hq2
        go_wp2_with (first
         | (go_at_fn g
            refine (hcl2 _ (ExtM.refl _)).mono ?_;rintro e w3 ⟨rfl,hx3⟩;clear hcl2;have hx3':=ExtM.trans _ _ _ hxk (hx3.mono (fun _ _ h=>h.elim):ExtM (fun k=>k = blk) _ _)
            have hH3:=I.ext _ _ _ hHk hx3))
        refine bodyPost_ret (results_none rfl _ _ _) rfl ?_;exact ⟨rfl,by rw [<- HO.out,zfz (show 2 * root + 1 < hi by omega) (fun h=>h2 h.1),if_neg (by rw [HQ2.out];decide)];exact hH3,ExtM.trans _ _ _ (hx1.mono (fun _ _ h=>h.elim)) hx3'⟩
variable {α:Type} [Inhabited α]
theorem zae {blk:Nat} {w w':World} (h:Ext w w'):ExtM (fun k=>k = blk) w w':=h.mono (fun _ _ h=>h.elim)
theorem zjl {n:Nat} {lt:α -> α -> Bool} {g:Nat} {lb:Array Value} {sf:Nat} {sb:Array Value} {blk:Nat} {H:Array α -> World -> Prop} (I:SIf n lt g lb sf sb blk H) (a b:Nat) (d:Array α) (w:World) (hH:H d w) (hs:d.size = n) (hab:a <= b) (hb:b <= n) (hn:n < 1000000) :
 Calls Tryz.prog 198 #[.agg #[.func (.func g) #[] lb,.func (.func sf) #[] sb],.int .i64 a,.int .i64 b] w fun e w'=>e = .returned (.tuple #[]) /\ H (heapSort lt d a b) w' /\ ExtM (fun k=>k = blk) w w':=by
 have ecast:((b - a:Nat):Int) = (b:Int) - (a:Int):=by omega
 have HEC:=Lib.hid ecast;clear ecast;have hbl:=I.lt' d w hH;have hx1:Ext w (w.alloc (.cells #[.func (.func g) #[] lb,.func (.func sf) #[] sb] 193)):=(ExtM.refl w).alloc _;have hH1:=I.ext d w _ hH hx1;have eg:=I.eg;go_enter Tryz.func198,Tryz.ntmps198;go_wp2;have q0:(w.alloc (.cells #[.func (.func g) #[] lb,.func (.func sf) #[] sb] 193)).cell? ⟨w.heap.size,0,none⟩ = some (.func (.func g) #[] lb):=by go_simp
 have q1:(w.alloc (.cells #[.func (.func g) #[] lb,.func (.func sf) #[] sb] 193)).cell? ⟨w.heap.size,1,none⟩ = some (.func (.func sf) #[] sb):=by go_simp
 have hN:w.heap.size < (w.alloc (.cells #[.func (.func g) #[] lb,.func (.func sf) #[] sb] 193)).heap.size:=by simp
 generalize w.alloc (.cells #[.func (.func g) #[] lb,.func (.func sf) #[] sb] 193) = W1 at *;have hcc:∀ u,ExtM (fun k=>k = blk) W1 u -> u.cell? ⟨w.heap.size,0,none⟩ = some (.func (.func g) #[] lb) /\ u.cell? ⟨w.heap.size,1,none⟩ = some (.func (.func sf) #[] sb):=fun u hu =>
  ⟨(hu.cell (p:=⟨w.heap.size,0,none⟩) hN (by simp;omega)).trans q0,(hu.cell (p:=⟨w.heap.size,1,none⟩) hN (by simp;omega)).trans q1⟩
 have HCC:=Lib.hid hcc;clear hcc q0 q1;go_loopg [9] ((b - a - 1) / 2 + 1) (fun k s9 wr=>s9 = .int .i64 ((k:Int) - 1) /\ k <= (b - a - 1) / 2 + 1 /\ ∃ (dk:Array α),dk.size = n /\ H dk wr /\ ExtM (fun k=>k = blk) W1 wr /\ Hid (heapBuild lt (b - a) a k dk = heapBuild lt (b - a) a ((b - a - 1) / 2 + 1) d))
 case atStart=>exact ⟨by rw [half_start hab],Nat.le_refl _,d,hs,hH1,ExtM.refl _,rfl⟩
 case round =>
  obtain ⟨rfl,hkk,dk,hds,hHk,hxk,HE⟩:=hrel;obtain ⟨c0,c1⟩:=HCC.out _ hxk;cases gk with
  | zero =>
    have HB:Hid (dk = heapBuild lt (b - a) a ((b - a - 1) / 2 + 1) d):=HE.out;clear HE hkk;go_wp2;go_loopg [10] (b - a) (fun k s10 wr2=>s10 = .int .i64 ((k:Int) - 1) /\ k <= b - a /\ ∃ (dj:Array α),dj.size = n /\ H dj wr2 /\ ExtM (fun k=>k = blk) W1 wr2 /\ Hid (heapPop lt a k dj = heapPop lt a (b - a) dk))
    case atStart=>exact ⟨by rw [HEC.out],Nat.le_refl _,dk,hds,hHk,hxk,rfl⟩
    case round =>
     clear hHk hxk c0 c1;obtain ⟨rfl,hkk,dj,hdj,hHj,hxj,HE2⟩:=hrel;obtain ⟨c0,c1⟩:=HCC.out _ hxj;cases gk with
     | zero =>
       go_wp2;go_end0;have e:dj = heapSort lt d a b:=by rw [heapSort,<- HB.out,<- HE2.out];rfl
       rw [<- e];exact ⟨rfl,hHj,ExtM.trans _ _ _ (zae hx1) hxj⟩
     | succ k =>
       obtain ⟨w2,hsw,hH2,hx2⟩:=I.swap dj wr a (a + k) hdj hHj (by omega) (by omega);rw [show ((a + k:Nat):Int) = (a:Int) + (k:Int) by omega] at hsw;have hx2':=ExtM.trans _ _ _ hxj hx2;obtain ⟨d0,d1⟩:=HCC.out _ hx2';have hd2:(swp dj a (a + k)).size = n:=by rw [size_swp];exact hdj
       have hcall:=zeI I 0 k a (swp dj a (a + k)) w2 hH2 hd2 (by omega) (by omega) hn;go_wp2_with (go_at_call 233;refine hcall.mono ?_;rintro e w3 ⟨rfl,hH3,hx3⟩);go_roundg k
       case measure=>omega
       case rel =>
        have hss:(siftDown lt k a 0 (swp dj a (a + k))).size = (swp dj a (a + k)).size:=size_siftDown lt _ _ _ _ _ (Nat.le_refl _);exact ⟨by simp,by omega,siftDown lt k a 0 (swp dj a (a + k)),by rw [hss,hd2],hH3,ExtM.trans _ _ _ hx2' hx3,HE2⟩
  | succ k =>
    have hcall:=zeI I k (b - a) a dk wr hHk hds (by omega) (by omega) hn;rw [HEC.out] at hcall;go_wp2_with (go_at_call 233;refine hcall.mono ?_;rintro e w3 ⟨rfl,hH3,hx3⟩);go_roundg k
    case measure=>omega
    case rel =>
     have hss:(siftDown lt (b - a) a k dk).size = dk.size:=size_siftDown lt _ _ _ _ _ (Nat.le_refl _);exact ⟨by simp,by omega,siftDown lt (b - a) a k dk,by rw [hss,hds],hH3,ExtM.trans _ _ _ hxk hx3,HE⟩
theorem ze3 {n:Nat} {lt:α -> α -> Bool} {g:Nat} {lb:Array Value} {sf:Nat} {sb:Array Value} {blk:Nat} {H:Array α -> World -> Prop} (I:SIf n lt g lb sf sb blk H) (a b:Nat) (d:Array α) (w:World) (hH:H d w) (hs:d.size = n) (hab:a <= b) (hb:b <= n) (hn:n < 1000000) :
 Calls Tryz.prog 201 #[.agg #[.func (.func g) #[] lb,.func (.func sf) #[] sb],.int .i64 a,.int .i64 b] w fun e w'=>e = .returned (.tuple #[]) /\ H (reverseRange d a b) w' /\ ExtM (fun k=>k = blk) w w':=by
 have hbl:=I.lt' d w hH;have hx1:Ext w (w.alloc (.cells #[.func (.func g) #[] lb,.func (.func sf) #[] sb] 193)):=(ExtM.refl w).alloc _;have hH1:=I.ext d w _ hH hx1;have eg:=I.eg;go_enter Tryz.func201,Tryz.ntmps201;go_wp2;have q0:(w.alloc (.cells #[.func (.func g) #[] lb,.func (.func sf) #[] sb] 193)).cell? ⟨w.heap.size,0,none⟩ = some (.func (.func g) #[] lb):=by go_simp
 have q1:(w.alloc (.cells #[.func (.func g) #[] lb,.func (.func sf) #[] sb] 193)).cell? ⟨w.heap.size,1,none⟩ = some (.func (.func sf) #[] sb):=by go_simp
 have hN:w.heap.size < (w.alloc (.cells #[.func (.func g) #[] lb,.func (.func sf) #[] sb] 193)).heap.size:=by simp
 generalize w.alloc (.cells #[.func (.func g) #[] lb,.func (.func sf) #[] sb] 193) = W1 at *;have hcc:∀ u,ExtM (fun k=>k = blk) W1 u -> u.cell? ⟨w.heap.size,0,none⟩ = some (.func (.func g) #[] lb) /\ u.cell? ⟨w.heap.size,1,none⟩ = some (.func (.func sf) #[] sb):=fun u hu =>
  ⟨(hu.cell (p:=⟨w.heap.size,0,none⟩) hN (by simp;omega)).trans q0,(hu.cell (p:=⟨w.heap.size,1,none⟩) hN (by simp;omega)).trans q1⟩
 have HCC:=Lib.hid hcc;clear hcc q0 q1
 go_loopg [6,7] (b - a) (fun k s6 s7 wr=>∃ (i jn:Nat) (jz:Int) (dk:Array α),s6 = .int .i64 i /\ s7 = .int .i64 jz /\ ((i:Int) < jz -> jz = jn /\ jn < n) /\ (¬ (i:Int) < jz -> ¬ i < jn) /\ jn - i <= k /\
  dk.size = n /\ H dk wr /\ ExtM (fun k=>k = blk) W1 wr /\ Hid (reverseLoop i jn dk = reverseLoop a (b - 1) d))
 case atStart=>exact ⟨a,b - 1,(b:Int) - 1,d,rfl,rfl,fun h=>⟨by omega,by omega⟩,fun h=>by omega,by omega,hs,hH1,ExtM.refl _,rfl⟩
 case round =>
  obtain ⟨i,jn,jz,dk,rfl,rfl,h1,h2,hk,hds,hHk,hxk,HE⟩:=hrel;obtain ⟨c0,c1⟩:=HCC.out _ hxk;by_cases hlt:(i:Int) < jz
  . obtain ⟨rfl,hjn⟩:=h1 hlt;have hij:i < jn:=by omega
    clear h1 h2;obtain ⟨w2,hsw,hH2,hx2⟩:=I.swap dk wr i jn hds hHk (by omega) (by omega);go_wp2;go_roundg (jn - 1 - (i + 1))
    case measure=>omega
    case rel =>
     exact ⟨i + 1,jn - 1,(jn:Int) - 1,swp dk i jn,by simp,rfl,fun h=>⟨by omega,by omega⟩,fun h=>by omega,Nat.le_refl _,by rw [size_swp];exact hds,hH2,ExtM.trans _ _ _ hxk hx2,
      (show Hid _ from by have:=HE.out;rw [reverseLoop,if_pos hij] at this;exact this)⟩
  . have hnot:=h2 hlt;clear h1 h2;go_wp2;go_end0;refine ⟨rfl,?_,ExtM.trans _ _ _ (zae hx1) hxk⟩
    have:=HE.out
    rw [reverseLoop,if_neg hnot] at this;rw [reverseRange,<- this];exact hHk
variable {α:Type} [Inhabited α]
theorem zlD {n:Nat} {lt:α -> α -> Bool} {g:Nat} {lb:Array Value} {sf:Nat} {sb:Array Value} {blk:Nat} {H:Array α -> World -> Prop} (I:SIf n lt g lb sf sb blk H) (a b pivot:Nat) (d:Array α) (w:World) (hH:H d w) (hs:d.size = n) (hap:a <= pivot) (hpb:pivot < b) (hb:b <= n) (hn:n < 1000000) :
 Calls Tryz.prog 203 #[.agg #[.func (.func g) #[] lb,.func (.func sf) #[] sb],.int .i64 a,.int .i64 b,.int .i64 pivot] w fun e w'=>e = .returned (.int .i64 (partitionEqual lt d a b pivot).1) /\ H (partitionEqual lt d a b pivot).2 w' /\ ExtM (fun k=>k = blk) w w':=by
 have hbl:=I.lt' d w hH;have hx1:Ext w (w.alloc (.cells #[.func (.func g) #[] lb,.func (.func sf) #[] sb] 193)):=(ExtM.refl w).alloc _;have hH1:=I.ext d w _ hH hx1;have eg:=I.eg;have hN:w.heap.size < (w.alloc (.cells #[.func (.func g) #[] lb,.func (.func sf) #[] sb] 193)).heap.size:=by simp
 have HCC:Hid (∀ u,ExtM (fun k=>k = blk) (w.alloc (.cells #[.func (.func g) #[] lb,.func (.func sf) #[] sb] 193)) u -> u.cell? ⟨w.heap.size,0,none⟩ = some (.func (.func g) #[] lb) /\ u.cell? ⟨w.heap.size,1,none⟩ = some (.func (.func sf) #[] sb)):=Lib.hid fun u hu =>
  ⟨(hu.cell (p:=⟨w.heap.size,0,none⟩) hN (by simp;omega)).trans (by go_simp),(hu.cell (p:=⟨w.heap.size,1,none⟩) hN (by simp;omega)).trans (by go_simp)⟩
 clear hN;obtain ⟨c0,c1⟩:=HCC.out _ (ExtM.refl _);obtain ⟨w2,hsw0,hHw2,hxw2⟩:=I.swap d _ a pivot hs hH1 (by omega) (by omega);go_enter Tryz.func203,Tryz.ntmps203;go_wp2;clear hsw0 c0 c1;go_loopg [9,10] b (fun gk vi vj wr=>∃ (i j:Nat) (dk:Array α),vi = .int .i64 i /\ vj = .int .i64 j /\ a < i /\ i <= j + 1 /\ j < b /\ j + 1 - i <= gk /\ dk.size = n /\ H dk wr /\ ExtM (fun k=>k = blk) (w.alloc (.cells #[.func (.func g) #[] lb,.func (.func sf) #[] sb] 193)) wr /\ Hid (partEqLoop lt a i j dk = partEqLoop lt a (a + 1) (b - 1) (swp d a pivot)))
 case atStart=>exact ⟨a + 1,b - 1,swp d a pivot,by go_num,by go_num,by omega,by omega,by omega,by omega,by rw [size_swp];exact hs,hHw2,hxw2,rfl⟩
 case round =>
  clear hHw2 hxw2 hH1;obtain ⟨i,j,dk,rfl,rfl,hai,hij,hjb,hgk,hsk,hHk,hxk,HE⟩:=hrel;obtain ⟨c0,c1⟩:=HCC.out _ hxk;go_wp2;go_loopg [9] (j + 1) (fun g2 vi w1=>∃ (i':Nat),vi = .int .i64 i' /\ i <= i' /\ i' <= j + 1 /\ j + 1 - i' <= g2 /\ H dk w1 /\ ExtM (fun k=>k = blk) (w.alloc (.cells #[.func (.func g) #[] lb,.func (.func sf) #[] sb] 193)) w1 /\ Hid (scanUp (fun x=>!lt dk[a]! x) dk j i' = scanUp (fun x=>!lt dk[a]! x) dk j i))
  case atStart=>exact ⟨i,rfl,Nat.le_refl _,hij,by omega,hHk,hxk,rfl⟩
  case round =>
   clear hHk hxk c0 c1;obtain ⟨i',rfl,hii,hij',hgi,hHi,hxi,hsc⟩:=hrel;obtain ⟨c0,c1⟩:=HCC.out _ hxi;by_cases hle:i' <= j
   . have hl:=I.less dk wr a i' hsk hHi (by omega) (by omega);cases hlv:lt dk[a]! dk[i']! with
     | false =>
       rw [hlv] at hl;have HQ:=Lib.hid hlv;clear hlv
       go_wp2_with (
        go_at_fn g;refine hl.mono ?_;rintro e w3 ⟨rfl,hyw3⟩;have hxw3:=ExtM.trans _ _ _ hxi (zae hyw3);have hHw3:=I.ext _ _ _ hHi hyw3;obtain ⟨c0w3,c1w3⟩:=HCC.out _ hxw3
        skip)
       go_roundg (j + 1 - (i' + 1))
       case measure=>omega
       case rel=>exact ⟨i' + 1,by go_num,by omega,by omega,Nat.le_refl _,hHw3,hxw3,(scanUp_go (fun x=>!lt dk[a]! x) dk j i' hle (by simp [HQ.out])).symm.trans hsc.out⟩
     | true =>
       rw [hlv] at hl;have hi2:Hid (i' = scanUp (fun x=>!lt dk[a]! x) dk j i):=(scanUp_end (fun x=>!lt dk[a]! x) dk j i' (Or.inr (by simp [hlv]))).symm.trans hsc.out;clear hlv hsc
       go_wp2_with (
        go_at_fn g;refine hl.mono ?_;rintro e w3 ⟨rfl,hyw3⟩;have hxw3:=ExtM.trans _ _ _ hxi (zae hyw3);have hHw3:=I.ext _ _ _ hHi hyw3;obtain ⟨c0w3,c1w3⟩:=HCC.out _ hxw3
        skip)
       go_loopg [10] (j) (fun g3 vj w2=>∃ (j':Nat),vj = .int .i64 j' /\ j' <= j /\ i' <= j' + 1 /\ j' <= g3 /\ H dk w2 /\ ExtM (fun k=>k = blk) (w.alloc (.cells #[.func (.func g) #[] lb,.func (.func sf) #[] sb] 193)) w2 /\ Hid (scanDown (fun x=>lt dk[a]! x) dk i' j' = scanDown (fun x=>lt dk[a]! x) dk i' j))
       case atStart=>exact ⟨j,rfl,Nat.le_refl _,by omega,Nat.le_refl _,hHw3,hxw3,rfl⟩
       case round =>
        clear hHw3 hxw3 hyw3 c0w3 c1w3 hl hHi hxi c0 c1;obtain ⟨j',rfl,hjj,hij2,hgj,hHj,hxj,hsd⟩:=hrel;obtain ⟨d0,d1⟩:=HCC.out _ hxj;by_cases hle2:i' <= j'
        ·
         have hl:=I.less dk wr a j' hsk hHj (by omega) (by omega);cases hlv2:lt dk[a]! dk[j']! with
         | true =>
           rw [hlv2] at hl;have HQ2:=Lib.hid hlv2;clear hlv2
           go_wp2_with (
            go_at_fn g;refine hl.mono ?_;rintro e w4 ⟨rfl,hyw4⟩;have hxw4:=ExtM.trans _ _ _ hxj (zae hyw4);have hHw4:=I.ext _ _ _ hHj hyw4;obtain ⟨c0w4,c1w4⟩:=HCC.out _ hxw4
            skip)
           go_roundg (j' - 1)
           case measure=>omega
           case rel=>exact ⟨j' - 1,by go_num,by omega,by omega,Nat.le_refl _,hHw4,hxw4,(scanDown_go (fun x=>lt dk[a]! x) dk i' j' hle2 (by omega) HQ2.out).symm.trans hsd.out⟩
         | false =>
           rw [hlv2] at hl;have hj2:Hid (j' = scanDown (fun x=>lt dk[a]! x) dk i' j):=(scanDown_end (fun x=>lt dk[a]! x) dk i' j' (Or.inr hlv2)).symm.trans hsd.out;have hlt3:=scans_lt lt a i j dk (by omega) hi2.out hj2.out hle2;clear hlv2
           go_wp2_with (
            go_at_fn g;refine hl.mono ?_;rintro e w4 ⟨rfl,hyw4⟩;have hxw4:=ExtM.trans _ _ _ hxj (zae hyw4);have hHw4:=I.ext _ _ _ hHj hyw4;obtain ⟨c0w4,c1w4⟩:=HCC.out _ hxw4
            obtain ⟨w5,hsw5,hHw5,hyw5⟩:=I.swap dk w4 i' j' hsk hHw4 (by omega) (by omega))
           go_roundg (j' - 1 + 1 - (i' + 1))
           case measure=>omega
           case rel=>exact ⟨i' + 1,j' - 1,swp dk i' j',by go_num,by go_num,by omega,by omega,by omega,Nat.le_refl _,by rw [size_swp];exact hsk,hHw5,ExtM.trans _ _ _ hxw4 hyw5,(show Hid _ from by rw [<- HE.out];exact (partEq_go lt a i j dk hi2.out hj2.out (by omega)).symm)⟩
        . have hj2:Hid (j' = scanDown (fun x=>lt dk[a]! x) dk i' j):=(scanDown_end (fun x=>lt dk[a]! x) dk i' j' (Or.inl hle2)).symm.trans hsd.out;clear hsd;go_wp2;go_ret;have e:=partEq_break lt a i j dk hi2.out hj2.out (by omega);unfold partitionEqual;rw [<- HE.out,e];exact ⟨rfl,hHj,ExtM.trans _ _ _ (zae hx1) hxj⟩
   . have hi2:Hid (i' = scanUp (fun x=>!lt dk[a]! x) dk j i):=(scanUp_end (fun x=>!lt dk[a]! x) dk j i' (Or.inl hle)).symm.trans hsc.out;clear hsc;go_wp2;go_loopg [10] (j) (fun g3 vj w2=>∃ (j':Nat),vj = .int .i64 j' /\ j' <= j /\ i' <= j' + 1 /\ j' <= g3 /\ H dk w2 /\ ExtM (fun k=>k = blk) (w.alloc (.cells #[.func (.func g) #[] lb,.func (.func sf) #[] sb] 193)) w2 /\ Hid (scanDown (fun x=>lt dk[a]! x) dk i' j' = scanDown (fun x=>lt dk[a]! x) dk i' j))
     case atStart=>exact ⟨j,rfl,Nat.le_refl _,by omega,Nat.le_refl _,hHi,hxi,rfl⟩
     case round =>
      clear hHi hxi c0 c1;obtain ⟨j',rfl,hjj,hij2,hgj,hHj,hxj,hsd⟩:=hrel;obtain ⟨d0,d1⟩:=HCC.out _ hxj;by_cases hle2:i' <= j'
      ·
       exfalso;omega
      . have hj2:Hid (j' = scanDown (fun x=>lt dk[a]! x) dk i' j):=(scanDown_end (fun x=>lt dk[a]! x) dk i' j' (Or.inl hle2)).symm.trans hsd.out;clear hsd;go_wp2;go_ret;have e:=partEq_break lt a i j dk hi2.out hj2.out (by omega);unfold partitionEqual;rw [<- HE.out,e];exact ⟨rfl,hHj,ExtM.trans _ _ _ (zae hx1) hxj⟩
theorem zho {n:Nat} {lt:α -> α -> Bool} {g:Nat} {lb:Array Value} {sf:Nat} {sb:Array Value} {blk:Nat} {H:Array α -> World -> Prop} (I:SIf n lt g lb sf sb blk H) (a b pivot:Nat) (d:Array α) (w:World) (hH:H d w) (hs:d.size = n) (hap:a <= pivot) (hpb:pivot < b) (hb:b <= n) (hn:n < 1000000) :
 Calls Tryz.prog 204 #[.agg #[.func (.func g) #[] lb,.func (.func sf) #[] sb],.int .i64 a,.int .i64 b,.int .i64 pivot] w fun e w'=>e = .returned (.tuple #[.int .i64 (partition lt d a b pivot).1,.bool (partition lt d a b pivot).2.1]) /\ H (partition lt d a b pivot).2.2 w' /\ ExtM (fun k=>k = blk) w w':=by
 have hbl:=I.lt' d w hH;have hx1:Ext w (w.alloc (.cells #[.func (.func g) #[] lb,.func (.func sf) #[] sb] 193)):=(ExtM.refl w).alloc _;have hH1:=I.ext d w _ hH hx1;have eg:=I.eg;have hN:w.heap.size < (w.alloc (.cells #[.func (.func g) #[] lb,.func (.func sf) #[] sb] 193)).heap.size:=by simp
 have HCC:Hid (∀ u,ExtM (fun k=>k = blk) (w.alloc (.cells #[.func (.func g) #[] lb,.func (.func sf) #[] sb] 193)) u -> u.cell? ⟨w.heap.size,0,none⟩ = some (.func (.func g) #[] lb) /\ u.cell? ⟨w.heap.size,1,none⟩ = some (.func (.func sf) #[] sb)):=Lib.hid fun u hu =>
  ⟨(hu.cell (p:=⟨w.heap.size,0,none⟩) hN (by simp;omega)).trans (by go_simp),(hu.cell (p:=⟨w.heap.size,1,none⟩) hN (by simp;omega)).trans (by go_simp)⟩
 clear hN;obtain ⟨c0,c1⟩:=HCC.out _ (ExtM.refl _);obtain ⟨w2,hsw0,hHk,hxk⟩:=I.swap d _ a pivot hs hH1 (by omega) (by omega);obtain ⟨i,hi⟩:∃ i:Nat,i = a + 1:=⟨_,rfl⟩
 obtain ⟨j,hj⟩:∃ j:Nat,j = b - 1:=⟨_,rfl⟩
 obtain ⟨dk,hdk⟩:∃ dk:Array α,dk = swp d a pivot:=⟨_,rfl⟩
 have hsk:dk.size = n:=by rw [hdk,size_swp];exact hs
 have hai:a < i:=by omega
 have hij:i <= j + 1:=by omega
 have hjb:j < b:=by omega
 have Hi:=Lib.hid hi;have Hj:=Lib.hid hj;have Hdk:=Lib.hid hdk;rw [<- hdk] at hHk;clear hi hj hdk;go_enter Tryz.func204,Tryz.ntmps204;go_wp2;clear hsw0 c0 c1 hH1;obtain ⟨c0,c1⟩:=HCC.out _ hxk;rw [show ((a:Int) + 1) = (i:Int) by have:=Hi.out;omega,show ((b:Int) - 1) = (j:Int) by have:=Hj.out;omega];go_loopg [10] (j + 1) (fun g2 vi w1=>∃ (i':Nat),vi = .int .i64 i' /\ i <= i' /\ i' <= j + 1 /\ j + 1 - i' <= g2 /\ H dk w1 /\ ExtM (fun k=>k = blk) (w.alloc (.cells #[.func (.func g) #[] lb,.func (.func sf) #[] sb] 193)) w1 /\ Hid (scanUp (fun x=>lt x dk[a]!) dk j i' = scanUp (fun x=>lt x dk[a]!) dk j i))
 case atStart=>exact ⟨i,rfl,Nat.le_refl _,hij,by omega,hHk,hxk,rfl⟩
 case round =>
  clear hHk hxk c0 c1;obtain ⟨i',rfl,hii,hij',hgi,hHi,hxi,hsc⟩:=hrel;obtain ⟨c0,c1⟩:=HCC.out _ hxi;by_cases hle:i' <= j
  . have hl:=I.less dk wr i' a hsk hHi (by omega) (by omega);cases hlv:lt dk[i']! dk[a]! with
    | true =>
      rw [hlv] at hl;have HQ:=Lib.hid hlv;clear hlv
      go_wp2_with (
       go_at_fn g;refine hl.mono ?_;rintro e w3 ⟨rfl,hyw3⟩;have hxw3:=ExtM.trans _ _ _ hxi (zae hyw3);have hHw3:=I.ext _ _ _ hHi hyw3;obtain ⟨c0w3,c1w3⟩:=HCC.out _ hxw3
       skip)
      go_roundg (j + 1 - (i' + 1))
      case measure=>omega
      case rel=>exact ⟨i' + 1,by go_num,by omega,by omega,Nat.le_refl _,hHw3,hxw3,(scanUp_go (fun x=>lt x dk[a]!) dk j i' hle HQ.out).symm.trans hsc.out⟩
    | false =>
      rw [hlv] at hl;have hi2:Hid (i' = scanUp (fun x=>lt x dk[a]!) dk j i):=(scanUp_end (fun x=>lt x dk[a]!) dk j i' (Or.inr hlv)).symm.trans hsc.out;clear hlv hsc
      go_wp2_with (
       go_at_fn g;refine hl.mono ?_;rintro e w3 ⟨rfl,hyw3⟩;have hxw3:=ExtM.trans _ _ _ hxi (zae hyw3);have hHw3:=I.ext _ _ _ hHi hyw3;obtain ⟨c0w3,c1w3⟩:=HCC.out _ hxw3
       skip)
      go_loopg [11] (j) (fun g3 vj w2=>∃ (j':Nat),vj = .int .i64 j' /\ j' <= j /\ i' <= j' + 1 /\ j' <= g3 /\ H dk w2 /\ ExtM (fun k=>k = blk) (w.alloc (.cells #[.func (.func g) #[] lb,.func (.func sf) #[] sb] 193)) w2 /\ Hid (scanDown (fun x=>!lt x dk[a]!) dk i' j' = scanDown (fun x=>!lt x dk[a]!) dk i' j))
      case atStart=>exact ⟨j,rfl,Nat.le_refl _,by omega,Nat.le_refl _,hHw3,hxw3,rfl⟩
      case round =>
       clear hHw3 hxw3 hyw3 c0w3 c1w3 hl hHi hxi c0 c1;obtain ⟨j',rfl,hjj,hij2,hgj,hHj,hxj,hsd⟩:=hrel;obtain ⟨d0,d1⟩:=HCC.out _ hxj;by_cases hle2:i' <= j'
       ·
        have hl:=I.less dk wr j' a hsk hHj (by omega) (by omega);cases hlv2:lt dk[j']! dk[a]! with
        | false =>
          rw [hlv2] at hl;have HQ2:=Lib.hid hlv2;clear hlv2
          go_wp2_with (
           go_at_fn g;refine hl.mono ?_;rintro e w4 ⟨rfl,hyw4⟩;have hxw4:=ExtM.trans _ _ _ hxj (zae hyw4);have hHw4:=I.ext _ _ _ hHj hyw4;obtain ⟨c0w4,c1w4⟩:=HCC.out _ hxw4
           skip)
          go_roundg (j' - 1)
          case measure=>omega
          case rel=>exact ⟨j' - 1,by go_num,by omega,by omega,Nat.le_refl _,hHw4,hxw4,(scanDown_go (fun x=>!lt x dk[a]!) dk i' j' hle2 (by omega) (by simp [HQ2.out])).symm.trans hsd.out⟩
        | true =>
          rw [hlv2] at hl;have hj2:Hid (j' = scanDown (fun x=>!lt x dk[a]!) dk i' j):=(scanDown_end (fun x=>!lt x dk[a]!) dk i' j' (Or.inr (by simp [hlv2]))).symm.trans hsd.out;have hlt3:=part_scans_lt lt a i j dk (by omega) hi2.out hj2.out hle2;clear hlv2
          go_wp2_with (
           go_at_fn g;refine hl.mono ?_;rintro e w4 ⟨rfl,hyw4⟩;have hxw4:=ExtM.trans _ _ _ hxj (zae hyw4);have hHw4:=I.ext _ _ _ hHj hyw4;obtain ⟨c0w4,c1w4⟩:=HCC.out _ hxw4
           obtain ⟨w5,hsw5,hHw5,hyw5⟩:=I.swap dk w4 i' j' hsk hHw4 (by omega) (by omega))
          rw [decide_eq_false (show ¬ j' < i' by omega)];have PF:Hid (partition lt d a b pivot = ((partLoop lt a (i' + 1) (j' - 1) (swp dk i' j')).1,false,swp (partLoop lt a (i' + 1) (j' - 1) (swp dk i' j')).2 (partLoop lt a (i' + 1) (j' - 1) (swp dk i' j')).1 a)) :=
           part_first_go lt d a b pivot Hi.out Hj.out Hdk.out hi2.out hj2.out (by omega)
          have hxw5:=ExtM.trans _ _ _ hxw4 hyw5;have hs5:(swp dk i' j').size = n:=by rw [size_swp];exact hsk
          obtain ⟨I0,hI0⟩:∃ I0:Nat,I0 = i' + 1:=⟨_,rfl⟩
          obtain ⟨J0,hJ0⟩:∃ J0:Nat,J0 = j' - 1:=⟨_,rfl⟩
          generalize swp dk i' j' = D0 at PF hHw5 hs5;rw [<- hI0,<- hJ0] at PF;have HI0:=Lib.hid hI0;have HJ0:=Lib.hid hJ0;have ha0:a < I0:=by omega
          have hb0:I0 <= J0 + 1:=by omega
          have hd0:J0 < b:=by omega
          clear hI0 hJ0;go_loopg [10,11] b (fun gk vi vj wr=>∃ (i j:Nat) (dk:Array α),vi = .int .i64 i /\ vj = .int .i64 j /\ a < i /\ i <= j + 1 /\ j < b /\ j + 1 - i <= gk /\ dk.size = n /\ H dk wr /\ ExtM (fun k=>k = blk) (w.alloc (.cells #[.func (.func g) #[] lb,.func (.func sf) #[] sb] 193)) wr /\ Hid (partLoop lt a i j dk = partLoop lt a I0 J0 D0))
          case atStart=>exact ⟨I0,J0,D0,by rw [HI0.out];go_num,by have:=HJ0.out;go_num,ha0,hb0,hd0,by omega,hs5,hHw5,hxw5,rfl⟩
          case round =>
           clear hHw5 hxw5 hyw5 hsw5 hl c0w4 c1w4 hHw4 hxw4 hyw4 hHj hxj d0 d1 hi2 hj2 hlt3 hle2 hij2 hjj hgj hij' hii hgi hsk hai hij hjb Hi Hj Hdk HI0 HJ0;obtain ⟨i,j,dk,rfl,rfl,hai,hij,hjb,hgk,hsk,hHk,hxk,AE⟩:=hrel;obtain ⟨c0,c1⟩:=HCC.out _ hxk;go_wp2;go_loopg [10] (j + 1) (fun g2 vi w1=>∃ (i':Nat),vi = .int .i64 i' /\ i <= i' /\ i' <= j + 1 /\ j + 1 - i' <= g2 /\ H dk w1 /\ ExtM (fun k=>k = blk) (w.alloc (.cells #[.func (.func g) #[] lb,.func (.func sf) #[] sb] 193)) w1 /\ Hid (scanUp (fun x=>lt x dk[a]!) dk j i' = scanUp (fun x=>lt x dk[a]!) dk j i))
           case atStart=>exact ⟨i,rfl,Nat.le_refl _,hij,by omega,hHk,hxk,rfl⟩
           case round =>
            clear hHk hxk c0 c1;obtain ⟨i',rfl,hii,hij',hgi,hHi,hxi,hsc⟩:=hrel;obtain ⟨c0,c1⟩:=HCC.out _ hxi;by_cases hle:i' <= j
            . have hl:=I.less dk wr i' a hsk hHi (by omega) (by omega);cases hlv:lt dk[i']! dk[a]! with
              | true =>
                rw [hlv] at hl;have HQ:=Lib.hid hlv;clear hlv
                go_wp2_with (
                 go_at_fn g;refine hl.mono ?_;rintro e w3 ⟨rfl,hyw3⟩;have hxw3:=ExtM.trans _ _ _ hxi (zae hyw3);have hHw3:=I.ext _ _ _ hHi hyw3;obtain ⟨c0w3,c1w3⟩:=HCC.out _ hxw3
                 skip)
                go_roundg (j + 1 - (i' + 1))
                case measure=>omega
                case rel=>exact ⟨i' + 1,by go_num,by omega,by omega,Nat.le_refl _,hHw3,hxw3,(scanUp_go (fun x=>lt x dk[a]!) dk j i' hle HQ.out).symm.trans hsc.out⟩
              | false =>
                rw [hlv] at hl;have hi2:Hid (i' = scanUp (fun x=>lt x dk[a]!) dk j i):=(scanUp_end (fun x=>lt x dk[a]!) dk j i' (Or.inr hlv)).symm.trans hsc.out;clear hlv hsc
                go_wp2_with (
                 go_at_fn g;refine hl.mono ?_;rintro e w3 ⟨rfl,hyw3⟩;have hxw3:=ExtM.trans _ _ _ hxi (zae hyw3);have hHw3:=I.ext _ _ _ hHi hyw3;obtain ⟨c0w3,c1w3⟩:=HCC.out _ hxw3
                 skip)
                go_loopg [11] (j) (fun g3 vj w2=>∃ (j':Nat),vj = .int .i64 j' /\ j' <= j /\ i' <= j' + 1 /\ j' <= g3 /\ H dk w2 /\ ExtM (fun k=>k = blk) (w.alloc (.cells #[.func (.func g) #[] lb,.func (.func sf) #[] sb] 193)) w2 /\ Hid (scanDown (fun x=>!lt x dk[a]!) dk i' j' = scanDown (fun x=>!lt x dk[a]!) dk i' j))
                case atStart=>exact ⟨j,rfl,Nat.le_refl _,by omega,Nat.le_refl _,hHw3,hxw3,rfl⟩
                case round =>
                 clear hHw3 hxw3 hyw3 c0w3 c1w3 hl hHi hxi c0 c1;obtain ⟨j',rfl,hjj,hij2,hgj,hHj,hxj,hsd⟩:=hrel;obtain ⟨d0,d1⟩:=HCC.out _ hxj;by_cases hle2:i' <= j'
                 ·
                  have hl:=I.less dk wr j' a hsk hHj (by omega) (by omega);cases hlv2:lt dk[j']! dk[a]! with
                  | false =>
                    rw [hlv2] at hl;have HQ2:=Lib.hid hlv2;clear hlv2
                    go_wp2_with (
                     go_at_fn g;refine hl.mono ?_;rintro e w4 ⟨rfl,hyw4⟩;have hxw4:=ExtM.trans _ _ _ hxj (zae hyw4);have hHw4:=I.ext _ _ _ hHj hyw4;obtain ⟨c0w4,c1w4⟩:=HCC.out _ hxw4
                     skip)
                    go_roundg (j' - 1)
                    case measure=>omega
                    case rel=>exact ⟨j' - 1,by go_num,by omega,by omega,Nat.le_refl _,hHw4,hxw4,(scanDown_go (fun x=>!lt x dk[a]!) dk i' j' hle2 (by omega) (by simp [HQ2.out])).symm.trans hsd.out⟩
                  | true =>
                    rw [hlv2] at hl;have hj2:Hid (j' = scanDown (fun x=>!lt x dk[a]!) dk i' j):=(scanDown_end (fun x=>!lt x dk[a]!) dk i' j' (Or.inr (by simp [hlv2]))).symm.trans hsd.out;have hlt3:=part_scans_lt lt a i j dk (by omega) hi2.out hj2.out hle2;clear hlv2
                    go_wp2_with (
                     go_at_fn g;refine hl.mono ?_;rintro e w4 ⟨rfl,hyw4⟩;have hxw4:=ExtM.trans _ _ _ hxj (zae hyw4);have hHw4:=I.ext _ _ _ hHj hyw4;obtain ⟨c0w4,c1w4⟩:=HCC.out _ hxw4
                     obtain ⟨w5,hsw5,hHw5,hyw5⟩:=I.swap dk w4 i' j' hsk hHw4 (by omega) (by omega))
                    go_roundg (j' - 1 + 1 - (i' + 1))
                    case measure=>omega
                    case rel=>exact ⟨i' + 1,j' - 1,swp dk i' j',by go_num,by go_num,by omega,by omega,by omega,Nat.le_refl _,by rw [size_swp];exact hsk,hHw5,ExtM.trans _ _ _ hxw4 hyw5,(show Hid _ from by rw [<- AE.out];exact (part_go lt a i j dk hi2.out hj2.out (by omega)).symm)⟩
                 . have hj2:Hid (j' = scanDown (fun x=>!lt x dk[a]!) dk i' j):=(scanDown_end (fun x=>!lt x dk[a]!) dk i' j' (Or.inl hle2)).symm.trans hsd.out;clear hsd;obtain ⟨w5,hsw5,hHw5,hyw5⟩:=I.swap dk wr j' a hsk hHj (by omega) (by omega);go_wp2;go_ret2;rw [PF.out,<- AE.out,part_break lt a i j dk hi2.out hj2.out (by omega)];exact ⟨rfl,hHw5,ExtM.trans _ _ _ (zae hx1) (ExtM.trans _ _ _ hxj hyw5)⟩
            . have hi2:Hid (i' = scanUp (fun x=>lt x dk[a]!) dk j i):=(scanUp_end (fun x=>lt x dk[a]!) dk j i' (Or.inl hle)).symm.trans hsc.out;clear hsc;go_wp2;go_loopg [11] (j) (fun g3 vj w2=>∃ (j':Nat),vj = .int .i64 j' /\ j' <= j /\ i' <= j' + 1 /\ j' <= g3 /\ H dk w2 /\ ExtM (fun k=>k = blk) (w.alloc (.cells #[.func (.func g) #[] lb,.func (.func sf) #[] sb] 193)) w2 /\ Hid (scanDown (fun x=>!lt x dk[a]!) dk i' j' = scanDown (fun x=>!lt x dk[a]!) dk i' j))
              case atStart=>exact ⟨j,rfl,Nat.le_refl _,by omega,Nat.le_refl _,hHi,hxi,rfl⟩
              case round =>
               clear hHi hxi c0 c1;obtain ⟨j',rfl,hjj,hij2,hgj,hHj,hxj,hsd⟩:=hrel;obtain ⟨d0,d1⟩:=HCC.out _ hxj;by_cases hle2:i' <= j'
               ·
                exfalso;omega
               . have hj2:Hid (j' = scanDown (fun x=>!lt x dk[a]!) dk i' j):=(scanDown_end (fun x=>!lt x dk[a]!) dk i' j' (Or.inl hle2)).symm.trans hsd.out;clear hsd;obtain ⟨w5,hsw5,hHw5,hyw5⟩:=I.swap dk wr j' a hsk hHj (by omega) (by omega);go_wp2;go_ret2;rw [PF.out,<- AE.out,part_break lt a i j dk hi2.out hj2.out (by omega)];exact ⟨rfl,hHw5,ExtM.trans _ _ _ (zae hx1) (ExtM.trans _ _ _ hxj hyw5)⟩
       . have hj2:Hid (j' = scanDown (fun x=>!lt x dk[a]!) dk i' j):=(scanDown_end (fun x=>!lt x dk[a]!) dk i' j' (Or.inl hle2)).symm.trans hsd.out;clear hsd;obtain ⟨w5,hsw5,hHw5,hyw5⟩:=I.swap dk wr j' a hsk hHj (by omega) (by omega);go_wp2;go_ret2;rw [part_first_break lt d a b pivot Hi.out Hj.out Hdk.out hi2.out hj2.out (by omega)];exact ⟨rfl,hHw5,ExtM.trans _ _ _ (zae hx1) (ExtM.trans _ _ _ hxj hyw5)⟩
  . have hi2:Hid (i' = scanUp (fun x=>lt x dk[a]!) dk j i):=(scanUp_end (fun x=>lt x dk[a]!) dk j i' (Or.inl hle)).symm.trans hsc.out;clear hsc;go_wp2;go_loopg [11] (j) (fun g3 vj w2=>∃ (j':Nat),vj = .int .i64 j' /\ j' <= j /\ i' <= j' + 1 /\ j' <= g3 /\ H dk w2 /\ ExtM (fun k=>k = blk) (w.alloc (.cells #[.func (.func g) #[] lb,.func (.func sf) #[] sb] 193)) w2 /\ Hid (scanDown (fun x=>!lt x dk[a]!) dk i' j' = scanDown (fun x=>!lt x dk[a]!) dk i' j))
    case atStart=>exact ⟨j,rfl,Nat.le_refl _,by omega,Nat.le_refl _,hHi,hxi,rfl⟩
    case round =>
     clear hHi hxi c0 c1;obtain ⟨j',rfl,hjj,hij2,hgj,hHj,hxj,hsd⟩:=hrel;obtain ⟨d0,d1⟩:=HCC.out _ hxj;by_cases hle2:i' <= j'
     ·
      exfalso;omega
     . have hj2:Hid (j' = scanDown (fun x=>!lt x dk[a]!) dk i' j):=(scanDown_end (fun x=>!lt x dk[a]!) dk i' j' (Or.inl hle2)).symm.trans hsd.out;clear hsd;obtain ⟨w5,hsw5,hHw5,hyw5⟩:=I.swap dk wr j' a hsk hHj (by omega) (by omega);go_wp2;go_ret2;rw [part_first_break lt d a b pivot Hi.out Hj.out Hdk.out hi2.out hj2.out (by omega)];exact ⟨rfl,hHw5,ExtM.trans _ _ _ (zae hx1) (ExtM.trans _ _ _ hxj hyw5)⟩
end Go.Proofs.YtmcgnnmffeojpabGreatDoor
