import Derived.Test.YtmcgnnmffeojpabGreatDoorPk33
import Derived.Test.YtmcgnnmffeojpabGreatDoorPk34
import Derived.Sort.WalkA6
import Derived.Sort.Walk11
import Derived.Shelf.GgSortFunc.LotD
import Derived.Shelf.GgSortFunc.Whole
import Derived.Ground.GgsProg
import Derived.Sort.Walk7
import Derived.Shelf.SlSortFunc.Xorshift
import Derived.Sort.Walk13
import Derived.Shelf.GgSortFunc.Tiny
set_option maxRecDepth 100000
set_option maxHeartbeats 8000000
namespace Go.Proofs.YtmcgnnmffeojpabGreatDoor
open Go.RowKit Go.Plan Go.Sort
variable {α:Type} [Inhabited α]
theorem SIf.less1 {n:Nat} {lt:α -> α -> Bool} {g:Nat} {lb:Array Value} {sf:Nat} {sb:Array Value} {blk:Nat} {H:Array α -> World -> Prop} (I:SIf n lt g lb sf sb blk H) (X:Array α) (W:World) (j:Nat) (v:Bool) (hX:X.size = n) (hH:H X W) (h1:1 <= j) (hj:j < n) (hv:lt X[j]! X[j - 1]! = v) :
 Calls Tryz.prog g (#[.int .i64 (j:Int),.int .i64 ((j:Int) - 1)] ++ lb) W fun e w'=>e = .returned (.bool v) /\ Ext W w':=by
 have h:=I.less X W j (j - 1) hX hH hj (by omega)
 rwa [hv,show ((j - 1:Nat):Int) = (j:Int) - 1 by omega] at h
theorem SIf.swap1 {n:Nat} {lt:α -> α -> Bool} {g:Nat} {lb:Array Value} {sf:Nat} {sb:Array Value} {blk:Nat} {H:Array α -> World -> Prop} (I:SIf n lt g lb sf sb blk H) (X:Array α) (W:World) (j:Nat) (hX:X.size = n) (hH:H X W) (h1:1 <= j) (hj:j < n) :
 ∃ W',(callFunc sf (#[.int .i64 (j:Int),.int .i64 ((j:Int) - 1)] ++ sb)).run Tryz.prog W = .ok (.value (.tuple #[])) W' /\ H (swp X j (j - 1)) W' /\ ExtM (fun k=>k = blk) W W':=by
 have h:=I.swap X W j (j - 1) hX hH hj (by omega)
 rwa [show ((j - 1:Nat):Int) = (j:Int) - 1 by omega] at h
theorem zgE {n:Nat} {lt:α -> α -> Bool} {g:Nat} {lb:Array Value} {sf:Nat} {sb:Array Value} {blk:Nat} {H:Array α -> World -> Prop} (I:SIf n lt g lb sf sb blk H) (a b:Nat) (d:Array α) (w:World) (hH:H d w) (hs:d.size = n) (hab:a < b) (hb:b <= n) (hn:n < 1000000) :
 Calls Tryz.prog 202 #[.agg #[.func (.func g) #[] lb,.func (.func sf) #[] sb],.int .i64 a,.int .i64 b] w fun e w'=>e = .returned (.bool (partialInsertionSort lt d a b).2) /\ H (partialInsertionSort lt d a b).1 w' /\ ExtM (fun k=>k = blk) w w':=by
 have hbl:=I.lt' d w hH;have hx1:Ext w (w.alloc (.cells #[.func (.func g) #[] lb,.func (.func sf) #[] sb] 193)):=(ExtM.refl w).alloc _;have hH1:=I.ext d w _ hH hx1;have eg:=I.eg;go_enter Tryz.func202,Tryz.ntmps202;go_wp2;have q0:(w.alloc (.cells #[.func (.func g) #[] lb,.func (.func sf) #[] sb] 193)).cell? ⟨w.heap.size,0,none⟩ = some (.func (.func g) #[] lb):=by go_simp
 have q1:(w.alloc (.cells #[.func (.func g) #[] lb,.func (.func sf) #[] sb] 193)).cell? ⟨w.heap.size,1,none⟩ = some (.func (.func sf) #[] sb):=by go_simp
 have hN:w.heap.size < (w.alloc (.cells #[.func (.func g) #[] lb,.func (.func sf) #[] sb] 193)).heap.size:=by simp
 generalize w.alloc (.cells #[.func (.func g) #[] lb,.func (.func sf) #[] sb] 193) = W1 at *;have hcc:∀ u,ExtM (fun k=>k = blk) W1 u -> u.cell? ⟨w.heap.size,0,none⟩ = some (.func (.func g) #[] lb) /\ u.cell? ⟨w.heap.size,1,none⟩ = some (.func (.func sf) #[] sb):=fun u hu =>
  ⟨(hu.cell (p:=⟨w.heap.size,0,none⟩) hN (by simp;omega)).trans q0,(hu.cell (p:=⟨w.heap.size,1,none⟩) hN (by simp;omega)).trans q1⟩
 have HCC:=Lib.hid hcc;clear hcc q0 q1;go_loopg [7,8] 5 (fun g1 vi vs wr=>∃ (i s:Nat) (dk:Array α),vi = .int .i64 i /\ vs = .int .i64 s /\ s <= 5 /\ 5 - s <= g1 /\ a < i /\ i <= b /\ dk.size = n /\ H dk wr /\ ExtM (fun k=>k = blk) W1 wr /\ Hid (partialIns lt a b (5 - s) i dk = partialIns lt a b 5 (a + 1) d))
 case atStart=>exact ⟨a + 1,0,d,by go_num,rfl,by omega,by omega,by omega,by omega,hs,hH1,ExtM.refl _,rfl⟩
 case round =>
  obtain ⟨i,s,dk,rfl,rfl,hs5,hg1,hai,hib,hsk,hHk,hxk,HO⟩:=hrel;by_cases hs5':s < 5
  . have hsz5:(s:Int) < 5:=by omega
    go_wp2;go_loopg [7] (b - i) (fun g2 vi wr2=>∃ (k:Nat),vi = .int .i64 k /\ i <= k /\ k <= b /\ b - k <= g2 /\ H dk wr2 /\ ExtM (fun k=>k = blk) W1 wr2 /\ Hid (scanSorted lt dk b k = scanSorted lt dk b i))
    case atStart=>exact ⟨i,rfl,Nat.le_refl _,hib,Nat.le_refl _,hHk,hxk,rfl⟩
    case round =>
     clear hHk hxk;obtain ⟨k,rfl,hik,hkb,hg2,hHk,hxk,HSc⟩:=hrel;obtain ⟨c0,c1⟩:=HCC.out _ hxk;by_cases hkb':k < b
     . have hkz:(k:Int) < (b:Int):=by omega
       cases hlv:lt dk[k]! dk[k - 1]! with
       | false =>
         have hl:=I.less1 dk wr k false hsk hHk (by omega) (by omega) hlv;have HQ:=Lib.hid hlv;clear hlv
         go_wp2_with (
          go_at_fn g;refine hl.mono ?_;rintro e w2 ⟨rfl,hyw2⟩;have hxw2:=ExtM.trans _ _ _ hxk (zae hyw2);have hHw2:=I.ext _ _ _ hHk hyw2;obtain ⟨c0w2,c1w2⟩:=HCC.out _ hxw2
          skip)
         go_roundg (b - (k + 1))
         case measure=>omega
         case rel=>exact ⟨k + 1,by go_num,by omega,by omega,Nat.le_refl _,hHw2,hxw2,(show Hid _ from by rw [<- HSc.out,scanSorted_go lt dk b k hkb' HQ.out];exact rfl)⟩
       | true =>
         have hl:=I.less1 dk wr k true hsk hHk (by omega) (by omega) hlv;have HK:Hid (scanSorted lt dk b i = k):=by show _ = _;rw [<- HSc.out,scanSorted_stop lt dk b k (Or.inr hlv)]
         have hkne:((k:Int) == (b:Int)) = false:=beq_eq_false_iff_ne.2 (by omega);clear hlv;by_cases h50:b - a < 50
         . have h50z:(b:Int) - (a:Int) < 50:=by omega
           go_wp2_with (
            go_at_fn g;refine hl.mono ?_;rintro e w2 ⟨rfl,hyw2⟩;have hxw2:=ExtM.trans _ _ _ hxk (zae hyw2);have hHw2:=I.ext _ _ _ hHk hyw2;obtain ⟨c0w2,c1w2⟩:=HCC.out _ hxw2
            skip)
           have hv:partialInsertionSort lt d a b = (dk,false):=by
            unfold partialInsertionSort;rw [<- HO.out,pi_short lt a b s i dk hs5' (by rw [HK.out];omega) h50]
           rw [hv];go_ret;exact ⟨rfl,hHw2,ExtM.trans _ _ _ (zae hx1) hxw2⟩
         . have h50z:¬ ((b:Int) - (a:Int) < 50):=by omega
           have hX1:(swp dk k (k - 1)).size = n:=by rw [size_swp];exact hsk
           by_cases hka:k - a >= 2
           . have hkaz:(2:Int) <= (k:Int) - (a:Int):=by omega
             go_wp2_with (
              go_at_fn g;refine hl.mono ?_;rintro e w2 ⟨rfl,hyw2⟩;have hxw2:=ExtM.trans _ _ _ hxk (zae hyw2);have hHw2:=I.ext _ _ _ hHk hyw2;obtain ⟨c0w2,c1w2⟩:=HCC.out _ hxw2;obtain ⟨w3,hsw3,hHw3,hyw3⟩:=I.swap1 dk w2 k hsk hHw2 (by omega) (by omega)
              have hxw3:=ExtM.trans _ _ _ hxw2 hyw3)
             go_loopg [9] (k - 1) (fun g3 vj wr3=>∃ (j:Nat) (dj:Array α),vj = .int .i64 j /\ j <= k - 1 /\ j <= g3 /\ dj.size = n /\ H dj wr3 /\ ExtM (fun k=>k = blk) W1 wr3 /\ Hid (shiftDown lt j dj = shiftDown lt (k - 1) (swp dk k (k - 1))))
             case atStart=>exact ⟨k - 1,(swp dk k (k - 1)),by congr 1;omega,Nat.le_refl _,Nat.le_refl _,hX1,hHw3,hxw3,rfl⟩
             case round =>
              clear hsw3 hHw3 hxw3 hyw3 c0w2 c1w2 hHw2 hxw2 hyw2 c0 c1 hHk hxk;obtain ⟨j,dj,rfl,hjk,hg3,hsj,hHj,hxj,HDn⟩:=hrel;obtain ⟨c0,c1⟩:=HCC.out _ hxj;by_cases hj1:1 <= j
              . have hj1z:(1:Int) <= (j:Int):=by omega
                cases hlv2:lt dj[j]! dj[j - 1]! with
                | true =>
                  have hl2:=I.less1 dj wr j true hsj hHj hj1 (by omega) hlv2;have HQ2:=Lib.hid hlv2;clear hlv2
                  go_wp2_with (
                   go_at_fn g;refine hl2.mono ?_;rintro e w4 ⟨rfl,hyw4⟩;have hxw4:=ExtM.trans _ _ _ hxj (zae hyw4);have hHw4:=I.ext _ _ _ hHj hyw4;obtain ⟨c0w4,c1w4⟩:=HCC.out _ hxw4
                   obtain ⟨w5,hsw5,hHw5,hyw5⟩:=I.swap1 dj w4 j hsj hHw4 (by omega) (by omega))
                  go_roundg (j - 1)
                  case measure=>omega
                  case rel=>exact ⟨j - 1,swp dj j (j - 1),by congr 1;omega,by omega,Nat.le_refl _,by rw [size_swp];exact hsj,hHw5,ExtM.trans _ _ _ hxw4 hyw5,(show Hid _ from by rw [<- HDn.out,shiftDown_go lt j dj hj1 HQ2.out];exact rfl)⟩
                | false =>
                  have hl2:=I.less1 dj wr j false hsj hHj hj1 (by omega) hlv2;have HD:Hid (fixDown lt a k (swp dk k (k - 1)) = dj):=by show _ = _;unfold fixDown;rw [if_pos hka,<- HDn.out,shiftDown_stop lt j dj (Or.inr hlv2)]
                  clear hlv2;by_cases hbk:b - k >= 2
                  . have hbkz:(2:Int) <= (b:Int) - (k:Int):=by omega
                    go_wp2_with (
                     go_at_fn g;refine hl2.mono ?_;rintro e w4 ⟨rfl,hyw4⟩;have hxw4:=ExtM.trans _ _ _ hxj (zae hyw4);have hHw4:=I.ext _ _ _ hHj hyw4;obtain ⟨c0w4,c1w4⟩:=HCC.out _ hxw4
                     skip)
                    go_loopg [10] (b - (k + 1)) (fun g4 vj wr4=>∃ (ju:Nat) (du:Array α),vj = .int .i64 ju /\ k + 1 <= ju /\ ju <= b /\ b - ju <= g4 /\ du.size = n /\ H du wr4 /\ ExtM (fun k=>k = blk) W1 wr4 /\ Hid (shiftUp lt b ju du = shiftUp lt b (k + 1) dj))
                    case atStart=>exact ⟨k + 1,dj,by go_num,Nat.le_refl _,by omega,Nat.le_refl _,hsj,hHw4,hxw4,rfl⟩
                    case round =>
                     clear hHw4 hxw4 hyw4 c0w4 c1w4 c0 c1 hHj hxj;obtain ⟨ju,du,rfl,hkj,hjb,hg4,hsu,hHu,hxu,HU⟩:=hrel;obtain ⟨c0,c1⟩:=HCC.out _ hxu;by_cases hjb':ju < b
                     . have hjz:(ju:Int) < (b:Int):=by omega
                       cases hlv3:lt du[ju]! du[ju - 1]! with
                       | true =>
                         have hl3:=I.less1 du wr ju true hsu hHu (by omega) (by omega) hlv3;have HQ3:=Lib.hid hlv3;clear hlv3
                         go_wp2_with (
                          go_at_fn g;refine hl3.mono ?_;rintro e w6 ⟨rfl,hyw6⟩;have hxw6:=ExtM.trans _ _ _ hxu (zae hyw6);have hHw6:=I.ext _ _ _ hHu hyw6;obtain ⟨c0w6,c1w6⟩:=HCC.out _ hxw6
                          obtain ⟨w7,hsw7,hHw7,hyw7⟩:=I.swap1 du w6 ju hsu hHw6 (by omega) (by omega))
                         go_roundg (b - (ju + 1))
                         case measure=>omega
                         case rel=>exact ⟨ju + 1,swp du ju (ju - 1),by go_num,by omega,by omega,Nat.le_refl _,by rw [size_swp];exact hsu,hHw7,ExtM.trans _ _ _ hxw6 hyw7,(show Hid _ from by rw [<- HU.out,shiftUp_go lt b ju du hjb' HQ3.out];exact rfl)⟩
                       | false =>
                         have hl3:=I.less1 du wr ju false hsu hHu (by omega) (by omega) hlv3;have HQ3:=Lib.hid hlv3;clear hlv3
                         go_wp2_with (
                          go_at_fn g;refine hl3.mono ?_;rintro e w6 ⟨rfl,hyw6⟩;have hxw6:=ExtM.trans _ _ _ hxu (zae hyw6);have hHw6:=I.ext _ _ _ hHu hyw6;obtain ⟨c0w6,c1w6⟩:=HCC.out _ hxw6
                          skip)
                         go_roundg (5 - (s + 1))
                         case measure=>omega
                         case rel=>exact ⟨k,s + 1,du,rfl,by go_num,by omega,Nat.le_refl _,by omega,by omega,hsu,hHw6,hxw6,(show Hid _ from by rw [<- HO.out,pi_go lt a b s i k dk hs5' HK.out (by omega) h50,(HD).out,show fixUp lt b k dj = du from by unfold fixUp;rw [if_pos hbk,<- HU.out,shiftUp_stop lt b ju du (Or.inr HQ3.out)]];exact rfl)⟩
                     . have hjz:¬ (ju:Int) < (b:Int):=by omega
                       go_wp2;go_roundg (5 - (s + 1))
                       case measure=>omega
                       case rel=>exact ⟨k,s + 1,du,rfl,by go_num,by omega,Nat.le_refl _,by omega,by omega,hsu,hHu,hxu,(show Hid _ from by rw [<- HO.out,pi_go lt a b s i k dk hs5' HK.out (by omega) h50,(HD).out,show fixUp lt b k dj = du from by unfold fixUp;rw [if_pos hbk,<- HU.out,shiftUp_stop lt b ju du (Or.inl hjb')]];exact rfl)⟩
                  . have hbkz:¬ (2:Int) <= (b:Int) - (k:Int):=by omega
                    go_wp2_with (
                     go_at_fn g;refine hl2.mono ?_;rintro e w4 ⟨rfl,hyw4⟩;have hxw4:=ExtM.trans _ _ _ hxj (zae hyw4);have hHw4:=I.ext _ _ _ hHj hyw4;obtain ⟨c0w4,c1w4⟩:=HCC.out _ hxw4
                     skip)
                    go_roundg (5 - (s + 1))
                    case measure=>omega
                    case rel=>exact ⟨k,s + 1,dj,rfl,by go_num,by omega,Nat.le_refl _,by omega,by omega,hsj,hHw4,hxw4,(show Hid _ from by rw [<- HO.out,pi_go lt a b s i k dk hs5' HK.out (by omega) h50,(HD).out,show fixUp lt b k dj = dj from by unfold fixUp;rw [if_neg hbk]];exact rfl)⟩
              . have hj1z:¬ (1:Int) <= (j:Int):=by omega
                have HD:Hid (fixDown lt a k (swp dk k (k - 1)) = dj):=by show _ = _;unfold fixDown;rw [if_pos hka,<- HDn.out,shiftDown_stop lt j dj (Or.inl (by omega))]
                by_cases hbk:b - k >= 2
                . have hbkz:(2:Int) <= (b:Int) - (k:Int):=by omega
                  go_wp2;go_loopg [10] (b - (k + 1)) (fun g4 vj wr4=>∃ (ju:Nat) (du:Array α),vj = .int .i64 ju /\ k + 1 <= ju /\ ju <= b /\ b - ju <= g4 /\ du.size = n /\ H du wr4 /\ ExtM (fun k=>k = blk) W1 wr4 /\ Hid (shiftUp lt b ju du = shiftUp lt b (k + 1) dj))
                  case atStart=>exact ⟨k + 1,dj,by go_num,Nat.le_refl _,by omega,Nat.le_refl _,hsj,hHj,hxj,rfl⟩
                  case round =>
                   clear c0 c1 hHj hxj;obtain ⟨ju,du,rfl,hkj,hjb,hg4,hsu,hHu,hxu,HU⟩:=hrel;obtain ⟨c0,c1⟩:=HCC.out _ hxu;by_cases hjb':ju < b
                   . have hjz:(ju:Int) < (b:Int):=by omega
                     cases hlv3:lt du[ju]! du[ju - 1]! with
                     | true =>
                       have hl3:=I.less1 du wr ju true hsu hHu (by omega) (by omega) hlv3;have HQ3:=Lib.hid hlv3;clear hlv3
                       go_wp2_with (
                        go_at_fn g;refine hl3.mono ?_;rintro e w6 ⟨rfl,hyw6⟩;have hxw6:=ExtM.trans _ _ _ hxu (zae hyw6);have hHw6:=I.ext _ _ _ hHu hyw6;obtain ⟨c0w6,c1w6⟩:=HCC.out _ hxw6
                        obtain ⟨w7,hsw7,hHw7,hyw7⟩:=I.swap1 du w6 ju hsu hHw6 (by omega) (by omega))
                       go_roundg (b - (ju + 1))
                       case measure=>omega
                       case rel=>exact ⟨ju + 1,swp du ju (ju - 1),by go_num,by omega,by omega,Nat.le_refl _,by rw [size_swp];exact hsu,hHw7,ExtM.trans _ _ _ hxw6 hyw7,(show Hid _ from by rw [<- HU.out,shiftUp_go lt b ju du hjb' HQ3.out];exact rfl)⟩
                     | false =>
                       have hl3:=I.less1 du wr ju false hsu hHu (by omega) (by omega) hlv3;have HQ3:=Lib.hid hlv3;clear hlv3
                       go_wp2_with (
                        go_at_fn g;refine hl3.mono ?_;rintro e w6 ⟨rfl,hyw6⟩;have hxw6:=ExtM.trans _ _ _ hxu (zae hyw6);have hHw6:=I.ext _ _ _ hHu hyw6;obtain ⟨c0w6,c1w6⟩:=HCC.out _ hxw6
                        skip)
                       go_roundg (5 - (s + 1))
                       case measure=>omega
                       case rel=>exact ⟨k,s + 1,du,rfl,by go_num,by omega,Nat.le_refl _,by omega,by omega,hsu,hHw6,hxw6,(show Hid _ from by rw [<- HO.out,pi_go lt a b s i k dk hs5' HK.out (by omega) h50,(HD).out,show fixUp lt b k dj = du from by unfold fixUp;rw [if_pos hbk,<- HU.out,shiftUp_stop lt b ju du (Or.inr HQ3.out)]];exact rfl)⟩
                   . have hjz:¬ (ju:Int) < (b:Int):=by omega
                     go_wp2;go_roundg (5 - (s + 1))
                     case measure=>omega
                     case rel=>exact ⟨k,s + 1,du,rfl,by go_num,by omega,Nat.le_refl _,by omega,by omega,hsu,hHu,hxu,(show Hid _ from by rw [<- HO.out,pi_go lt a b s i k dk hs5' HK.out (by omega) h50,(HD).out,show fixUp lt b k dj = du from by unfold fixUp;rw [if_pos hbk,<- HU.out,shiftUp_stop lt b ju du (Or.inl hjb')]];exact rfl)⟩
                . have hbkz:¬ (2:Int) <= (b:Int) - (k:Int):=by omega
                  go_wp2;go_roundg (5 - (s + 1))
                  case measure=>omega
                  case rel=>exact ⟨k,s + 1,dj,rfl,by go_num,by omega,Nat.le_refl _,by omega,by omega,hsj,hHj,hxj,(show Hid _ from by rw [<- HO.out,pi_go lt a b s i k dk hs5' HK.out (by omega) h50,(HD).out,show fixUp lt b k dj = dj from by unfold fixUp;rw [if_neg hbk]];exact rfl)⟩
           . have hkaz:¬ (2:Int) <= (k:Int) - (a:Int):=by omega
             have HD:Hid (fixDown lt a k (swp dk k (k - 1)) = swp dk k (k - 1)):=by show _ = _;unfold fixDown;rw [if_neg hka]
             have hbk:b - k >= 2:=by omega
             have hbkz:(2:Int) <= (b:Int) - (k:Int):=by omega
             go_wp2_with (
              go_at_fn g;refine hl.mono ?_;rintro e w2 ⟨rfl,hyw2⟩;have hxw2:=ExtM.trans _ _ _ hxk (zae hyw2);have hHw2:=I.ext _ _ _ hHk hyw2;obtain ⟨c0w2,c1w2⟩:=HCC.out _ hxw2;obtain ⟨w3,hsw3,hHw3,hyw3⟩:=I.swap1 dk w2 k hsk hHw2 (by omega) (by omega)
              have hxw3:=ExtM.trans _ _ _ hxw2 hyw3)
             go_loopg [10] (b - (k + 1)) (fun g4 vj wr4=>∃ (ju:Nat) (du:Array α),vj = .int .i64 ju /\ k + 1 <= ju /\ ju <= b /\ b - ju <= g4 /\ du.size = n /\ H du wr4 /\ ExtM (fun k=>k = blk) W1 wr4 /\ Hid (shiftUp lt b ju du = shiftUp lt b (k + 1) (swp dk k (k - 1))))
             case atStart=>exact ⟨k + 1,(swp dk k (k - 1)),by go_num,Nat.le_refl _,by omega,Nat.le_refl _,hX1,hHw3,hxw3,rfl⟩
             case round =>
              clear hsw3 hHw3 hxw3 hyw3 c0w2 c1w2 hHw2 hxw2 hyw2 c0 c1 hHk hxk;obtain ⟨ju,du,rfl,hkj,hjb,hg4,hsu,hHu,hxu,HU⟩:=hrel;obtain ⟨c0,c1⟩:=HCC.out _ hxu;by_cases hjb':ju < b
              . have hjz:(ju:Int) < (b:Int):=by omega
                cases hlv3:lt du[ju]! du[ju - 1]! with
                | true =>
                  have hl3:=I.less1 du wr ju true hsu hHu (by omega) (by omega) hlv3;have HQ3:=Lib.hid hlv3;clear hlv3
                  go_wp2_with (
                   go_at_fn g;refine hl3.mono ?_;rintro e w6 ⟨rfl,hyw6⟩;have hxw6:=ExtM.trans _ _ _ hxu (zae hyw6);have hHw6:=I.ext _ _ _ hHu hyw6;obtain ⟨c0w6,c1w6⟩:=HCC.out _ hxw6
                   obtain ⟨w7,hsw7,hHw7,hyw7⟩:=I.swap1 du w6 ju hsu hHw6 (by omega) (by omega))
                  go_roundg (b - (ju + 1))
                  case measure=>omega
                  case rel=>exact ⟨ju + 1,swp du ju (ju - 1),by go_num,by omega,by omega,Nat.le_refl _,by rw [size_swp];exact hsu,hHw7,ExtM.trans _ _ _ hxw6 hyw7,(show Hid _ from by rw [<- HU.out,shiftUp_go lt b ju du hjb' HQ3.out];exact rfl)⟩
                | false =>
                  have hl3:=I.less1 du wr ju false hsu hHu (by omega) (by omega) hlv3;have HQ3:=Lib.hid hlv3;clear hlv3
                  go_wp2_with (
                   go_at_fn g;refine hl3.mono ?_;rintro e w6 ⟨rfl,hyw6⟩;have hxw6:=ExtM.trans _ _ _ hxu (zae hyw6);have hHw6:=I.ext _ _ _ hHu hyw6;obtain ⟨c0w6,c1w6⟩:=HCC.out _ hxw6
                   skip)
                  go_roundg (5 - (s + 1))
                  case measure=>omega
                  case rel=>exact ⟨k,s + 1,du,rfl,by go_num,by omega,Nat.le_refl _,by omega,by omega,hsu,hHw6,hxw6,(show Hid _ from by rw [<- HO.out,pi_go lt a b s i k dk hs5' HK.out (by omega) h50,(HD).out,show fixUp lt b k (swp dk k (k - 1)) = du from by unfold fixUp;rw [if_pos hbk,<- HU.out,shiftUp_stop lt b ju du (Or.inr HQ3.out)]];exact rfl)⟩
              . have hjz:¬ (ju:Int) < (b:Int):=by omega
                go_wp2;go_roundg (5 - (s + 1))
                case measure=>omega
                case rel=>exact ⟨k,s + 1,du,rfl,by go_num,by omega,Nat.le_refl _,by omega,by omega,hsu,hHu,hxu,(show Hid _ from by rw [<- HO.out,pi_go lt a b s i k dk hs5' HK.out (by omega) h50,(HD).out,show fixUp lt b k (swp dk k (k - 1)) = du from by unfold fixUp;rw [if_pos hbk,<- HU.out,shiftUp_stop lt b ju du (Or.inl hjb')]];exact rfl)⟩
     . obtain rfl:k = b:=by omega
       have hkz:¬ (k:Int) < (k:Int):=by omega
       go_wp2;have hv:partialInsertionSort lt d a k = (dk,true):=by
        unfold partialInsertionSort;rw [<- HO.out,pi_true lt a k s i dk hs5' (by rw [<- HSc.out,scanSorted_stop lt dk k k (Or.inl (by omega))])]
       rw [hv];go_ret;exact ⟨rfl,hHk,ExtM.trans _ _ _ (zae hx1) hxk⟩
  . obtain rfl:s = 5:=by omega
    go_wp2;have hv:partialInsertionSort lt d a b = (dk,false):=by
     unfold partialInsertionSort;rw [<- HO.out,pi_end]
    rw [hv];go_ret;exact ⟨rfl,hHk,ExtM.trans _ _ _ (zae hx1) hxk⟩
variable {α:Type} [Inhabited α]
def CtrC {α:Type} (H:Array α -> World -> Prop) (blk c:Nat) (s:Nat) (W:World):Prop:=W.cell? ⟨c,0,none⟩ = some (.int .i64 s) /\ W.frozen? ⟨c,0,none⟩ = false /\ c < W.heap.size /\ c ≠ blk /\ ∀ d u u',H d u -> ExtM (fun k=>k = c) u u' -> H d u'
theorem CtrC.ext {β:Type} {H:Array β -> World -> Prop} {blk c s:Nat} {W W':World} (h:CtrC H blk c s W) (hx:Ext W W'):CtrC H blk c s W' :=
 ⟨(hx.cell (p:=⟨c,0,none⟩) h.2.2.1 (fun h=>h)).trans h.1,(hx.frozen (p:=⟨c,0,none⟩) h.2.2.1 (fun h=>h)).trans h.2.1,Nat.lt_of_lt_of_le h.2.2.1 hx.size,h.2.2.2⟩
theorem zfx {n:Nat} {lt:α -> α -> Bool} {g:Nat} {lb:Array Value} {sf:Nat} {sb:Array Value} {blk:Nat} {H:Array α -> World -> Prop} (I:SIf n lt g lb sf sb blk H) (a b c s:Nat) (d:Array α) (w:World) (hH:H d w) (hs:d.size = n) (ha:a < n) (hb:b < n) (hc:CtrC H blk c s w) (hs9:s < 1000) :
 Calls Tryz.prog 249 #[.agg #[.func (.func g) #[] lb,.func (.func sf) #[] sb],.int .i64 a,.int .i64 b,.pointer (some ⟨c,0,none⟩)] w fun e w'=>e = .returned (.tuple #[.int .i64 (order2 lt d a b s).1,.int .i64 (order2 lt d a b s).2.1]) /\ H d w' /\ CtrC H blk c (order2 lt d a b s).2.2 w' /\ ExtM (fun k=>k = c) w w':=by
 have hx1:Ext w (w.alloc (.cells #[.func (.func g) #[] lb,.func (.func sf) #[] sb] 193)):=(ExtM.refl w).alloc _;have hH1:=I.ext d w _ hH hx1;have eg:=I.eg;have hl:=I.less d _ b a hs hH1 hb ha;have hN:w.heap.size < (w.alloc (.cells #[.func (.func g) #[] lb,.func (.func sf) #[] sb] 193)).heap.size:=by simp
 have hcx:=hc.ext hx1;cases hlv:lt d[b]! d[a]! with
 | true =>
   have e2:order2 lt d a b s = (b,a,s + 1):=by simp [order2,hlv]
   rw [hlv] at hl;rw [e2];clear hlv e2;go_enter Tryz.func249,Tryz.ntmps249
   go_wp2_with (
    go_at_fn g;refine hl.mono ?_;rintro e w2 ⟨rfl,hy⟩;have hc2:=hcx.ext hy
    obtain ⟨c0,f0,-⟩:=hc2)
   go_ret2;have hx3:ExtM (fun k=>k = c) w2 (w2.setCell ⟨c,0,none⟩ (.int .i64 ((s:Int) + 1))):=ExtM.setCell (M:=fun k=>k = c) (ExtM.refl w2) (p:=⟨c,0,none⟩) (.inr rfl) _;have hcW:=hcx.ext hy;refine ⟨rfl,hcW.2.2.2.2 d _ _ (I.ext _ _ _ hH1 hy) hx3,⟨?_,?_,?_,hcW.2.2.2⟩,ExtM.trans _ _ _ (zae hx1) (ExtM.trans _ _ _ (zae hy) hx3)⟩
   . rw [World.cell?_setCell_same _ _ _ c0];simp
   . simpa using f0
   . simpa using hcW.2.2.1
 | false =>
   have e2:order2 lt d a b s = (a,b,s):=by simp [order2,hlv]
   rw [hlv] at hl;rw [e2];clear hlv e2;go_enter Tryz.func249,Tryz.ntmps249
   go_wp2_with (
    go_at_fn g;refine hl.mono ?_
    rintro e w2 ⟨rfl,hy⟩)
   go_ret2;exact ⟨rfl,I.ext _ _ _ hH1 hy,hcx.ext hy,ExtM.trans _ _ _ (zae hx1) (zae hy)⟩
theorem zfn {n:Nat} {lt:α -> α -> Bool} {g:Nat} {lb:Array Value} {sf:Nat} {sb:Array Value} {blk:Nat} {H:Array α -> World -> Prop} (I:SIf n lt g lb sf sb blk H) (a b x c s:Nat) (d:Array α) (w:World) (hH:H d w) (hs:d.size = n) (ha:a < n) (hb:b < n) (hx:x < n) (hc:CtrC H blk c s w) (hs9:s < 900) :
 Calls Tryz.prog 237 #[.agg #[.func (.func g) #[] lb,.func (.func sf) #[] sb],.int .i64 a,.int .i64 b,.int .i64 x,.pointer (some ⟨c,0,none⟩)] w fun e w'=>e = .returned (.int .i64 (median lt d a b x s).1) /\ H d w' /\ CtrC H blk c (median lt d a b x s).2 w' /\ ExtM (fun k=>k = c) w w':=by
 have hx1:Ext w (w.alloc (.cells #[.func (.func g) #[] lb,.func (.func sf) #[] sb] 193)):=(ExtM.refl w).alloc _;have hH1:=I.ext d w _ hH hx1;have hcx:=hc.ext hx1;have l1:=order2_lt' lt d s ha hb;have s1:=order2_swaps' lt d a b s;have l2:=order2_lt' lt d (order2 lt d a b s).2.2 l1.2 hx;have s2:=order2_swaps' lt d (order2 lt d a b s).2.1 x (order2 lt d a b s).2.2;have hcl:=hc.2.2.1;have hN:w.heap.size < (w.alloc (.cells #[.func (.func g) #[] lb,.func (.func sf) #[] sb] 193)).heap.size:=by simp
 have hcc:∀ u,ExtM (fun k=>k = c) (w.alloc (.cells #[.func (.func g) #[] lb,.func (.func sf) #[] sb] 193)) u -> u.cell? ⟨w.heap.size,0,none⟩ = some (.func (.func g) #[] lb) /\ u.cell? ⟨w.heap.size,1,none⟩ = some (.func (.func sf) #[] sb):=fun u hu =>
  ⟨(hu.cell (p:=⟨w.heap.size,0,none⟩) hN (by simp;omega)).trans (by go_simp),(hu.cell (p:=⟨w.heap.size,1,none⟩) hN (by simp;omega)).trans (by go_simp)⟩
 have HCC:=Lib.hid hcc;clear hcc;have k1:=zfx I a b c s d _ hH1 hs ha hb hcx (by omega);have k2:=fun u h1 h2=>zfx I (order2 lt d a b s).2.1 x c (order2 lt d a b s).2.2 d u h1 hs l1.2 hx h2 (by omega);have k3:=fun u h1 h2=>zfx I (order2 lt d a b s).1 (order2 lt d (order2 lt d a b s).2.1 x (order2 lt d a b s).2.2).1 c (order2 lt d (order2 lt d a b s).2.1 x (order2 lt d a b s).2.2).2.2 d u h1 hs l1.1 l2.1 h2 (by omega);have hm:median lt d a b x s = ((order2 lt d (order2 lt d a b s).1 (order2 lt d (order2 lt d a b s).2.1 x (order2 lt d a b s).2.2).1 (order2 lt d (order2 lt d a b s).2.1 x (order2 lt d a b s).2.2).2.2).2.1,(order2 lt d (order2 lt d a b s).1 (order2 lt d (order2 lt d a b s).2.1 x (order2 lt d a b s).2.2).1 (order2 lt d (order2 lt d a b s).2.1 x (order2 lt d a b s).2.2).2.2).2.2):=rfl;rw [hm];clear hm;generalize order2 lt d a b s = r1 at *;obtain ⟨p1,q1,t1⟩:=r1;simp only at k2 k3 l1 l2 s1 s2 k1 ⊢;generalize order2 lt d q1 x t1 = r2 at *;obtain ⟨p2,q2,t2⟩:=r2;simp only at k2 k3 l1 l2 s1 s2 k1 ⊢;generalize order2 lt d p1 p2 t2 = r3 at *;obtain ⟨p3,q3,t3⟩:=r3;simp only at k3 ⊢;go_enter Tryz.func237,Tryz.ntmps237
 go_wp2_with (
  go_at_call 249;refine k1.mono ?_;rintro e w2 ⟨rfl,hH2,hc2,hy2⟩;clear k1
  obtain ⟨c0,c1⟩:=HCC.out _ hy2)
 go_wp2_with (
  go_at_call 249;refine (k2 _ hH2 hc2).mono ?_;rintro e w3 ⟨rfl,hH3,hc3,hy3⟩;clear k2;have hy3':=ExtM.trans _ _ _ hy2 hy3
  obtain ⟨c0,c1⟩:=HCC.out _ hy3')
 go_wp2_with (
  go_at_call 249;refine (k3 _ hH3 hc3).mono ?_;rintro e w4 ⟨rfl,hH4,hc4,hy4⟩;clear k3
  have hy4':=ExtM.trans _ _ _ hy3' hy4)
 go_ret;exact ⟨rfl,hH4,hc4,ExtM.trans _ _ _ (zae hx1) hy4'⟩
theorem zcS {n:Nat} {lt:α -> α -> Bool} {g:Nat} {lb:Array Value} {sf:Nat} {sb:Array Value} {blk:Nat} {H:Array α -> World -> Prop} (I:SIf n lt g lb sf sb blk H) (a c s:Nat) (d:Array α) (w:World) (hH:H d w) (hs:d.size = n) (ha:1 <= a) (ha2:a + 1 < n) (hc:CtrC H blk c s w) (hs9:s < 900) (hn:n < 1000000) :
 Calls Tryz.prog 236 #[.agg #[.func (.func g) #[] lb,.func (.func sf) #[] sb],.int .i64 a,.pointer (some ⟨c,0,none⟩)] w fun e w'=>e = .returned (.int .i64 (medianAdjacent lt d a s).1) /\ H d w' /\ CtrC H blk c (medianAdjacent lt d a s).2 w' /\ ExtM (fun k=>k = c) w w':=by
 have hx1:Ext w (w.alloc (.cells #[.func (.func g) #[] lb,.func (.func sf) #[] sb] 193)):=(ExtM.refl w).alloc _;have hm:=zfn I (a - 1) a (a + 1) c s d _ (I.ext d w _ hH hx1) hs (by omega) (by omega) ha2 (hc.ext hx1) hs9;rw [show ((a - 1:Nat):Int) = (a:Int) - 1 by omega,show ((a + 1:Nat):Int) = (a:Int) + 1 by omega] at hm;rw [show medianAdjacent lt d a s = median lt d (a - 1) a (a + 1) s from rfl];generalize median lt d (a - 1) a (a + 1) s = r at *;go_enter Tryz.func236,Tryz.ntmps236
 go_wp2_with (
  go_at_call 237;refine hm.mono ?_
  rintro e w2 ⟨rfl,hH2,hc2,hy2⟩)
 go_ret;exact ⟨rfl,hH2,hc2,ExtM.trans _ _ _ (zae hx1) hy2⟩
variable {α:Type} [Inhabited α]
theorem ziW {c:Nat} {w u v:World} (h:Ext w u) (hc:w.heap.size <= c) (k:ExtM (fun k=>k = c) u v):Ext w v :=
 ⟨k.os.trans h.os,k.tape.trans h.tape,k.output.trans h.output,Nat.le_trans h.size k.size,fun b hb _=>(k.block b (Nat.lt_of_lt_of_le hb h.size) (by omega)).trans (h.block b hb id)⟩
theorem zf8 {n:Nat} {lt:α -> α -> Bool} {g:Nat} {lb:Array Value} {sf:Nat} {sb:Array Value} {blk:Nat} {H:Array α -> World -> Prop} (I:SIf n lt g lb sf sb blk H) (a b:Nat) (d:Array α) (w:World) (hH:H d w) (hs:d.size = n) (hab:a < b) (hb:b <= n) (hn:n < 1000000) :
 Calls Tryz.prog 200 #[.agg #[.func (.func g) #[] lb,.func (.func sf) #[] sb],.int .i64 a,.int .i64 b] w fun e w'=>e = .returned (.tuple #[.int .i64 (choosePivot lt d a b).1,.int .i64 (hintCode (choosePivot lt d a b).2)]) /\ H d w' /\ Ext w w':=by
 have hx2:Ext w ((w.alloc (.cells #[.func (.func g) #[] lb,.func (.func sf) #[] sb] 193)).alloc (.cells #[.int .i64 0] 3)):=((ExtM.refl w).alloc _).alloc _;have hH2:=I.ext d w _ hH hx2;have hbk:=I.lt' d w hH;have hC:CtrC H blk (w.heap.size + 1) 0 ((w.alloc (.cells #[.func (.func g) #[] lb,.func (.func sf) #[] sb] 193)).alloc (.cells #[.int .i64 0] 3)):=by
  refine ⟨by go_simp,by go_simp,by simp,by omega,fun d' u u' h hx=>?_⟩;obtain ⟨B,h1,h2,h3⟩:=I.base;exact h3 d' u u' h (hx.mono fun k _ hk=>by have:=h1 d w hH;omega)
 have hN:w.heap.size + 1 < ((w.alloc (.cells #[.func (.func g) #[] lb,.func (.func sf) #[] sb] 193)).alloc (.cells #[.int .i64 0] 3)).heap.size:=by simp
 have hcc:∀ u,ExtM (fun k=>k = w.heap.size + 1) ((w.alloc (.cells #[.func (.func g) #[] lb,.func (.func sf) #[] sb] 193)).alloc (.cells #[.int .i64 0] 3)) u -> u.cell? ⟨w.heap.size,0,none⟩ = some (.func (.func g) #[] lb) /\ u.cell? ⟨w.heap.size,1,none⟩ = some (.func (.func sf) #[] sb):=fun u hu =>
  ⟨(hu.cell (p:=⟨w.heap.size,0,none⟩) (by simp;omega) (by simp)).trans (by go_simp),(hu.cell (p:=⟨w.heap.size,1,none⟩) (by simp;omega) (by simp)).trans (by go_simp)⟩
 have HCC:=Lib.hid hcc;have hend:∀ u,ExtM (fun k=>k = w.heap.size + 1) ((w.alloc (.cells #[.func (.func g) #[] lb,.func (.func sf) #[] sb] 193)).alloc (.cells #[.int .i64 0] 3)) u -> Ext w u:=fun u hu=>ziW hx2 (by omega) hu;have HE:=Lib.hid hend;clear hcc hend;rw [choosePivot_eq];obtain ⟨I0,hI⟩:∃ I0:Nat,I0 = a + (b - a) / 4 * 1:=⟨_,rfl⟩
 obtain ⟨J,hJ⟩:∃ J:Nat,J = a + (b - a) / 4 * 2:=⟨_,rfl⟩
 obtain ⟨K,hK⟩:∃ K:Nat,K = a + (b - a) / 4 * 3:=⟨_,rfl⟩
 have eI:((a:Int) + ((b:Int) - (a:Int)) / 4) = (I0:Int):=by omega
 have eJ:((a:Int) + ((b:Int) - (a:Int)) / 4 * 2) = (J:Int):=by omega
 have eK:((a:Int) + ((b:Int) - (a:Int)) / 4 * 3) = (K:Int):=by omega
 by_cases h8:b - a >= 8
 . by_cases h50:b - a >= 50
   . obtain ⟨i1,s1,h1⟩:∃ i1 s1,medianAdjacent lt d I0 0 = (i1,s1):=⟨_,_,rfl⟩
     obtain ⟨j1,s2,h2⟩:∃ j1 s2,medianAdjacent lt d J s1 = (j1,s2):=⟨_,_,rfl⟩
     obtain ⟨k1,s3,h3⟩:∃ k1 s3,medianAdjacent lt d K s2 = (k1,s3):=⟨_,_,rfl⟩
     obtain ⟨p,s,h4⟩:∃ p s,median lt d i1 j1 k1 s3 = (p,s):=⟨_,_,rfl⟩
     have hraw:rawPivot lt d a b = (p,s):=by simp only [rawPivot,if_pos h8,if_pos h50,<- hI,<- hJ,<- hK,h1,h2,h3,h4]
     have m1:=medianAdjacent_mem lt d I0 0;rw [h1] at m1;have m2:=medianAdjacent_mem lt d J s1;rw [h2] at m2;have m3:=medianAdjacent_mem lt d K s2;rw [h3] at m3;have n1:=medianAdjacent_count lt d I0 0;rw [h1] at n1;have n2:=medianAdjacent_count lt d J s1;rw [h2] at n2;have n3:=medianAdjacent_count lt d K s2;rw [h3] at n3;simp only [] at m1 m2 m3 n1 n2 n3;have c1:=zcS I I0 (w.heap.size + 1) 0 d _ hH2 hs (by omega) (by omega) hC (by omega) hn;have c2:=fun u hu hc=>zcS I J (w.heap.size + 1) s1 d u hu hs (by omega) (by omega) hc (by omega) hn;have c3:=fun u hu hc=>zcS I K (w.heap.size + 1) s2 d u hu hs (by omega) (by omega) hc (by omega) hn;have c4:=fun u hu hc=>zfn I i1 j1 k1 (w.heap.size + 1) s3 d u hu hs (by omega) (by omega) (by omega) hc (by omega);rw [h1] at c1;rw [h2] at c2;rw [h3] at c3;rw [h4] at c4;obtain ⟨Hc,hHc⟩:∃ Hc:Int,Hc = hintCode (hintOf s):=⟨_,rfl⟩
     have hh0:s = 0 -> Hc = 1:=fun h=>by rw [hHc,h];rfl
     have hh12:s = 12 -> Hc = 2:=fun h=>by rw [hHc,h];rfl
     have hhx:s ≠ 0 -> s ≠ 12 -> Hc = 0:=fun h1 h2=>by rw [hHc];unfold hintOf;rw [if_neg h1,if_neg h2];rfl
     rw [hraw];show Calls Tryz.prog 200 _ w fun e w'=>e = .returned (.tuple #[.int .i64 (p:Int),.int .i64 (hintCode (hintOf s))]) /\ H d w' /\ Ext w w';rw [<- hHc];clear hHc hraw;clear h1 h2 h3 h4 hI hJ hK m1 m2 m3;obtain ⟨b0,b1⟩:=HCC.out _ (ExtM.refl _);go_enter Tryz.func200,Tryz.ntmps200
     go_wp2_with (
      go_at_call 236;refine c1.mono ?_;rintro e w3 ⟨rfl,hH3,hC3,hy3⟩;clear c1
      obtain ⟨c0',c1'⟩:=HCC.out _ hy3)
     go_wp2_with (
      go_at_call 236;refine (c2 _ hH3 hC3).mono ?_;rintro e w4 ⟨rfl,hH4,hC4,hy4⟩;clear c2;have hy4':=ExtM.trans _ _ _ hy3 hy4
      obtain ⟨c0',c1'⟩:=HCC.out _ hy4')
     go_wp2_with (
      go_at_call 236;refine (c3 _ hH4 hC4).mono ?_;rintro e w5 ⟨rfl,hH5,hC5,hy5⟩;clear c3;have hy5':=ExtM.trans _ _ _ hy4' hy5
      obtain ⟨c0',c1'⟩:=HCC.out _ hy5')
     go_wp2_with (
      go_at_call 237;refine (c4 _ hH5 hC5).mono ?_;rintro e w6 ⟨rfl,hH6,hC6,hy6⟩;clear c4;have hy6':=ExtM.trans _ _ _ hy5' hy6
      obtain ⟨cs,-⟩:=hC6)
     all_goals
      go_ret2;refine ⟨?_,hH6,?_⟩
      . first
         | (have e0:(s:Int) = 0:=of_beq_int (by assumption)
            rw [hh0 (by omega)];rfl)
         | (have e1:(s:Int) = 12:=of_beq_int (by assumption)
            rw [hh12 (by omega)];rfl)
         | (have e0:(s:Int) ≠ 0:=of_bne_int (by assumption)
            have e1:(s:Int) ≠ 12:=of_bne_int (by assumption)
            rw [hhx (by omega) (by omega)];rfl)
         | (rw [hh0 (by omega)];rfl)
      . exact HE.out _ hy6'
   . obtain ⟨p,s,h4⟩:∃ p s,median lt d I0 J K 0 = (p,s):=⟨_,_,rfl⟩
     have hraw:rawPivot lt d a b = (p,s):=by simp only [rawPivot,if_pos h8,if_neg h50,<- hI,<- hJ,<- hK,h4]
     have c4:=zfn I I0 J K (w.heap.size + 1) 0 d _ hH2 hs (by omega) (by omega) (by omega) hC (by omega);rw [h4] at c4;obtain ⟨Hc,hHc⟩:∃ Hc:Int,Hc = hintCode (hintOf s):=⟨_,rfl⟩
     have hh0:s = 0 -> Hc = 1:=fun h=>by rw [hHc,h];rfl
     have hh12:s = 12 -> Hc = 2:=fun h=>by rw [hHc,h];rfl
     have hhx:s ≠ 0 -> s ≠ 12 -> Hc = 0:=fun h1 h2=>by rw [hHc];unfold hintOf;rw [if_neg h1,if_neg h2];rfl
     rw [hraw];show Calls Tryz.prog 200 _ w fun e w'=>e = .returned (.tuple #[.int .i64 (p:Int),.int .i64 (hintCode (hintOf s))]) /\ H d w' /\ Ext w w';rw [<- hHc];clear hHc hraw;clear h4 hI hJ hK;obtain ⟨b0,b1⟩:=HCC.out _ (ExtM.refl _);go_enter Tryz.func200,Tryz.ntmps200
     go_wp2_with (
      go_at_call 237;refine c4.mono ?_;rintro e w6 ⟨rfl,hH6,hC6,hy6⟩;clear c4
      obtain ⟨cs,-⟩:=hC6)
     all_goals
      go_ret2;refine ⟨?_,hH6,?_⟩
      . first
         | (have e0:(s:Int) = 0:=of_beq_int (by assumption)
            rw [hh0 (by omega)];rfl)
         | (have e1:(s:Int) = 12:=of_beq_int (by assumption)
            rw [hh12 (by omega)];rfl)
         | (have e0:(s:Int) ≠ 0:=of_bne_int (by assumption)
            have e1:(s:Int) ≠ 12:=of_bne_int (by assumption)
            rw [hhx (by omega) (by omega)];rfl)
         | (rw [hh0 (by omega)];rfl)
      . exact HE.out _ hy6
 . obtain ⟨p,hp⟩:∃ p:Nat,p = J:=⟨_,rfl⟩
   obtain ⟨s,hs0⟩:∃ s:Nat,s = 0:=⟨_,rfl⟩
   have hraw:rawPivot lt d a b = (p,s):=by simp only [rawPivot,if_neg h8,<- hJ,hp,hs0]
   obtain ⟨Hc,hHc⟩:∃ Hc:Int,Hc = hintCode (hintOf s):=⟨_,rfl⟩
   have hh0:s = 0 -> Hc = 1:=fun h=>by rw [hHc,h];rfl
   have hh12:s = 12 -> Hc = 2:=fun h=>by rw [hHc,h];rfl
   have hhx:s ≠ 0 -> s ≠ 12 -> Hc = 0:=fun h1 h2=>by rw [hHc];unfold hintOf;rw [if_neg h1,if_neg h2];rfl
   rw [hraw];show Calls Tryz.prog 200 _ w fun e w'=>e = .returned (.tuple #[.int .i64 (p:Int),.int .i64 (hintCode (hintOf s))]) /\ H d w' /\ Ext w w';rw [<- hHc];clear hHc hraw;subst hp;have cs:((w.alloc (.cells #[.func (.func g) #[] lb,.func (.func sf) #[] sb] 193)).alloc (.cells #[.int .i64 0] 3)).cell? ⟨w.heap.size + 1,0,none⟩ = some (.int .i64 (s:Int)):=by rw [hs0];exact hC.1
   have hs1:s = 0:=hs0;have HS0:=Lib.hid hs0;clear hI hJ hK hs0 hs1;go_enter Tryz.func200,Tryz.ntmps200;go_wp2
   all_goals
    go_ret2;refine ⟨?_,hH2,?_⟩
    . first
       | (have e0:(s:Int) = 0:=of_beq_int (by assumption)
          rw [hh0 (by omega)];rfl)
       | (have e1:(s:Int) = 12:=of_beq_int (by assumption)
          rw [hh12 (by omega)];rfl)
       | (have e0:(s:Int) ≠ 0:=of_bne_int (by assumption)
          have e1:(s:Int) ≠ 12:=of_bne_int (by assumption)
          rw [hhx (by omega) (by omega)];rfl)
       | (rw [hh0 (by omega)];rfl)
    . exact HE.out _ (ExtM.refl _)
end Go.Proofs.YtmcgnnmffeojpabGreatDoor
namespace Go.Proofs
open Go.Shelf
def Tryz.shSlice_ren:Go.Shelf.Ren:=⟨fun | 6=>108 | 10=>111 | 11=>112 | 12=>114 | 13=>142 | 14=>147 | 24=>195 | 25=>196 | 26=>157 | 27=>198 | 28=>199 | 29=>200 | 30=>201 | 31=>202 | 32=>203 | 33=>204 | 34=>233 | 35=>234 | 36=>235 | 37=>236 | 38=>237 | 39=>249 | n=>n,fun | 20=>20 | 26=>138 | 35=>187 | 0=>0 | 37=>189 | 3=>3 | 41=>235 | 44=>193 | 49=>202 | 51=>259 | 4=>4 | 54=>297 | 53=>296 | 58=>82 | 5=>5 | 9=>9 | 60=>323 | 64=>321 | 66=>336 | 67=>119 | 17=>17 | 32=>184 | 33=>185 | 82=>352 | 12=>12 | 75=>347 | 76=>219 | 77=>348 | 78=>182 | 79=>349 | 80=>350 | n=>n,fun | n=>n⟩
theorem Tryz.shSlice:Go.Proofs.LaysGg.n6 Tryz.prog Tryz.shSlice_ren:={
 mixed:=by kernel_rfl
 f6:=Tryz.func108.trans (congrArg some (by kernel_rfl))
 f10:=Tryz.func111.trans (congrArg some (by kernel_rfl))
 f11:=Tryz.func112.trans (congrArg some (by kernel_rfl))
 f12:=Tryz.func114.trans (congrArg some (by kernel_rfl))
 f13:=Tryz.func142.trans (congrArg some (by kernel_rfl))
 f14:=Tryz.func147.trans (congrArg some (by kernel_rfl))
 f24:=Tryz.func195.trans (congrArg some (by kernel_rfl))
 f25:=Tryz.func196.trans (congrArg some (by kernel_rfl))
 f26:=Tryz.func157.trans (congrArg some (by kernel_rfl))
 f27:=Tryz.func198.trans (congrArg some (by kernel_rfl))
 f28:=Tryz.func199.trans (congrArg some (by kernel_rfl))
 f29:=Tryz.func200.trans (congrArg some (by kernel_rfl))
 f30:=Tryz.func201.trans (congrArg some (by kernel_rfl))
 f31:=Tryz.func202.trans (congrArg some (by kernel_rfl))
 f32:=Tryz.func203.trans (congrArg some (by kernel_rfl))
 f33:=Tryz.func204.trans (congrArg some (by kernel_rfl))
 f34:=Tryz.func233.trans (congrArg some (by kernel_rfl))
 f35:=Tryz.func234.trans (congrArg some (by kernel_rfl))
 f36:=Tryz.func235.trans (congrArg some (by kernel_rfl))
 f37:=Tryz.func236.trans (congrArg some (by kernel_rfl))
 f38:=Tryz.func237.trans (congrArg some (by kernel_rfl))
 f39:=Tryz.func249.trans (congrArg some (by kernel_rfl))
 t0:=Tryz.underlying0
 a0:=Tryz.isAgg0
 z0:=Tryz.sizeOf0
 v0:=Tryz.zeroValue0
 i0:=by kernel_rfl
 t3:=Tryz.underlying3
 a3:=Tryz.isAgg3
 z3:=Tryz.sizeOf3
 v3:=Tryz.zeroValue3
 i3:=by kernel_rfl
 t4:=Tryz.underlying4
 a4:=Tryz.isAgg4
 z4:=Tryz.sizeOf4
 v4:=Tryz.zeroValue4
 i4:=by kernel_rfl
 t5:=Tryz.underlying5
 a5:=Tryz.isAgg5
 z5:=Tryz.sizeOf5
 v5:=Tryz.zeroValue5
 i5:=by kernel_rfl
 t9:=Tryz.underlying9
 a9:=Tryz.isAgg9
 z9:=Tryz.sizeOf9
 v9:=Tryz.zeroValue9
 i9:=by kernel_rfl
 t12:=Tryz.underlying12
 a12:=Tryz.isAgg12
 z12:=Tryz.sizeOf12
 v12:=Tryz.zeroValue12
 i12:=by kernel_rfl
 t17:=Tryz.underlying17
 a17:=Tryz.isAgg17
 z17:=Tryz.sizeOf17
 v17:=Tryz.zeroValue17
 i17:=by kernel_rfl
 t20:=Tryz.underlying20
 a20:=Tryz.isAgg20
 z20:=Tryz.sizeOf20
 v20:=Tryz.zeroValue20
 i20:=by kernel_rfl
 t26:=Tryz.underlying138
 a26:=Tryz.isAgg138
 z26:=Tryz.sizeOf138
 v26:=Tryz.zeroValue138
 i26:=by kernel_rfl
 t32:=Tryz.underlying184
 a32:=Tryz.isAgg184
 z32:=Tryz.sizeOf184
 v32:=Tryz.zeroValue184
 i32:=by kernel_rfl
 t33:=Tryz.underlying185
 a33:=Tryz.isAgg185
 z33:=Tryz.sizeOf185
 v33:=Tryz.zeroValue185
 i33:=by kernel_rfl
 t35:=Tryz.underlying187
 a35:=Tryz.isAgg187
 z35:=Tryz.sizeOf187
 v35:=Tryz.zeroValue187
 i35:=by kernel_rfl
 t37:=Tryz.underlying189
 a37:=Tryz.isAgg189
 z37:=Tryz.sizeOf189
 v37:=Tryz.zeroValue189
 i37:=by kernel_rfl
 t41:=Tryz.underlying235
 a41:=Tryz.isAgg235
 z41:=Tryz.sizeOf235
 v41:=Tryz.zeroValue235
 i41:=by kernel_rfl
 t44:=Tryz.underlying193
 a44:=Tryz.isAgg193
 z44:=Tryz.sizeOf193
 v44:=Tryz.zeroValue193
 i44:=by kernel_rfl
 t49:=Tryz.underlying202
 a49:=Tryz.isAgg202
 z49:=Tryz.sizeOf202
 v49:=Tryz.zeroValue202
 i49:=by kernel_rfl
 t51:=Tryz.underlying259
 a51:=Tryz.isAgg259
 z51:=Tryz.sizeOf259
 v51:=Tryz.zeroValue259
 i51:=by kernel_rfl
 t53:=Tryz.underlying296
 a53:=Tryz.isAgg296
 z53:=Tryz.sizeOf296
 v53:=Tryz.zeroValue296
 i53:=by kernel_rfl
 t54:=Tryz.underlying297
 a54:=Tryz.isAgg297
 z54:=Tryz.sizeOf297
 v54:=Tryz.zeroValue297
 i54:=by kernel_rfl
 t58:=Tryz.underlying82
 a58:=Tryz.isAgg82
 z58:=Tryz.sizeOf82
 v58:=Tryz.zeroValue82
 i58:=by kernel_rfl
 t60:=Tryz.underlying323
 a60:=Tryz.isAgg323
 z60:=Tryz.sizeOf323
 v60:=Tryz.zeroValue323
 i60:=by kernel_rfl
 t64:=Tryz.underlying321
 a64:=Tryz.isAgg321
 z64:=Tryz.sizeOf321
 v64:=Tryz.zeroValue321
 i64:=by kernel_rfl
 t66:=Tryz.underlying336
 a66:=Tryz.isAgg336
 z66:=Tryz.sizeOf336
 v66:=Tryz.zeroValue336
 i66:=by kernel_rfl
 t67:=Tryz.underlying119
 a67:=Tryz.isAgg119
 z67:=Tryz.sizeOf119
 v67:=Tryz.zeroValue119
 i67:=by kernel_rfl
 t75:=Tryz.underlying347
 a75:=Tryz.isAgg347
 z75:=Tryz.sizeOf347
 v75:=Tryz.zeroValue347
 i75:=by kernel_rfl
 t76:=Tryz.underlying219
 a76:=Tryz.isAgg219
 z76:=Tryz.sizeOf219
 v76:=Tryz.zeroValue219
 i76:=by kernel_rfl
 t77:=Tryz.underlying348
 a77:=Tryz.isAgg348
 z77:=Tryz.sizeOf348
 v77:=Tryz.zeroValue348
 i77:=by kernel_rfl
 t78:=Tryz.underlying182
 a78:=Tryz.isAgg182
 z78:=Tryz.sizeOf182
 v78:=Tryz.zeroValue182
 i78:=by kernel_rfl
 t79:=Tryz.underlying349
 a79:=Tryz.isAgg349
 z79:=Tryz.sizeOf349
 v79:=Tryz.zeroValue349
 i79:=by kernel_rfl
 t80:=Tryz.underlying350
 a80:=Tryz.isAgg350
 z80:=Tryz.sizeOf350
 v80:=Tryz.zeroValue350
 i80:=by kernel_rfl
 t82:=Tryz.underlying352
 a82:=Tryz.isAgg352
 z82:=Tryz.sizeOf352
 v82:=Tryz.zeroValue352
 i82:=by kernel_rfl }
end Go.Proofs
namespace Go.Proofs.YtmcgnnmffeojpabGreatDoor
open Go.RowKit Go.Plan Go.Sort
variable {α:Type} [Inhabited α]
theorem zh6 {blk c:Nat} {w u v:World} (h:Ext w u) (hc:w.heap.size <= c) (k:ExtM (fun k=>k = blk \/ k = c) u v):ExtM (fun k=>k = blk) w v :=
 ⟨k.os.trans h.os,k.tape.trans h.tape,k.output.trans h.output,Nat.le_trans h.size k.size,fun b hb hn=>(k.block b (Nat.lt_of_lt_of_le hb h.size) (fun h=>h.elim hn (fun h=>by omega))).trans (h.block b hb id)⟩
theorem zlr (rb:Nat) (X:Nat) (hX:X < 18446744073709551616) (w:World) (hc:w.cell? ⟨rb,0,none⟩ = some (.int .u64 X)) (hf:w.frozen? ⟨rb,0,none⟩ = false) :
 Calls Tryz.prog 235 #[.pointer (some ⟨rb,0,none⟩)] w fun e w'=>e = .returned (.int .u64 (xorNextN X:Nat)) /\ w' = (w.setCell ⟨rb,0,none⟩ (.int .u64 (xorNextN X:Nat))).drewN 3 :=
 Any.xorshift_Next { Tryz.shSlice with } rb 0 X hX w hc hf
theorem zk2 (n:Nat) (hn:n < 4611686018427387904) (w:World) :
 Calls Tryz.prog 234 #[.int .i64 n] w fun e w'=>e = .returned (.int .u64 ((1 <<< bitsLen n:Nat):Int)) /\ w' = w :=
 Any.nextPowerOfTwo { Tryz.shSlice with } n hn w
theorem zhK {n:Nat} {lt:α -> α -> Bool} {g:Nat} {lb:Array Value} {sf:Nat} {sb:Array Value} {blk:Nat} {H:Array α -> World -> Prop} (I:SIf n lt g lb sf sb blk H) (a L:Nat) (d:Array α) (w:World) (hH:H d w) (hs:d.size = n) (hb:a + L <= n) (hn:n < 1000000) (h8:8 <= L) :
 Calls Tryz.prog 199 #[.agg #[.func (.func g) #[] lb,.func (.func sf) #[] sb],.int .i64 a,.int .i64 ((a + L:Nat):Int)] w fun e w'=>e = .returned (.tuple #[]) /\ H (breakPatterns d a (a + L)) w' /\ ExtM (fun k=>k = blk) w w':=by
 rw [breakPatterns_eq d a L h8];obtain ⟨M,hM⟩:∃ M:Nat,M = 1 <<< bitsLen L:=⟨_,rfl⟩
 have hM1:1 <= M:=by rw [hM,Nat.one_shiftLeft];exact Nat.two_pow_pos _
 have hM2:M <= 2 * L:=by rw [hM,Nat.one_shiftLeft];exact two_pow_bitsLen_le (by omega)
 have hNP:∀ w,Calls Tryz.prog 234 #[.int .i64 (L:Int)] w fun e w'=>e = .returned (.int .u64 (M:Int)) /\ w' = w:=by rw [hM];exact fun w=>zk2 L (by omega) w
 rw [<- hM];clear hM;have hLz:((a:Int) + (L:Int) - (a:Int)) = (L:Int):=by omega
 have h8z:(8:Int) <= (L:Int):=by omega
 have hbl:=I.lt' d w hH;have hne:w.heap.size ≠ blk:=by omega
 have hx0:Ext w ((w.alloc (.cells #[.func (.func g) #[] lb,.func (.func sf) #[] sb] 193)).alloc (.cells #[.int .u64 (L:Int)] 323)):=((ExtM.refl w).alloc _).alloc _;have hH0:=I.ext d w _ hH hx0;have hnew:∀ d u u',H d u -> ExtM (fun k=>k = w.heap.size + 1) u u' -> H d u':=fun d' u u' h hx=>by
  obtain ⟨B,h1,h2,h3⟩:=I.base;exact h3 d' u u' h (hx.mono fun k _ hk=>by have:=h1 d w hH;omega)
 have HNEW:=Lib.hid hnew;clear hnew;go_enter Tryz.func199,Tryz.ntmps199;go_wp2_with (first | (go_at_call 234;refine (hNP _).mono ?_;rintro e w' ⟨rfl,rfl⟩))
 go_loopg [9] 3 (fun g1 vi wr=>∃ (t:Nat) (r:UInt64) (dk:Array α),vi = .int .i64 ((a:Int) + (L:Int) / 4 * 2 - 1 + (t:Int)) /\ t <= 3 /\ 3 - t <= g1 /\ dk.size = n /\ H dk wr /\ ExtM (fun k=>k = blk \/ k = w.heap.size + 1) ((w.alloc (.cells #[.func (.func g) #[] lb,.func (.func sf) #[] sb] 193)).alloc (.cells #[.int .u64 (L:Int)] 323)) wr /\ w.heap.size + 1 < wr.heap.size /\
  wr.cell? ⟨w.heap.size,1,none⟩ = some (.func (.func sf) #[] sb) /\ wr.cell? ⟨w.heap.size + 1,0,none⟩ = some (.int .u64 (r.toNat:Int)) /\ wr.frozen? ⟨w.heap.size + 1,0,none⟩ = false /\
  Hid (bpRest a L M (a + L / 4 * 2 - 1) (3 - t) t (r,dk) = bpRest a L M (a + L / 4 * 2 - 1) 3 0 (UInt64.ofNat L,d)))
 case atStart =>
  refine ⟨0,UInt64.ofNat L,d,by simp,by omega,by omega,hs,hH0,ExtM.refl _,by simp,by simp,?_,by simp,rfl⟩;rw [show (UInt64.ofNat L).toNat = L from by simp;omega];simp
 case round =>
  obtain ⟨t,r,dk,rfl,ht,hg1,hds,hHk,hxk,hsz,c1,cR,fR,HR⟩:=hrel;by_cases ht3:t < 3
  . have hle:(a:Int) + (L:Int) / 4 * 2 - 1 + (t:Int) <= (a:Int) + (L:Int) / 4 * 2 + 1:=by omega
    obtain ⟨R,hRr⟩:∃ R:Nat,R = r.toNat:=⟨_,rfl⟩
    have lR:R < 18446744073709551616:=by rw [hRr];exact r.toNat_lt
    obtain ⟨R',hR'⟩:∃ R':Nat,R' = xorNextN R:=⟨_,rfl⟩
    have lR':R' < 18446744073709551616:=by rw [hR'];exact xorNextN_lt R lR
    obtain ⟨O,hO⟩:∃ O:Nat,O = R' &&& (M - 1):=⟨_,rfl⟩
    have lO:O <= M - 1:=by rw [hO];exact Nat.and_le_right
    have eAnd:bits .and .u64 (R':Int) ((M:Int) - 1) = (O:Int):=by
     rw [show ((M:Int) - 1) = ((M - 1:Nat):Int) by omega,bits_and_u64_nat _ _ lR' (by omega),hO]
    rw [<- hRr] at cR;have hNext:Calls Tryz.prog 235 #[.pointer (some ⟨w.heap.size + 1,0,none⟩)] wr fun e w'=>e = .returned (.int .u64 (R':Int)) /\ w' = (wr.setCell ⟨w.heap.size + 1,0,none⟩ (.int .u64 (R':Int))).drewN 3:=by
     rw [hR'];exact zlr _ R lR wr cR fR
    have HN:Hid (R' = (xorNext r).toNat /\ O = (xorNext r).toNat &&& (M - 1)):=by
     have e:R' = (xorNext r).toNat:=by rw [hR',hRr,xorNext_toNat]
     exact ⟨e,by rw [hO,e]⟩
    clear hRr hR' hO;have hxS:ExtM (fun k=>k = w.heap.size + 1) wr ((wr.setCell ⟨w.heap.size + 1,0,none⟩ (.int .u64 (R':Int))).drewN 3):=(ExtM.setCell (M:=fun k=>k = w.heap.size + 1) (ExtM.refl wr) (p:=⟨w.heap.size + 1,0,none⟩) (.inr rfl) _).drewN 3;have hH2:=HNEW.out _ _ _ hHk hxS;have hx2:=ExtM.trans _ _ _ hxk (hxS.mono (fun _ _ h=>.inr h):ExtM (fun k=>k = blk \/ k = w.heap.size + 1) _ _);have hs2:=Nat.lt_of_lt_of_le hsz hxS.size;have c1':((wr.setCell ⟨w.heap.size + 1,0,none⟩ (.int .u64 (R':Int))).drewN 3).cell? ⟨w.heap.size,1,none⟩ = some (.func (.func sf) #[] sb):=by
     rw [World.cell?_drewN,World.cell?_setCell_other _ _ _ _ (by intro e;simp only [Addr.mk.injEq,and_true] at e;omega)];exact c1
    have cR':((wr.setCell ⟨w.heap.size + 1,0,none⟩ (.int .u64 (R':Int))).drewN 3).cell? ⟨w.heap.size + 1,0,none⟩ = some (.int .u64 (R':Int)):=by
     rw [World.cell?_drewN];exact World.cell?_setCell_same _ _ _ cR
    have fR':((wr.setCell ⟨w.heap.size + 1,0,none⟩ (.int .u64 (R':Int))).drewN 3).frozen? ⟨w.heap.size + 1,0,none⟩ = false:=by
     rw [World.frozen?_drewN];simpa using fR
    clear hxS;generalize (wr.setCell ⟨w.heap.size + 1,0,none⟩ (.int .u64 (R':Int))).drewN 3 = w2 at hNext hH2 hx2 hs2 c1' cR' fR';clear c1 cR fR hHk hxk;by_cases hLO:L <= O
    . have hLOz:(L:Int) <= (O:Int):=by omega
      have S3:=I.swap dk w2 (a + L / 4 * 2 - 1 + t) (a + (O - L)) hds hH2 (by omega) (by omega);obtain ⟨w3,hsw,hH3,hx3⟩:=S3;rw [show ((a + L / 4 * 2 - 1 + t:Nat):Int) = (a:Int) + (L:Int) / 4 * 2 - 1 + (t:Int) by omega,show (((a + (O - L)):Nat):Int) = (a:Int) + ((O:Int) - (L:Int)) by omega] at hsw;have hx3':ExtM (fun k=>k = blk \/ k = w.heap.size + 1) w2 w3:=hx3.mono (fun _ _ h=>.inl h);obtain ⟨k1,k2,k3⟩:w3.cell? ⟨w.heap.size + 1,0,none⟩ = some (.int .u64 (R':Int)) /\ w3.frozen? ⟨w.heap.size + 1,0,none⟩ = false /\ w3.cell? ⟨w.heap.size,1,none⟩ = some (.func (.func sf) #[] sb) :=
       ⟨(hx3.cell (p:=⟨w.heap.size + 1,0,none⟩) hs2 (by simp;omega)).trans cR',(hx3.frozen (p:=⟨w.heap.size + 1,0,none⟩) hs2 (by simp;omega)).trans fR',(hx3.cell (p:=⟨w.heap.size,1,none⟩) (by simp;omega) (by simp;omega)).trans c1'⟩
      have KK:=Lib.hid (And.intro k1 (And.intro k2 k3));clear k1 k2 k3;go_wp2_with (go_at_call 235;refine hNext.mono ?_;rintro e w' ⟨rfl,rfl⟩);go_roundg (3 - (t + 1))
      case measure=>omega
      case rel=>exact ⟨t + 1,xorNext r,swp dk (a + L / 4 * 2 - 1 + t) (a + (O - L)),by congr 1;push_cast;omega,by omega,Nat.le_refl _,by rw [size_swp];exact hds,hH3,ExtM.trans _ _ _ hx2 hx3',Nat.lt_of_lt_of_le hs2 hx3.size,KK.out.2.2,by rw [<- HN.out.1];exact KK.out.1,KK.out.2.1,
       (show Hid _ from by rw [<- HR.out,bp_step a L M _ t r dk (O - L) ht3 (by rw [<- HN.out.2,if_pos (show O >= L by omega)];try omega)];exact rfl)⟩
    . have hLOz:¬ (L:Int) <= (O:Int):=by omega
      have S3:=I.swap dk w2 (a + L / 4 * 2 - 1 + t) (a + O) hds hH2 (by omega) (by omega);obtain ⟨w3,hsw,hH3,hx3⟩:=S3;rw [show ((a + L / 4 * 2 - 1 + t:Nat):Int) = (a:Int) + (L:Int) / 4 * 2 - 1 + (t:Int) by omega,show (((a + O):Nat):Int) = (a:Int) + (O:Int) by omega] at hsw;have hx3':ExtM (fun k=>k = blk \/ k = w.heap.size + 1) w2 w3:=hx3.mono (fun _ _ h=>.inl h);obtain ⟨k1,k2,k3⟩:w3.cell? ⟨w.heap.size + 1,0,none⟩ = some (.int .u64 (R':Int)) /\ w3.frozen? ⟨w.heap.size + 1,0,none⟩ = false /\ w3.cell? ⟨w.heap.size,1,none⟩ = some (.func (.func sf) #[] sb) :=
       ⟨(hx3.cell (p:=⟨w.heap.size + 1,0,none⟩) hs2 (by simp;omega)).trans cR',(hx3.frozen (p:=⟨w.heap.size + 1,0,none⟩) hs2 (by simp;omega)).trans fR',(hx3.cell (p:=⟨w.heap.size,1,none⟩) (by simp;omega) (by simp;omega)).trans c1'⟩
      have KK:=Lib.hid (And.intro k1 (And.intro k2 k3));clear k1 k2 k3;go_wp2_with (go_at_call 235;refine hNext.mono ?_;rintro e w' ⟨rfl,rfl⟩);go_roundg (3 - (t + 1))
      case measure=>omega
      case rel=>exact ⟨t + 1,xorNext r,swp dk (a + L / 4 * 2 - 1 + t) (a + O),by congr 1;push_cast;omega,by omega,Nat.le_refl _,by rw [size_swp];exact hds,hH3,ExtM.trans _ _ _ hx2 hx3',Nat.lt_of_lt_of_le hs2 hx3.size,KK.out.2.2,by rw [<- HN.out.1];exact KK.out.1,KK.out.2.1,
       (show Hid _ from by rw [<- HR.out,bp_step a L M _ t r dk O ht3 (by rw [<- HN.out.2,if_neg (show ¬ O >= L by omega)];try omega)];exact rfl)⟩
  . obtain rfl:t = 3:=by omega
    have hle:¬ ((a:Int) + (L:Int) / 4 * 2 - 1 + ((3:Nat):Int) <= (a:Int) + (L:Int) / 4 * 2 + 1):=by omega
    go_wp2;go_end0;refine ⟨rfl,?_,zh6 hx0 (by omega) hxk⟩;rw [<- HR.out];exact hHk
theorem ziP {n:Nat} {lt:α -> α -> Bool} {g:Nat} {lb:Array Value} {sf:Nat} {sb:Array Value} {blk:Nat} {H:Array α -> World -> Prop} (I:SIf n lt g lb sf sb blk H) (a b:Nat) (d:Array α) (w:World) (hH:H d w) (hs:d.size = n) (hab:a <= b) (hb:b <= n) (hn:n < 1000000) :
 Calls Tryz.prog 199 #[.agg #[.func (.func g) #[] lb,.func (.func sf) #[] sb],.int .i64 a,.int .i64 b] w fun e w'=>e = .returned (.tuple #[]) /\ H (breakPatterns d a b) w' /\ ExtM (fun k=>k = blk) w w':=by
 obtain ⟨L,rfl⟩:∃ L,b = a + L:=⟨b - a,by omega⟩
 by_cases h8:8 <= L
 . exact zhK I a L d w hH hs hb hn h8
 . have hv:breakPatterns d a (a + L) = d:=by unfold breakPatterns;simp only [Nat.add_sub_cancel_left];rw [if_neg h8]
   rw [hv];have hLz:((a:Int) + (L:Int) - (a:Int)) = (L:Int):=by omega
   have h8z:¬ (8:Int) <= (L:Int):=by omega
   have hx1:Ext w (w.alloc (.cells #[.func (.func g) #[] lb,.func (.func sf) #[] sb] 193)):=(ExtM.refl w).alloc _;have hH1:=I.ext d w _ hH hx1;go_enter Tryz.func199,Tryz.ntmps199;go_wp2;go_end0;exact ⟨rfl,hH1,zae hx1⟩
variable {α:Type} [Inhabited α]
theorem zp8 {n:Nat} {lt:α -> α -> Bool} {g:Nat} {lb:Array Value} {sf:Nat} {sb:Array Value} {blk:Nat} {H:Array α -> World -> Prop} (I:SIf n lt g lb sf sb blk H) (hO:SWO lt) (hn:n < 1000000) :
 ∀ (N a b limit:Nat) (d:Array α) (w:World),b - a < N -> H d w -> d.size = n -> a <= b -> b <= n -> limit < 4611686018427387904 -> Sort.Below lt a b d ->
 Calls Tryz.prog 147 #[.agg #[.func (.func g) #[] lb,.func (.func sf) #[] sb],.int .i64 a,.int .i64 b,.int .i64 limit] w fun e w'=>e = .returned (.tuple #[]) /\ H (pdq lt d a b limit true true) w' /\ ExtM (fun k=>k = blk) w w':=by
 intro N;induction N with
 | zero=>intro _ _ _ _ _ h;exact absurd h (Nat.not_lt_zero _)
 | succ N ih =>
   intro a b limit d w hN hH hs hab hb hlimit hBel0;have IH:=Lib.hid ih;clear ih;have hbl:=I.lt' d w hH;have hx1:Ext w (w.alloc (.cells #[.func (.func g) #[] lb,.func (.func sf) #[] sb] 193)):=(ExtM.refl w).alloc _;have hH1:=I.ext d w _ hH hx1;have eg:=I.eg;go_enter Tryz.func147,Tryz.ntmps147;go_wp2;have q0:(w.alloc (.cells #[.func (.func g) #[] lb,.func (.func sf) #[] sb] 193)).cell? ⟨w.heap.size,0,none⟩ = some (.func (.func g) #[] lb):=by go_simp
   have q1:(w.alloc (.cells #[.func (.func g) #[] lb,.func (.func sf) #[] sb] 193)).cell? ⟨w.heap.size,1,none⟩ = some (.func (.func sf) #[] sb):=by go_simp
   have hN1:w.heap.size < (w.alloc (.cells #[.func (.func g) #[] lb,.func (.func sf) #[] sb] 193)).heap.size:=by simp
   generalize w.alloc (.cells #[.func (.func g) #[] lb,.func (.func sf) #[] sb] 193) = W1 at *;have hcc:∀ u,ExtM (fun k=>k = blk) W1 u -> u.cell? ⟨w.heap.size,0,none⟩ = some (.func (.func g) #[] lb) /\ u.cell? ⟨w.heap.size,1,none⟩ = some (.func (.func sf) #[] sb):=fun u hu =>
    ⟨(hu.cell (p:=⟨w.heap.size,0,none⟩) hN1 (by simp;omega)).trans q0,(hu.cell (p:=⟨w.heap.size,1,none⟩) hN1 (by simp;omega)).trans q1⟩
   have HCC:=Lib.hid hcc;clear hcc q0 q1
   go_loopg [1,2,3,8,9] (b - a) (fun k s1 s2 s3 s8 s9 wr=>∃ (a' b' lim:Nat) (wb wp:Bool) (dk:Array α),s1 = .int .i64 a' /\ s2 = .int .i64 b' /\ s3 = .int .i64 lim /\ s8 = .bool wb /\ s9 = .bool wp /\
    a' <= b' /\ b' <= n /\ b' - a' <= k /\ k <= b - a /\ lim <= limit /\ dk.size = n /\ Sort.Below lt a' b' dk /\ H dk wr /\ ExtM (fun k=>k = blk) W1 wr /\ pdq lt dk a' b' lim wb wp = pdq lt d a b limit true true)
   case atStart=>exact ⟨a,b,limit,true,true,d,rfl,rfl,rfl,rfl,rfl,hab,hb,Nat.le_refl _,Nat.le_refl _,Nat.le_refl _,hs,hBel0,hH1,ExtM.refl _,rfl⟩
   case round =>
    obtain ⟨a',b',lim,wb,wp,dk,rfl,rfl,rfl,rfl,rfl,hab',hb',hk,hkN,hlim,hds,hBel,hHk,hxk,heq⟩:=hrel;obtain ⟨x0,x1⟩:=HCC.out _ hxk;have A:Aside (pdq lt dk a' b' lim wb wp = pdq lt d a b limit true true):=heq;clear heq hBel0 hH1 hH;have hend:∀ u,ExtM (fun k=>k = blk) W1 u -> ExtM (fun k=>k = blk) w u:=fun u hu=>ExtM.trans _ _ _ (zae hx1) hu;have HEND:=Lib.hid hend;clear hend;by_cases h12:b' - a' <= 12
    . have h12z:(b':Int) - (a':Int) <= 12:=by omega
      have hc:=zeb I a' b' dk wr hHk hds hab' (by omega) hn;go_wp2_with (go_at_call 157;refine hc.mono ?_;rintro e w1 ⟨rfl,hHw1,hyw1⟩)
      (try simp only [Exit.inBlock,Exit.then]);refine bodyPost_ret (results_none rfl _ _ _) rfl ?_
      refine ⟨rfl,?_,HEND.out _ (ExtM.trans _ _ _ hxk hyw1)⟩;rw [<- A.out,pdq_small h12];exact hHw1
    . have h12z:¬ ((b':Int) - (a':Int) <= 12):=by omega
      by_cases hl0:lim = 0
      . subst hl0;have hc:=zjl I a' b' dk wr hHk hds hab' (by omega) hn;go_wp2_with (go_at_call 198;refine hc.mono ?_;rintro e w1 ⟨rfl,hHw1,hyw1⟩)
        (try simp only [Exit.inBlock,Exit.then]);refine bodyPost_ret (results_none rfl _ _ _) rfl ?_
        refine ⟨rfl,?_,HEND.out _ (ExtM.trans _ _ _ hxk hyw1)⟩;rw [<- A.out,pdq_heap h12 rfl];exact hHw1
      . have hl0z:¬ ((lim:Int) = 0):=by omega
        obtain ⟨s1,B1,hc1,s2,B2,hpv,s3,B3⟩:=rd_facts (lt:=lt) (limit:=lim) (wb:=wb) (wp:=wp) hO partialInsertionSort_holds reverseRange_holds (show a' < b' by omega) (show b' <= dk.size by omega) hBel;go_upto_if 35 with fail;go_cut [3] from 19 (fun s3 wc=>s3 = .int .i64 (rd lt dk a' b' lim wb wp).lim /\ H (rd lt dk a' b' lim wb wp).d1 wc /\ ExtM (fun k=>k = blk) W1 wc)
        case first =>
         cases wb
         . have hc:=ziP I a' b' dk wr hHk hds hab' (by omega) hn;go_wp2_with (go_at_call 199;refine hc.mono ?_;rintro e w1 ⟨rfl,hHw1,hyw1⟩);go_meet
           case rel =>
            refine ⟨?_,hHw1,ExtM.trans _ _ _ hxk hyw1⟩;show Value.int .i64 ((lim:Int) - 1) = Value.int .i64 ((lim - 1:Nat):Int);congr 1;omega
         . go_wp2_with fail;go_meet
           case rel=>exact ⟨rfl,hHk,hxk⟩
        case rest =>
         obtain ⟨rfl,hH1,hxc⟩:=hcut;clear x0 x1 hHk hxk;obtain ⟨y0,y1⟩:=HCC.out _ hxc;have hc17:Calls Tryz.prog 200 #[.agg #[.func (.func g) #[] lb,.func (.func sf) #[] sb],.int .i64 a',.int .i64 b'] wc fun e w'=>e = .returned (.tuple #[.int .i64 (rd lt dk a' b' lim wb wp).c.1,.int .i64 (hintCode (rd lt dk a' b' lim wb wp).c.2)]) /\ H (rd lt dk a' b' lim wb wp).d1 w' /\ Ext wc w' :=
          zf8 I a' b' (rd lt dk a' b' lim wb wp).d1 wc hH1 (s1.trans hds) (by omega) (by omega) hn
         go_upto_if 50 with (go_at_call 200;refine hc17.mono ?_;rintro e w2 ⟨rfl,hHw2,hyw2⟩)
         have hxw2:=ExtM.trans _ _ _ hxc (zae hyw2);clear y0 y1 hc17;obtain ⟨z0,z1⟩:=HCC.out _ hxw2;go_cut [11,12] from 19 (fun s11 s12 wc=>s11 = .int .i64 (rd lt dk a' b' lim wb wp).pivot /\ s12 = .int .i64 (hintCode (rd lt dk a' b' lim wb wp).hint) /\ H (rd lt dk a' b' lim wb wp).d2 wc /\ ExtM (fun k=>k = blk) W1 wc)
         case first =>
          by_cases hh:(rd lt dk a' b' lim wb wp).c.2 = .decreasing
          . have hcode:hintCode (rd lt dk a' b' lim wb wp).c.2 = 2:=by rw [hh];rfl
            obtain ⟨e2,epv,eht⟩:=rd_dec hh;have hc18:=ze3 I a' b' (rd lt dk a' b' lim wb wp).d1 w2 hHw2 (s1.trans hds) hab' (by omega) hn;go_wp2_with (go_at_call 201;refine hc18.mono ?_;rintro e w3 ⟨rfl,hHw3,hyw3⟩);go_meet
            case rel =>
             refine ⟨?_,by rw [eht];rfl,by rw [e2];exact hHw3,ExtM.trans _ _ _ hxw2 hyw3⟩;rw [epv];congr 1;omega
          . have hcode:¬ (hintCode (rd lt dk a' b' lim wb wp).c.2 = 2):=fun h=>hh (hintCode_two h);obtain ⟨e2,epv,eht⟩:=rd_not hh;go_wp2_with fail;go_meet
            case rel=>exact ⟨by rw [epv],by rw [eht],by rw [e2];exact hHw2,hxw2⟩
         case rest =>
          clear hHw2 hxw2 hyw2 hH1 hxc z0 z1;obtain ⟨rfl,rfl,hH3,hx3⟩:=hcut;obtain ⟨v0,v1⟩:=HCC.out _ hx3;go_upto_region 16 with fail;go_cut [12,68] from 19 (fun s12 s68 wx=>s12 = .int .i64 (hintCode (rd lt dk a' b' lim wb wp).hint) /\ s68 = .bool (wb && wp && decide ((rd lt dk a' b' lim wb wp).hint = .increasing)) /\ wx = wc)
          case first =>
           cases wb <;> cases wp <;> cases hh3:(rd lt dk a' b' lim _ _).hint <;>
            (have hcode3:=congrArg hintCode hh3
             simp only [hintCode] at hcode3;go_wp2_with fail;go_meet
             exact ⟨by simp [hh3,hintCode],by simp [hh3,hintCode],rfl⟩)
          case rest =>
           obtain ⟨rfl,rfl,rfl⟩:=hcut;go_upto_if 68 with fail;go_cut [] from 19 (fun wx=>(rd lt dk a' b' lim wb wp).pi.2 = false /\ H (rd lt dk a' b' lim wb wp).pi.1 wx /\ ExtM (fun k=>k = blk) W1 wx)
           case first =>
            cases h68:(wb && wp && decide ((rd lt dk a' b' lim wb wp).hint = .increasing))
            . have epi:=rd_pi_no h68;go_wp2_with fail;go_meet
              case rel=>exact ⟨by rw [epi],by rw [epi];exact hH3,hx3⟩
            . have epi:=rd_pi_yes h68;have hc19:=zgE I a' b' (rd lt dk a' b' lim wb wp).d2 wc hH3 (s2.trans hds) (by omega) (by omega) hn;rw [<- epi] at hc19;go_wp2_with (go_at_call 202;refine hc19.mono ?_;rintro e w4 ⟨rfl,hHw4,hyw4⟩)
              all_goals first
               | (have hp2:(rd lt dk a' b' lim wb wp).pi.2 = false:=by rw [epi];assumption
                  go_meet
                  exact ⟨hp2,hHw4,ExtM.trans _ _ _ hx3 hyw4⟩)
               | (have hp2:(rd lt dk a' b' lim wb wp).pi.2 = true:=by rw [epi];assumption
                  (try simp only [Exit.inBlock,Exit.then]);refine bodyPost_ret (results_none rfl _ _ _) rfl ?_
                  refine ⟨rfl,?_,HEND.out _ (ExtM.trans _ _ _ hx3 hyw4)⟩;rw [<- A.out,pdq_done h12 hl0 hp2]
                  exact hHw4)
           case rest =>
            clear v0 v1 hH3 hx3;obtain ⟨hp2,hH5,hx5⟩:=hcut;obtain ⟨t0,t1⟩:=HCC.out _ hx5;go_upto_region 18 with fail;go_cut [83] from 19 (fun s83 wx=>s83 = .bool (decide (a' > 0) && !lt (rd lt dk a' b' lim wb wp).pi.1[a' - 1]! (rd lt dk a' b' lim wb wp).pi.1[(rd lt dk a' b' lim wb wp).pivot]!) /\ H (rd lt dk a' b' lim wb wp).pi.1 wx /\ ExtM (fun k=>k = blk) W1 wx)
            case first =>
             rcases Nat.eq_zero_or_pos a' with ha0 | ha0
             . have ha0z:decide ((a':Int) > 0) = false:=decide_eq_false (by omega);go_wp2_with fail;go_meet
               case rel=>exact ⟨by simp [ha0],hH5,hx5⟩
             . have ha0z:(a':Int) > 0:=by omega
               have hl:=I.less (rd lt dk a' b' lim wb wp).pi.1 wc (a' - 1) (rd lt dk a' b' lim wb wp).pivot (s3.trans hds) hH5 (by omega) (by omega);rw [show ((a' - 1:Nat):Int) = (a':Int) - 1 by omega] at hl;cases hlv:lt (rd lt dk a' b' lim wb wp).pi.1[a' - 1]! (rd lt dk a' b' lim wb wp).pi.1[(rd lt dk a' b' lim wb wp).pivot]! <;>
                (rw [hlv] at hl
                 go_wp2_with (go_at_fn g;refine hl.mono ?_;rintro e w' ⟨rfl,hy⟩);go_meet
                 exact ⟨by simp [ha0,hlv],I.ext _ _ _ hH5 hy,ExtM.trans _ _ _ hx5 (zae hy)⟩)
            case rest =>
             clear t0 t1 hH5 hx5;obtain ⟨rfl,hH6,hx6⟩:=hcut;obtain ⟨q0,q1⟩:=HCC.out _ hx6;cases h87:(decide (a' > 0) && !lt (rd lt dk a' b' lim wb wp).pi.1[a' - 1]! (rd lt dk a' b' lim wb wp).pi.1[(rd lt dk a' b' lim wb wp).pivot]!)
             . obtain ⟨mid,ap,d4,hx⟩:∃ mid ap d4,partition lt (rd lt dk a' b' lim wb wp).pi.1 a' b' (rd lt dk a' b' lim wb wp).pivot = (mid,ap,d4):=⟨(partition lt (rd lt dk a' b' lim wb wp).pi.1 a' b' (rd lt dk a' b' lim wb wp).pivot).1,(partition lt (rd lt dk a' b' lim wb wp).pi.1 a' b' (rd lt dk a' b' lim wb wp).pivot).2.1,(partition lt (rd lt dk a' b' lim wb wp).pi.1 a' b' (rd lt dk a' b' lim wb wp).pivot).2.2,rfl⟩
               obtain ⟨r1,r2,r3,r4,r5,r6,r7⟩:=round_part hO (partition_holds lt) hpv.1 hpv.2 (show b' <= (rd lt dk a' b' lim wb wp).pi.1.size by omega) B3 hx;have hc22:=zho I a' b' (rd lt dk a' b' lim wb wp).pivot (rd lt dk a' b' lim wb wp).pi.1 wc hH6 (s3.trans hds) hpv.1 hpv.2 (by omega) hn;rw [hx] at hc22;have X:Aside (partition lt (rd lt dk a' b' lim wb wp).pi.1 a' b' (rd lt dk a' b' lim wb wp).pivot = (mid,ap,d4)):=hx;clear hx;go_upto_if 109 with (go_at_call 204;refine hc22.mono ?_;rintro e w7 ⟨rfl,hH7,hyw7⟩)
               have hx:=X.out;have hs4:d4.size = n:=r3.trans (s3.trans hds);have hx7:=ExtM.trans _ _ _ hx6 hyw7;clear q0 q1 hH6 hx6 hyw7;obtain ⟨p0,p1⟩:=HCC.out _ hx7;by_cases h4:mid - a' < b' - mid
               . have h4z:(mid:Int) - (a':Int) < (b':Int) - (mid:Int):=by omega
                 have hih:=IH.out a' mid (rd lt dk a' b' lim wb wp).lim d4 w7 (by omega) hH7 hs4 (by omega) (by omega) (Nat.lt_of_le_of_lt (Nat.le_trans rd_lim_le hlim) hlimit) r4;obtain ⟨pL,sL⟩:=pdq_sorts lt hO d4 a' mid (rd lt dk a' b' lim wb wp).lim true true (by omega) (by omega) r4;go_wp2_with (go_at_call 147;refine hih.mono ?_;rintro e w8 ⟨rfl,hHw8,hyw8⟩);go_roundg (b' - (mid + 1))
                 case measure=>omega
                 case rel =>
                  refine ⟨mid + 1,b',(rd lt dk a' b' lim wb wp).lim,decide (mid - a' >= (b' - a') / 8),ap,pdq lt d4 a' mid (rd lt dk a' b' lim wb wp).lim true true,by simp,rfl,rfl,?_,rfl,by omega,by omega,Nat.le_refl _,by omega,Nat.le_trans rd_lim_le hlim,by rw [pL.1,hs4],(r6 _ pL sL).1,hHw8,ExtM.trans _ _ _ hx7 hyw8,?_⟩
                  . exact congrArg Value.bool (eighth (by omega) (by omega))
                  . rw [<- A.out,pdq_left h12 hl0 hp2 h87 (by rw [hx];exact ⟨r1,r2⟩) (by rw [hx];exact h4),hx]
               . have h4z:¬ ((mid:Int) - (a':Int) < (b':Int) - (mid:Int)):=by omega
                 have hih:=IH.out (mid + 1) b' (rd lt dk a' b' lim wb wp).lim d4 w7 (by omega) hH7 hs4 (by omega) (by omega) (Nat.lt_of_le_of_lt (Nat.le_trans rd_lim_le hlim) hlimit) r5;rw [show ((mid + 1:Nat):Int) = (mid:Int) + 1 by omega] at hih;obtain ⟨pL,sL⟩:=pdq_sorts lt hO d4 (mid + 1) b' (rd lt dk a' b' lim wb wp).lim true true (by omega) (by omega) r5;go_wp2_with (go_at_call 147;refine hih.mono ?_;rintro e w8 ⟨rfl,hHw8,hyw8⟩);go_roundg (mid - a')
                 case measure=>omega
                 case rel =>
                  refine ⟨a',mid,(rd lt dk a' b' lim wb wp).lim,decide (b' - mid >= (b' - a') / 8),ap,pdq lt d4 (mid + 1) b' (rd lt dk a' b' lim wb wp).lim true true,rfl,rfl,rfl,?_,rfl,by omega,by omega,Nat.le_refl _,by omega,Nat.le_trans rd_lim_le hlim,by rw [pL.1,hs4],(r7 _ pL sL).1,hHw8,ExtM.trans _ _ _ hx7 hyw8,?_⟩
                  . exact congrArg Value.bool (eighth (by omega) (by omega))
                  . rw [<- A.out,pdq_right h12 hl0 hp2 h87 (by rw [hx];exact ⟨r1,r2⟩) (by rw [hx];exact h4),hx]
             . have h87':=h87;simp only [Bool.and_eq_true,decide_eq_true_eq,Bool.not_eq_true'] at h87';obtain ⟨mid,d4,hx⟩:∃ mid d4,partitionEqual lt (rd lt dk a' b' lim wb wp).pi.1 a' b' (rd lt dk a' b' lim wb wp).pivot = (mid,d4):=⟨(partitionEqual lt (rd lt dk a' b' lim wb wp).pi.1 a' b' (rd lt dk a' b' lim wb wp).pivot).1,(partitionEqual lt (rd lt dk a' b' lim wb wp).pi.1 a' b' (rd lt dk a' b' lim wb wp).pivot).2,rfl⟩
               obtain ⟨r1,r2,r3,r4,_⟩:=round_eq hO (partitionEqual_holds lt) h87'.1 hpv.1 hpv.2 (show b' <= (rd lt dk a' b' lim wb wp).pi.1.size by omega) B3 h87'.2 hx;have hc21:=zlD I a' b' (rd lt dk a' b' lim wb wp).pivot (rd lt dk a' b' lim wb wp).pi.1 wc hH6 (s3.trans hds) hpv.1 hpv.2 (by omega) hn;rw [hx] at hc21;have X:Aside (partitionEqual lt (rd lt dk a' b' lim wb wp).pi.1 a' b' (rd lt dk a' b' lim wb wp).pivot = (mid,d4)):=hx;clear hx;go_wp2_with (go_at_call 203;refine hc21.mono ?_;rintro e w7 ⟨rfl,hHw7,hyw7⟩);go_roundg (b' - mid)
               case measure=>omega
               case rel =>
                have hx:=X.out;exact ⟨mid,b',(rd lt dk a' b' lim wb wp).lim,wb,wp,d4,rfl,rfl,rfl,rfl,rfl,r2,hb',Nat.le_refl _,by omega,Nat.le_trans rd_lim_le hlim,by rw [r3,s3,hds],r4,hHw7,ExtM.trans _ _ _ hx6 hyw7,by rw [<- A.out,pdq_eq h12 hl0 hp2 h87 (by rw [hx];exact ⟨r1,r2⟩),hx]⟩
theorem zhS (w:World) (os:Array Obj):Ext w (grow w os):=by
 refine ⟨rfl,rfl,rfl,by rw [size_grow];omega,fun k hk _=>?_⟩;unfold grow;simp only;rw [Array.getElem?_append_left hk]
theorem zbH {M:Nat -> Prop} {w:World} {b o:Nat} (h:M b) (u:Value):ExtM M w (w.setCell ⟨b,o,none⟩ u):=ExtM.setCell (M:=M) (ExtM.refl w) (p:=⟨b,o,none⟩) (.inr h) u
theorem zgJ:(Tryz.prog.info? 81).map (fun i=>i.desc) = some (.slice 3):=by kernel_rfl
theorem zi7:(Tryz.prog.info? 3).map (fun i=>(i.size,i.bytes,i.hasPointers)) = some (1,8,false):=by kernel_rfl
theorem zda:Tryz.prog.packed 81 = false:=by kernel_rfl
theorem zfH (w:World):(Extern.Rtype.kind 3).run Tryz.prog w = .ok 2 w:=by kernel_rfl
theorem zk0 (w:World):(isAgg 3).run Tryz.prog w = .ok false w:=by kernel_rfl
theorem zi5 : Tryz.prog.funcs.findIdx? (·.name == "internal/reflectlite" ++ ".Swapper$" ++ toString 1) = some 148 := by kernel_rfl
theorem zm7 : Tryz.prog.funcs.findIdx? (·.name == "internal/reflectlite" ++ ".Swapper$" ++ toString 2) = some 149 := by kernel_rfl
theorem zmu : Tryz.prog.funcs.findIdx? (·.name == "internal/reflectlite" ++ ".Swapper$" ++ toString 5) = some 152 := by kernel_rfl
theorem zlF (args:Array Value) (W:World):(callFunc 152 args).run Tryz.prog W = ((Extern.ReflectliteSwapper.swap true args).run Tryz.prog W).andThen fun v w'=>.ok (.value v) w' :=
 run_callFunc_extern Tryz.func152 (by kernel_rfl) (by kernel_rfl) (by kernel_rfl) (by kernel_rfl) args W
def zok (P:Int -> Prop) (blk n:Nat) (W0:World) (d:Array Int) (W:World):Prop:=Holds (Value.int .i64) W blk 0 d /\ (∀ k,k < n -> P d[k]!) /\ ExtM (fun k=>k = blk) W0 W
theorem zml {P:Int -> Prop} {lt:Int -> Int -> Bool} (hO:SWO lt) (g:Nat) (lb:Array Value) (blk cap:Nat) (d:Array Int) (w:World) (hn:d.size < 1000000) (eg:∀ args w,(callFunc g args).run Tryz.prog w = .ok (.enter g args) w) (hH:Holds (Value.int .i64) w blk 0 d) (hP:∀ k,k < d.size -> P d[k]!) (hblk:blk < w.heap.size)
 (hless:∀ (D:Array Int) (W:World) (i j:Nat),D.size = d.size -> zok P blk d.size w D W -> i < d.size -> j < d.size -> Calls Tryz.prog g (#[.int .i64 i,.int .i64 j] ++ lb) W fun e w'=>e = .returned (.bool (lt D[i]! D[j]!)) /\ Ext W w') :
 Calls Tryz.prog 108 #[.iface 81 (.slice (some ⟨blk,0,none⟩) d.size cap),.func (.func g) #[] lb] w fun e w'=>e = .returned (.tuple #[]) /\ ∃ d',PermIn 0 d.size d d' /\ SortedIn lt 0 d.size d' /\ Holds (Value.int .i64) w' blk 0 d' /\ ExtM (fun k=>k = blk) w w':=by
 obtain ⟨i,hi,hd⟩:∃ i,Tryz.prog.info? 81 = some i /\ i.desc = .slice 3:=by
  have h:=zgJ;cases h2:Tryz.prog.info? 81 with
  | none=>rw [h2] at h;simp at h
  | some i=>rw [h2] at h;exact ⟨i,rfl,by simpa using h⟩
 obtain ⟨ie,hie,hs1,hs8,hsp⟩:∃ i,Tryz.prog.info? 3 = some i /\ i.size = 1 /\ i.bytes = 8 /\ i.hasPointers = false:=by
  have h:=zi7;cases h2:Tryz.prog.info? 3 with
  | none=>rw [h2] at h;simp at h
  | some i=>rw [h2] at h;simp at h;exact ⟨i,rfl,h⟩
 by_cases h2:d.size <= 1
 . have ht:=Any.sort_Slice_tiny Tryz.shSlice 81 3 i ie hi hd zda hie 2 zfH (some ⟨blk,0,none⟩) d.size cap h2 (if d.size = 0 then 148 else 149)
    (by
      by_cases h0:d.size = 0
      . rw [h0];exact zi5
      . rw [show d.size = 1 by omega];exact zm7) (.func g) #[] lb w
   refine ht.mono ?_;rintro e w' ⟨he,os,rfl⟩;have hx:=zhS w os;refine ⟨he,d,permIn_refl _ _ _,fun x y h1 h2' h3=>by omega,fun k hk=>?_,hx.mono (fun _ _ h=>h.elim)⟩;exact ⟨(hx.cell (p:=⟨blk,0 + k,none⟩) hblk (fun h=>h)).trans (hH k hk).1,(hx.frozen (p:=⟨blk,0 + k,none⟩) hblk (fun h=>h)).trans (hH k hk).2⟩
 . have hK:Lib.swapperK d.size ie 2 = 5:=by
    unfold Lib.swapperK;simp [hs8,hsp,show d.size ≠ 0 by omega,show d.size ≠ 1 by omega]
   refine Any.sort_Slice_of_pdq Tryz.shSlice 81 3 i ie hi hd zda hie 2 zfH (some ⟨blk,0,none⟩) d.size cap (by omega) 152 (by rw [hK];exact zmu) (.func g) #[] lb w _ ?_;have hB:sliceBound Tryz.prog 3 ie 2 (some ⟨blk,0,none⟩) d.size cap = #[.slice (some ⟨blk,0,none⟩) d.size cap,Go.typeHandle Tryz.prog 3]:=by
    unfold sliceBound;rw [if_neg (swapperK_gt _ _ _ (by omega))]
   rw [hB];have hsw:SwapSwaps Tryz.prog 152 #[.slice (some ⟨blk,0,none⟩) d.size cap,Go.typeHandle Tryz.prog 3] (Value.int .i64) blk 0 d.size :=
    swapSwaps_of_literal true 152 zlF 3 ie hie hs1 zk0 (Value.int .i64) (fun _=>rfl) blk 0 d.size cap
   have I:SIf d.size lt g lb 152 #[.slice (some ⟨blk,0,none⟩) d.size cap,Go.typeHandle Tryz.prog 3] blk (fun D W=>D.size = d.size /\ zok P blk d.size w D W):=by
    refine ⟨⟨w.heap.size,fun D W h=>h.2.2.2.size,hblk,fun D W W' h hx=>⟨h.1,fun k hk=>?_,h.2.2.1,?_⟩⟩,eg,fun D W i j hs h hi hj=>hless D W i j hs h.2 hi hj,fun D W i j hs h hi hj=>?_⟩
    . have hb:blk < W.heap.size:=Nat.lt_of_lt_of_le hblk h.2.2.2.size;exact ⟨(hx.cell (p:=⟨blk,0 + k,none⟩) hb (by simp;exact hblk)).trans (h.2.1 k hk).1,(hx.frozen (p:=⟨blk,0 + k,none⟩) hb (by simp;exact hblk)).trans (h.2.1 k hk).2⟩
    . have h4:=h.2.2.2;exact ⟨hx.os.trans h4.os,hx.tape.trans h4.tape,hx.output.trans h4.output,Nat.le_trans h4.size hx.size,fun k hk hn=>(hx.block k (Nat.lt_of_lt_of_le hk h4.size) (by omega)).trans (h4.block k hk hn)⟩
    . refine ⟨_,hsw W D h.2.1 hs i j hi hj,⟨by rw [size_swp];exact hs,fun k hk=>?_,fun k hk=>?_,?_⟩,ExtM.trans _ _ _ (zbH (M:=fun k=>k = blk) rfl _) (zbH (M:=fun k=>k = blk) rfl _)⟩
      . have e:=putRow_swp (Value.int .i64) W blk 0 D i j (by omega) (by omega);rw [putRow_self _ _ _ _ _ h.2.1] at e;rw [e];exact holds_putRow (Value.int .i64) W blk 0 D (swp D i j) h.2.1 (size_swp _ _ _) k hk
      . rw [zig D (by omega) (by omega)];split
        . exact h.2.2.1 _ hi
        . split
          . exact h.2.2.1 _ hj
          . exact h.2.2.1 _ hk
      . exact ExtM.trans _ _ _ h.2.2.2 (ExtM.trans _ _ _ (zbH (M:=fun k=>k = blk) rfl _) (zbH (M:=fun k=>k = blk) rfl _))
   have hx0:Ext w (sliceWorld Tryz.prog Tryz.shSlice_ren 81 (some ⟨blk,0,none⟩) d.size cap w):=((ExtM.refl w).alloc _).alloc _;have hH0:d.size = d.size /\ zok P blk d.size w d (sliceWorld Tryz.prog Tryz.shSlice_ren 81 (some ⟨blk,0,none⟩) d.size cap w) :=
    ⟨rfl,fun k hk=>⟨(hx0.cell (p:=⟨blk,0 + k,none⟩) hblk (fun h=>h)).trans (hH k hk).1,(hx0.frozen (p:=⟨blk,0 + k,none⟩) hblk (fun h=>h)).trans (hH k hk).2⟩,hP,hx0.mono (fun _ _ h=>h.elim)⟩
   have hlim:Lib.bitLen d.size < 4611686018427387904:=Nat.lt_of_le_of_lt (Lib.bitLen_le d.size 62 (by omega) (by omega)) (by omega);refine (zp8 I hO hn (d.size + 1) 0 d.size (Lib.bitLen d.size) d _ (by omega) hH0 rfl (Nat.zero_le _) (Nat.le_refl _) hlim (Or.inl rfl)).mono ?_;rintro e w' ⟨he,hH',-⟩;obtain ⟨p1,p2⟩:=pdq_sorts lt hO d 0 d.size (Lib.bitLen d.size) true true (Nat.zero_le _) (Nat.le_refl _) (Or.inl rfl);exact ⟨he,_,p1,p2,hH'.2.1,hH'.2.2.2⟩
theorem zlt (lf:Fn) (la lb:Array Value) (w:World) :
 Calls Tryz.prog 108 #[.iface 81 (.slice none 0 0),.func lf la lb] w fun e w'=>e = .returned (.tuple #[]) /\ Ext w w':=by
 obtain ⟨i,hi,hd⟩:∃ i,Tryz.prog.info? 81 = some i /\ i.desc = .slice 3:=by
  have h:=zgJ;cases h2:Tryz.prog.info? 81 with
  | none=>rw [h2] at h;simp at h
  | some i=>rw [h2] at h;exact ⟨i,rfl,by simpa using h⟩
 obtain ⟨ie,hie⟩:∃ i,Tryz.prog.info? 3 = some i:=by
  have h:=zi7;cases h2:Tryz.prog.info? 3 with
  | none=>rw [h2] at h;simp at h
  | some i=>exact ⟨i,rfl⟩
 refine (Any.sort_Slice_tiny Tryz.shSlice 81 3 i ie hi hd zda hie 2 zfH none 0 0 (by omega) 148 zi5 lf la lb w).mono ?_;rintro e w' ⟨he,os,rfl⟩;exact ⟨he,zhS w os⟩
end Go.Proofs.YtmcgnnmffeojpabGreatDoor
