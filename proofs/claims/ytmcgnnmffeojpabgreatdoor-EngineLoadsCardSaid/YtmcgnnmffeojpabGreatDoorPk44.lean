import Derived.Test.YtmcgnnmffeojpabGreatDoorPk9
import Derived.Test.YtmcgnnmffeojpabGreatDoorPk13
import Derived.Test.YtmcgnnmffeojpabGreatDoorPk37
import Derived.Test.YtmcgnnmffeojpabGreatDoorPk40
import Derived.Test.YtmcgnnmffeojpabGreatDoorPk41
import Derived.Test.YtmcgnnmffeojpabGreatDoorPk42
import Derived.Test.YtmcgnnmffeojpabGreatDoorPk43
import Derived.Deep.DeepCutAuto
import Derived.Deep.CutBlock
import Derived.Shelf.GgSortFunc.SmallK
set_option maxRecDepth 100000
set_option maxHeartbeats 8000000
namespace Go.Proofs.YtmcgnnmffeojpabGreatDoor
open Go.RowKit Go.Plan Go.Sort
variable {α:Type} [Inhabited α]
section
variable {n:Nat} {lt:α -> α -> Bool} {g:Nat} {lb:Array Value} {sf:Nat} {sb:Array Value} {blk:Nat} {H:Array α -> World -> Prop}
theorem zeT (I:SIf n lt g lb sf sb blk H) (hO:SWO lt) (hn:n < 1000000) :
 ∀ (N a m b:Nat) (d:Array α) (w:World),b - a < N -> H d w -> d.size = n -> a < m -> m < b -> b <= n -> SortedIn lt a m d -> SortedIn lt m b d ->
 Calls Tryz.prog 158 #[.agg #[.func (.func g) #[] lb,.func (.func sf) #[] sb],.int .i64 a,.int .i64 m,.int .i64 b] w fun e w'=>e = .returned (.tuple #[]) /\
  ∃ d':Array α,d'.size = n /\ PermIn a b d d' /\ SortedIn lt a b d' /\ H d' w' /\ ExtM (fun k=>k = blk) w w':=by
 intro N;induction N with
 | zero=>intro _ _ _ _ _ h;exact absurd h (Nat.not_lt_zero _)
 | succ N ih =>
   intro a m b d w hN hH hs ham hmb hb hsl hsr;have IH:=Lib.hid ih;have SL:=Lib.hid hsl;have SR:=Lib.hid hsr;clear ih hsl hsr;have hbl:=I.lt' d w hH;have hx1:Ext w (w.alloc (.cells #[.func (.func g) #[] lb,.func (.func sf) #[] sb] 193)):=(ExtM.refl w).alloc _;have hH1:=I.ext d w _ hH hx1;have eg:=I.eg;have HX1:Hid (ExtM (fun k=>k = blk) w (w.alloc (.cells #[.func (.func g) #[] lb,.func (.func sf) #[] sb] 193))):=Lib.hid (hx1.mono (fun _ _ h=>h.elim));go_enter Tryz.func158,Tryz.ntmps158;go_upto_region 1 with fail;have q0:(w.alloc (.cells #[.func (.func g) #[] lb,.func (.func sf) #[] sb] 193)).cell? ⟨w.heap.size,0,none⟩ = some (.func (.func g) #[] lb):=by go_simp
   have q1:(w.alloc (.cells #[.func (.func g) #[] lb,.func (.func sf) #[] sb] 193)).cell? ⟨w.heap.size,1,none⟩ = some (.func (.func sf) #[] sb):=by go_simp
   have hN1:w.heap.size < (w.alloc (.cells #[.func (.func g) #[] lb,.func (.func sf) #[] sb] 193)).heap.size:=by simp
   generalize w.alloc (.cells #[.func (.func g) #[] lb,.func (.func sf) #[] sb] 193) = W1 at *;have hcc:∀ u,ExtM (fun k=>k = blk) W1 u -> u.cell? ⟨w.heap.size,0,none⟩ = some (.func (.func g) #[] lb) /\ u.cell? ⟨w.heap.size,1,none⟩ = some (.func (.func sf) #[] sb):=fun u hu =>
    ⟨(hu.cell (p:=⟨w.heap.size,0,none⟩) hN1 (by simp;omega)).trans q0,(hu.cell (p:=⟨w.heap.size,1,none⟩) hN1 (by simp;omega)).trans q1⟩
   have HCC:=Lib.hid hcc;clear hcc q0 q1;by_cases hm1:m = a + 1
   . have hma:m <= a + 1:=by omega
     clear hm1;have hz1:((m:Int) - (a:Int) == 1) = true:=by simp;omega
     as_aux_lemma =>
      go_wp2_with fail;go_loopg [8,9] (b - a + 1) (fun kx s8 s9 wr=>∃ i j:Nat,s8 = .int .i64 (i:Int) /\ s9 = .int .i64 (j:Int) /\ a + 1 <= i /\ i <= j /\ j <= b /\ j - i <= kx /\ H d wr /\ ExtM (fun k=>k = blk) W1 wr /\ (∀ h,a + 1 <= h -> h < i -> lt d[h]! d[a]! = true) /\ (∀ h,j <= h -> h < b -> lt d[h]! d[a]! = false))
      case atStart=>exact ⟨m,b,rfl,rfl,by omega,by omega,Nat.le_refl _,by omega,hH1,ExtM.refl _,fun h h1 h2=>by omega,fun h h1 h2=>by omega⟩
      case round =>
       obtain ⟨i,j,rfl,rfl,hi,hij,hj,hgk,hHk,hxk,hi1,hi2⟩:=hrel;obtain ⟨c0,c1⟩:=HCC.out _ hxk;have I1:=Lib.hid hi1;have I2:=Lib.hid hi2;clear hi1 hi2;by_cases hlt:i < j
       . have hcl:=I.less d wr ((i + j) / 2) a hs hHk (by omega) (by omega);rw [show (((i + j) / 2:Nat):Int) = ((i:Int) + (j:Int)) / 2 by omega] at hcl;cases hq:lt d[(i + j) / 2]! d[a]! with
         | true =>
           have HQ:=Lib.hid hq;rw [hq] at hcl;clear hq;go_wp2_with (go_at_fn g;refine hcl.mono ?_;rintro e w2 ⟨rfl,hx2⟩);go_roundg (j - ((i + j) / 2 + 1))
           case measure=>omega
           case rel =>
            exact ⟨(i + j) / 2 + 1,j,by rw [show (((i + j) / 2 + 1:Nat):Int) = ((i:Int) + (j:Int)) / 2 + 1 by omega],rfl,by omega,by omega,hj,Nat.le_refl _,I.ext _ _ _ hHk hx2,ExtM.trans _ _ _ hxk (hx2.mono (fun _ _ h=>h.elim)),fun h h1 h2=>zgy hO (zb2 hO SR.out (i:=h) (j:=(i + j) / 2) (by omega) (by omega) (by omega)) HQ.out,I2.out⟩
         | false =>
           have HQ:=Lib.hid hq;rw [hq] at hcl;clear hq;go_wp2_with (go_at_fn g;refine hcl.mono ?_;rintro e w2 ⟨rfl,hx2⟩);go_roundg ((i + j) / 2 - i)
           case measure=>omega
           case rel =>
            exact ⟨i,(i + j) / 2,rfl,by rw [show (((i + j) / 2:Nat):Int) = ((i:Int) + (j:Int)) / 2 by omega],hi,by omega,by omega,Nat.le_refl _,I.ext _ _ _ hHk hx2,ExtM.trans _ _ _ hxk (hx2.mono (fun _ _ h=>h.elim)),I1.out,fun h h1 h2=>hO.ntrans _ _ _ (zb2 hO SR.out (i:=(i + j) / 2) (j:=h) (by omega) h1 h2) HQ.out⟩
       . obtain rfl:j = i:=by omega
         go_wp2_with fail;clear hH1 hH c0 c1;go_loopg [11] (j + 1) (fun kx s11 wr2=>∃ (k:Nat) (dk:Array α),s11 = .int .i64 (k:Int) /\ a <= k /\ k + 1 <= j /\ j - k <= kx /\ dk.size = n /\ (∀ x,dk[x]! = rotF (fun x=>d[x]!) a (a + 1) (k + 1) x) /\ PermIn a b d dk /\ H dk wr2 /\ ExtM (fun k=>k = blk) W1 wr2)
         case atStart=>exact ⟨a,d,rfl,Nat.le_refl _,hi,by omega,hs,zjB d a,permIn_refl _ _ _,hHk,hxk⟩
         case round =>
          clear hHk hxk;obtain ⟨k,dk,rfl,hak,hkj,hgk2,hsk,hdk,hpk,hHk,hxk⟩:=hrel;obtain ⟨c0,c1⟩:=HCC.out _ hxk;have HD:=Lib.hid hdk;have HP:=Lib.hid hpk;clear hdk hpk;by_cases hkl:k + 1 < j
          . obtain ⟨w3,hsw,hH3,hx3⟩:=I.swap dk wr k (k + 1) hsk hHk (by omega) (by omega);rw [show ((k + 1:Nat):Int) = (k:Int) + 1 by omega] at hsw;have hz2:decide ((k:Int) < (j:Int) - 1) = true:=by simp;omega
            go_wp2;go_roundg (j - (k + 1))
            case measure=>omega
            case rel=>exact ⟨k + 1,swp dk k (k + 1),by go_num,by omega,by omega,Nat.le_refl _,by rw [size_swp];exact hsk,zk5 hak (by omega) HD.out,permIn_trans _ _ _ _ _ HP.out (swp_permIn dk a b k (k + 1) (by omega) (by omega) (by omega) (by omega) (by omega)),hH3,ExtM.trans _ _ _ hxk hx3⟩
          . have hjk:j <= k + 1:=by omega
            have hz2:decide ((k:Int) < (j:Int) - 1) = false:=by simp;omega
            go_wp2
            (try simp only [Exit.inBlock,Exit.then]);refine bodyPost_ret (results_none rfl _ _ _) rfl ?_
            obtain rfl:j = k + 1:=by omega
            obtain rfl:m = a + 1:=by omega
            exact ⟨rfl,dk,hsk,HP.out,zhg hO (i:=k + 1) SR.out ⟨by omega,hj⟩ I1.out I2.out HD.out,hHk,ExtM.trans _ _ _ HX1.out hxk⟩
   have hz1:((m:Int) - (a:Int) == 1) = false:=by simp;omega
   by_cases hb1:b = m + 1
   . have hbm:b <= m + 1:=by omega
     clear hb1;have hz3:((b:Int) - (m:Int) == 1) = true:=by simp;omega
     as_aux_lemma =>
      go_wp2_with fail;go_loopg [12,13] (m - a + 1) (fun kx s12 s13 wr=>∃ i j:Nat,s12 = .int .i64 (i:Int) /\ s13 = .int .i64 (j:Int) /\ a <= i /\ i <= j /\ j <= m /\ j - i <= kx /\ H d wr /\ ExtM (fun k=>k = blk) W1 wr /\ (∀ h,a <= h -> h < i -> lt d[m]! d[h]! = false) /\ (∀ h,j <= h -> h < m -> lt d[m]! d[h]! = true))
      case atStart=>exact ⟨a,m,rfl,rfl,Nat.le_refl _,by omega,Nat.le_refl _,by omega,hH1,ExtM.refl _,fun h h1 h2=>by omega,fun h h1 h2=>by omega⟩
      case round =>
       obtain ⟨i,j,rfl,rfl,hi,hij,hj,hgk,hHk,hxk,hi1,hi2⟩:=hrel;obtain ⟨c0,c1⟩:=HCC.out _ hxk;have I1:=Lib.hid hi1;have I2:=Lib.hid hi2;clear hi1 hi2;by_cases hlt:i < j
       . have hcl:=I.less d wr m ((i + j) / 2) hs hHk (by omega) (by omega);rw [show (((i + j) / 2:Nat):Int) = ((i:Int) + (j:Int)) / 2 by omega] at hcl;cases hq:lt d[m]! d[(i + j) / 2]! with
         | false =>
           have HQ:=Lib.hid hq;rw [hq] at hcl;clear hq;go_wp2_with (go_at_fn g;refine hcl.mono ?_;rintro e w2 ⟨rfl,hx2⟩);go_roundg (j - ((i + j) / 2 + 1))
           case measure=>omega
           case rel =>
            exact ⟨(i + j) / 2 + 1,j,by rw [show (((i + j) / 2 + 1:Nat):Int) = ((i:Int) + (j:Int)) / 2 + 1 by omega],rfl,by omega,by omega,hj,Nat.le_refl _,I.ext _ _ _ hHk hx2,ExtM.trans _ _ _ hxk (hx2.mono (fun _ _ h=>h.elim)),fun h h1 h2=>hO.ntrans _ _ _ HQ.out (zb2 hO SL.out (i:=h) (j:=(i + j) / 2) h1 (by omega) (by omega)),I2.out⟩
         | true =>
           have HQ:=Lib.hid hq;rw [hq] at hcl;clear hq;go_wp2_with (go_at_fn g;refine hcl.mono ?_;rintro e w2 ⟨rfl,hx2⟩);go_roundg ((i + j) / 2 - i)
           case measure=>omega
           case rel =>
            exact ⟨i,(i + j) / 2,rfl,by rw [show (((i + j) / 2:Nat):Int) = ((i:Int) + (j:Int)) / 2 by omega],hi,by omega,by omega,Nat.le_refl _,I.ext _ _ _ hHk hx2,ExtM.trans _ _ _ hxk (hx2.mono (fun _ _ h=>h.elim)),I1.out,fun h h1 h2=>zgj hO HQ.out (zb2 hO SL.out (i:=(i + j) / 2) (j:=h) (by omega) h1 h2)⟩
       . obtain rfl:j = i:=by omega
         go_wp2_with fail;clear hH1 hH c0 c1;go_loopg [15] (m + 1) (fun kx s15 wr2=>∃ (k:Nat) (dk:Array α),s15 = .int .i64 (k:Int) /\ j <= k /\ k <= m /\ k - j <= kx /\ dk.size = n /\ (∀ x,dk[x]! = rotF (fun x=>d[x]!) k m (m + 1) x) /\ PermIn a b d dk /\ H dk wr2 /\ ExtM (fun k=>k = blk) W1 wr2)
         case atStart=>exact ⟨m,d,rfl,hj,Nat.le_refl _,by omega,hs,zkn d m,permIn_refl _ _ _,hHk,hxk⟩
         case round =>
          clear hHk hxk;obtain ⟨k,dk,rfl,hjk,hkm,hgk2,hsk,hdk,hpk,hHk,hxk⟩:=hrel;obtain ⟨c0,c1⟩:=HCC.out _ hxk;have HD:=Lib.hid hdk;have HP:=Lib.hid hpk;clear hdk hpk;by_cases hkl:j < k
          . obtain ⟨w3,hsw,hH3,hx3⟩:=I.swap dk wr k (k - 1) hsk hHk (by omega) (by omega);rw [show ((k - 1:Nat):Int) = (k:Int) - 1 by omega] at hsw;go_wp2;go_roundg (k - 1 - j)
            case measure=>omega
            case rel=>exact ⟨k - 1,swp dk k (k - 1),by rw [show ((k - 1:Nat):Int) = (k:Int) - 1 by omega],by omega,by omega,Nat.le_refl _,by rw [size_swp];exact hsk,zjL (by omega) hkm (by omega) HD.out,permIn_trans _ _ _ _ _ HP.out (swp_permIn dk a b k (k - 1) (by omega) (by omega) (by omega) (by omega) (by omega)),hH3,ExtM.trans _ _ _ hxk hx3⟩
          . obtain rfl:j = k:=by omega
            go_wp2
            (try simp only [Exit.inBlock,Exit.then]);refine bodyPost_ret (results_none rfl _ _ _) rfl ?_
            obtain rfl:b = m + 1:=by omega
            exact ⟨rfl,dk,hsk,HP.out,zgP hO SL.out ⟨hi,hj⟩ I1.out I2.out HD.out,hHk,ExtM.trans _ _ _ HX1.out hxk⟩
   have hz3:((b:Int) - (m:Int) == 1) = false:=by simp;omega
   go_upto_region 26 with fail;obtain ⟨mid,hmid⟩:∃ mid,mid = (a + b) / 2:=⟨_,rfl⟩
   have emid:((a:Int) + (b:Int)) / 2 = (mid:Int):=by omega
   have hmid1:2 * mid <= a + b:=by omega
   have hmid2:a + b <= 2 * mid + 1:=by omega
   have hma2:a + 2 <= m:=by omega
   have hbm2:m + 2 <= b:=by omega
   rw [emid];have hw1:IntKind.i64.wrap ((a:Int) + (b:Int)) = (a:Int) + (b:Int):=by rw [IntKind.wrap_i64];omega
   clear emid hmid hm1 hb1;go_upto_if 106 with fail;go_cut [18,19] (fun s18 s19 wx=>∃ s0 r0:Nat,s18 = .int .i64 (s0:Int) /\ s19 = .int .i64 (r0:Int) /\ ((mid < m /\ s0 + b = mid + m /\ r0 = mid) \/ (m <= mid /\ s0 = a /\ r0 = m)) /\ wx = W1)
   case first =>
    by_cases hc:mid < m
    . go_wp2_with fail;go_meet
      case rel=>exact ⟨mid + m - b,mid,by rw [show ((mid + m - b:Nat):Int) = (mid:Int) + (m:Int) - (b:Int) by omega],rfl,.inl ⟨hc,by omega,rfl⟩,rfl⟩
    . go_wp2_with fail;go_meet
      case rel=>exact ⟨a,m,rfl,rfl,.inr ⟨by omega,rfl,rfl⟩,rfl⟩
   case rest =>
    obtain ⟨s0,r0,rfl,rfl,hsr,hw⟩:=hcut;have hw:=hw.symm;subst hw;go_wp2_with fail;go_loopg [18,19] (b - a + 1) (fun kx s18 s19 wr=>∃ s r:Nat,s18 = .int .i64 (s:Int) /\ s19 = .int .i64 (r:Int) /\ s0 <= s /\ s <= r /\ r <= r0 /\ r - s <= kx /\ H d wr /\ ExtM (fun k=>k = blk) W1 wr /\ (s = s0 \/ (s0 < s /\ lt d[mid + m - 1 - (s - 1)]! d[s - 1]! = false)) /\ (r = r0 \/ (r < r0 /\ lt d[mid + m - 1 - r]! d[r]! = true)))
    case atStart=>exact ⟨s0,r0,rfl,rfl,Nat.le_refl _,by omega,Nat.le_refl _,by omega,hH1,ExtM.refl _,.inl rfl,.inl rfl⟩
    case round =>
     obtain ⟨s,r,rfl,rfl,hs0,hsr1,hr0,hgk,hHk,hxk,hi1,hi2⟩:=hrel;obtain ⟨c0,c1⟩:=HCC.out _ hxk;have I1:=Lib.hid hi1;have I2:=Lib.hid hi2;clear hi1 hi2;by_cases hlt:s < r
     . have hcl:=I.less d wr (mid + m - 1 - (s + r) / 2) ((s + r) / 2) hs hHk (by omega) (by omega);rw [show ((mid + m - 1 - (s + r) / 2:Nat):Int) = (mid:Int) + (m:Int) - 1 - ((s:Int) + (r:Int)) / 2 by omega,show (((s + r) / 2:Nat):Int) = ((s:Int) + (r:Int)) / 2 by omega] at hcl;cases hq:lt d[mid + m - 1 - (s + r) / 2]! d[(s + r) / 2]! with
       | false =>
         have HQ:=Lib.hid hq;rw [hq] at hcl;clear hq;go_wp2_with (go_at_fn g;refine hcl.mono ?_;rintro e w2 ⟨rfl,hx2⟩);go_roundg (r - ((s + r) / 2 + 1))
         case measure=>omega
         case rel =>
          exact ⟨(s + r) / 2 + 1,r,by rw [show (((s + r) / 2 + 1:Nat):Int) = ((s:Int) + (r:Int)) / 2 + 1 by omega],rfl,by omega,by omega,hr0,Nat.le_refl _,I.ext _ _ _ hHk hx2,ExtM.trans _ _ _ hxk (hx2.mono (fun _ _ h=>h.elim)),.inr ⟨by omega,by rw [Nat.add_sub_cancel];exact HQ.out⟩,I2.out⟩
       | true =>
         have HQ:=Lib.hid hq;rw [hq] at hcl;clear hq;go_wp2_with (go_at_fn g;refine hcl.mono ?_;rintro e w2 ⟨rfl,hx2⟩);go_roundg ((s + r) / 2 - s)
         case measure=>omega
         case rel =>
          exact ⟨s,(s + r) / 2,rfl,by rw [show (((s + r) / 2:Nat):Int) = ((s:Int) + (r:Int)) / 2 by omega],hs0,by omega,by omega,Nat.le_refl _,I.ext _ _ _ hHk hx2,ExtM.trans _ _ _ hxk (hx2.mono (fun _ _ h=>h.elim)),I1.out,.inr ⟨by omega,HQ.out⟩⟩
     . obtain rfl:r = s:=by omega
       go_upto_region 40 with fail;obtain ⟨e,he⟩:∃ e,e = mid + m - r:=⟨_,rfl⟩
       have ee:(mid:Int) + (m:Int) - (r:Int) = (e:Int):=by omega
       rw [ee];have he1:e + r = mid + m:=by omega
       have hhv:=fun (d1:Array α) (hd:∀ k,d1[k]! = rotF (fun x=>d[x]!) r m (mid + m - r) k)=>zoT hO (d:=d) (d':=d1) (a:=a) (m:=m) (b:=b) (start:=r) (mid:=mid) (s0:=s0) (r0:=r0) SL.out SR.out ⟨by omega,by omega,by omega,by omega⟩ ⟨by omega,by omega⟩ I1.out (by omega) I2.out (by omega) hd;rw [<- he] at hhv;have HHV:=Lib.hid hhv;clear ee he hhv c0 c1 hH1;have hr1:a <= r:=by omega
       have hr2:r <= m:=by omega
       have hr3:m <= e:=by omega
       have hr4:e <= b:=by omega
       have hr5:r <= mid:=by omega
       have hr6:mid <= e:=by omega
       go_cut [145] (fun s145 wx=>s145 = .bool (decide (r < m) && decide (m < e)) /\ wx = wr)
       case first =>
        by_cases h1:r < m
        . by_cases h2:m < e
          . go_wp2_with fail;go_meet
            case rel=>exact ⟨by simp [h1,h2],rfl⟩
          . go_wp2_with fail;go_meet
            case rel=>exact ⟨by simp [h2],rfl⟩
        . go_wp2_with fail;go_meet
          case rel=>exact ⟨by simp [h1],rfl⟩
       case rest =>
        obtain ⟨rfl,rfl⟩:=hcut;cases hq:(decide (r < m) && decide (m < e))
        . have hd0:∀ k,d[k]! = rotF (fun x=>d[x]!) r m e k:=fun k=>(zfK (f:=fun x=>d[x]!) (by
           simp only [Bool.and_eq_false_iff,decide_eq_false_iff_not] at hq
           omega) ⟨hr2,hr3⟩ k).symm
          have hv:=HHV.out d hd0;have HV:=Lib.hid hv;have hp1:PermIn a b d d:=permIn_refl _ _ _;have HP1:=Lib.hid hp1;clear hd0 hv hp1 hq;go_upto_region 42 with fail
          as_aux_lemma =>
           go_cut [158] (fun s158 wx=>s158 = .bool (decide (a < r) && decide (r < mid)) /\ wx = wc)
           case first =>
            by_cases h1:a < r
            . by_cases h2:r < mid
              . go_wp2_with fail;go_meet
                case rel=>exact ⟨by simp [h1,h2],rfl⟩
              . go_wp2_with fail;go_meet
                case rel=>exact ⟨by simp [h2],rfl⟩
            . go_wp2_with fail;go_meet
              case rel=>exact ⟨by simp [h1],rfl⟩
           case rest =>
            obtain ⟨rfl,rfl⟩:=hcut;go_upto_if 158 with fail;go_cut [] (fun wx=>∃ d2:Array α,d2.size = n /\ PermIn a mid d d2 /\ SortedIn lt a mid d2 /\ H d2 wx /\ ExtM (fun k=>k = blk) W1 wx)
            case first =>
             as_aux_lemma =>
              cases hq:(decide (a < r) && decide (r < mid))
              . have hss:SortedIn lt a mid d:=by
                 simp only [Bool.and_eq_false_iff,decide_eq_false_iff_not] at hq;rcases hq with hq | hq
                 . obtain rfl:r = a:=by omega
                   exact HV.out.s2
                 . obtain rfl:r = mid:=by omega
                   exact HV.out.s1
                have HSS:=Lib.hid hss;clear hss;go_wp2_with fail;go_meet
                case rel=>exact ⟨d,hs,permIn_refl _ _ _,HSS.out,hHk,hxk⟩
              . have hq':a < r /\ r < mid:=by simpa using hq
                have hc:=IH.out a r mid d wc (by omega) hHk hs hq'.1 hq'.2 (by omega) HV.out.s1 HV.out.s2;obtain ⟨c0,c1⟩:=HCC.out _ hxk;go_wp2_with (go_at_call 158;refine hc.mono ?_;rintro e' w3 ⟨rfl,d2,hs2,hp2,hso2,hH3,hx3⟩);go_meet
                case rel=>exact ⟨d2,hs2,hp2,hso2,hH3,ExtM.trans _ _ _ hxk hx3⟩
            case rest =>
             obtain ⟨d2,hs2,hp2,hso2,hH2',hx2''⟩:=hcut;have HP2:=Lib.hid hp2;have HSO2:=Lib.hid hso2;clear hp2 hso2 hHk hxk;go_upto_region 44 with fail;go_cut [171] (fun s171 wx=>s171 = .bool (decide (mid < e) && decide (e < b)) /\ wx = wc)
             case first =>
              by_cases h1:mid < e
              . by_cases h2:e < b
                . go_wp2_with fail;go_meet
                  case rel=>exact ⟨by simp [h1,h2],rfl⟩
                . go_wp2_with fail;go_meet
                  case rel=>exact ⟨by simp [h2],rfl⟩
              . go_wp2_with fail;go_meet
                case rel=>exact ⟨by simp [h1],rfl⟩
             case rest =>
              obtain ⟨rfl,rfl⟩:=hcut
              as_aux_lemma =>
               cases hq:(decide (mid < e) && decide (e < b))
               . have hss:SortedIn lt mid b d:=by
                  simp only [Bool.and_eq_false_iff,decide_eq_false_iff_not] at hq;rcases hq with hq | hq
                  . obtain rfl:e = mid:=by omega
                    exact HV.out.s4
                  . obtain rfl:e = b:=by omega
                    exact HV.out.s3
                 have HSS:=Lib.hid (zaS hss HP2.out (.inr (Nat.le_refl _)));clear hss;go_wp2_with fail;refine bodyPost_end (a:=⟨_,_⟩) (results_none rfl _ _ _) rfl ?_;obtain ⟨j1,j2⟩:=zcl (lt:=lt) (d1:=d) (d2:=d2) (d3:=d2) (a:=a) (mid:=mid) (b:=b) (by omega) (by omega) (by omega) HP2.out HSO2.out (permIn_refl _ _ _) HSS.out HV.out.cross;exact ⟨rfl,d2,hs2,permIn_trans _ _ _ _ _ HP1.out j1,j2,hH2',ExtM.trans _ _ _ HX1.out hx2''⟩
               . have hq':mid < e /\ e < b:=by simpa using hq
                 have hc:=IH.out mid e b d2 wc (by omega) hH2' hs2 hq'.1 hq'.2 (by omega) (zaS HV.out.s3 HP2.out (.inr (Nat.le_refl _))) (zaS HV.out.s4 HP2.out (.inr (by omega)));obtain ⟨c0,c1⟩:=HCC.out _ hx2'';go_wp2_with (go_at_call 158;refine hc.mono ?_;rintro e' w4 ⟨rfl,d3,hs3,hp3,hso3,hH4,hx4⟩);refine bodyPost_end (a:=⟨_,_⟩) (results_none rfl _ _ _) rfl ?_;obtain ⟨j1,j2⟩:=zcl (lt:=lt) (d1:=d) (d2:=d2) (d3:=d3) (a:=a) (mid:=mid) (b:=b) (by omega) (by omega) (by omega) HP2.out HSO2.out hp3 hso3 HV.out.cross;exact ⟨rfl,d3,hs3,permIn_trans _ _ _ _ _ HP1.out j1,j2,hH4,ExtM.trans _ _ _ HX1.out (ExtM.trans _ _ _ hx2'' hx4)⟩
        . have hq':r < m /\ m < e:=by simpa using hq
          have hc:=zl9 I r m e d wc hHk hs hq'.1 hq'.2 (by omega) hn;obtain ⟨c0,c1⟩:=HCC.out _ hxk;clear hq hq';go_upto_region 42 with (go_at_call 205;refine hc.mono ?_;rintro e' w2 ⟨rfl,d1,hd1,hs1,hp1,hH2,hx2⟩)
          have HV:=Lib.hid (HHV.out d1 hd1);have HP1:=Lib.hid (zaI hp1 hr1 hr4 (by omega));have hx2':=ExtM.trans _ _ _ hxk hx2;clear hd1 hp1 c0 c1 hc
          as_aux_lemma =>
           go_cut [158] (fun s158 wx=>s158 = .bool (decide (a < r) && decide (r < mid)) /\ wx = w2)
           case first =>
            by_cases h1:a < r
            . by_cases h2:r < mid
              . go_wp2_with fail;go_meet
                case rel=>exact ⟨by simp [h1,h2],rfl⟩
              . go_wp2_with fail;go_meet
                case rel=>exact ⟨by simp [h2],rfl⟩
            . go_wp2_with fail;go_meet
              case rel=>exact ⟨by simp [h1],rfl⟩
           case rest =>
            obtain ⟨rfl,rfl⟩:=hcut;go_upto_if 158 with fail;go_cut [] (fun wx=>∃ d2:Array α,d2.size = n /\ PermIn a mid d1 d2 /\ SortedIn lt a mid d2 /\ H d2 wx /\ ExtM (fun k=>k = blk) W1 wx)
            case first =>
             as_aux_lemma =>
              cases hq:(decide (a < r) && decide (r < mid))
              . have hss:SortedIn lt a mid d1:=by
                 simp only [Bool.and_eq_false_iff,decide_eq_false_iff_not] at hq;rcases hq with hq | hq
                 . obtain rfl:r = a:=by omega
                   exact HV.out.s2
                 . obtain rfl:r = mid:=by omega
                   exact HV.out.s1
                have HSS:=Lib.hid hss;clear hss;go_wp2_with fail;go_meet
                case rel=>exact ⟨d1,hs1,permIn_refl _ _ _,HSS.out,hH2,hx2'⟩
              . have hq':a < r /\ r < mid:=by simpa using hq
                have hc:=IH.out a r mid d1 wc (by omega) hH2 hs1 hq'.1 hq'.2 (by omega) HV.out.s1 HV.out.s2;obtain ⟨c0,c1⟩:=HCC.out _ hx2';go_wp2_with (go_at_call 158;refine hc.mono ?_;rintro e' w3 ⟨rfl,d2,hs2,hp2,hso2,hH3,hx3⟩);go_meet
                case rel=>exact ⟨d2,hs2,hp2,hso2,hH3,ExtM.trans _ _ _ hx2' hx3⟩
            case rest =>
             obtain ⟨d2,hs2,hp2,hso2,hH2',hx2''⟩:=hcut;have HP2:=Lib.hid hp2;have HSO2:=Lib.hid hso2;clear hp2 hso2 hH2 hx2';go_upto_region 44 with fail;go_cut [171] (fun s171 wx=>s171 = .bool (decide (mid < e) && decide (e < b)) /\ wx = wc)
             case first =>
              by_cases h1:mid < e
              . by_cases h2:e < b
                . go_wp2_with fail;go_meet
                  case rel=>exact ⟨by simp [h1,h2],rfl⟩
                . go_wp2_with fail;go_meet
                  case rel=>exact ⟨by simp [h2],rfl⟩
              . go_wp2_with fail;go_meet
                case rel=>exact ⟨by simp [h1],rfl⟩
             case rest =>
              obtain ⟨rfl,rfl⟩:=hcut
              as_aux_lemma =>
               cases hq:(decide (mid < e) && decide (e < b))
               . have hss:SortedIn lt mid b d1:=by
                  simp only [Bool.and_eq_false_iff,decide_eq_false_iff_not] at hq;rcases hq with hq | hq
                  . obtain rfl:e = mid:=by omega
                    exact HV.out.s4
                  . obtain rfl:e = b:=by omega
                    exact HV.out.s3
                 have HSS:=Lib.hid (zaS hss HP2.out (.inr (Nat.le_refl _)));clear hss;go_wp2_with fail;refine bodyPost_end (a:=⟨_,_⟩) (results_none rfl _ _ _) rfl ?_;obtain ⟨j1,j2⟩:=zcl (lt:=lt) (d1:=d1) (d2:=d2) (d3:=d2) (a:=a) (mid:=mid) (b:=b) (by omega) (by omega) (by omega) HP2.out HSO2.out (permIn_refl _ _ _) HSS.out HV.out.cross;exact ⟨rfl,d2,hs2,permIn_trans _ _ _ _ _ HP1.out j1,j2,hH2',ExtM.trans _ _ _ HX1.out hx2''⟩
               . have hq':mid < e /\ e < b:=by simpa using hq
                 have hc:=IH.out mid e b d2 wc (by omega) hH2' hs2 hq'.1 hq'.2 (by omega) (zaS HV.out.s3 HP2.out (.inr (Nat.le_refl _))) (zaS HV.out.s4 HP2.out (.inr (by omega)));obtain ⟨c0,c1⟩:=HCC.out _ hx2'';go_wp2_with (go_at_call 158;refine hc.mono ?_;rintro e' w4 ⟨rfl,d3,hs3,hp3,hso3,hH4,hx4⟩);refine bodyPost_end (a:=⟨_,_⟩) (results_none rfl _ _ _) rfl ?_;obtain ⟨j1,j2⟩:=zcl (lt:=lt) (d1:=d1) (d2:=d2) (d3:=d3) (a:=a) (mid:=mid) (b:=b) (by omega) (by omega) (by omega) HP2.out HSO2.out hp3 hso3 HV.out.cross;exact ⟨rfl,d3,hs3,permIn_trans _ _ _ _ _ HP1.out j1,j2,hH4,ExtM.trans _ _ _ HX1.out (ExtM.trans _ _ _ hx2'' hx4)⟩
end
variable {α:Type} [Inhabited α]
theorem zdn {lt:α -> α -> Bool} {n bs q A b:Nat} {d d':Array α} (hA:A = q * bs) (h1:Blk lt n bs 0 A d) (hb:b = min (A + bs) n) (hp:PermIn A b d d') (hs:SortedIn lt A b d'):Blk lt n bs 0 (A + bs) d':=by
 subst hA;intro p _ hp2;by_cases hpq:p < q
 . have hle:p * bs + bs <= q * bs:=by
    have:=Nat.mul_le_mul_right bs (show p + 1 <= q by omega)
    rwa [Nat.add_mul,Nat.one_mul] at this
   by_cases h0:bs = 0
   . subst h0;intro i j x1 x2 x3;simp at x1 x3
   exact zaS (h1 p (Nat.zero_le _) (by omega)) hp (.inl (by omega))
 . by_cases hpe:p = q
   . subst hpe;rw [<- hb];exact hs
   . have:=Nat.mul_le_mul_right bs (show q + 1 <= p by omega)
     rw [Nat.add_mul,Nat.one_mul] at this;omega
theorem zlL {lt:α -> α -> Bool} {n bs lo b A:Nat} {d d':Array α} (h:Blk lt n bs lo n d) (hp:PermIn A b d d') (hlo:lo <= b) (_hb:b <= n \/ True):Blk lt n bs b n d':=fun p h1 h2=>zaS (h p (by omega) h2) hp (.inr h1)
theorem zmy {lt:α -> α -> Bool} {n bs q A:Nat} {d:Array α} (hA:A = q * (2 * bs)) (h:Blk lt n bs A n d):(A < n -> SortedIn lt A (min (A + bs) n) d) /\ (A + bs < n -> SortedIn lt (A + bs) (min (A + 2 * bs) n) d):=by
 have e1:2 * q * bs = A:=by rw [hA,Nat.mul_comm 2 q,Nat.mul_assoc]
 have e2:(2 * q + 1) * bs = A + bs:=by rw [Nat.add_mul,Nat.one_mul,e1]
 refine ⟨fun hlt=>?_,fun hlt=>?_⟩
 . have:=h (2 * q) (by omega) (by omega)
   rwa [e1] at this
 . have:=h (2 * q + 1) (by omega) (by omega)
   rw [e2] at this
   rwa [show A + 2 * bs = A + bs + bs by omega]
theorem zfP {lt:α -> α -> Bool} {n bs hi:Nat} {d:Array α} (h:Blk lt n bs 0 hi d) (hn:n <= hi):Blk lt n bs 0 n d:=fun p h1 h2=>h p h1 (by omega)
theorem zkC {lt:α -> α -> Bool} {n bs:Nat} {d:Array α}:Blk lt n bs 0 0 d:=fun _ _ h=>absurd h (Nat.not_lt_zero _)
section
variable {n:Nat} {lt:α -> α -> Bool} {g:Nat} {lb:Array Value} {sf:Nat} {sb:Array Value} {blk:Nat} {H:Array α -> World -> Prop}
theorem zmO (I:SIf n lt g lb sf sb blk H) (hO:SWO lt) (hn:n < 1000000) (d:Array α) (w:World) (hH:H d w) (hs:d.size = n) :
 Calls Tryz.prog 113 #[.agg #[.func (.func g) #[] lb,.func (.func sf) #[] sb],.int .i64 n] w fun e w'=>e = .returned (.tuple #[]) /\
  ∃ d':Array α,d'.size = n /\ PermIn 0 n d d' /\ SortedIn lt 0 n d' /\ H d' w' /\ ExtM (fun k=>k = blk) w w':=by
 have hbl:=I.lt' d w hH;have hx1:Ext w (w.alloc (.cells #[.func (.func g) #[] lb,.func (.func sf) #[] sb] 193)):=(ExtM.refl w).alloc _;have hH1:=I.ext d w _ hH hx1;have HX1:Hid (ExtM (fun k=>k = blk) w (w.alloc (.cells #[.func (.func g) #[] lb,.func (.func sf) #[] sb] 193))):=Lib.hid (hx1.mono (fun _ _ h=>h.elim));go_enter Tryz.func113,Tryz.ntmps113;go_wp2;have q0:(w.alloc (.cells #[.func (.func g) #[] lb,.func (.func sf) #[] sb] 193)).cell? ⟨w.heap.size,0,none⟩ = some (.func (.func g) #[] lb):=by go_simp
 have q1:(w.alloc (.cells #[.func (.func g) #[] lb,.func (.func sf) #[] sb] 193)).cell? ⟨w.heap.size,1,none⟩ = some (.func (.func sf) #[] sb):=by go_simp
 have hN1:w.heap.size < (w.alloc (.cells #[.func (.func g) #[] lb,.func (.func sf) #[] sb] 193)).heap.size:=by simp
 generalize w.alloc (.cells #[.func (.func g) #[] lb,.func (.func sf) #[] sb] 193) = W1 at *;have hcc:∀ u,ExtM (fun k=>k = blk) W1 u -> u.cell? ⟨w.heap.size,0,none⟩ = some (.func (.func g) #[] lb) /\ u.cell? ⟨w.heap.size,1,none⟩ = some (.func (.func sf) #[] sb):=fun u hu =>
  ⟨(hu.cell (p:=⟨w.heap.size,0,none⟩) hN1 (by simp;omega)).trans q0,(hu.cell (p:=⟨w.heap.size,1,none⟩) hN1 (by simp;omega)).trans q1⟩
 have HCC:=Lib.hid hcc;clear hcc q0 q1;go_loopg [5,6] (n + 1) (fun kx s5 s6 wr=>∃ (q A:Nat) (dk:Array α),s5 = .int .i64 (A:Int) /\ s6 = .int .i64 ((A:Int) + 20) /\ Hid (A = q * 20) /\ A <= n /\ n - A <= kx /\ dk.size = n /\ PermIn 0 n d dk /\ Blk lt n 20 0 A dk /\ H dk wr /\ ExtM (fun k=>k = blk) W1 wr)
 case atStart=>exact ⟨0,0,d,rfl,rfl,Lib.hid rfl,Nat.zero_le _,by omega,hs,permIn_refl _ _ _,zkC,hH1,ExtM.refl _⟩
 case round =>
  obtain ⟨q,A,dk,rfl,rfl,hA,hAn,hgk,hsk,hpk,hbk,hHk,hxk⟩:=hrel;obtain ⟨c0,c1⟩:=HCC.out _ hxk;have HP:=Lib.hid hpk;have HB:=Lib.hid hbk;clear hpk hbk;by_cases hle:A + 20 <= n
  . have hc:=zeb I A (A + 20) dk wr hHk hsk (by omega) hle hn;rw [show ((A + 20:Nat):Int) = (A:Int) + 20 by omega] at hc;have hle':(A:Int) + 20 <= (n:Int):=by omega
    obtain ⟨p1,p2⟩:=insertionSort_holds (lt:=lt) hO dk A (A + 20) (by omega) (by omega);have P1:=Lib.hid p1;have P2:=Lib.hid p2;have hsz:(insertionSort lt dk A (A + 20)).size = n:=by rw [p1.1];exact hsk
    clear p1 p2;go_wp2_with (go_at_call 157;refine hc.mono ?_;rintro e w2 ⟨rfl,hH2,hx2⟩);go_roundg (n - (A + 20))
    case measure=>omega
    case rel =>
     exact ⟨q + 1,A + 20,insertionSort lt dk A (A + 20),by go_num,by go_num,Lib.hid (by have:=hA.out;omega),hle,Nat.le_refl _,hsz,permIn_trans _ _ _ _ _ HP.out (zaI P1.out (Nat.zero_le _) hle (by omega)),zdn hA.out HB.out (by omega) P1.out P2.out,hH2,ExtM.trans _ _ _ hxk hx2⟩
  . have hle':¬ (A:Int) + 20 <= (n:Int):=by omega
    have hc:=zeb I A n dk wr hHk hsk hAn (Nat.le_refl _) hn;obtain ⟨p1,p2⟩:=insertionSort_holds (lt:=lt) hO dk A n hAn (by omega);have hsz:(insertionSort lt dk A n).size = n:=by rw [p1.1];exact hsk
    have HB1:=Lib.hid (zfP (zdn hA.out HB.out (show n = min (A + 20) n by omega) p1 p2) (by omega));have HP1:=Lib.hid (permIn_trans _ _ _ _ _ HP.out (zaI p1 (Nat.zero_le _) (Nat.le_refl _) (by omega)));clear p1 p2 HP HB hA;go_wp2_with (go_at_call 157;refine hc.mono ?_;rintro e w2 ⟨rfl,hH2,hx2⟩);have hx2':=ExtM.trans _ _ _ hxk hx2;clear hxk hx2 hHk hsk hH1 hH c0 c1 hc hle hle' hgk hAn;generalize insertionSort lt dk A n = d1 at *;go_loopg [4] (n + 1) (fun kx s4 wr=>∃ (bs:Nat) (dk:Array α),s4 = .int .i64 (bs:Int) /\ 20 <= bs /\ bs <= 2 * n + 20 /\ n - bs <= kx /\ dk.size = n /\ PermIn 0 n d dk /\ Blk lt n bs 0 n dk /\ H dk wr /\ ExtM (fun k=>k = blk) W1 wr)
    case atStart=>exact ⟨20,d1,rfl,Nat.le_refl _,by omega,by omega,hsz,HP1.out,HB1.out,hH2,hx2'⟩
    case round =>
     clear hsz hH2 hx2' HP1 HB1;obtain ⟨bs,dk,rfl,hb20,hbn,hgk,hsk,hpk,hbk,hHk,hxk⟩:=hrel;obtain ⟨c0,c1⟩:=HCC.out _ hxk;have HP:=Lib.hid hpk;have HB:=Lib.hid hbk;clear hpk hbk;by_cases hlt:bs < n
     . go_wp2_with fail;clear c0 c1;go_loopg [5,6] (n + 1) (fun kx s5 s6 wr=>∃ (q A:Nat) (dk:Array α),s5 = .int .i64 (A:Int) /\ s6 = .int .i64 ((A:Int) + 2 * (bs:Int)) /\ Hid (A = q * (2 * bs)) /\ A <= n /\ n - A <= kx /\ dk.size = n /\ PermIn 0 n d dk /\ Blk lt n (2 * bs) 0 A dk /\ Blk lt n bs A n dk /\ H dk wr /\ ExtM (fun k=>k = blk) W1 wr)
       case atStart=>exact ⟨0,0,dk,rfl,by go_num,Lib.hid (by omega),Nat.zero_le _,by omega,hsk,HP.out,zkC,HB.out,hHk,hxk⟩
       case round =>
        clear hsk hHk hxk HP HB;obtain ⟨q,A,dk,rfl,rfl,hA,hAn,hgk2,hsk,hpk,hbk,hbr,hHk,hxk⟩:=hrel;obtain ⟨c0,c1⟩:=HCC.out _ hxk;have HP:=Lib.hid hpk;have HB:=Lib.hid hbk;have HR:=Lib.hid hbr;obtain ⟨t1,t2⟩:=zmy hA.out hbr;have T1:=Lib.hid t1;have T2:=Lib.hid t2;clear hpk hbk hbr t1 t2;by_cases hle:A + 2 * bs <= n
        . have hle':(A:Int) + 2 * (bs:Int) <= (n:Int):=by omega
          have hc:=zeT I hO hn (2 * bs + 1) A (A + bs) (A + 2 * bs) dk wr (by omega) hHk hsk (by omega) (by omega) hle
           (by have:=T1.out (by omega);rwa [show min (A + bs) n = A + bs by omega] at this) (by have:=T2.out (by omega);rwa [show min (A + 2 * bs) n = A + 2 * bs by omega] at this)
          rw [show ((A + bs:Nat):Int) = (A:Int) + (bs:Int) by omega,show ((A + 2 * bs:Nat):Int) = (A:Int) + 2 * (bs:Int) by omega] at hc;go_wp2_with (go_at_call 158;refine hc.mono ?_;rintro e w2 ⟨rfl,d2,hs2,hp2,hso2,hH2,hx2⟩);go_roundg (n - (A + 2 * bs))
          case measure=>omega
          case rel =>
           exact ⟨q + 1,A + 2 * bs,d2,by rw [show ((A + 2 * bs:Nat):Int) = (A:Int) + 2 * (bs:Int) by omega],by rw [show ((A + 2 * bs:Nat):Int) = (A:Int) + 2 * (bs:Int) by omega],Lib.hid (by rw [hA.out,Nat.add_mul,Nat.one_mul]),hle,Nat.le_refl _,hs2,permIn_trans _ _ _ _ _ HP.out (zaI hp2 (Nat.zero_le _) hle (by omega)),zdn hA.out HB.out (by omega) hp2 hso2,zlL HR.out hp2 (by omega) (.inr trivial),hH2,ExtM.trans _ _ _ hxk hx2⟩
        . have hle':¬ (A:Int) + 2 * (bs:Int) <= (n:Int):=by omega
          by_cases hm:A + bs < n
          . have hm':(A:Int) + (bs:Int) < (n:Int):=by omega
            have hc:=zeT I hO hn (2 * bs + 1) A (A + bs) n dk wr (by omega) hHk hsk (by omega) hm (Nat.le_refl _)
             (by have:=T1.out (by omega);rwa [show min (A + bs) n = A + bs by omega] at this) (by have:=T2.out hm;rwa [show min (A + 2 * bs) n = n by omega] at this)
            rw [show ((A + bs:Nat):Int) = (A:Int) + (bs:Int) by omega] at hc;go_wp2_with (go_at_call 158;refine hc.mono ?_;rintro e w2 ⟨rfl,d2,hs2,hp2,hso2,hH2,hx2⟩);go_roundg (n - 2 * bs)
            case measure=>omega
            case rel =>
             exact ⟨2 * bs,d2,by rw [show ((2 * bs:Nat):Int) = (bs:Int) * 2 by omega],by omega,by omega,Nat.le_refl _,hs2,permIn_trans _ _ _ _ _ HP.out (zaI hp2 (Nat.zero_le _) (Nat.le_refl _) (by omega)),zfP (zdn hA.out HB.out (by omega) hp2 hso2) (by omega),hH2,ExtM.trans _ _ _ hxk hx2⟩
          . have hm':¬ (A:Int) + (bs:Int) < (n:Int):=by omega
            go_wp2_with fail;go_roundg (n - 2 * bs)
            case measure=>omega
            case rel =>
             have hss:SortedIn lt A n dk:=by
              by_cases hz:A < n
              . have:=T1.out hz
                rwa [show min (A + bs) n = n by omega] at this
              . intro i j h1 h2 h3;omega
             exact ⟨2 * bs,dk,by rw [show ((2 * bs:Nat):Int) = (bs:Int) * 2 by omega],by omega,by omega,Nat.le_refl _,hsk,HP.out,zfP (zdn hA.out HB.out (b:=n) (by omega) (permIn_refl _ _ _) hss) (by omega),hHk,hxk⟩
     . go_wp2_with fail;refine bodyPost_end (a:=⟨_,_⟩) (results_none rfl _ _ _) rfl ?_;exact ⟨rfl,dk,hsk,HP.out,zmD HB.out (by omega),hHk,ExtM.trans _ _ _ HX1.out hxk⟩
end
theorem zls (w:World) (os:Array Obj):Ext w (grow w os):=by
 refine ⟨rfl,rfl,rfl,by rw [size_grow];omega,fun k hk _=>?_⟩;unfold grow;simp only;rw [Array.getElem?_append_left hk]
theorem zci (b:Nat):∀ (xs:List Value) (o:Nat) (w:World),ExtM (fun k=>k = b) w (w.setCells b o xs)
 | [],_,w=>ExtM.refl w
 | v :: r,o,w=>ExtM.trans _ _ _ (ExtM.setCell (M:=fun k=>k = b) (ExtM.refl w) (p:=⟨b,o,none⟩) (.inr rfl) v) (zci b r (o + 1) _)
instance:Inhabited Out:=⟨⟨0,⟨0,0,0⟩,⟨0,0,0⟩,false,false⟩⟩
theorem zji:(Tryz.prog.info? 50).map (fun i=>i.desc) = some (.slice 86):=by kernel_rfl
theorem zj3:(Tryz.prog.info? 86).map (fun i=>(i.size,i.bytes,i.hasPointers)) = some (9,64,false):=by kernel_rfl
theorem zhX:Tryz.prog.packed 50 = false:=by kernel_rfl
theorem znr (w:World):(Extern.Rtype.kind 86).run Tryz.prog w = .ok 25 w:=by kernel_rfl
theorem zj2 : Tryz.prog.funcs.findIdx? (·.name == "internal/reflectlite" ++ ".Swapper$" ++ toString 1) = some 148 := by kernel_rfl
theorem zjr : Tryz.prog.funcs.findIdx? (·.name == "internal/reflectlite" ++ ".Swapper$" ++ toString 2) = some 149 := by kernel_rfl
theorem zjb : Tryz.prog.funcs.findIdx? (·.name == "internal/reflectlite" ++ ".Swapper$" ++ toString 9) = some 156 := by kernel_rfl
theorem zpe (args:Array Value) (W:World):(callFunc 156 args).run Tryz.prog W = ((Extern.ReflectliteSwapper.swap false args).run Tryz.prog W).andThen fun v w'=>.ok (.value v) w' :=
 run_callFunc_extern Tryz.func156 (by kernel_rfl) (by kernel_rfl) (by kernel_rfl) (by kernel_rfl) args W
theorem zkF {lt:Out -> Out -> Bool} (hO:SWO lt) (g:Nat) (lb:Array Value) (blk cap:Nat) (d:Array Out) (w:World) (hn:d.size < 1000000) (eg:∀ args w,(callFunc g args).run Tryz.prog w = .ok (.enter g args) w) (hH:HoldsK Out.cells 9 w blk 0 d) (hblk:blk < w.heap.size)
 (hless:∀ (D:Array Out) (W:World) (i j:Nat),D.size = d.size -> HoldsK Out.cells 9 W blk 0 D -> ExtM (fun k=>k = blk) w W -> i < d.size -> j < d.size -> Calls Tryz.prog g (#[.int .i64 i,.int .i64 j] ++ lb) W fun e w'=>e = .returned (.bool (lt D[i]! D[j]!)) /\ Ext W w') :
 Calls Tryz.prog 67 #[.iface 50 (.slice (some ⟨blk,0,none⟩) d.size cap),.func (.func g) #[] lb] w fun e w'=>e = .returned (.tuple #[]) /\ ∃ d',PermIn 0 d.size d d' /\ SortedIn lt 0 d.size d' /\ HoldsK Out.cells 9 w' blk 0 d' /\ ExtM (fun k=>k = blk) w w':=by
 obtain ⟨i,hi,hd⟩:∃ i,Tryz.prog.info? 50 = some i /\ i.desc = .slice 86:=by
  have h:=zji;cases h2:Tryz.prog.info? 50 with
  | none=>rw [h2] at h;simp at h
  | some i=>rw [h2] at h;exact ⟨i,rfl,by simpa using h⟩
 obtain ⟨ie,hie,hs1,hs8,hsp⟩:∃ i,Tryz.prog.info? 86 = some i /\ i.size = 9 /\ i.bytes = 64 /\ i.hasPointers = false:=by
  have h:=zj3;cases h2:Tryz.prog.info? 86 with
  | none=>rw [h2] at h;simp at h
  | some i=>rw [h2] at h;simp at h;exact ⟨i,rfl,h⟩
 have keep:∀ (D:Array Out) (W W':World) (B:Nat),HoldsK Out.cells 9 W blk 0 D -> blk < W.heap.size -> ExtM (fun k=>B <= k) W W' -> blk < B -> HoldsK Out.cells 9 W' blk 0 D:=fun D W W' B h hb hx hB k hk =>
  ⟨(hx.cell (p:=⟨blk,0 + k,none⟩) hb (by simp;exact hB)).trans (h k hk).1,(hx.frozen (p:=⟨blk,0 + k,none⟩) hb (by simp;exact hB)).trans (h k hk).2⟩
 by_cases h2:d.size <= 1
 . have ht:=Any.sort_SliceStable_tiny Tryz.shStab 50 86 i ie hi hd zhX hie 25 znr (some ⟨blk,0,none⟩) d.size cap h2 (if d.size = 0 then 148 else 149)
    (by
      by_cases h0:d.size = 0
      . rw [h0];exact zj2
      . rw [show d.size = 1 by omega];exact zjr) (.func g) #[] lb w
   refine ht.mono ?_;rintro e w' ⟨he,os,rfl⟩;have hx:=zls w os;exact ⟨he,d,permIn_refl _ _ _,fun x y h1 h2' h3=>by omega,keep d w _ w.heap.size hH hblk (hx.mono (fun _ _ h=>h.elim)) hblk,hx.mono (fun _ _ h=>h.elim)⟩
 . have hK:Lib.swapperK d.size ie 25 = 9:=by
    unfold Lib.swapperK;simp [hs8,hsp,show d.size ≠ 0 by omega,show d.size ≠ 1 by omega]
   refine Any.sort_SliceStable_of_stable Tryz.shStab 50 86 i ie hi hd zhX hie 25 znr (some ⟨blk,0,none⟩) d.size cap (by omega) 156 (by rw [hK];exact zjb) (.func g) #[] lb w _ ?_;have hB:sliceBound Tryz.prog 86 ie 25 (some ⟨blk,0,none⟩) d.size cap = #[.slice (some ⟨blk,0,none⟩) d.size cap,Go.typeHandle Tryz.prog 86]:=by
    unfold sliceBound;rw [if_neg (swapperK_gt _ _ _ (by omega))]
   rw [hB];have hsw:=swapSwapsK_of_literal (P:=Tryz.prog) false 156 zpe 86 ie hie Out.cells 9 zas hs1 zip zb0 blk 0 d.size cap;have I:SIf d.size lt g lb 156 #[.slice (some ⟨blk,0,none⟩) d.size cap,Go.typeHandle Tryz.prog 86] blk (fun D W=>D.size = d.size /\ HoldsK Out.cells 9 W blk 0 D /\ ExtM (fun k=>k = blk) w W):=by
    refine ⟨⟨w.heap.size,fun D W h=>h.2.2.size,hblk,fun D W W' h hx=>⟨h.1,keep D W W' w.heap.size h.2.1 (Nat.lt_of_lt_of_le hblk h.2.2.size) hx hblk,?_⟩⟩,eg,fun D W i j hs h hi hj=>hless D W i j hs h.2.1 h.2.2 hi hj,fun D W i j hs h hi hj=>?_⟩
    . have h4:=h.2.2;exact ⟨hx.os.trans h4.os,hx.tape.trans h4.tape,hx.output.trans h4.output,Nat.le_trans h4.size hx.size,fun k hk hn=>(hx.block k (Nat.lt_of_lt_of_le hk h4.size) (by omega)).trans (h4.block k hk hn)⟩
    . have hxs:ExtM (fun k=>k = blk) W ((W.setCells blk (0 + i * 9) (D[j]!).cells).setCells blk (0 + j * 9) (D[i]!).cells):=ExtM.trans _ _ _ (zci blk _ _ _) (zci blk _ _ _);refine ⟨_,hsw W D h.2.1 hs i j hi hj,⟨by rw [size_swp];exact hs,?_,ExtM.trans _ _ _ h.2.2 hxs⟩,hxs⟩;have e:=swap_worldK Out.cells 9 zas W 0 0 blk 0 D i j (by omega) (by omega);rw [show putRowK Out.cells 9 (Sort.ahead W 0) blk 0 D = W from putRowK_self Out.cells 9 W blk 0 D h.2.1] at e;rw [show (W.setCells blk (0 + i * 9) (D[j]!).cells).setCells blk (0 + j * 9) (D[i]!).cells = putRowK Out.cells 9 W blk 0 (swp D i j) from e];exact holdsK_putRowK Out.cells 9 W blk 0 D (swp D i j) h.2.1 (size_swp _ _ _)
   have hx0:Ext w (stableWorld Tryz.prog Tryz.shStab_ren 50 (some ⟨blk,0,none⟩) d.size cap w):=((ExtM.refl w).alloc _).alloc _;have hH0:d.size = d.size /\ HoldsK Out.cells 9 (stableWorld Tryz.prog Tryz.shStab_ren 50 (some ⟨blk,0,none⟩) d.size cap w) blk 0 d /\ ExtM (fun k=>k = blk) w (stableWorld Tryz.prog Tryz.shStab_ren 50 (some ⟨blk,0,none⟩) d.size cap w) :=
    ⟨rfl,keep d w _ w.heap.size hH hblk (hx0.mono (fun _ _ h=>h.elim)) hblk,hx0.mono (fun _ _ h=>h.elim)⟩
   refine (zmO I hO hn d _ hH0 rfl).mono ?_;rintro e w' ⟨he,d',h1,h2,h3,h4,h5⟩;exact ⟨he,d',h2,h3,h4.2.1,h4.2.2⟩
open Go.RowKit Go.Plan
structure RB (w:World) (B:Nat) (v:Value) (l:List Out):Prop where
 c0:w.cell? ⟨B,0,none⟩ = some v
 f0:w.frozen? ⟨B,0,none⟩ = false
 row:w.ownsRow 0 86 9 v l.length (l.flatMap Out.cells)
 own:v.ownBlock ≠ some B
theorem RB.lt {w:World} {B:Nat} {v:Value} {l:List Out} (h:RB w B v l):B < w.heap.size:=zac h.c0
theorem RB.extM {M:Nat -> Prop} {w w':World} {B:Nat} {v:Value} {l:List Out} (h:RB w B v l) (hx:ExtM M w w') (hB:¬ M B) (hv:∀ k,v.ownBlock = some k -> ¬ M k):RB w' B v l :=
 ⟨(hx.cell (p:=⟨B,0,none⟩) h.lt hB).trans h.c0,(hx.frozen (p:=⟨B,0,none⟩) h.lt hB).trans h.f0,zag h.row hx hv,h.own⟩
theorem RB.of {w w':World} {B:Nat} {v:Value} {l:List Out} (h:RB w B v l) (hx:Ext w w'):RB w' B v l:=h.extM hx (fun h=>h) (fun _ _ h=>h)
theorem zh7 (W:World) (base nb c:Nat) (v:Value) (acc:List Out) (x:Out) (ty:TypeId) (hown:W.ownsRow base 86 9 v acc.length (acc.flatMap Out.cells)) (hx:∀ j u,x.cells[j]? = some u -> W.cell? ⟨nb,j,none⟩ = some u) (hl:acc.length < 1000000) (hb:base <= W.heap.size) :
 ∃ v' w',(Builtin.append_ #[50,50] ty #[v,.slice (some ⟨nb,0,none⟩) 1 c]).run Tryz.prog W = .ok v' w' /\ w'.ownsRow base 86 9 v' (acc ++ [x]).length ((acc ++ [x]).flatMap Out.cells) /\ ExtR v.ownBlock W w' /\ (v'.ownBlock = v.ownBlock \/ ∃ k,v'.ownBlock = some k /\ W.heap.size <= k) :=
 zb8 zas zb0 50 _ 64 zfg rfl (by decide) Tryz.underlying50 (by decide) W base nb c v acc x ty hown hx hl hb
theorem zep {M N:Nat -> Prop} {a b c:World} (h1:ExtM M a b) (h2:ExtM N b c) (hN:∀ k,k < a.heap.size -> N k -> M k):ExtM M a c :=
 ⟨h2.os.trans h1.os,h2.tape.trans h1.tape,h2.output.trans h1.output,Nat.le_trans h1.size h2.size,fun k hk hn=>(h2.block k (Nat.lt_of_lt_of_le hk h1.size) (fun e=>hn (hN k hk e))).trans (h1.block k hk hn)⟩
def bagE (x:Out) (l:List Out):Int:=if x ∈ l then 0 else 8
theorem ze5 (W:World) (base bs:Nat) (v s:Value) (acc xs:List Out) (ty:TypeId) (hown:W.ownsRow base 86 9 v acc.length (acc.flatMap Out.cells)) (hs:W.ownsRow bs 86 9 s xs.length (xs.flatMap Out.cells)) (hl:acc.length + xs.length < 1000000) (hb:base <= W.heap.size) :
 ∃ v' w',(Builtin.append_ #[50,50] ty #[v,s]).run Tryz.prog W = .ok v' w' /\ w'.ownsRow base 86 9 v' (acc ++ xs).length ((acc ++ xs).flatMap Out.cells) /\ ExtR v.ownBlock W w' /\ (v'.ownBlock = v.ownBlock \/ ∃ k,v'.ownBlock = some k /\ W.heap.size <= k) :=
 zcK zas zb0 50 _ 64 zfg rfl (by decide) Tryz.underlying50 (by decide) W base bs v s acc xs ty hown hs hl hb
theorem zpq {w:World} {b o:Nat} {u:Value} (h:w.cell? ⟨b,o,none⟩ = some u):b < w.heap.size:=zac h
theorem zkp (bl blk n cap i j:Nat) (X Y:Out) (w:World) (h3:w.cell? ⟨bl,0,none⟩ = some (.slice (some ⟨blk,0,none⟩) n cap)) (hi:i < n) (hj:j < n) (ei:zbI w blk (i * 9) X) (ej:zbI w blk (j * 9) Y) :
 Calls Tryz.prog 68 #[.int .i64 i,.int .i64 j,.pointer (some ⟨bl,0,none⟩)] w fun e w'=>e = .returned (.bool (ltOf zad X Y)) /\ Ext w w':=by
 have l3:=zpq h3;have l4:=ei.lt;obtain ⟨e0,e1,e2,e3,e4,e5,e6,e7,e8⟩:=id ei;obtain ⟨g0,g1,g2,g3,g4,g5,g6,g7,g8⟩:=id ej;unfold ltOf;go_enter Tryz.func68,Tryz.ntmps68;go_wp2_with fail;refine Plan.b0 Plan.Ext 11 ?_;refine Plan.qs 8 [0,1,2,3,4,5,6,7] ?_;iterate 8 go_big_quiet_step (fail)
 refine Plan.o1 8 fun K hK=>?_;go_wp2_with (fail);refine (ze2 X Y _).mono ?_;rintro e w1 ⟨rfl,h1⟩;have H1:=ExtM.trans _ _ _ (ExtM.refl _).drew h1;obtain ⟨hc1,hf1,-⟩:=Ext.rules H1;have hs1_0:bl < w1.heap.size:=by have:=H1.size;(try simp at this);omega
 have hs1_1:blk < w1.heap.size:=by have:=H1.size;(try simp at this);omega
 go_wp2_with (fail);refine hK _ _ h1 ?_;clear hK K;refine Plan.qs 2 [9,10] ?_;iterate 2 go_big_quiet_step (fail)
 refine Plan.dn ?_;go_wp2_with fail;go_ret;exact ⟨rfl,H1⟩
theorem zbp.elem' {w:World} {b:Nat} {d:Array Out} (h:HoldsK Out.cells 9 w b 0 d) (i:Nat) (hi:i < d.size):zbI w b (i * 9) d[i]!:=by
 have r:∀ c,c < 9 -> w.cell? ⟨b,i * 9 + c,none⟩ = some ((d[i]!).cells)[c]!:=fun c hc=>by
  have:=(h.cell hi hc).1
  rwa [Nat.zero_add] at this
 exact ⟨r 0 (by omega),r 1 (by omega),r 2 (by omega),r 3 (by omega),r 4 (by omega),r 5 (by omega),r 6 (by omega),r 7 (by omega),r 8 (by omega)⟩
theorem zeo {l:List Out} {d':Array Out} (hp:PermIn 0 l.length l.toArray d') (hs:SortedIn (ltOf zad) 0 l.length d'):d'.toList = sortO l:=by
 have hsz:d'.size = l.length:=by rw [hp.1];simp
 have:=sorted_unique_holds (lt:=ltOf zad) zl4 znp l.toArray d' (by simpa using hp) (by simpa using hs)
 rw [this];rfl
structure RE (w:World) (B:Nat) (v:Value) (l:List Out):Prop where
 c0:w.cell? ⟨B,1,none⟩ = some v
 f0:w.frozen? ⟨B,1,none⟩ = false
 row:w.ownsRow 0 86 9 v l.length (l.flatMap Out.cells)
 own:v.ownBlock ≠ some B
def REUp (w w':World) (B:Nat) (v:Value) (l:List Out):Prop :=
 (∃ v',RE w' B v' l /\ (v'.ownBlock = v.ownBlock \/ ∃ k,v'.ownBlock = some k /\ w.heap.size <= k)) /\ ExtM (fun k=>k = B \/ v.ownBlock = some k) w w' /\ ∀ q,q ≠ 1 -> w'.cell? ⟨B,q,none⟩ = w.cell? ⟨B,q,none⟩ /\ w'.frozen? ⟨B,q,none⟩ = w.frozen? ⟨B,q,none⟩
theorem RE.lt {w:World} {B:Nat} {v:Value} {l:List Out} (h:RE w B v l):B < w.heap.size:=zac h.c0
theorem RE.extM {M:Nat -> Prop} {w w':World} {B:Nat} {v:Value} {l:List Out} (h:RE w B v l) (hx:ExtM M w w') (hB:¬ M B) (hv:∀ k,v.ownBlock = some k -> ¬ M k):RE w' B v l :=
 ⟨(hx.cell (p:=⟨B,1,none⟩) h.lt hB).trans h.c0,(hx.frozen (p:=⟨B,1,none⟩) h.lt hB).trans h.f0,zag h.row hx hv,h.own⟩
theorem RE.of {w w':World} {B:Nat} {v:Value} {l:List Out} (h:RE w B v l) (hx:Ext w w'):RE w' B v l:=h.extM hx (fun h=>h) (fun _ _ h=>h)
theorem zgf (B:Nat) (v:Value) (l:List Out) (x:Out) (w:World) (h:RE w B v l) (hl:l.length < 1000000) :
 Calls Tryz.prog 37 #[.pointer (some ⟨B,1,none⟩),encC x false] w fun e w'=>e = .returned (.int .i64 0) /\ REUp w w' B v (l ++ [x]):=by
 have hB:=h.lt;have bx:=BoxC.mk' w x false 92;have x1:Ext w (w.alloc (.cells #[.int .i64 x.key,.int .i64 x.l.k,.int .i64 x.l.t,.int .i64 x.l.v,.int .i64 x.r.k,.int .i64 x.r.t,.int .i64 x.r.v,.bool x.hl,.bool x.hr,.bool false] 92)):=(ExtM.refl _).alloc _;have hs1:(w.alloc (.cells #[.int .i64 x.key,.int .i64 x.l.k,.int .i64 x.l.t,.int .i64 x.l.v,.int .i64 x.r.k,.int .i64 x.r.t,.int .i64 x.r.v,.bool x.hl,.bool x.hr,.bool false] 92)).heap.size = w.heap.size + 1:=World.size_alloc _ _;have h1:=h.of x1;have hlt:=fun k hk=>(zaf h.row k hk).2;unfold encC;go_enter Tryz.func37,Tryz.ntmps37;go_upto_region 2 with fail;generalize w.alloc (.cells #[.int .i64 x.key,.int .i64 x.l.k,.int .i64 x.l.t,.int .i64 x.l.v,.int .i64 x.r.k,.int .i64 x.r.t,.int .i64 x.r.v,.bool x.hl,.bool x.hr,.bool false] 92) = w1 at *;obtain ⟨g0,g1,g2,g3,g4,g5,g6,g7,g8,g9⟩:=id bx;have c0:=h1.c0;have f0:=h1.f0;have hnb:¬ v.ownBlock = some B:=h.own;have hnx:¬ v.ownBlock = some w.heap.size:=fun e=>by have:=hlt _ e;omega
 have hB1:=h1.lt;have hS1:w.heap.size < w1.heap.size:=by omega
 clear hs1;obtain ⟨v5,w5,happ,hown,hgx,hloc⟩:=zh7 (w1.drew.alloc (.cells #[.int .i64 x.key,.int .i64 x.l.k,.int .i64 x.l.t,.int .i64 x.l.v,.int .i64 x.r.k,.int .i64 x.r.t,.int .i64 x.r.v,.bool x.hl,.bool x.hr] 86)) 0 w1.heap.size 1 v l x 50
  (zag h1.row (((ExtM.refl w1).drew).alloc _) (fun _ _ h=>h)) (fun j u hj=>(World.cell?_alloc_at _ _ _ j (by simp)).trans (by simpa [Out.cells] using hj)) (by omega) (Nat.zero_le _)
 have hgx:ExtM (fun k=>v.ownBlock = some k) _ _:=hgx;obtain ⟨p5,c5,rfl,-⟩:=zaa hown;have el:(l ++ [x]).length = l.length + 1:=by simp
 rw [el] at happ hown hloc;have hx5:ExtM (fun k=>v.ownBlock = some k) w w5:=ExtM.trans _ _ _ ((ExtM.trans _ _ _ x1 (((ExtM.refl w1).drew).alloc _)).mono (fun _ _ h=>h.elim)) hgx;have cB:=(hx5.cell (p:=⟨B,1,none⟩) hB h.own).trans h.c0;have fB:=(hx5.frozen (p:=⟨B,1,none⟩) hB h.own).trans h.f0;have hB5:B < w5.heap.size:=Nat.lt_of_lt_of_le hB hx5.size;refine Plan.bT (Plan.ExtR v.ownBlock) [11] 12 ?_;refine Plan.qs 7 [0,1,2,3,4,5,6] ?_;iterate 7 go_big_quiet_step (fail)
 refine Plan.o1 7 fun K hK=>?_;go_wp2_with (fail);refine hK _ _ ((ExtM.refl _).alloc _) ?_;clear hK K;refine Plan.o1 8 fun K hK=>?_;refine zaw (happ) rfl _ _ rfl rfl rfl ?_;refine hK _ _ (hgx) ?_;simp only [Act.put,List.setIfInBounds_toArray,List.set_cons_succ,List.set_cons_zero];clear hK K;refine Plan.o1 9 fun K hK=>?_;go_wp2_with (fail);refine hK _ _ (ExtM.refl _) ?_;clear hK K;refine Plan.qs 1 [10] ?_;go_big_quiet_step (fail);refine Plan.ol 11 fun K hK=>?_;go_wp2_with (fail);refine Plan.dn ?_;go_wp2_with fail;go_ret;have hs5:w.heap.size <= (w1.drew.alloc (.cells #[.int .i64 x.key,.int .i64 x.l.k,.int .i64 x.l.t,.int .i64 x.l.v,.int .i64 x.r.k,.int .i64 x.r.t,.int .i64 x.r.v,.bool x.hl,.bool x.hr] 86)).heap.size:=by simp;omega
 have hown':(Value.slice p5 (l.length + 1) c5).ownBlock ≠ some B:=fun e=>by
  rcases hloc with h2 | ⟨k,h2,h3⟩
  . exact h.own (h2 ▸ e)
  . rw [h2] at e;have:=Option.some.inj e;omega
 have hxs:ExtM (fun k=>k = B) w5 (w5.setCell ⟨B,1,none⟩ (.slice p5 (l.length + 1) c5)):=ExtM.setCell (M:=fun k=>k = B) (ExtM.refl w5) (p:=⟨B,1,none⟩) (.inr rfl) _;refine ⟨rfl,⟨_,⟨World.cell?_setCell_same _ _ _ cB,(World.frozen?_setCell _ _ _ _).trans fB,by rw [el];exact zag hown hxs (fun k hk e=>hown' (e ▸ hk)),hown'⟩,?_⟩,?_,fun q hq=>⟨(World.cell?_setCell_other _ _ _ _ (by intro e;simp only [Addr.mk.injEq,and_true,true_and] at e;omega)).trans (hx5.cell (p:=⟨B,q,none⟩) hB h.own),(World.frozen?_setCell _ _ _ _).trans (hx5.frozen (p:=⟨B,q,none⟩) hB h.own)⟩⟩
 . rcases hloc with h2 | ⟨k,h2,h3⟩
   . exact .inl h2
   . exact .inr ⟨k,h2,by omega⟩
 . exact zep (ExtM.mono hx5 (fun k _ e=>.inr e)) hxs (fun k _ e=>.inl e)
theorem zgB (B:Nat) (v:Value) (l:List Out) (x:Out) (w:World) (hRE:RE w B v l) (hl:l.length < 1000000) :
 Calls Tryz.prog 37 #[.pointer (some ⟨B,1,none⟩),encC x true] w fun e w'=>e = .returned (.int .i64 (bagE x l)) /\ REUp w w' B v (l.erase x) /\ (x ∉ l -> Ext w w'):=by
 obtain ⟨p,cap,rfl,hcap,hof⟩:=zbq.own hRE.row rfl;have hB:=hRE.lt;have c0:=hRE.c0;have f0:=hRE.f0;have bx:=BoxC.mk' w x true 92;have x1:Ext w (w.alloc (.cells #[.int .i64 x.key,.int .i64 x.l.k,.int .i64 x.l.t,.int .i64 x.l.v,.int .i64 x.r.k,.int .i64 x.r.t,.int .i64 x.r.v,.bool x.hl,.bool x.hr,.bool true] 92)):=(ExtM.refl _).alloc _;have hs1:w.heap.size < (w.alloc (.cells #[.int .i64 x.key,.int .i64 x.l.k,.int .i64 x.l.t,.int .i64 x.l.v,.int .i64 x.r.k,.int .i64 x.r.t,.int .i64 x.r.v,.bool x.hl,.bool x.hr,.bool true] 92)).heap.size:=by simp
 unfold encC;go_enter Tryz.func37,Tryz.ntmps37;go_wp2_with fail;generalize w.alloc (.cells #[.int .i64 x.key,.int .i64 x.l.k,.int .i64 x.l.t,.int .i64 x.l.v,.int .i64 x.r.k,.int .i64 x.r.t,.int .i64 x.r.v,.bool x.hl,.bool x.hr,.bool true] 92) = w1 at *;generalize Value.agg #[.int .i64 x.key,.int .i64 x.l.k,.int .i64 x.l.t,.int .i64 x.l.v,.int .i64 x.r.k,.int .i64 x.r.t,.int .i64 x.r.v,.bool x.hl,.bool x.hr,.bool true] = V1;have C0:=Lib.hid c0;have F0:=Lib.hid f0;clear c0 f0;go_loopg [26] (l.length + 1) (fun kx s26 wr=>∃ k:Nat,s26 = .int .i64 k /\ k <= l.length /\ l.length - k <= kx /\ Ext w1 wr /\ x ∉ l.take k)
 case atStart=>exact ⟨0,rfl,by omega,by omega,ExtM.refl _,by simp⟩
 case round =>
  obtain ⟨k,rfl,hk,hgk,hx,hni⟩:=hrel;have hxw:Ext w wr:=ExtM.trans _ _ _ x1 hx;by_cases hkl:k < l.length
  . have hlk:l[k]? = some l[k]:=List.getElem?_eq_getElem hkl;rcases hof.of hxw with hn | ⟨g,rfl,hel⟩
    . rw [hn] at hkl;simp at hkl
    have el:=hel k hkl;have lb:=el.lt;have bx1:BoxC wr w.heap.size x true:=bx.of hx (fun h=>h);have hnl:w.heap.size < wr.heap.size:=Nat.lt_of_lt_of_le hs1 hx.size;generalize l[k] = y at *;have HLK:=Lib.hid hlk;have HEL:=Lib.hid hel;clear hlk hel;have heq:=fun u=>zmU y x u;obtain ⟨e0,e1,e2,e3,e4,e5,e6,e7,e8⟩:=id el;obtain ⟨g0,g1,g2,g3,g4,g5,g6,g7,g8,g9⟩:=id bx1;by_cases hyx:y = x
    . have HYX:=Lib.hid hyx;rw [decide_eq_true hyx] at heq;clear hyx;go_upto_region 8 with fail;have hxd:Ext w (wr.alloc (.cells #[.int .i64 y.key,.int .i64 y.l.k,.int .i64 y.l.t,.int .i64 y.l.v,.int .i64 y.r.k,.int .i64 y.r.t,.int .i64 y.r.v,.bool y.hl,.bool y.hr] 86)):=hxw.alloc _;have HEL2:∀ i (hi:i < l.length),zbI (wr.alloc (.cells #[.int .i64 y.key,.int .i64 y.l.k,.int .i64 y.l.t,.int .i64 y.l.v,.int .i64 y.r.k,.int .i64 y.r.t,.int .i64 y.r.v,.bool y.hl,.bool y.hr] 86)) g (i * 9) (l[i]'hi):=fun i hi=>(HEL.out i hi).of ((ExtM.refl wr).alloc _);have hgd:g < (wr.alloc (.cells #[.int .i64 y.key,.int .i64 y.l.k,.int .i64 y.l.t,.int .i64 y.l.v,.int .i64 y.r.k,.int .i64 y.r.t,.int .i64 y.r.v,.bool y.hl,.bool y.hr] 86)).heap.size:=Nat.lt_of_lt_of_le lb (by simp);clear e0 e1 e2 e3 e4 e5 e6 e7 e8 g0 g1 g2 g3 g4 g5 g6 g7 g8 g9 heq el bx1 bx hx hxw lb hnl HEL hof hs1 x1;generalize wr.alloc (.cells #[.int .i64 y.key,.int .i64 y.l.k,.int .i64 y.l.t,.int .i64 y.l.v,.int .i64 y.r.k,.int .i64 y.r.t,.int .i64 y.r.v,.bool y.hl,.bool y.hr] 86) = wd at *;have hEd:∀ i (hi:i < l.length),zbI wd.drew g (i * 9) (l[i]'hi):=fun i hi=>(HEL2 i hi).of ((ExtM.refl wd).drew);have h5:=zc3 (wd.drew.alloc (.cells #[] 86)) wd.heap.size (.slice (some ⟨wd.heap.size,0,none⟩) 0 0) [] (l.take k) ⟨g,0,none⟩ cap 50
       ⟨rfl,.inr ⟨wd.heap.size,0,#[],rfl,Nat.le_refl _,heap_alloc_new _ _,Nat.le_refl _,by unfold maxLen;decide,rfl,rfl⟩⟩
       (fun j u hj=>by
         have e1:(⟨g,0,none⟩:Addr).add j = ⟨g,0 * 9 + j,none⟩:=by unfold Addr.add;split <;> simp_all
         rw [e1]
         have:=zgM hEd (l.take k) 0 (fun i hi=>by rw [Nat.zero_add,List.getElem?_take_of_lt (by rw [List.length_take] at hi;omega)]) j u hj
         rw [World.cell?_alloc_lt _ _ _ (show g < wd.drew.heap.size from hgd)]
         exact this)
       (by rw [List.length_take];simp;omega) (by rw [World.size_alloc];exact Nat.le_succ _)
      obtain ⟨p1,n1,c1,W1,happ1,hown1,hgr1,hloc1⟩:=h5;rw [List.length_take,Nat.min_eq_left hk] at happ1;have hs0:wd.heap.size <= (wd.drew.alloc (.cells #[] 86)).heap.size:=by rw [World.size_alloc];exact Nat.le_succ _
      have X1:Plan.ExtF wd.heap.size (wd.drew.alloc (.cells #[] 86)) W1:=ExtF.grown (ExtF.refl _) hgr1 (fun k h=>.inr (by
       have:=Option.some.inj h
       simp at this;omega))
      have X01:Ext wd W1:=ExtF.ext (ExtF.trans _ _ _ (((ExtF.refl wd).drew).alloc _) X1) (Nat.le_refl _);have hsW:wd.heap.size <= W1.heap.size:=X01.size;have hE1:∀ i (hi:i < l.length),zbI W1 g (i * 9) (l[i]'hi):=fun i hi=>(HEL2 i hi).of X01;have hwB:w.heap.size <= wd.heap.size:=hxd.size;have hacc:([] ++ l.take k).length + (l.drop (k + 1)).length < 1000000000:=by simp [List.length_take,List.length_drop];omega
      have hin:x ∈ l:=HYX.out ▸ List.mem_of_getElem? HLK.out;have herr:l.erase x = [] ++ l.take k ++ l.drop (k + 1):=by rw [List.nil_append];exact zlA (by rw [HLK.out,HYX.out]) hni
      have HIN:Hid (bagE x l = 0):=Lib.hid (if_pos hin);have HERR:=Lib.hid herr;have HS1:Hid (∃ k,(Value.slice p1 n1 c1).ownBlock = some k):=Lib.hid (hloc1.elim (fun h=>⟨_,h⟩) (fun h=>⟨_,h⟩));clear hin herr hgr1 hloc1 hEd HEL2;by_cases hc:k + 1 = cap
      . have h10:=zc3 W1 wd.heap.size (.slice p1 n1 c1) ([] ++ l.take k) (l.drop (k + 1)) ⟨g,0,none⟩ 0 50 hown1 (fun j u hj=>by
         have:l.drop (k + 1) = []:=List.drop_eq_nil_of_le (by omega)
         rw [this] at hj;simp at hj) hacc hsW
        obtain ⟨p2,n2,c2,W2,happ2,hown2,hgr2,hloc2⟩:=h10;rw [List.length_drop,show l.length - (k + 1) = 0 by omega] at happ2;subst hc
        have X2:Plan.ExtF wd.heap.size W1 W2:=ExtF.grown (ExtF.refl _) hgr2 (fun k h=>.inr (by
         rcases hown1.2 with ⟨h1,-⟩ | ⟨g',cap',cur,h1,hbase,-⟩
         . rw [h1] at h;cases h
         . rw [h1] at h
           have:=Option.some.inj h
           simp at this;omega))
        have X02:Ext w W2:=ExtM.trans _ _ _ hxd (ExtF.ext (ExtF.trans _ _ _ (ExtF.of_ext X01) X2) (Nat.le_refl _));have cB:W2.cell? ⟨B,1,none⟩ = some (.slice (some ⟨g,0,none⟩) l.length _):=(X02.cell (p:=⟨B,1,none⟩) hB id).trans C0.out;have fB:W2.frozen? ⟨B,1,none⟩ = false:=(X02.frozen (p:=⟨B,1,none⟩) hB id).trans F0.out;have c0:wd.cell? ⟨B,1,none⟩ = some (.slice (some ⟨g,0,none⟩) l.length _):=(hxd.cell (p:=⟨B,1,none⟩) hB id).trans C0.out;have hBd:B < wd.heap.size:=Nat.lt_of_lt_of_le hB hxd.size;have hBW:B < W2.heap.size:=Nat.lt_of_lt_of_le hB X02.size;have HS2:Hid (∃ k,(Value.slice p2 n2 c2).ownBlock = some k):=Lib.hid (hloc2.elim (fun h=>HS1.out.elim fun k hk=>⟨k,h.trans hk⟩) (fun h=>⟨_,h⟩));clear hgr2 hloc2;refine Plan.bT (Plan.ExtF wd.heap.size) [19] 20 ?_;refine Plan.qs 12 [0,2,3,4,5,6,7,9,10,11,12,13] ?_;iterate 12 go_big_quiet_step (fail)
        refine Plan.qs 2 [14,15] ?_;iterate 2 go_big_quiet_step (fail)
        refine Plan.o1 1 fun K hK=>?_;go_wp2_with (fail);refine hK _ _ ((ExtF.refl _).alloc _) ?_;clear hK K;refine Plan.o1 8 fun K hK=>?_;refine zaw (happ1) rfl _ _ rfl rfl rfl ?_;refine hK _ _ (X1) ?_;simp only [Act.put,List.setIfInBounds_toArray,List.set_cons_succ,List.set_cons_zero];clear hK K;refine Plan.o1 16 fun K hK=>?_;refine zaw (happ2) rfl _ _ rfl rfl rfl ?_;refine hK _ _ (X2) ?_;simp only [Act.put,List.setIfInBounds_toArray,List.set_cons_succ,List.set_cons_zero];clear hK K;refine Plan.o1 17 fun K hK=>?_;go_wp2_with (fail);refine hK _ _ (ExtF.refl _) ?_;clear hK K;refine Plan.qs 1 [18] ?_;go_big_quiet_step (fail);refine Plan.ol 19 fun K hK=>?_;go_wp2_with (fail);refine Plan.dn ?_;go_wp2_with fail;go_ret;rw [HIN.out,HERR.out];have hbn:∀ k,(Value.slice p2 n2 c2).ownBlock = some k -> wd.heap.size <= k:=fun k hk=>by
         rcases hown2.2 with ⟨h1,-⟩ | ⟨g',cap',cur,h1,hbase,-⟩
         . rw [h1] at hk;cases hk
         . rw [h1] at hk
           have:=Option.some.inj hk
           simp at this;omega
        have hxs:ExtM (fun k=>k = B) W2 (W2.setCell ⟨B,1,none⟩ (.slice p2 n2 c2)):=ExtM.setCell (M:=fun k=>k = B) (ExtM.refl W2) (p:=⟨B,1,none⟩) (.inr rfl) _;have hwd:w.heap.size <= wd.heap.size:=hxd.size;refine ⟨rfl,⟨⟨.slice p2 n2 c2,⟨World.cell?_setCell_same _ _ _ cB,(World.frozen?_setCell _ _ _ _).trans fB,zag (zak hown2 (Nat.zero_le _)) hxs (fun k hk e=>by have:=hbn k hk;omega),fun e=>by have:=hbn _ e;omega⟩,?_⟩,zep (ExtM.mono X02 (fun _ _ h=>h.elim)) hxs (fun k _ e=>.inl e),fun q hq=>⟨(World.cell?_setCell_other _ _ _ _ (by intro e;simp only [Addr.mk.injEq,and_true,true_and] at e;omega)).trans (X02.cell (p:=⟨B,q,none⟩) hB id),(World.frozen?_setCell _ _ _ _).trans (X02.frozen (p:=⟨B,q,none⟩) hB id)⟩⟩,fun hn=>by have:=HIN.out;rw [show bagE x l = 8 from if_neg hn] at this;cases this⟩;cases ho:(Value.slice p2 n2 c2).ownBlock with
        | none=>obtain ⟨k,hk⟩:=HS2.out;rw [ho] at hk;cases hk
        | some k=>exact .inr ⟨k,rfl,Nat.le_trans hwd (hbn k ho)⟩
      . have h10:=zc3 W1 wd.heap.size (.slice p1 n1 c1) ([] ++ l.take k) (l.drop (k + 1)) ⟨g,(k + 1) * 9,none⟩ (cap - (k + 1)) 50 hown1 (fun j u hj=>by
         have e1:(⟨g,(k + 1) * 9,none⟩:Addr).add j = ⟨g,(k + 1) * 9 + j,none⟩:=by unfold Addr.add;split <;> simp_all
         rw [e1]
         exact zgM hE1 (l.drop (k + 1)) (k + 1) (fun i hi=>by rw [List.getElem?_drop]) j u hj) hacc hsW
        obtain ⟨p2,n2,c2,W2,happ2,hown2,hgr2,hloc2⟩:=h10;rw [List.length_drop] at happ2
        have X2:Plan.ExtF wd.heap.size W1 W2:=ExtF.grown (ExtF.refl _) hgr2 (fun k h=>.inr (by
         rcases hown1.2 with ⟨h1,-⟩ | ⟨g',cap',cur,h1,hbase,-⟩
         . rw [h1] at h;cases h
         . rw [h1] at h
           have:=Option.some.inj h
           simp at this;omega))
        have X02:Ext w W2:=ExtM.trans _ _ _ hxd (ExtF.ext (ExtF.trans _ _ _ (ExtF.of_ext X01) X2) (Nat.le_refl _));have cB:W2.cell? ⟨B,1,none⟩ = some (.slice (some ⟨g,0,none⟩) l.length _):=(X02.cell (p:=⟨B,1,none⟩) hB id).trans C0.out;have fB:W2.frozen? ⟨B,1,none⟩ = false:=(X02.frozen (p:=⟨B,1,none⟩) hB id).trans F0.out;have c0:wd.cell? ⟨B,1,none⟩ = some (.slice (some ⟨g,0,none⟩) l.length _):=(hxd.cell (p:=⟨B,1,none⟩) hB id).trans C0.out;have hBd:B < wd.heap.size:=Nat.lt_of_lt_of_le hB hxd.size;have hBW:B < W2.heap.size:=Nat.lt_of_lt_of_le hB X02.size;have HS2:Hid (∃ k,(Value.slice p2 n2 c2).ownBlock = some k):=Lib.hid (hloc2.elim (fun h=>HS1.out.elim fun k hk=>⟨k,h.trans hk⟩) (fun h=>⟨_,h⟩));clear hgr2 hloc2;refine Plan.bT (Plan.ExtF wd.heap.size) [19] 20 ?_;refine Plan.qs 12 [0,2,3,4,5,6,7,9,10,11,12,13] ?_;iterate 12 go_big_quiet_step (fail)
        refine Plan.qs 2 [14,15] ?_;iterate 2 go_big_quiet_step (fail)
        refine Plan.o1 1 fun K hK=>?_;go_wp2_with (fail);refine hK _ _ ((ExtF.refl _).alloc _) ?_;clear hK K;refine Plan.o1 8 fun K hK=>?_;refine zaw (happ1) rfl _ _ rfl rfl rfl ?_;refine hK _ _ (X1) ?_;simp only [Act.put,List.setIfInBounds_toArray,List.set_cons_succ,List.set_cons_zero];clear hK K;refine Plan.o1 16 fun K hK=>?_;refine zaw (happ2) rfl _ _ rfl rfl rfl ?_;refine hK _ _ (X2) ?_;simp only [Act.put,List.setIfInBounds_toArray,List.set_cons_succ,List.set_cons_zero];clear hK K;refine Plan.o1 17 fun K hK=>?_;go_wp2_with (fail);refine hK _ _ (ExtF.refl _) ?_;clear hK K;refine Plan.qs 1 [18] ?_;go_big_quiet_step (fail);refine Plan.ol 19 fun K hK=>?_;go_wp2_with (fail);refine Plan.dn ?_;go_wp2_with fail;go_ret;rw [HIN.out,HERR.out];have hbn:∀ k,(Value.slice p2 n2 c2).ownBlock = some k -> wd.heap.size <= k:=fun k hk=>by
         rcases hown2.2 with ⟨h1,-⟩ | ⟨g',cap',cur,h1,hbase,-⟩
         . rw [h1] at hk;cases hk
         . rw [h1] at hk
           have:=Option.some.inj hk
           simp at this;omega
        have hxs:ExtM (fun k=>k = B) W2 (W2.setCell ⟨B,1,none⟩ (.slice p2 n2 c2)):=ExtM.setCell (M:=fun k=>k = B) (ExtM.refl W2) (p:=⟨B,1,none⟩) (.inr rfl) _;have hwd:w.heap.size <= wd.heap.size:=hxd.size;refine ⟨rfl,⟨⟨.slice p2 n2 c2,⟨World.cell?_setCell_same _ _ _ cB,(World.frozen?_setCell _ _ _ _).trans fB,zag (zak hown2 (Nat.zero_le _)) hxs (fun k hk e=>by have:=hbn k hk;omega),fun e=>by have:=hbn _ e;omega⟩,?_⟩,zep (ExtM.mono X02 (fun _ _ h=>h.elim)) hxs (fun k _ e=>.inl e),fun q hq=>⟨(World.cell?_setCell_other _ _ _ _ (by intro e;simp only [Addr.mk.injEq,and_true,true_and] at e;omega)).trans (X02.cell (p:=⟨B,q,none⟩) hB id),(World.frozen?_setCell _ _ _ _).trans (X02.frozen (p:=⟨B,q,none⟩) hB id)⟩⟩,fun hn=>by have:=HIN.out;rw [show bagE x l = 8 from if_neg hn] at this;cases this⟩;cases ho:(Value.slice p2 n2 c2).ownBlock with
        | none=>obtain ⟨k,hk⟩:=HS2.out;rw [ho] at hk;cases hk
        | some k=>exact .inr ⟨k,rfl,Nat.le_trans hwd (hbn k ho)⟩
    . have HYX:=Lib.hid hyx;rw [decide_eq_false hyx] at heq;clear hyx;go_wp2_with fail;go_roundg (l.length - (k + 1))
      case measure=>omega
      case rel =>
       refine ⟨k + 1,by go_num,by omega,Nat.le_refl _,hx.alloc _,?_⟩;obtain ⟨hk',hk2⟩:=List.getElem?_eq_some_iff.1 HLK.out;rw [List.take_succ_eq_append_getElem hk',hk2];simp only [List.mem_append,List.mem_singleton,not_or];exact ⟨hni,fun e=>HYX.out e.symm⟩
  . obtain rfl:k = l.length:=by omega
    rw [List.take_length] at hni;have HNI:=Lib.hid hni;clear hni;go_wp2_with fail;go_ret;rw [List.erase_of_not_mem HNI.out,show bagE x l = 8 from if_neg HNI.out];exact ⟨rfl,⟨⟨_,RE.of hRE hxw,.inl rfl⟩,ExtM.mono hxw (fun _ _ h=>h.elim),fun q _=>⟨hxw.cell (p:=⟨B,q,none⟩) hB id,hxw.frozen (p:=⟨B,q,none⟩) hB id⟩⟩,fun _=>hxw⟩
theorem zeR (B:Nat) (v:Value) (l:List Out) (w:World) (h:RE w B v l) (hl:l.length < 1000000) :
 Calls Tryz.prog 26 #[.pointer (some ⟨B,1,none⟩)] w fun e w'=>∃ p cap,e = .returned (.slice p l.length cap) /\ Ext w w' /\ zbq w' p (sortO l):=by
 have c0:=h.c0;have lB:=h.lt;obtain ⟨v1,w1,happ,hown,hgr,hloc⟩:=ze5 (w.alloc (.cells #[] 86)) w.heap.size 0 (.slice (some ⟨w.heap.size,0,none⟩) 0 0) v [] l 50
  ⟨rfl,.inr ⟨w.heap.size,0,#[],rfl,Nat.le_refl _,heap_alloc_new _ _,Nat.le_refl _,by unfold maxLen;decide,rfl,rfl⟩⟩
  (zag h.row ((ExtM.refl w).alloc _:Ext w _) (fun _ _ h=>h)) (by simp;omega) (by simp)
 rw [List.nil_append] at hown;have hge:∀ k,v1.ownBlock = some k -> w.heap.size <= k:=fun k hk=>(zaf hown k hk).1;have hsome:∃ k,v1.ownBlock = some k:=hloc.elim (fun e=>⟨w.heap.size,e⟩) (fun ⟨k,e,_⟩=>⟨k,e⟩);obtain ⟨p1,c1,rfl,-⟩:=zaa hown;obtain ⟨g,rfl⟩:∃ g,p1 = some ⟨g,0,none⟩:=by
  rcases hown.2 with ⟨e,-⟩ | ⟨g,cap,cur,e,-⟩
  . simp only [Value.slice.injEq] at e;obtain ⟨k,hk⟩:=hsome;rw [e.1] at hk;cases hk
  . simp only [Value.slice.injEq] at e;exact ⟨g,e.1⟩
 have hgw:w.heap.size <= g:=hge g rfl;have hg1:g < w1.heap.size:=(zaf hown g rfl).2;have hx1:Ext w w1:=zep ((ExtM.refl w).alloc _) hgr (fun k hk e=>by have:=Option.some.inj e;show False;simp at this;omega);have hx2:Ext w (w1.alloc (.cells #[.slice (some ⟨g,0,none⟩) l.length c1] 50)):=hx1.alloc _;have hH:HoldsK Out.cells 9 (w1.alloc (.cells #[.slice (some ⟨g,0,none⟩) l.length c1] 50)) g 0 l.toArray:=zbp.of_own (zag hown ((ExtM.refl w1).alloc _:Ext w1 _) (fun _ _ h=>h));have cL:(w1.alloc (.cells #[.slice (some ⟨g,0,none⟩) l.length c1] 50)).cell? ⟨w1.heap.size,0,none⟩ = some (.slice (some ⟨g,0,none⟩) l.length c1):=by go_simp
 have lL:w1.heap.size < (w1.alloc (.cells #[.slice (some ⟨g,0,none⟩) l.length c1] 50)).heap.size:=by simp
 have eg:∀ args w,(callFunc 68 args).run Tryz.prog w = .ok (.enter 68 args) w:=enters_of Tryz.func68 (by kernel_rfl) rfl
 have hst:=zkF zl4 68 #[.pointer (some ⟨w1.heap.size,0,none⟩)] g c1 l.toArray _ (by simpa using hl) eg hH (by omega) (fun D W i j hD hHD hxW hi hj=>by
  have hc:=(hxW.cell (p:=⟨w1.heap.size,0,none⟩) lL (by simp;omega)).trans cL;have hs:l.toArray.size = l.length:=by simp
  exact zkp w1.heap.size g l.length c1 i j _ _ W hc (by omega) (by omega) (zbp.elem' hHD i (by omega)) (zbp.elem' hHD j (by omega)))
 rw [show l.toArray.size = l.length by simp] at hst;have HST:=Lib.hid hst;have hgN:¬ w1.heap.size = g:=by omega
 clear hst hH eg hown hge hsome hloc hgr;go_enter Tryz.func26,Tryz.ntmps26
 go_wp2_with (first
  | (go_at_call 67
     refine HST.out.mono ?_;rintro e w3 ⟨rfl,d',hp,hso,hH3,hx3⟩;have cL3:=(hx3.cell (p:=⟨w1.heap.size,0,none⟩) lL hgN).trans cL;have H3:=Lib.hid (And.intro hp (And.intro hso hH3))
     clear hp hso hH3)
  | (at_builtin;refine wpList_append_run happ rfl rfl _ _ rfl rfl rfl ?_;clear happ))
 go_ret;obtain ⟨hp,hso,hH3⟩:=H3.out;have hds:d'.size = l.length:=by rw [hp.1];simp
 have hd:=zeo hp hso;refine ⟨some ⟨g,0,none⟩,c1,rfl,zep hx2 hx3 (fun k hk e=>by show False;omega),.inr ⟨g,rfl,fun i hi=>?_⟩⟩;have hi':i < d'.size:=by rw [hds,<- zaA l];exact hi
 have:=zbp.elem' hH3 i hi'
 rw [getElem!_pos d' i hi'] at this;have e:(sortO l)[i]'hi = d'[i]'hi':=by simp only [<- hd,Array.getElem_toList]
 rw [e];exact this
structure REIs (u:World) (R J:Nat) (r0 r1 rv:Value) (lo hi md:Int) (rs:RSt) (l:List Out) (f0 f1:Int):Prop where
 c0:u.cell? ⟨R,0,none⟩ = some (.pointer (some ⟨J,0,none⟩))
 bag:RE u R rv l
 c2:u.cell? ⟨R,2,none⟩ = some (.int .i64 f0)
 c3:u.cell? ⟨R,3,none⟩ = some (.int .i64 f1)
 fz:∀ q,u.frozen? ⟨R,q,none⟩ = false
 join:RIs u J r0 r1 lo hi md rs
 nR:¬ zaO J r0 r1 R
 nv:∀ k,rv.ownBlock = some k -> ¬ zaO J r0 r1 k
def zdU (R J:Nat) (r0 r1 rv:Value) (k:Nat):Prop:=k = R \/ rv.ownBlock = some k \/ zaO J r0 r1 k
section
variable {u u':World} {R J:Nat} {r0 r1 rv:Value} {lo hi md:Int} {rs:RSt} {l:List Out} {f0 f1:Int}
theorem REIs.lt (h:REIs u R J r0 r1 rv lo hi md rs l f0 f1):R < u.heap.size:=zac h.c0
theorem REIs.foot (h:REIs u R J r0 r1 rv lo hi md rs l f0 f1) (k:Nat) (hk:zdU R J r0 r1 rv k):k < u.heap.size:=by
 rcases hk with rfl | hk | hk
 . exact h.lt
 . exact (zaf h.bag.row k hk).2
 . exact h.join.foot k hk
theorem REIs.keep {F:Nat -> Prop} (h:REIs u R J r0 r1 rv lo hi md rs l f0 f1) (hx:ExtM F u u') (hF:∀ k,zdU R J r0 r1 rv k -> ¬ F k):REIs u' R J r0 r1 rv lo hi md rs l f0 f1:=by
 have hR:=hF R (.inl rfl);have k:=fun o=>hx.cell (p:=⟨R,o,none⟩) h.lt hR;exact ⟨(k _).trans h.c0,h.bag.extM hx hR (fun q hq=>hF q (.inr (.inl hq))),(k _).trans h.c2,(k _).trans h.c3,fun q=>(hx.frozen (p:=⟨R,q,none⟩) h.lt hR).trans (h.fz q),h.join.extM hx (hF _ (.inr (.inr (.inl rfl)))) (fun q hq=>hF q (.inr (.inr (.inr (.inl hq))))) (fun q hq=>hF q (.inr (.inr (.inr (.inr hq))))),h.nR,h.nv⟩
theorem REIs.ext (h:REIs u R J r0 r1 rv lo hi md rs l f0 f1) (hx:Ext u u'):REIs u' R J r0 r1 rv lo hi md rs l f0 f1:=h.keep hx (fun _ _ h=>h)
theorem REIs.joined {rs':RSt} (h:REIs u R J r0 r1 rv lo hi md rs l f0 f1) (hu:RUp u u' J (zaO J r0 r1) lo hi md rs') :
 ExtM (zaO J r0 r1) u u' /\ ∃ r0' r1',REIs u' R J r0' r1' rv lo hi md rs' l f0 f1 /\ ∀ k,zaO J r0' r1' k -> zaO J r0 r1 k \/ u.heap.size <= k:=by
 obtain ⟨hx,Cs',⟨r0',r1',hj,rfl⟩,hf⟩:=hu;have k:=fun o=>hx.cell (p:=⟨R,o,none⟩) h.lt h.nR;refine ⟨hx,r0',r1',⟨(k _).trans h.c0,h.bag.extM hx h.nR h.nv,(k _).trans h.c2,(k _).trans h.c3,fun q=>(hx.frozen (p:=⟨R,q,none⟩) h.lt h.nR).trans (h.fz q),hj,fun e=>?_,fun q hq e=>?_⟩,hf⟩
 . rcases hf _ e with e | e
   . exact h.nR e
   . have:=h.lt;omega
 . rcases hf _ e with e | e
   . exact h.nv q hq e
   . have:=(zaf h.bag.row q hq).2;omega
theorem REIs.bagged {l':List Out} (h:REIs u R J r0 r1 rv lo hi md rs l f0 f1) (hu:REUp u u' R rv l') :
 ExtM (fun k=>k = R \/ rv.ownBlock = some k) u u' /\ ∃ rv',REIs u' R J r0 r1 rv' lo hi md rs l' f0 f1 /\ ∀ k,rv'.ownBlock = some k -> rv.ownBlock = some k \/ u.heap.size <= k:=by
 obtain ⟨⟨rv',hb,hown⟩,hx,hc⟩:=hu;have hn:∀ k,rv'.ownBlock = some k -> rv.ownBlock = some k \/ u.heap.size <= k:=fun k hk=>by
  rcases hown with e | ⟨q,e,hq⟩
  . exact .inl (e ▸ hk)
  . rw [e] at hk;cases hk;exact .inr hq
 have hj:∀ k,zaO J r0 r1 k -> ¬ (k = R \/ rv.ownBlock = some k):=fun k hk e=>e.elim (fun e=>h.nR (e ▸ hk)) (fun e=>h.nv k e hk);refine ⟨hx,rv',⟨(hc 0 (by decide)).1.trans h.c0,hb,(hc 2 (by decide)).1.trans h.c2,(hc 3 (by decide)).1.trans h.c3,fun q=>?_,h.join.extM hx (hj _ (.inl rfl)) (fun q hq=>hj q (.inr (.inl hq))) (fun q hq=>hj q (.inr (.inr hq))),h.nR,fun q hq e=>?_⟩,hn⟩
 . by_cases hq:q = 1
   . subst hq;exact hb.f0
   . exact (hc q hq).2.trans (h.fz q)
 . rcases hn q hq with e' | e'
   . exact h.nv q e' e
   . have:=h.join.foot q e;omega
theorem REIs.fed0 (h:REIs u R J r0 r1 rv lo hi md rs l f0 f1) (x:Int):REIs (u.setCell ⟨R,2,none⟩ (.int .i64 x)) R J r0 r1 rv lo hi md rs l x f1 /\ ExtM (fun k=>k = R) u (u.setCell ⟨R,2,none⟩ (.int .i64 x)):=by
 have hs:ExtM (fun k=>k = R) u (u.setCell ⟨R,2,none⟩ (.int .i64 x)):=ExtM.setCell (M:=fun k=>k = R) (ExtM.refl u) (p:=⟨R,2,none⟩) (.inr rfl) _;have hc:∀ q,q ≠ 2 -> (u.setCell ⟨R,2,none⟩ (.int .i64 x)).cell? ⟨R,q,none⟩ = u.cell? ⟨R,q,none⟩:=fun q hq=>World.cell?_setCell_other _ _ _ _ (by intro e;simp only [Addr.mk.injEq,and_true,true_and] at e;omega);have hz:∀ q,(u.setCell ⟨R,2,none⟩ (.int .i64 x)).frozen? ⟨R,q,none⟩ = u.frozen? ⟨R,q,none⟩:=fun q=>World.frozen?_setCell _ _ _ _;have hj:∀ k,zaO J r0 r1 k -> ¬ k = R:=fun k hk e=>h.nR (e ▸ hk);exact ⟨⟨(hc 0 (by decide)).trans h.c0,⟨(hc 1 (by decide)).trans h.bag.c0,(hz 1).trans h.bag.f0,zag h.bag.row hs (fun k hk e=>h.bag.own (e ▸ hk)),h.bag.own⟩,World.cell?_setCell_same _ _ _ h.c2,(hc 3 (by decide)).trans h.c3,fun q=>(hz q).trans (h.fz q),h.join.extM hs (hj _ (.inl rfl)) (fun q hq=>hj q (.inr (.inl hq))) (fun q hq=>hj q (.inr (.inr hq))),h.nR,h.nv⟩,hs⟩
theorem REIs.fed1 (h:REIs u R J r0 r1 rv lo hi md rs l f0 f1) (x:Int):REIs (u.setCell ⟨R,3,none⟩ (.int .i64 x)) R J r0 r1 rv lo hi md rs l f0 x /\ ExtM (fun k=>k = R) u (u.setCell ⟨R,3,none⟩ (.int .i64 x)):=by
 have hs:ExtM (fun k=>k = R) u (u.setCell ⟨R,3,none⟩ (.int .i64 x)):=ExtM.setCell (M:=fun k=>k = R) (ExtM.refl u) (p:=⟨R,3,none⟩) (.inr rfl) _;have hc:∀ q,q ≠ 3 -> (u.setCell ⟨R,3,none⟩ (.int .i64 x)).cell? ⟨R,q,none⟩ = u.cell? ⟨R,q,none⟩:=fun q hq=>World.cell?_setCell_other _ _ _ _ (by intro e;simp only [Addr.mk.injEq,and_true,true_and] at e;omega);have hz:∀ q,(u.setCell ⟨R,3,none⟩ (.int .i64 x)).frozen? ⟨R,q,none⟩ = u.frozen? ⟨R,q,none⟩:=fun q=>World.frozen?_setCell _ _ _ _;have hj:∀ k,zaO J r0 r1 k -> ¬ k = R:=fun k hk e=>h.nR (e ▸ hk);exact ⟨⟨(hc 0 (by decide)).trans h.c0,⟨(hc 1 (by decide)).trans h.bag.c0,(hz 1).trans h.bag.f0,zag h.bag.row hs (fun k hk e=>h.bag.own (e ▸ hk)),h.bag.own⟩,(hc 2 (by decide)).trans h.c2,World.cell?_setCell_same _ _ _ h.c3,fun q=>(hz q).trans (h.fz q),h.join.extM hs (hj _ (.inl rfl)) (fun q hq=>hj q (.inr (.inl hq))) (fun q hq=>hj q (.inr (.inr hq))),h.nR,h.nv⟩,hs⟩
end
def REAt (u:World) (R:Nat) (Cs:Nat -> Prop) (lo hi md:Int) (rs:RSt) (l:List Out) (f0 f1:Int):Prop:=∃ J r0 r1 rv,REIs u R J r0 r1 rv lo hi md rs l f0 f1 /\ Cs = zdU R J r0 r1 rv
def RNUp (u u':World) (R:Nat) (Cs:Nat -> Prop) (lo hi md:Int) (rs:RSt) (l:List Out) (f0 f1:Int):Prop:=ExtM Cs u u' /\ ∃ Cs',REAt u' R Cs' lo hi md rs l f0 f1 /\ ∀ k,Cs' k -> Cs k \/ u.heap.size <= k
section
variable {u u':World} {R:Nat} {Cs:Nat -> Prop} {lo hi md:Int} {rs:RSt} {l:List Out} {f0 f1:Int}
theorem REAt.lt (h:REAt u R Cs lo hi md rs l f0 f1) (k:Nat) (hk:Cs k):k < u.heap.size:=by
 obtain ⟨J,r0,r1,rv,h,rfl⟩:=h;exact h.foot k hk
theorem REAt.keep {F:Nat -> Prop} (h:REAt u R Cs lo hi md rs l f0 f1) (hx:ExtM F u u') (hF:∀ k,Cs k -> ¬ F k):REAt u' R Cs lo hi md rs l f0 f1:=by
 obtain ⟨J,r0,r1,rv,h,rfl⟩:=h;exact ⟨J,r0,r1,rv,h.keep hx hF,rfl⟩
theorem REAt.ext (h:REAt u R Cs lo hi md rs l f0 f1) (hx:Ext u u'):REAt u' R Cs lo hi md rs l f0 f1:=h.keep hx (fun _ _ h=>h)
theorem RNUp.same (h:REAt u R Cs lo hi md rs l f0 f1) (hx:Ext u u'):RNUp u u' R Cs lo hi md rs l f0 f1:=⟨hx.mono (fun _ _ h=>h.elim),Cs,h.ext hx,fun _k hk=>.inl hk⟩
end
def zbd (l:List Out) (cs:List (Out × Bool)):List Out:=cs.foldl (fun l c=>if c.2 then l.erase c.1 else l ++ [c.1]) l
theorem zdV (l:List Out) (cs:List (Out × Bool)) (i:Nat) (hi:i < cs.length):zbd l (cs.take (i + 1)) = if cs[i].2 then (zbd l (cs.take i)).erase cs[i].1 else zbd l (cs.take i) ++ [cs[i].1]:=by
 rw [List.take_succ_eq_append_getElem hi];unfold zbd;rw [List.foldl_append];rfl
theorem zdv:∀ (cs:List (Out × Bool)) (l:List Out),(zbd l cs).length <= l.length + cs.length
 | [],l=>Nat.le_refl _
 | c :: cs,l=>by
   have h:=zdv cs (if c.2 then l.erase c.1 else l ++ [c.1]);have h2:(if c.2 then l.erase c.1 else l ++ [c.1]).length <= l.length + 1:=by
    split
    . exact Nat.le_trans List.length_erase_le (Nat.le_succ _)
    . simp
   show (zbd (if c.2 then l.erase c.1 else l ++ [c.1]) cs).length <= _;simp only [List.length_cons];omega
end Go.Proofs.YtmcgnnmffeojpabGreatDoor
