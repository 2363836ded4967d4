import Derived.Test.YtmcgnnmffeojpabGreatDoorPk32
import Derived.Test.YtmcgnnmffeojpabGreatDoorPk34
set_option maxRecDepth 100000
set_option maxHeartbeats 8000000
namespace Go.Proofs.YtmcgnnmffeojpabGreatDoor
open Go.RowKit Go.Plan Go.Sort
variable {α:Type} [Inhabited α]
theorem zaI {d d':Array α} {a b lo hi:Nat} (h:PermIn a b d d') (h1:lo <= a) (h2:b <= hi) (h3:hi <= d.size):PermIn lo hi d d':=permIn_mono _ _ _ _ _ _ h1 h2 h3 h
section
variable {n:Nat} {lt:α -> α -> Bool} {g:Nat} {lb:Array Value} {sf:Nat} {sb:Array Value} {blk:Nat} {H:Array α -> World -> Prop}
theorem zcW (I:SIf n lt g lb sf sb blk H) (a b len:Nat) (d:Array α) (w:World) (hH:H d w) (hs:d.size = n) (hab:a + len <= b) (hb:b + len <= n) (hn:n < 1000000) :
 Calls Tryz.prog 238 #[.agg #[.func (.func g) #[] lb,.func (.func sf) #[] sb],.int .i64 a,.int .i64 b,.int .i64 len] w fun e w'=>e = .returned (.tuple #[]) /\
  ∃ d':Array α,(∀ k,d'[k]! = swF (fun x=>d[x]!) a b len k) /\ d'.size = n /\ PermIn a (b + len) d d' /\ H d' w' /\ ExtM (fun k=>k = blk) w w':=by
 have hbl:=I.lt' d w hH;have hx1:Ext w (w.alloc (.cells #[.func (.func g) #[] lb,.func (.func sf) #[] sb] 193)):=(ExtM.refl w).alloc _;have hH1:=I.ext d w _ hH hx1;go_enter Tryz.func238,Tryz.ntmps238;go_wp2;have q0:(w.alloc (.cells #[.func (.func g) #[] lb,.func (.func sf) #[] sb] 193)).cell? ⟨w.heap.size,0,none⟩ = some (.func (.func g) #[] lb):=by go_simp
 have q1:(w.alloc (.cells #[.func (.func g) #[] lb,.func (.func sf) #[] sb] 193)).cell? ⟨w.heap.size,1,none⟩ = some (.func (.func sf) #[] sb):=by go_simp
 have hN1:w.heap.size < (w.alloc (.cells #[.func (.func g) #[] lb,.func (.func sf) #[] sb] 193)).heap.size:=by simp
 generalize w.alloc (.cells #[.func (.func g) #[] lb,.func (.func sf) #[] sb] 193) = W1 at *;have hcc:∀ u,ExtM (fun k=>k = blk) W1 u -> u.cell? ⟨w.heap.size,0,none⟩ = some (.func (.func g) #[] lb) /\ u.cell? ⟨w.heap.size,1,none⟩ = some (.func (.func sf) #[] sb):=fun u hu =>
  ⟨(hu.cell (p:=⟨w.heap.size,0,none⟩) hN1 (by simp;omega)).trans q0,(hu.cell (p:=⟨w.heap.size,1,none⟩) hN1 (by simp;omega)).trans q1⟩
 have HCC:=Lib.hid hcc;clear hcc q0 q1;go_loopg [8] (len + 1) (fun kx s8 wr=>∃ (i:Nat) (dk:Array α),s8 = .int .i64 (i:Int) /\ i <= len /\ len - i <= kx /\ dk.size = n /\ (∀ k,dk[k]! = swF (fun x=>d[x]!) a b i k) /\ PermIn a (b + len) d dk /\ H dk wr /\ ExtM (fun k=>k = blk) W1 wr)
 case atStart=>exact ⟨0,d,rfl,by omega,by omega,hs,fun k=>(zlK _ _ _ _).symm,permIn_refl _ _ _,hH1,ExtM.refl _⟩
 case round =>
  obtain ⟨i,dk,rfl,hi,hgk,hsk,hdk,hpk,hHk,hxk⟩:=hrel;obtain ⟨c0,c1⟩:=HCC.out _ hxk;have HD:=Lib.hid hdk;have HP:=Lib.hid hpk;clear hdk hpk;by_cases hil:i < len
  . obtain ⟨w3,hsw,hH3,hx3⟩:=I.swap dk wr (a + i) (b + i) hsk hHk (by omega) (by omega);rw [show ((a + i:Nat):Int) = (a:Int) + (i:Int) by omega,show ((b + i:Nat):Int) = (b:Int) + (i:Int) by omega] at hsw;go_wp2;go_roundg (len - (i + 1))
    case measure=>omega
    case rel =>
     exact ⟨i + 1,swp dk (a + i) (b + i),by go_num,by omega,Nat.le_refl _,by rw [size_swp];exact hsk,zlO (by omega) (by omega) HD.out,permIn_trans _ _ _ _ _ HP.out (swp_permIn dk a (b + len) (a + i) (b + i) (by omega) (by omega) (by omega) (by omega) (by omega)),hH3,ExtM.trans _ _ _ hxk hx3⟩
  . obtain rfl:i = len:=by omega
    go_wp2;go_end0;exact ⟨rfl,dk,HD.out,hsk,HP.out,hHk,ExtM.trans _ _ _ (hx1.mono (fun _ _ h=>h.elim)) hxk⟩
theorem zl9 (I:SIf n lt g lb sf sb blk H) (a m b:Nat) (d:Array α) (w:World) (hH:H d w) (hs:d.size = n) (ham:a < m) (hmb:m < b) (hb:b <= n) (hn:n < 1000000) :
 Calls Tryz.prog 205 #[.agg #[.func (.func g) #[] lb,.func (.func sf) #[] sb],.int .i64 a,.int .i64 m,.int .i64 b] w fun e w'=>e = .returned (.tuple #[]) /\
  ∃ d':Array α,(∀ k,d'[k]! = rotF (fun x=>d[x]!) a m b k) /\ d'.size = n /\ PermIn a b d d' /\ H d' w' /\ ExtM (fun k=>k = blk) w w':=by
 have hbl:=I.lt' d w hH;have hx1:Ext w (w.alloc (.cells #[.func (.func g) #[] lb,.func (.func sf) #[] sb] 193)):=(ExtM.refl w).alloc _;have hH1:=I.ext d w _ hH hx1;go_enter Tryz.func205,Tryz.ntmps205;go_wp2;have q0:(w.alloc (.cells #[.func (.func g) #[] lb,.func (.func sf) #[] sb] 193)).cell? ⟨w.heap.size,0,none⟩ = some (.func (.func g) #[] lb):=by go_simp
 have q1:(w.alloc (.cells #[.func (.func g) #[] lb,.func (.func sf) #[] sb] 193)).cell? ⟨w.heap.size,1,none⟩ = some (.func (.func sf) #[] sb):=by go_simp
 have hN1:w.heap.size < (w.alloc (.cells #[.func (.func g) #[] lb,.func (.func sf) #[] sb] 193)).heap.size:=by simp
 generalize w.alloc (.cells #[.func (.func g) #[] lb,.func (.func sf) #[] sb] 193) = W1 at *;have hcc:∀ u,ExtM (fun k=>k = blk) W1 u -> u.cell? ⟨w.heap.size,0,none⟩ = some (.func (.func g) #[] lb) /\ u.cell? ⟨w.heap.size,1,none⟩ = some (.func (.func sf) #[] sb):=fun u hu =>
  ⟨(hu.cell (p:=⟨w.heap.size,0,none⟩) hN1 (by simp;omega)).trans q0,(hu.cell (p:=⟨w.heap.size,1,none⟩) hN1 (by simp;omega)).trans q1⟩
 have HCC:=Lib.hid hcc;clear hcc q0 q1;go_loopg [8,9] (b - a + 1) (fun kx s8 s9 wr=>∃ (i j:Nat) (dk:Array α),s8 = .int .i64 (i:Int) /\ s9 = .int .i64 (j:Int) /\ 0 < i /\ 0 < j /\ a + i <= m /\ m + j <= b /\ i + j <= kx /\ dk.size = n /\ (∀ k,rotF (fun x=>dk[x]!) (m - i) m (m + j) k = rotF (fun x=>d[x]!) a m b k) /\ PermIn a b d dk /\ H dk wr /\ ExtM (fun k=>k = blk) W1 wr)
 case atStart=>exact ⟨m - a,b - m,d,by rw [show ((m - a:Nat):Int) = (m:Int) - (a:Int) by omega],by rw [show ((b - m:Nat):Int) = (b:Int) - (m:Int) by omega],by omega,by omega,by omega,by omega,by omega,hs,fun k=>by rw [show m - (m - a) = a by omega,show m + (b - m) = b by omega],permIn_refl _ _ _,hH1,ExtM.refl _⟩
 case round =>
  obtain ⟨i,j,dk,rfl,rfl,hi,hj,hai,hjb,hgk,hsk,hdk,hpk,hHk,hxk⟩:=hrel;obtain ⟨c0,c1⟩:=HCC.out _ hxk;have HD:=Lib.hid hdk;have HP:=Lib.hid hpk;clear hdk hpk;by_cases hij:i = j
  . subst hij;have hc:=zcW I (m - i) m i dk wr hHk hsk (by omega) (by omega) hn;rw [show ((m - i:Nat):Int) = (m:Int) - (i:Int) by omega] at hc;go_wp2_with (go_at_call 238;refine hc.mono ?_;rintro e w2 ⟨rfl,d',hd',hs',hp',hH',hx'⟩);go_end0;exact ⟨rfl,d',fun k=>(zlU (f:=fun x=>dk[x]!) (g:=fun x=>d'[x]!) (m:=m) (i:=i) (by omega) hd' k).trans (HD.out k),hs',permIn_trans _ _ _ _ _ HP.out (zaI hp' (by omega) (by omega) (by omega)),hH',ExtM.trans _ _ _ (hx1.mono (fun _ _ h=>h.elim)) (ExtM.trans _ _ _ hxk hx')⟩
  . have hne:((i:Int) != (j:Int)) = true:=by simp;omega
    have hne':(i != j) = true:=by simp;omega
    by_cases hlt:j < i
    . have hc:=zcW I (m - i) m j dk wr hHk hsk (by omega) (by omega) hn;rw [show ((m - i:Nat):Int) = (m:Int) - (i:Int) by omega] at hc;go_wp2_with (go_at_call 238;refine hc.mono ?_;rintro e w2 ⟨rfl,d',hd',hs',hp',hH',hx'⟩);go_roundg ((i - j) + j)
      case measure=>omega
      case rel =>
       exact ⟨i - j,j,d',by rw [show ((i - j:Nat):Int) = (i:Int) - (j:Int) by omega],rfl,by omega,hj,by omega,hjb,Nat.le_refl _,hs',fun k=>(zmH (f:=fun x=>dk[x]!) (g:=fun x=>d'[x]!) (by omega) hlt hd' k).trans (HD.out k),permIn_trans _ _ _ _ _ HP.out (zaI hp' (by omega) (by omega) (by omega)),hH',ExtM.trans _ _ _ hxk hx'⟩
    . have hc:=zcW I (m - i) (m + j - i) i dk wr hHk hsk (by omega) (by omega) hn;rw [show ((m - i:Nat):Int) = (m:Int) - (i:Int) by omega,show ((m + j - i:Nat):Int) = (m:Int) + (j:Int) - (i:Int) by omega] at hc;go_wp2_with (go_at_call 238;refine hc.mono ?_;rintro e w2 ⟨rfl,d',hd',hs',hp',hH',hx'⟩);go_roundg (i + (j - i))
      case measure=>omega
      case rel =>
       exact ⟨i,j - i,d',rfl,by rw [show ((j - i:Nat):Int) = (j:Int) - (i:Int) by omega],hi,by omega,hai,by omega,Nat.le_refl _,hs',fun k=>(zjA (f:=fun x=>dk[x]!) (g:=fun x=>d'[x]!) (by omega) (by omega) hd' k).trans (HD.out k),permIn_trans _ _ _ _ _ HP.out (zaI hp' (by omega) (by omega) (by omega)),hH',ExtM.trans _ _ _ hxk hx'⟩
end
end Go.Proofs.YtmcgnnmffeojpabGreatDoor
