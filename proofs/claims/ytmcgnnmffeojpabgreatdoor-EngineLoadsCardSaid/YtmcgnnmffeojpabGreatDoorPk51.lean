/- EngineLoads: for every text and every list of steps the law returns true, and the list reads as it did. No condition but the row's own (the library's variables as the program lays them; tied). -/
import Derived.Test.YtmcgnnmffeojpabGreatDoorPk31
import Derived.Test.YtmcgnnmffeojpabGreatDoorPk39
import Derived.Test.YtmcgnnmffeojpabGreatDoorPk50
import Derived.Deep.DeepCutAuto
import Derived.Deep.CutBlock
import Derived.Shelf.Vars
import Derived.Lib.LaidU8
set_option maxRecDepth 100000
set_option maxHeartbeats 8000000
namespace Go.Proofs.YtmcgnnmffeojpabGreatDoor
open Go.RowKit Go.Plan
def BadU (u u':World) (L:Nat):Prop:=ExtM (fun k=>k = L) u u' /\ u'.cell? ⟨L,1,none⟩ = some (.bool true) /\ u'.frozen? ⟨L,1,none⟩ = false
theorem BadU.set {u w:World} {L:Nat} {b:Bool} (hx:Ext u w) (h1:w.cell? ⟨L,1,none⟩ = some (.bool b)) (h2:w.frozen? ⟨L,1,none⟩ = false):BadU u (w.setCell ⟨L,1,none⟩ (.bool true)) L :=
 ⟨ExtM.setCell (M:=fun k=>k = L) (p:=⟨L,1,none⟩) (hx.mono fun _ _ h=>h.elim) (.inr rfl) _,World.cell?_setCell_same _ _ _ h1,(World.frozen?_setCell _ _ _ _).trans h2⟩
theorem zqb {u:World} {L:Nat} (c1:u.cell? ⟨L,1,none⟩ = some (.bool false)) (cf:u.frozen? ⟨L,1,none⟩ = false) (i:Int) (len:Nat) (a:Option Addr) (cap:Nat) (hb:len ≠ 3 \/ i ≠ 0) :
 Calls Tryz.prog 40 #[.pointer (some ⟨L,0,none⟩),.int .i64 i,.string ⟨#[112,108,97,110]⟩,.slice a len cap] u fun r u'=>r = .returned (.tuple #[]) /\ BadU u u' L:=by
 obtain ⟨w1,w2,w3,w4,r1,r2,r3,r4,hx4,hlk⟩:=zdk u;have hl:=hlk zeB (by decide);rw [zlf] at hl;simp only [Option.getD_some,Option.isSome_some] at hl;unfold zeB at r1;unfold sFed at r2;unfold zcI at r3;unfold sRow at r4;unfold zeB at hl;have hmm:=@run_makeMap Tryz.prog;have lL:=zac c1;have d1:=(hx4.cell (p:=⟨L,1,none⟩) lL id).trans c1;have df:=(hx4.frozen (p:=⟨L,1,none⟩) lL id).trans cf;have lL4:=zac d1;have HF:=Lib.hid (BadU.set hx4 d1 df);clear hlk hx4 c1 cf lL;go_enter Tryz.func40,Tryz.ntmps40;by_cases hq:len = 3
 . subst hq;have hi:=hb.resolve_left (fun h=>h rfl);clear hb;have i0:(i == 0) = false:=by simpa using hi
   clear hi;go_wp2_with fail
   (try simp only [Exit.inBlock,Exit.then])
   refine bodyPost_ret (results_none rfl _ _ _) rfl ?_;exact ⟨rfl,HF.out⟩
 . have e1:((len:Int) != 3) = true:=by simp;omega
   clear hb hq;go_wp2_with fail
   (try simp only [Exit.inBlock,Exit.then])
   refine bodyPost_ret (results_none rfl _ _ _) rfl ?_;exact ⟨rfl,HF.out⟩
theorem zqf {u:World} {L:Nat} (c1:u.cell? ⟨L,1,none⟩ = some (.bool false)) (cf:u.frozen? ⟨L,1,none⟩ = false) (i:Int) (len:Nat) (a:Option Addr) (cap:Nat) (hb:len ≠ 3 \/ i ≠ 1) :
 Calls Tryz.prog 40 #[.pointer (some ⟨L,0,none⟩),.int .i64 i,.string ⟨#[102,101,100]⟩,.slice a len cap] u fun r u'=>r = .returned (.tuple #[]) /\ BadU u u' L:=by
 obtain ⟨w1,w2,w3,w4,r1,r2,r3,r4,hx4,hlk⟩:=zdk u;have hl:=hlk sFed (by decide);rw [zmN] at hl;simp only [Option.getD_some,Option.isSome_some] at hl;unfold zeB at r1;unfold sFed at r2;unfold zcI at r3;unfold sRow at r4;unfold sFed at hl;have hmm:=@run_makeMap Tryz.prog;have lL:=zac c1;have d1:=(hx4.cell (p:=⟨L,1,none⟩) lL id).trans c1;have df:=(hx4.frozen (p:=⟨L,1,none⟩) lL id).trans cf;have lL4:=zac d1;have HF:=Lib.hid (BadU.set hx4 d1 df);clear hlk hx4 c1 cf lL;go_enter Tryz.func40,Tryz.ntmps40;by_cases hq:len = 3
 . subst hq;have hi:=hb.resolve_left (fun h=>h rfl);clear hb;by_cases z0:i = 0
   . subst z0;clear hi;go_wp2_with fail
     (try simp only [Exit.inBlock,Exit.then])
     refine bodyPost_ret (results_none rfl _ _ _) rfl ?_;exact ⟨rfl,HF.out⟩
   . have i0:(i == 0) = false:=by simpa using z0
     have i1:(i == 1) = false:=by simpa using hi
     clear hi z0;go_wp2_with fail
     (try simp only [Exit.inBlock,Exit.then])
     refine bodyPost_ret (results_none rfl _ _ _) rfl ?_;exact ⟨rfl,HF.out⟩
 . have e1:((len:Int) != 3) = true:=by simp;omega
   clear hb hq;go_wp2_with fail
   (try simp only [Exit.inBlock,Exit.then])
   refine bodyPost_ret (results_none rfl _ _ _) rfl ?_;exact ⟨rfl,HF.out⟩
theorem zpX {u:World} {L:Nat} (c1:u.cell? ⟨L,1,none⟩ = some (.bool false)) (cf:u.frozen? ⟨L,1,none⟩ = false) (i:Int) (len:Nat) (a:Option Addr) (cap:Nat) (hb:len ≠ 2 \/ i ≠ 2) :
 Calls Tryz.prog 40 #[.pointer (some ⟨L,0,none⟩),.int .i64 i,.string ⟨#[109,97,114,107,115]⟩,.slice a len cap] u fun r u'=>r = .returned (.tuple #[]) /\ BadU u u' L:=by
 obtain ⟨w1,w2,w3,w4,r1,r2,r3,r4,hx4,hlk⟩:=zdk u;have hl:=hlk zcI (by decide);rw [zja] at hl;simp only [Option.getD_some,Option.isSome_some] at hl;unfold zeB at r1;unfold sFed at r2;unfold zcI at r3;unfold sRow at r4;unfold zcI at hl;have hmm:=@run_makeMap Tryz.prog;have lL:=zac c1;have d1:=(hx4.cell (p:=⟨L,1,none⟩) lL id).trans c1;have df:=(hx4.frozen (p:=⟨L,1,none⟩) lL id).trans cf;have lL4:=zac d1;have HF:=Lib.hid (BadU.set hx4 d1 df);clear hlk hx4 c1 cf lL;go_enter Tryz.func40,Tryz.ntmps40;by_cases hq:len = 2
 . subst hq;have hi:=hb.resolve_left (fun h=>h rfl);clear hb;by_cases z0:i = 0
   . subst z0;clear hi;go_wp2_with fail
     (try simp only [Exit.inBlock,Exit.then])
     refine bodyPost_ret (results_none rfl _ _ _) rfl ?_;exact ⟨rfl,HF.out⟩
   by_cases z1:i = 1
   . subst z1;clear hi z0;go_wp2_with fail
     (try simp only [Exit.inBlock,Exit.then])
     refine bodyPost_ret (results_none rfl _ _ _) rfl ?_;exact ⟨rfl,HF.out⟩
   . have i0:(i == 0) = false:=by simpa using z0
     have i1:(i == 1) = false:=by simpa using z1
     have i2:(i == 2) = false:=by simpa using hi
     clear hi z0 z1;go_wp2_with fail
     (try simp only [Exit.inBlock,Exit.then])
     refine bodyPost_ret (results_none rfl _ _ _) rfl ?_;exact ⟨rfl,HF.out⟩
 . have e1:((len:Int) != 2) = true:=by simp;omega
   clear hb hq;go_wp2_with fail
   (try simp only [Exit.inBlock,Exit.then])
   refine bodyPost_ret (results_none rfl _ _ _) rfl ?_;exact ⟨rfl,HF.out⟩
theorem zqj {u:World} {L:Nat} (c1:u.cell? ⟨L,1,none⟩ = some (.bool false)) (cf:u.frozen? ⟨L,1,none⟩ = false) (i:Int) (len:Nat) (a:Option Addr) (cap:Nat) (hb:len ≠ 5 \/ (i = 0 \/ i = 1 \/ i = 2)) :
 Calls Tryz.prog 40 #[.pointer (some ⟨L,0,none⟩),.int .i64 i,.string ⟨#[114,111,119]⟩,.slice a len cap] u fun r u'=>r = .returned (.tuple #[]) /\ BadU u u' L:=by
 obtain ⟨w1,w2,w3,w4,r1,r2,r3,r4,hx4,hlk⟩:=zdk u;have hl:=hlk sRow (by decide);rw [zmE] at hl;simp only [Option.getD_some,Option.isSome_some] at hl;unfold zeB at r1;unfold sFed at r2;unfold zcI at r3;unfold sRow at r4;unfold sRow at hl;have hmm:=@run_makeMap Tryz.prog;have lL:=zac c1;have d1:=(hx4.cell (p:=⟨L,1,none⟩) lL id).trans c1;have df:=(hx4.frozen (p:=⟨L,1,none⟩) lL id).trans cf;have lL4:=zac d1;have HF:=Lib.hid (BadU.set hx4 d1 df);clear hlk hx4 c1 cf lL;go_enter Tryz.func40,Tryz.ntmps40;by_cases hq:len = 5
 . subst hq;have hi:=hb.resolve_left (fun h=>h rfl);clear hb;rcases hi with rfl | rfl | rfl
   . skip;go_wp2_with fail
     (try simp only [Exit.inBlock,Exit.then])
     refine bodyPost_ret (results_none rfl _ _ _) rfl ?_;exact ⟨rfl,HF.out⟩
   . skip;go_wp2_with fail
     (try simp only [Exit.inBlock,Exit.then])
     refine bodyPost_ret (results_none rfl _ _ _) rfl ?_;exact ⟨rfl,HF.out⟩
   . skip;go_wp2_with fail
     (try simp only [Exit.inBlock,Exit.then])
     refine bodyPost_ret (results_none rfl _ _ _) rfl ?_;exact ⟨rfl,HF.out⟩
 . have e1:((len:Int) != 5) = true:=by simp;omega
   clear hb hq;go_wp2_with fail
   (try simp only [Exit.inBlock,Exit.then])
   refine bodyPost_ret (results_none rfl _ _ _) rfl ?_;exact ⟨rfl,HF.out⟩
theorem zqJ {u:World} {L:Nat} (c1:u.cell? ⟨L,1,none⟩ = some (.bool false)) (cf:u.frozen? ⟨L,1,none⟩ = false) (i:Int) (len:Nat) (a:Option Addr) (cap:Nat) (hi:i = 0 \/ i = 1 \/ i = 2) :
 Calls Tryz.prog 40 #[.pointer (some ⟨L,0,none⟩),.int .i64 i,.string ⟨#[111,117,116]⟩,.slice a len cap] u fun r u'=>r = .returned (.tuple #[]) /\ BadU u u' L:=by
 obtain ⟨w1,w2,w3,w4,r1,r2,r3,r4,hx4,hlk⟩:=zdk u;have hl:=hlk sOut (by decide);rw [znb] at hl;simp only [Option.getD_none,Option.isSome_none] at hl;unfold zeB at r1;unfold sFed at r2;unfold zcI at r3;unfold sRow at r4;unfold sOut at hl;have hmm:=@run_makeMap Tryz.prog;have lL:=zac c1;have d1:=(hx4.cell (p:=⟨L,1,none⟩) lL id).trans c1;have df:=(hx4.frozen (p:=⟨L,1,none⟩) lL id).trans cf;have lL4:=zac d1;have HF:=Lib.hid (BadU.set hx4 d1 df);clear hlk hx4 c1 cf lL;go_enter Tryz.func40,Tryz.ntmps40;rcases hi with rfl | rfl | rfl
 . skip;go_wp2_with fail
   (try simp only [Exit.inBlock,Exit.then])
   refine bodyPost_ret (results_none rfl _ _ _) rfl ?_;exact ⟨rfl,HF.out⟩
 . skip;go_wp2_with fail
   (try simp only [Exit.inBlock,Exit.then])
   refine bodyPost_ret (results_none rfl _ _ _) rfl ?_;exact ⟨rfl,HF.out⟩
 . skip;go_wp2_with fail
   (try simp only [Exit.inBlock,Exit.then])
   refine bodyPost_ret (results_none rfl _ _ _) rfl ?_;exact ⟨rfl,HF.out⟩
theorem zr5 {u:World} {L:Nat} (c1:u.cell? ⟨L,1,none⟩ = some (.bool false)) (cf:u.frozen? ⟨L,1,none⟩ = false) (i:Int) (s:ByteArray) (hs:s.size <= 1000000000) (hn:s.data.toList ≠ zc2 /\ s.data.toList ≠ wFed /\ s.data.toList ≠ zbW /\ s.data.toList ≠ wRow /\ s.data.toList ≠ wOut) (len:Nat) (a:Option Addr) (cap:Nat) :
 Calls Tryz.prog 40 #[.pointer (some ⟨L,0,none⟩),.int .i64 i,.string s,.slice a len cap] u fun r u'=>r = .returned (.tuple #[]) /\ BadU u u' L:=by
 obtain ⟨w1,w2,w3,w4,r1,r2,r3,r4,hx4,hlk⟩:=zdk u;have hl:=hlk s hs;have hne:∀ t:ByteArray,s.data.toList ≠ t.data.toList -> s ≠ t:=fun t h e=>h (by rw [e]);have hw:mlook zhj s = none:=by
  have h1:=hne zeB hn.1;have h2:=hne sFed hn.2.1;have h3:=hne zcI hn.2.2.1;have h4:=hne sRow hn.2.2.2.1;have e:zhj = [(zeB,.int .i64 3),(sFed,.int .i64 3),(zcI,.int .i64 2),(sRow,.int .i64 5)]:=by rfl
  rw [e];unfold mlook;simp [h1.symm,h2.symm,h3.symm,h4.symm]
 rw [hw] at hl;simp only [Option.getD_none,Option.isSome_none] at hl;unfold zeB at r1;unfold sFed at r2;unfold zcI at r3;unfold sRow at r4;have hmm:=@run_makeMap Tryz.prog;have lL:=zac c1;have d1:=(hx4.cell (p:=⟨L,1,none⟩) lL id).trans c1;have df:=(hx4.frozen (p:=⟨L,1,none⟩) lL id).trans cf;have lL4:=zac d1;have HF:=Lib.hid (BadU.set hx4 d1 df);have n5:(s.toList != [111,117,116]) = true:=by rw [ByteArray.toList_eq];exact bne_iff_ne.2 hn.2.2.2.2
 have n6:(s.toList == [111,117,116]) = false:=by rw [ByteArray.toList_eq,beq_eq_false_iff_ne];exact hn.2.2.2.2
 clear hlk hx4 c1 cf lL hne hw hn hs;go_enter Tryz.func40,Tryz.ntmps40;go_wp2_with fail
 (try simp only [Exit.inBlock,Exit.then])
 refine bodyPost_ret (results_none rfl _ _ _) rfl ?_;exact ⟨rfl,HF.out⟩
theorem zqL {u:World} {L:Nat} {p:Option Addr} (hL:LdIs u L p false) (n:List Int) (a:Option Addr) (cap:Nat) (hnum:zaq u L a n) (h:(n.length ≠ 4 /\ n.length ≠ 7) \/ ∃ q m,n = q :: m /\ (n.length = 4 /\ (q < 1 \/ 3 <= q) \/ n.length = 7 /\ q ≠ 3)) :
 Calls Tryz.prog 83 #[.pointer (some ⟨L,0,none⟩),.slice a n.length cap] u fun e u'=>e = .returned (.tuple #[]) /\ BadU u u' L:=by
 have c1:=hL.c1;have cf:=hL.f 1;have lL:=hL.lt;have HF:=Lib.hid (BadU.set (ExtM.refl u:Ext u u) c1 cf);clear hL;rcases h with ⟨h4,h7⟩ | ⟨q,m,rfl,h⟩
 . have e1:((n.length:Int) != 4) = true:=by simp;omega
   have e2:((n.length:Int) != 7) = true:=by simp;omega
   clear h4 h7 hnum;go_enter Tryz.func83,Tryz.ntmps83;go_wp2_with fail
   (try simp only [Exit.inBlock,Exit.then])
   refine bodyPost_ret (results_none rfl _ _ _) rfl ?_;exact ⟨rfl,HF.out⟩
 . rcases h with ⟨hl,hq⟩ | ⟨hl,hq⟩
   . by_cases q1:q < 1
     . have d1:decide (q < 1) = true:=by simpa using q1
       clear hq q1;obtain ⟨g,rfl,hgL,hgu,hgc⟩:=hnum.cells (by simp);have g0:=hgc 0 _ rfl;rw [hl];clear hgc hnum hl;go_enter Tryz.func83,Tryz.ntmps83;go_wp2_with fail
       (try simp only [Exit.inBlock,Exit.then])
       refine bodyPost_ret (results_none rfl _ _ _) rfl ?_;exact ⟨rfl,HF.out⟩
     have d1:decide (q < 1) = false:=by simpa using q1
     by_cases q3:q = 3
     . subst q3;clear hq q1 d1;obtain ⟨g,rfl,hgL,hgu,hgc⟩:=hnum.cells (by simp);have g0:=hgc 0 _ rfl;rw [hl];clear hgc hnum hl;go_enter Tryz.func83,Tryz.ntmps83;go_wp2_with fail
       (try simp only [Exit.inBlock,Exit.then])
       refine bodyPost_ret (results_none rfl _ _ _) rfl ?_;exact ⟨rfl,HF.out⟩
     . have d3:decide (3 < q) = true:=by simp;omega
       clear hq q1 q3;obtain ⟨g,rfl,hgL,hgu,hgc⟩:=hnum.cells (by simp);have g0:=hgc 0 _ rfl;rw [hl];clear hgc hnum hl;go_enter Tryz.func83,Tryz.ntmps83;go_wp2_with fail
       (try simp only [Exit.inBlock,Exit.then])
       refine bodyPost_ret (results_none rfl _ _ _) rfl ?_;exact ⟨rfl,HF.out⟩
   . by_cases q1:q < 1
     . have d1:decide (q < 1) = true:=by simpa using q1
       clear hq q1;obtain ⟨g,rfl,hgL,hgu,hgc⟩:=hnum.cells (by simp);have g0:=hgc 0 _ rfl;rw [hl];clear hgc hnum hl;go_enter Tryz.func83,Tryz.ntmps83;go_wp2_with fail
       (try simp only [Exit.inBlock,Exit.then])
       refine bodyPost_ret (results_none rfl _ _ _) rfl ?_;exact ⟨rfl,HF.out⟩
     have d1:decide (q < 1) = false:=by simpa using q1
     by_cases q3:3 < q
     . have d3:decide (3 < q) = true:=by simpa using q3
       clear hq q1 q3;obtain ⟨g,rfl,hgL,hgu,hgc⟩:=hnum.cells (by simp);have g0:=hgc 0 _ rfl;rw [hl];clear hgc hnum hl;go_enter Tryz.func83,Tryz.ntmps83;go_wp2_with fail
       (try simp only [Exit.inBlock,Exit.then])
       refine bodyPost_ret (results_none rfl _ _ _) rfl ?_;exact ⟨rfl,HF.out⟩
     . have d3:decide (3 < q) = false:=by simpa using q3
       have e3:(q == 3) = false:=by simpa using hq
       clear hq q1 q3;obtain ⟨g,rfl,hgL,hgu,hgc⟩:=hnum.cells (by simp);have g0:=hgc 0 _ rfl;rw [hl];clear hgc hnum hl;go_enter Tryz.func83,Tryz.ntmps83;go_wp2_with fail
       (try simp only [Exit.inBlock,Exit.then])
       refine bodyPost_ret (results_none rfl _ _ _) rfl ?_;exact ⟨rfl,HF.out⟩
theorem zqy {u:World} {L:Nat} (hL:LdIs u L none false) (b c d:Int) (a:Option Addr) (cap:Nat) (hnum:zaq u L a [b,c,d]) (hc:checkI b c d ≠ 0) :
 Calls Tryz.prog 40 #[.pointer (some ⟨L,0,none⟩),.int .i64 0,.string ⟨#[112,108,97,110]⟩,.slice a 3 cap] u fun e u'=>e = .returned (.tuple #[]) /\ BadU u u' L:=by
 obtain ⟨g,rfl,hgL,hgu,hgc⟩:=hnum.cells (by simp);have g0:=hgc 0 b rfl;have g1:=hgc 1 c rfl;have g2:=hgc 2 d rfl;clear hgc hnum;obtain ⟨w1,w2,w3,w4,r1,r2,r3,r4,hx4,hlk⟩:=zdk u;have hl:=hlk zeB (by decide);rw [zlf] at hl;simp only [Option.getD_some,Option.isSome_some] at hl;unfold sRow at r4;unfold zeB at r1 hl;unfold sFed at r2;unfold zcI at r3;have hmm:=@run_makeMap Tryz.prog;have hnew:=fun w=>zmT b c d w hc;have er:errV (checkI b c d) = .iface 24 (.int .i64 (checkI b c d)):=if_neg hc;rw [er] at hnew;have HLK:=Lib.hid hlk;have HX:=Lib.hid hx4;have HL:=Lib.hid hL;generalize checkI b c d = cc at *;clear hlk hx4 hL hc er;go_enter Tryz.func40,Tryz.ntmps40;go_upto_region 7 with fail;have hl4:=HL.out.keep HX.out id;have k4:=fun o=>HX.out.cell (p:=⟨g,o,none⟩) hgu id;have y0:=(k4 _).trans g0;have y1:=(k4 _).trans g1;have y2:=(k4 _).trans g2;have lL:=hl4.lt;have lg:g < w4.heap.size:=Nat.lt_of_lt_of_le hgu HX.out.size;clear k4 g0 g1 g2 r1 r2 r3 r4 hl hmm;have hrul:∀ {W:World},Ext w4.drew W -> Plan.ExtB L w4 W -> W.cell? ⟨L,0,none⟩ = some (.pointer none) /\ W.frozen? ⟨L,0,none⟩ = false /\ True:=fun h _=>hl4.rules (ExtM.trans _ _ _ (ExtM.refl _).drew h);refine Plan.b0 (Plan.ExtB L) 19 ?_;refine Plan.qs 11 [0,1,2,3,4,5,6,7,8,9,10] ?_;iterate 11 go_big_quiet_step (fail)
 refine Plan.o1 11 fun K hK=>?_;go_wp2_with (fail);refine (hnew _).mono ?_;rintro e w5 ⟨rfl,h5⟩;have H5:=(ExtB.trans (B:=L)) _ _ _ (ExtB.of_ext (ExtM.refl _).drew) (ExtB.of_ext h5);obtain ⟨hc5,hf5,-⟩:=hrul h5 H5;have hs5_0:L < w5.heap.size:=by have:=H5.size;(try simp at this);omega
 have hs5_1:g < w5.heap.size:=by have:=H5.size;(try simp at this);omega
 go_wp2_with (fail);refine hK _ _ (ExtB.of_ext h5) ?_;clear hK K;refine Plan.qs 5 [12,13,14,15,16] ?_;iterate 5 go_big_quiet_step (fail)
 refine Plan.o1 17 fun K hK=>?_;go_wp2_with (fail);refine hK _ _ (setB L 0 _ _) ?_;clear hK K;refine Plan.qs 1 [18] ?_;go_big_quiet_step (fail);refine Plan.dn ?_;have hx5:Ext w4 w5:=ExtM.trans _ _ _ (ExtM.refl w4).drew h5;have hl5:=(hl4.keep hx5 id).setE none;have c1:=hl5.c1;have cf:=hl5.f 1;have lL5:=hl5.lt;have hfin:BadU u ((w5.setCell ⟨L,0,none⟩ (.pointer none)).setCell ⟨L,1,none⟩ (.bool true)) L :=
  ⟨ExtM.setCell (M:=fun k=>k = L) (p:=⟨L,1,none⟩) (((HX.out.mono (fun _ _ h=>h.elim):ExtM (fun k=>k = L) u w4).fresh' (hx5.mono (fun _ _ h=>h.elim)) (fun _ _ h=>h)).fresh' (setB L 0 _ _) (fun _ _ e=>e)) (.inr rfl) _,World.cell?_setCell_same _ _ _ c1,(World.frozen?_setCell _ _ _ _).trans cf⟩
 have HF:=Lib.hid hfin;clear hfin hl5 hl4 hrul hx5 h5 H5 hc5 hf5 hs5_0 hs5_1 y0 y1 y2 lL lg hnew;go_wp2_with fail;go_end0;exact ⟨rfl,HF.out⟩
theorem BadU.at {u u':World} {B L:Nat} (h:BadU u u' L) (h1:B <= L) (h2:L < u.heap.size):zhE u' B u'.heap.size L /\ Plan.ExtF B u u':=by
 have hs:=h.1.size;exact ⟨⟨h.2.1,h.2.2,h1,by omega⟩,h.1.mono fun k _ e=>by have e:k = L:=e;show B <= k;omega⟩
theorem LUpB.at {u u':World} {L E B C:Nat} {Bs:Nat -> Prop} {lo hi md:Int} {st:JSt} {V:List Out} {f0 f1:Int} (h:LUpB u u' L E Bs lo hi md st V f0 f1 true) (h1:B <= L) (hB:∀ k,Bs k -> B <= k /\ k < C):zhE u' B u'.heap.size L /\ Plan.ExtF B u u':=by
 obtain ⟨hx,hl,-⟩:=h;exact ⟨⟨hl.c1,hl.f 1,h1,hl.lt⟩,hx.mono fun k _ e=>e.elim (fun e=>by show B <= k;omega) (fun e=>(hB k e).1)⟩
theorem zry {u:World} {L E:Nat} {Bs:Nat -> Prop} {lo hi md:Int} {st:JSt} {V:List Out} {f0 f1:Int} (hL:LdIs u L (some ⟨E,0,none⟩) false) (hE:EAt u E Bs lo hi md st V V f0 f1) (hnB:¬ Bs L) (n:List Int) (h64:I64s n) (a:Option Addr) (cap:Nat) (hnum:zaq u L a n) (hV:V.length < 900000) (hx:outE n = none) :
 Calls Tryz.prog 83 #[.pointer (some ⟨L,0,none⟩),.slice a n.length cap] u fun e u'=>e = .returned (.tuple #[]) /\ (BadU u u' L \/ ∃ x,LUpB u u' L E Bs lo hi md st (x :: V) f0 f1 true):=by
 have hgo:∀ (h:Int) (R:List Row),n = h :: zdr R -> (∀ r ∈ R,r.ok):=fun h R e r hr=>by
  obtain ⟨j,hj,rfl⟩:=List.getElem_of_mem hr;obtain ⟨h1,h2,h3⟩:=zdX R j hj;have k:=fun (q:Nat) (v:Int) (hv:(zdr R)[q]? = some v)=>h64 v (by rw [e];exact List.mem_cons_of_mem _ (List.mem_of_getElem? hv));exact ⟨k _ _ h1,k _ _ h2,k _ _ h3⟩
 by_cases hcase:(∃ h r,n = h :: zdr [r] /\ (h = 1 \/ h = 2)) \/ ∃ r s,n = 3 :: zdr [r,s]
 . rcases hcase with ⟨h,r,rfl,hh⟩ | ⟨r,s,rfl⟩
   . have hbad:badO h [r] = true:=by
      cases hb:badO h [r] with
      | true=>rfl
      | false =>
        exfalso;have hg:za0 r:=by
         unfold badO at hb;rw [if_neg (by omega)] at hb;simp only [List.any_cons,List.any_nil,Bool.or_false] at hb;unfold badR at hb;simpa [za0] using hb
        rw [ziu hg hh] at hx;cases hx
     rcases hh with rfl | rfl
     . refine (zrp hL hE hnB [r] rfl (hgo 1 [r] rfl) a cap hnum hV).mono ?_;rintro e u' ⟨y,he,-,hu⟩;rw [hbad] at hu;exact ⟨he,.inr ⟨y,hu⟩⟩
     . refine (zqY hL hE hnB [r] rfl (hgo 2 [r] rfl) a cap hnum hV).mono ?_;rintro e u' ⟨y,he,-,hu⟩;rw [hbad] at hu;exact ⟨he,.inr ⟨y,hu⟩⟩
   . have hbad:badO 3 [r,s] = true:=by
      cases hb:badO 3 [r,s] with
      | true=>rfl
      | false =>
        exfalso;unfold badO at hb;rw [if_pos rfl] at hb;simp only [List.any_cons,List.any_nil,Bool.or_false,Bool.or_eq_false_iff] at hb;obtain ⟨⟨b1,b2⟩,b3⟩:=hb;unfold badR at b1 b2;have g1:za0 r:=by simpa [za0] using b1
        have g2:za0 s:=by simpa [za0] using b2
        have hk:r.k = s.k:=by simpa using b3
        rw [zlP g1 g2 hk] at hx;cases hx
     refine (zra hL hE hnB [r,s] rfl (hgo 3 [r,s] rfl) a cap hnum hV).mono ?_;rintro e u' ⟨y,he,-,hu⟩;rw [hbad] at hu;exact ⟨he,.inr ⟨y,hu⟩⟩
 . have hearly:(n.length ≠ 4 /\ n.length ≠ 7) \/ ∃ q m,n = q :: m /\ (n.length = 4 /\ (q < 1 \/ 3 <= q) \/ n.length = 7 /\ q ≠ 3):=by
    match n with
    | [q,x,y,z] =>
      refine .inr ⟨q,_,rfl,.inl ⟨rfl,?_⟩⟩;by_cases h1:q = 1 \/ q = 2
      . exact absurd (.inl ⟨q,⟨x,y,z⟩,rfl,h1⟩) hcase
      . omega
    | [q,x,y,z,x',y',z'] =>
      refine .inr ⟨q,_,rfl,.inr ⟨rfl,?_⟩⟩;rintro rfl;exact hcase (.inr ⟨⟨x,y,z⟩,⟨x',y',z'⟩,rfl⟩)
    | []=>exact .inl ⟨by simp,by simp⟩
    | [_]=>exact .inl ⟨by simp,by simp⟩
    | [_,_]=>exact .inl ⟨by simp,by simp⟩
    | [_,_,_]=>exact .inl ⟨by simp,by simp⟩
    | [_,_,_,_,_]=>exact .inl ⟨by simp,by simp⟩
    | [_,_,_,_,_,_]=>exact .inl ⟨by simp,by simp⟩
    | _ :: _ :: _ :: _ :: _ :: _ :: _ :: _ :: _=>exact .inl ⟨by simp,by simp⟩
   refine (zqL hL n a cap hnum hearly).mono ?_;rintro e u' ⟨he,hu⟩;exact ⟨he,.inl hu⟩
theorem lineOutBad_c {u:World} {L E:Nat} {Bs:Nat -> Prop} {lo hi md:Int} {st:JSt} {V:List Out} {f0 f1:Int} (hL:LdIs u L (some ⟨E,0,none⟩) false) (hE:EAt u E Bs lo hi md st V V f0 f1) (hnB:¬ Bs L) (i:Int) (hi3:3 <= i) (n:List Int) (h64:I64s n) (a:Option Addr) (cap:Nat) (hnum:zaq u L a n) (hV:V.length < 900000) (hx:outE n = none) :
 Calls Tryz.prog 40 #[.pointer (some ⟨L,0,none⟩),.int .i64 i,.string ⟨#[111,117,116]⟩,.slice a n.length cap] u fun e u'=>e = .returned (.tuple #[]) /\ (BadU u u' L \/ ∃ x,LUpB u u' L E Bs lo hi md st (x :: V) f0 f1 true):=by
 obtain ⟨w1,w2,w3,w4,r1,r2,r3,r4,hx4,hlk⟩:=zdk u;have hl:=hlk sOut (by decide);rw [znb] at hl;simp only [Option.getD_none,Option.isSome_none] at hl;unfold sOut at hl;unfold sRow at r4;unfold zeB at r1;unfold sFed at r2;unfold zcI at r3;have hmm:=@run_makeMap Tryz.prog;have i0:(i == 0) = false:=by simp;omega
 have i1:(i == 1) = false:=by simp;omega
 have i2:(i == 2) = false:=by simp;omega
 have hout:=zry (hL.keep hx4 id) (hE.ext hx4) hnB n h64 a cap (hnum.ext hx4) hV hx;have hlu:=hL.lt;have HLU:=Lib.hid hlu;have HX:=Lib.hid hx4;clear hi3 hlk hx4 hL hE hnum hx hlu h64;go_enter Tryz.func40,Tryz.ntmps40;go_wp2_with (go_at_call 83;refine hout.mono ?_;rintro e w5 ⟨rfl,hup⟩;refine Hid.out ?_);refine Lib.hid ?_;have hfin:w5.cell? ⟨L,1,none⟩ = some (.bool true) /\ w5.frozen? ⟨L,1,none⟩ = false /\ (BadU u (w5.setCell ⟨L,1,none⟩ (.bool true)) L \/ ∃ x,LUpB u (w5.setCell ⟨L,1,none⟩ (.bool true)) L E Bs lo hi md st (x :: V) f0 f1 true):=by
  rcases hup with hup | ⟨x,hup⟩
  . refine ⟨hup.2.1,hup.2.2,.inl ⟨?_,World.cell?_setCell_same _ _ _ hup.2.1,(World.frozen?_setCell _ _ _ _).trans hup.2.2⟩⟩;exact ExtM.setCell (M:=fun k=>k = L) (p:=⟨L,1,none⟩) ((HX.out.mono (fun _ _ h=>h.elim):ExtM (fun k=>k = L) u w4).fresh' hup.1 (fun _ _ e=>e)) (.inr rfl) _
  . exact ⟨hup.2.1.c1,hup.2.1.f 1,.inr ⟨x,zpS HX.out hup hnB HLU.out true⟩⟩
 obtain ⟨c1,cf,hfin⟩:=hfin;have lL5:=zac c1;have HF:=Lib.hid hfin;clear hup hfin r1 r2 r3 r4 hl hmm hout;go_wp2_with fail;go_end0;exact ⟨rfl,HF.out⟩
theorem len2 {n:List Int} (h:n.length = 2):∃ x y,n = [x,y]:=by
 match n,h with
 | [x,y],_=>exact ⟨x,y,rfl⟩
theorem len3 {n:List Int} (h:n.length = 3):∃ x y z,n = [x,y,z]:=by
 match n,h with
 | [x,y,z],_=>exact ⟨x,y,z,rfl⟩
theorem len5 {n:List Int} (h:n.length = 5):∃ x y z p q,n = [x,y,z,p,q]:=by
 match n,h with
 | [x,y,z,p,q],_=>exact ⟨x,y,z,p,q,rfl⟩
theorem badC:BadC:=by
 intro u B C L e i s n a cap hL hsz hi hnum ha ho h64 h0 h1 hl hLaid;obtain ⟨c1,cf⟩:=hL.bad;obtain ⟨⟨hBL,-⟩,hLu⟩:=hL.inn;have early:∀ {f:FuncId} {args:Array Value},Calls Tryz.prog f args u (fun r u'=>r = .returned (.tuple #[]) /\ BadU u u' L) -> Calls Tryz.prog f args u fun r u'=>r = .returned (.tuple #[]) /\ zhE u' B u'.heap.size L /\ Plan.ExtF B u u':=fun h =>
  h.mono fun r u' hh=>⟨hh.1,hh.2.at hBL hLu⟩
 have some_of:0 < i -> ∃ x,e = some x:=fun hp=>by
  cases e with
  | none=>exact absurd rfl (h1 hp)
  | some x=>exact ⟨x,rfl⟩
 by_cases p0:s.data.toList = zc2
 . obtain ⟨⟨l⟩⟩:=s;obtain rfl:l = zc2:=p0;by_cases hn:n.length = 3
   . obtain ⟨b,c,d,rfl⟩:=len3 hn;by_cases z:i = 0
     . subst z;obtain rfl:=h0 rfl;have hc:checkI b c d ≠ 0:=fun hc=>by
        unfold zb3 at hl;rw [if_pos rfl] at hl;simp [hc] at hl
       exact early (zqy hL.1 b c d a cap hnum hc)
     . exact early (zqb c1 cf i 3 a cap (.inr (by omega)))
   . exact early (zqb c1 cf i n.length a cap (.inl hn))
 by_cases p1:s.data.toList = wFed
 . obtain ⟨⟨l⟩⟩:=s;obtain rfl:l = wFed:=p1;by_cases hn:n.length = 3
   . obtain ⟨b,c,d,rfl⟩:=len3 hn;by_cases z:i = 1
     . subst z;obtain ⟨x,rfl⟩:=some_of (by omega);have hq:true = decide (b < 0 \/ c < 0 \/ d < 0):=by
        symm
        rw [decide_eq_true_eq];refine Classical.byContradiction fun hc=>?_;have hc':0 <= b /\ 0 <= c /\ 0 <= d:=by omega
        unfold zb3 at hl;rw [if_neg (show ¬ wFed = zc2 by decide)] at hl;simp [hc'] at hl
       obtain ⟨E,Bs,g1,g2,g3,g4,g5⟩:=hL;have hgB:∀ g,a = some ⟨g,0,none⟩ -> ¬ Bs g:=fun g hg hb=>by have:=ha g hg;have:=g5 g hb;omega
       exact (zqg g1 g2 g3 b c d a cap hnum hgB true hq).mono fun r u' hh=>⟨hh.1,hh.2.at hBL g5⟩
     . exact early (zqf c1 cf i 3 a cap (.inr (by omega)))
   . exact early (zqf c1 cf i n.length a cap (.inl hn))
 by_cases p2:s.data.toList = zbW
 . obtain ⟨⟨l⟩⟩:=s;obtain rfl:l = zbW:=p2;by_cases hn:n.length = 2
   . obtain ⟨x,y,rfl⟩:=len2 hn;by_cases z:i = 2
     . subst z;obtain ⟨e,rfl⟩:=some_of (by omega);obtain ⟨q1,q2,q3,q4⟩:=(ho e rfl).2;obtain ⟨d1,st1,m1⟩:=zpI.some e.lo e.hi x 0 0 e.st;obtain ⟨d2,st2,m2⟩:=zpI.some e.lo e.hi y d1 1 st1;have hd:d2 ≠ 0:=fun hd=>by
        subst hd;obtain ⟨rfl,k2⟩:=m2.ok;obtain ⟨-,k1⟩:=m1.ok;unfold zb3 at hl;rw [if_neg (show ¬ zbW = zc2 by decide)] at hl;simp [k1,k2,show ¬ zbW = wFed by decide] at hl
       obtain ⟨E,Bs,g1,g2,g3,g4,g5⟩:=hL;have hgB:∀ g,a = some ⟨g,0,none⟩ -> ¬ Bs g:=fun g hg hb=>by have:=ha g hg;have:=g5 g hb;omega
       exact (zpY g1 g2 g3 x y a cap hnum hgB q1 (by omega) (by omega) 0 d1 d2 rfl m1 m2 true (by simp [hd])).mono fun r u' hh=>⟨hh.1,hh.2.at hBL g5⟩
     . exact early (zpX c1 cf i 2 a cap (.inr (by omega)))
   . exact early (zpX c1 cf i n.length a cap (.inl hn))
 by_cases p3:s.data.toList = wRow
 . obtain ⟨⟨l⟩⟩:=s;obtain rfl:l = wRow:=p3;by_cases hn:n.length = 5
   . obtain ⟨q,k,t,v,m,rfl⟩:=len5 hn;by_cases z:i < 3
     . exact early (zqj c1 cf i 5 a cap (.inr (by omega)))
     . obtain ⟨x,rfl⟩:=some_of (by omega);have hd:zcF q ⟨⟨k,t,v⟩,m⟩ x.st ≠ 0:=fun hd=>by
        unfold zb3 at hl;rw [if_neg (show ¬ wRow = zc2 by decide)] at hl;simp [hd,show ¬ wRow = wFed by decide,show ¬ wRow = zbW by decide,show ¬ i = 0 by omega,show ¬ i = 1 by omega,show ¬ i = 2 by omega] at hl
       obtain ⟨E,Bs,g1,g2,g3,g4,g5⟩:=hL;have hgB:∀ g,a = some ⟨g,0,none⟩ -> ¬ Bs g:=fun g hg hb=>by have:=ha g hg;have:=g5 g hb;omega
       exact (zqd g1 g2 g3 i (by omega) q k t v m a cap hnum hgB _ rfl true (by simp [hd])).mono fun r u' hh=>⟨hh.1,hh.2.at hBL g5⟩
   . exact early (zqj c1 cf i n.length a cap (.inl hn))
 by_cases p4:s.data.toList = wOut
 . obtain ⟨⟨l⟩⟩:=s;obtain rfl:l = wOut:=p4;by_cases z:i < 3
   . exact early (zqJ c1 cf i n.length a cap (by omega))
   . obtain ⟨x,rfl⟩:=some_of (by omega);obtain ⟨q1,q2,q3,q4⟩:=(ho x rfl).2;have hd:outE n = none:=by
      unfold zb3 at hl;rw [if_neg (show ¬ wOut = zc2 by decide)] at hl;simpa [show ¬ wOut = wFed by decide,show ¬ wOut = zbW by decide,show ¬ wOut = wRow by decide,show ¬ i = 0 by omega,show ¬ i = 1 by omega,show ¬ i = 2 by omega] using hl
     obtain ⟨E,Bs,g1,g2,g3,g4,g5⟩:=hL;refine (lineOutBad_c g1 g2 g3 i (by omega) n h64 a cap hnum (by omega) hd).mono fun r u' hh=>⟨hh.1,?_⟩
     rcases hh.2 with hb | ⟨y,hb⟩
     . exact hb.at hBL hLu
     . exact hb.at hBL g5
 . exact early (zr5 c1 cf i s hsz ⟨p0,p1,p2,p3,p4⟩ n.length a cap)
structure EXK (w u:World) (E R:Nat) (lo hi md:Int) (Bs Cs:Nat -> Prop) (st:JSt) (m:Nat) (f0 f1:Int) (rs:RSt) (l:List Out) (g0 g1:Int):Prop where
 ext:Ext w u
 e:EKAt u E Bs lo hi md st m f0 f1
 r:REAt u R Cs lo hi md rs l g0 g1
 nB:∀ k,Bs k -> w.heap.size <= k /\ ¬ Cs k
 nC:∀ k,Cs k -> w.heap.size <= k
section
variable {w u u':World} {E R:Nat} {lo hi md:Int} {Bs Cs:Nat -> Prop} {st:JSt} {m:Nat} {f0 f1:Int} {rs:RSt} {l:List Out} {g0 g1:Int}
theorem EXK.of (h:EXK w u E R lo hi md Bs Cs st m f0 f1 rs l g0 g1) (hx:Ext u u'):EXK w u' E R lo hi md Bs Cs st m f0 f1 rs l g0 g1 :=
 ⟨ExtM.trans _ _ _ h.ext hx,h.e.ext hx,h.r.ext hx,h.nB,h.nC⟩
theorem EXK.eup {st':JSt} {m':Nat} {f0' f1':Int} (h:EXK w u E R lo hi md Bs Cs st m f0 f1 rs l g0 g1) (hu:EKUp u u' E Bs lo hi md st' m' f0' f1'):∃ Bs',EXK w u' E R lo hi md Bs' Cs st' m' f0' f1' rs l g0 g1:=by
 obtain ⟨hx,Bs',hj,hb⟩:=hu;have hsz:=h.ext.size;refine ⟨Bs',h.ext.fresh hx (fun k hk e=>by have:=(h.nB k e).1;omega),hj,h.r.keep hx (fun k hk e=>(h.nB k e).2 hk),fun k hk=>?_,h.nC⟩;rcases hb k hk with e | e
 . exact h.nB k e
 . exact ⟨by omega,fun q=>by have:=h.r.lt k q;omega⟩
theorem EXK.rup {rs':RSt} {l':List Out} {g0' g1':Int} (h:EXK w u E R lo hi md Bs Cs st m f0 f1 rs l g0 g1) (hu:RNUp u u' R Cs lo hi md rs' l' g0' g1'):∃ Cs',EXK w u' E R lo hi md Bs Cs' st m f0 f1 rs' l' g0' g1':=by
 obtain ⟨hx,Cs',hr,hc⟩:=hu;have hsz:=h.ext.size;refine ⟨Cs',h.ext.fresh hx (fun k hk e=>by have:=h.nC k e;omega),h.e.keep hx (fun k hk e=>(h.nB k hk).2 e),hr,fun k hk=>⟨(h.nB k hk).1,fun e=>?_⟩,fun k hk=>?_⟩
 . rcases hc k e with e | e
   . exact (h.nB k hk).2 e
   . have:=h.e.lt k hk;omega
 . rcases hc k hk with e | e
   . exact h.nC k e
   . omega
variable {n:Nat}
theorem zrI (h:EXK w u E R lo hi md Bs Cs st m f0 f1 rs l g0 g1) {rs0:RSt} (hg:zce st rs0 n) (hm:m < 900000) (hp:zay lo hi) (hL:Laid w) (s rk rt rv:Int) :
 Calls Tryz.prog 9 #[.pointer (some ⟨E,0,none⟩),.int .i64 s,.agg #[.int .i64 rk,.int .i64 rt,.int .i64 rv]] u fun e u'=>∃ vo,e = .returned (.tuple #[vo,errV (zdO lo hi s ⟨rk,rt,rv⟩ st)]) /\ CRow u' u.heap.size vo (zcR lo hi md s ⟨rk,rt,rv⟩ st) /\
  ExtM Bs u u' /\ ∃ Bs' m' f0' f1',m' <= m + 1202 /\ EXK w u' E R lo hi md Bs' Cs (zgm lo hi s ⟨rk,rt,rv⟩ st) m' f0' f1' rs l g0 g1:=by
 have hla:st.a.length <= 300:=by rw [hg.a];exact hg.la
 have hlb:st.b.length <= 300:=by rw [hg.b];exact hg.lb
 have hLu:=hL.of h.ext;have hz:¬ Bs 2:=fun e=>by have h1:=(h.nB _ e).1;have h2:=zaG hL;omega
 have hlen:=fun s=>zgU lo hi md s ⟨rk,rt,rv⟩ st hla hlb;by_cases h0:s = 0
 . subst h0;simp only [zdO,zcR,zgm,if_true,show ¬ (0:Int) = 1 by decide,if_false];refine (zr6 h.e hp hla hlb hLu hz rk rt rv hm).mono ?_;rintro e u' ⟨vo,rfl,hrow,hu⟩;obtain ⟨Bs',hx⟩:=h.eup hu;exact ⟨vo,rfl,hrow,hu.1,Bs',_,_,_,by have:=hlen 0;omega,hx⟩
 by_cases h1:s = 1
 . subst h1;simp only [zdO,zcR,zgm,if_true,show ¬ (1:Int) = 0 by decide,if_false];refine (zrx h.e hp hla hlb hLu hz rk rt rv hm).mono ?_;rintro e u' ⟨vo,rfl,hrow,hu⟩;obtain ⟨Bs',hx⟩:=h.eup hu;exact ⟨vo,rfl,hrow,hu.1,Bs',_,_,_,by have:=hlen 1;omega,hx⟩
 . simp only [zdO,zcR,zgm,if_neg h0,if_neg h1];have hjn:∃ P,u.cell? ⟨E,3,none⟩ = some (.pointer (some ⟨P,0,none⟩)) /\ E < u.heap.size:=by
    obtain ⟨P,M,v0,v1,D,DG,ents,V,hI,-⟩:=h.e;exact ⟨P,hI.c3,hI.lt⟩
   obtain ⟨P,c3,lE⟩:=hjn;refine (zrN c3 lE hLu s rk rt rv ⟨h0,h1⟩).mono ?_;rintro e u' ⟨rfl,hx⟩;exact ⟨_,rfl,nilC _ _,hx.mono (fun _ _ h=>h.elim),Bs,m,f0,f1,by omega,h.of hx⟩
theorem zrA (h:EXK w u E R lo hi md Bs Cs st m f0 f1 rs l g0 g1) (hg:zce st rs n) (hn:n < 900000) (hll:l.length < 800000) (hp:zay lo hi) (s rk rt rv:Int) :
 Calls Tryz.prog 8 #[.pointer (some ⟨R,0,none⟩),.int .i64 s,.agg #[.int .i64 rk,.int .i64 rt,.int .i64 rv]] u fun e u'=>∃ vo,e = .returned (.tuple #[vo,.int .i64 (zdO lo hi s ⟨rk,rt,rv⟩ st)]) /\ CRow u' u.heap.size vo (zcR lo hi md s ⟨rk,rt,rv⟩ st) /\
  ExtM Cs u u' /\ Ext w u' /\ ∃ Cs' l' g0' g1',l'.length <= l.length + 601 /\ EXK w u' E R lo hi md Bs Cs' st m f0 f1 (zhq lo hi s ⟨rk,rt,rv⟩ rs) l' g0' g1':=by
 have hc0:=hg.c0;have hc1:=hg.c1;have hla:st.a.length <= 300:=by rw [hg.a];exact hg.la
 have hlb:st.b.length <= 300:=by rw [hg.b];exact hg.lb
 have hlen:∀ s,(zbd l (zaj lo hi md s ⟨rk,rt,rv⟩ st)).length <= l.length + 601:=fun s=>by
  have h1:=zgU lo hi md s ⟨rk,rt,rv⟩ st hla hlb;have h2:=zdv (zaj lo hi md s ⟨rk,rt,rv⟩ st) l;omega
 by_cases h0:s = 0
 . subst h0;simp only [zdO,zcR,zhq,if_true,show ¬ (0:Int) = 1 by decide,if_false];refine (zmr h.r hp hg.la hg.lb ⟨hc0,by omega⟩ (by omega) rk rt rv).mono ?_;rintro e u' ⟨vo,Rl,rfl,hrow,hR,hu⟩;have hE:feedE lo hi 0 ⟨rk,rt,rv⟩ rs.x rs.y (rs.of 0).length = feedE lo hi 0 ⟨rk,rt,rv⟩ st.x st.y st.a.length:=by rw [hg.rel.x,hg.rel.y,hg.a];rfl
   have hC:rchg lo hi md 0 ⟨rk,rt,rv⟩ rs Rl = zaj lo hi md 0 ⟨rk,rt,rv⟩ st:=by
    show (if feedE lo hi 0 ⟨rk,rt,rv⟩ rs.x rs.y (rs.of 0).length = 0 then _ else _) = (if feedE lo hi 0 ⟨rk,rt,rv⟩ st.x st.y st.a.length = 0 then _ else _)
    rw [hE] at hR ⊢;by_cases he:feedE lo hi 0 ⟨rk,rt,rv⟩ st.x st.y st.a.length = 0
    . rw [if_pos he,if_pos he,hg.chg 1 Rl (hR he).1 (hR he).2]
    . rw [if_neg he,if_neg he]
   rw [hC] at hrow hu;rw [hE] at hu ⊢;obtain ⟨Cs',hx⟩:=h.rup hu;exact ⟨vo,rfl,hrow,hu.1,hx.ext,Cs',_,_,_,hlen 0,hx⟩
 by_cases h1:s = 1
 . subst h1;simp only [zdO,zcR,zhq,if_true,show ¬ (1:Int) = 0 by decide,if_false];refine (zmJ h.r hp hg.la hg.lb ⟨hc0,by omega⟩ (by omega) rk rt rv).mono ?_;rintro e u' ⟨vo,Rl,rfl,hrow,hR,hu⟩;have hE:feedE lo hi 1 ⟨rk,rt,rv⟩ rs.x rs.y (rs.of 1).length = feedE lo hi 1 ⟨rk,rt,rv⟩ st.x st.y st.b.length:=by rw [hg.rel.x,hg.rel.y,hg.b];rfl
   have hC:rchg lo hi md 1 ⟨rk,rt,rv⟩ rs Rl = zaj lo hi md 1 ⟨rk,rt,rv⟩ st:=by
    show (if feedE lo hi 1 ⟨rk,rt,rv⟩ rs.x rs.y (rs.of 1).length = 0 then _ else _) = (if feedE lo hi 1 ⟨rk,rt,rv⟩ st.x st.y st.b.length = 0 then _ else _)
    rw [hE] at hR ⊢;by_cases he:feedE lo hi 1 ⟨rk,rt,rv⟩ st.x st.y st.b.length = 0
    . rw [if_pos he,if_pos he,hg.chg 0 Rl (hR he).1 (hR he).2]
    . rw [if_neg he,if_neg he]
   rw [hC] at hrow hu;rw [hE] at hu ⊢;obtain ⟨Cs',hx⟩:=h.rup hu;exact ⟨vo,rfl,hrow,hu.1,hx.ext,Cs',_,_,_,hlen 1,hx⟩
 . simp only [zdO,zcR,zhq,if_neg h0,if_neg h1];refine (zmq h.r s rk rt rv ⟨h0,h1⟩).mono ?_;rintro e u' ⟨rfl,hx⟩;exact ⟨_,rfl,nilC _ _,hx.mono (fun _ _ h=>h.elim),(h.of hx).ext,Cs,l,g0,g1,by omega,h.of hx⟩
end
def ELK (w u:World) (E R:Nat) (lo hi md:Int) (n:Nat):Prop:=∃ st m f0 f1 rs l g0 g1 Bs Cs,EXK w u E R lo hi md Bs Cs st m f0 f1 rs l g0 g1 /\ zce st rs (6010 + n) /\ m <= 6010 + 1202 * n /\ l.length <= 6010 + 601 * n
theorem ELK.ext {w u:World} {E R:Nat} {lo hi md:Int} {n:Nat} (h:ELK w u E R lo hi md n):Ext w u:=by
 obtain ⟨st,m,f0,f1,rs,l,g0,g1,Bs,Cs,h,-⟩:=h;exact h.ext
theorem zdP (n:Int) (w:World) (hg:Laid w):Calls Tryz.prog 7 #[errV n,.int .i64 n] w fun e w'=>e = .returned (.bool true) /\ Ext w w':=by
 unfold errV;split
 . rename_i h;subst h;exact (lbare_nil 0 w).mono fun e w' hh=>⟨by simpa using hh.1,hh.2 ▸ ExtM.refl _⟩
 . exact (znJ n n w hg).mono fun e w' hh=>⟨by simpa using hh.1,hh.2⟩
theorem MRow.of {w w':World} {b:Nat} {v:Value} {l:List Hd} (h:MRow w b v l) (hx:Ext w w'):MRow w' b v l:=zag h hx (fun _ _ h=>h)
structure StX where
 what:Int
 side:Int
 n:Int
 r:Row
structure zgX (w:World) (b o:Nat) (d:StX):Prop where
 c0:w.cell? ⟨b,o,none⟩ = some (.int .i64 d.what)
 c1:w.cell? ⟨b,o + 1,none⟩ = some (.int .i64 d.side)
 c2:w.cell? ⟨b,o + 2,none⟩ = some (.int .i64 d.n)
 c3:w.cell? ⟨b,o + 3,none⟩ = some (.int .i64 d.r.k)
 c4:w.cell? ⟨b,o + 4,none⟩ = some (.int .i64 d.r.t)
 c5:w.cell? ⟨b,o + 5,none⟩ = some (.int .i64 d.r.v)
theorem zgX.lt {w:World} {b o:Nat} {d:StX} (h:zgX w b o d):b < w.heap.size:=zaG h.c0
theorem zgX.of {w w':World} {b o:Nat} {d:StX} (h:zgX w b o d) (hx:Ext w w'):zgX w' b o d:=by
 have k:=fun q=>hx.cell (p:=⟨b,q,none⟩) h.lt (fun h=>h);exact ⟨(k _).trans h.c0,(k _).trans h.c1,(k _).trans h.c2,(k _).trans h.c3,(k _).trans h.c4,(k _).trans h.c5⟩
def zpD (w:World) (a:Option Addr) (xs:List StX):Prop:=xs = [] \/ ∃ b off,a = some ⟨b,off,none⟩ /\ ∀ i (h:i < xs.length),zgX w b (off + i * 6) xs[i]
def JL (w u:World) (P M J:Nat) (lo hi md:Int) (n:Nat):Prop:=∃ st rs Bs Cs,JX w u P M J lo hi md (fun _=>False) Bs Cs st rs /\ zce st rs n
theorem JL.ext {w u:World} {P M J:Nat} {lo hi md:Int} {n:Nat} (h:JL w u P M J lo hi md n):Ext w u:=by
 obtain ⟨st,rs,Bs,Cs,h,-⟩:=h;exact h.ext
theorem zlS (lo hi md s:Int) (r:Row) (st:JSt) (la:st.a.length <= 300) (lb:st.b.length <= 300):(zcR lo hi md s r st).length <= 601:=by
 have hc:∀ s':Nat,(zaj lo hi md s' r st).length <= 601:=fun s'=>by
  unfold zaj;split
  . rw [zbD,List.length_append];have h1:=zaK md s' r ((st.of (1 - s')).filter (zab r.k (frI lo hi s' r.t) (tilI lo hi s' r.t)));have h2:((st.of (1 - s')).filter (zab r.k (frI lo hi s' r.t) (tilI lo hi s' r.t))).length <= 300:=Nat.le_trans (List.length_filter_le _ _) (by unfold JSt.of;split <;> assumption);have h3:∀ b:Bool,(if b = true then [(zan s' r,false)] else []:List (Out × Bool)).length <= 1:=fun b=>by cases b <;> simp
    have:=h3 (decide (((st.of (1 - s')).filter (zab r.k (frI lo hi s' r.t) (tilI lo hi s' r.t))).length = 0) && zai md s')
    omega
  . simp
 unfold zcR;split
 . exact hc 0
 . split
   . exact hc 1
   . simp
theorem zpV (s:ByteArray) (a:Option Addr) (cap:Nat) (xs:List StX) (w:World) (hlib:Lib4 w) (hasc:AscP w) (hwh:WhP w) (hin:zpD w a xs) :
 Calls Tryz.prog 3 #[.string s,.slice a xs.length cap] w fun e w'=>e = .returned (.bool true) /\ Ext w w':=by
 have hg:=hlib.l;by_cases h3:3000 < s.size
 . have d:decide (3000 < (s.size:Int)) = true:=by simp;omega
   have d':decide (3000 < s.size) = true:=by simp;omega
   go_enter Tryz.func3,Tryz.ntmps3;go_wp2_with fail;go_ret;exact ⟨rfl,ExtM.refl _⟩
 have d3:decide (3000 < (s.size:Int)) = false:=by simp;omega
 have d3':decide (3000 < s.size) = false:=by simp;omega
 by_cases h20:20 < xs.length
 . have d:decide (20 < (xs.length:Int)) = true:=by simp;omega
   have d':decide (20 < xs.length) = true:=by simp;omega
   go_enter Tryz.func3,Tryz.ntmps3;go_wp2_with fail;go_ret;exact ⟨rfl,ExtM.refl _⟩
 have d20:decide (20 < (xs.length:Int)) = false:=by simp;omega
 have d20':decide (20 < xs.length) = false:=by simp;omega
 have hsz:s.data.toList.length = s.size:=zbA s;have hrl:=zrM s (by omega) hlib.m ⟨hlib.e,hlib.t,hasc,hwh⟩;have hld:∀ u,Ext w u -> Calls Tryz.prog 6 #[.string s] u fun e u'=>zpR u s.data.toList e u':=fun u hx =>
  zpa s (by omega) (hlib.m.ext hx) (hlib.e.keep hx id id) (zqq hlib.t hx) (hg.of hx) (fun _=>badC)
 have hle:=zq0 (s:=s.data.toList) (by omega);cases hr:zpN s.data.toList with
 | none =>
   have hrl':Calls Tryz.prog 5 #[.string s] w fun e u'=>e = .returned (.tuple #[.pointer none,.int .i64 3]) /\ Ext w u':=hrl.mono fun e u' h=>by unfold zpT at h;rw [hr] at h;exact h
   have hld':∀ u,Ext w u -> Calls Tryz.prog 6 #[.string s] u fun e u'=>e = .returned (.tuple #[.pointer none,errV 3]) /\ Ext u u':=fun u hx=>(hld u hx).mono fun e u' h=>by
    unfold zpR at h;rw [hle,hr] at h;exact ⟨h.2,h.1⟩
   clear hrl hld hle hr hsz;go_enter Tryz.func3,Tryz.ntmps3
   go_wp2_with (first
    | (go_at_call 5
       refine hrl'.mono ?_
       rintro e w1 ⟨rfl,hx1⟩)
    | (go_at_call 6
       refine (hld' _ hx1).mono ?_
       rintro e w2 ⟨rfl,hx2⟩)
    | (go_at_call 7
       refine (zdP 3 _ (hg.of (ExtM.trans _ _ _ hx1 hx2))).mono ?_
       rintro e w3 ⟨rfl,hx3⟩))
   go_ret;exact ⟨rfl,ExtM.trans _ _ _ (ExtM.trans _ _ _ hx1 hx2) hx3⟩
 | some x =>
   have hrl':Calls Tryz.prog 5 #[.string s] w fun e u'=>∃ R Cs,e = .returned (.tuple #[.pointer (some ⟨R,0,none⟩),.int .i64 0]) /\ REAt u' R Cs x.e.lo x.e.hi x.e.md x.rs x.l x.e.f0 x.e.f1 /\ (∀ k,Cs k -> w.heap.size <= k) /\ Ext w u' /\ LOk x 6010:=hrl.mono fun e u' h=>by unfold zpT at h;rw [hr] at h;exact h
   have hld':∀ u,Ext w u -> Calls Tryz.prog 6 #[.string s] u fun e u'=>∃ E Bs,e = .returned (.tuple #[.pointer (some ⟨E,0,none⟩),errV 0]) /\ EAt u' E Bs x.e.lo x.e.hi x.e.md x.e.st x.e.V x.e.V x.e.f0 x.e.f1 /\ (∀ k,Bs k -> u.heap.size <= k) /\ Ext u u':=fun u hx=>(hld u hx).mono fun e u' h=>by
    unfold zpR at h;rw [hle,hr] at h;obtain ⟨h1,E,Bs,h2,h3,h4⟩:=h;exact ⟨E,Bs,h2,h3,h4,h1⟩
   clear hrl hld hle hr hsz;go_enter Tryz.func3,Tryz.ntmps3
   go_upto_region 9 with (first
    | (go_at_call 5
       refine hrl'.mono ?_
       rintro e w1 ⟨R,Cs,rfl,hR,hCn,hx1,hok⟩)
    | (go_at_call 6
       refine (hld' _ hx1).mono ?_
       rintro e w2 ⟨E,Bs,rfl,hE,hBn,hx2⟩)
    | (go_at_call 7
       refine (zdP 0 _ (hg.of (ExtM.trans _ _ _ hx1 hx2))).mono ?_
       rintro e w3 ⟨rfl,hx3⟩))
   have hp:=zgW hok.ok.plan;have hS0:ELK w w3 E R x.e.lo x.e.hi x.e.md 0:=by
    have hs1:=hx1.size;have hv:=hok.lv;refine ⟨x.e.st,6010,x.e.f0,x.e.f1,x.rs,x.l,x.e.f0,x.e.f1,Bs,Cs,⟨ExtM.trans _ _ _ (ExtM.trans _ _ _ hx1 hx2) hx3,((hE.weak hv hv).ext hx3),(hR.ext hx2).ext hx3,fun k hk=>⟨by have:=hBn k hk;omega,fun e=>by have:=hR.lt k e;have:=hBn k hk;omega⟩,hCn⟩,hok.g,by omega,by have:=hok.p.length_eq;omega⟩
   generalize x.e.lo = lo at *;generalize x.e.hi = hi at *;generalize x.e.md = md at *;clear hrl' hld' hR hCn hx1 hok hE hBn hx2 hx3;go_wp2_with fail;go_loopg [9] (xs.length + 1) (fun kx s9 wr=>∃ n:Nat,s9 = .int .i64 n /\ n <= xs.length /\ xs.length - n <= kx /\ ELK w wr E R lo hi md n)
   case atStart=>exact ⟨0,rfl,by omega,by omega,hS0⟩
   case round =>
    clear hS0;obtain ⟨n,rfl,hn,hgk,hS⟩:=hrel;by_cases hlt:n < xs.length
    . obtain ⟨b,off,rfl,hel⟩:∃ b off,a = some ⟨b,off,none⟩ /\ ∀ i (h:i < xs.length),zgX w b (off + i * 6) xs[i]:=by
       rcases hin with h | h
       . subst h;simp at hlt
       . exact h
      have hx:=hS.ext;have lw:=(hel n hlt).lt;have hE0:=hel n hlt;obtain ⟨c0,c1,c2,c3,c4,c5⟩:=hE0.of hx;have HE0:=Lib.hid hE0;clear hel hE0;generalize xs[n] = dd at *;obtain ⟨wh,sd,sn,⟨rk,rt,rv⟩⟩:=dd;simp only at c0 c1 c2 c3 c4 c5;obtain ⟨st,m,f0,f1,rs,l,g0,g1,Bs,Cs,h8,hgd,hm,hl⟩:=hS;have hnC:¬ Cs b:=fun e=>by have:=h8.nC b e;omega
      have hnB:¬ Bs b:=fun e=>by have:=(h8.nB b e).1;omega
      have lfC:∀ {p q:World},ExtM Cs p q -> Plan.ExtK b p q:=fun h=>ExtK.of_M h hnC;have lfB:∀ {p q:World},ExtM Bs p q -> Plan.ExtK b p q:=fun h=>ExtK.of_M h hnB;have lbr:b < wr.heap.size:=Nat.lt_of_lt_of_le lw hx.size;have hla:st.a.length <= 300:=by rw [hgd.a];exact hgd.la
      have hlb:st.b.length <= 300:=by rw [hgd.b];exact hgd.lb
      have HL:=Lib.hid (zlS lo hi md sd ⟨rk,rt,rv⟩ st hla hlb);have HG:=Lib.hid (hgd.feed lo hi sd ⟨rk,rt,rv⟩);clear hla hlb;go_upto_region 12 with fail;refine Plan.b0 (Plan.ExtK b) 17 ?_;refine Plan.qs 11 [0,1,2,3,4,5,6,7,8,9,10] ?_;iterate 11 go_big_quiet_step (fail)
      refine Plan.o1 11 fun K hK=>?_;go_wp2_with (fail);refine (zrA (h8.of (ExtM.refl _).drew) hgd (by omega) (by omega) hp sd rk rt rv).mono ?_;rintro e w1 ⟨vr,rfl,hr1,h1,hX1,Cs',l',g0',g1',hl',k1⟩;have H1:=ExtK.trans _ _ _ (ExtK.refl _).drew (lfC h1);obtain ⟨hc1,hf1,-⟩:=ExtK.rules H1;have hs1_0:b < w1.heap.size:=by have:=H1.size;(try simp at this);omega
      go_wp2_with (fail);refine hK _ _ (lfC h1) ?_;clear hK K;refine Plan.qs 5 [12,13,14,15,16] ?_;iterate 5 go_big_quiet_step (fail)
      refine Plan.dn ?_;obtain ⟨e0,e1,e2,e3,e4,e5⟩:=HE0.out.of hX1;simp only at e0 e1 e2 e3 e4 e5;have lb1:b < w1.heap.size:=Nat.lt_of_lt_of_le lw hX1.size;clear hc1 hf1;go_upto_region 13 with fail;refine Plan.b0 (Plan.ExtK b) 17 ?_;refine Plan.qs 11 [0,1,2,3,4,5,6,7,8,9,10] ?_;iterate 11 go_big_quiet_step (fail)
      refine Plan.o1 11 fun K hK=>?_;go_wp2_with (fail);refine (zrI (k1.of (ExtM.refl _).drew) hgd (by omega) hp hg sd rk rt rv).mono ?_;rintro e w2 ⟨vj,rfl,hr2,h2,Bs',m',f0',f1',hm',k2⟩;have H2:=ExtK.trans _ _ _ (ExtK.refl _).drew (lfB h2);obtain ⟨hc2,hf2,-⟩:=ExtK.rules H2;have hs2_0:b < w2.heap.size:=by have:=H2.size;(try simp at this);omega
      go_wp2_with (fail);refine hK _ _ (lfB h2) ?_;clear hK K;refine Plan.qs 5 [12,13,14,15,16] ?_;iterate 5 go_big_quiet_step (fail)
      refine Plan.dn ?_;have hr1':CRow w2 wr.drew.heap.size vr _:=zag (zag hr1 ((ExtM.refl _).drew:Ext w1 w1.drew) (fun _ _ h=>h)) h2 (fun k hk e=>by have h5:=(zaf hr1 k hk).1;have h6:=h8.e.lt k e;have h7:wr.drew.heap.size = wr.heap.size:=rfl;omega);have hgr2:=hg.of k2.ext;have hfin:∀ u,Ext w2 u -> ELK w u E R lo hi md (n + 1):=fun u hu=>⟨_,m',f0',f1',_,l',g0',g1',Bs',Cs',k2.of hu,HG.out,by omega,by omega⟩
      have HF:=Lib.hid hfin;clear hfin k1 k2 h8 hX1 e0 e1 e2 e3 e4 e5 h1 H1 h2 H2 hr1
      go_wp2_with (first
       | (go_at_call 7
          refine (zdP _ _ hgr2).mono ?_
          rintro e w3 ⟨rfl,hx3⟩)
       | (go_at_call 10
          refine (zfJ _ _ _ _ _ _ (hr2.of hx3) (hr1'.of hx3) (by have:=HL.out;omega)).mono ?_
          rintro e w4 ⟨rfl,hx4⟩))
      go_roundg (xs.length - (n + 1))
      case measure=>omega
      case rel=>exact ⟨n + 1,by go_num,by omega,Nat.le_refl _,HF.out _ (ExtM.trans _ _ _ hx3 hx4)⟩
    . obtain rfl:n = xs.length:=by omega
      have hz:decide (xs.length < xs.length) = false:=by simp
      have hz2:decide ((xs.length:Int) < xs.length) = false:=by simp
      have hx:=hS.ext;go_wp2_with fail;go_ret;exact ⟨rfl,hx⟩
open Go.ChangeShapes Go.WideShapes Go.ChangeAt Go.RowKit Go.Joins Go.Plan Go.Stop Go.Extern
theorem zom : (LST1.filter fun x => x.1 == "strconv.ErrRange") = [("strconv.ErrRange", Rows.laid_strconv_ErrRange)] := by rfl
theorem znU : (LST1.filter fun x => x.1 == "strconv.ErrSyntax") = [("strconv.ErrSyntax", Rows.laid_strconv_ErrSyntax)] := by rfl
theorem zk6 : "*" ++ "errors.errorString" = "*errors.errorString" := by decide
theorem znj (u : TypeId) (h : Tryz.prog.typeName? 3 u = some "*errors.errorString") : u = 313 :=
 typeName_ptr_named (nm := "errors.errorString") (by rw [zk6]; kernel_rfl) (by kernel_rfl) (by decide) u (by rw [zk6]; exact h)
theorem zld:Tryz.prog.cellsOf 315 = 1:=by kernel_rfl
theorem zhZ:Tryz.prog.cellsOf 9 = 1:=by kernel_rfl
theorem znK {W:World} (h:laidMetH Tryz.prog LST W):ErrP W:=by
 have h1 := (laidMetH_iff.1 h).1; rw [zdT] at h1; have h2 := h1.filter (fun x => x.1 == "strconv.ErrRange"); have h3 := h1.filter (fun x => x.1 == "strconv.ErrSyntax"); rw [zom] at h2; rw [znU] at h3; obtain ⟨a0, s0, v0, -⟩ := laid_sentinel (g := 4) (ti := 29) (tp := 313) (te := 315) (ts := 9) h2 (by kernel_rfl) (by kernel_rfl) Tryz.underlying29 znj Tryz.underlying313 Tryz.underlying315 rfl rfl Tryz.underlying9 zld zhZ; obtain ⟨a1, s1, v1, -⟩ := laid_sentinel (g := 3) (ti := 29) (tp := 313) (te := 315) (ts := 9) h3 (by kernel_rfl) (by kernel_rfl) Tryz.underlying29 znj Tryz.underlying313 Tryz.underlying315 rfl rfl Tryz.underlying9 zld zhZ; have c0 := World.var?_cell (show Tryz.prog.globalNamed "strconv.ErrRange" = some 4 by kernel_rfl) v0 0; have c1 := World.var?_cell (show Tryz.prog.globalNamed "strconv.ErrSyntax" = some 3 by kernel_rfl) v1 0; exact ⟨⟨_, _, c1⟩, _, _, c0⟩
theorem zoi {W:World} (h:W.ShapedOpen Tryz.prog):MaxP W :=
 cell_of_shapedOpen_int (P:=Tryz.prog) (g:=5) (t:=3) (zero:=#[.int .i64 0]) h (of_decide_eq_true (by kernel_rfl)) (by kernel_rfl) rfl (by kernel_rfl) (by kernel_rfl) Tryz.underlying3
theorem zj7 {W:World} (h:laidMetH Tryz.prog LST W) (hs:W.ShapedOpen Tryz.prog):Lib4 W:=⟨zit h,zoi hs,znK h,znG h⟩
theorem zrO : (LST1.filter fun x => x.1 == "strings.asciiSpace") = [("strings.asciiSpace", Rows.laid_strings_asciiSpace)] := by rfl
theorem zqP {W:World} (h:laidMetH Tryz.prog LST W):AscP W:=by
 have h1 := (laidMetH_iff.1 h).1; rw [zdT] at h1; have h2 := h1.filter (fun x => x.1 == "strings.asciiSpace"); rw [zrO] at h2; have e : (Rows.laid_strings_asciiSpace : DataW Unit) = Lib.tabData .u8 Lib.asciiSpaceTab := by kernel_rfl
 rw [e] at h2;exact Lib.tabIs_of_head (g:=0) (t:=145) (e:=5) (n:=256) (by kernel_rfl) (by kernel_rfl) Tryz.underlying145 Tryz.underlying5 (by kernel_rfl) (by kernel_rfl) h2
theorem zrD {W:World} (h:laidMetH Tryz.prog LST W):WhP W:=by
 have h1 := (laidMetH_iff.1 h).1; rw [zdT] at h1; have h2 := Lib.laidMet.reads h1 (n := "unicode.White_Space") (d := Rows.laid_unicode_White_Space) (by unfold LST1; simp); exact whiteTab_of_reads { Tryz.shFields with } ⟨by kernel_rfl, by kernel_rfl, by kernel_rfl, by kernel_rfl, by kernel_rfl, by kernel_rfl, by kernel_rfl, by kernel_rfl⟩ h2
end Go.Proofs.YtmcgnnmffeojpabGreatDoor
namespace Go.Proofs.YtmcgnnmffeojpabGreatDoor.engineLoads
open Go.ChangeShapes Go.WideShapes Go.ChangeAt Go.RowKit Go.Joins Go.Plan Go.Deep
theorem zg4:Tryz.prog.cellsOf 39 = 6:=by kernel_rfl
theorem ziQ {H:Type} {enc:TypeId × Value -> H} {w:World} {base:Nat} {spare:Nat -> Bool} {held:Bool} {fuel:Nat} {cs:List Value} {x:DataW H × List MemPlace} (h:DataW.trod enc Tryz.prog w base spare held fuel 39 cs = some x) :
 ∃ d:StX,cs = [.int .i64 d.what,.int .i64 d.side,.int .i64 d.n,.int .i64 d.r.k,.int .i64 d.r.t,.int .i64 d.r.v]:=by
 obtain ⟨xs,n,_,-,hl,hlen,hf⟩:=DataW.trod_struct Tryz.underlying39 h;rw [zg4] at hl;match cs,hl,xs,hlen with
 | [c0,c1,c2,c3,c4,c5],_,[y0,y1,y2,y3],_ =>
   obtain ⟨a,rfl,-⟩:=zba (c:=c0) (by simpa [zaP] using hf 0 _ rfl);obtain ⟨b,rfl,-⟩:=zba (c:=c1) (by simpa [zaP] using hf 1 _ rfl);obtain ⟨c,rfl,-⟩:=zba (c:=c2) (by simpa [zaP] using hf 2 _ rfl);obtain ⟨r,e,-⟩:=zkk (cs:=[c3,c4,c5]) (by simpa [zdH] using hf 3 _ rfl);refine ⟨⟨a,b,c,r⟩,?_⟩;rw [List.cons.injEq,List.cons.injEq,List.cons.injEq] at *
   simp_all
theorem contract {H:Type} {enc:TypeId × Value -> H} {W:World} {base:Nat} {held:Bool} {sp:Nat -> Bool} {r:Reach} {b0:Nat} {v0 v1:Value} {d0 d1:DataW H} {p0 p1:List MemPlace} (hg:laidMetH Tryz.prog LST W) (hs:W.ShapedOpen Tryz.prog)
 (hv0:Value.okWide Tryz.prog W r b0 9 v0) (_h0:DataW.Trod enc Tryz.prog W base sp held 9 v0 d0 p0)
 (hv1:Value.okWide Tryz.prog W r b0 22 v1) (h1:DataW.Trod enc Tryz.prog W base sp held 22 v1 d1 p1) :
 Calls Tryz.prog 3 #[v0,v1] W fun e w'=>e = .returned (.bool true) /\ Ext W w':=by
 obtain ⟨s,rfl⟩:=okWide_string Tryz.underlying9 hv0;obtain ⟨a,len,cap,rfl,-,-,h1⟩:=zjZ 6 (by omega) Tryz.underlying22 zg4 hv1 h1;rcases h1 with rfl | ⟨b,off,rfl,hc⟩
 . exact zpV s a cap [] W (zj7 hg hs) (zqP hg) (zrD hg) (.inl rfl)
 have hc':∀ k,k < len -> ∃ x:StX,zgX W b (off + k * 6) x:=fun k hk=>by
  obtain ⟨cs,n,y,hl,hcell,ht⟩:=hc k hk;obtain ⟨x,rfl⟩:=ziQ ht;exact ⟨x,⟨hcell 0 (by omega),hcell 1 (by omega),hcell 2 (by omega),hcell 3 (by omega),hcell 4 (by omega),hcell 5 (by omega)⟩⟩
 have:Inhabited StX:=⟨⟨0,0,0,⟨0,0,0⟩⟩⟩
 obtain ⟨f,hf⟩:=choose_lt hc';have e:len = ((List.range len).map f).length:=by simp
 have hh:=zpV s (some ⟨b,off,none⟩) cap ((List.range len).map f) W (zj7 hg hs) (zqP hg) (zrD hg) (.inr ⟨b,off,rfl,fun i hi=>by
  have hi':i < len:=by simpa using hi
  have e:((List.range len).map f)[i]'hi = f i:=by simp
  rw [e];exact hf i hi'⟩)
 rwa [<- e] at hh
theorem lifted (os:Os) (started:os.Started) (H:Type) (enc:TypeId × Value -> H) :
 ReturnsInHanded {} Tryz.checked os 3 .any (fun w args=>(Rows.engineLoadsSpec.pre enc Tryz.prog Tryz.f3 [] false w args /\ laidMetH Tryz.prog LST w) /\ sizedMet enc Tryz.prog Tryz.f3 (OpenSpec.ofChange Rows.engineLoadsSpec) false w args)
  (Rows.engineLoadsSpec.post enc Tryz.prog Tryz.f3 false true false false):=by
 refine zd0 (C:=Tryz.checked) (X:=fun w _=>laidMetH Tryz.prog LST w) (fun _ _ _ hh h=>h.of_heap hh) own started (by kernel_rfl) Tryz.func3
  (ChangeSpec.witness_shaped (enc:=enc) (C:=Tryz.checked) (os:=os) (X:=fun w _=>laidMetH Tryz.prog LST w) false (zdw os) #[.string ByteArray.empty,.slice none 0 0] 8 rfl
    (World.shaped_of_ZipB (by kernel_rfl) (by kernel_rfl)) (by kernel_rfl) (by kernel_rfl) (by kernel_rfl) (ze7 os _)) ?_
 intro W base args ds gs before hval0 hW _ _ hL hSh _;have hval:∀ (j:Nat) t v,Tryz.f3.params[j]? = some t -> args[j]? = some v -> Value.okWide Tryz.prog W .any base t v:=hval0;have hW':=hW;obtain ⟨p,q,hA0,hV,rfl,hfz,hnd⟩:=hW;have hA:DataW.TrodAll enc Tryz.prog W 0 (fun _=>true) true Tryz.f3.params.toList args.toList ds p:=hA0;have hg:=zit hL;rw [Tryz.params3] at hA hval;obtain ⟨v0,vs0,d0,ds0,p0,q0,hargs,rfl,rfl,h0,r0⟩:=trodAll_cons hA;obtain ⟨v1,vs1,d1,ds1,p1,q1,rfl,rfl,rfl,h1,r1⟩:=trodAll_cons r0;obtain ⟨rfl,rfl,rfl⟩:=trodAll_nil r1;obtain rfl:args = #[v0,v1]:=by cases args;simp_all
 obtain ⟨rfl,rfl⟩:=trodVars_none hV;have hlt:=hW'.lt;simp only [List.append_nil] at hW' hlt;refine (contract hL hSh (hval 0 9 v0 rfl rfl) h0 (hval 1 22 v1 rfl rfl) h1).mono fun e W' ⟨he,hx⟩=>?_;subst he;refine ⟨_,rfl,zmn (pv:=[]) hW' rfl hx rfl ?_ rfl⟩;have hk:=trodAll_cons_mk (zoG (by kernel_rfl) (of_decide_eq_true (by kernel_rfl)) h0 hx fun x h=>hlt x (by simp [h])) (trodAll_cons_mk (zoG (by kernel_rfl) (of_decide_eq_true (by kernel_rfl)) h1 hx fun x h=>hlt x (by simp [h])) (trodAll_mk0));simp only [List.append_nil] at hk ⊢;exact hk
theorem closed:joinedFacts Tryz.pinned.checked.prog 3 Tryz.f3 Rows.engineLoadsSpec Rows.engineLoadsRow = true:=by
 unfold joinedFacts;simp only [Bool.and_eq_true]
 repeat' apply And.intro
 all_goals as_aux_lemma=>kernel_rfl
theorem said:Rows.EngineLoadsSaid :=
 OpenClaim.holds_of_wide 3 Tryz.f3 rfl rfl rfl rfl rfl rfl rfl ⟨rfl,rfl,rfl,rfl,rfl⟩ rfl rfl rfl rfl rfl (by kernel_rfl) Tryz.func3 closed
  (of_decide_eq_true (by kernel_rfl)) (by unfold Func.isWrapper;rw [if_neg (of_decide_eq_false (by kernel_rfl))];exact ⟨rfl,rfl⟩)
  (fun os started H enc _=>lifted os started H enc)
theorem plainArgs (f : FuncId) (fn : Func) (hf : Tryz.pinned.checked.prog.funcNamed "estuary/estuarylaw.EngineLoads" = some f) (hfn : Tryz.pinned.checked.prog.funcs[f]? = some fn) :
 true = Tryz.pinned.checked.prog.looks [] /\ ∀ (j:Nat) t,fn.params[j]? = some t -> Tryz.pinned.checked.prog.wantsStandIn t = false:=by
 obtain rfl : f = 3 := Option.some.inj ((show Tryz.prog.funcNamed "estuary/estuarylaw.EngineLoads" = some 3 by kernel_rfl).symm.trans hf) |>.symm
 obtain rfl:fn = Tryz.f3:=(Option.some.inj (Tryz.func3.symm.trans hfn)).symm;refine ⟨by kernel_rfl,fun j t ht=>?_⟩;rw [Tryz.params3] at ht;have h2:t = 9 \/ t = 22:=by have h9:=Array.mem_of_getElem? ht;simp at h9;first | exact h9 | (rcases h9 with h | h | h <;> first | exact .inl h | exact .inr h)
 rcases h2 with rfl | rfl
 . exact (show Tryz.prog.wantsStandIn 9 = false by kernel_rfl)
 . exact (show Tryz.prog.wantsStandIn 22 = false by kernel_rfl)
theorem holds:Rows.EngineLoadsCardSaid :=
 Claim7.holds_tied_plain_at .later [] _ _ _ _ said (fun _ h=>by cases h) (by kernel_rfl) (fun _ h=>by cases h) engineLoads_row_tie rfl ⟨rfl,rfl⟩ (by kernel_rfl) rfl plainArgs (by kernel_rfl)
#print axioms holds
end Go.Proofs.YtmcgnnmffeojpabGreatDoor.engineLoads
