import Derived.Test.YtmcgnnmffeojpabGreatDoorPk30
import Derived.Test.YtmcgnnmffeojpabGreatDoorPk38
import Derived.Test.YtmcgnnmffeojpabGreatDoorPk44
import Derived.Deep.DeepCutAuto
import Derived.Deep.CutBlock
import Derived.Lib.Fields
import Derived.Lib.TrimAscii
set_option maxRecDepth 100000
set_option maxHeartbeats 8000000
namespace Go.Proofs.YtmcgnnmffeojpabGreatDoor
open Go.RowKit Go.Plan
def rchg (lo hi md:Int) (s:Nat) (r:Row) (rs:RSt) (Rl:List RHd):List (Out × Bool):=if feedE lo hi s r rs.x rs.y (rs.of s).length = 0 then chgs md s r ((Rl.map RHd.hd).filter (zab r.k (frI lo hi s r.t) (tilI lo hi s r.t))) else []
theorem RUp.lx {u u':World} {R U J:Nat} {r0 r1:Value} {lo hi md:Int} {rs:RSt} (hR:¬ zaO J r0 r1 R) (hU:¬ zaO J r0 r1 U) (h:RUp u u' J (zaO J r0 r1) lo hi md rs):Plan.ExtL R U u u':=ExtL.of_M hR hU h.1
theorem zgz (B:Nat) (v:Value) (l:List Out) (x:Out) (gg:Bool) (w:World) (h:RE w B v l) (hl:l.length < 1000000) :
 Calls Tryz.prog 37 #[.pointer (some ⟨B,1,none⟩),encC x gg] w fun e w'=>(∃ n:Int,e = .returned (.int .i64 n)) /\ REUp w w' B v (if gg then l.erase x else l ++ [x]):=by
 cases gg
 . exact (zgf B v l x w h hl).mono fun e w' hh=>⟨⟨_,hh.1⟩,hh.2⟩
 . exact (zgB B v l x w h hl).mono fun e w' hh=>⟨⟨_,hh.1⟩,hh.2.1⟩
theorem ziq (lo hi md:Int) (s:Nat) (r:Row) (rs:RSt) (Rl:List RHd) (hR:feedE lo hi s r rs.x rs.y (rs.of s).length = 0 -> Rl.length <= 300):(rchg lo hi md s r rs Rl).length <= 601:=by
 unfold rchg;split
 . next h0 =>
   rw [zbD,List.length_append];have h1:=zaK md s r ((Rl.map RHd.hd).filter (zab r.k (frI lo hi s r.t) (tilI lo hi s r.t)));have h2:((Rl.map RHd.hd).filter (zab r.k (frI lo hi s r.t) (tilI lo hi s r.t))).length <= 300:=Nat.le_trans (List.length_filter_le _ _) (by rw [List.length_map];exact hR h0);have h3:∀ b:Bool,(if b = true then [(zan s r,false)] else []:List (Out × Bool)).length <= 1:=fun b=>by cases b <;> simp
   have:=h3 (decide (((Rl.map RHd.hd).filter (zab r.k (frI lo hi s r.t) (tilI lo hi s r.t))).length = 0) && zai md s)
   omega
 . simp
theorem zmr {u:World} {R:Nat} {Cs:Nat -> Prop} {lo hi md:Int} {rs:RSt} {l:List Out} {f0 f1:Int} (h:REAt u R Cs lo hi md rs l f0 f1) (hp:zay lo hi) (hl0:rs.a.length <= 300) (hl1:rs.b.length <= 300) (hcm:0 <= rs.came /\ rs.came < 1000000) (hll:l.length < 900000) (k t v:Int) :
 Calls Tryz.prog 8 #[.pointer (some ⟨R,0,none⟩),.int .i64 0,.agg #[.int .i64 k,.int .i64 t,.int .i64 v]] u fun e u'=>∃ (vo:Value) (Rl:List RHd),e = .returned (.tuple #[vo,.int .i64 (feedE lo hi 0 ⟨k,t,v⟩ rs.x rs.y (rs.of 0).length)]) /\
  CRow u' u.heap.size vo (rchg lo hi md 0 ⟨k,t,v⟩ rs Rl) /\ (feedE lo hi 0 ⟨k,t,v⟩ rs.x rs.y (rs.of 0).length = 0 -> Rl.Perm (rs.of (1 - 0)) /\ Rl.Pairwise (fun a b=>¬ ltR b a)) /\
  RNUp u u' R Cs lo hi md (za4 lo hi 0 ⟨k,t,v⟩ rs) (zbd l (rchg lo hi md 0 ⟨k,t,v⟩ rs Rl)) (fedI (feedE lo hi 0 ⟨k,t,v⟩ rs.x rs.y (rs.of 0).length) f0) f1:=by
 obtain ⟨J,r0,r1,rv,hI,rfl⟩:=h;have hxb:Ext u (u.alloc (.cells #[.int .i64 k,.int .i64 t,.int .i64 v] 37)):=(ExtM.refl _).alloc _;have hfe:=fun w (hw:Ext (u.alloc (.cells #[.int .i64 k,.int .i64 t,.int .i64 v] 37)) w)=>zmC w J r0 r1 lo hi md rs k t v ((hI.ext (ExtM.trans _ _ _ hxb hw)).join) hp hl0 hl1 hcm;have b0:(u.alloc (.cells #[.int .i64 k,.int .i64 t,.int .i64 v] 37)).cell? ⟨u.heap.size,0,none⟩ = some (.int .i64 k):=by go_simp
 have b1:(u.alloc (.cells #[.int .i64 k,.int .i64 t,.int .i64 v] 37)).cell? ⟨u.heap.size,1,none⟩ = some (.int .i64 t):=by go_simp
 have b2:(u.alloc (.cells #[.int .i64 k,.int .i64 t,.int .i64 v] 37)).cell? ⟨u.heap.size,2,none⟩ = some (.int .i64 v):=by go_simp
 go_enter Tryz.func8,Tryz.ntmps8;go_upto_region 1 with fail;have hI1:=hI.ext hxb;generalize u.alloc (.cells #[.int .i64 k,.int .i64 t,.int .i64 v] 37) = w1 at *;generalize hU:u.heap.size = U at *;have HU:=Lib.hid hU;clear hU;have c0:=hI1.c0;have lR:=hI1.lt;have lU:=zac b0;have hnR:¬ zaO J r0 r1 R:=hI1.nR;simp only at lU;have hnU:¬ zaO J r0 r1 U:=fun e=>by have:=hI.join.foot U e;have:=HU.out;omega
 refine Plan.b0 (Plan.ExtL R U) 12 ?_;refine Plan.qs 6 [0,1,2,3,4,5] ?_;iterate 6 go_big_quiet_step (fail)
 refine Plan.o1 6 fun K hK=>?_;go_wp2_with (fail);refine (hfe _ (ExtM.refl _).drew).mono ?_;rintro e w2 ⟨vo,Rl,rfl,hrow,hRl,h2⟩;have H2:=ExtL.trans _ _ _ (ExtL.refl _).drew (RUp.lx hnR hnU h2);obtain ⟨hc2,hf2,-⟩:=ExtL.rules H2;have hs2_0:R < w2.heap.size:=by have:=H2.size;(try simp at this);omega
 have hs2_1:U < w2.heap.size:=by have:=H2.size;(try simp at this);omega
 go_wp2_with (fail);refine hK _ _ (RUp.lx hnR hnU h2) ?_;clear hK K;refine Plan.qs 5 [7,8,9,10,11] ?_;iterate 5 go_big_quiet_step (fail)
 refine Plan.dn ?_;have hcl:=ziq lo hi md 0 ⟨k,t,v⟩ rs Rl (fun q=>by rw [(hRl q).1.length_eq];unfold RSt.of;split <;> assumption);have hrow2:CRow w2 w1.drew.heap.size vo (rchg lo hi md 0 ⟨k,t,v⟩ rs Rl):=hrow;obtain ⟨hx2,r0',r1',hI2,hf2⟩:=(hI1.ext (ExtM.refl w1).drew).joined h2;have hRL:=Lib.hid hRl;clear hRl hrow h2 hfe b0 b1 b2 c0;generalize hcs:rchg lo hi md 0 ⟨k,t,v⟩ rs Rl = cs at *;have HCS:=Lib.hid hcs;generalize hrs:za4 lo hi 0 ⟨k,t,v⟩ rs = rs' at *;have HRS:=Lib.hid hrs;generalize hEe:feedE lo hi 0 ⟨k,t,v⟩ rs.x rs.y (rs.of 0).length = e at *;have HE:=Lib.hid hEe;clear hEe hcs hrs;have hvR:∀ q,vo.ownBlock = some q -> ¬ q = R:=fun q hq e=>by have:=(zaf hrow2 q hq).1;have:w1.drew.heap.size = w1.heap.size:=rfl;omega
 go_upto_region 2 with fail;go_cut [27] (fun s27 wx=>∃ b:Bool,s27 = .bool b /\ b = decide (e = 0 \/ e = 10) /\ w2 = wx)
 case first =>
  rcases (by omega:e = 0 \/ e = 10 \/ e ≠ 0 /\ e ≠ 10) with z0 | z0 | ⟨z0,z1⟩
  . subst z0;go_wp2_with fail;go_meet
    case rel=>exact ⟨true,rfl,rfl,rfl⟩
  . subst z0;go_wp2_with fail;go_meet
    case rel=>exact ⟨true,rfl,rfl,rfl⟩
  . have d0:(e == 0) = false:=by simp [z0]
    have d1:(e == 10) = false:=by simp [z1]
    go_wp2_with fail;go_meet
    case rel=>exact ⟨false,rfl,(decide_eq_false (by omega)).symm,rfl⟩
 case rest =>
  obtain ⟨b,rfl,hbd,rfl⟩:=hcut;go_upto_if 27 with fail;go_cut [] (fun wx=>ExtM (fun k=>k = R) w2 wx /\ REIs wx R J r0' r1' rv lo hi md rs' l (fedI e f0) f1)
  case first =>
   cases b with
   | true =>
     have hb:e = 0 \/ e = 10:=of_decide_eq_true hbd.symm;have hF:fedI e f0 = wrap64 (f0 + 1):=if_pos hb;have c7:=hI2.c2;have z7:=hI2.fz 2;clear hb hbd;go_upto_region 3 with fail;refine Plan.bT Plan.Ext [10] 11 ?_;refine Plan.qs 7 [0,1,2,3,4,5,6] ?_;iterate 7 go_big_quiet_step (fail)
     refine Plan.o1 7 fun K hK=>?_;go_wp2_with (fail);refine hK _ _ (ExtM.refl _) ?_;clear hK K;refine Plan.o1 8 fun K hK=>?_;go_wp2_with (fail);refine hK _ _ (ExtM.refl _) ?_;clear hK K;refine Plan.qs 1 [9] ?_;go_big_quiet_step (fail);refine Plan.ol 10 fun K hK=>?_;go_wp2_with (fail);refine Plan.dn ?_;obtain ⟨hI3,hxs⟩:=hI2.fed0 (wrap64 (f0 + 1));have HN:=Lib.hid (⟨ExtM.trans _ _ _ hxs ((show Ext _ _ from (ExtM.refl _).drew).mono (fun _ _ h=>h.elim)),hI3.ext (ExtM.refl _).drew⟩:ExtM (fun k=>k = R) w2 (w2.setCell ⟨R,2,none⟩ (.int .i64 (wrap64 (f0 + 1)))).drew /\ _);clear hxs hI3;go_wp2_with fail;go_meet
     case rel=>exact ⟨HN.out.1,by rw [hF];exact HN.out.2⟩
   | false =>
     have hb:¬ (e = 0 \/ e = 10):=of_decide_eq_false hbd.symm;have hF:fedI e f0 = f0:=if_neg hb;clear hb hbd;go_wp2_with fail;go_meet
     case rel=>exact ⟨ExtM.refl _,by rw [hF];exact hI2⟩
  case rest =>
   obtain ⟨hx4,hI4⟩:=hcut;have hrow4:CRow wc w1.drew.heap.size _ cs:=zag hrow2 hx4 hvR;have hvv:∀ q,rv.ownBlock = some q -> q < w1.heap.size:=fun q hq=>(zaf hI1.bag.row q hq).2;have hvw:∀ q,vo.ownBlock = some q -> w1.drew.heap.size <= q:=fun q hq=>(zaf hrow2 q hq).1;obtain ⟨p,cap,rfl,-⟩:=zaa hrow2;go_wp2_with fail;go_loopg [40] (cs.length + 1) (fun kx s40 wr=>∃ (i:Nat) (rv':Value),s40 = .int .i64 i /\ i <= cs.length /\ cs.length - i <= kx /\ ExtM (fun k=>k = R \/ rv.ownBlock = some k) wc wr /\ REIs wr R J r0' r1' rv' lo hi md rs' (zbd l (cs.take i)) (fedI e f0) f1 /\ ∀ q,rv'.ownBlock = some q -> rv.ownBlock = some q \/ wc.heap.size <= q)
   case atStart=>exact ⟨0,rv,rfl,by omega,by omega,ExtM.refl _,hI4,fun q hq=>.inl hq⟩
   case round =>
    obtain ⟨i,rv',rfl,hi,hgk,hxw,hIw,hrv⟩:=hrel;by_cases hil:i < cs.length
    . have hroww:CRow wr w1.drew.heap.size _ cs:=zag hrow4 hxw (fun q hq e=>by
       have:=hvw q hq
       have hsz:w1.drew.heap.size = w1.heap.size:=rfl;rcases e with e | e
       . omega
       . have:=hvv q e;omega)
      obtain ⟨g,rc,e1,hg,hc⟩:=zcd hroww i cs[i] (List.getElem?_eq_getElem hil);simp only [Value.slice.injEq,true_and] at e1;obtain ⟨rfl,rfl⟩:=e1;have hsn:=zdV l cs i hil;have hlr:(zbd l (cs.take i)).length < 1000000:=by
       have h1:=zdv (cs.take i) l;rw [List.length_take] at h1;omega
      have HSN:=Lib.hid hsn;clear hsn hroww;generalize cs[i] = c at *;obtain ⟨x,gg⟩:=c;have y0:=hc 0 _ rfl;have y1:=hc 1 _ rfl;have y2:=hc 2 _ rfl;have y3:=hc 3 _ rfl;have y4:=hc 4 _ rfl;have y5:=hc 5 _ rfl;have y6:=hc 6 _ rfl;have y7:=hc 7 _ rfl;have y8:=hc 8 _ rfl;have y9:=hc 9 _ rfl;simp only [Nat.add_zero] at y0 y1 y2 y3 y4 y5 y6 y7 y8 y9;clear hc;go_upto_region 7 with fail;have bx:=BoxC.mk' wr x gg 92;have hxa:Ext wr (wr.alloc (.cells #[.int .i64 x.key,.int .i64 x.l.k,.int .i64 x.l.t,.int .i64 x.l.v,.int .i64 x.r.k,.int .i64 x.r.t,.int .i64 x.r.v,.bool x.hl,.bool x.hr,.bool gg] 92)):=(ExtM.refl _).alloc _;have hIa:=hIw.ext hxa;have hxw2:ExtM (fun k=>k = R \/ rv.ownBlock = some k) wc (wr.alloc (.cells #[.int .i64 x.key,.int .i64 x.l.k,.int .i64 x.l.t,.int .i64 x.l.v,.int .i64 x.r.k,.int .i64 x.r.t,.int .i64 x.r.v,.bool x.hl,.bool x.hr,.bool gg] 92)):=ExtM.trans _ _ _ hxw (hxa.mono (fun _ _ h=>h.elim));clear y0 y1 y2 y3 y4 y5 y6 y7 y8 y9 hxa hIw hxw;generalize wr.alloc (.cells #[.int .i64 x.key,.int .i64 x.l.k,.int .i64 x.l.t,.int .i64 x.l.v,.int .i64 x.r.k,.int .i64 x.r.t,.int .i64 x.r.v,.bool x.hl,.bool x.hr,.bool gg] 92) = wb at *;generalize wr.heap.size = n at *;have hlR:=hIa.lt;have hln:n < wb.heap.size:=zac bx.e0;obtain ⟨e0,e1,e2,e3,e4,e5,e6,e7,e8,e9⟩:=id bx;refine Plan.bT Plan.Ext [4] 5 ?_;refine Plan.qs 1 [3] ?_;go_big_quiet_step (fail);refine Plan.o1 0 fun K hK=>?_;go_wp2_with (fail);refine hK _ _ (ExtM.refl _) ?_;clear hK K;refine Plan.o1 1 fun K hK=>?_;go_wp2_with (fail);refine hK _ _ (ExtM.refl _) ?_;clear hK K;refine Plan.qs 1 [2] ?_;go_big_quiet_step (fail);refine Plan.ol 4 fun K hK=>?_;go_wp2_with (fail);refine (zgz R rv' _ x gg _ (hIa.ext (ExtM.refl _).drew).bag hlr).mono ?_;rintro e wd ⟨⟨m,rfl⟩,hud⟩;go_wp2_with (fail);refine Plan.dn ?_;obtain ⟨hxd,rv2,hId,hrd⟩:=(hIa.ext (ExtM.refl wb).drew).bagged hud;rw [<- HSN.out] at hId;have HID:=Lib.hid hId;clear hId hud e0 e1 e2 e3 e4 e5 e6 e7 e8 e9;go_wp2_with fail;go_roundg (cs.length - (i + 1))
      case measure=>omega
      case rel =>
       have hs1:=hxw2.size;have hs2:wb.drew.heap.size = wb.heap.size:=rfl;refine ⟨i + 1,rv2,by go_num,by omega,Nat.le_refl _,(ExtM.trans _ _ _ hxw2 ((show Ext wb wb.drew from (ExtM.refl wb).drew).mono (fun _ _ h=>h.elim))).fresh' hxd (fun q hq e=>?_),HID.out,fun q hq=>?_⟩
       . rcases e with e | e
         . exact .inl e
         . exact (hrv q e).elim .inr (fun e=>by omega)
       . rcases hrd q hq with e | e
         . exact hrv q e
         . exact .inr (by omega)
    . obtain rfl:i = cs.length:=by omega
      have hz:decide (cs.length < cs.length) = false:=by simp
      have hz2:decide ((cs.length:Int) < cs.length) = false:=by simp
      go_wp2_with fail;go_ret2;refine ⟨.slice p cs.length cap,Rl,?_⟩;rw [HCS.out,HE.out,HRS.out];rw [List.take_length] at hIw;have hA:ExtM (zdU R J r0 r1 rv) u w1.drew:=(ExtM.trans _ _ _ hxb (show Ext w1 w1.drew from (ExtM.refl w1).drew)).mono (fun _ _ h=>h.elim);have hCx:=ExtM.trans _ _ _ (ExtM.trans _ _ _ hA (hx2.mono (fun _ _ h=>.inr (.inr h)))) (hx4.mono (fun _ _ h=>.inl h));refine ⟨rfl,zak (zag hrow4 hxw (fun q hq e=>?_)) hA.size,hRL.out,ExtM.trans _ _ _ hCx (hxw.mono (fun _ _ h=>h.elim .inl (fun h=>.inr (.inl h)))),_,⟨J,r0',r1',rv',hIw,rfl⟩,fun q hq=>?_⟩
      . have:=hvw q hq
        have hsz:w1.drew.heap.size = w1.heap.size:=rfl;rcases e with e | e
        . omega
        . have:=hvv q e;omega
      . rcases hq with e | e | e
        . exact .inl (.inl e)
        . exact (hrv q e).elim (fun e=>.inl (.inr (.inl e))) (fun e=>.inr (Nat.le_trans hCx.size e))
        . exact (hf2 q e).elim (fun e=>.inl (.inr (.inr e))) (fun e=>.inr (Nat.le_trans hA.size e))
theorem zmJ {u:World} {R:Nat} {Cs:Nat -> Prop} {lo hi md:Int} {rs:RSt} {l:List Out} {f0 f1:Int} (h:REAt u R Cs lo hi md rs l f0 f1) (hp:zay lo hi) (hl0:rs.a.length <= 300) (hl1:rs.b.length <= 300) (hcm:0 <= rs.came /\ rs.came < 1000000) (hll:l.length < 900000) (k t v:Int) :
 Calls Tryz.prog 8 #[.pointer (some ⟨R,0,none⟩),.int .i64 1,.agg #[.int .i64 k,.int .i64 t,.int .i64 v]] u fun e u'=>∃ (vo:Value) (Rl:List RHd),e = .returned (.tuple #[vo,.int .i64 (feedE lo hi 1 ⟨k,t,v⟩ rs.x rs.y (rs.of 1).length)]) /\
  CRow u' u.heap.size vo (rchg lo hi md 1 ⟨k,t,v⟩ rs Rl) /\ (feedE lo hi 1 ⟨k,t,v⟩ rs.x rs.y (rs.of 1).length = 0 -> Rl.Perm (rs.of (1 - 1)) /\ Rl.Pairwise (fun a b=>¬ ltR b a)) /\
  RNUp u u' R Cs lo hi md (za4 lo hi 1 ⟨k,t,v⟩ rs) (zbd l (rchg lo hi md 1 ⟨k,t,v⟩ rs Rl)) f0 (fedI (feedE lo hi 1 ⟨k,t,v⟩ rs.x rs.y (rs.of 1).length) f1):=by
 obtain ⟨J,r0,r1,rv,hI,rfl⟩:=h;have hxb:Ext u (u.alloc (.cells #[.int .i64 k,.int .i64 t,.int .i64 v] 37)):=(ExtM.refl _).alloc _;have hfe:=fun w (hw:Ext (u.alloc (.cells #[.int .i64 k,.int .i64 t,.int .i64 v] 37)) w)=>zlN w J r0 r1 lo hi md rs k t v ((hI.ext (ExtM.trans _ _ _ hxb hw)).join) hp hl0 hl1 hcm;have b0:(u.alloc (.cells #[.int .i64 k,.int .i64 t,.int .i64 v] 37)).cell? ⟨u.heap.size,0,none⟩ = some (.int .i64 k):=by go_simp
 have b1:(u.alloc (.cells #[.int .i64 k,.int .i64 t,.int .i64 v] 37)).cell? ⟨u.heap.size,1,none⟩ = some (.int .i64 t):=by go_simp
 have b2:(u.alloc (.cells #[.int .i64 k,.int .i64 t,.int .i64 v] 37)).cell? ⟨u.heap.size,2,none⟩ = some (.int .i64 v):=by go_simp
 go_enter Tryz.func8,Tryz.ntmps8;go_upto_region 1 with fail;have hI1:=hI.ext hxb;generalize u.alloc (.cells #[.int .i64 k,.int .i64 t,.int .i64 v] 37) = w1 at *;generalize hU:u.heap.size = U at *;have HU:=Lib.hid hU;clear hU;have c0:=hI1.c0;have lR:=hI1.lt;have lU:=zac b0;have hnR:¬ zaO J r0 r1 R:=hI1.nR;simp only at lU;have hnU:¬ zaO J r0 r1 U:=fun e=>by have:=hI.join.foot U e;have:=HU.out;omega
 refine Plan.b0 (Plan.ExtL R U) 12 ?_;refine Plan.qs 6 [0,1,2,3,4,5] ?_;iterate 6 go_big_quiet_step (fail)
 refine Plan.o1 6 fun K hK=>?_;go_wp2_with (fail);refine (hfe _ (ExtM.refl _).drew).mono ?_;rintro e w2 ⟨vo,Rl,rfl,hrow,hRl,h2⟩;have H2:=ExtL.trans _ _ _ (ExtL.refl _).drew (RUp.lx hnR hnU h2);obtain ⟨hc2,hf2,-⟩:=ExtL.rules H2;have hs2_0:R < w2.heap.size:=by have:=H2.size;(try simp at this);omega
 have hs2_1:U < w2.heap.size:=by have:=H2.size;(try simp at this);omega
 go_wp2_with (fail);refine hK _ _ (RUp.lx hnR hnU h2) ?_;clear hK K;refine Plan.qs 5 [7,8,9,10,11] ?_;iterate 5 go_big_quiet_step (fail)
 refine Plan.dn ?_;have hcl:=ziq lo hi md 1 ⟨k,t,v⟩ rs Rl (fun q=>by rw [(hRl q).1.length_eq];unfold RSt.of;split <;> assumption);have hrow2:CRow w2 w1.drew.heap.size vo (rchg lo hi md 1 ⟨k,t,v⟩ rs Rl):=hrow;obtain ⟨hx2,r0',r1',hI2,hf2⟩:=(hI1.ext (ExtM.refl w1).drew).joined h2;have hRL:=Lib.hid hRl;clear hRl hrow h2 hfe b0 b1 b2 c0;generalize hcs:rchg lo hi md 1 ⟨k,t,v⟩ rs Rl = cs at *;have HCS:=Lib.hid hcs;generalize hrs:za4 lo hi 1 ⟨k,t,v⟩ rs = rs' at *;have HRS:=Lib.hid hrs;generalize hEe:feedE lo hi 1 ⟨k,t,v⟩ rs.x rs.y (rs.of 1).length = e at *;have HE:=Lib.hid hEe;clear hEe hcs hrs;have hvR:∀ q,vo.ownBlock = some q -> ¬ q = R:=fun q hq e=>by have:=(zaf hrow2 q hq).1;have:w1.drew.heap.size = w1.heap.size:=rfl;omega
 go_upto_region 2 with fail;go_cut [27] (fun s27 wx=>∃ b:Bool,s27 = .bool b /\ b = decide (e = 0 \/ e = 10) /\ w2 = wx)
 case first =>
  rcases (by omega:e = 0 \/ e = 10 \/ e ≠ 0 /\ e ≠ 10) with z0 | z0 | ⟨z0,z1⟩
  . subst z0;go_wp2_with fail;go_meet
    case rel=>exact ⟨true,rfl,rfl,rfl⟩
  . subst z0;go_wp2_with fail;go_meet
    case rel=>exact ⟨true,rfl,rfl,rfl⟩
  . have d0:(e == 0) = false:=by simp [z0]
    have d1:(e == 10) = false:=by simp [z1]
    go_wp2_with fail;go_meet
    case rel=>exact ⟨false,rfl,(decide_eq_false (by omega)).symm,rfl⟩
 case rest =>
  obtain ⟨b,rfl,hbd,rfl⟩:=hcut;go_upto_if 27 with fail;go_cut [] (fun wx=>ExtM (fun k=>k = R) w2 wx /\ REIs wx R J r0' r1' rv lo hi md rs' l f0 (fedI e f1))
  case first =>
   cases b with
   | true =>
     have hb:e = 0 \/ e = 10:=of_decide_eq_true hbd.symm;have hF:fedI e f1 = wrap64 (f1 + 1):=if_pos hb;have c7:=hI2.c3;have z7:=hI2.fz 3;clear hb hbd;go_upto_region 3 with fail;refine Plan.bT Plan.Ext [10] 11 ?_;refine Plan.qs 7 [0,1,2,3,4,5,6] ?_;iterate 7 go_big_quiet_step (fail)
     refine Plan.o1 7 fun K hK=>?_;go_wp2_with (fail);refine hK _ _ (ExtM.refl _) ?_;clear hK K;refine Plan.o1 8 fun K hK=>?_;go_wp2_with (fail);refine hK _ _ (ExtM.refl _) ?_;clear hK K;refine Plan.qs 1 [9] ?_;go_big_quiet_step (fail);refine Plan.ol 10 fun K hK=>?_;go_wp2_with (fail);refine Plan.dn ?_;obtain ⟨hI3,hxs⟩:=hI2.fed1 (wrap64 (f1 + 1));have HN:=Lib.hid (⟨ExtM.trans _ _ _ hxs ((show Ext _ _ from (ExtM.refl _).drew).mono (fun _ _ h=>h.elim)),hI3.ext (ExtM.refl _).drew⟩:ExtM (fun k=>k = R) w2 (w2.setCell ⟨R,3,none⟩ (.int .i64 (wrap64 (f1 + 1)))).drew /\ _);clear hxs hI3;go_wp2_with fail;go_meet
     case rel=>exact ⟨HN.out.1,by rw [hF];exact HN.out.2⟩
   | false =>
     have hb:¬ (e = 0 \/ e = 10):=of_decide_eq_false hbd.symm;have hF:fedI e f1 = f1:=if_neg hb;clear hb hbd;go_wp2_with fail;go_meet
     case rel=>exact ⟨ExtM.refl _,by rw [hF];exact hI2⟩
  case rest =>
   obtain ⟨hx4,hI4⟩:=hcut;have hrow4:CRow wc w1.drew.heap.size _ cs:=zag hrow2 hx4 hvR;have hvv:∀ q,rv.ownBlock = some q -> q < w1.heap.size:=fun q hq=>(zaf hI1.bag.row q hq).2;have hvw:∀ q,vo.ownBlock = some q -> w1.drew.heap.size <= q:=fun q hq=>(zaf hrow2 q hq).1;obtain ⟨p,cap,rfl,-⟩:=zaa hrow2;go_wp2_with fail;go_loopg [40] (cs.length + 1) (fun kx s40 wr=>∃ (i:Nat) (rv':Value),s40 = .int .i64 i /\ i <= cs.length /\ cs.length - i <= kx /\ ExtM (fun k=>k = R \/ rv.ownBlock = some k) wc wr /\ REIs wr R J r0' r1' rv' lo hi md rs' (zbd l (cs.take i)) f0 (fedI e f1) /\ ∀ q,rv'.ownBlock = some q -> rv.ownBlock = some q \/ wc.heap.size <= q)
   case atStart=>exact ⟨0,rv,rfl,by omega,by omega,ExtM.refl _,hI4,fun q hq=>.inl hq⟩
   case round =>
    obtain ⟨i,rv',rfl,hi,hgk,hxw,hIw,hrv⟩:=hrel;by_cases hil:i < cs.length
    . have hroww:CRow wr w1.drew.heap.size _ cs:=zag hrow4 hxw (fun q hq e=>by
       have:=hvw q hq
       have hsz:w1.drew.heap.size = w1.heap.size:=rfl;rcases e with e | e
       . omega
       . have:=hvv q e;omega)
      obtain ⟨g,rc,e1,hg,hc⟩:=zcd hroww i cs[i] (List.getElem?_eq_getElem hil);simp only [Value.slice.injEq,true_and] at e1;obtain ⟨rfl,rfl⟩:=e1;have hsn:=zdV l cs i hil;have hlr:(zbd l (cs.take i)).length < 1000000:=by
       have h1:=zdv (cs.take i) l;rw [List.length_take] at h1;omega
      have HSN:=Lib.hid hsn;clear hsn hroww;generalize cs[i] = c at *;obtain ⟨x,gg⟩:=c;have y0:=hc 0 _ rfl;have y1:=hc 1 _ rfl;have y2:=hc 2 _ rfl;have y3:=hc 3 _ rfl;have y4:=hc 4 _ rfl;have y5:=hc 5 _ rfl;have y6:=hc 6 _ rfl;have y7:=hc 7 _ rfl;have y8:=hc 8 _ rfl;have y9:=hc 9 _ rfl;simp only [Nat.add_zero] at y0 y1 y2 y3 y4 y5 y6 y7 y8 y9;clear hc;go_upto_region 7 with fail;have bx:=BoxC.mk' wr x gg 92;have hxa:Ext wr (wr.alloc (.cells #[.int .i64 x.key,.int .i64 x.l.k,.int .i64 x.l.t,.int .i64 x.l.v,.int .i64 x.r.k,.int .i64 x.r.t,.int .i64 x.r.v,.bool x.hl,.bool x.hr,.bool gg] 92)):=(ExtM.refl _).alloc _;have hIa:=hIw.ext hxa;have hxw2:ExtM (fun k=>k = R \/ rv.ownBlock = some k) wc (wr.alloc (.cells #[.int .i64 x.key,.int .i64 x.l.k,.int .i64 x.l.t,.int .i64 x.l.v,.int .i64 x.r.k,.int .i64 x.r.t,.int .i64 x.r.v,.bool x.hl,.bool x.hr,.bool gg] 92)):=ExtM.trans _ _ _ hxw (hxa.mono (fun _ _ h=>h.elim));clear y0 y1 y2 y3 y4 y5 y6 y7 y8 y9 hxa hIw hxw;generalize wr.alloc (.cells #[.int .i64 x.key,.int .i64 x.l.k,.int .i64 x.l.t,.int .i64 x.l.v,.int .i64 x.r.k,.int .i64 x.r.t,.int .i64 x.r.v,.bool x.hl,.bool x.hr,.bool gg] 92) = wb at *;generalize wr.heap.size = n at *;have hlR:=hIa.lt;have hln:n < wb.heap.size:=zac bx.e0;obtain ⟨e0,e1,e2,e3,e4,e5,e6,e7,e8,e9⟩:=id bx;refine Plan.bT Plan.Ext [4] 5 ?_;refine Plan.qs 1 [3] ?_;go_big_quiet_step (fail);refine Plan.o1 0 fun K hK=>?_;go_wp2_with (fail);refine hK _ _ (ExtM.refl _) ?_;clear hK K;refine Plan.o1 1 fun K hK=>?_;go_wp2_with (fail);refine hK _ _ (ExtM.refl _) ?_;clear hK K;refine Plan.qs 1 [2] ?_;go_big_quiet_step (fail);refine Plan.ol 4 fun K hK=>?_;go_wp2_with (fail);refine (zgz R rv' _ x gg _ (hIa.ext (ExtM.refl _).drew).bag hlr).mono ?_;rintro e wd ⟨⟨m,rfl⟩,hud⟩;go_wp2_with (fail);refine Plan.dn ?_;obtain ⟨hxd,rv2,hId,hrd⟩:=(hIa.ext (ExtM.refl wb).drew).bagged hud;rw [<- HSN.out] at hId;have HID:=Lib.hid hId;clear hId hud e0 e1 e2 e3 e4 e5 e6 e7 e8 e9;go_wp2_with fail;go_roundg (cs.length - (i + 1))
      case measure=>omega
      case rel =>
       have hs1:=hxw2.size;have hs2:wb.drew.heap.size = wb.heap.size:=rfl;refine ⟨i + 1,rv2,by go_num,by omega,Nat.le_refl _,(ExtM.trans _ _ _ hxw2 ((show Ext wb wb.drew from (ExtM.refl wb).drew).mono (fun _ _ h=>h.elim))).fresh' hxd (fun q hq e=>?_),HID.out,fun q hq=>?_⟩
       . rcases e with e | e
         . exact .inl e
         . exact (hrv q e).elim .inr (fun e=>by omega)
       . rcases hrd q hq with e | e
         . exact hrv q e
         . exact .inr (by omega)
    . obtain rfl:i = cs.length:=by omega
      have hz:decide (cs.length < cs.length) = false:=by simp
      have hz2:decide ((cs.length:Int) < cs.length) = false:=by simp
      go_wp2_with fail;go_ret2;refine ⟨.slice p cs.length cap,Rl,?_⟩;rw [HCS.out,HE.out,HRS.out];rw [List.take_length] at hIw;have hA:ExtM (zdU R J r0 r1 rv) u w1.drew:=(ExtM.trans _ _ _ hxb (show Ext w1 w1.drew from (ExtM.refl w1).drew)).mono (fun _ _ h=>h.elim);have hCx:=ExtM.trans _ _ _ (ExtM.trans _ _ _ hA (hx2.mono (fun _ _ h=>.inr (.inr h)))) (hx4.mono (fun _ _ h=>.inl h));refine ⟨rfl,zak (zag hrow4 hxw (fun q hq e=>?_)) hA.size,hRL.out,ExtM.trans _ _ _ hCx (hxw.mono (fun _ _ h=>h.elim .inl (fun h=>.inr (.inl h)))),_,⟨J,r0',r1',rv',hIw,rfl⟩,fun q hq=>?_⟩
      . have:=hvw q hq
        have hsz:w1.drew.heap.size = w1.heap.size:=rfl;rcases e with e | e
        . omega
        . have:=hvv q e;omega
      . rcases hq with e | e | e
        . exact .inl (.inl e)
        . exact (hrv q e).elim (fun e=>.inl (.inr (.inl e))) (fun e=>.inr (Nat.le_trans hCx.size e))
        . exact (hf2 q e).elim (fun e=>.inl (.inr (.inr e))) (fun e=>.inr (Nat.le_trans hA.size e))
theorem zmq {u:World} {R:Nat} {Cs:Nat -> Prop} {lo hi md:Int} {rs:RSt} {l:List Out} {f0 f1:Int} (h:REAt u R Cs lo hi md rs l f0 f1) (s k t v:Int) (hs:s ≠ 0 /\ s ≠ 1) :
 Calls Tryz.prog 8 #[.pointer (some ⟨R,0,none⟩),.int .i64 s,.agg #[.int .i64 k,.int .i64 t,.int .i64 v]] u fun e u'=>e = .returned (.tuple #[.slice none 0 0,.int .i64 1]) /\ Ext u u':=by
 obtain ⟨J,r0,r1,rv,hI,rfl⟩:=h;have hfe:=fun w=>zmt J s k t v w hs;have hxb:Ext u (u.alloc (.cells #[.int .i64 k,.int .i64 t,.int .i64 v] 37)):=(ExtM.refl _).alloc _;have b0:(u.alloc (.cells #[.int .i64 k,.int .i64 t,.int .i64 v] 37)).cell? ⟨u.heap.size,0,none⟩ = some (.int .i64 k):=by go_simp
 have b1:(u.alloc (.cells #[.int .i64 k,.int .i64 t,.int .i64 v] 37)).cell? ⟨u.heap.size,1,none⟩ = some (.int .i64 t):=by go_simp
 have b2:(u.alloc (.cells #[.int .i64 k,.int .i64 t,.int .i64 v] 37)).cell? ⟨u.heap.size,2,none⟩ = some (.int .i64 v):=by go_simp
 go_enter Tryz.func8,Tryz.ntmps8;go_upto_region 1 with fail;have hI1:=hI.ext hxb;generalize u.alloc (.cells #[.int .i64 k,.int .i64 t,.int .i64 v] 37) = w1 at *;generalize hU:u.heap.size = U at *;clear hU;have c0:=hI1.c0;have lR:=hI1.lt;have lU:=zac b0;simp only at lU;refine Plan.b0 Plan.Ext 12 ?_;refine Plan.qs 6 [0,1,2,3,4,5] ?_;iterate 6 go_big_quiet_step (fail)
 refine Plan.o1 6 fun K hK=>?_;go_wp2_with (fail);refine (hfe _).mono ?_;rintro e w2 ⟨rfl,h2⟩;have H2:=ExtM.trans _ _ _ (ExtM.refl _).drew h2;obtain ⟨hc2,hf2,-⟩:=Ext.rules H2;have hs2_0:R < w2.heap.size:=by have:=H2.size;(try simp at this);omega
 have hs2_1:U < w2.heap.size:=by have:=H2.size;(try simp at this);omega
 go_wp2_with (fail);refine hK _ _ h2 ?_;clear hK K;refine Plan.qs 5 [7,8,9,10,11] ?_;iterate 5 go_big_quiet_step (fail)
 refine Plan.dn ?_;have hx:=ExtM.trans _ _ _ hxb H2;clear hfe hI hI1 b0 b1 b2 c0 hc2 hf2 h2 H2 hxb;go_wp2_with fail;go_loopg [40] 1 (fun _kx s40 wr=>s40 = .int .i64 0 /\ wr = w2)
 case atStart=>exact ⟨rfl,rfl⟩
 case round =>
  obtain ⟨rfl,rfl⟩:=hrel;go_wp2_with fail;go_ret2;exact ⟨rfl,hx⟩
theorem zph (lo hi md:Int) (u:World) (h:checkI lo hi md = 0) :
 Calls Tryz.prog 12 #[.agg #[.int .i64 lo,.int .i64 hi,.int .i64 md]] u fun e u'=>∃ R Cs,e = .returned (.tuple #[.pointer (some ⟨R,0,none⟩),.int .i64 0]) /\ Ext u u' /\
  REAt u' R Cs lo hi md ⟨[],[],-1099511627777,-1099511627777,0,0⟩ [] 0 0 /\ ∀ k,Cs k -> u.heap.size <= k:=by
 have hck:=fun w=>ziG lo hi md w;rw [h] at hck;have hxb:Ext u (u.alloc (.cells #[.int .i64 lo,.int .i64 hi,.int .i64 md] 45)):=(ExtM.refl _).alloc _;have b0:(u.alloc (.cells #[.int .i64 lo,.int .i64 hi,.int .i64 md] 45)).cell? ⟨u.heap.size,0,none⟩ = some (.int .i64 lo):=by go_simp
 have b1:(u.alloc (.cells #[.int .i64 lo,.int .i64 hi,.int .i64 md] 45)).cell? ⟨u.heap.size,1,none⟩ = some (.int .i64 hi):=by go_simp
 have b2:(u.alloc (.cells #[.int .i64 lo,.int .i64 hi,.int .i64 md] 45)).cell? ⟨u.heap.size,2,none⟩ = some (.int .i64 md):=by go_simp
 go_enter Tryz.func12,Tryz.ntmps12;go_upto_region 1 with fail;generalize u.alloc (.cells #[.int .i64 lo,.int .i64 hi,.int .i64 md] 45) = w1 at *;generalize hU:u.heap.size = U at *;have HU:=Lib.hid hU;clear hU;have lU:=zac b0;go_upto_region 4 with (go_at_call 47;refine (hck _).mono ?_;rintro e w2 ⟨rfl,hx2⟩)
 have k:=fun o=>hx2.cell (p:=⟨U,o,none⟩) lU (fun h=>h);have c0:=(k 0).trans b0;have c1:=(k 1).trans b1;have c2:=(k 2).trans b2;clear k b0 b1 b2 hck;go_wp2_with (go_at_call 48;refine (zkH _ _ _ _).mono ?_;rintro e w3 ⟨rfl,hN⟩);go_ret2;have hj:RIs w3 (w2.heap.size + 1) (.slice none 0 0) (.slice none 0 0) lo hi md ⟨[],[],-1099511627777,-1099511627777,0,0⟩ :=
  ⟨hN.c0,hN.c1,hN.c2,hN.rj 0 (by omega),hN.rj 1 (by omega),hN.c5,hN.c6,hN.c7,fun k hk=>by cases hk⟩
 have hl:=hj.foot _ (.inl rfl);have hx3:Ext u w3:=ExtM.trans _ _ _ (ExtM.trans _ _ _ hxb hx2) hN.ext;have hs2:u.heap.size <= w2.heap.size:=(ExtM.trans _ _ _ hxb hx2).size;refine ⟨w3.heap.size,_,rfl,hx3.alloc _,⟨w2.heap.size + 1,.slice none 0 0,.slice none 0 0,.slice none 0 0,⟨by go_simp,⟨by go_simp,by go_simp,⟨by simp,.inl ⟨rfl,rfl⟩⟩,by simp [Value.ownBlock]⟩,by go_simp,by go_simp,fun q=>by go_simp,hj.ext ((ExtM.refl _).alloc _),fun e=>?_,fun k hk=>by cases hk⟩,rfl⟩,fun k hk=>?_⟩
 . rcases e with e | e | e
   . omega
   . cases e
   . cases e
 . have:=hx3.size
   rcases hk with e | e | e | e | e
   . omega
   . cases e
   . omega
   . cases e
   . cases e
section
variable {lo hi md:Int} {st:JSt} {V:List Out} {f0 f1:Int} {rs:RSt} {l:List Out} {n:Nat}
end
structure EX (w u:World) (E R:Nat) (lo hi md:Int) (Av Bs Cs:Nat -> Prop) (st:JSt) (V:List Out) (f0 f1:Int) (rs:RSt) (l:List Out) (g0 g1:Int):Prop where
 ext:Ext w u
 e:EAt u E Bs lo hi md st V V f0 f1
 r:REAt u R Cs lo hi md rs l g0 g1
 nB:∀ k,Bs k -> w.heap.size <= k /\ ¬ Cs k /\ ¬ Av k
 nC:∀ k,Cs k -> w.heap.size <= k /\ ¬ Av k
 av:∀ b,Av b -> b < u.heap.size
section
variable {w u u':World} {E R:Nat} {lo hi md:Int} {Av Bs Cs:Nat -> Prop} {st:JSt} {V:List Out} {f0 f1:Int} {rs:RSt} {l:List Out} {g0 g1:Int}
theorem EX.of (h:EX w u E R lo hi md Av Bs Cs st V f0 f1 rs l g0 g1) (hx:Ext u u'):EX w u' E R lo hi md Av Bs Cs st V f0 f1 rs l g0 g1 :=
 ⟨ExtM.trans _ _ _ h.ext hx,h.e.ext hx,h.r.ext hx,h.nB,h.nC,fun b hb=>Nat.lt_of_lt_of_le (h.av b hb) hx.size⟩
variable {n:Nat}
end
structure LSt where
 e:ESt
 rs:RSt
 l:List Out
def LSt.new (lo hi md:Int):LSt:=⟨⟨lo,hi,md,⟨[],[],-1099511627777,-1099511627777,0⟩,[],0,0⟩,⟨[],[],-1099511627777,-1099511627777,0,0⟩,[]⟩
def nAt (ns:List Int) (i:Nat):Int:=ns.getD i 0
def zpQ (s:Int) (r:Row):Out:=zan (if s = 0 then 0 else 1) r
def outO (ns:List Int):Out:=if nAt ns 0 = 3 then zbs ⟨nAt ns 1,nAt ns 2,nAt ns 3⟩ ⟨nAt ns 4,nAt ns 5,nAt ns 6⟩ else zpQ (nAt ns 0 - 1) ⟨nAt ns 1,nAt ns 2,nAt ns 3⟩
def zpK (ns:List Int):Bool:=(decide (nAt ns 0 = 3) && (decide (nAt ns 1 ≠ nAt ns 4) || !za3 (nAt ns 4) (nAt ns 5) (nAt ns 6))) || !za3 (nAt ns 1) (nAt ns 2) (nAt ns 3)
def zpH (nm:List UInt8) (ns:List Int) (x:LSt):Option LSt :=
 if nm = wFed then some { x with e:={ x.e with f0:=max 0 (nAt ns 0),f1:=max 0 (nAt ns 1),st:={ x.e.st with late:=max 0 (nAt ns 2) } },rs:={ x.rs with late:=max 0 (nAt ns 2) } }
 else if nm = zbW then some { x with e:={ x.e with st:=mvJ x.e.lo x.e.hi 1 (nAt ns 1) (mvJ x.e.lo x.e.hi 0 (nAt ns 0) x.e.st) },rs:=mvR x.e.lo x.e.hi 1 (nAt ns 1) (mvR x.e.lo x.e.hi 0 (nAt ns 0) x.rs) }
 else if nm = wRow then some { x with e:={ x.e with st:=zqp (nAt ns 0) ⟨⟨nAt ns 1,nAt ns 2,nAt ns 3⟩,nAt ns 4⟩ x.e.st },rs:=zqH (nAt ns 0) ⟨⟨nAt ns 1,nAt ns 2,nAt ns 3⟩,nAt ns 4⟩ x.rs }
 else if nm = wOut then (if zpK ns = true then none else some { x with e:={ x.e with V:=outO ns :: x.e.V },l:=x.l ++ [outO ns] })
 else some x
def zpL (nm:List UInt8) (ns:List Int) (x:Option LSt):Option (Option LSt) :=
 if nm = zc2 then (if checkI (nAt ns 0) (nAt ns 1) (nAt ns 2) = 0 then some (some (LSt.new (nAt ns 0) (nAt ns 1) (nAt ns 2))) else none)
 else match x with
  | none=>none
  | some x=>(zpH nm ns x).map some
structure LOk (x:LSt) (n:Nat):Prop where
 g:zce x.e.st x.rs n
 p:x.l.Perm x.e.V
 ok:EOk x.e
 lv:x.e.V.length <= n
theorem EOk.new {lo hi md:Int} (h:checkI lo hi md = 0):EOk ⟨lo,hi,md,⟨[],[],-1099511627777,-1099511627777,0⟩,[],0,0⟩ :=
 ⟨h,by dsimp only;decide,by dsimp only;decide,by dsimp only;decide,by dsimp only;decide,by dsimp only;decide,by dsimp only;decide,by dsimp only;decide,by dsimp only;decide,(fun _ h=>nomatch h),(fun _ h=>nomatch h),List.Pairwise.nil,List.Pairwise.nil,by dsimp only;decide,by dsimp only;decide,(fun _ h=>nomatch h)⟩
theorem LOk.new {lo hi md:Int} (h:checkI lo hi md = 0) (n:Nat):LOk (LSt.new lo hi md) n :=
 ⟨zce.mk (RelJ.mk ⟨[],RelS.nil 0⟩ ⟨[],RelS.nil 0⟩ rfl rfl rfl) (Nat.zero_le _) (Nat.zero_le _) (fun x hx=>nomatch hx) (fun x hx=>nomatch hx) (Int.le_refl _) (by show (0:Int) <= n;omega),List.Perm.refl _,EOk.new h,Nat.zero_le _⟩
theorem EOk.moved {e:ESt} (h:EOk e) (s:Nat) (t:Int) (ht:-1099511627777 <= t /\ t <= 1099511627776):EOk { e with st:=zbr e.lo e.hi s t e.st }:=by
 unfold zbr;split
 . exact ⟨h.plan,h.f0,h.f1,h.late,h.i0,h.i1,h.il,ht,h.my,h.ga,fun g hg=>h.gb g (List.mem_filter.1 hg).1,h.sa,h.sb.filter _,h.la,Nat.le_trans (List.length_filter_le _ _) h.lb,h.v⟩
 . exact ⟨h.plan,h.f0,h.f1,h.late,h.i0,h.i1,h.il,h.mx,ht,fun g hg=>h.ga g (List.mem_filter.1 hg).1,h.gb,h.sa.filter _,h.sb,Nat.le_trans (List.length_filter_le _ _) h.la,h.lb,h.v⟩
theorem EOk.mv {e:ESt} (h:EOk e) (s t:Int):EOk { e with st:=mvJ e.lo e.hi s t e.st }:=by
 unfold mvJ;split
 . rename_i hm;have hr:=zcP hm;split
   . exact h.moved 0 t (by omega)
   . exact h.moved 1 t (by omega)
 . exact h
theorem zq7 {hs:List Hd} {x:Hd} (hg:∀ h ∈ hs,za0 h.r /\ 0 <= h.m /\ h.m <= 9223372036854775807) (hs1:zaD hs) (hl:hs.length <= 300) (hm:x.m <= 9223372036854775807) :
 (∀ h ∈ addL hs x,za0 h.r /\ 0 <= h.m /\ h.m <= 9223372036854775807) /\ zaD (addL hs x) /\ (addL hs x).length <= 300:=by
 by_cases he:addE hs x = 0
 . have hx:za0 x.r /\ 0 <= x.m:=by
    unfold addE at he;split at he
    . cases he
    . rename_i hq;simp only [Bool.and_eq_false_imp,Classical.not_imp,Bool.not_eq_false,decide_eq_true_eq] at hq;exact hq
   refine ⟨fun y hy=>?_,by unfold addL;rw [if_pos he];exact zhJ hs1 x,zhV he hl⟩;unfold addL at hy;rw [if_pos he] at hy;rcases List.mem_cons.1 ((zey hs x).mem_iff.1 hy) with rfl | hy
   . exact ⟨hx.1,hx.2,hm⟩
   . exact hg y hy
 . unfold addL;rw [if_neg he];exact ⟨hg,hs1,hl⟩
theorem EOk.put {e:ESt} (h:EOk e) (s:Int) (x:Hd) (hm:x.m <= 9223372036854775807):EOk { e with st:=zqp s x e.st }:=by
 unfold zqp;split
 . obtain ⟨h1,h2,h3⟩:=zq7 (x:=x) h.ga h.sa h.la hm;exact ⟨h.plan,h.f0,h.f1,h.late,h.i0,h.i1,h.il,h.mx,h.my,h1,h.gb,h2,h.sb,h3,h.lb,h.v⟩
 . split
   . obtain ⟨h1,h2,h3⟩:=zq7 (x:=x) h.gb h.sb h.lb hm;exact ⟨h.plan,h.f0,h.f1,h.late,h.i0,h.i1,h.il,h.mx,h.my,h.ga,h1,h.sa,h2,h.la,h3,h.v⟩
   . exact h
theorem zqa {ns:List Int} (h:I64s ns) (i:Nat):-9223372036854775808 <= nAt ns i /\ nAt ns i <= 9223372036854775807:=by
 unfold nAt;rw [List.getD_eq_getElem?_getD];cases hh:ns[i]? with
 | none=>decide
 | some v=>exact h v (List.mem_of_getElem? hh)
theorem zrR {ns:List Int} (h:zpK ns = false):zhl (outO ns):=by
 unfold zpK at h;simp only [Bool.or_eq_false_iff,Bool.and_eq_false_imp,decide_eq_true_eq,Bool.not_eq_false'] at h;obtain ⟨h1,h2⟩:=h;unfold outO;split
 . rename_i h3;have h4:=h1 h3;simp only [decide_eq_false_iff_not,Classical.not_not] at h4;exact .inr ⟨⟨nAt ns 1,nAt ns 2,nAt ns 3⟩,⟨nAt ns 4,nAt ns 5,nAt ns 6⟩,h2,h4.2,h4.1,rfl⟩
 . unfold zpQ;split
   . exact .inl ⟨0,⟨nAt ns 1,nAt ns 2,nAt ns 3⟩,by decide,h2,rfl⟩
   . exact .inl ⟨1,⟨nAt ns 1,nAt ns 2,nAt ns 3⟩,by decide,h2,rfl⟩
theorem LOk.step {x y:LSt} {n:Nat} {nm:List UInt8} {ns:List Int} (h:LOk x n) (hn:I64s ns) (hs:zpH nm ns x = some y):LOk y (n + 2):=by
 have h0:=zqa hn 0;have h1:=zqa hn 1;have h2:=zqa hn 2;have h4:=zqa hn 4;have hlv:=h.lv;unfold zpH at hs;split at hs
 . cases hs;have k:=h.ok;exact ⟨⟨⟨h.g.rel.a,h.g.rel.b,h.g.rel.x,h.g.rel.y,rfl⟩,h.g.la,h.g.lb,h.g.ta,h.g.tb,h.g.c0,by have:=h.g.c1;push_cast;show _ <= _;omega⟩,h.p,⟨k.plan,by show 0 <= max 0 _;omega,by show 0 <= max 0 _;omega,by show 0 <= max 0 _;omega,by show max 0 _ <= _;omega,by show max 0 _ <= _;omega,by show max 0 _ <= _;omega,k.mx,k.my,k.ga,k.gb,k.sa,k.sb,k.la,k.lb,k.v⟩,by show x.e.V.length <= _;omega⟩
 . split at hs
   . cases hs;exact ⟨(h.g.move x.e.lo x.e.hi 0 (nAt ns 0)).move x.e.lo x.e.hi 1 (nAt ns 1),h.p,(h.ok.mv 0 (nAt ns 0)).mv 1 (nAt ns 1),by show x.e.V.length <= _;omega⟩
   . split at hs
     . cases hs;exact ⟨(h.g.put (nAt ns 0) _).more,h.p,h.ok.put (nAt ns 0) _ h4.2,by show x.e.V.length <= _;omega⟩
     . split at hs
       . split at hs
         . cases hs
         . rename_i hb;cases hs;have hok:=zrR (by simpa using hb);have k:=h.ok;exact ⟨h.g.more.more,(List.perm_append_singleton _ _).trans (List.Perm.cons _ h.p),⟨k.plan,k.f0,k.f1,k.late,k.i0,k.i1,k.il,k.mx,k.my,k.ga,k.gb,k.sa,k.sb,k.la,k.lb,fun q hq=>(List.mem_cons.1 hq).elim (fun e=>e ▸ hok) (k.v q)⟩,by show (outO ns :: x.e.V).length <= _;simp only [List.length_cons];omega⟩
       . cases hs;exact ⟨h.g.more.more,h.p,h.ok,by omega⟩
theorem zq1 {x:Option LSt} {y:Option LSt} {n:Nat} {nm:List UInt8} {ns:List Int} (h:∀ z,x = some z -> LOk z n) (hn:I64s ns) (hs:zpL nm ns x = some y):∀ z,y = some z -> LOk z (n + 2):=by
 unfold zpL at hs;split at hs
 . split at hs
   . rename_i hc;cases hs;intro z hz;cases hz;exact LOk.new hc _
   . cases hs
 . cases x with
   | none=>cases hs
   | some x =>
     obtain ⟨y',hy,rfl⟩:=Option.map_eq_some_iff.1 hs;intro z hz;cases hz;exact (h x rfl).step hn hy
theorem zq5 {lo hi:Int} {s:Nat} (hs:s < 2) {t:Int} {st st':JSt} (h:zcY lo hi s t st = some st'):mvJ lo hi s t st = st':=by
 unfold zcY at h;unfold mvJ;split at h
 . rename_i ht;cases h;rw [if_neg];intro hm
   have:=zcP hm
   omega
 . split at h
   . rename_i hm;cases h;rw [if_pos hm];have hs':s = 0 \/ s = 1:=by omega
     rcases hs' with rfl | rfl
     . rfl
     . rfl
   . cases h
theorem zro {s:Int} {x:Hd} {st:JSt} (h:zcF s x st = 0):zqp s x st = putJ s.toNat x st:=by
 unfold zcF at h;unfold zqp;split at h
 . rename_i h0;subst h0;rfl
 . split at h
   . rename_i h1;subst h1;rfl
   . cases h
theorem zr7 {n:List Int} {x:Out} (h:outE n = some x):zpK n = false /\ outO n = x:=by
 unfold outE at h;split at h
 . rename_i q a b c;split at h
   . rename_i hh;cases h;have e0:nAt [q,a,b,c] 0 = q:=rfl;have e1:nAt [q,a,b,c] 1 = a:=rfl;have e2:nAt [q,a,b,c] 2 = b:=rfl;have e3:nAt [q,a,b,c] 3 = c:=rfl;have h3:¬ q = 3:=by omega
     refine ⟨?_,?_⟩
     . unfold zpK;rw [e0,e1,e2,e3,hh.2];simp [h3]
     . unfold outO;rw [e0,e1,e2,e3,if_neg h3];unfold zpQ;rcases hh.1 with rfl | rfl
       . rfl
       . rfl
   . cases h
 . rename_i q a b c d f g;split at h
   . rename_i hh;cases h;obtain ⟨rfl,h1,h2,rfl⟩:=hh;refine ⟨?_,?_⟩
     . unfold zpK nAt;simp [h1,h2]
     . rfl
   . cases h
 . cases h
theorem zqA (ns:List Int) (x:LSt):zpH wFed ns x = some { x with e:={ x.e with f0:=max 0 (nAt ns 0),f1:=max 0 (nAt ns 1),st:={ x.e.st with late:=max 0 (nAt ns 2) } },rs:={ x.rs with late:=max 0 (nAt ns 2) } }:=by
 unfold zpH;rw [if_pos rfl]
theorem zqh (ns:List Int) (x:LSt):zpH zbW ns x = some { x with e:={ x.e with st:=mvJ x.e.lo x.e.hi 1 (nAt ns 1) (mvJ x.e.lo x.e.hi 0 (nAt ns 0) x.e.st) },rs:=mvR x.e.lo x.e.hi 1 (nAt ns 1) (mvR x.e.lo x.e.hi 0 (nAt ns 0) x.rs) }:=by
 unfold zpH;rw [if_neg (show ¬ zbW = wFed by decide),if_pos rfl]
theorem zq2 (ns:List Int) (x:LSt):zpH wRow ns x = some { x with e:={ x.e with st:=zqp (nAt ns 0) ⟨⟨nAt ns 1,nAt ns 2,nAt ns 3⟩,nAt ns 4⟩ x.e.st },rs:=zqH (nAt ns 0) ⟨⟨nAt ns 1,nAt ns 2,nAt ns 3⟩,nAt ns 4⟩ x.rs }:=by
 unfold zpH;rw [if_neg (show ¬ wRow = wFed by decide),if_neg (show ¬ wRow = zbW by decide),if_pos rfl]
theorem zqC (ns:List Int) (x:LSt):zpH wOut ns x = if zpK ns = true then none else some { x with e:={ x.e with V:=outO ns :: x.e.V },l:=x.l ++ [outO ns] }:=by
 unfold zpH;rw [if_neg (show ¬ wOut = wFed by decide),if_neg (show ¬ wOut = zbW by decide),if_neg (show ¬ wOut = wRow by decide),if_pos rfl]
theorem zqu {nm:List UInt8} (h1:nm ≠ wFed) (h2:nm ≠ zbW) (h3:nm ≠ wRow) (h4:nm ≠ wOut) (ns:List Int) (x:LSt):zpH nm ns x = some x:=by
 unfold zpH;rw [if_neg h1,if_neg h2,if_neg h3,if_neg h4]
theorem zpJ {nm:List UInt8} (h:nm ≠ zc2) (ns:List Int) (x:LSt):zpL nm ns (some x) = (zpH nm ns x).map some:=by
 unfold zpL;rw [if_neg h]
theorem zr8 {i:Nat} {nm:List UInt8} {n:List Int} {e:Option ESt} {e':ESt} (h:zfb i nm n e e') (x:Option LSt) (hx:∀ y,e = some y -> ∃ z,x = some z /\ z.e = y):∃ z,zpL nm n x = some (some z) /\ z.e = e':=by
 cases h with
 | plan a b c e0 hc =>
   unfold zpL;rw [if_pos rfl];have e:checkI (nAt [a,b,c] 0) (nAt [a,b,c] 1) (nAt [a,b,c] 2) = 0:=hc;rw [if_pos e];exact ⟨_,rfl,rfl⟩
 | fed a b c e0 h0 h1 h2 =>
   obtain ⟨z,rfl,rfl⟩:=hx _ rfl;rw [zpJ (by decide),zqA];refine ⟨_,rfl,?_⟩;have ea:max 0 (nAt [a,b,c] 0) = a:=by show max 0 a = a;omega
   have eb:max 0 (nAt [a,b,c] 1) = b:=by show max 0 b = b;omega
   have ec:max 0 (nAt [a,b,c] 2) = c:=by show max 0 c = c;omega
   simp only [ea,eb,ec]
 | marks a b e0 st1 st2 h1 h2 =>
   obtain ⟨z,rfl,rfl⟩:=hx _ rfl;rw [zpJ (by decide),zqh];refine ⟨_,rfl,?_⟩;have ea:mvJ z.e.lo z.e.hi 0 (nAt [a,b] 0) z.e.st = st1:=zq5 (s:=0) (by decide) h1;have eb:mvJ z.e.lo z.e.hi 1 (nAt [a,b] 1) st1 = st2:=zq5 (s:=1) (by decide) h2;simp only [ea,eb]
 | row i hi s k t v m e0 hp =>
   obtain ⟨z,rfl,rfl⟩:=hx _ rfl;rw [zpJ (by decide),zq2];refine ⟨_,rfl,?_⟩;have ea:=zro hp;show { z.e with st:=zqp s ⟨⟨k,t,v⟩,m⟩ z.e.st } = _;rw [ea]
 | out i hi n e0 o ho =>
   obtain ⟨z,rfl,rfl⟩:=hx _ rfl;obtain ⟨hb,rfl⟩:=zr7 ho;rw [zpJ (by decide),zqC,if_neg (by rw [hb];decide)];exact ⟨_,rfl,rfl⟩
open Go.RowKit Go.Plan Go.Lib
def cutA (s:List UInt8):List (List UInt8):=splitK [10] 1 (count s [10]) s
theorem zr0 {a:List UInt8} (r:List UInt8) (h:(10:UInt8) ∉ a):cutA (a ++ 10 :: r) = (a ++ [10]) :: cutA r:=by
 have hi:=zeQ r h;have hc:=count_hit (sub:=[10]) (by simp) hi;have e1:(a ++ 10 :: r).drop (a.length + 1) = r:=by
  rw [List.drop_append,List.drop_eq_nil_of_le (by omega)];simp
 simp only [List.length_cons,List.length_nil,Nat.zero_add] at hc;rw [e1] at hc;unfold cutA;rw [hc,Nat.add_comm,splitK,hi];have:¬ (((a.length:Nat):Int) == -1) = true:=fun e=>by have:=beq_iff_eq.1 e;omega
 rw [if_neg this];simp only [Int.toNat_natCast,List.length_cons,List.length_nil,Nat.zero_add];rw [e1];congr 1;rw [List.take_append];simp;exact List.take_of_length_le (by omega)
theorem zqs:∀ (ls:List (List UInt8 × List Int)),(∀ x ∈ ls,∀ b ∈ x.1,97 <= b.toNat) -> cutA (textB ls) = ls.map (fun x=>lineB x.1 x.2 ++ [10]) ++ [[]]
 | [],_=>rfl
 | x :: ls,h=>by
   rw [zca,List.append_assoc,List.singleton_append,zr0 _ (zkc (h x List.mem_cons_self) x.2),zqs ls (fun y hy=>h y (List.mem_cons_of_mem _ hy))];rfl
theorem zqi (sep:List UInt8) (sv:Nat):∀ (k:Nat) (s:List UInt8),(splitK sep sv k s).length <= k + 1 /\ ∀ p ∈ splitK sep sv k s,p.length <= s.length
 | 0,s=>⟨by simp [splitK],fun p hp=>by simp [splitK] at hp;subst hp;exact Nat.le_refl _⟩
 | k + 1,s=>by
   unfold splitK;split
   . exact ⟨by simp,fun p hp=>by rw [List.mem_singleton] at hp;subst hp;exact Nat.le_refl _⟩
   . obtain ⟨h1,h2⟩:=zqi sep sv k (s.drop ((index s sep).toNat + sep.length));refine ⟨by simp only [List.length_cons];omega,fun p hp=>?_⟩;rcases List.mem_cons.1 hp with rfl | hp
     . rw [List.length_take];exact Nat.min_le_right _ _
     . have:=h2 p hp;rw [List.length_drop] at this;omega
theorem zqw (rest:List UInt8):∀ (w cur:List UInt8),(∀ b ∈ w,isSp b = false) -> fieldsGo cur (w ++ rest) = fieldsGo (cur ++ w) rest
 | [],cur,_=>by simp
 | b :: w,cur,h=>by
   rw [List.cons_append,fieldsGo_more _ _ _ (h b List.mem_cons_self),zqw rest w _ (fun q hq=>h q (List.mem_cons_of_mem _ hq))];simp
theorem zrX {b:UInt8} (h:33 <= b.toNat):isSp b = false:=by
 unfold isSp;have hne:∀ k:UInt8,k.toNat < 33 -> (b == k) = false:=fun k hk=>by
  rw [beq_eq_false_iff_ne];intro e;rw [e] at h;omega
 rw [hne 9 (by decide),hne 10 (by decide),hne 11 (by decide),hne 12 (by decide),hne 13 (by decide),hne 32 (by decide)];rfl
theorem zrP (n:Int):∀ b ∈ itoa n,isSp b = false:=fun b hb=>zrX (by have:=zeW n b hb;omega)
theorem zrK (n:Int):itoa n ≠ []:=by
 unfold itoa;split
 . simp
 . exact zd9 _
theorem zqZ:∀ (ns:List Int) (cur:List UInt8),cur ≠ [] -> fieldsGo cur (ns.flatMap (fun n=>32 :: itoa n) ++ [10]) = cur :: ns.map itoa
 | [],cur,h=>by
   simp only [List.flatMap_nil,List.nil_append,List.map_nil];rw [fieldsGo_end _ _ _ (by decide) h];rfl
 | n :: ns,cur,h=>by
   rw [List.flatMap_cons,List.append_assoc,List.cons_append,fieldsGo_end _ _ _ (by decide) h,zqw _ _ _ (zrP n),List.nil_append,zqZ ns (itoa n) (zrK n)];rfl
theorem zqx {nm:List UInt8} (h0:nm ≠ []) (h:∀ b ∈ nm,97 <= b.toNat) (ns:List Int):fields (lineB nm ns ++ [10]) = nm :: ns.map itoa:=by
 unfold fields lineB;rw [List.append_assoc,zqw _ _ _ (fun b hb=>zrX (by have:=h b hb;omega)),List.nil_append,zqZ ns nm h0]
theorem zqK {nm:List UInt8} (h:∀ b ∈ nm,b.toNat < 128) (ns:List Int):∀ b ∈ lineB nm ns ++ [10],b.toNat < 128:=by
 intro b hb;rcases List.mem_append.1 hb with hb | hb
 . rcases List.mem_append.1 hb with hb | hb
   . exact h b hb
   . obtain ⟨n,-,hb⟩:=List.mem_flatMap.1 hb;rcases List.mem_cons.1 hb with rfl | hb
     . decide
     . have:=zeW n b hb;omega
 . rw [List.mem_singleton] at hb;subst hb;decide
def numO (s:List UInt8):Option Int:=match atoiAll s with
 | .ok n=>if itoa n = s then some n else none
 | _=>none
def numW (s:List UInt8):Int:=match atoiAll s with
 | .ok n=>if itoa n = s then n else 0
 | _=>0
theorem zrf (n:Int) (h0:-9223372036854775808 <= n) (h1:n <= 9223372036854775807):numW (itoa n) = n:=by
 unfold numW;rw [zk8 n h0 h1];simp
theorem zq9 (s:List UInt8):-9223372036854775808 <= numW s /\ numW s <= 9223372036854775807:=by
 unfold numW;split
 . rename_i n hn;split
   . exact atoiAll_bounds hn
   . decide
 . decide
def goR:List (List (List UInt8)) -> Option LSt -> Option (Option LSt)
 | [],x=>some x
 | [] :: _,x=>some x
 | (w :: ws) :: r,x=>match zpL w (ws.map numW) x with
   | none=>none
   | some y=>goR r y
theorem zrq (r:List (List (List UInt8))) (x:Option LSt):goR ([] :: r) x = some x:=rfl
theorem zrJ {w:List UInt8} {ws:List (List UInt8)} {x:Option LSt} (h:zpL w (ws.map numW) x = none) (r:List (List (List UInt8))):goR ((w :: ws) :: r) x = none:=by
 rw [goR,h]
theorem zqR {w:List UInt8} {ws:List (List UInt8)} {x y:Option LSt} (h:zpL w (ws.map numW) x = some y) (r:List (List (List UInt8))):goR ((w :: ws) :: r) x = goR r y:=by
 rw [goR,h]
def zpN (s:List UInt8):Option LSt:=match goR ((cutA s).map Lib.fieldsD) none with
 | some (some x)=>if savedT x.e = s then some x else none
 | _=>none
theorem LOk.more {x:LSt} {n:Nat} (h:LOk x n):LOk x (n + 1):=⟨h.g.more,h.p,h.ok,Nat.le_succ_of_le h.lv⟩
theorem LOk.mono {x:LSt} {n m:Nat} (h:LOk x n) (hm:n <= m):LOk x m:=by
 induction hm with
 | refl=>exact h
 | step _ ih=>exact ih.more
theorem zqS:∀ (ls:List (List (List UInt8))) (x y:Option LSt) (n:Nat),(∀ z,x = some z -> LOk z n) -> goR ls x = some y -> ∀ z,y = some z -> LOk z (n + 2 * ls.length)
 | [],x,y,n,h,hg=>by cases hg;exact fun z hz=>(h z hz).mono (by omega)
 | [] :: _,x,y,n,h,hg=>by cases hg;exact fun z hz=>(h z hz).mono (by omega)
 | (w :: ws) :: r,x,y,n,h,hg=>by
   rw [goR] at hg;cases hl:zpL w (ws.map numW) x with
   | none=>rw [hl] at hg;cases hg
   | some x' =>
     rw [hl] at hg;have h1:=zq1 h (fun q hq=>by obtain ⟨z,-,rfl⟩:=List.mem_map.1 hq;exact zq9 z) hl;intro z hz;exact (zqS r x' y (n + 2) h1 hg z hz).mono (by simp only [List.length_cons];omega)
theorem zpO:∀ (l cur:List UInt8) (f:Nat),l.length < f -> (∀ b ∈ l,b.toNat < 128) -> Lib.fieldsGoD f cur l = Lib.fieldsGo cur l
 | [],cur,f,hf,_=>by
   obtain ⟨f,rfl⟩:∃ k,f = k + 1:=⟨f - 1,by omega⟩
   cases cur <;> simp [Lib.fieldsGoD,Lib.fieldsGo]
 | b :: l,cur,f,hf,h=>by
   obtain ⟨f,rfl⟩:∃ k,f = k + 1:=⟨f - 1,by omega⟩
   have hb:=h b List.mem_cons_self;have ih:=fun cur=>zpO l cur f (by simp only [List.length_cons] at hf;omega) (fun q hq=>h q (List.mem_cons_of_mem _ hq));rw [Lib.fieldsGoD,if_neg (List.cons_ne_nil _ _),Lib.decodeL_ascii b l hb];simp only [List.drop_succ_cons,List.drop_zero,List.take_succ_cons,List.take_zero];rw [ih,ih,Lib.fieldsGo];cases hs:Lib.isSp b with
   | true=>rw [(Lib.isSp_true hs).2,if_pos rfl,if_pos rfl];cases cur <;> simp
   | false=>rw [Lib.isSp_false hs hb];simp
theorem zqr {l:List UInt8} (h:∀ b ∈ l,b.toNat < 128):Lib.fieldsD l = Lib.fields l:=zpO l [] _ (Nat.lt_succ_self _) h
structure zqB (nm:List UInt8):Prop where
 ne:nm ≠ []
 up:∀ b ∈ nm,97 <= b.toNat
 lo:∀ b ∈ nm,b.toNat < 128
theorem zrw {nm:List UInt8} {n:List Int} (h:zqB nm) (hn:I64s n) {x y:Option LSt} (hl:zpL nm n x = some y) (r:List (List (List UInt8))):goR (Lib.fieldsD (lineB nm n ++ [10]) :: r) x = goR r y:=by
 rw [zqr (zqK h.lo n),zqx h.ne h.up];refine zqR ?_ r;have:(n.map Lib.itoa).map numW = n:=by
  rw [List.map_map];refine (List.map_congr_left fun k hk=>?_).trans (List.map_id' n);exact zrf k (hn k hk).1 (hn k hk).2
 rw [this];exact hl
theorem zqv {rest:List (List (List UInt8))}:∀ (ys:List (List UInt8 × List Int)) (i:Nat) (e:Option ESt) (x:Option LSt) (e':Option ESt),(∀ y ∈ ys,zqB y.1 /\ I64s y.2) -> (∀ y,e = some y -> ∃ z,x = some z /\ z.e = y) ->
 zbt i (ys.map fun y=>lineB y.1 y.2) e = some e' -> ∃ x',goR ((ys.map fun y=>Lib.fieldsD (lineB y.1 y.2 ++ [10])) ++ rest) x = goR rest x' /\ ∀ y,e' = some y -> ∃ z,x' = some z /\ z.e = y
 | [],i,e,x,e',_,hx,h=>by cases h;exact ⟨x,rfl,hx⟩
 | y :: ys,i,e,x,e',hy,hx,h=>by
   obtain ⟨hn,hi⟩:=hy y List.mem_cons_self;rw [List.map_cons,zbt,zmV hn.up y.2] at h;simp only [List.tail_cons,List.headD_cons,zeP y.2 hi] at h;cases hl:zb3 i y.1 y.2 e with
   | none=>rw [hl] at h;cases h
   | some e1 =>
     rw [hl] at h;obtain ⟨z,hz,hze⟩:=zr8 (zfF hl) x hx;obtain ⟨x',h1,h2⟩:=zqv (rest:=rest) ys (i + 1) (some e1) (some z) e' (fun q hq=>hy q (List.mem_cons_of_mem _ hq)) (fun q hq=>by cases hq;exact ⟨z,rfl,hze⟩) h;refine ⟨x',?_,h2⟩;rw [List.map_cons,List.cons_append,zrw hn hi hz,h1]
theorem zqk (e:ESt):∀ x ∈ zbP e,zqB x.1:=by
 intro x hx;refine ⟨?_,zjh e x hx,?_⟩ <;>
 . unfold zbP za5 zbE at hx;simp only [List.mem_append,List.mem_map,List.mem_cons,List.not_mem_nil,or_false] at hx;rcases hx with (rfl | rfl | rfl) | (⟨_,_,rfl⟩ | ⟨_,_,rfl⟩ | ⟨_,_,rfl⟩) | rfl <;> first | (show zc2 ≠ [];decide) | (show wFed ≠ [];decide) | (show zbW ≠ [];decide) | (show wRow ≠ [];decide) | (show wOut ≠ [];decide) | (show wEnd ≠ [];decide) | (show ∀ b ∈ zc2,b.toNat < 128;decide) | (show ∀ b ∈ wFed,b.toNat < 128;decide) | (show ∀ b ∈ zbW,b.toNat < 128;decide) | (show ∀ b ∈ wRow,b.toNat < 128;decide) | (show ∀ b ∈ wOut,b.toNat < 128;decide) | (show ∀ b ∈ wEnd,b.toNat < 128;decide)
theorem zqT (e:ESt):cut1 10 (savedT e) = ((za5 e ++ zbE e).map fun x=>lineB x.1 x.2) ++ [wEnd,[]]:=by
 unfold savedT;rw [zis _ (zjh e)];unfold zbP;rw [<- List.append_assoc,List.map_append,List.append_assoc];rfl
theorem zqt:∀ (xs:List (List UInt8)) (i:Nat) (r:Option (Option ESt)),ROk i r -> i + xs.length < 800000 -> ROk (i + xs.length) (zg7 i xs r)
 | [],i,r,h,_=>by
   have:zg7 i [] r = r:=by cases r <;> rfl
   rw [this];exact h
 | x :: xs,i,r,h,hl=>by
   simp only [List.length_cons] at hl ⊢;rw [zjs,show i + (xs.length + 1) = i + 1 + xs.length by omega];exact zqt xs (i + 1) _ (zkr h (by omega)) (by omega)
theorem zqm {s:List UInt8} {e':ESt} (h:zfM s = some e'):∃ x,zpN s = some x /\ x.e = e':=by
 have hlen:=zer 10 s.length s (Nat.le_refl _);unfold zfM at h;split at h
 . cases h
 rename_i hc;have h60:¬ 60000 < s.length:=fun e=>hc (.inl e);split at h
 . rename_i e hld;split at h
   . rename_i hs;cases h;have hsok:SOk e':=by
      refine (zqt ((cut1 10 s).take ((cut1 10 s).length - 2)) 0 (some none) (fun e he=>nomatch he) (by rw [List.length_take];omega) e' hld).1
     have hlo:∀ x ∈ zbP e',I64s x.2:=fun x hx=>by
      have hl:zaV x:=by
       rw [zeK] at hx;rcases List.mem_append.1 hx with hx | hx
       . exact zdu hsok 2 x hx
       . rcases List.mem_append.1 hx with hx | hx
         . obtain ⟨q,hq,rfl⟩:=List.mem_map.1 hx;exact zdQ (hsok.v q ((zbf _).mem_iff.1 hq)).2
         . rw [List.mem_singleton] at hx;subst hx;exact ⟨(show wEnd.length <= 8 by decide),(show 0 <= 8 by decide),fun _ h=>nomatch h⟩
      exact hl.2.2
     have hls:zbP e' = (za5 e' ++ zbE e') ++ [(wEnd,[])]:=by unfold zbP;rw [List.append_assoc]
     rw [<- hs,zqT,List.length_append,List.length_map,show [wEnd,([]:List UInt8)].length = 2 from rfl,Nat.add_sub_cancel,List.take_left' (by rw [List.length_map])] at hld;have hall:∀ y ∈ za5 e' ++ zbE e',zqB y.1 /\ I64s y.2:=fun y hy=>by
      have:y ∈ zbP e':=by rw [hls];exact List.mem_append_left _ hy
      exact ⟨zqk e' y this,hlo y this⟩
     obtain ⟨x',h1,h2⟩:=zqv (rest:=[[wEnd],[]]) (za5 e' ++ zbE e') 0 none none (some e') hall (fun y hy=>nomatch hy) hld;obtain ⟨z,rfl,hz⟩:=h2 e' rfl;have hgo:goR ((cutA s).map Lib.fieldsD) none = some (some z):=by
      have:(cutA s).map Lib.fieldsD = ((za5 e' ++ zbE e').map fun y=>Lib.fieldsD (lineB y.1 y.2 ++ [10])) ++ [[wEnd],[]]:=by
       rw [<- hs];unfold savedT;rw [zqs _ (zjh e'),hls,List.map_append,List.map_append,List.map_append,List.map_map,List.append_assoc];congr 1
      rw [this,h1];have hl:zpL wEnd (([]:List (List UInt8)).map numW) (some z) = some (some z):=by
       rw [zpJ (by decide)];show (zpH wEnd [] z).map some = _;rw [zqu (by decide) (by decide) (by decide) (by decide)];rfl
      rw [zqR hl,zrq]
     refine ⟨z,?_,hz⟩;unfold zpN;rw [hgo];simp only;rw [if_pos (by rw [hz];exact hs)]
   . cases h
 . cases h
theorem zq0 {s:List UInt8} (hl:s.length <= 60000):zfM s = (zpN s).map (·.e):=by
 cases h:zfM s with
 | some e' =>
   obtain ⟨x,hx,rfl⟩:=zqm h;rw [hx];rfl
 | none =>
   cases hr:zpN s with
   | none=>rfl
   | some x =>
     exfalso;unfold zpN at hr;split at hr
     . rename_i y hg;split at hr
       . rename_i hs;cases hr;have hok:=(zqS _ none _ 0 (fun z hz=>nomatch hz) hg x rfl).ok
         have:=ziT x.e hok (by rw [hs];exact hl)
         rw [hs,h] at this;cases this
       . cases hr
     . cases hr
section
variable {u u':World} {R J:Nat} {r0 r1 rv:Value} {Cs:Nat -> Prop} {lo hi md:Int} {rs rs':RSt} {l l':List Out} {f0 f1 g0 g1:Int}
theorem zpP (hI:REIs u R J r0 r1 rv lo hi md rs l f0 f1) (hu:RUp u u' J (zaO J r0 r1) lo hi md rs'):ExtM (fun k=>zdU R J r0 r1 rv k /\ k ≠ R) u u' /\ RNUp u u' R (zdU R J r0 r1 rv) lo hi md rs' l f0 f1:=by
 obtain ⟨hx,r0',r1',hI',hf⟩:=hI.joined hu;refine ⟨hx.mono fun k _ hk=>⟨.inr (.inr hk),fun e=>hI.nR (e ▸ hk)⟩,hx.mono fun k _ hk=>.inr (.inr hk),_,⟨J,r0',r1',rv,hI',rfl⟩,fun k hk=>?_⟩;rcases hk with e | e | e
 . exact .inl (.inl e)
 . exact .inl (.inr (.inl e))
 . exact (hf k e).imp (fun e=>.inr (.inr e)) id
theorem zrl (h:REAt u R Cs lo hi md rs l f0 f1) (hp:zay lo hi) (la:rs.a.length <= 300) (lb:rs.b.length <= 300) (ta:za1 rs.a) (tb:za1 rs.b) (s t:Int) :
 ∃ J,u.cell? ⟨R,0,none⟩ = some (.pointer (some ⟨J,0,none⟩)) /\ ∀ U,Ext u U -> Calls Tryz.prog 14 #[.pointer (some ⟨J,0,none⟩),.int .i64 s,.int .i64 t] U fun e U'=>∃ c,e = .returned (.int .i64 c) /\
   ExtM (fun k=>Cs k /\ k ≠ R) U U' /\ RNUp U U' R Cs lo hi md (mvR lo hi s t rs) l f0 f1:=by
 obtain ⟨J,r0,r1,rv,hI,rfl⟩:=h;refine ⟨J,hI.c0,fun U hU=>?_⟩;have hIU:=hI.ext hU;unfold mvR;by_cases h0:s = 0
 . subst h0;simp only [if_true];exact (zmw U J r0 r1 lo hi md rs hIU.join hp t (by omega) tb).mono fun e u' hh=>⟨_,hh.1,zpP hIU hh.2⟩
 by_cases h1:s = 1
 . subst h1;simp only [if_neg h0];exact (zmA U J r0 r1 lo hi md rs hIU.join hp t (by omega) ta).mono fun e u' hh=>⟨_,hh.1,zpP hIU hh.2⟩
 . have hm:zpG s t rs.x rs.y = 1:=by unfold zpG;rw [if_pos ⟨h0,h1⟩]
   rw [hm,if_neg (by decide)];exact (zjg J s t U ⟨h0,h1⟩).mono fun e u' hh=>⟨_,hh.1,hh.2.mono (fun _ _ h=>h.elim),RNUp.same ⟨J,r0,r1,rv,hIU,rfl⟩ hh.2⟩
theorem zrZ (h:REAt u R Cs lo hi md rs l f0 f1) (hc:0 <= rs.came /\ rs.came < 1000000) (s k t q m:Int) :
 ∃ J,u.cell? ⟨R,0,none⟩ = some (.pointer (some ⟨J,0,none⟩)) /\ ∀ U,Ext u U -> Calls Tryz.prog 33 #[.pointer (some ⟨J,0,none⟩),.int .i64 s,.agg #[.int .i64 k,.int .i64 t,.int .i64 q],.int .i64 m] U fun e U'=>∃ c,e = .returned (.int .i64 c) /\
   ExtM (fun k=>Cs k /\ k ≠ R) U U' /\ RNUp U U' R Cs lo hi md (zqH s ⟨⟨k,t,q⟩,m⟩ rs) l f0 f1:=by
 obtain ⟨J,r0,r1,rv,hI,rfl⟩:=h;refine ⟨J,hI.c0,fun U hU=>?_⟩;have hIU:=hI.ext hU;unfold zqH;by_cases h0:s = 0
 . subst h0;simp only [if_true];exact (zrv hIU.join k t q m hc).mono fun e u' hh=>⟨_,hh.1,zpP hIU hh.2⟩
 by_cases h1:s = 1
 . subst h1;simp only [if_neg h0,if_true];exact (zrz hIU.join k t q m hc).mono fun e u' hh=>⟨_,hh.1,zpP hIU hh.2⟩
 . simp only [if_neg h0,if_neg h1];exact (zp3 J s k t q m U ⟨h0,h1⟩).mono fun e u' hh=>⟨_,hh.1,hh.2.mono (fun _ _ h=>h.elim),RNUp.same ⟨J,r0,r1,rv,hIU,rfl⟩ hh.2⟩
theorem zrC (h:REAt u R Cs lo hi md rs l f0 f1) (hl:l.length < 1000000) (x:Out) :
 ∀ U,Ext u U -> Calls Tryz.prog 37 #[.pointer (some ⟨R,1,none⟩),encC x false] U fun e U'=>e = .returned (.int .i64 0) /\ RNUp U U' R Cs lo hi md rs (l ++ [x]) f0 f1:=by
 obtain ⟨J,r0,r1,rv,hI,rfl⟩:=h;intro U hU;have hIU:=hI.ext hU;refine (zgf R rv l x U hIU.bag hl).mono fun e u' hh=>⟨hh.1,?_⟩
 obtain ⟨hx,rv',hI',hf⟩:=hIU.bagged hh.2;refine ⟨hx.mono fun k _ hk=>hk.elim (fun e=>.inl e) (fun e=>.inr (.inl e)),_,⟨J,r0,r1,rv',hI',rfl⟩,fun k hk=>?_⟩;rcases hk with e | e | e
 . exact .inl (.inl e)
 . exact (hf k e).imp (fun e=>.inr (.inl e)) id
 . exact .inl (.inr (.inr e))
theorem zrV (h:REAt u R Cs lo hi md rs l f0 f1) (a b:Int):RNUp u ((u.setCell ⟨R,2,none⟩ (.int .i64 a)).setCell ⟨R,3,none⟩ (.int .i64 b)) R Cs lo hi md rs l a b:=by
 obtain ⟨J,r0,r1,rv,hI,rfl⟩:=h;obtain ⟨h1,x1⟩:=hI.fed0 a;obtain ⟨h2,x2⟩:=h1.fed1 b;exact ⟨(ExtM.trans _ _ _ x1 x2).mono fun k _ e=>.inl e,_,⟨J,r0,r1,rv,h2,rfl⟩,fun k hk=>.inl hk⟩
theorem zrH (h:REAt u R Cs lo hi md rs l f0 f1):∃ J,u.cell? ⟨R,0,none⟩ = some (.pointer (some ⟨J,0,none⟩)) /\ (∃ x,u.cell? ⟨J,7,none⟩ = some (.int .i64 x)) /\ u.frozen? ⟨J,7,none⟩ = false /\ Cs J /\ ∀ x U,Ext u U -> RNUp u (U.setCell ⟨J,7,none⟩ (.int .i64 x)) R Cs lo hi md { rs with late:=x } l f0 f1:=by
 obtain ⟨J,r0,r1,rv,hI,rfl⟩:=h;refine ⟨J,hI.c0,⟨_,hI.join.c7⟩,hI.join.fz 7,.inr (.inr (.inl rfl)),fun x U hU=>?_⟩;have hIU:=hI.ext hU;obtain ⟨h1,x1⟩:=hIU.join.late x;have h2:=(zpP hIU (⟨x1.mono fun k _ e=>.inl e,_,⟨r0,r1,h1,rfl⟩,fun k hk=>.inl hk⟩:RUp U _ J (zaO J r0 r1) lo hi md { rs with late:=x })).2;obtain ⟨y1,Cs',y2,y3⟩:=h2;exact ⟨(hU.mono (fun _ _ h=>h.elim)).fresh' y1 (fun _ _ h=>h),Cs',y2,fun k hk=>(y3 k hk).imp id (fun e=>Nat.le_trans hU.size e)⟩
theorem RNUp.then {u1 u2:World} {Cs1:Nat -> Prop} {rs2:RSt} {l2:List Out} {b0 b1:Int} (hx:ExtM Cs u u1) (hf:∀ k,Cs1 k -> Cs k \/ u.heap.size <= k) (h2:RNUp u1 u2 R Cs1 lo hi md rs2 l2 b0 b1):RNUp u u2 R Cs lo hi md rs2 l2 b0 b1:=by
 obtain ⟨hx2,Cs2,h2,hf2⟩:=h2;have hs:=hx.size;refine ⟨hx.fresh' hx2 (fun k hk e=>(hf k e).resolve_right (by omega)),Cs2,h2,fun k hk=>?_⟩;rcases hf2 k hk with e | e
 . exact hf k e
 . exact .inr (by omega)
theorem RNUp.ahead {u0:World} (hx:Ext u u0) (h:RNUp u0 u' R Cs lo hi md rs l f0 f1):RNUp u u' R Cs lo hi md rs l f0 f1:=RNUp.then (hx.mono (fun _ _ h=>h.elim)) (fun _k hk=>.inl hk) h
end
end Go.Proofs.YtmcgnnmffeojpabGreatDoor
