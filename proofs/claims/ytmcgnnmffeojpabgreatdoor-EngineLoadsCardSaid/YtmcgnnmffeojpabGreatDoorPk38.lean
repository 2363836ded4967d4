import Derived.Test.YtmcgnnmffeojpabGreatDoorPk21
import Derived.Test.YtmcgnnmffeojpabGreatDoorPk22
import Derived.Test.YtmcgnnmffeojpabGreatDoorPk25
import Derived.Test.YtmcgnnmffeojpabGreatDoorPk27
import Derived.Test.YtmcgnnmffeojpabGreatDoorPk37
import Derived.Deep.DeepCutAuto
import Derived.Deep.CutBlock
set_option maxRecDepth 100000
set_option maxHeartbeats 8000000
namespace Go.Proofs.YtmcgnnmffeojpabGreatDoor
open Go.RowKit Go.Plan
theorem zmC (u:World) (J:Nat) (r0 r1:Value) (lo hi md:Int) (st:RSt) (rk rt rv:Int) (h:RIs u J r0 r1 lo hi md st) (hp:zay lo hi) (hl0:st.a.length <= 300) (hl1:st.b.length <= 300) (hcm:0 <= st.came /\ st.came < 1000000) :
 Calls Tryz.prog 42 #[.pointer (some ⟨J,0,none⟩),.int .i64 0,.agg #[.int .i64 rk,.int .i64 rt,.int .i64 rv]] u (zcs u J r0 r1 lo hi md 0 ⟨rk,rt,rv⟩ st):=by
 have hxb:Ext u (u.alloc (.cells #[.int .i64 rk,.int .i64 rt,.int .i64 rv] 37)):=(ExtM.refl u).alloc _;have lJ:=h.lt;have hgd:=fun w=>zlk rk rt rv w;obtain ⟨q0,a0,rfl⟩:=h.j0.row.slice;obtain ⟨q1,a1,rfl⟩:=h.j1.row.slice;cases hg:za3 rk rt rv with
 | false =>
   rw [hg] at hgd;go_enter Tryz.func42,Tryz.ntmps42
   go_wp2_with (first
    | (go_at_call 50;refine (zcU _ _ _ _ (by decide)).mono ?_;rintro e w1 ⟨rfl,rfl⟩)
    | (go_at_call 36;refine (hgd _).mono ?_;rintro e w1 ⟨rfl,hx1⟩))
   go_ret2;exact zdg h (ExtM.trans _ _ _ hxb hx1) 1 (by unfold feedE;rw [if_pos hg]) (by decide) (by decide)
 | true =>
   rw [hg] at hgd;have hb1:(u.alloc (.cells #[.int .i64 rk,.int .i64 rt,.int .i64 rv] 37)).cell? ⟨u.heap.size,1,none⟩ = some (.int .i64 rt):=by go_simp
   have hb0:(u.alloc (.cells #[.int .i64 rk,.int .i64 rt,.int .i64 rv] 37)).cell? ⟨u.heap.size,0,none⟩ = some (.int .i64 rk):=by go_simp
   have hb2:(u.alloc (.cells #[.int .i64 rk,.int .i64 rt,.int .i64 rv] 37)).cell? ⟨u.heap.size,2,none⟩ = some (.int .i64 rv):=by go_simp
   have lB:u.heap.size < (u.alloc (.cells #[.int .i64 rk,.int .i64 rt,.int .i64 rv] 37)).heap.size:=by simp
   go_enter Tryz.func42,Tryz.ntmps42
   go_upto_region 3 with (first
    | (go_at_call 50;refine (zcU _ _ _ _ (by decide)).mono ?_;rintro e w1 ⟨rfl,rfl⟩)
    | (go_at_call 36;refine (hgd _).mono ?_;rintro e w1 ⟨rfl,hx1⟩))
   have hX1:=ExtM.trans _ _ _ hxb hx1;have h1:=h.ext hX1;have k:=fun q=>hx1.cell (p:=⟨u.heap.size,q,none⟩) lB (fun h=>h);have e0:=(k _).trans hb0;have e1:=(k _).trans hb1;have e2:=(k _).trans hb2;have lB1:u.heap.size < w1.heap.size:=Nat.lt_of_lt_of_le lB hx1.size;have lJ1:=h1.lt;have c0:=h1.c0;have c1:=h1.c1;have c5:=h1.c5;have c6:=h1.c6;have c7:=h1.c7;have f7:=h1.fz 7;clear k hb0 hb1 hb2 lB hxb hx1;by_cases hlate:rt <= st.x
   . have hE:feedE lo hi 0 ⟨rk,rt,rv⟩ st.x st.y (st.of 0).length = 10:=by rw [zcM hg,if_pos hlate]
     have d:decide (rt <= st.x) = true:=by simp [hlate]
     clear hlate;go_quiet (fail);go_wp2_with fail;go_ret2;exact zeD h (hX1.drewN _) hE
   . have ht:=zcr hg;have d:decide (rt <= st.x) = false:=by simp;omega
     have HLA:=Lib.hid hlate;clear hlate;go_quiet (fail)
     go_upto_region 8 with (
      go_at_call 51;refine (ziK J lo hi rt 0 _ (by omega) hp ht (by go_simp) (by go_simp)).mono ?_
      rintro e w3 ⟨rfl,hx3⟩)
     have hX3:Ext u w3:=ExtM.trans _ _ _ (hX1.drewN _) hx3;have h3:=h.ext hX3;have k:=fun q=>(((ExtM.refl w1).drewN nq).trans' hx3).cell (p:=⟨u.heap.size,q,none⟩) lB1 (fun h=>h);have b0:=(k _).trans e0;have b1:=(k _).trans e1;have b2:=(k _).trans e2;have lB3:u.heap.size < w3.heap.size:=Nat.lt_of_lt_of_le lB1 ((((ExtM.refl w1).drewN nq).trans' hx3).size);have lJ3:=h3.lt;have C5:=h3.c6;have crow:=h3.j0.c3;simp only [Nat.reduceAdd] at crow;clear k e0 e1 e2 lB1 lJ1 hX1 hx3 h1 c0 c1 c5 c6 c7 f7;generalize hT:tilI lo hi 0 rt = T at *;generalize hF:frI lo hi 0 rt = F at *;have HT:=Lib.hid hT;have HF:=Lib.hid hF;have HG:=Lib.hid hg;clear hT hF hg;go_upto_region 9 with fail;generalize hbE:decide (st.y < T) = hb at *;have HBE:=Lib.hid hbE;clear hbE;go_cut [70] (fun s70 wx=>s70 = .bool (hb && decide ((300:Int) <= (st.a.length:Int))) /\ wx = w3)
     case first =>
      cases hb
      . go_wp2_with fail;go_meet
        case rel=>exact ⟨by simp,rfl⟩
      . go_wp2_with fail;go_meet
        case rel=>exact ⟨by simp,rfl⟩
     case rest =>
      obtain ⟨rfl,rfl⟩:=hcut;cases hfull:(hb && decide ((300:Int) <= (st.a.length:Int))) with
      | true =>
        have hE:feedE lo hi 0 ⟨rk,rt,rv⟩ st.x st.y (st.of 0).length = 12:=by
         simp only [Bool.and_eq_true,decide_eq_true_eq] at hfull;have h1:=HBE.out;rw [hfull.1] at h1;have h2:st.y < T:=by simpa using h1
         rw [zcM HG.out,if_neg (by have:=HLA.out;omega),HT.out,if_pos];exact ⟨h2,by show 300 <= st.a.length;omega⟩
        go_wp2_with fail;go_ret2;exact zdg h hX3 12 hE (by decide) (by decide)
      | false =>
        have hE:feedE lo hi 0 ⟨rk,rt,rv⟩ st.x st.y (st.of 0).length = 0:=by
         rw [zcM HG.out,if_neg (by have:=HLA.out;omega),HT.out,if_neg];rintro ⟨h1,h2⟩;have h3:=HBE.out;have h2':300 <= st.a.length:=h2;rw [<- h3] at hfull;simp only [Bool.and_eq_false_iff,decide_eq_false_iff_not] at hfull;omega
        have HFU:=Lib.hid hfull;have HE:=Lib.hid hE;clear hfull hE crow C5;have crowO:=h3.j1.c3;have hrow:=h3.j1.row;simp only [Nat.reduceAdd] at crowO;have hso:=zf0 J 1 _ st.b _ (by omega) crowO hrow (by omega)
        go_wp2_with (
         go_at_call 66;refine hso.mono ?_
         rintro e w5 ⟨p,cap,is,rfl,hx5,hsr,hlen,hcells⟩)
        have h5:=h3.ext hx5;have HSR:=Lib.hid hsr;have HLN:=Lib.hid hlen;have hcl:st.b = [] \/ ∃ b,p = some ⟨b,0,none⟩ /\ wc.heap.size <= b /\ b < w5.heap.size /\ ∀ i,i < st.b.length -> w5.cell? ⟨b,i,none⟩ = some (.int .i64 (is[i]!:Nat)):=hcells;have HCL:=Lib.hid hcl;have k:=fun q=>hx5.cell (p:=⟨u.heap.size,q,none⟩) lB3 (fun h=>h);have B0:=(k _).trans b0;have B1:=(k _).trans b1;have B2:=(k _).trans b2;have lB5:u.heap.size < w5.heap.size:=Nat.lt_of_lt_of_le lB3 hx5.size;have hX5:Ext u w5:=ExtM.trans _ _ _ hX3 hx5;have nB:∀ k,zaO J (.slice q0 st.a.length a0) (.slice q1 st.b.length a1) k -> k < u.heap.size:=h.foot;have hsz5:=hx5.size;clear k b0 b1 b2 hsr hlen hcells hcl hso crowO hrow h3 lB3 lJ3 hx5;go_loopg [12,13,75] (st.b.length + 1) (fun kx s12 s13 s75 wr=>∃ i:Nat,s75 = .int .i64 i /\ i <= st.b.length /\ st.b.length - i <= kx /\ ExtM (fun k=>(Value.slice q1 st.b.length a1).ownBlock = some k) w5 wr /\ RIs wr J (.slice q0 st.a.length a0) (.slice q1 st.b.length a1) lo hi md { st with b:=mixL (zab rk F T) st.b (is.take i) } /\ s13 = .int .i64 ((zbv (zab rk F T) st.b (is.take i)).length:Nat) /\ CRow wr w5.heap.size s12 (((zbv (zab rk F T) st.b (is.take i)).map RHd.hd).flatMap (chg1 md 0 ⟨rk,rt,rv⟩)))
        case atStart=>exact ⟨0,rfl,by omega,by omega,ExtM.refl _,by rw [List.take_zero,zij];exact h5,rfl,nilC _ _⟩
        case round =>
         obtain ⟨i,rfl,hi',hgk,hx,h6,rfl,hout⟩:=hrel;by_cases hil:i < st.b.length
         . obtain ⟨b,rfl,hb1,hb2,hbc⟩:∃ b,p = some ⟨b,0,none⟩ /\ wc.heap.size <= b /\ b < w5.heap.size /\ ∀ i,i < st.b.length -> w5.cell? ⟨b,i,none⟩ = some (.int .i64 (is[i]!:Nat)):=by
            rcases HCL.out with h | h
            . rw [h] at hil;simp at hil
            . exact h
           have hgO:∀ k,(Value.slice q1 st.b.length a1).ownBlock = some k -> k < u.heap.size:=fun k hk=>nB k (.inr (.inr hk));have hsz:=hX5.size;have hX3s:=hX3.size;have hcell:wr.cell? ⟨b,i,none⟩ = some (.int .i64 (is[i]!:Nat)):=(hx.cell (p:=⟨b,i,none⟩) hb2 (fun e=>by have:=hgO b e;omega)).trans (hbc i hil);obtain ⟨htk,hq,hnq⟩:=zez HSR.out HLN.out i hil;have hgX:=mixL_get (p:=zab rk F T) hnq hq;have HGX:=Lib.hid hgX;have HMS:=Lib.hid (zii (p:=zab rk F T) (is:=is.take i) hq);have HSK:=Lib.hid (zgn (p:=zab rk F T) (is:=is.take i) hq);have HTK:=Lib.hid htk;clear htk hbc hgX;generalize is[i]! = q at *;have crow6:=h6.j1.c3;have hrow6:=h6.j1.row;simp only [Nat.reduceAdd] at crow6;obtain ⟨g,rc,e',hg,x0,x1,x2,x3,x4⟩:=zkV hrow6 q _ HGX.out;simp only [Value.slice.injEq] at e';obtain ⟨rfl,-,rfl⟩:=e';have HPT:=Lib.hid (zkS (p:=zab rk F T) (L:=st.b) (is:=is.take i) (q:=q));have HPF:=Lib.hid (zjH (p:=zab rk F T) (L:=st.b) (is:=is.take i) (q:=q));generalize st.b[q]! = X at *;have k:=fun o=>hx.cell (p:=⟨u.heap.size,o,none⟩) lB5 (fun e=>by have:=hgO u.heap.size e;omega);have b0:=(k _).trans B0;have b1:=(k _).trans B1;have b2:=(k _).trans B2;have lB6:u.heap.size < wr.heap.size:=Nat.lt_of_lt_of_le lB5 hx.size;clear k;go_upto_region 17 with fail;go_cut [105] (fun s105 wx=>s105 = .bool (!(zab rk F T X.hd)) /\ Ext wr wx)
           case first =>
            by_cases hk1:X.r.k = rk
            . have d1:(X.r.k != rk) = false:=by simp [hk1]
              by_cases hk2:F <= X.r.t /\ X.r.t <= T
              . have HM:Hid (zab rk F T X.hd = true):=Lib.hid ((zbn _ _ _ _).2 ⟨hk1,hk2.1,hk2.2⟩);have HK:=Lib.hid hk2;clear hk1 hk2;refine Plan.b0 Plan.Ext 19 ?_;refine Plan.qs 12 [0,1,2,3,4,5,6,7,8,9,10,11] ?_;iterate 12 go_big_quiet_step (fail)
                refine Plan.qs 4 [12,13,14,15] ?_;iterate 4 go_big_quiet_step (fail)
                refine Plan.ow 16 fun K hK=>?_;go_wp2_with (fail);refine (znd F X.r.t T _ HK.out).mono ?_;rintro e w7 ⟨rfl,h7⟩;have H7:=ExtM.trans _ _ _ (ExtM.refl _).drew h7;obtain ⟨hc7,hf7,-⟩:=Ext.rules H7;have hs7_0:g < w7.heap.size:=by have:=H7.size;(try simp at this);omega
                have hs7_1:u.heap.size < w7.heap.size:=by have:=H7.size;(try simp at this);omega
                go_wp2_with (fail);refine hK _ _ h7 ?_;clear hK K;refine Plan.qs 2 [17,18] ?_;iterate 2 go_big_quiet_step (fail)
                refine Plan.dn ?_;go_wp2_with fail;go_meet
                case rel=>exact ⟨by rw [HM.out];rfl,H7⟩
              . have HM:Hid (zab rk F T X.hd = false):=Lib.hid (Bool.eq_false_iff.2 fun h=>hk2 ((zbn _ _ _ _).1 h).2);have HK:=Lib.hid hk2;clear hk1 hk2;refine Plan.b0 Plan.Ext 19 ?_;refine Plan.qs 12 [0,1,2,3,4,5,6,7,8,9,10,11] ?_;iterate 12 go_big_quiet_step (fail)
                refine Plan.qs 4 [12,13,14,15] ?_;iterate 4 go_big_quiet_step (fail)
                refine Plan.ow 16 fun K hK=>?_;go_wp2_with (fail);refine (znk F X.r.t T _ HK.out).mono ?_;rintro e w7 ⟨rfl,h7⟩;have H7:=ExtM.trans _ _ _ (ExtM.refl _).drew h7;obtain ⟨hc7,hf7,-⟩:=Ext.rules H7;have hs7_0:g < w7.heap.size:=by have:=H7.size;(try simp at this);omega
                have hs7_1:u.heap.size < w7.heap.size:=by have:=H7.size;(try simp at this);omega
                go_wp2_with (fail);refine hK _ _ h7 ?_;clear hK K;refine Plan.qs 2 [17,18] ?_;iterate 2 go_big_quiet_step (fail)
                refine Plan.dn ?_;go_wp2_with fail;go_meet
                case rel=>exact ⟨by rw [HM.out];rfl,H7⟩
            . have d1:(X.r.k != rk) = true:=by simp [hk1]
              have HM:Hid (zab rk F T X.hd = false):=Lib.hid (Bool.eq_false_iff.2 fun h=>hk1 ((zbn _ _ _ _).1 h).1);clear hk1;refine Plan.b0 Plan.Ext 19 ?_;refine Plan.qs 12 [0,1,2,3,4,5,6,7,8,9,10,11] ?_;iterate 12 go_big_quiet_step (fail)
              refine Plan.qs 4 [12,13,14,15] ?_;iterate 4 go_big_quiet_step (fail)
              refine Plan.zaZ 16 (by kernel_rfl) (by rfl) (Plan.skip ExtM.refl rfl ?_);simp only [Act.put,List.setIfInBounds_toArray,List.set_cons_succ,List.set_cons_zero];refine Plan.qs 2 [17,18] ?_;iterate 2 go_big_quiet_step (fail)
              refine Plan.dn ?_;go_wp2_with fail;go_meet
              case rel=>exact ⟨by rw [HM.out];rfl,(ExtM.refl _).drew⟩
           case rest =>
            obtain ⟨rfl,hxc⟩:=hcut;have h7:=h6.ext hxc;have kg:=fun o=>hxc.cell (p:=⟨g,o,none⟩) hg (fun h=>h);have y0:=(kg _).trans x0;have y1:=(kg _).trans x1;have y2:=(kg _).trans x2;have y3:=(kg _).trans x3;have kb:=fun o=>hxc.cell (p:=⟨u.heap.size,o,none⟩) lB6 (fun h=>h);have C0:=(kb _).trans b0;have C1:=(kb _).trans b1;have C2:=(kb _).trans b2;have lB7:=Nat.lt_of_lt_of_le lB6 hxc.size;have hg7:=Nat.lt_of_lt_of_le hg hxc.size;have hout7:=hout.of hxc;have hxw:ExtM (fun k=>(Value.slice (some ⟨g,0,none⟩) st.b.length a1).ownBlock = some k) w5 wc:=hx.fresh' hxc (fun _ _ h=>h.elim);have m2:=h7.c2;have lJ7:=h7.lt;clear kg kb x0 x1 x2 x3 x4 b0 b1 b2 crow6 hrow6 hcell h6 hx hout lB6 hg;generalize hm:zab rk F T X.hd = pm at *;have HM:=Lib.hid hm;clear hm;cases pm with
            | false =>
              have HE1:=Lib.hid (HSK.out rfl);have HE2:=Lib.hid (HPF.out rfl);clear HSK HPF HPT HMS;go_wp2_with fail;go_roundg (st.b.length - (i + 1))
              case measure=>omega
              case rel=>exact ⟨i + 1,by go_num,by omega,Nat.le_refl _,hxw,by rw [HTK.out,HE1.out];exact h7,by rw [HTK.out,HE2.out],by rw [HTK.out,HE2.out];exact hout7⟩
            | true =>
              have HE2:=Lib.hid (HPT.out rfl);clear HSK HPF HPT;go_upto_region 18 with fail;go_cut [115] (fun s115 wx=>s115 = .bool (decide (X.m = 0) && zai md 1) /\ wx = wc)
              case first =>
               by_cases hm0:X.m = 0
               . have d0:(X.m == 0) = true:=by simp [hm0]
                 have HM0:=Lib.hid hm0;clear hm0;go_wp2_with (go_at_call 84;refine (zih J md 1 _ (by omega) m2).mono ?_;rintro e w' ⟨rfl,rfl⟩);go_meet
                 case rel=>exact ⟨by simp [HM0.out],rfl⟩
               . have d0:(X.m == 0) = false:=by simp [hm0]
                 have HM0:=Lib.hid hm0;clear hm0;go_wp2_with fail;go_meet
                 case rel=>exact ⟨by simp [HM0.out],rfl⟩
              case rest =>
               obtain ⟨rfl,rfl⟩:=hcut;generalize hq:(decide (X.m = 0) && zai md 1) = tq at *;have HQ:=Lib.hid hq;clear hq;go_upto_if 115 with fail;have hfl:=zaK md 0 ⟨rk,rt,rv⟩ ((zbv (zab rk F T) st.b (is.take i)).map RHd.hd);have hpl:=zgQ (zab rk F T) st.b (is.take i);rw [List.length_map] at hfl;rw [List.length_take] at hpl;have hge:∀ k,u12.ownBlock = some k -> w5.heap.size <= k:=fun k hk=>(zaf hout7 k hk).1;have hsw:w5.heap.size <= wc.heap.size:=hxw.size;go_cut [12] (fun s12 wx=>ExtM (fun k=>w5.heap.size <= k) wc wx /\ CRow wx w5.heap.size s12 (((zbv (zab rk F T) st.b (is.take i)).map RHd.hd).flatMap (chg1 md 0 ⟨rk,rt,rv⟩) ++ (if tq = true then [(zan 1 X.r,true)] else [])))
               case first =>
                cases tq
                . go_wp2_with fail;go_meet
                  case rel=>exact ⟨ExtM.refl _,by simpa using hout7⟩
                . go_wp2_with (first
                   | (go_at_call 34
                      refine (zhM _ _ _ _).mono ?_;rintro e w6 ⟨rfl,hx6⟩;have hl6:(((zbv (zab rk F T) st.b (is.take i)).map RHd.hd).flatMap (chg1 md 0 ⟨rk,rt,rv⟩)).length < 1000000:=by omega
                      obtain ⟨v',w',happ,hown',hgr',-⟩:=zat (w6.alloc (.cells #[.int .i64 X.r.k,.int .i64 0,.int .i64 0,.int .i64 0,.int .i64 X.r.k,.int .i64 X.r.t,.int .i64 X.r.v,.bool false,.bool true,.bool true] 92)) w5.heap.size w6.heap.size 1 u12 _ (zan 1 X.r,true) 33 (hout7.of (hx6.alloc _)) (zdD w6 (zan 1 X.r,true)) hl6 (by have:=hx6.size;simp;omega)
                      have HG':=Lib.hid (ExtM.fresh' ((hx6.alloc _).mono (fun _ _ h=>h.elim):ExtM (fun k=>w5.heap.size <= k) _ _) hgr' (fun k hk e=>hge k e)))
                   | (at_builtin;refine wpList_append_run happ rfl rfl _ _ rfl rfl rfl ?_;clear happ))
                  go_meet
                  case rel=>exact ⟨HG'.out,hown'⟩
               case rest =>
                obtain ⟨hx8,hout8⟩:=hcut;clear hxc;have h8:=h7.extM hx8 (fun e=>by have e':w5.heap.size <= J:=e;omega) (fun k hk e=>by have e':w5.heap.size <= k:=e;have:=nB k (.inr (.inl hk));omega) (fun k hk e=>by have e':w5.heap.size <= k:=e;have:=nB k (.inr (.inr hk));omega);have hgu:=hgO g rfl;have kg:=fun o=>hx8.cell (p:=⟨g,o,none⟩) hg7 (fun e=>by have e':w5.heap.size <= g:=e;omega);have z0:=(kg _).trans y0;have z1:=(kg _).trans y1;have z2:=(kg _).trans y2;have z3:=(kg _).trans y3;have kb:=fun o=>hx8.cell (p:=⟨u.heap.size,o,none⟩) lB7 (fun e=>by have e':w5.heap.size <= u.heap.size:=e;omega);have D0:=(kb _).trans C0;have D1:=(kb _).trans C1;have D2:=(kb _).trans C2;have lB8:=Nat.lt_of_lt_of_le lB7 hx8.size;have hg8:=Nat.lt_of_lt_of_le hg7 hx8.size;have hxw8:ExtM (fun k=>(Value.slice (some ⟨g,0,none⟩) st.b.length a1).ownBlock = some k) w5 wc:=hxw.fresh' hx8 (fun k hk e=>by have e':w5.heap.size <= k:=e;omega);clear kg kb y0 y1 y2 y3 C0 C1 C2 lB7 hg7 h7 hout7 hxw hx8 hge hsw lJ7 m2;go_upto_region 20 with fail;go_cut [17] (fun s17 wx=>zhA wc wx s17 (outL (zbs ⟨rk,rt,rv⟩ X.r)))
                case first =>
                 refine Plan.bT Plan.Ext [7] 8 ?_;refine Plan.qs 5 [0,1,2,3,4] ?_;iterate 5 go_big_quiet_step (fail)
                 refine Plan.o2 5 6 (fun K hK=>?_) fun K hK=>?_
                 focus
                  go_wp2_with (fail);refine (zes rk rt rv X.r.k X.r.t X.r.v _).mono ?_;rintro e w8 ⟨rfl,h8⟩;have H8:=ExtM.trans _ _ _ (ExtM.refl _).drew h8;obtain ⟨hc8,hf8,-⟩:=Ext.rules H8;have hs8_0:g < w8.heap.size:=by have:=H8.size;(try simp at this);omega
                  have hs8_1:u.heap.size < w8.heap.size:=by have:=H8.size;(try simp at this);omega
                  go_wp2_with (fail);refine hK _ _ h8 ?_;clear hK K;refine Plan.o1 6 fun K hK=>?_;go_wp2_with (fail);refine hK _ _ ((ExtM.refl _).alloc _) ?_;clear hK K
                 rotate_left
                 focus
                  go_wp2_with (fail);refine hK _ _ ((ExtM.refl _).alloc _) ?_;clear hK K;refine Plan.o1 5 fun K hK=>?_;go_wp2_with (fail);refine (zes rk rt rv X.r.k X.r.t X.r.v _).mono ?_;rintro e w8 ⟨rfl,h8⟩;have H8:=ExtM.trans _ _ _ ((ExtM.refl _).drew.alloc _) h8;obtain ⟨hc8,hf8,-⟩:=Ext.rules H8;have hs8_0:g < w8.heap.size:=by have:=H8.size;(try simp at this);omega
                  have hs8_1:u.heap.size < w8.heap.size:=by have:=H8.size;(try simp at this);omega
                  go_wp2_with (fail);refine hK _ _ h8 ?_;clear hK K
                 . obtain ⟨hn,hfz,hlt⟩:=zbm h8;have n0:=hn 0 _ rfl;have n1:=hn 1 _ rfl;have n2:=hn 2 _ rfl;have n3:=hn 3 _ rfl;have n4:=hn 4 _ rfl;have n5:=hn 5 _ rfl;have n6:=hn 6 _ rfl;have n7:=hn 7 _ rfl;have n8:=hn 8 _ rfl;refine Plan.ol 7 fun K hK=>?_;go_wp2_with (fail);refine Plan.dn ?_;go_wp2_with fail;go_meet
                   case rel=>exact outA (zbs ⟨rk,rt,rv⟩ X.r) H8 hn hfz hlt
                 . refine Plan.ol 7 fun K hK=>?_;go_wp2_with (fail);refine Plan.dn ?_;go_wp2_with fail;go_meet
                   case rel=>exact outB (zbs ⟨rk,rt,rv⟩ X.r) H8
                case rest =>
                 obtain ⟨Bo,rfl,hBo,hBl,hx9,hno,hfo⟩:=hcut;have h9:=h8.ext hx9;have E3:=(hx9.cell (p:=⟨g,q * 5 + 3,none⟩) hg8 (fun h=>h)).trans z3;have hg9:=Nat.lt_of_lt_of_le hg8 hx9.size;have hout9:=hout8.of hx9;have n0:=hno 0 _ rfl;have n1:=hno 1 _ rfl;have n2:=hno 2 _ rfl;have n3:=hno 3 _ rfl;have n4:=hno 4 _ rfl;have n5:=hno 5 _ rfl;have n6:=hno 6 _ rfl;have n7:=hno 7 _ rfl;have n8:=hno 8 _ rfl;have hxw9:ExtM (fun k=>(Value.slice (some ⟨g,0,none⟩) st.b.length a1).ownBlock = some k) w5 wc:=hxw8.fresh' hx9 (fun _ _ h=>h.elim);clear hno z0 z1 z2 z3 D0 D1 D2 lB8 hg8 h8 hout8 hxw8 hx9;go_upto_region 21 with fail;have hl9:(((zbv (zab rk F T) st.b (is.take i)).map RHd.hd).flatMap (chg1 md 0 ⟨rk,rt,rv⟩) ++ (if tq = true then [(zan 1 X.r,true)] else [])).length < 1000000:=by
                  rw [List.length_append];have:(if tq = true then [(zan 1 X.r,true)] else []:List (Out × Bool)).length <= 1:=by split <;> simp
                  omega
                 have hge9:∀ k,u12.ownBlock = some k -> w5.heap.size <= k:=fun k hk=>(zaf hout9 k hk).1;have hs9:w5.heap.size <= wc.heap.size:=hxw9.size;obtain ⟨v',w',happ,hown',hgr',-⟩:=zat (wc.alloc (.cells #[.int .i64 rk,.int .i64 rk,.int .i64 rt,.int .i64 rv,.int .i64 X.r.k,.int .i64 X.r.t,.int .i64 X.r.v,.bool true,.bool true,.bool false] 92)) w5.heap.size wc.heap.size 1 u12 _ (zbs ⟨rk,rt,rv⟩ X.r,false) 33 (hout9.of ((ExtM.refl wc:Ext wc wc).alloc _)) (zdD wc (zbs ⟨rk,rt,rv⟩ X.r,false)) hl9 (by simp;omega);have hx10:ExtM (fun k=>w5.heap.size <= k) wc w':=ExtM.fresh' (((ExtM.refl wc:Ext wc wc).alloc _).mono (fun _ _ h=>h.elim):ExtM (fun k=>w5.heap.size <= k) _ _) hgr' (fun k hk e=>hge9 k e);have hgu:=hgO g rfl;have h10:=h9.extM hx10 (fun e=>by have e':w5.heap.size <= J:=e;omega) (fun k hk e=>by have e':w5.heap.size <= k:=e;have:=nB k (.inr (.inl hk));omega) (fun k hk e=>by have e':w5.heap.size <= k:=e;have:=nB k (.inr (.inr hk));omega);have fz10:w'.frozen? ⟨g,q * 5 + 3,none⟩ = false:=by
                  have hlq:q < (mixL (zab rk F T) st.b (is.take i)).length:=by rw [zfi];exact hq
                  obtain ⟨g',cap',e1,-,-,e2⟩:=zaJ (enc:=RHd.cells) zcV h10.j1.row q 3 hlq (by omega);simp only [Value.slice.injEq,Option.some.injEq,Addr.mk.injEq,and_true] at e1;rw [e1.1];exact e2
                 have E10:=(hx10.cell (p:=⟨g,q * 5 + 3,none⟩) hg9 (fun e=>by have e':w5.heap.size <= g:=e;omega)).trans E3;obtain ⟨h11,hx11⟩:=h10.setM1 q X HGX.out (wrap64 (X.m + 1));have hset:(mixL (zab rk F T) st.b (is.take i)).set q ⟨X.r,wrap64 (X.m + 1),X.c⟩ = mixL (zab rk F T) st.b (is.take (i + 1)):=by
                  have hb:bumpQ (zab rk F T) X = ⟨X.r,wrap64 (X.m + 1),X.c⟩:=by unfold bumpQ;rw [HM.out];rfl
                  rw [<- hb,HMS.out,HTK.out]
                 have h12:RIs (w'.setCell ⟨g,q * 5 + 3,none⟩ (.int .i64 (wrap64 (X.m + 1)))) J (.slice q0 st.a.length a0) (.slice (some ⟨g,0,none⟩) st.b.length a1) lo hi md { st with b:=mixL (zab rk F T) st.b (is.take (i + 1)) }:=by
                  rw [<- hset];exact h11
                 have hout12:=zag hown' hx11 (fun k hk e=>by have h1:=(zaf hown' k hk).1;have e':k = g:=e;omega);have hx12:ExtM (fun k=>(Value.slice (some ⟨g,0,none⟩) st.b.length a1).ownBlock = some k) w5 (w'.setCell ⟨g,q * 5 + 3,none⟩ (.int .i64 (wrap64 (X.m + 1)))) :=
                  (hxw9.fresh' hx10 (fun k hk e=>by have e':w5.heap.size <= k:=e;omega)).fresh' hx11 (fun k _ e=>by have e':k = g:=e;rw [e'];rfl)
                 have hplt:(zbv (zab rk F T) st.b (is.take i)).length <= 300:=by omega
                 have H12:=Lib.hid h12;have HO12:=Lib.hid hout12;have HX12:=Lib.hid hx12;clear h12 hout12 hx12 hset h11 hx11 h10 hown' hgr' hout9 h9 hl9 hge9 hfl hpl;go_wp2_with (at_builtin;refine wpList_append_run happ rfl rfl _ _ rfl rfl rfl ?_;clear happ);go_roundg (st.b.length - (i + 1))
                 case measure=>omega
                 case rel =>
                  refine ⟨i + 1,by go_num,by omega,Nat.le_refl _,HX12.out,H12.out,?_,?_⟩
                  . rw [HTK.out,HE2.out,List.length_append,List.length_singleton];push_cast;rfl
                  . rw [HTK.out,HE2.out,List.map_append,List.map_singleton,List.flatMap_append,List.flatMap_singleton,zf6];show CRow _ _ _ (_ ++ ((if (decide (X.m = 0) && zai md 1) = true then _ else _) ++ _));rw [HQ.out,<- List.append_assoc];exact HO12.out
         . have hie:i = st.b.length:=by omega
           subst hie;have htk:is.take st.b.length = is:=List.take_of_length_le (by have:=HLN.out;omega);rw [htk] at h6 hout;have hall:∀ j,j < st.b.length -> j ∈ is:=fun j hj=>HSR.out.1.mem_iff.2 (List.mem_range.2 hj);rw [zhP hall] at h6;obtain ⟨hR1,hR2,hR3⟩:=ze0 HSR.out (zab rk F T);rw [hR3] at hout;have hgO:∀ k,(Value.slice q1 st.b.length a1).ownBlock = some k -> k < u.heap.size:=fun k hk=>nB k (.inr (.inr hk));have hsz:=hX5.size;have k:=fun o=>hx.cell (p:=⟨u.heap.size,o,none⟩) lB5 (fun e=>by have:=hgO u.heap.size e;omega);have b0:=(k _).trans B0;have b1:=(k _).trans B1;have b2:=(k _).trans B2;have lB6:u.heap.size < wr.heap.size:=Nat.lt_of_lt_of_le lB5 hx.size;have hplen:(zbv (zab rk F T) st.b is).length = ((((is.map (fun q=>st.b[q]!)).map RHd.hd).filter (zab rk F T))).length:=by rw [<- hR3,List.length_map]
           rw [htk];have HPL:=Lib.hid hplen;have hlen2:(((is.map (fun q=>st.b[q]!)).map RHd.hd).filter (zab rk F T)).length <= 300:=Nat.le_trans (List.length_filter_le _ _) (by simp;have:=HLN.out;omega);have HCNT:Hid ((((is.map (fun q=>st.b[q]!)).map RHd.hd).filter (zab rk F T)).length = (st.b.filter (fun x=>zab rk F T x.hd)).length):=Lib.hid (zd7 hR1 _);have HR1:=Lib.hid hR1;have HR2:=Lib.hid hR2;generalize is.map (fun q=>st.b[q]!) = R at *;generalize hms:(R.map RHd.hd).filter (zab rk F T) = ms at *;have HMS:=Lib.hid hms;rw [hplen];have m2:=h6.c2;have HX6:=Lib.hid hx;have hX6:ExtM (zaO J (.slice q0 st.a.length a0) (.slice q1 st.b.length a1)) u wr:=(hX5.mono (fun _ _ h=>h.elim):ExtM (zaO J (.slice q0 st.a.length a0) (.slice q1 st.b.length a1)) u w5).fresh' hx (fun k _ hk=>.inr (.inr hk));clear k hms hplen hR1 hR2 hR3 hall htk hi' hil hgk h5 HCL HLN B0 B1 B2;go_upto_region 27 with fail;go_cut [161] (fun s161 wx=>s161 = .bool (decide (ms.length = 0) && zai md 0) /\ wx = wr)
           case first =>
            by_cases hm0:ms.length = 0
            . have d0:((ms.length:Int) == 0) = true:=by simp [hm0]
              have HM0:=Lib.hid hm0;clear hm0;go_wp2_with (go_at_call 84;refine (zih J md 0 _ (by omega) m2).mono ?_;rintro e w' ⟨rfl,rfl⟩);go_meet
              case rel=>exact ⟨by simp [HM0.out],rfl⟩
            . have d0:((ms.length:Int) == 0) = false:=by simp [hm0]
              have HM0:=Lib.hid hm0;clear hm0;go_wp2_with fail;go_meet
              case rel=>exact ⟨by simp [HM0.out],rfl⟩
           case rest =>
            obtain ⟨rfl,rfl⟩:=hcut;generalize hq:(decide (ms.length = 0) && zai md 0) = tq at *;have HQ:=Lib.hid hq;clear hq;go_upto_if 161 with fail;have hfl:=zaK md 0 ⟨rk,rt,rv⟩ ms;have hge:∀ k,u12.ownBlock = some k -> w5.heap.size <= k:=fun k hk=>(zaf hout k hk).1;have hsw:w5.heap.size <= wc.heap.size:=HX6.out.size;go_cut [12] (fun s12 wx=>ExtM (fun k=>w5.heap.size <= k) wc wx /\ CRow wx w5.heap.size s12 (chgs md 0 ⟨rk,rt,rv⟩ ms))
            case first =>
             cases tq
             . go_wp2_with fail;go_meet
               case rel =>
                refine ⟨ExtM.refl _,?_⟩;rw [zbD,HQ.out,if_neg (by decide),List.append_nil];exact hout
             . go_wp2_with (first
                | (go_at_call 34
                   refine (ziH _ _ _ _).mono ?_;rintro e w6 ⟨rfl,hx6⟩;have hl6:(ms.flatMap (chg1 md 0 ⟨rk,rt,rv⟩)).length < 1000000:=by omega
                   obtain ⟨v',w',happ,hown',hgr',-⟩:=zat (w6.alloc (.cells #[.int .i64 rk,.int .i64 rk,.int .i64 rt,.int .i64 rv,.int .i64 0,.int .i64 0,.int .i64 0,.bool true,.bool false,.bool false] 92)) w5.heap.size w6.heap.size 1 u12 _ (zan 0 ⟨rk,rt,rv⟩,false) 33 (hout.of (hx6.alloc _)) (zdD w6 (zan 0 ⟨rk,rt,rv⟩,false)) hl6 (by have:=hx6.size;simp;omega)
                   have HG':=Lib.hid (ExtM.fresh' ((hx6.alloc _).mono (fun _ _ h=>h.elim):ExtM (fun k=>w5.heap.size <= k) _ _) hgr' (fun k hk e=>hge k e)))
                | (at_builtin;refine wpList_append_run happ rfl rfl _ _ rfl rfl rfl ?_;clear happ))
               go_meet
               case rel =>
                refine ⟨HG'.out,?_⟩;rw [zbD,HQ.out,if_pos rfl];exact hown'
            case rest =>
             obtain ⟨hxc,hrowt⟩:=hcut;have h7:=h6.extM hxc (fun e=>by have e':w5.heap.size <= J:=e;omega) (fun k hk e=>by have e':w5.heap.size <= k:=e;have:=nB k (.inr (.inl hk));omega) (fun k hk e=>by have e':w5.heap.size <= k:=e;have:=nB k (.inr (.inr hk));omega);have k:=fun q=>hxc.cell (p:=⟨u.heap.size,q,none⟩) lB6 (fun h=>by have h':w5.heap.size <= u.heap.size:=h;omega);have C0:=(k _).trans b0;have C1:=(k _).trans b1;have C2:=(k _).trans b2;have hX7:=hX6.fresh' hxc (fun k hk e=>by have e':w5.heap.size <= k:=e;omega);have hb5:u.heap.size <= w5.heap.size:=hX5.size;clear k b0 b1 b2 hxc h6 hge hfl hout hX6 hx;go_upto_region 29 with fail;cases hb with
             | false =>
               go_wp2_with fail;go_ret2;have e1:=HT.out;have e2:=HF.out;have e3:=HBE.out;subst e1 e2;refine zdG HE.out HR1.out HR2.out HMS.out hrowt hb5 ?_;rw [zeJ HE.out (by simpa using e3)];exact ⟨hX7,_,⟨_,_,h7,rfl⟩,fun k hk=>.inl hk⟩
             | true =>
               have hlt:st.a.length < 300:=by
                have h1:=HFU.out;simp at h1;omega
               go_wp2_with (
                go_at_call 78;refine (znh J 0 _ st.a st.came rk rt rv _ _ h7.j0 (by omega) hcm).mono ?_
                rintro e w8 ⟨rfl,hu⟩)
               go_ret2;have e1:=HT.out;have e2:=HF.out;have e3:=HBE.out;subst e1 e2;have hu2:=h7.up0 hu;have hrow8:=zag hrowt hu2.1 (fun k hk e=>by have h1:=(zaf hrowt k hk).1;have h2:=nB k e;omega);refine zdG HE.out HR1.out HR2.out HMS.out hrow8 hb5 ?_;rw [zej HE.out (by simpa using e3)];have h9:RUp u w8 J (zaO J (.slice q0 st.a.length a0) (.slice q1 st.b.length a1)) lo hi md _:=RUp.trans hX7 (fun k hk=>.inl hk) hu2;rw [<- HCNT.out];exact h9
def zdO (lo hi:Int) (s:Int) (r:Row) (st:JSt):Int:=if s = 0 then feedE lo hi 0 r st.x st.y st.a.length else if s = 1 then feedE lo hi 1 r st.x st.y st.b.length else 1
def zcR (lo hi md:Int) (s:Int) (r:Row) (st:JSt):List (Out × Bool):=if s = 0 then zaj lo hi md 0 r st else if s = 1 then zaj lo hi md 1 r st else []
def zgm (lo hi:Int) (s:Int) (r:Row) (st:JSt):JSt:=if s = 0 then zam lo hi 0 r st else if s = 1 then zam lo hi 1 r st else st
def zhq (lo hi:Int) (s:Int) (r:Row) (st:RSt):RSt:=if s = 0 then za4 lo hi 0 r st else if s = 1 then za4 lo hi 1 r st else st
def zqp (s:Int) (x:Hd) (st:JSt):JSt:=if s = 0 then putJ 0 x st else if s = 1 then putJ 1 x st else st
def zqH (s:Int) (x:Hd) (st:RSt):RSt:=if s = 0 then zrm 0 x st else if s = 1 then zrm 1 x st else st
def mvJ (lo hi:Int) (s t:Int) (st:JSt):JSt:=if zpG s t st.x st.y = 0 then (if s = 0 then zbr lo hi 0 t st else zbr lo hi 1 t st) else st
def mvR (lo hi:Int) (s t:Int) (st:RSt):RSt:=if zpG s t st.x st.y = 0 then (if s = 0 then zbS lo hi 0 t st else zbS lo hi 1 t st) else st
structure zce (st:JSt) (rs:RSt) (n:Nat):Prop where
 rel:RelJ st rs
 la:rs.a.length <= 300
 lb:rs.b.length <= 300
 ta:za1 rs.a
 tb:za1 rs.b
 c0:0 <= rs.came
 c1:rs.came <= (n:Int)
theorem zce.more {st:JSt} {rs:RSt} {n:Nat} (h:zce st rs n):zce st rs (n + 1):=⟨h.rel,h.la,h.lb,h.ta,h.tb,h.c0,by have:=h.c1;push_cast;omega⟩
theorem zce.a {st:JSt} {rs:RSt} {n:Nat} (h:zce st rs n):st.a.length = rs.a.length:=h.rel.len 0
theorem zce.b {st:JSt} {rs:RSt} {n:Nat} (h:zce st rs n):st.b.length = rs.b.length:=h.rel.len 1
theorem za1.add {L:List RHd} (h:za1 L) {x:RHd} (hx:-1099511627776 <= x.r.t /\ x.r.t <= 1099511627776):za1 (L ++ [x]):=fun y hy=>by
 rcases List.mem_append.1 hy with hy | hy
 . exact h y hy
 . rw [List.mem_singleton.1 hy];exact hx
theorem za1.map {L:List RHd} (h:za1 L) (p:Hd -> Bool):za1 (L.map (bumpQ p)):=fun y hy=>by
 obtain ⟨x,hx,rfl⟩:=List.mem_map.1 hy;rw [(zfw p x).1];exact h x hx
theorem za1.filter {L:List RHd} (h:za1 L) (p:RHd -> Bool):za1 (L.filter p):=fun y hy=>h y ((List.mem_filter.1 hy).1)
theorem zlB {lo hi:Int} {s:Nat} {r:Row} {x y:Int} {own:Nat} (h:feedE lo hi s r x y own = 0):za3 r.k r.t r.v = true /\ (tilI lo hi s r.t > (if s = 0 then y else x) -> own < 300):=by
 unfold feedE at h;by_cases h1:za3 r.k r.t r.v = false
 . rw [if_pos h1] at h;cases h
 rw [if_neg h1] at h;by_cases h2:r.t <= (if s = 0 then x else y)
 . rw [if_pos h2] at h;cases h
 rw [if_neg h2] at h;by_cases h3:tilI lo hi s r.t > (if s = 0 then y else x) /\ 300 <= own
 . rw [if_pos h3] at h;cases h
 . exact ⟨by simpa using h1,fun h4=>by omega⟩
theorem zge {lo hi:Int} {s:Nat} (hs:s < 2) {r:Row} {rs:RSt} {n:Nat} (la:rs.a.length <= 300) (lb:rs.b.length <= 300) (ta:za1 rs.a) (tb:za1 rs.b) (c0:0 <= rs.came) (c1:rs.came <= (n:Int)) :
 (za4 lo hi s r rs).a.length <= 300 /\ (za4 lo hi s r rs).b.length <= 300 /\ za1 (za4 lo hi s r rs).a /\ za1 (za4 lo hi s r rs).b /\ 0 <= (za4 lo hi s r rs).came /\ (za4 lo hi s r rs).came <= ((n + 1:Nat):Int):=by
 have hs':s = 0 \/ s = 1:=by omega
 by_cases h10:feedE lo hi s r rs.x rs.y (rs.of s).length = 10
 . have e:za4 lo hi s r rs = { rs with late:=wrap64 (rs.late + 1) }:=by unfold za4;exact if_pos h10
   rw [e];exact ⟨la,lb,ta,tb,c0,by push_cast;omega⟩
 by_cases h0:feedE lo hi s r rs.x rs.y (rs.of s).length = 0
 . obtain ⟨hg,hf⟩:=zlB h0;have ht:=zcr hg;rcases hs' with rfl | rfl
   . by_cases hb:tilI lo hi 0 r.t > rs.y
     . rw [zej h0 hb]
       have:=hf hb
       have e:(rs.of 0).length = rs.a.length:=rfl;exact ⟨by simp;omega,by simp;omega,ta.add ht,tb.map _,by show 0 <= rs.came + 1;omega,by show rs.came + 1 <= _;push_cast;omega⟩
     . rw [zeJ h0 hb];exact ⟨la,by simp;omega,ta,tb.map _,c0,by show rs.came <= _;push_cast;omega⟩
   . by_cases hb:tilI lo hi 1 r.t > rs.x
     . rw [zef h0 hb]
       have:=hf hb
       have e:(rs.of 1).length = rs.b.length:=rfl;exact ⟨by simp;omega,by simp;omega,ta.map _,tb.add ht,by show 0 <= rs.came + 1;omega,by show rs.came + 1 <= _;push_cast;omega⟩
     . rw [zeE h0 hb];exact ⟨by simp;omega,lb,ta.map _,tb,c0,by show rs.came <= _;push_cast;omega⟩
 . have e:za4 lo hi s r rs = rs:=by unfold za4;exact (if_neg h10).trans (if_neg h0)
   rw [e];exact ⟨la,lb,ta,tb,c0,by push_cast;omega⟩
theorem zce.feed {st:JSt} {rs:RSt} {n:Nat} (h:zce st rs n) (lo hi s:Int) (r:Row):zce (zgm lo hi s r st) (zhq lo hi s r rs) (n + 1):=by
 unfold zgm zhq;by_cases h0:s = 0
 . rw [if_pos h0,if_pos h0];obtain ⟨a,b,c,d,e,f⟩:=zge (lo:=lo) (hi:=hi) (s:=0) (r:=r) (by omega) h.la h.lb h.ta h.tb h.c0 h.c1;exact ⟨zgv h.rel lo hi 0 (by omega) r,a,b,c,d,e,f⟩
 rw [if_neg h0,if_neg h0];by_cases h1:s = 1
 . rw [if_pos h1,if_pos h1];obtain ⟨a,b,c,d,e,f⟩:=zge (lo:=lo) (hi:=hi) (s:=1) (r:=r) (by omega) h.la h.lb h.ta h.tb h.c0 h.c1;exact ⟨zgv h.rel lo hi 1 (by omega) r,a,b,c,d,e,f⟩
 rw [if_neg h1,if_neg h1];exact h.more
theorem zqo {L:List RHd} {x:Hd} {came:Int} (h:L.length <= 300) (ht:za1 L):(putL L x came).length <= 300 /\ za1 (putL L x came):=by
 unfold putL;by_cases he:addE (L.map RHd.hd) x = 0
 . rw [if_pos he,List.length_append,List.length_singleton];unfold addE at he;rw [List.length_map] at he;by_cases h1:(za3 x.r.k x.r.t x.r.v && decide (0 <= x.m)) = false
   . rw [if_pos h1] at he;omega
   . rw [if_neg h1] at he;have hg:za3 x.r.k x.r.t x.r.v = true:=by
      cases hh:za3 x.r.k x.r.t x.r.v
      . exact absurd (by rw [hh];rfl) h1
      . rfl
     by_cases h2:300 <= L.length
     . rw [if_pos h2] at he;omega
     . exact ⟨by omega,ht.add (zcr hg)⟩
 . rw [if_neg he];exact ⟨h,ht⟩
theorem zce.put {st:JSt} {rs:RSt} {n:Nat} (h:zce st rs n) (s:Int) (x:Hd):zce (zqp s x st) (zqH s x rs) (n + 1):=by
 unfold zqp zqH;have hc0:=h.c0;have hc1:=h.c1;by_cases h0:s = 0
 . rw [if_pos h0,if_pos h0]
   have:=zql (L:=rs.a) (x:=x) (came:=rs.came)
   exact ⟨(zq4 h.rel 0 (by omega) x).1,(zqo h.la h.ta).1,h.lb,(zqo h.la h.ta).2,h.tb,by show 0 <= putN _ _ _;exact Int.le_trans hc0 this.1,by show putN rs.a x rs.came <= _;push_cast;omega⟩
 rw [if_neg h0,if_neg h0];by_cases h1:s = 1
 . rw [if_pos h1,if_pos h1]
   have:=zql (L:=rs.b) (x:=x) (came:=rs.came)
   exact ⟨(zq4 h.rel 1 (by omega) x).1,h.la,(zqo h.lb h.tb).1,h.ta,(zqo h.lb h.tb).2,by show 0 <= putN _ _ _;exact Int.le_trans hc0 this.1,by show putN rs.b x rs.came <= _;push_cast;omega⟩
 rw [if_neg h1,if_neg h1];exact h.more
theorem zce.move {st:JSt} {rs:RSt} {n:Nat} (h:zce st rs n) (lo hi s t:Int):zce (mvJ lo hi s t st) (mvR lo hi s t rs) (n + 1):=by
 have hm:∀ s':Nat,(zbS lo hi s' t rs).a.length <= 300 /\ (zbS lo hi s' t rs).b.length <= 300 /\ za1 (zbS lo hi s' t rs).a /\ za1 (zbS lo hi s' t rs).b /\ (zbS lo hi s' t rs).came = rs.came:=fun s'=>by
  unfold zbS;split
  . exact ⟨h.la,Nat.le_trans (List.length_filter_le _ _) h.lb,h.ta,h.tb.filter _,rfl⟩
  . exact ⟨Nat.le_trans (List.length_filter_le _ _) h.la,h.lb,h.ta.filter _,h.tb,rfl⟩
 have hc0:=h.c0;have hc1:=h.c1;have go:∀ s':Nat,zce (zbr lo hi s' t st) (zbS lo hi s' t rs) (n + 1):=fun s'=>by
  obtain ⟨a,b,c,d,e⟩:=hm s';exact ⟨zkY h.rel lo hi s' t,a,b,c,d,by rw [e];exact hc0,by rw [e];push_cast;omega⟩
 unfold mvJ mvR;rw [h.rel.x,h.rel.y];split
 . split
   . exact go 0
   . exact go 1
 . exact h.more
theorem zce.chg {st:JSt} {rs:RSt} {n:Nat} (h:zce st rs n) (s:Nat) (R:List RHd) (h1:R.Perm (rs.of s)) (h2:R.Pairwise (fun a b=>¬ ltR b a)):st.of s = R.map RHd.hd:=by
 obtain ⟨S,hS⟩:=h.rel.of s;rw [hS.eq,zhz hS.srt (h1.trans hS.perm.symm) h2]
structure JX (w u:World) (P M J:Nat) (lo hi md:Int) (Av Bs Cs:Nat -> Prop) (st:JSt) (rs:RSt):Prop where
 ext:Ext w u
 j:JAt u P M Bs lo hi md st
 r:RAt u J Cs lo hi md rs
 nB:∀ k,Bs k -> w.heap.size <= k /\ ¬ Cs k /\ ¬ Av k
 nC:∀ k,Cs k -> w.heap.size <= k /\ ¬ Av k
 av:∀ b,Av b -> b < u.heap.size
section
variable {w u u':World} {P M J:Nat} {lo hi md:Int} {Av Bs Cs:Nat -> Prop} {st:JSt} {rs:RSt}
theorem JX.of (h:JX w u P M J lo hi md Av Bs Cs st rs) (hx:Ext u u'):JX w u' P M J lo hi md Av Bs Cs st rs :=
 ⟨ExtM.trans _ _ _ h.ext hx,h.j.ext hx,h.r.ext hx,h.nB,h.nC,fun b hb=>Nat.lt_of_lt_of_le (h.av b hb) hx.size⟩
variable {n:Nat}
end
end Go.Proofs.YtmcgnnmffeojpabGreatDoor
