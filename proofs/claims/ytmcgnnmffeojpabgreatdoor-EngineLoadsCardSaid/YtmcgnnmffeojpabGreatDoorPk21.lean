import Derived.Test.YtmcgnnmffeojpabGreatDoorPk20
set_option maxRecDepth 100000
set_option maxHeartbeats 8000000
namespace Go.Proofs.YtmcgnnmffeojpabGreatDoor
open Go.RowKit Go.Plan
theorem zog (u:World) (P M:Nat) (v0 v1:Value) (lo hi md:Int) (st:JSt) (rk rt rv:Int) (h:JIs u P M v0 v1 lo hi md st) (hp:zay lo hi) (hl0:st.a.length <= 300) (hl1:st.b.length <= 300) :
 Calls Tryz.prog 43 #[.pointer (some ⟨P,0,none⟩),.int .i64 0,.agg #[.int .i64 rk,.int .i64 rt,.int .i64 rv]] u (zbG u P M v0 v1 lo hi md 0 ⟨rk,rt,rv⟩ st):=by
 have hxb:Ext u (u.alloc (.cells #[.int .i64 rk,.int .i64 rt,.int .i64 rv] 37)):=(ExtM.refl u).alloc _;have lP:=h.lt;have hgd:=fun w=>zdq rk rt rv w;cases hg:za3 rk rt rv with
 | false =>
   rw [hg] at hgd;go_enter Tryz.func43,Tryz.ntmps43;go_wp2_with (go_at_call 85;refine (hgd _).mono ?_;rintro e w1 ⟨rfl,hx1⟩);go_ret2;exact zdM h (ExtM.trans _ _ _ hxb hx1) 1 (by unfold feedE;rw [if_pos hg]) (by decide) (by decide)
 | true =>
   rw [hg] at hgd;have hb1:(u.alloc (.cells #[.int .i64 rk,.int .i64 rt,.int .i64 rv] 37)).cell? ⟨u.heap.size,1,none⟩ = some (.int .i64 rt):=by go_simp
   have hb0:(u.alloc (.cells #[.int .i64 rk,.int .i64 rt,.int .i64 rv] 37)).cell? ⟨u.heap.size,0,none⟩ = some (.int .i64 rk):=by go_simp
   have hb2:(u.alloc (.cells #[.int .i64 rk,.int .i64 rt,.int .i64 rv] 37)).cell? ⟨u.heap.size,2,none⟩ = some (.int .i64 rv):=by go_simp
   have lB:u.heap.size < (u.alloc (.cells #[.int .i64 rk,.int .i64 rt,.int .i64 rv] 37)).heap.size:=by simp
   go_enter Tryz.func43,Tryz.ntmps43;go_wp2_with (go_at_call 85;refine (hgd _).mono ?_;rintro e w1 ⟨rfl,hx1⟩);have hX1:=ExtM.trans _ _ _ hxb hx1;have h1:=h.ext hX1;have k:=fun q=>hx1.cell (p:=⟨u.heap.size,q,none⟩) lB (fun h=>h);have e0:=(k _).trans hb0;have e1:=(k _).trans hb1;have e2:=(k _).trans hb2;have lB1:u.heap.size < w1.heap.size:=Nat.lt_of_lt_of_le lB hx1.size;have lP1:=h1.lt;have c5:=h1.c5;have c6:=h1.c6;have f6:=h1.f6;clear k hb0 hb1 hb2 lB hxb hx1;by_cases hlate:rt <= st.x
   . have hE:feedE lo hi 0 ⟨rk,rt,rv⟩ st.x st.y (st.of 0).length = 10:=by rw [zcM hg,if_pos hlate]
     refine Plan.b0 Plan.Ext 9 ?_;refine Plan.qs 7 [0,1,2,3,4,5,6] ?_;iterate 7 go_big_quiet_step (fail)
     refine Plan.o1 7 fun K hK=>?_;go_wp2_with (fail);refine (zfu M 0 rt st.x st.y true _ (h1.mks.ofE (ExtM.refl _).drew) (by simp [ofI,hlate])).mono ?_;rintro e w1 ⟨rfl,h1⟩;have H1:=ExtM.trans _ _ _ (ExtM.refl _).drew h1;obtain ⟨hc1,hf1,-⟩:=Ext.rules H1;have hs1_0:P < w1.heap.size:=by have:=H1.size;(try simp at this);omega
     have hs1_1:u.heap.size < w1.heap.size:=by have:=H1.size;(try simp at this);omega
     go_wp2_with (fail);refine hK _ _ h1 ?_;clear hK K;refine Plan.qs 1 [8] ?_;go_big_quiet_step (fail);refine Plan.dn ?_;have c6':=(hc1 _ _ lP1).trans c6;have f6':=(hf1 _ _ lP1).trans f6;clear hc1 hf1;go_wp2_with fail;go_ret2;exact zgb h (ExtM.trans _ _ _ hX1 H1) hE
   . have ht:=zcr hg;refine Plan.b0 Plan.Ext 9 ?_;refine Plan.qs 7 [0,1,2,3,4,5,6] ?_;iterate 7 go_big_quiet_step (fail)
     refine Plan.o1 7 fun K hK=>?_;go_wp2_with (fail);refine (zfu M 0 rt st.x st.y false _ (h1.mks.ofE (ExtM.refl _).drew) (by simp [ofI];omega)).mono ?_;rintro e w2 ⟨rfl,h2⟩;have H2:=ExtM.trans _ _ _ (ExtM.refl _).drew h2;obtain ⟨hc2,hf2,-⟩:=Ext.rules H2;have hs2_0:P < w2.heap.size:=by have:=H2.size;(try simp at this);omega
     have hs2_1:u.heap.size < w2.heap.size:=by have:=H2.size;(try simp at this);omega
     go_wp2_with (fail);refine hK _ _ h2 ?_;clear hK K;refine Plan.qs 1 [8] ?_;go_big_quiet_step (fail);refine Plan.dn ?_;have hX2:=ExtM.trans _ _ _ hX1 H2;have h2:=h1.ext H2;have k:=fun q=>hc2 u.heap.size q lB1;have a0:=(k _).trans e0;have a1:=(k _).trans e1;have a2:=(k _).trans e2;have lB2:=hs2_1;have lP2:=h2.lt;have c5':=h2.c5;clear k hc2 hf2 e0 e1 e2 c5 c6 f6
     go_upto_region 8 with (first
      | (go_at_call 87
         refine (zns P lo hi rt 0 _ (by omega) hp ht h2.c0 h2.c1).mono ?_;rintro e w3 ⟨rfl,hx3⟩
         have c53:=(h2.ext hx3).c5)
      | (go_at_call 88
         refine (zpw M 1 st.x st.y st.y _ (h2.ext hx3).mks rfl).mono ?_
         rintro e w4 ⟨rfl,rfl⟩))
     have hX3:=ExtM.trans _ _ _ hX2 hx3;have h3:=h2.ext hx3;have k:=fun q=>hx3.cell (p:=⟨u.heap.size,q,none⟩) lB2 (fun h=>h);have b0:=(k _).trans a0;have b1:=(k _).trans a1;have b2:=(k _).trans a2;have lB3:u.heap.size < w3.heap.size:=Nat.lt_of_lt_of_le lB2 hx3.size;have lP3:=h3.lt;have nB:∀ k,zaE P M v0 v1 k -> k ≠ u.heap.size:=fun k hk=>by have:=h.foot k hk;omega
     clear k a0 a1 a2 c5' c53 lB2 lP2 lB1 lP1 hX1 hX2 h2 H2 hx3 h1 hs2_0 hs2_1;generalize hT:tilI lo hi 0 rt = T at *;generalize hF:frI lo hi 0 rt = F at *;generalize hbE:decide (st.y < T) = hb at *;have HT:=Lib.hid hT;have HF:=Lib.hid hF;have HBE:=Lib.hid hbE;have HG:=Lib.hid hg;have HLA:=Lib.hid hlate;clear hT hF hbE hg hlate;have hm:=zia P 3 v0 st.a _ h3.s0;go_cut [71] (fun s71 wx=>s71 = .bool (hb && decide ((300:Int) <= (st.a.length:Int))) /\ wx = w3)
     case first =>
      cases hb
      . go_wp2_with fail;go_meet
        case rel=>exact ⟨by simp,rfl⟩
      . go_wp2_with (go_at_call 89;refine hm.mono ?_;rintro e w' ⟨rfl,rfl⟩);go_meet
        case rel=>exact ⟨by simp,rfl⟩
     case rest =>
      obtain ⟨rfl,rfl⟩:=hcut;cases hfull:(hb && decide ((300:Int) <= (st.a.length:Int))) with
      | true =>
        have hE:feedE lo hi 0 ⟨rk,rt,rv⟩ st.x st.y (st.of 0).length = 12:=by
         simp only [Bool.and_eq_true,decide_eq_true_eq] at hfull;have h1:=HBE.out;rw [hfull.1] at h1;have h2:st.y < T:=by simpa using h1
         rw [zcM HG.out,if_neg (by have:=HLA.out;omega),HT.out,if_pos];exact ⟨h2,by show 300 <= st.a.length;omega⟩
        go_wp2_with fail;go_ret2;exact zdM h hX3 12 hE (by decide) (by decide)
      | false =>
        have hE:feedE lo hi 0 ⟨rk,rt,rv⟩ st.x st.y (st.of 0).length = 0:=by
         rw [zcM HG.out,if_neg (by have:=HLA.out;omega),HT.out,if_neg];rintro ⟨h1,h2⟩;have h3:=HBE.out;have h2':300 <= st.a.length:=h2;rw [<- h3] at hfull;simp only [Bool.and_eq_false_iff,decide_eq_false_iff_not] at hfull;omega
        have nb1:v1.ownBlock ≠ some u.heap.size:=fun e=>nB _ (.inr (.inr (.inr e))) rfl;have nb0:v0.ownBlock ≠ some u.heap.size:=fun e=>nB _ (.inr (.inr (.inl e))) rfl;have HFU:=Lib.hid hfull;have HE:=Lib.hid hE;clear hfull hE;go_wp2_with fail;refine Plan.b0 (Plan.ExtK u.heap.size) 12 ?_;refine Plan.qs 10 [0,1,2,3,4,5,6,7,8,9] ?_;iterate 10 go_big_quiet_step (fail)
        refine Plan.o1 10 fun K hK=>?_;go_wp2_with (fail);refine (zka u.heap.size P 4 v1 st.b rk F T _ (h3.s1.ext (ExtM.refl _).drew) (by omega) nb1).mono ?_;rintro e w5 ⟨vo,rfl,hmr,hS,hxo,h5⟩;have H5:=ExtK.trans _ _ _ (ExtK.refl _).drew h5;obtain ⟨hc5,hf5,-⟩:=ExtK.rules H5;have hs5_0:u.heap.size < w5.heap.size:=by have:=H5.size;(try simp at this);omega
        go_wp2_with (fail);refine hK _ _ h5 ?_;clear hK K;refine Plan.qs 1 [11] ?_;go_big_quiet_step (fail);refine Plan.dn ?_;have hxo:ExtM (fun k=>v1.ownBlock = some k) wc w5:=⟨hxo.os,hxo.tape,hxo.output,hxo.size,hxo.block⟩
        have h5:=h3.met1 hS hxo;have hXo:ExtM (zaE P M v0 v1) u w5:=(hX3.mono (fun _ _ h=>h.elim):ExtM (zaE P M v0 v1) u wc).fresh' hxo (fun k _ hk=>.inr (.inr (.inr hk)));have k:=fun q=>hc5 q lB3;have b0':=(k _).trans b0;have b1':=(k _).trans b1;have b2':=(k _).trans b2;clear k hc5 hf5 b0 b1 b2 hm h3 hS hxo H5;have lB5:=hs5_0;have lP5:=h5.lt;have hmd:=h5.c2;obtain ⟨pm,cm,rfl,-⟩:=zaa hmr;have hmle:(st.b.filter (zab rk F T)).length <= 300:=Nat.le_trans (List.length_filter_le _ _) hl1;generalize hms:st.b.filter (zab rk F T) = ms at *;have HMS:=Lib.hid hms;clear hms;go_wp2_with fail;go_loopg [11,86] (ms.length + 1) (fun kx s11 s86 wr=>∃ i:Nat,s86 = .int .i64 i /\ i <= ms.length /\ ms.length - i <= kx /\ Ext w5 wr /\ CRow wr w5.heap.size s11 ((ms.take i).flatMap (chg1 md 0 ⟨rk,rt,rv⟩)))
        case atStart=>exact ⟨0,rfl,by omega,by omega,ExtM.refl _,nilC _ _⟩
        case round =>
         obtain ⟨i,rfl,hin,hgk,hx,hrow⟩:=hrel;by_cases hil:i < ms.length
         . skip;obtain ⟨g,mc,e',hgl,y0,y1,y2,y3⟩:=zc9 (zag hmr hx (fun _ _ h=>h):MRow wr _ _ _) i ms[i] (List.getElem?_eq_getElem hil);simp only [Value.slice.injEq,true_and] at e';obtain ⟨rfl,rfl⟩:=e';have HTK:=Lib.hid (List.take_succ_eq_append_getElem hil);have hfl:=zaK md 0 ⟨rk,rt,rv⟩ (ms.take i);rw [List.length_take] at hfl;generalize ms[i] = m at *;have k:=fun q=>hx.cell (p:=⟨u.heap.size,q,none⟩) lB5 (fun h=>h);have b0:=(k _).trans b0';have b1:=(k _).trans b1';have b2:=(k _).trans b2';have lB6:u.heap.size < wr.heap.size:=Nat.lt_of_lt_of_le lB5 hx.size;have hmd':=(hx.cell (p:=⟨P,2,none⟩) lP5 (fun h=>h)).trans hmd;have lP6:P < wr.heap.size:=Nat.lt_of_lt_of_le lP5 hx.size;clear k;go_upto_region 15 with fail;have hxm:Ext wr (wr.alloc (.cells #[.int .i64 m.r.k,.int .i64 m.r.t,.int .i64 m.r.v,.int .i64 m.m] 131)):=(ExtM.refl wr).alloc _;have n0:(wr.alloc (.cells #[.int .i64 m.r.k,.int .i64 m.r.t,.int .i64 m.r.v,.int .i64 m.m] 131)).cell? ⟨wr.heap.size,0,none⟩ = some (.int .i64 m.r.k):=by go_simp
           have n1:(wr.alloc (.cells #[.int .i64 m.r.k,.int .i64 m.r.t,.int .i64 m.r.v,.int .i64 m.m] 131)).cell? ⟨wr.heap.size,1,none⟩ = some (.int .i64 m.r.t):=by go_simp
           have n2:(wr.alloc (.cells #[.int .i64 m.r.k,.int .i64 m.r.t,.int .i64 m.r.v,.int .i64 m.m] 131)).cell? ⟨wr.heap.size,2,none⟩ = some (.int .i64 m.r.v):=by go_simp
           have n3:(wr.alloc (.cells #[.int .i64 m.r.k,.int .i64 m.r.t,.int .i64 m.r.v,.int .i64 m.m] 131)).cell? ⟨wr.heap.size,3,none⟩ = some (.int .i64 m.m):=by go_simp
           have lm:wr.heap.size < (wr.alloc (.cells #[.int .i64 m.r.k,.int .i64 m.r.t,.int .i64 m.r.v,.int .i64 m.m] 131)).heap.size:=by simp
           have hxw:Ext w5 (wr.alloc (.cells #[.int .i64 m.r.k,.int .i64 m.r.t,.int .i64 m.r.v,.int .i64 m.m] 131)):=ExtM.trans _ _ _ hx hxm;have k:=fun q=>hxm.cell (p:=⟨u.heap.size,q,none⟩) lB6 (fun h=>h);have B0:=(k _).trans b0;have B1:=(k _).trans b1;have B2:=(k _).trans b2;have hmdm:=(hxm.cell (p:=⟨P,2,none⟩) lP6 (fun h=>h)).trans hmd';have hrowm:=hrow.of hxm;have lBm:u.heap.size < (wr.alloc (.cells #[.int .i64 m.r.k,.int .i64 m.r.t,.int .i64 m.r.v,.int .i64 m.m] 131)).heap.size:=Nat.lt_of_lt_of_le lB6 hxm.size;clear k b0 b1 b2 hmd' hxm y0 y1 y2 y3;generalize wr.alloc (.cells #[.int .i64 m.r.k,.int .i64 m.r.t,.int .i64 m.r.v,.int .i64 m.m] 131) = Wm at *;have hsw:w5.heap.size <= wr.heap.size:=hx.size;have hge:∀ k,u11.ownBlock = some k -> w5.heap.size <= k /\ k ≠ wr.heap.size:=fun k hk=>⟨(zaf hrow k hk).1,by have:=(zaf hrow k hk).2;omega⟩
           clear hrow;generalize wr.heap.size = Bm at *;go_cut [98] (fun s98 wx=>s98 = .bool (decide (m.m = 0) && zai md 1) /\ wx = Wm)
           case first =>
            by_cases hm0:m.m = 0
            . have d0:(m.m == 0) = true:=by simp [hm0]
              have HM0:=Lib.hid hm0;clear hm0;go_wp2_with (go_at_call 91;refine (zi4 P md _ hmdm).mono ?_;rintro e w' ⟨rfl,rfl⟩);go_meet
              case rel=>exact ⟨by simp [HM0.out],rfl⟩
            . have d0:(m.m == 0) = false:=by simp [hm0]
              have HM0:=Lib.hid hm0;clear hm0;go_wp2_with fail;go_meet
              case rel=>exact ⟨by simp [HM0.out],rfl⟩
           case rest =>
            obtain ⟨rfl,rfl⟩:=hcut;generalize hq:(decide (m.m = 0) && zai md 1) = q at *;have HQ:=Lib.hid hq;clear hq;go_upto_if 98 with fail;go_cut [11] (fun s11 wx=>ExtM (fun k=>w5.heap.size <= k /\ k ≠ Bm) wc wx /\ CRow wx w5.heap.size s11 ((ms.take i).flatMap (chg1 md 0 ⟨rk,rt,rv⟩) ++ (if q = true then [(zan 1 m.r,true)] else [])))
            case first =>
             cases q
             . go_wp2_with fail;go_meet
               case rel=>exact ⟨ExtM.refl _,by simpa using hrowm⟩
             . go_wp2_with (first
                | (go_at_call 92
                   refine (zfN _ _ _ _).mono ?_;rintro e w6 ⟨rfl,hx6⟩;have hl6:((ms.take i).flatMap (chg1 md 0 ⟨rk,rt,rv⟩)).length < 1000000:=by omega
                   obtain ⟨v',w',happ,hown',hgr',-⟩:=zat (w6.alloc (.cells #[.int .i64 m.r.k,.int .i64 0,.int .i64 0,.int .i64 0,.int .i64 m.r.k,.int .i64 m.r.t,.int .i64 m.r.v,.bool false,.bool true,.bool true] 92)) w5.heap.size w6.heap.size 1 u11 _ (zan 1 m.r,true) 33 (hrowm.of (hx6.alloc _)) (zdD w6 (zan 1 m.r,true)) hl6 (by have:=hx6.size;have:=hxw.size;simp;omega)
                   have HG':=Lib.hid (ExtM.fresh' ((hx6.alloc _).mono (fun _ _ h=>h.elim):ExtM (fun k=>w5.heap.size <= k /\ k ≠ Bm) _ _) hgr' (fun k hk e=>hge k e)))
                | (at_builtin;refine wpList_append_run happ rfl rfl _ _ rfl rfl rfl ?_;clear happ))
               go_meet
               case rel=>exact ⟨HG'.out,hown'⟩
            case rest =>
             obtain ⟨hxc,hrowc⟩:=hcut;have k:=fun q=>hxc.cell (p:=⟨u.heap.size,q,none⟩) lBm (fun h=>by have:=h.1;simp at this;omega);have C0:=(k _).trans B0;have C1:=(k _).trans B1;have C2:=(k _).trans B2;have k2:=fun q=>hxc.cell (p:=⟨Bm,q,none⟩) lm (fun h=>h.2 rfl);have N0:=(k2 _).trans n0;have N1:=(k2 _).trans n1;have N2:=(k2 _).trans n2;have hxw2:Ext w5 _:=hxw.fresh hxc (fun k hk e=>by omega);clear k k2 B0 B1 B2 n0 n1 n2 n3 hxc;have HXW:=Lib.hid hxw2;clear hxw2
             go_wp2_with (first
              | (go_at_call 93
                 refine (zkN _ _ _ _ _ _ _).mono ?_;rintro e w7 ⟨rfl,hx7⟩;have hl7:((ms.take i).flatMap (chg1 md 0 ⟨rk,rt,rv⟩) ++ (if q = true then [(zan 1 m.r,true)] else [])).length < 1000000:=by
                  rw [List.length_append];have:(if q = true then [(zan 1 m.r,true)] else []:List (Out × Bool)).length <= 1:=by split <;> simp
                  omega
                 obtain ⟨v',w',happ,hown',hgr',-⟩:=zat (w7.alloc (.cells #[.int .i64 rk,.int .i64 rk,.int .i64 rt,.int .i64 rv,.int .i64 m.r.k,.int .i64 m.r.t,.int .i64 m.r.v,.bool true,.bool true,.bool false] 92)) w5.heap.size w7.heap.size 1 _ _ (zbs ⟨rk,rt,rv⟩ m.r,false) 33 (hrowc.of (hx7.alloc _)) (zdD w7 (zbs ⟨rk,rt,rv⟩ m.r,false)) hl7 (by have:=hx7.size;have:=HXW.out.size;simp;omega)
                 have HG':=Lib.hid (ExtM.fresh' ((hx7.alloc _).mono (fun _ _ h=>h.elim):ExtM (fun k=>w5.heap.size <= k) _ _) hgr' (fun k hk e=>(zaf hrowc k e).1)))
              | (at_builtin;refine wpList_append_run happ rfl rfl _ _ rfl rfl rfl ?_;clear happ))
             go_roundg (ms.length - (i + 1))
             case measure=>omega
             case rel =>
              refine ⟨i + 1,by simp,by omega,by omega,HXW.out.fresh' HG'.out (fun k hk e=>by omega),?_⟩;rw [HTK.out,List.flatMap_append,List.flatMap_cons,List.flatMap_nil,List.append_nil,zf6,HQ.out,<- List.append_assoc];exact hown'
         . have hie:i = ms.length:=by omega
           subst hie;have hrow':=hrow;rw [List.take_length] at hrow';have k:=fun q=>hx.cell (p:=⟨u.heap.size,q,none⟩) lB5 (fun h=>h);have b0:=(k _).trans b0';have b1:=(k _).trans b1';have b2:=(k _).trans b2';have lB6:u.heap.size < wr.heap.size:=Nat.lt_of_lt_of_le lB5 hx.size;have hmd':=(hx.cell (p:=⟨P,2,none⟩) lP5 (fun h=>h)).trans hmd;have lP6:P < wr.heap.size:=Nat.lt_of_lt_of_le lP5 hx.size;have h6:=h5.ext hx;clear k hrow hgk hin hil;go_upto_region 21 with fail;go_cut [134] (fun s134 wx=>s134 = .bool (decide (ms.length = 0) && zai md 0) /\ wx = wr)
           case first =>
            by_cases hm0:ms.length = 0
            . have d0:((ms.length:Int) == 0) = true:=by simp [hm0]
              have HM0:=Lib.hid hm0;clear hm0;go_wp2_with (go_at_call 91;refine (zhL P md _ hmd').mono ?_;rintro e w' ⟨rfl,rfl⟩);go_meet
              case rel=>exact ⟨by simp [HM0.out],rfl⟩
            . have d0:((ms.length:Int) == 0) = false:=by simp [hm0]
              have HM0:=Lib.hid hm0;clear hm0;go_wp2_with fail;go_meet
              case rel=>exact ⟨by simp [HM0.out],rfl⟩
           case rest =>
            obtain ⟨rfl,rfl⟩:=hcut;generalize hq:(decide (ms.length = 0) && zai md 0) = q at *;have HQ:=Lib.hid hq;clear hq;go_upto_if 134 with fail;go_cut [11] (fun s11 wx=>ExtM (fun k=>w5.heap.size <= k) wc wx /\ Ext w5 wx /\ CRow wx w5.heap.size s11 (chgs md 0 ⟨rk,rt,rv⟩ ms))
            case first =>
             cases q
             . go_wp2_with fail;go_meet
               case rel =>
                refine ⟨ExtM.refl _,hx,?_⟩;rw [zbD,HQ.out,if_neg (by decide),List.append_nil];exact hrow'
             . go_wp2_with (first
                | (go_at_call 92
                   refine (zfk _ _ _ _).mono ?_;rintro e w6 ⟨rfl,hx6⟩;have hl6:(ms.flatMap (chg1 md 0 ⟨rk,rt,rv⟩)).length < 1000000:=by
                    have:=zaK md 0 ⟨rk,rt,rv⟩ ms
                    omega
                   obtain ⟨v',w',happ,hown',hgr',-⟩:=zat (w6.alloc (.cells #[.int .i64 rk,.int .i64 rk,.int .i64 rt,.int .i64 rv,.int .i64 0,.int .i64 0,.int .i64 0,.bool true,.bool false,.bool false] 92)) w5.heap.size w6.heap.size 1 _ _ (zan 0 ⟨rk,rt,rv⟩,false) 33 (hrow'.of (hx6.alloc _)) (zdD w6 (zan 0 ⟨rk,rt,rv⟩,false)) hl6 (by have:=hx6.size;have:=hx.size;simp;omega)
                   have HG':=Lib.hid (ExtM.fresh' ((hx6.alloc _).mono (fun _ _ h=>h.elim):ExtM (fun k=>w5.heap.size <= k) _ _) hgr' (fun k hk e=>(zaf hrow' k e).1)))
                | (at_builtin;refine wpList_append_run happ rfl rfl _ _ rfl rfl rfl ?_;clear happ))
               go_meet
               case rel =>
                refine ⟨HG'.out,hx.fresh' HG'.out (fun k hk e=>by omega),?_⟩;rw [zbD,HQ.out,if_pos rfl];exact hown'
            case rest =>
             obtain ⟨hxc,hxt,hrowt⟩:=hcut;have k:=fun q=>hxc.cell (p:=⟨u.heap.size,q,none⟩) lB6 (fun h=>by have h':w5.heap.size <= u.heap.size:=h;omega);have C0:=(k _).trans b0;have C1:=(k _).trans b1;have C2:=(k _).trans b2;have h7:=h5.ext hxt;clear k b0 b1 b2 hxc hmd' h6;go_upto_region 23 with fail;cases hb with
             | false =>
               go_wp2_with fail;go_ret2;have e1:=HT.out;have e2:=HF.out;have e3:=HBE.out;subst e1 e2;exact zlZ HE.out (by simpa using e3) HMS.out hXo hxt h7 hrowt
             | true =>
               have hne:P ≠ u.heap.size:=by omega
               have lB7:u.heap.size < wc.heap.size:=Nat.lt_of_lt_of_le lB5 hxt.size;go_wp2_with fail;refine Plan.b0 (Plan.ExtK u.heap.size) 9 ?_;refine Plan.qs 8 [0,1,2,3,4,5,6,7] ?_;iterate 8 go_big_quiet_step (fail)
               refine Plan.o1 8 fun K hK=>?_;go_wp2_with (fail);refine (zi1 u.heap.size P 3 v0 st.a ⟨⟨rk,rt,rv⟩,((ms.length:Nat):Int)⟩ _ (h7.s0.ext (ExtM.refl _).drew) nb0 hne).mono ?_;rintro e w8 ⟨rfl,h8,hu⟩;have H8:=ExtK.trans _ _ _ (ExtK.refl _).drew h8;obtain ⟨hc8,hf8,-⟩:=ExtK.rules H8;have hs8_0:u.heap.size < w8.heap.size:=by have:=H8.size;(try simp at this);omega
               go_wp2_with (fail);refine hK _ _ h8 ?_;clear hK K;refine Plan.dn ?_;go_wp2_with fail;go_ret2;have e1:=HT.out;have e2:=HF.out;have e3:=HBE.out;subst e1 e2;exact zj8 HE.out (by simpa using e3) HMS.out HG.out h hXo hxt.drew (h7.ext (ExtM.refl _).drew) (hrowt.of (ExtM.refl _).drew) hu (ExtM.refl _)
end Go.Proofs.YtmcgnnmffeojpabGreatDoor
