import Derived.Test.YtmcgnnmffeojpabGreatDoorPk28
import Derived.Test.YtmcgnnmffeojpabGreatDoorPk31
import Derived.Test.YtmcgnnmffeojpabGreatDoorPk45
import Derived.Test.YtmcgnnmffeojpabGreatDoorPk46
import Derived.Test.YtmcgnnmffeojpabGreatDoorPk47
import Derived.Deep.DeepCutAuto
import Derived.Deep.CutBlock
set_option maxRecDepth 100000
set_option maxHeartbeats 8000000
namespace Go.Proofs.YtmcgnnmffeojpabGreatDoor
open Go.RowKit Go.Plan
theorem zmC (u : World) (J : Nat) (r0 r1 : Value) (lo hi md : Int) (st : RSt) (rk rt rv : Int) (h : RIs u J r0 r1 lo hi md st) (hp : zay lo hi) (hl0 : st.a.length <= 300) (hl1 : st.b.length <= 300) (hcm : 0 <= st.came /\ st.came < 1000000) :
 Calls Tryz.prog 42 #[.pointer (some ⟨J,0,none⟩),.int .i64 0,.agg #[.int .i64 rk,.int .i64 rt,.int .i64 rv]] u (zcs u J r0 r1 lo hi md 0 ⟨rk,rt,rv⟩ st) := by
 have hxb : Ext u (u.alloc (.cells #[.int .i64 rk,.int .i64 rt,.int .i64 rv] 37)) := (ExtM.refl u).alloc _;have lJ := h.lt;have hgd := fun w => zlk rk rt rv w;obtain ⟨q0,a0,rfl⟩ := h.j0.row.slice;obtain ⟨q1,a1,rfl⟩ := h.j1.row.slice;cases hg : za3 rk rt rv with
 | false =>
   rw [hg] at hgd;go_enter Tryz.func42,Tryz.ntmps42
   go_wp2_with (first
    | (go_at_call 50;refine (zcU _ _ _ _ (by decide)).mono ?_;rintro e w1 ⟨rfl,rfl⟩)
    | (go_at_call 36;refine (hgd _).mono ?_;rintro e w1 ⟨rfl,hx1⟩))
   go_ret2;exact zdg h (ExtM.trans _ _ _ hxb hx1) 1 (by unfold feedE;rw [if_pos hg]) (by decide) (by decide)
 | true =>
   rw [hg] at hgd;have hb1 : (u.alloc (.cells #[.int .i64 rk,.int .i64 rt,.int .i64 rv] 37)).cell? ⟨u.heap.size,1,none⟩ = some (.int .i64 rt) := by go_simp
   have hb0 : (u.alloc (.cells #[.int .i64 rk,.int .i64 rt,.int .i64 rv] 37)).cell? ⟨u.heap.size,0,none⟩ = some (.int .i64 rk) := by go_simp
   have hb2 : (u.alloc (.cells #[.int .i64 rk,.int .i64 rt,.int .i64 rv] 37)).cell? ⟨u.heap.size,2,none⟩ = some (.int .i64 rv) := by go_simp
   have lB : u.heap.size < (u.alloc (.cells #[.int .i64 rk,.int .i64 rt,.int .i64 rv] 37)).heap.size := by simp
   go_enter Tryz.func42,Tryz.ntmps42
   go_upto_region 3 with (first
    | (go_at_call 50;refine (zcU _ _ _ _ (by decide)).mono ?_;rintro e w1 ⟨rfl,rfl⟩)
    | (go_at_call 36;refine (hgd _).mono ?_;rintro e w1 ⟨rfl,hx1⟩))
   have hX1 := ExtM.trans _ _ _ hxb hx1;have h1 := h.ext hX1;have k := fun q => hx1.cell (p := ⟨u.heap.size,q,none⟩) lB (fun h => h);have e0 := (k _).trans hb0;have e1 := (k _).trans hb1;have e2 := (k _).trans hb2;have lB1 : u.heap.size < w1.heap.size := Nat.lt_of_lt_of_le lB hx1.size;have lJ1 := h1.lt;have c0 := h1.c0;have c1 := h1.c1;have c5 := h1.c5;have c6 := h1.c6;have c7 := h1.c7;have f7 := h1.fz 7;clear k hb0 hb1 hb2 lB hxb hx1;by_cases hlate : rt <= st.x
   . have hE : feedE lo hi 0 ⟨rk,rt,rv⟩ st.x st.y (st.of 0).length = 10 := by rw [zcM hg,if_pos hlate]
     have d : decide (rt <= st.x) = true := by simp [hlate]
     clear hlate;go_quiet (fail);go_wp2_with fail;go_ret2;exact zeD h (hX1.drewN _) hE
   . have ht := zcr hg;have d : decide (rt <= st.x) = false := by simp;omega
     have HLA := Lib.hid hlate;clear hlate;go_quiet (fail)
     go_upto_region 8 with (
      go_at_call 51;refine (ziK J lo hi rt 0 _ (by omega) hp ht (by go_simp) (by go_simp)).mono ?_
      rintro e w3 ⟨rfl,hx3⟩)
     have hX3 : Ext u w3 := ExtM.trans _ _ _ (hX1.drewN _) hx3;have h3 := h.ext hX3;have k := fun q => (((ExtM.refl w1).drewN nq).trans' hx3).cell (p := ⟨u.heap.size,q,none⟩) lB1 (fun h => h);have b0 := (k _).trans e0;have b1 := (k _).trans e1;have b2 := (k _).trans e2;have lB3 : u.heap.size < w3.heap.size := Nat.lt_of_lt_of_le lB1 ((((ExtM.refl w1).drewN nq).trans' hx3).size);have lJ3 := h3.lt;have C5 := h3.c6;have crow := h3.j0.c3;simp only [Nat.reduceAdd] at crow;clear k e0 e1 e2 lB1 lJ1 hX1 hx3 h1 c0 c1 c5 c6 c7 f7;generalize hT : tilI lo hi 0 rt = T at *;generalize hF : frI lo hi 0 rt = F at *;have HT := Lib.hid hT;have HF := Lib.hid hF;have HG := Lib.hid hg;clear hT hF hg;go_upto_region 9 with fail;generalize hbE : decide (st.y < T) = hb at *;have HBE := Lib.hid hbE;clear hbE;go_cut [70] (fun s70 wx => s70 = .bool (hb && decide ((300 : Int) <= (st.a.length : Int))) /\ wx = w3)
     case first =>
      cases hb
      . go_wp2_with fail;go_meet
        case rel => exact ⟨by simp,rfl⟩
      . go_wp2_with fail;go_meet
        case rel => exact ⟨by simp,rfl⟩
     case rest =>
      obtain ⟨rfl,rfl⟩ := hcut;cases hfull : (hb && decide ((300 : Int) <= (st.a.length : Int))) with
      | true =>
        have hE : feedE lo hi 0 ⟨rk,rt,rv⟩ st.x st.y (st.of 0).length = 12 := by
         simp only [Bool.and_eq_true,decide_eq_true_eq] at hfull;have h1 := HBE.out;rw [hfull.1] at h1;have h2 : st.y < T := by simpa using h1
         rw [zcM HG.out,if_neg (by have := HLA.out;omega),HT.out,if_pos];exact ⟨h2,by show 300 <= st.a.length;omega⟩
        go_wp2_with fail;go_ret2;exact zdg h hX3 12 hE (by decide) (by decide)
      | false =>
        have hE : feedE lo hi 0 ⟨rk,rt,rv⟩ st.x st.y (st.of 0).length = 0 := by
         rw [zcM HG.out,if_neg (by have := HLA.out;omega),HT.out,if_neg];rintro ⟨h1,h2⟩;have h3 := HBE.out;have h2' : 300 <= st.a.length := h2;rw [<- h3] at hfull;simp only [Bool.and_eq_false_iff,decide_eq_false_iff_not] at hfull;omega
        have HFU := Lib.hid hfull;have HE := Lib.hid hE;clear hfull hE crow C5;have crowO := h3.j1.c3;have hrow := h3.j1.row;simp only [Nat.reduceAdd] at crowO;have hso := zf0 J 1 _ st.b _ (by omega) crowO hrow (by omega)
        go_wp2_with (
         go_at_call 66;refine hso.mono ?_
         rintro e w5 ⟨p,cap,is,rfl,hx5,hsr,hlen,hcells⟩)
        have h5 := h3.ext hx5;have HSR := Lib.hid hsr;have HLN := Lib.hid hlen;have hcl : st.b = [] \/ ∃ b,p = some ⟨b,0,none⟩ /\ wc.heap.size <= b /\ b < w5.heap.size /\ ∀ i,i < st.b.length -> w5.cell? ⟨b,i,none⟩ = some (.int .i64 (is[i]! : Nat)) := hcells;have HCL := Lib.hid hcl;have k := fun q => hx5.cell (p := ⟨u.heap.size,q,none⟩) lB3 (fun h => h);have B0 := (k _).trans b0;have B1 := (k _).trans b1;have B2 := (k _).trans b2;have lB5 : u.heap.size < w5.heap.size := Nat.lt_of_lt_of_le lB3 hx5.size;have hX5 : Ext u w5 := ExtM.trans _ _ _ hX3 hx5;have nB : ∀ k,zaO J (.slice q0 st.a.length a0) (.slice q1 st.b.length a1) k -> k < u.heap.size := h.foot;have hsz5 := hx5.size;clear k b0 b1 b2 hsr hlen hcells hcl hso crowO hrow h3 lB3 lJ3 hx5;go_loopg [12,13,75] (st.b.length + 1) (fun kx s12 s13 s75 wr => ∃ i : Nat,s75 = .int .i64 i /\ i <= st.b.length /\ st.b.length - i <= kx /\ ExtM (fun k => (Value.slice q1 st.b.length a1).ownBlock = some k) w5 wr /\ RIs wr J (.slice q0 st.a.length a0) (.slice q1 st.b.length a1) lo hi md { st with b := mixL (zab rk F T) st.b (is.take i) } /\ s13 = .int .i64 ((zbv (zab rk F T) st.b (is.take i)).length : Nat) /\ CRow wr w5.heap.size s12 (((zbv (zab rk F T) st.b (is.take i)).map RHd.hd).flatMap (chg1 md 0 ⟨rk,rt,rv⟩)))
        case atStart => exact ⟨0,rfl,by omega,by omega,ExtM.refl _,by rw [List.take_zero,zij];exact h5,rfl,nilC _ _⟩
        case round =>
         obtain ⟨i,rfl,hi',hgk,hx,h6,rfl,hout⟩ := hrel;by_cases hil : i < st.b.length
         . obtain ⟨b,rfl,hb1,hb2,hbc⟩ : ∃ b,p = some ⟨b,0,none⟩ /\ wc.heap.size <= b /\ b < w5.heap.size /\ ∀ i,i < st.b.length -> w5.cell? ⟨b,i,none⟩ = some (.int .i64 (is[i]! : Nat)) := by
            rcases HCL.out with h | h
            . rw [h] at hil;simp at hil
            . exact h
           have hgO : ∀ k,(Value.slice q1 st.b.length a1).ownBlock = some k -> k < u.heap.size := fun k hk => nB k (.inr (.inr hk));have hsz := hX5.size;have hX3s := hX3.size;have hcell : wr.cell? ⟨b,i,none⟩ = some (.int .i64 (is[i]! : Nat)) := (hx.cell (p := ⟨b,i,none⟩) hb2 (fun e => by have := hgO b e;omega)).trans (hbc i hil);obtain ⟨htk,hq,hnq⟩ := zez HSR.out HLN.out i hil;have hgX := mixL_get (p := zab rk F T) hnq hq;have HGX := Lib.hid hgX;have HMS := Lib.hid (zii (p := zab rk F T) (is := is.take i) hq);have HSK := Lib.hid (zgn (p := zab rk F T) (is := is.take i) hq);have HTK := Lib.hid htk;clear htk hbc hgX;generalize is[i]! = q at *;have crow6 := h6.j1.c3;have hrow6 := h6.j1.row;simp only [Nat.reduceAdd] at crow6;obtain ⟨g,rc,e',hg,x0,x1,x2,x3,x4⟩ := zkV hrow6 q _ HGX.out;simp only [Value.slice.injEq] at e';obtain ⟨rfl,-,rfl⟩ := e';have HPT := Lib.hid (zkS (p := zab rk F T) (L := st.b) (is := is.take i) (q := q));have HPF := Lib.hid (zjH (p := zab rk F T) (L := st.b) (is := is.take i) (q := q));generalize st.b[q]! = X at *;have k := fun o => hx.cell (p := ⟨u.heap.size,o,none⟩) lB5 (fun e => by have := hgO u.heap.size e;omega);have b0 := (k _).trans B0;have b1 := (k _).trans B1;have b2 := (k _).trans B2;have lB6 : u.heap.size < wr.heap.size := Nat.lt_of_lt_of_le lB5 hx.size;clear k;go_upto_region 17 with fail;go_cut [105] (fun s105 wx => s105 = .bool (!(zab rk F T X.hd)) /\ Ext wr wx)
           case first =>
            by_cases hk1 : X.r.k = rk
            . have d1 : (X.r.k != rk) = false := by simp [hk1]
              by_cases hk2 : F <= X.r.t /\ X.r.t <= T
              . have HM : Hid (zab rk F T X.hd = true) := Lib.hid ((zbn _ _ _ _).2 ⟨hk1,hk2.1,hk2.2⟩);have HK := Lib.hid hk2;clear hk1 hk2;refine Plan.b0 Plan.Ext 19 ?_;refine Plan.qs 12 [0,1,2,3,4,5,6,7,8,9,10,11] ?_;iterate 12 go_big_quiet_step (fail)
                refine Plan.qs 4 [12,13,14,15] ?_;iterate 4 go_big_quiet_step (fail)
                refine Plan.ow 16 fun K hK => ?_;go_wp2_with (fail);refine (znd F X.r.t T _ HK.out).mono ?_;rintro e w7 ⟨rfl,h7⟩;have H7 := ExtM.trans _ _ _ (ExtM.refl _).drew h7;obtain ⟨hc7,hf7,-⟩ := Ext.rules H7;have hs7_0 : g < w7.heap.size := by have := H7.size;(try simp at this);omega
                have hs7_1 : u.heap.size < w7.heap.size := by have := H7.size;(try simp at this);omega
                go_wp2_with (fail);refine hK _ _ h7 ?_;clear hK K;refine Plan.qs 2 [17,18] ?_;iterate 2 go_big_quiet_step (fail)
                refine Plan.dn ?_;go_wp2_with fail;go_meet
                case rel => exact ⟨by rw [HM.out];rfl,H7⟩
              . have HM : Hid (zab rk F T X.hd = false) := Lib.hid (Bool.eq_false_iff.2 fun h => hk2 ((zbn _ _ _ _).1 h).2);have HK := Lib.hid hk2;clear hk1 hk2;refine Plan.b0 Plan.Ext 19 ?_;refine Plan.qs 12 [0,1,2,3,4,5,6,7,8,9,10,11] ?_;iterate 12 go_big_quiet_step (fail)
                refine Plan.qs 4 [12,13,14,15] ?_;iterate 4 go_big_quiet_step (fail)
                refine Plan.ow 16 fun K hK => ?_;go_wp2_with (fail);refine (znk F X.r.t T _ HK.out).mono ?_;rintro e w7 ⟨rfl,h7⟩;have H7 := ExtM.trans _ _ _ (ExtM.refl _).drew h7;obtain ⟨hc7,hf7,-⟩ := Ext.rules H7;have hs7_0 : g < w7.heap.size := by have := H7.size;(try simp at this);omega
                have hs7_1 : u.heap.size < w7.heap.size := by have := H7.size;(try simp at this);omega
                go_wp2_with (fail);refine hK _ _ h7 ?_;clear hK K;refine Plan.qs 2 [17,18] ?_;iterate 2 go_big_quiet_step (fail)
                refine Plan.dn ?_;go_wp2_with fail;go_meet
                case rel => exact ⟨by rw [HM.out];rfl,H7⟩
            . have d1 : (X.r.k != rk) = true := by simp [hk1]
              have HM : Hid (zab rk F T X.hd = false) := Lib.hid (Bool.eq_false_iff.2 fun h => hk1 ((zbn _ _ _ _).1 h).1);clear hk1;refine Plan.b0 Plan.Ext 19 ?_;refine Plan.qs 12 [0,1,2,3,4,5,6,7,8,9,10,11] ?_;iterate 12 go_big_quiet_step (fail)
              refine Plan.qs 4 [12,13,14,15] ?_;iterate 4 go_big_quiet_step (fail)
              refine Plan.zaZ 16 (by kernel_rfl) (by rfl) (Plan.skip ExtM.refl rfl ?_);simp only [Act.put,List.setIfInBounds_toArray,List.set_cons_succ,List.set_cons_zero];refine Plan.qs 2 [17,18] ?_;iterate 2 go_big_quiet_step (fail)
              refine Plan.dn ?_;go_wp2_with fail;go_meet
              case rel => exact ⟨by rw [HM.out];rfl,(ExtM.refl _).drew⟩
           case rest =>
            obtain ⟨rfl,hxc⟩ := hcut;have h7 := h6.ext hxc;have kg := fun o => hxc.cell (p := ⟨g,o,none⟩) hg (fun h => h);have y0 := (kg _).trans x0;have y1 := (kg _).trans x1;have y2 := (kg _).trans x2;have y3 := (kg _).trans x3;have kb := fun o => hxc.cell (p := ⟨u.heap.size,o,none⟩) lB6 (fun h => h);have C0 := (kb _).trans b0;have C1 := (kb _).trans b1;have C2 := (kb _).trans b2;have lB7 := Nat.lt_of_lt_of_le lB6 hxc.size;have hg7 := Nat.lt_of_lt_of_le hg hxc.size;have hout7 := hout.of hxc;have hxw : ExtM (fun k => (Value.slice (some ⟨g,0,none⟩) st.b.length a1).ownBlock = some k) w5 wc := hx.fresh' hxc (fun _ _ h => h.elim);have m2 := h7.c2;have lJ7 := h7.lt;clear kg kb x0 x1 x2 x3 x4 b0 b1 b2 crow6 hrow6 hcell h6 hx hout lB6 hg;generalize hm : zab rk F T X.hd = pm at *;have HM := Lib.hid hm;clear hm;cases pm with
            | false =>
              have HE1 := Lib.hid (HSK.out rfl);have HE2 := Lib.hid (HPF.out rfl);clear HSK HPF HPT HMS;go_wp2_with fail;go_roundg (st.b.length - (i + 1))
              case measure => omega
              case rel => exact ⟨i + 1,by go_num,by omega,Nat.le_refl _,hxw,by rw [HTK.out,HE1.out];exact h7,by rw [HTK.out,HE2.out],by rw [HTK.out,HE2.out];exact hout7⟩
            | true =>
              have HE2 := Lib.hid (HPT.out rfl);clear HSK HPF HPT;go_upto_region 18 with fail;go_cut [115] (fun s115 wx => s115 = .bool (decide (X.m = 0) && zai md 1) /\ wx = wc)
              case first =>
               by_cases hm0 : X.m = 0
               . have d0 : (X.m == 0) = true := by simp [hm0]
                 have HM0 := Lib.hid hm0;clear hm0;go_wp2_with (go_at_call 84;refine (zih J md 1 _ (by omega) m2).mono ?_;rintro e w' ⟨rfl,rfl⟩);go_meet
                 case rel => exact ⟨by simp [HM0.out],rfl⟩
               . have d0 : (X.m == 0) = false := by simp [hm0]
                 have HM0 := Lib.hid hm0;clear hm0;go_wp2_with fail;go_meet
                 case rel => exact ⟨by simp [HM0.out],rfl⟩
              case rest =>
               obtain ⟨rfl,rfl⟩ := hcut;generalize hq : (decide (X.m = 0) && zai md 1) = tq at *;have HQ := Lib.hid hq;clear hq;go_upto_if 115 with fail;have hfl := zaK md 0 ⟨rk,rt,rv⟩ ((zbv (zab rk F T) st.b (is.take i)).map RHd.hd);have hpl := zgQ (zab rk F T) st.b (is.take i);rw [List.length_map] at hfl;rw [List.length_take] at hpl;have hge : ∀ k,u12.ownBlock = some k -> w5.heap.size <= k := fun k hk => (zaf hout7 k hk).1;have hsw : w5.heap.size <= wc.heap.size := hxw.size;go_cut [12] (fun s12 wx => ExtM (fun k => w5.heap.size <= k) wc wx /\ CRow wx w5.heap.size s12 (((zbv (zab rk F T) st.b (is.take i)).map RHd.hd).flatMap (chg1 md 0 ⟨rk,rt,rv⟩) ++ (if tq = true then [(zan 1 X.r,true)] else [])))
               case first =>
                cases tq
                . go_wp2_with fail;go_meet
                  case rel => exact ⟨ExtM.refl _,by simpa using hout7⟩
                . go_wp2_with (first
                   | (go_at_call 34
                      refine (zhM _ _ _ _).mono ?_;rintro e w6 ⟨rfl,hx6⟩;have hl6 : (((zbv (zab rk F T) st.b (is.take i)).map RHd.hd).flatMap (chg1 md 0 ⟨rk,rt,rv⟩)).length < 1000000 := by omega
                      obtain ⟨v',w',happ,hown',hgr',-⟩ := zat (w6.alloc (.cells #[.int .i64 X.r.k,.int .i64 0,.int .i64 0,.int .i64 0,.int .i64 X.r.k,.int .i64 X.r.t,.int .i64 X.r.v,.bool false,.bool true,.bool true] 92)) w5.heap.size w6.heap.size 1 u12 _ (zan 1 X.r,true) 33 (hout7.of (hx6.alloc _)) (zdD w6 (zan 1 X.r,true)) hl6 (by have := hx6.size;simp;omega)
                      have HG' := Lib.hid (ExtM.fresh' ((hx6.alloc _).mono (fun _ _ h => h.elim) : ExtM (fun k => w5.heap.size <= k) _ _) hgr' (fun k hk e => hge k e)))
                   | (at_builtin;refine wpList_append_run happ rfl rfl _ _ rfl rfl rfl ?_;clear happ))
                  go_meet
                  case rel => exact ⟨HG'.out,hown'⟩
               case rest =>
                obtain ⟨hx8,hout8⟩ := hcut;clear hxc;have h8 := h7.extM hx8 (fun e => by have e' : w5.heap.size <= J := e;omega) (fun k hk e => by have e' : w5.heap.size <= k := e;have := nB k (.inr (.inl hk));omega) (fun k hk e => by have e' : w5.heap.size <= k := e;have := nB k (.inr (.inr hk));omega);have hgu := hgO g rfl;have kg := fun o => hx8.cell (p := ⟨g,o,none⟩) hg7 (fun e => by have e' : w5.heap.size <= g := e;omega);have z0 := (kg _).trans y0;have z1 := (kg _).trans y1;have z2 := (kg _).trans y2;have z3 := (kg _).trans y3;have kb := fun o => hx8.cell (p := ⟨u.heap.size,o,none⟩) lB7 (fun e => by have e' : w5.heap.size <= u.heap.size := e;omega);have D0 := (kb _).trans C0;have D1 := (kb _).trans C1;have D2 := (kb _).trans C2;have lB8 := Nat.lt_of_lt_of_le lB7 hx8.size;have hg8 := Nat.lt_of_lt_of_le hg7 hx8.size;have hxw8 : ExtM (fun k => (Value.slice (some ⟨g,0,none⟩) st.b.length a1).ownBlock = some k) w5 wc := hxw.fresh' hx8 (fun k hk e => by have e' : w5.heap.size <= k := e;omega);clear kg kb y0 y1 y2 y3 C0 C1 C2 lB7 hg7 h7 hout7 hxw hx8 hge hsw lJ7 m2;go_upto_region 20 with fail;go_cut [17] (fun s17 wx => zhA wc wx s17 (outL (zbs ⟨rk,rt,rv⟩ X.r)))
                case first =>
                 refine Plan.bT Plan.Ext [7] 8 ?_;refine Plan.qs 5 [0,1,2,3,4] ?_;iterate 5 go_big_quiet_step (fail)
                 refine Plan.o2 5 6 (fun K hK => ?_) fun K hK => ?_
                 focus
                  go_wp2_with (fail);refine (zes rk rt rv X.r.k X.r.t X.r.v _).mono ?_;rintro e w8 ⟨rfl,h8⟩;have H8 := ExtM.trans _ _ _ (ExtM.refl _).drew h8;obtain ⟨hc8,hf8,-⟩ := Ext.rules H8;have hs8_0 : g < w8.heap.size := by have := H8.size;(try simp at this);omega
                  have hs8_1 : u.heap.size < w8.heap.size := by have := H8.size;(try simp at this);omega
                  go_wp2_with (fail);refine hK _ _ h8 ?_;clear hK K;refine Plan.o1 6 fun K hK => ?_;go_wp2_with (fail);refine hK _ _ ((ExtM.refl _).alloc _) ?_;clear hK K
                 rotate_left
                 focus
                  go_wp2_with (fail);refine hK _ _ ((ExtM.refl _).alloc _) ?_;clear hK K;refine Plan.o1 5 fun K hK => ?_;go_wp2_with (fail);refine (zes rk rt rv X.r.k X.r.t X.r.v _).mono ?_;rintro e w8 ⟨rfl,h8⟩;have H8 := ExtM.trans _ _ _ ((ExtM.refl _).drew.alloc _) h8;obtain ⟨hc8,hf8,-⟩ := Ext.rules H8;have hs8_0 : g < w8.heap.size := by have := H8.size;(try simp at this);omega
                  have hs8_1 : u.heap.size < w8.heap.size := by have := H8.size;(try simp at this);omega
                  go_wp2_with (fail);refine hK _ _ h8 ?_;clear hK K
                 . obtain ⟨hn,hfz,hlt⟩ := zbm h8;have n0 := hn 0 _ rfl;have n1 := hn 1 _ rfl;have n2 := hn 2 _ rfl;have n3 := hn 3 _ rfl;have n4 := hn 4 _ rfl;have n5 := hn 5 _ rfl;have n6 := hn 6 _ rfl;have n7 := hn 7 _ rfl;have n8 := hn 8 _ rfl;refine Plan.ol 7 fun K hK => ?_;go_wp2_with (fail);refine Plan.dn ?_;go_wp2_with fail;go_meet
                   case rel => exact outA (zbs ⟨rk,rt,rv⟩ X.r) H8 hn hfz hlt
                 . refine Plan.ol 7 fun K hK => ?_;go_wp2_with (fail);refine Plan.dn ?_;go_wp2_with fail;go_meet
                   case rel => exact outB (zbs ⟨rk,rt,rv⟩ X.r) H8
                case rest =>
                 obtain ⟨Bo,rfl,hBo,hBl,hx9,hno,hfo⟩ := hcut;have h9 := h8.ext hx9;have E3 := (hx9.cell (p := ⟨g,q * 5 + 3,none⟩) hg8 (fun h => h)).trans z3;have hg9 := Nat.lt_of_lt_of_le hg8 hx9.size;have hout9 := hout8.of hx9;have n0 := hno 0 _ rfl;have n1 := hno 1 _ rfl;have n2 := hno 2 _ rfl;have n3 := hno 3 _ rfl;have n4 := hno 4 _ rfl;have n5 := hno 5 _ rfl;have n6 := hno 6 _ rfl;have n7 := hno 7 _ rfl;have n8 := hno 8 _ rfl;have hxw9 : ExtM (fun k => (Value.slice (some ⟨g,0,none⟩) st.b.length a1).ownBlock = some k) w5 wc := hxw8.fresh' hx9 (fun _ _ h => h.elim);clear hno z0 z1 z2 z3 D0 D1 D2 lB8 hg8 h8 hout8 hxw8 hx9;go_upto_region 21 with fail;have hl9 : (((zbv (zab rk F T) st.b (is.take i)).map RHd.hd).flatMap (chg1 md 0 ⟨rk,rt,rv⟩) ++ (if tq = true then [(zan 1 X.r,true)] else [])).length < 1000000 := by
                  rw [List.length_append];have : (if tq = true then [(zan 1 X.r,true)] else [] : List (Out × Bool)).length <= 1 := by split <;> simp
                  omega
                 have hge9 : ∀ k,u12.ownBlock = some k -> w5.heap.size <= k := fun k hk => (zaf hout9 k hk).1;have hs9 : w5.heap.size <= wc.heap.size := hxw9.size;obtain ⟨v',w',happ,hown',hgr',-⟩ := zat (wc.alloc (.cells #[.int .i64 rk,.int .i64 rk,.int .i64 rt,.int .i64 rv,.int .i64 X.r.k,.int .i64 X.r.t,.int .i64 X.r.v,.bool true,.bool true,.bool false] 92)) w5.heap.size wc.heap.size 1 u12 _ (zbs ⟨rk,rt,rv⟩ X.r,false) 33 (hout9.of ((ExtM.refl wc : Ext wc wc).alloc _)) (zdD wc (zbs ⟨rk,rt,rv⟩ X.r,false)) hl9 (by simp;omega);have hx10 : ExtM (fun k => w5.heap.size <= k) wc w' := ExtM.fresh' (((ExtM.refl wc : Ext wc wc).alloc _).mono (fun _ _ h => h.elim) : ExtM (fun k => w5.heap.size <= k) _ _) hgr' (fun k hk e => hge9 k e);have hgu := hgO g rfl;have h10 := h9.extM hx10 (fun e => by have e' : w5.heap.size <= J := e;omega) (fun k hk e => by have e' : w5.heap.size <= k := e;have := nB k (.inr (.inl hk));omega) (fun k hk e => by have e' : w5.heap.size <= k := e;have := nB k (.inr (.inr hk));omega);have fz10 : w'.frozen? ⟨g,q * 5 + 3,none⟩ = false := by
                  have hlq : q < (mixL (zab rk F T) st.b (is.take i)).length := by rw [zfi];exact hq
                  obtain ⟨g',cap',e1,-,-,e2⟩ := zaJ (enc := RHd.cells) zcV h10.j1.row q 3 hlq (by omega);simp only [Value.slice.injEq,Option.some.injEq,Addr.mk.injEq,and_true] at e1;rw [e1.1];exact e2
                 have E10 := (hx10.cell (p := ⟨g,q * 5 + 3,none⟩) hg9 (fun e => by have e' : w5.heap.size <= g := e;omega)).trans E3;obtain ⟨h11,hx11⟩ := h10.setM1 q X HGX.out (wrap64 (X.m + 1));have hset : (mixL (zab rk F T) st.b (is.take i)).set q ⟨X.r,wrap64 (X.m + 1),X.c⟩ = mixL (zab rk F T) st.b (is.take (i + 1)) := by
                  have hb : bumpQ (zab rk F T) X = ⟨X.r,wrap64 (X.m + 1),X.c⟩ := by unfold bumpQ;rw [HM.out];rfl
                  rw [<- hb,HMS.out,HTK.out]
                 have h12 : RIs (w'.setCell ⟨g,q * 5 + 3,none⟩ (.int .i64 (wrap64 (X.m + 1)))) J (.slice q0 st.a.length a0) (.slice (some ⟨g,0,none⟩) st.b.length a1) lo hi md { st with b := mixL (zab rk F T) st.b (is.take (i + 1)) } := by
                  rw [<- hset];exact h11
                 have hout12 := zag hown' hx11 (fun k hk e => by have h1 := (zaf hown' k hk).1;have e' : k = g := e;omega);have hx12 : ExtM (fun k => (Value.slice (some ⟨g,0,none⟩) st.b.length a1).ownBlock = some k) w5 (w'.setCell ⟨g,q * 5 + 3,none⟩ (.int .i64 (wrap64 (X.m + 1)))) :=
                  (hxw9.fresh' hx10 (fun k hk e => by have e' : w5.heap.size <= k := e;omega)).fresh' hx11 (fun k _ e => by have e' : k = g := e;rw [e'];rfl)
                 have hplt : (zbv (zab rk F T) st.b (is.take i)).length <= 300 := by omega
                 have H12 := Lib.hid h12;have HO12 := Lib.hid hout12;have HX12 := Lib.hid hx12;clear h12 hout12 hx12 hset h11 hx11 h10 hown' hgr' hout9 h9 hl9 hge9 hfl hpl;go_wp2_with (at_builtin;refine wpList_append_run happ rfl rfl _ _ rfl rfl rfl ?_;clear happ);go_roundg (st.b.length - (i + 1))
                 case measure => omega
                 case rel =>
                  refine ⟨i + 1,by go_num,by omega,Nat.le_refl _,HX12.out,H12.out,?_,?_⟩
                  . rw [HTK.out,HE2.out,List.length_append,List.length_singleton];push_cast;rfl
                  . rw [HTK.out,HE2.out,List.map_append,List.map_singleton,List.flatMap_append,List.flatMap_singleton,zf6];show CRow _ _ _ (_ ++ ((if (decide (X.m = 0) && zai md 1) = true then _ else _) ++ _));rw [HQ.out,<- List.append_assoc];exact HO12.out
         . have hie : i = st.b.length := by omega
           subst hie;have htk : is.take st.b.length = is := List.take_of_length_le (by have := HLN.out;omega);rw [htk] at h6 hout;have hall : ∀ j,j < st.b.length -> j ∈ is := fun j hj => HSR.out.1.mem_iff.2 (List.mem_range.2 hj);rw [zhP hall] at h6;obtain ⟨hR1,hR2,hR3⟩ := ze0 HSR.out (zab rk F T);rw [hR3] at hout;have hgO : ∀ k,(Value.slice q1 st.b.length a1).ownBlock = some k -> k < u.heap.size := fun k hk => nB k (.inr (.inr hk));have hsz := hX5.size;have k := fun o => hx.cell (p := ⟨u.heap.size,o,none⟩) lB5 (fun e => by have := hgO u.heap.size e;omega);have b0 := (k _).trans B0;have b1 := (k _).trans B1;have b2 := (k _).trans B2;have lB6 : u.heap.size < wr.heap.size := Nat.lt_of_lt_of_le lB5 hx.size;have hplen : (zbv (zab rk F T) st.b is).length = ((((is.map (fun q => st.b[q]!)).map RHd.hd).filter (zab rk F T))).length := by rw [<- hR3,List.length_map]
           rw [htk];have HPL := Lib.hid hplen;have hlen2 : (((is.map (fun q => st.b[q]!)).map RHd.hd).filter (zab rk F T)).length <= 300 := Nat.le_trans (List.length_filter_le _ _) (by simp;have := HLN.out;omega);have HCNT : Hid ((((is.map (fun q => st.b[q]!)).map RHd.hd).filter (zab rk F T)).length = (st.b.filter (fun x => zab rk F T x.hd)).length) := Lib.hid (zd7 hR1 _);have HR1 := Lib.hid hR1;have HR2 := Lib.hid hR2;generalize is.map (fun q => st.b[q]!) = R at *;generalize hms : (R.map RHd.hd).filter (zab rk F T) = ms at *;have HMS := Lib.hid hms;rw [hplen];have m2 := h6.c2;have HX6 := Lib.hid hx;have hX6 : ExtM (zaO J (.slice q0 st.a.length a0) (.slice q1 st.b.length a1)) u wr := (hX5.mono (fun _ _ h => h.elim) : ExtM (zaO J (.slice q0 st.a.length a0) (.slice q1 st.b.length a1)) u w5).fresh' hx (fun k _ hk => .inr (.inr hk));clear k hms hplen hR1 hR2 hR3 hall htk hi' hil hgk h5 HCL HLN B0 B1 B2;go_upto_region 27 with fail;go_cut [161] (fun s161 wx => s161 = .bool (decide (ms.length = 0) && zai md 0) /\ wx = wr)
           case first =>
            by_cases hm0 : ms.length = 0
            . have d0 : ((ms.length : Int) == 0) = true := by simp [hm0]
              have HM0 := Lib.hid hm0;clear hm0;go_wp2_with (go_at_call 84;refine (zih J md 0 _ (by omega) m2).mono ?_;rintro e w' ⟨rfl,rfl⟩);go_meet
              case rel => exact ⟨by simp [HM0.out],rfl⟩
            . have d0 : ((ms.length : Int) == 0) = false := by simp [hm0]
              have HM0 := Lib.hid hm0;clear hm0;go_wp2_with fail;go_meet
              case rel => exact ⟨by simp [HM0.out],rfl⟩
           case rest =>
            obtain ⟨rfl,rfl⟩ := hcut;generalize hq : (decide (ms.length = 0) && zai md 0) = tq at *;have HQ := Lib.hid hq;clear hq;go_upto_if 161 with fail;have hfl := zaK md 0 ⟨rk,rt,rv⟩ ms;have hge : ∀ k,u12.ownBlock = some k -> w5.heap.size <= k := fun k hk => (zaf hout k hk).1;have hsw : w5.heap.size <= wc.heap.size := HX6.out.size;go_cut [12] (fun s12 wx => ExtM (fun k => w5.heap.size <= k) wc wx /\ CRow wx w5.heap.size s12 (chgs md 0 ⟨rk,rt,rv⟩ ms))
            case first =>
             cases tq
             . go_wp2_with fail;go_meet
               case rel =>
                refine ⟨ExtM.refl _,?_⟩;rw [zbD,HQ.out,if_neg (by decide),List.append_nil];exact hout
             . go_wp2_with (first
                | (go_at_call 34
                   refine (ziH _ _ _ _).mono ?_;rintro e w6 ⟨rfl,hx6⟩;have hl6 : (ms.flatMap (chg1 md 0 ⟨rk,rt,rv⟩)).length < 1000000 := by omega
                   obtain ⟨v',w',happ,hown',hgr',-⟩ := zat (w6.alloc (.cells #[.int .i64 rk,.int .i64 rk,.int .i64 rt,.int .i64 rv,.int .i64 0,.int .i64 0,.int .i64 0,.bool true,.bool false,.bool false] 92)) w5.heap.size w6.heap.size 1 u12 _ (zan 0 ⟨rk,rt,rv⟩,false) 33 (hout.of (hx6.alloc _)) (zdD w6 (zan 0 ⟨rk,rt,rv⟩,false)) hl6 (by have := hx6.size;simp;omega)
                   have HG' := Lib.hid (ExtM.fresh' ((hx6.alloc _).mono (fun _ _ h => h.elim) : ExtM (fun k => w5.heap.size <= k) _ _) hgr' (fun k hk e => hge k e)))
                | (at_builtin;refine wpList_append_run happ rfl rfl _ _ rfl rfl rfl ?_;clear happ))
               go_meet
               case rel =>
                refine ⟨HG'.out,?_⟩;rw [zbD,HQ.out,if_pos rfl];exact hown'
            case rest =>
             obtain ⟨hxc,hrowt⟩ := hcut;have h7 := h6.extM hxc (fun e => by have e' : w5.heap.size <= J := e;omega) (fun k hk e => by have e' : w5.heap.size <= k := e;have := nB k (.inr (.inl hk));omega) (fun k hk e => by have e' : w5.heap.size <= k := e;have := nB k (.inr (.inr hk));omega);have k := fun q => hxc.cell (p := ⟨u.heap.size,q,none⟩) lB6 (fun h => by have h' : w5.heap.size <= u.heap.size := h;omega);have C0 := (k _).trans b0;have C1 := (k _).trans b1;have C2 := (k _).trans b2;have hX7 := hX6.fresh' hxc (fun k hk e => by have e' : w5.heap.size <= k := e;omega);have hb5 : u.heap.size <= w5.heap.size := hX5.size;clear k b0 b1 b2 hxc h6 hge hfl hout hX6 hx;go_upto_region 29 with fail;cases hb with
             | false =>
               go_wp2_with fail;go_ret2;have e1 := HT.out;have e2 := HF.out;have e3 := HBE.out;subst e1 e2;refine zdG HE.out HR1.out HR2.out HMS.out hrowt hb5 ?_;rw [zeJ HE.out (by simpa using e3)];exact ⟨hX7,_,⟨_,_,h7,rfl⟩,fun k hk => .inl hk⟩
             | true =>
               have hlt : st.a.length < 300 := by
                have h1 := HFU.out;simp at h1;omega
               go_wp2_with (
                go_at_call 78;refine (znh J 0 _ st.a st.came rk rt rv _ _ h7.j0 (by omega) hcm).mono ?_
                rintro e w8 ⟨rfl,hu⟩)
               go_ret2;have e1 := HT.out;have e2 := HF.out;have e3 := HBE.out;subst e1 e2;have hu2 := h7.up0 hu;have hrow8 := zag hrowt hu2.1 (fun k hk e => by have h1 := (zaf hrowt k hk).1;have h2 := nB k e;omega);refine zdG HE.out HR1.out HR2.out HMS.out hrow8 hb5 ?_;rw [zej HE.out (by simpa using e3)];have h9 : RUp u w8 J (zaO J (.slice q0 st.a.length a0) (.slice q1 st.b.length a1)) lo hi md _ := RUp.trans hX7 (fun k hk => .inl hk) hu2;rw [<- HCNT.out];exact h9
def zdO (lo hi : Int) (s : Int) (r : Row) (st : JSt) : Int := if s = 0 then feedE lo hi 0 r st.x st.y st.a.length else if s = 1 then feedE lo hi 1 r st.x st.y st.b.length else 1
def zcR (lo hi md : Int) (s : Int) (r : Row) (st : JSt) : List (Out × Bool) := if s = 0 then zaj lo hi md 0 r st else if s = 1 then zaj lo hi md 1 r st else []
def zgm (lo hi : Int) (s : Int) (r : Row) (st : JSt) : JSt := if s = 0 then zam lo hi 0 r st else if s = 1 then zam lo hi 1 r st else st
def zhq (lo hi : Int) (s : Int) (r : Row) (st : RSt) : RSt := if s = 0 then za4 lo hi 0 r st else if s = 1 then za4 lo hi 1 r st else st
def mvJ (lo hi : Int) (s t : Int) (st : JSt) : JSt := if moveI s t st.x st.y = 0 then (if s = 0 then zbr lo hi 0 t st else zbr lo hi 1 t st) else st
def mvR (lo hi : Int) (s t : Int) (st : RSt) : RSt := if moveI s t st.x st.y = 0 then (if s = 0 then zbS lo hi 0 t st else zbS lo hi 1 t st) else st
structure zce (st : JSt) (rs : RSt) (n : Nat) : Prop where
 rel : RelJ st rs
 la : rs.a.length <= 300
 lb : rs.b.length <= 300
 ta : za1 rs.a
 tb : za1 rs.b
 c0 : 0 <= rs.came
 c1 : rs.came <= (n : Int)
theorem zce.more {st : JSt} {rs : RSt} {n : Nat} (h : zce st rs n) : zce st rs (n + 1) := ⟨h.rel,h.la,h.lb,h.ta,h.tb,h.c0,by have := h.c1;push_cast;omega⟩
theorem zce.a {st : JSt} {rs : RSt} {n : Nat} (h : zce st rs n) : st.a.length = rs.a.length := h.rel.len 0
theorem zce.b {st : JSt} {rs : RSt} {n : Nat} (h : zce st rs n) : st.b.length = rs.b.length := h.rel.len 1
theorem za1.add {L : List RHd} (h : za1 L) {x : RHd} (hx : -1099511627776 <= x.r.t /\ x.r.t <= 1099511627776) : za1 (L ++ [x]) := fun y hy => by
 rcases List.mem_append.1 hy with hy | hy
 . exact h y hy
 . rw [List.mem_singleton.1 hy];exact hx
theorem za1.map {L : List RHd} (h : za1 L) (p : Hd -> Bool) : za1 (L.map (bumpQ p)) := fun y hy => by
 obtain ⟨x,hx,rfl⟩ := List.mem_map.1 hy;rw [(zfw p x).1];exact h x hx
theorem za1.filter {L : List RHd} (h : za1 L) (p : RHd -> Bool) : za1 (L.filter p) := fun y hy => h y ((List.mem_filter.1 hy).1)
theorem zlB {lo hi : Int} {s : Nat} {r : Row} {x y : Int} {own : Nat} (h : feedE lo hi s r x y own = 0) : za3 r.k r.t r.v = true /\ (tilI lo hi s r.t > (if s = 0 then y else x) -> own < 300) := by
 unfold feedE at h;by_cases h1 : za3 r.k r.t r.v = false
 . rw [if_pos h1] at h;cases h
 rw [if_neg h1] at h;by_cases h2 : r.t <= (if s = 0 then x else y)
 . rw [if_pos h2] at h;cases h
 rw [if_neg h2] at h;by_cases h3 : tilI lo hi s r.t > (if s = 0 then y else x) /\ 300 <= own
 . rw [if_pos h3] at h;cases h
 . exact ⟨by simpa using h1,fun h4 => by omega⟩
theorem zge {lo hi : Int} {s : Nat} (hs : s < 2) {r : Row} {rs : RSt} {n : Nat} (la : rs.a.length <= 300) (lb : rs.b.length <= 300) (ta : za1 rs.a) (tb : za1 rs.b) (c0 : 0 <= rs.came) (c1 : rs.came <= (n : Int)) :
 (za4 lo hi s r rs).a.length <= 300 /\ (za4 lo hi s r rs).b.length <= 300 /\ za1 (za4 lo hi s r rs).a /\ za1 (za4 lo hi s r rs).b /\ 0 <= (za4 lo hi s r rs).came /\ (za4 lo hi s r rs).came <= ((n + 1 : Nat) : Int) := by
 have hs' : s = 0 \/ s = 1 := by omega
 by_cases h10 : feedE lo hi s r rs.x rs.y (rs.of s).length = 10
 . have e : za4 lo hi s r rs = { rs with late := wrap64 (rs.late + 1) } := by unfold za4;exact if_pos h10
   rw [e];exact ⟨la,lb,ta,tb,c0,by push_cast;omega⟩
 by_cases h0 : feedE lo hi s r rs.x rs.y (rs.of s).length = 0
 . obtain ⟨hg,hf⟩ := zlB h0;have ht := zcr hg;rcases hs' with rfl | rfl
   . by_cases hb : tilI lo hi 0 r.t > rs.y
     . rw [zej h0 hb]
       have := hf hb
       have e : (rs.of 0).length = rs.a.length := rfl;exact ⟨by simp;omega,by simp;omega,ta.add ht,tb.map _,by show 0 <= rs.came + 1;omega,by show rs.came + 1 <= _;push_cast;omega⟩
     . rw [zeJ h0 hb];exact ⟨la,by simp;omega,ta,tb.map _,c0,by show rs.came <= _;push_cast;omega⟩
   . by_cases hb : tilI lo hi 1 r.t > rs.x
     . rw [zef h0 hb]
       have := hf hb
       have e : (rs.of 1).length = rs.b.length := rfl;exact ⟨by simp;omega,by simp;omega,ta.map _,tb.add ht,by show 0 <= rs.came + 1;omega,by show rs.came + 1 <= _;push_cast;omega⟩
     . rw [zeE h0 hb];exact ⟨by simp;omega,lb,ta.map _,tb,c0,by show rs.came <= _;push_cast;omega⟩
 . have e : za4 lo hi s r rs = rs := by unfold za4;exact (if_neg h10).trans (if_neg h0)
   rw [e];exact ⟨la,lb,ta,tb,c0,by push_cast;omega⟩
theorem zce.feed {st : JSt} {rs : RSt} {n : Nat} (h : zce st rs n) (lo hi s : Int) (r : Row) : zce (zgm lo hi s r st) (zhq lo hi s r rs) (n + 1) := by
 unfold zgm zhq;by_cases h0 : s = 0
 . rw [if_pos h0,if_pos h0];obtain ⟨a,b,c,d,e,f⟩ := zge (lo := lo) (hi := hi) (s := 0) (r := r) (by omega) h.la h.lb h.ta h.tb h.c0 h.c1;exact ⟨zgv h.rel lo hi 0 (by omega) r,a,b,c,d,e,f⟩
 rw [if_neg h0,if_neg h0];by_cases h1 : s = 1
 . rw [if_pos h1,if_pos h1];obtain ⟨a,b,c,d,e,f⟩ := zge (lo := lo) (hi := hi) (s := 1) (r := r) (by omega) h.la h.lb h.ta h.tb h.c0 h.c1;exact ⟨zgv h.rel lo hi 1 (by omega) r,a,b,c,d,e,f⟩
 rw [if_neg h1,if_neg h1];exact h.more
theorem zce.move {st : JSt} {rs : RSt} {n : Nat} (h : zce st rs n) (lo hi s t : Int) : zce (mvJ lo hi s t st) (mvR lo hi s t rs) (n + 1) := by
 have hm : ∀ s' : Nat,(zbS lo hi s' t rs).a.length <= 300 /\ (zbS lo hi s' t rs).b.length <= 300 /\ za1 (zbS lo hi s' t rs).a /\ za1 (zbS lo hi s' t rs).b /\ (zbS lo hi s' t rs).came = rs.came := fun s' => by
  unfold zbS;split
  . exact ⟨h.la,Nat.le_trans (List.length_filter_le _ _) h.lb,h.ta,h.tb.filter _,rfl⟩
  . exact ⟨Nat.le_trans (List.length_filter_le _ _) h.la,h.lb,h.ta.filter _,h.tb,rfl⟩
 have hc0 := h.c0;have hc1 := h.c1;have go : ∀ s' : Nat,zce (zbr lo hi s' t st) (zbS lo hi s' t rs) (n + 1) := fun s' => by
  obtain ⟨a,b,c,d,e⟩ := hm s';exact ⟨zkY h.rel lo hi s' t,a,b,c,d,by rw [e];exact hc0,by rw [e];push_cast;omega⟩
 unfold mvJ mvR;rw [h.rel.x,h.rel.y];split
 . split
   . exact go 0
   . exact go 1
 . exact h.more
theorem zce.chg {st : JSt} {rs : RSt} {n : Nat} (h : zce st rs n) (s : Nat) (R : List RHd) (h1 : R.Perm (rs.of s)) (h2 : R.Pairwise (fun a b => ¬ ltR b a)) : st.of s = R.map RHd.hd := by
 obtain ⟨S,hS⟩ := h.rel.of s;rw [hS.eq,zhz hS.srt (h1.trans hS.perm.symm) h2]
section
variable {w u u' : World} {P M J : Nat} {lo hi md : Int} {Av Bs Cs : Nat -> Prop} {st : JSt} {rs : RSt}
variable {n : Nat}
end
open Go.RowKit Go.Plan Go.Shelf
theorem zo5 : Builder.Extra Tryz.prog Tryz.shJoin_ren where
 sizeBuilder := by kernel_rfl
 liesBuilder := by kernel_rfl
 t5 := Tryz.underlying5
 a5 := Tryz.isAgg5
 z5 := Tryz.sizeOf5
 v5 := Tryz.zeroValue5
 infoByte := by kernel_rfl
 cellsByte := by kernel_rfl
 sizeByte := by kernel_rfl
 neB5 := by decide
def SR (w : World) (b : Nat) (v : Value) (xs : List ByteArray) : Prop := w.ownsRow b 9 1 v xs.length (xs.map Value.string)
theorem zoN : (Tryz.prog.info? 9).map (fun i => (i.zero,i.size,i.bytes)) = some (some (.string ByteArray.empty),1,16) := by kernel_rfl
theorem zh2 (W : World) (base nb c : Nat) (v : Value) (acc : List ByteArray) (x : ByteArray) (ty : TypeId) (hown : SR W base v acc) (hx : W.cell? ⟨nb,0,none⟩ = some (.string x)) (hl : acc.length < 1000000) (hb : base <= W.heap.size) :
 ∃ v' w',(Builtin.append_ #[78,78] ty #[v,.slice (some ⟨nb,0,none⟩) 1 c]).run Tryz.prog W = .ok v' w' /\ SR w' base v' (acc ++ [x]) /\ ExtR v.ownBlock W w' /\ (v'.ownBlock = v.ownBlock \/ ∃ k,v'.ownBlock = some k /\ W.heap.size <= k) := by
 obtain ⟨i0,hi,hz0,hz1,hz2⟩ := info_parts zoN;obtain ⟨v',w',h1',h2,h3,-,h5⟩ := run_append_own_at (P := Tryz.prog) W base 78 ty 9 i0 (.string ByteArray.empty) 1 16 Tryz.underlying78 hi hz0 hz1 hz2 rfl (by decide) v acc.length _ hown ⟨nb,0,none⟩ 1 c [.string x] rfl
  (fun j u hj => by
    have hj0 : j = 0 := by
     have := (List.getElem?_eq_some_iff.1 hj).1
     simp at this;exact this
    subst hj0;simp only [List.getElem?_cons_zero,Option.some.injEq] at hj;subst hj
    exact hx) (fun u hu => by rw [List.mem_singleton] at hu;subst hu;rfl) (by unfold maxLen;omega) (by omega) hb
 refine ⟨v',w',h1',?_,⟨h3.os,h3.tape,h3.output,h3.size,fun k hk hn => h3.block k hk (fun e => hn e.symm)⟩,?_⟩
 . unfold SR;rw [List.map_append,List.length_append];exact h2
 . rcases h5 with h | h
   . exact .inl h
   . exact .inr ⟨_,h,Nat.le_refl _⟩
theorem SR.cells {w : World} {B : Nat} {v : Value} {xs : List ByteArray} (h : SR w B v xs) : ∃ a cap,v = .slice a xs.length cap /\ xs.length <= cap /\ (xs = [] \/ ∃ g,a = some ⟨g,0,none⟩ /\ g < w.heap.size /\ ∀ (j : Nat) x,xs[j]? = some x -> w.cell? ⟨g,0 + j,none⟩ = some (.string x)) := by
 rcases h.2 with ⟨rfl,h0⟩ | ⟨g,cap,cur,rfl,e1,e2,e3,e4,e5,e6⟩
 . exact ⟨none,0,by rw [h0],by omega,.inl (List.eq_nil_of_length_eq_zero h0)⟩
 . refine ⟨_,_,rfl,e3,.inr ⟨g,rfl,(Array.getElem?_eq_some_iff.1 e2).1,fun j x hj => ?_⟩⟩;obtain ⟨hi,rfl⟩ := List.getElem?_eq_some_iff.1 hj;have h1 : (cur.toList.take (xs.length * 1))[j]? = (xs.map Value.string)[j]? := by rw [e6]
   rw [List.getElem?_take_of_lt (by omega),Array.getElem?_toList,List.getElem?_map,List.getElem?_eq_getElem hi] at h1;rw [Nat.zero_add];simpa [World.cell?,e2] using h1
def zfl (n : Int) : ByteArray := ⟨(Lib.itoa n).toArray⟩
def wordsB (ns : List Int) : List UInt8 := Lib.join (ns.map Lib.itoa) [32]
theorem zhn (n : Int) (ns : List Int) : wordsB (n :: ns) = Lib.itoa n ++ ns.flatMap numB := by
 unfold wordsB;rw [List.map_cons,Lib.join_cons];congr 1;unfold Lib.joinTail;rw [List.map_map,List.flatMap_def];rfl
theorem zfe {ns : List Int} (h : ns ≠ []) : ns.flatMap numB = 32 :: wordsB ns := by
 cases ns with
 | nil => exact absurd rfl h
 | cons n ns => rw [zhn];rfl
theorem zi0 (ns : List Int) (hn : ∀ n ∈ ns,-9223372036854775808 <= n /\ n <= 9223372036854775807) : (wordsB ns).length <= 22 * ns.length := by
 have h := zdh ns hn;by_cases h0 : ns = []
 . subst h0;simp [wordsB,Lib.join_nil]
 . rw [zfe h0,List.length_cons] at h;omega
theorem zms (ns : List Int) (a : Option Addr) (cap b : Nat) (w : World) (hr : zaq w b a ns) (ht : TabP w) (hn : ∀ n ∈ ns,-9223372036854775808 <= n /\ n <= 9223372036854775807) (hl : ns.length <= 100) :
 Calls Tryz.prog 52 #[.slice a ns.length cap] w fun e w' => e = .returned (.string ⟨(wordsB ns).toArray⟩) /\ Ext w w' := by
 go_enter Tryz.func52,Tryz.ntmps52;go_wp2_with fail;go_loopg [3,8] (ns.length + 1) (fun kx s3 s8 wr => ∃ i : Nat,s8 = .int .i64 i /\ i <= ns.length /\ ns.length - i <= kx /\ SR wr w.heap.size s3 ((ns.take i).map zfl) /\ Ext w wr)
 case atStart => exact ⟨0,rfl,by omega,by omega,⟨rfl,.inl ⟨rfl,rfl⟩⟩,ExtM.refl _⟩
 case round =>
  obtain ⟨i,rfl,hi,hgk,hS,hx⟩ := hrel;by_cases hil : i < ns.length
  . rcases hr with e | ⟨g,c,t,fz,rfl,hgb,htu,hg,hc⟩
    . subst e;simp at hil
    have hcw : w.cell? ⟨g,i,none⟩ = some (.int .i64 ns[i]) := by
     have := hc i hil
     simpa [World.cell?,hg] using this
    have hgl : g < w.heap.size := (Array.getElem?_eq_some_iff.1 hg).1;have hcell := (hx.cell (p := ⟨g,i,none⟩) hgl id).trans hcw;have hni := hn _ (List.getElem_mem hil);have HT := Lib.hid (List.take_succ_eq_append_getElem hil);have hgr : g < wr.heap.size := Nat.lt_of_lt_of_le hgl hx.size;have htr : TabP wr := ht.keep (hx.block _ ht.lt id);generalize ns[i] = n at *;clear hc hg hcw;go_wp2_with (go_at_call 57;refine (zno n _ hni.1 hni.2 htr).mono ?_;rintro e w2 ⟨rfl,hx2⟩;refine Hid.out ?_);refine Lib.hid ?_;have hS2 : SR w2 w.heap.size u3 ((ns.take i).map zfl) := zag hS hx2 (fun _ _ h => h);have hsz : w.heap.size <= w2.heap.size := by have := hx.size;have := hx2.size;omega
    obtain ⟨v',w',happ,hir',hxr,hloc⟩ := zh2 (w2.alloc (.cells #[.string (zfl n)] 9)) w.heap.size w2.heap.size 1 u3 ((ns.take i).map zfl) (zfl n) 78 (zag hS2 ((ExtM.refl _).alloc _ : Ext w2 _) (fun _ _ h => h))
     (by go_simp) (by rw [List.length_map,List.length_take];omega) (by rw [World.size_alloc];omega)
    have hxc : Ext w w' := (ExtM.trans _ _ _ hx (ExtM.trans _ _ _ hx2 ((ExtM.refl w2).alloc _)) : Ext w _).fresh' hxr (fun k hk e => by have := (zaf hS2 k e).1;omega);obtain ⟨pv,cv,hpv,-⟩ := zaa hS2;rw [List.length_map,List.length_take,Nat.min_eq_left hi] at hpv;have HN := Lib.hid (⟨hir',hxc⟩ : _ /\ _);have hit : zfl n = ⟨(Lib.itoa n).toArray⟩ := rfl;rw [hit] at happ;subst hpv;clear hir' hxc hxr hloc hS2 hS hx hx2 hit;go_wp2_with (at_builtin;refine wpList_append_run happ rfl rfl _ _ rfl rfl rfl ?_;clear happ);go_roundg (ns.length - (i + 1))
    case measure => omega
    case rel =>
     obtain ⟨r1,r2⟩ := HN.out;refine ⟨i + 1,by go_num,by omega,Nat.le_refl _,?_,r2⟩;rw [HT.out,List.map_append];exact r1
  . obtain rfl : i = ns.length := by omega
    have hz : decide (ns.length < ns.length) = false := by simp
    have hz2 : decide ((ns.length : Int) < ns.length) = false := by simp
    rw [List.take_length] at hS;obtain ⟨a',cap',rfl,hcap,hcs⟩ := hS.cells;have hjl := zi0 ns hn;have hmm : (ns.map zfl).map (·.data.toList) = ns.map Lib.itoa := by rw [List.map_map];rfl
    have hJ : Calls Tryz.prog 102 #[.slice a' (ns.map zfl).length cap',.string ⟨#[32]⟩] wr fun e w' => e = .returned (.string ⟨(wordsB ns).toArray⟩) /\ Ext wr w' := by
     rcases hcs with h0 | ⟨g,rfl,hg,hc⟩
     . have hn0 : ns = [] := List.map_eq_nil_iff.1 h0;subst hn0;refine (Any.strings_Join_none Tryz.shJoin zo5 a' cap' ⟨#[32]⟩ wr).mono ?_;rintro e w' ⟨rfl,rfl⟩;exact ⟨rfl,ExtM.refl _⟩
     . refine (Any.strings_Join Tryz.shJoin zo5 g 0 cap' (ns.map zfl) ⟨#[32]⟩ wr hc hg (by rw [List.length_map];omega) hcap (by rw [hmm];show (wordsB ns).length <= _;omega)).mono ?_;rintro e w' ⟨rfl,hx'⟩;rw [hmm];exact ⟨rfl,zdf hx'⟩
    have HX := Lib.hid hx;clear hcs hjl hmm hS hx;rw [List.length_map] at hJ;rw [List.length_map];go_wp2_with (go_at_call 102;refine hJ.mono ?_;rintro e w3 ⟨rfl,hx3⟩;refine Hid.out ?_);refine Lib.hid ?_;clear hJ;go_wp2_with fail;go_ret;exact ⟨rfl,ExtM.trans _ _ _ HX.out hx3⟩
def zf9 (T : List UInt8) : Ending := if 60000 < T.length then .returned (.tuple #[.string ByteArray.empty,.int .i64 4]) else .returned (.tuple #[.string ⟨T.toArray⟩,.int .i64 0])
theorem zjE {nm : List UInt8} {ns : List Int} (h : ns ≠ []) : nm ++ ([32] ++ (wordsB ns ++ [10])) = textB [(nm,ns)] := by
 rw [zca,zfL,zfe h];simp [textB]
theorem zbT {nm : List UInt8} {ns : List Int} (h : zaV (nm,ns)) : (wordsB ns).length <= 176 := by
 have h1 := zi0 ns h.2.2;have h2 := h.2.1;simp only at h2;omega
def NI (w : World) (a : Option Addr) (ns : List Int) : Prop := ∃ b,zaq w b a ns
theorem NI.ext {w w' : World} {a : Option Addr} {ns : List Int} (h : NI w a ns) (hx : Ext w w') : NI w' a ns := by
 obtain ⟨b,h⟩ := h;rcases h with h | ⟨g,c,t,fz,h1,h2,h3,h4,h5⟩
 . exact ⟨b,.inl h⟩
 . exact ⟨b,.inr ⟨g,c,t,fz,h1,h2,h3,(hx.block g (Array.getElem?_eq_some_iff.1 h4).1 id).trans h4,h5⟩⟩
theorem NI.new (w : World) (ns : List Int) : NI (w.alloc (.cells (ns.map (Value.int .i64)).toArray 3)) (some ⟨w.heap.size,0,none⟩) ns :=
 ⟨w.heap.size + 1,.inr ⟨w.heap.size,_,3,(0,0),rfl,by omega,by decide,heap_alloc_new _ _,fun i hi => by simp [hi]⟩⟩
theorem zdY {w : World} {a : Option Addr} {ns : List Int} (h : NI w a ns) (cap : Nat) (ht : TabP w) {nm : List UInt8} (ok : zaV (nm,ns)) :
 Calls Tryz.prog 52 #[.slice a ns.length cap] w fun e w' => e = .returned (.string ⟨(wordsB ns).toArray⟩) /\ Ext w w' := by
 obtain ⟨b,h⟩ := h;exact zms ns a cap b w h ht ok.2.2 (by have := ok.2.1;simp only at this;omega)
theorem TabP.ext {w w' : World} (h : TabP w) (hx : Ext w w') : TabP w' := h.keep (hx.block _ h.lt id)
theorem ziX (e : ESt) : ((((((ByteArray.mk #[112,108,97,110,32]) ++ (ByteArray.mk (wordsB [e.lo,e.hi,e.md]).toArray)) ++ (ByteArray.mk #[10,102,101,100,32])) ++ (ByteArray.mk (wordsB [e.f0,e.f1,e.st.late]).toArray)) ++ (ByteArray.mk #[10,109,97,114,107,115,32])) ++ (ByteArray.mk (wordsB [e.st.x,e.st.y]).toArray)) ++ (ByteArray.mk #[10]) = ByteArray.mk (textB (upLs e 0)).toArray := by
 simp only [ByteArray.mk_append_mk];congr 2;have : upLs e 0 = [(zc2,[e.lo,e.hi,e.md])] ++ ([(wFed,[e.f0,e.f1,e.st.late])] ++ [(zbW,[e.st.x,e.st.y])]) := by simp [upLs,za5]
 rw [this,zaR,zaR,<- zjE (by simp),<- zjE (by simp),<- zjE (by simp)];simp [zc2,wFed,zbW]
theorem zlj (ls : List (List UInt8 × List Int)) {ns : List Int} (h : ns ≠ []) : (ByteArray.mk (textB ls).toArray) ++ (((ByteArray.mk #[114,111,119,32]) ++ (ByteArray.mk (wordsB ns).toArray)) ++ (ByteArray.mk #[10])) = ByteArray.mk (textB (ls ++ [(wRow,ns)])).toArray := by
 simp only [ByteArray.mk_append_mk];rw [zaR,<- zjE h];simp [wRow]
theorem zkq (ls : List (List UInt8 × List Int)) {ns : List Int} (h : ns ≠ []) : (ByteArray.mk (textB ls).toArray) ++ (((ByteArray.mk #[111,117,116,32]) ++ (ByteArray.mk (wordsB ns).toArray)) ++ (ByteArray.mk #[10])) = ByteArray.mk (textB (ls ++ [(wOut,ns)])).toArray := by
 simp only [ByteArray.mk_append_mk];rw [zaR,<- zjE h];simp [wOut]
theorem zkT (ls : List (List UInt8 × List Int)) : (ByteArray.mk (textB ls).toArray) ++ (ByteArray.mk #[101,110,100,10]) = ByteArray.mk (textB (ls ++ [(wEnd,[])])).toArray := by
 simp only [ByteArray.mk_append_mk];rw [zaR,zca];simp [wEnd,textB,lineB]
theorem zev {w : World} {b : Nat} {a c d : Int} (h : zcu w b 0 [a,c,d]) : ∀ j u,([a,c,d].map (Value.int .i64))[j]? = some u -> w.cell? ⟨b,j,none⟩ = some u := fun j u hj => by
 have hj3 : j < 3 := by simpa using (List.getElem?_eq_some_iff.1 hj).1
 have h1 := h j (by simpa using hj3);rw [Nat.zero_add] at h1;rw [h1];rcases (by omega : j = 0 \/ j = 1 \/ j = 2) with rfl | rfl | rfl <;> simpa using hj
theorem zmK {u : World} {R : Nat} {Cs : Nat -> Prop} {lo hi md : Int} {rs : RSt} {l : List Out} {f0 f1 : Int} {st : JSt} {n : Nat} (h : REAt u R Cs lo hi md rs l f0 f1) (es : ESt) (hes : es = ⟨lo,hi,md,st,l,f0,f1⟩) (ok : SOk es) (hg : zce st rs n) (ht : TabP u) :
 Calls Tryz.prog 15 #[.pointer (some ⟨R,0,none⟩)] u fun e u' => e = zf9 (savedT es) /\ Ext u u' := by
 obtain ⟨J,r0,r1,rv,hI,-⟩ := h;have hj := hI.join;have c0 := hI.c0;have d2 := hI.c2;have d3 := hI.c3;have lR := hI.lt;have lJ := hj.lt;have p0 := hj.c0;have p1 := hj.c1;have p2 := hj.c2;have m5 := hj.c5;have m6 := hj.c6;have m7 := hj.c7;rw [<- hg.rel.x] at m5;rw [<- hg.rel.y] at m6;rw [<- hg.rel.late] at m7;have hok := ze1 ok;have ok0 : zaV (zc2,[lo,hi,md]) := hok _ (by rw [hes];simp [za5]);have ok1 : zaV (wFed,[f0,f1,st.late]) := hok _ (by rw [hes];simp [za5]);have ok2 : zaV (zbW,[st.x,st.y]) := hok _ (by rw [hes];simp [za5]);have hhb := ziX es;have huz := zcD ok 0;have huk := zdu ok 0;rw [hes] at hhb;simp only at hhb;rw [<- hes] at hhb;have hW0 := zbT ok0;have hW1 := zbT ok1;have hW2 := zbT ok2;have hw0 : ∀ w a,NI w a [lo,hi,md] -> TabP w -> ∀ cap,Calls Tryz.prog 52 #[.slice a 3 cap] w fun e w' => e = .returned (.string ⟨(wordsB [lo,hi,md]).toArray⟩) /\ Ext w w' := fun w a h ht cap => zdY h cap ht ok0;have hw1 : ∀ w a,NI w a [f0,f1,st.late] -> TabP w -> ∀ cap,Calls Tryz.prog 52 #[.slice a 3 cap] w fun e w' => e = .returned (.string ⟨(wordsB [f0,f1,st.late]).toArray⟩) /\ Ext w w' := fun w a h ht cap => zdY h cap ht ok1;have hw2 : ∀ w a,NI w a [st.x,st.y] -> TabP w -> ∀ cap,Calls Tryz.prog 52 #[.slice a 2 cap] w fun e w' => e = .returned (.string ⟨(wordsB [st.x,st.y]).toArray⟩) /\ Ext w w' := fun w a h ht cap => zdY h cap ht ok2;generalize wordsB [lo,hi,md] = W0 at *;generalize wordsB [f0,f1,st.late] = W1 at *;generalize wordsB [st.x,st.y] = W2 at *;have HES := Lib.hid hes;have HHB := Lib.hid hhb;have HI := Lib.hid hI;have HG := Lib.hid hg;have HT := Lib.hid ht;clear hes hhb hok ok0 ok1 ok2 hj hI hg huz huk;generalize hxx : st.x = mx at *;generalize hyy : st.y = my at *;generalize hll : st.late = ml at *;clear hxx hyy hll;go_enter Tryz.func15,Tryz.ntmps15;go_upto_region 2 with fail;go_cut [5] (fun s5 wx => s5 = .string ⟨(textB (upLs es 0)).toArray⟩ /\ Ext u wx)
 case first =>
  refine Plan.b0 Plan.Ext 52 ?_;refine Plan.qs 12 [0,1,2,3,4,5,6,7,8,9,10,11] ?_;iterate 12 go_big_quiet_step (fail)
  refine Plan.qs 12 [12,13,14,19,20,21,22,23,24,25,26,27] ?_;iterate 12 go_big_quiet_step (fail)
  refine Plan.qs 12 [28,29,30,31,32,37,38,39,40,41,42,43] ?_;iterate 12 go_big_quiet_step (fail)
  refine Plan.qs 3 [44,45,46] ?_;iterate 3 go_big_quiet_step (fail)
  refine wpQuiet_nil ?_;have hx : Ext u u.drew := (ExtM.refl _).drew;replace ht := ht.ext hx;generalize u.drew = wz at *;clear c0 d2 d3 lR lJ p0 p1 p2 m5 m6 m7;have hgn : Gone 0 := ⟨⟩
  refine Plan.zeU 15 33 47 (by kernel_rfl) (by rfl) (by rfl) (by rfl) (Plan.plain rfl fun K hK => zap.out (n := 15) ?_) (Plan.plain rfl fun K hK => zap.out (n := 33) ?_) (Plan.plain rfl fun K hK => zap.out (n := 47) ?_)
  all_goals
   as_aux_lemma =>
    repeat'
     (first
       | (have _q : Gone 1 := hgn;refine Plan.zeU 16 33 47 (by kernel_rfl) (by rfl) (by rfl) (by rfl) (Plan.plain rfl fun K hK => zap.out (n := 16) ?_) (Plan.plain rfl fun K hK => zap.out (n := 33) ?_) (Plan.plain rfl fun K hK => zap.out (n := 47) ?_))
       | (have _q : Gone 3 := hgn;refine Plan.zcj 33 47 (by kernel_rfl) (by rfl) (by rfl) (Plan.plain rfl fun K hK => zap.out (n := 33) ?_) (Plan.plain rfl fun K hK => zap.out (n := 47) ?_))
       | (have _q : Gone 4 := hgn;refine Plan.zcj 15 47 (by kernel_rfl) (by rfl) (by rfl) (Plan.plain rfl fun K hK => zap.out (n := 15) ?_) (Plan.plain rfl fun K hK => zap.out (n := 47) ?_))
       | (have _q : Gone 5 := hgn;refine Plan.zcj 16 47 (by kernel_rfl) (by rfl) (by rfl) (Plan.plain rfl fun K hK => zap.out (n := 16) ?_) (Plan.plain rfl fun K hK => zap.out (n := 47) ?_))
       | (have _q : Gone 7 := hgn;refine Plan.zcj 34 47 (by kernel_rfl) (by rfl) (by rfl) (Plan.plain rfl fun K hK => zap.out (n := 34) ?_) (Plan.plain rfl fun K hK => zap.out (n := 47) ?_))
       | (have _q : Gone 15 := hgn;refine Plan.zaZ 47 (by kernel_rfl) (by rfl) (Plan.plain rfl fun K hK => zap.out (n := 47) ?_))
       | (have _q : Gone 16 := hgn;refine Plan.zcj 15 33 (by kernel_rfl) (by rfl) (by rfl) (Plan.plain rfl fun K hK => zap.out (n := 15) ?_) (Plan.plain rfl fun K hK => zap.out (n := 33) ?_))
       | (have _q : Gone 17 := hgn;refine Plan.zcj 16 33 (by kernel_rfl) (by rfl) (by rfl) (Plan.plain rfl fun K hK => zap.out (n := 16) ?_) (Plan.plain rfl fun K hK => zap.out (n := 33) ?_))
       | (have _q : Gone 19 := hgn;refine Plan.zaZ 33 (by kernel_rfl) (by rfl) (Plan.plain rfl fun K hK => zap.out (n := 33) ?_))
       | (have _q : Gone 20 := hgn;refine Plan.zaZ 15 (by kernel_rfl) (by rfl) (Plan.plain rfl fun K hK => zap.out (n := 15) ?_))
       | (have _q : Gone 21 := hgn;refine Plan.zaZ 16 (by kernel_rfl) (by rfl) (Plan.plain rfl fun K hK => zap.out (n := 16) ?_))
       | (have _q : Gone 23 := hgn;refine Plan.zaZ 34 (by kernel_rfl) (by rfl) (Plan.plain rfl fun K hK => zap.out (n := 34) ?_))
       | (have _q : Gone 31 := hgn;refine Plan.zaZ 48 (by kernel_rfl) (by rfl) (Plan.plain rfl fun K hK => zap.out (n := 48) ?_))
       | (refine (zap.mk ?_ : zap 15 _);replace hgn := Gone.add 1 hgn
          go_wp2_with (fail);refine hK _ _ ((ExtM.refl _).alloc _) ?_;clear hK K;have hxa : Ext wz (wz.alloc (.cells #[.int .i64 lo,.int .i64 hi,.int .i64 md] 3)) := (ExtM.refl _).alloc _;have h15 := NI.new wz [lo,hi,md];simp only [List.map_cons,List.map_nil] at h15;replace hx := ExtM.trans _ _ _ hx hxa;replace ht := ht.ext hxa
          (try replace h33 := NI.ext h33 hxa)
          (try replace h47 := NI.ext h47 hxa)
          generalize wz.alloc (.cells #[.int .i64 lo,.int .i64 hi,.int .i64 md] 3) = wy at *;generalize wz.heap.size = mh15 at *;clear hxa wz;rename World => wz
          skip)
       | (refine (zap.mk ?_ : zap 33 _);replace hgn := Gone.add 4 hgn
          go_wp2_with (fail);refine hK _ _ ((ExtM.refl _).alloc _) ?_;clear hK K;have hxa : Ext wz (wz.alloc (.cells #[.int .i64 f0,.int .i64 f1,.int .i64 ml] 3)) := (ExtM.refl _).alloc _;have h33 := NI.new wz [f0,f1,ml];simp only [List.map_cons,List.map_nil] at h33;replace hx := ExtM.trans _ _ _ hx hxa;replace ht := ht.ext hxa
          (try replace h15 := NI.ext h15 hxa)
          (try replace h47 := NI.ext h47 hxa)
          generalize wz.alloc (.cells #[.int .i64 f0,.int .i64 f1,.int .i64 ml] 3) = wy at *;generalize wz.heap.size = mh33 at *;clear hxa wz;rename World => wz
          skip)
       | (refine (zap.mk ?_ : zap 47 _);replace hgn := Gone.add 16 hgn
          go_wp2_with (fail);refine hK _ _ ((ExtM.refl _).alloc _) ?_;clear hK K;have hxa : Ext wz (wz.alloc (.cells #[.int .i64 mx,.int .i64 my] 3)) := (ExtM.refl _).alloc _;have h47 := NI.new wz [mx,my];simp only [List.map_cons,List.map_nil] at h47;replace hx := ExtM.trans _ _ _ hx hxa;replace ht := ht.ext hxa
          (try replace h15 := NI.ext h15 hxa)
          (try replace h33 := NI.ext h33 hxa)
          generalize wz.alloc (.cells #[.int .i64 mx,.int .i64 my] 3) = wy at *;generalize wz.heap.size = mh47 at *;clear hxa wz;rename World => wz
          skip)
       | (refine (zap.mk ?_ : zap 16 _);replace hgn := Gone.add 2 hgn
          go_wp2_with (fail);refine (hw0 _ _ h15 ht _).mono ?_;rintro e wy ⟨rfl,hxa⟩;go_wp2_with (fail);refine hK _ _ hxa ?_;clear hK K;replace hx := ExtM.trans _ _ _ hx hxa;replace ht := ht.ext hxa
          (try replace h33 := NI.ext h33 hxa)
          (try replace h47 := NI.ext h47 hxa)
          clear hxa h15 wz;rename World => wz;refine Plan.zaU 17 (by rfl) (by kernel_rfl) ?_;go_big_quiet_step (fail);refine wpQuiet_nil ?_;refine Plan.zaU 18 (by rfl) (by kernel_rfl) ?_;go_big_quiet_step (fail);refine wpQuiet_nil ?_
          skip)
       | (refine (zap.mk ?_ : zap 34 _);replace hgn := Gone.add 8 hgn
          go_wp2_with (fail);refine (hw1 _ _ h33 ht _).mono ?_;rintro e wy ⟨rfl,hxa⟩;go_wp2_with (fail);refine hK _ _ hxa ?_;clear hK K;replace hx := ExtM.trans _ _ _ hx hxa;replace ht := ht.ext hxa
          (try replace h33 := NI.ext h33 hxa)
          (try replace h47 := NI.ext h47 hxa)
          clear hxa h33 wz;rename World => wz;refine Plan.zaU 35 (by rfl) (by kernel_rfl) ?_;go_big_quiet_step (fail);refine wpQuiet_nil ?_;refine Plan.zaU 36 (by rfl) (by kernel_rfl) ?_;go_big_quiet_step (fail);refine wpQuiet_nil ?_
          skip)
       | (refine (zap.mk ?_ : zap 48 _);replace hgn := Gone.add 32 hgn
          go_wp2_with (fail);refine (hw2 _ _ h47 ht _).mono ?_;rintro e wy ⟨rfl,hxa⟩;go_wp2_with (fail);refine hK _ _ hxa ?_;clear hK K;replace hx := ExtM.trans _ _ _ hx hxa;replace ht := ht.ext hxa
          (try replace h47 := NI.ext h47 hxa)
          (try replace h47 := NI.ext h47 hxa)
          clear hxa h47 wz;rename World => wz;refine Plan.zaU 49 (by rfl) (by kernel_rfl) ?_;go_big_quiet_step (fail);refine wpQuiet_nil ?_;refine Plan.zaU 50 (by rfl) (by kernel_rfl) ?_;go_big_quiet_step (fail);refine wpQuiet_nil ?_;refine Plan.zaU 51 (by rfl) (by kernel_rfl) ?_;go_big_quiet_step (fail);refine wpQuiet_nil ?_
          refine Plan.dn ?_))
     skip
    all_goals
     go_wp2_with fail;go_meet
     case rel => exact ⟨congrArg Value.string HHB.out,hx⟩
 case rest =>
  obtain ⟨rfl,hx⟩ := hcut;clear c0 d2 d3 lR lJ p0 p1 p2 m5 m6 m7 hw0 hw1 hw2 hW0 hW1 hW2;have hL0 := zdc _ (zdu ok 0);have hL1 := zcD ok 0;go_wp2_with fail;go_loopg [5,67] 3 (fun kx s5 s67 wr => ∃ i : Nat,s67 = .int .i64 i /\ i <= 2 /\ 2 - i <= kx /\ s5 = .string ⟨(textB (upLs es i)).toArray⟩ /\ Ext u wr)
  case atStart => exact ⟨0,rfl,by omega,by omega,rfl,hx⟩
  case round =>
   clear hx hL0 hL1;obtain ⟨i,rfl,hi',hgk,rfl,hx⟩ := hrel;have hIr := HI.out.ext hx;have hjr := hIr.join;have c0 := hIr.c0;have lR := hIr.lt;have htr : TabP wr := HT.out.ext hx;by_cases hi2 : i < 2
   . skip;have hii : (i : Int) = 0 \/ (i : Int) = 1 := by omega
     have hst : es.st = st := by rw [HES.out]
     obtain ⟨hgo,hlo⟩ := ok.of i;rw [hst] at hgo hlo;have hlr : (rs.of i).length <= 300 := by unfold RSt.of;split;exact HG.out.la;exact HG.out.lb
     have hall : Calls Tryz.prog 22 #[.pointer (some ⟨J,0,none⟩),.int .i64 (i : Nat)] wr (zdK (rs.of i) wr) := by
      have hs' : i = 0 \/ i = 1 := by omega
      rcases hs' with rfl | rfl
      . exact zik J 0 r0 rs.a wr (by omega) hjr.j0.c3 hjr.j0.row (by have := HG.out.la;omega)
      . exact zik J 1 r1 rs.b wr (by omega) hjr.j1.c3 hjr.j1.row (by have := HG.out.lb;omega)
     have HUP := Lib.hid (zgT es i hi2);have hul := zcD ok i;have huo := zdu ok i;have HST := Lib.hid hst;clear hst hIr hjr;go_wp2_with (go_at_call 22;refine hall.mono ?_;rintro e wS ⟨vo,Rl,rfl,hm,hxS,hpm,hsr⟩;refine Hid.out ?_);refine Lib.hid ?_;have hof : st.of i = Rl.map RHd.hd := HG.out.chg i Rl hpm hsr;have hlR : Rl.length <= 300 := by rw [hpm.length_eq];exact hlr
     rw [hof] at hgo;have HOF := Lib.hid hof;obtain ⟨pv,cv,rfl,-⟩ := zaa hm;have hxu : Ext u wS := ExtM.trans _ _ _ hx hxS;have htS : TabP wS := htr.ext hxS;have hm0 := zak hm (Nat.zero_le _);clear hall hm hpm hsr hof hlr hxS hx c0 lR htr;go_wp2_with fail;go_loopg [5,74] (Rl.length + 1) (fun kx s5 s74 wr => ∃ j : Nat,s74 = .int .i64 j /\ j <= Rl.length /\ Rl.length - j <= kx /\ s5 = .string ⟨(textB (upLs es i ++ (Rl.take j).map (fun x => (wRow,rowN i x.hd)))).toArray⟩ /\ Ext wS wr)
     case atStart => exact ⟨0,rfl,by omega,by omega,by simp,ExtM.refl _⟩
     case round =>
      obtain ⟨j,rfl,hj,hgk2,rfl,hX⟩ := hrel;by_cases hjl : j < Rl.length
      . have hmq : JRow wr 0 _ Rl := zag hm0 hX (fun _ _ h => h);obtain ⟨g,cap,e1,hg,y0,y1,y2,y3,y4⟩ := zbh hmq j hjl;simp only [Value.slice.injEq,true_and] at e1;obtain ⟨rfl,rfl⟩ := e1;have e : Rl[j]! = Rl[j] := getElem!_pos Rl j hjl;have hho := hgo Rl[j].hd (List.mem_map.2 ⟨_,List.getElem_mem hjl,rfl⟩);have HTK := Lib.hid (List.take_succ_eq_append_getElem hjl);have hlo2 : ∀ x ∈ upLs es i ++ (Rl.take j).map (fun x => (wRow,rowN i x.hd)),zaV x := fun x hx => by
         rcases List.mem_append.1 hx with hx | hx
         . exact huo x hx
         . obtain ⟨q,hq,rfl⟩ := List.mem_map.1 hx;exact zd4 hii (hgo q.hd (List.mem_map.2 ⟨q,List.mem_of_mem_take hq,rfl⟩))
        have hll : (upLs es i ++ (Rl.take j).map (fun x => (wRow,rowN i x.hd))).length <= 2000 := by
         rw [List.length_append,List.length_map,List.length_take];omega
        have hTl := zdc _ hlo2;have hrow := zd4 hii hho;have hWl := zbT hrow;have hrb := zlj (upLs es i ++ (Rl.take j).map (fun x => (wRow,rowN i x.hd))) (ns := rowN i Rl[j].hd) (by simp [rowN]);rw [e] at y0 y1 y2 y3 y4;have htq : TabP wr := htS.ext hX;have hwd : ∀ w a,NI w a (rowN i Rl[j].hd) -> TabP w -> ∀ cap,Calls Tryz.prog 52 #[.slice a 5 cap] w fun e w' => e = .returned (.string ⟨(wordsB (rowN i Rl[j].hd)).toArray⟩) /\ Ext w w' := fun w a h ht cap => zdY h cap ht hrow;have hni : ∀ w : World,NI (w.alloc (.cells #[.int .i64 i,.int .i64 Rl[j].r.k,.int .i64 Rl[j].r.t,.int .i64 Rl[j].r.v,.int .i64 Rl[j].m] 3)) (some ⟨w.heap.size,0,none⟩) (rowN i Rl[j].hd) := fun w => NI.new w (rowN i Rl[j].hd);have hTl2 : (textB (upLs es i ++ (Rl.take j).map (fun x => (wRow,rowN i x.hd)))).length <= 1000000 := by omega
        have HRB := Lib.hid hrb;clear hrb hTl hlo2 hll hrow hho hgo huo hmq e hul hm0;generalize wordsB (rowN i Rl[j].hd) = W0 at *;generalize textB (upLs es i ++ (Rl.take j).map (fun x => (wRow,rowN i x.hd))) = T0 at *;generalize Rl[j] = X at *;have lg := zac y0;have hxa : Ext wr (wr.alloc (.cells #[.int .i64 X.r.k,.int .i64 X.r.t,.int .i64 X.r.v,.int .i64 X.m,.int .i64 X.c] 118)) := (ExtM.refl _).alloc _;have hwd1 := hwd ((wr.alloc (.cells #[.int .i64 X.r.k,.int .i64 X.r.t,.int .i64 X.r.v,.int .i64 X.m,.int .i64 X.c] 118)).alloc (.cells #[.int .i64 i,.int .i64 X.r.k,.int .i64 X.r.t,.int .i64 X.r.v,.int .i64 X.m] 3)) _ (hni _) ((htq.ext hxa).ext ((ExtM.refl _).alloc _));rw [World.size_alloc] at hwd1;go_wp2_with (go_at_call 52;refine (hwd1 _).mono ?_;rintro e w5 ⟨rfl,hx5⟩;refine Hid.out ?_);refine Lib.hid ?_;have hXX := ExtM.trans _ _ _ (ExtM.trans _ _ _ hX (ExtM.trans _ _ _ hxa ((ExtM.refl _).alloc _))) hx5;have HX := Lib.hid hXX;clear hXX hX hx5 hxa hwd hwd1 hni y0 y1 y2 y3 y4;go_wp2_with fail;go_roundg (Rl.length - (j + 1))
        case measure => omega
        case rel =>
         refine ⟨j + 1,by go_num,by omega,Nat.le_refl _,?_,HX.out⟩;rw [HTK.out,List.map_append,<- List.append_assoc];exact congrArg Value.string HRB.out
      . obtain rfl : j = Rl.length := by omega
        have hz : decide (Rl.length < Rl.length) = false := by simp
        have hz2 : decide ((Rl.length : Int) < Rl.length) = false := by simp
        rw [List.take_length];have HF := Lib.hid (ExtM.trans _ _ _ hxu hX);clear hX hm0 htS hxu;have hT : textB (upLs es i ++ Rl.map (fun x => (wRow,rowN i x.hd))) = textB (upLs es (i + 1)) := by
         rw [HUP.out,HST.out,HOF.out,List.map_map];rfl
        rw [hT];go_wp2_with fail;go_roundg (2 - (i + 1))
        case measure => omega
        case rel => exact ⟨i + 1,by go_num,by omega,Nat.le_refl _,rfl,HF.out⟩
   . obtain rfl : i = 2 := by omega
     have hz : decide ((2 : Nat) < 2) = false := by decide
     have hlV : l.length < 1000000 := by have := ok.lv;rw [HES.out] at this;simp only at this;omega
     have hre : Calls Tryz.prog 26 #[.pointer (some ⟨R,1,none⟩)] wr fun e w' => ∃ p cap,e = .returned (.slice p (sortO l).length cap) /\ Ext wr w' /\ zbq w' p (sortO l) := by
      rw [zaA];exact zeR R rv l wr hIr.bag hlV
     have hOk : ∀ x ∈ sortO l,(x.hl = true \/ x.hr = true) /\ x.ok := fun x hx => by
      have := ok.v;rw [HES.out] at this;exact this x ((zbf l).mem_iff.1 hx)
     have hle : (sortO l).length < 1000000 := by rw [zaA];exact hlV
     have hSL : zbP es = upLs es 2 ++ ((sortO l).map (fun x => (wOut,outN x)) ++ [(wEnd,[])]) := by rw [zeK];rw [HES.out]
     have hul := zcD ok 2;have huo := zdu ok 2;have HSL := Lib.hid hSL;clear hIr hjr hSL hlV;generalize sortO l = os at *;go_wp2_with (go_at_call 26;refine hre.mono ?_;rintro e wv ⟨p,c,rfl,hxv,hov⟩;refine Hid.out ?_);refine Lib.hid ?_;have hxu : Ext u wv := ExtM.trans _ _ _ hx hxv;have htv : TabP wv := htr.ext hxv;clear hre hx hxv c0 lR htr;go_wp2_with fail;go_loopg [5,103] (os.length + 1) (fun kx s5 s103 wr => ∃ j : Nat,s103 = .int .i64 j /\ j <= os.length /\ os.length - j <= kx /\ s5 = .string ⟨(textB (upLs es 2 ++ (os.take j).map (fun x => (wOut,outN x)))).toArray⟩ /\ Ext wv wr)
     case atStart => exact ⟨0,rfl,by omega,by omega,by simp,ExtM.refl _⟩
     case round =>
      obtain ⟨j,rfl,hj,hgk2,rfl,hX⟩ := hrel;have hlo2 : ∀ x ∈ upLs es 2 ++ (os.take j).map (fun x => (wOut,outN x)),zaV x := fun x hx => by
       rcases List.mem_append.1 hx with hx | hx
       . exact huo x hx
       . obtain ⟨q,hq,rfl⟩ := List.mem_map.1 hx;exact zdQ (hOk q (List.mem_of_mem_take hq)).2
      have hll : (upLs es 2 ++ (os.take j).map (fun x => (wOut,outN x))).length <= 1001000 := by
       rw [List.length_append,List.length_map,List.length_take];omega
      have hTl := zdc _ hlo2;have hTl2 : (textB (upLs es 2 ++ (os.take j).map (fun x => (wOut,outN x)))).length <= 1000000000 := by omega
      by_cases hjl : j < os.length
      . rcases hov.of hX with hn | ⟨b,rfl,hel⟩
        . rw [hn] at hjl;simp at hjl
        have el := hel j hjl;have hho := hOk _ (List.getElem_mem hjl);have HTK := Lib.hid (List.take_succ_eq_append_getElem hjl);have hrow := zdQ hho.2;have hho1 := hho.1;have htq : TabP wr := htv.ext hX;have hrb := zkq (upLs es 2 ++ (os.take j).map (fun x => (wOut,outN x))) (ns := outN os[j]) (by simp [outN]);have HRB := Lib.hid hrb;have hWl := zbT hrow;have hwd : ∀ w a cap,NI w a (outN os[j]) -> TabP w -> Calls Tryz.prog 52 #[.slice a (outN os[j]).length cap] w fun e w' => e = .returned (.string ⟨(wordsB (outN os[j])).toArray⟩) /\ Ext w w' := fun w a cap h ht => zdY h cap ht hrow;have hl2 := zbY os[j] 2;have hl1 := zbY os[j] 1;clear hrb hov hel hOk huo hul hlo2 hll hTl hho hrow htv;generalize textB (upLs es 2 ++ (os.take j).map (fun x => (wOut,outN x))) = T0 at *;generalize os[j] = x at *;have hoe := zln x;obtain ⟨key,⟨lk,lt,lv⟩,⟨rk,rt,rw⟩,hl,hr⟩ := x;obtain ⟨e0,e1,e2,e3,e4,e5,e6,e7,e8⟩ := id el;have lb := el.lt;simp only at e0 e1 e2 e3 e4 e5 e6 e7 e8 hho1;generalize hXo : (⟨key,⟨lk,lt,lv⟩,⟨rk,rt,rw⟩,hl,hr⟩ : Out) = x at *;have hn1 : numsN x 1 = if hl = true then [lk,lt,lv] else [] := by subst hXo;unfold numsN;cases hl <;> cases hr <;> simp
        have hn2 : numsN x 2 = numsN x 1 ++ if hr = true then [rk,rt,rw] else [] := by subst hXo;unfold numsN;cases hl <;> cases hr <;> simp
        have hha : hasN x 2 = flagI hl + 2 * flagI hr := by subst hXo;unfold hasN flagI;cases hl <;> cases hr <;> simp
        have hne : numsN x 2 ≠ [] := by subst hXo;unfold numsN;cases hl <;> cases hr <;> simp at hho1 ⊢
        have HN1 := Lib.hid hn1;have HN2 := Lib.hid hn2;have HOE := Lib.hid hoe;have HHA := Lib.hid hha;have HNE := Lib.hid hne;have HXu := Lib.hid (⟨hxu,hX⟩ : _ /\ _);have hxb : Ext wr (wr.alloc (.cells #[.int .i64 key,.int .i64 lk,.int .i64 lt,.int .i64 lv,.int .i64 rk,.int .i64 rt,.int .i64 rw,.bool hl,.bool hr] 86)) := (ExtM.refl _).alloc _;have b1 : (wr.alloc (.cells #[.int .i64 key,.int .i64 lk,.int .i64 lt,.int .i64 lv,.int .i64 rk,.int .i64 rt,.int .i64 rw,.bool hl,.bool hr] 86)).cell? ⟨wr.heap.size,1,none⟩ = some (.int .i64 lk) := by go_simp
        have b2 : (wr.alloc (.cells #[.int .i64 key,.int .i64 lk,.int .i64 lt,.int .i64 lv,.int .i64 rk,.int .i64 rt,.int .i64 rw,.bool hl,.bool hr] 86)).cell? ⟨wr.heap.size,2,none⟩ = some (.int .i64 lt) := by go_simp
        have b3 : (wr.alloc (.cells #[.int .i64 key,.int .i64 lk,.int .i64 lt,.int .i64 lv,.int .i64 rk,.int .i64 rt,.int .i64 rw,.bool hl,.bool hr] 86)).cell? ⟨wr.heap.size,3,none⟩ = some (.int .i64 lv) := by go_simp
        have b4 : (wr.alloc (.cells #[.int .i64 key,.int .i64 lk,.int .i64 lt,.int .i64 lv,.int .i64 rk,.int .i64 rt,.int .i64 rw,.bool hl,.bool hr] 86)).cell? ⟨wr.heap.size,4,none⟩ = some (.int .i64 rk) := by go_simp
        have b5 : (wr.alloc (.cells #[.int .i64 key,.int .i64 lk,.int .i64 lt,.int .i64 lv,.int .i64 rk,.int .i64 rt,.int .i64 rw,.bool hl,.bool hr] 86)).cell? ⟨wr.heap.size,5,none⟩ = some (.int .i64 rt) := by go_simp
        have b6 : (wr.alloc (.cells #[.int .i64 key,.int .i64 lk,.int .i64 lt,.int .i64 lv,.int .i64 rk,.int .i64 rt,.int .i64 rw,.bool hl,.bool hr] 86)).cell? ⟨wr.heap.size,6,none⟩ = some (.int .i64 rw) := by go_simp
        have b7 : (wr.alloc (.cells #[.int .i64 key,.int .i64 lk,.int .i64 lt,.int .i64 lv,.int .i64 rk,.int .i64 rt,.int .i64 rw,.bool hl,.bool hr] 86)).cell? ⟨wr.heap.size,7,none⟩ = some (.bool hl) := by go_simp
        have b8 : (wr.alloc (.cells #[.int .i64 key,.int .i64 lk,.int .i64 lt,.int .i64 lv,.int .i64 rk,.int .i64 rt,.int .i64 rw,.bool hl,.bool hr] 86)).cell? ⟨wr.heap.size,8,none⟩ = some (.bool hr) := by go_simp
        clear hn1 hn2 hoe hha hne hXo el hho1 hxu hX;go_upto_if 108 with fail;have hxw : Ext wr (wr.alloc (.cells #[.int .i64 key,.int .i64 lk,.int .i64 lt,.int .i64 lv,.int .i64 rk,.int .i64 rt,.int .i64 rw,.bool hl,.bool hr] 86)) := hxb;have htb := htq.ext hxw;generalize wr.alloc (.cells #[.int .i64 key,.int .i64 lk,.int .i64 lt,.int .i64 lv,.int .i64 rk,.int .i64 rt,.int .i64 rw,.bool hl,.bool hr] 86) = wb at *;generalize wr.heap.size = X at *;have HXW := Lib.hid hxw;have lX := zac b1;clear e0 e1 e2 e3 e4 e5 e6 e7 e8 lb hxb hxw htq;have B7 := Lib.hid b7;have B8 := Lib.hid b8;have hF1 : hl = false -> IR wb wb.heap.size (.slice none 0 0) (numsN x 1) := fun h => by rw [HN1.out,h];exact ⟨rfl,.inl ⟨rfl,rfl⟩⟩
        go_cut [11] (fun s11 wx => IR wx wb.heap.size s11 (numsN x 1) /\ Ext wb wx)
        case first =>
         cases hl with
         | false =>
           go_wp2_with fail;go_meet
           case rel => exact ⟨(by first | exact hF1 rfl | exact hF1 trivial),ExtM.refl _⟩
         | true =>
           go_wp2_with (go_at_call 53;refine (zgO lk lt lv _).mono ?_;rintro e w2 ⟨bb,cap,rfl,hia,hb1,hb2,hx2⟩;refine Hid.out ?_);refine Lib.hid ?_;have hir2 : IR w2 wb.heap.size (.slice none 0 0) [] := ⟨rfl,.inl ⟨rfl,rfl⟩⟩
           obtain ⟨v',w',happ,hir',hxr,hloc⟩ := zbe w2 wb.heap.size bb cap (.slice none 0 0) [] [lk,lt,lv] 81 hir2 (zev hia) (by simp only [List.length_cons,List.length_nil];omega) (by have := hx2.size;have := hl1;omega);have hE : Ext wb w' := (ExtM.trans _ _ _ (ExtM.refl wb) hx2 : Ext wb w2).fresh' hxr (fun k hk e => by have := (zaf hir2 k e).1;omega);have HNN := Lib.hid (⟨hir',hE⟩ : _ /\ _);clear hir' hE hxr hloc hir2 hx2 hia;skip;go_wp2_with (at_builtin;refine wpList_append_run happ rfl rfl _ _ rfl rfl rfl ?_;clear happ);go_meet
           case rel => exact ⟨by rw [HN1.out];first | (rw [if_pos rfl];exact HNN.out.1) | (rw [if_pos trivial];exact HNN.out.1),HNN.out.2⟩
        case rest =>
         obtain ⟨hir,hxc⟩ := hcut;have kx := fun o => hxc.cell (p := ⟨X,o,none⟩) lX id;replace b4 := (kx _).trans b4;replace b5 := (kx _).trans b5;replace b6 := (kx _).trans b6;replace b7 := (kx _).trans b7;replace b8 := (kx _).trans b8;have lX2 : X < wc.heap.size := Nat.lt_of_lt_of_le lX hxc.size;clear kx b1 b2 b3;obtain ⟨pu,cu,hpu,-⟩ := zaa hir;go_upto_if 115 with fail;go_cut [11] (fun s11 wx => IR wx wb.heap.size s11 (numsN x 2) /\ Ext wb wx)
         case first =>
          subst hpu;have hF2 : hr = false -> IR wc wb.heap.size (.slice pu (numsN x 1).length cu) (numsN x 2) := fun h => by rw [HN2.out,h,if_neg (by decide),List.append_nil];exact hir
          cases hr with
          | false =>
            go_wp2_with fail;go_meet
            case rel => exact ⟨(by first | exact hF2 rfl | exact hF2 trivial),hxc⟩
          | true =>
            go_wp2_with (go_at_call 53;refine (zgO rk rt rw _).mono ?_;rintro e w2 ⟨bb,cap,rfl,hia,hb1,hb2,hx2⟩;refine Hid.out ?_);refine Lib.hid ?_;have hir2 : IR w2 wb.heap.size (.slice pu (numsN x 1).length cu) (numsN x 1) := zag hir hx2 (fun _ _ h => h);obtain ⟨v',w',happ,hir',hxr,hloc⟩ := zbe w2 wb.heap.size bb cap (.slice pu (numsN x 1).length cu) (numsN x 1) [rk,rt,rw] 81 hir2 (zev hia) (by simp only [List.length_cons,List.length_nil];omega) (by have := hx2.size;have := hxc.size;omega);have hE : Ext wb w' := (ExtM.trans _ _ _ hxc hx2 : Ext wb w2).fresh' hxr (fun k hk e => by have := (zaf hir2 k e).1;omega);have HNN := Lib.hid (⟨hir',hE⟩ : _ /\ _);clear hir' hE hxr hloc hir2 hx2 hia;skip;go_wp2_with (at_builtin;refine wpList_append_run happ rfl rfl _ _ rfl rfl rfl ?_;clear happ);go_meet
            case rel => exact ⟨by rw [HN2.out];first | (rw [if_pos rfl];exact HNN.out.1) | (rw [if_pos trivial];exact HNN.out.1),HNN.out.2⟩
         case rest =>
          clear hir hxc hpu b4 b5 b6 b7 b8 hF1 lX2;obtain ⟨hir,hxc⟩ := hcut;have b7 := (hxc.cell (p := ⟨X,7,none⟩) lX id).trans B7.out;have b8 := (hxc.cell (p := ⟨X,8,none⟩) lX id).trans B8.out;have lX2 : X < wc.heap.size := Nat.lt_of_lt_of_le lX hxc.size;have htc := htb.ext hxc;obtain ⟨g,cap,cur,hg1,hg2,hg3⟩ : ∃ g cap cur,u11 = .slice (some ⟨g,0,none⟩) (numsN x 2).length cap /\ wc.heap[g]? = some (.cells cur 3 (0,0)) /\ ∀ j u,((numsN x 2).map (Value.int .i64))[j]? = some u -> cur[j]? = some u := by
           rcases hir.2 with ⟨e,h0⟩ | ⟨g,cap,cur,e,e1,e2,e3,e4,e5,e6⟩
           . exact absurd (List.eq_nil_of_length_eq_zero h0) HNE.out
           . refine ⟨g,cap,cur,e,e2,fun j u hj => ?_⟩;rw [<- e6,List.getElem?_take] at hj;split at hj
             . rw [Array.getElem?_toList] at hj;exact hj
             . cases hj
          subst hg1;have HXC := Lib.hid hxc;clear hir hxc htb lX;have hp : 0 <= flagI hl /\ flagI hl <= 1 := by cases hl <;> decide
          have hq : 0 <= flagI hr /\ flagI hr <= 1 := by cases hr <;> decide
          have hf1 : ∀ w,Calls Tryz.prog 54 #[.bool hl] w fun e w' => e = .returned (.int .i64 (flagI hl)) /\ w = w' := fun w => zmX hl w;have hf2 : ∀ w,Calls Tryz.prog 54 #[.bool hr] w fun e w' => e = .returned (.int .i64 (flagI hr)) /\ w = w' := fun w => zmX hr w;generalize flagI hl = p1 at *;generalize flagI hr = q1 at *;have hce : outN x = [(p1 + 2 * q1)] ++ numsN x 2 := by rw [HOE.out,HHA.out];rfl
          rw [hce] at hwd hWl HRB;have HCE := Lib.hid hce;clear hce;obtain ⟨v',w',happ,hir',hxr,hloc⟩ := zbe (wc.drew.alloc (.cells #[.int .i64 (p1 + 2 * q1)] 3)) wc.heap.size g cap (.slice (some ⟨wc.heap.size,0,none⟩) 1 1) [(p1 + 2 * q1)] (numsN x 2) 81
           ⟨rfl,.inr ⟨wc.heap.size,1,#[.int .i64 (p1 + 2 * q1)],rfl,Nat.le_refl _,heap_alloc_new wc.drew _,Nat.le_refl _,by unfold maxLen;decide,rfl,rfl⟩⟩
           (fun j u hj => by
             rw [World.cell?_alloc_lt _ _ _ (show g < wc.drew.heap.size from (Array.getElem?_eq_some_iff.1 hg2).1)];have h1 := hg3 j u hj;have h2 : wc.drew.heap[g]? = some (.cells cur 3 (0,0)) := hg2
             simpa [World.cell?,h2] using h1) (by simp only [List.length_cons,List.length_nil];omega) (by rw [World.size_alloc];exact Nat.le_succ _)
          have hgx : Plan.ExtF wc.heap.size (wc.drew.alloc (.cells #[.int .i64 (p1 + 2 * q1)] 3)) w' := ExtM.mono hxr (fun k _ e => by have e' : wc.heap.size = k := Option.some.inj e;show wc.heap.size <= k;omega);have hE : Ext wc w' := ((ExtF.refl wc).drew.alloc _ |>.trans _ _ _ hgx).ext (Nat.le_refl _);obtain ⟨pn,cn,rfl,hnn⟩ := hir'.nums (b := 0) (by omega);have hwq := hwd w' pn cn ⟨0,hnn⟩ (htc.ext hE);have HE := Lib.hid (ExtM.trans _ _ _ HXC.out hE);obtain ⟨nl,hnl⟩ : ∃ n,n = ([(p1 + 2 * q1)] ++ numsN x 2).length := ⟨_,rfl⟩
          rw [<- hnl] at hwq happ;generalize wordsB ([(p1 + 2 * q1)] ++ numsN x 2) = W9 at *;clear hE hxr hloc hir' hnn hwd htc hg2 hg3 hnl;go_upto_region 20 with fail;refine Plan.b0 (Plan.ExtF wc.heap.size) 17 ?_;refine Plan.qs 6 [0,1,2,4,5,10] ?_;iterate 6 go_big_quiet_step (fail)
          refine Plan.o1 3 fun K hK => ?_;go_wp2_with (fail);refine (hf1 _).mono ?_;rintro e w' ⟨rfl,rfl⟩;go_wp2_with (fail);refine hK _ _ (ExtF.refl _) ?_;clear hK K;refine Plan.o1 6 fun K hK => ?_;go_wp2_with (fail);refine (hf2 _).mono ?_;rintro e w' ⟨rfl,rfl⟩;go_wp2_with (fail);refine hK _ _ (ExtF.refl _) ?_;clear hK K;refine Plan.qs 2 [7,8] ?_;iterate 2 go_big_quiet_step (fail)
          refine Plan.o1 9 fun K hK => ?_;go_wp2_with (fail);refine hK _ _ ((ExtF.refl _).alloc _) ?_;clear hK K;refine Plan.o1 11 fun K hK => ?_;refine zaw (happ) rfl _ _ rfl rfl rfl ?_;refine hK _ _ (hgx) ?_;simp only [Act.put,List.setIfInBounds_toArray,List.set_cons_succ,List.set_cons_zero];clear hK K;refine Plan.o1 12 fun K hK => ?_;go_wp2_with (fail);refine hwq.mono ?_;rintro e wz ⟨rfl,hz⟩;go_wp2_with (fail);refine hK _ _ (ExtF.of_ext hz) ?_;clear hK K;refine Plan.zaU 13 (by rfl) (by kernel_rfl) ?_;go_big_quiet_step (fail);refine wpQuiet_nil ?_;refine Plan.zaU 14 (by rfl) (by kernel_rfl) ?_;go_big_quiet_step (fail);refine wpQuiet_nil ?_;refine Plan.zaU 15 (by rfl) (by kernel_rfl) ?_;go_big_quiet_step (fail);refine wpQuiet_nil ?_;refine Plan.zaU 16 (by rfl) (by kernel_rfl) ?_;go_big_quiet_step (fail);refine wpQuiet_nil ?_;refine Plan.dn ?_;have HF := Lib.hid (ExtM.trans _ _ _ (ExtM.trans _ _ _ HXu.out.2 (ExtM.trans _ _ _ HXW.out HE.out)) hz);clear hz hwq happ hgx b7 b8 hf1 hf2;go_wp2_with fail;go_roundg (os.length - (j + 1))
          case measure => omega
          case rel =>
           refine ⟨j + 1,by go_num,by omega,Nat.le_refl _,?_,HF.out⟩;rw [HTK.out,List.map_append,<- List.append_assoc,List.map_singleton,HCE.out];exact (congrArg Value.string HRB.out)
      . obtain rfl : j = os.length := by omega
        have hz3 : decide (os.length < os.length) = false := by simp
        have hz4 : decide ((os.length : Int) < os.length) = false := by simp
        rw [List.take_length] at hTl2 ⊢;have heb := zkT (upLs es 2 ++ os.map (fun x => (wOut,outN x)));have hsv : textB (upLs es 2 ++ os.map (fun x => (wOut,outN x)) ++ [(wEnd,[])]) = savedT es := by unfold savedT;rw [HSL.out,List.append_assoc]
        rw [hsv] at heb;have hsl : (savedT es).length = (textB (upLs es 2 ++ os.map (fun x => (wOut,outN x)))).length + 4 := by
         rw [<- hsv,zaR,List.length_append];rfl
        have HF := Lib.hid (ExtM.trans _ _ _ hxu hX);have HV : Hid (zf9 (savedT es) = if 60000 < (savedT es).length then .returned (.tuple #[.string ByteArray.empty,.int .i64 4]) else .returned (.tuple #[.string ⟨(savedT es).toArray⟩,.int .i64 0])) := Lib.hid rfl;have HSL2 := Lib.hid hsl;have HEB := Lib.hid heb;clear hsv hlo2 hll hTl hX hOk huo hul hov htv hxu hsl heb;generalize textB (upLs es 2 ++ os.map (fun x => (wOut,outN x))) = T0 at *;by_cases hbig : 60000 < (savedT es).length
        . have hb1 : (60000 : Int) < (T0.length : Nat) + 4 := by have := HSL2.out;omega
          have hb2 : 60000 < T0.length + 4 := by omega
          go_wp2_with fail;go_ret2;exact ⟨by rw [HV.out,if_pos hbig];rfl,HF.out⟩
        . have hb1 : ¬ (60000 : Int) < (T0.length : Nat) + 4 := by have := HSL2.out;omega
          have hb2 : ¬ 60000 < T0.length + 4 := by omega
          go_wp2_with fail;go_ret2;exact ⟨by rw [HV.out,if_neg hbig,<- HEB.out];rfl,HF.out⟩
end Go.Proofs.YtmcgnnmffeojpabGreatDoor
