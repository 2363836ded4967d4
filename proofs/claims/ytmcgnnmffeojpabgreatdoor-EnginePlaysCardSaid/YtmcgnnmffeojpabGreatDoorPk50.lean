import Derived.Test.YtmcgnnmffeojpabGreatDoorPk33
import Derived.Test.YtmcgnnmffeojpabGreatDoorPk48
import Derived.Test.YtmcgnnmffeojpabGreatDoorPk49
import Derived.Deep.DeepCutAuto
import Derived.Deep.CutBlock
set_option maxRecDepth 100000
set_option maxHeartbeats 8000000
namespace Go.Proofs.YtmcgnnmffeojpabGreatDoor
open Go.RowKit Go.Plan
theorem zdP (n : Int) (w : World) (hg : Laid w) : Calls Tryz.prog 7 #[errV n,.int .i64 n] w fun e w' => e = .returned (.bool true) /\ Ext w w' := by
 unfold errV;split
 . rename_i h;subst h;exact (lbare_nil 0 w).mono fun e w' hh => ⟨by simpa using hh.1,hh.2 ▸ ExtM.refl _⟩
 . exact (znJ n n w hg).mono fun e w' hh => ⟨by simpa using hh.1,hh.2⟩
theorem MRow.of {w w' : World} {b : Nat} {v : Value} {l : List Hd} (h : MRow w b v l) (hx : Ext w w') : MRow w' b v l := zag h hx (fun _ _ h => h)
structure StX where
 what : Int
 side : Int
 n : Int
 r : Row
structure zgX (w : World) (b o : Nat) (d : StX) : Prop where
 c0 : w.cell? ⟨b,o,none⟩ = some (.int .i64 d.what)
 c1 : w.cell? ⟨b,o + 1,none⟩ = some (.int .i64 d.side)
 c2 : w.cell? ⟨b,o + 2,none⟩ = some (.int .i64 d.n)
 c3 : w.cell? ⟨b,o + 3,none⟩ = some (.int .i64 d.r.k)
 c4 : w.cell? ⟨b,o + 4,none⟩ = some (.int .i64 d.r.t)
 c5 : w.cell? ⟨b,o + 5,none⟩ = some (.int .i64 d.r.v)
theorem zgX.lt {w : World} {b o : Nat} {d : StX} (h : zgX w b o d) : b < w.heap.size := zaG h.c0
theorem zgX.of {w w' : World} {b o : Nat} {d : StX} (h : zgX w b o d) (hx : Ext w w') : zgX w' b o d := by
 have k := fun q => hx.cell (p := ⟨b,q,none⟩) h.lt (fun h => h);exact ⟨(k _).trans h.c0,(k _).trans h.c1,(k _).trans h.c2,(k _).trans h.c3,(k _).trans h.c4,(k _).trans h.c5⟩
def zpD (w : World) (a : Option Addr) (xs : List StX) : Prop := xs = [] \/ ∃ b off,a = some ⟨b,off,none⟩ /\ ∀ i (h : i < xs.length),zgX w b (off + i * 6) xs[i]
theorem zlS (lo hi md s : Int) (r : Row) (st : JSt) (la : st.a.length <= 300) (lb : st.b.length <= 300) : (zcR lo hi md s r st).length <= 601 := by
 have hc : ∀ s' : Nat,(zaj lo hi md s' r st).length <= 601 := fun s' => by
  unfold zaj;split
  . rw [zbD,List.length_append];have h1 := zaK md s' r ((st.of (1 - s')).filter (zab r.k (frI lo hi s' r.t) (tilI lo hi s' r.t)));have h2 : ((st.of (1 - s')).filter (zab r.k (frI lo hi s' r.t) (tilI lo hi s' r.t))).length <= 300 := Nat.le_trans (List.length_filter_le _ _) (by unfold JSt.of;split <;> assumption);have h3 : ∀ b : Bool,(if b = true then [(zan s' r,false)] else [] : List (Out × Bool)).length <= 1 := fun b => by cases b <;> simp
    have := h3 (decide (((st.of (1 - s')).filter (zab r.k (frI lo hi s' r.t) (tilI lo hi s' r.t))).length = 0) && zai md s')
    omega
  . simp
 unfold zcR;split
 . exact hc 0
 . split
   . exact hc 1
   . simp
def rchg (lo hi md : Int) (s : Nat) (r : Row) (rs : RSt) (Rl : List RHd) : List (Out × Bool) := if feedE lo hi s r rs.x rs.y (rs.of s).length = 0 then chgs md s r ((Rl.map RHd.hd).filter (zab r.k (frI lo hi s r.t) (tilI lo hi s r.t))) else []
theorem RUp.lx {u u' : World} {R U J : Nat} {r0 r1 : Value} {lo hi md : Int} {rs : RSt} (hR : ¬ zaO J r0 r1 R) (hU : ¬ zaO J r0 r1 U) (h : RUp u u' J (zaO J r0 r1) lo hi md rs) : Plan.ExtL R U u u' := ExtL.of_M hR hU h.1
theorem zgz (B : Nat) (v : Value) (l : List Out) (x : Out) (gg : Bool) (w : World) (h : RE w B v l) (hl : l.length < 1000000) :
 Calls Tryz.prog 37 #[.pointer (some ⟨B,1,none⟩),encC x gg] w fun e w' => (∃ n : Int,e = .returned (.int .i64 n)) /\ REUp w w' B v (if gg then l.erase x else l ++ [x]) := by
 cases gg
 . exact (zgf B v l x w h hl).mono fun e w' hh => ⟨⟨_,hh.1⟩,hh.2⟩
 . exact (zgB B v l x w h hl).mono fun e w' hh => ⟨⟨_,hh.1⟩,hh.2.1⟩
theorem ziq (lo hi md : Int) (s : Nat) (r : Row) (rs : RSt) (Rl : List RHd) (hR : feedE lo hi s r rs.x rs.y (rs.of s).length = 0 -> Rl.length <= 300) : (rchg lo hi md s r rs Rl).length <= 601 := by
 unfold rchg;split
 . next h0 =>
   rw [zbD,List.length_append];have h1 := zaK md s r ((Rl.map RHd.hd).filter (zab r.k (frI lo hi s r.t) (tilI lo hi s r.t)));have h2 : ((Rl.map RHd.hd).filter (zab r.k (frI lo hi s r.t) (tilI lo hi s r.t))).length <= 300 := Nat.le_trans (List.length_filter_le _ _) (by rw [List.length_map];exact hR h0);have h3 : ∀ b : Bool,(if b = true then [(zan s r,false)] else [] : List (Out × Bool)).length <= 1 := fun b => by cases b <;> simp
   have := h3 (decide (((Rl.map RHd.hd).filter (zab r.k (frI lo hi s r.t) (tilI lo hi s r.t))).length = 0) && zai md s)
   omega
 . simp
theorem zmr {u : World} {R : Nat} {Cs : Nat -> Prop} {lo hi md : Int} {rs : RSt} {l : List Out} {f0 f1 : Int} (h : REAt u R Cs lo hi md rs l f0 f1) (hp : zay lo hi) (hl0 : rs.a.length <= 300) (hl1 : rs.b.length <= 300) (hcm : 0 <= rs.came /\ rs.came < 1000000) (hll : l.length < 900000) (k t v : Int) :
 Calls Tryz.prog 8 #[.pointer (some ⟨R,0,none⟩),.int .i64 0,.agg #[.int .i64 k,.int .i64 t,.int .i64 v]] u fun e u' => ∃ (vo : Value) (Rl : List RHd),e = .returned (.tuple #[vo,.int .i64 (feedE lo hi 0 ⟨k,t,v⟩ rs.x rs.y (rs.of 0).length)]) /\
  CRow u' u.heap.size vo (rchg lo hi md 0 ⟨k,t,v⟩ rs Rl) /\ (feedE lo hi 0 ⟨k,t,v⟩ rs.x rs.y (rs.of 0).length = 0 -> Rl.Perm (rs.of (1 - 0)) /\ Rl.Pairwise (fun a b => ¬ ltR b a)) /\
  RNUp u u' R Cs lo hi md (za4 lo hi 0 ⟨k,t,v⟩ rs) (zbd l (rchg lo hi md 0 ⟨k,t,v⟩ rs Rl)) (fedI (feedE lo hi 0 ⟨k,t,v⟩ rs.x rs.y (rs.of 0).length) f0) f1 := by
 obtain ⟨J,r0,r1,rv,hI,rfl⟩ := h;have hxb : Ext u (u.alloc (.cells #[.int .i64 k,.int .i64 t,.int .i64 v] 37)) := (ExtM.refl _).alloc _;have hfe := fun w (hw : Ext (u.alloc (.cells #[.int .i64 k,.int .i64 t,.int .i64 v] 37)) w) => zmC w J r0 r1 lo hi md rs k t v ((hI.ext (ExtM.trans _ _ _ hxb hw)).join) hp hl0 hl1 hcm;have b0 : (u.alloc (.cells #[.int .i64 k,.int .i64 t,.int .i64 v] 37)).cell? ⟨u.heap.size,0,none⟩ = some (.int .i64 k) := by go_simp
 have b1 : (u.alloc (.cells #[.int .i64 k,.int .i64 t,.int .i64 v] 37)).cell? ⟨u.heap.size,1,none⟩ = some (.int .i64 t) := by go_simp
 have b2 : (u.alloc (.cells #[.int .i64 k,.int .i64 t,.int .i64 v] 37)).cell? ⟨u.heap.size,2,none⟩ = some (.int .i64 v) := by go_simp
 go_enter Tryz.func8,Tryz.ntmps8;go_upto_region 1 with fail;have hI1 := hI.ext hxb;generalize u.alloc (.cells #[.int .i64 k,.int .i64 t,.int .i64 v] 37) = w1 at *;generalize hU : u.heap.size = U at *;have HU := Lib.hid hU;clear hU;have c0 := hI1.c0;have lR := hI1.lt;have lU := zac b0;have hnR : ¬ zaO J r0 r1 R := hI1.nR;simp only at lU;have hnU : ¬ zaO J r0 r1 U := fun e => by have := hI.join.foot U e;have := HU.out;omega
 refine Plan.b0 (Plan.ExtL R U) 12 ?_;refine Plan.qs 6 [0,1,2,3,4,5] ?_;iterate 6 go_big_quiet_step (fail)
 refine Plan.o1 6 fun K hK => ?_;go_wp2_with (fail);refine (hfe _ (ExtM.refl _).drew).mono ?_;rintro e w2 ⟨vo,Rl,rfl,hrow,hRl,h2⟩;have H2 := ExtL.trans _ _ _ (ExtL.refl _).drew (RUp.lx hnR hnU h2);obtain ⟨hc2,hf2,-⟩ := ExtL.rules H2;have hs2_0 : R < w2.heap.size := by have := H2.size;(try simp at this);omega
 have hs2_1 : U < w2.heap.size := by have := H2.size;(try simp at this);omega
 go_wp2_with (fail);refine hK _ _ (RUp.lx hnR hnU h2) ?_;clear hK K;refine Plan.qs 5 [7,8,9,10,11] ?_;iterate 5 go_big_quiet_step (fail)
 refine Plan.dn ?_;have hcl := ziq lo hi md 0 ⟨k,t,v⟩ rs Rl (fun q => by rw [(hRl q).1.length_eq];unfold RSt.of;split <;> assumption);have hrow2 : CRow w2 w1.drew.heap.size vo (rchg lo hi md 0 ⟨k,t,v⟩ rs Rl) := hrow;obtain ⟨hx2,r0',r1',hI2,hf2⟩ := (hI1.ext (ExtM.refl w1).drew).joined h2;have hRL := Lib.hid hRl;clear hRl hrow h2 hfe b0 b1 b2 c0;generalize hcs : rchg lo hi md 0 ⟨k,t,v⟩ rs Rl = cs at *;have HCS := Lib.hid hcs;generalize hrs : za4 lo hi 0 ⟨k,t,v⟩ rs = rs' at *;have HRS := Lib.hid hrs;generalize hEe : feedE lo hi 0 ⟨k,t,v⟩ rs.x rs.y (rs.of 0).length = e at *;have HE := Lib.hid hEe;clear hEe hcs hrs;have hvR : ∀ q,vo.ownBlock = some q -> ¬ q = R := fun q hq e => by have := (zaf hrow2 q hq).1;have : w1.drew.heap.size = w1.heap.size := rfl;omega
 go_upto_region 2 with fail;go_cut [27] (fun s27 wx => ∃ b : Bool,s27 = .bool b /\ b = decide (e = 0 \/ e = 10) /\ w2 = wx)
 case first =>
  rcases (by omega : e = 0 \/ e = 10 \/ e ≠ 0 /\ e ≠ 10) with z0 | z0 | ⟨z0,z1⟩
  . subst z0;go_wp2_with fail;go_meet
    case rel => exact ⟨true,rfl,rfl,rfl⟩
  . subst z0;go_wp2_with fail;go_meet
    case rel => exact ⟨true,rfl,rfl,rfl⟩
  . have d0 : (e == 0) = false := by simp [z0]
    have d1 : (e == 10) = false := by simp [z1]
    go_wp2_with fail;go_meet
    case rel => exact ⟨false,rfl,(decide_eq_false (by omega)).symm,rfl⟩
 case rest =>
  obtain ⟨b,rfl,hbd,rfl⟩ := hcut;go_upto_if 27 with fail;go_cut [] (fun wx => ExtM (fun k => k = R) w2 wx /\ REIs wx R J r0' r1' rv lo hi md rs' l (fedI e f0) f1)
  case first =>
   cases b with
   | true =>
     have hb : e = 0 \/ e = 10 := of_decide_eq_true hbd.symm;have hF : fedI e f0 = wrap64 (f0 + 1) := if_pos hb;have c7 := hI2.c2;have z7 := hI2.fz 2;clear hb hbd;go_upto_region 3 with fail;refine Plan.bT Plan.Ext [10] 11 ?_;refine Plan.qs 7 [0,1,2,3,4,5,6] ?_;iterate 7 go_big_quiet_step (fail)
     refine Plan.o1 7 fun K hK => ?_;go_wp2_with (fail);refine hK _ _ (ExtM.refl _) ?_;clear hK K;refine Plan.o1 8 fun K hK => ?_;go_wp2_with (fail);refine hK _ _ (ExtM.refl _) ?_;clear hK K;refine Plan.qs 1 [9] ?_;go_big_quiet_step (fail);refine Plan.ol 10 fun K hK => ?_;go_wp2_with (fail);refine Plan.dn ?_;obtain ⟨hI3,hxs⟩ := hI2.fed0 (wrap64 (f0 + 1));have HN := Lib.hid (⟨ExtM.trans _ _ _ hxs ((show Ext _ _ from (ExtM.refl _).drew).mono (fun _ _ h => h.elim)),hI3.ext (ExtM.refl _).drew⟩ : ExtM (fun k => k = R) w2 (w2.setCell ⟨R,2,none⟩ (.int .i64 (wrap64 (f0 + 1)))).drew /\ _);clear hxs hI3;go_wp2_with fail;go_meet
     case rel => exact ⟨HN.out.1,by rw [hF];exact HN.out.2⟩
   | false =>
     have hb : ¬ (e = 0 \/ e = 10) := of_decide_eq_false hbd.symm;have hF : fedI e f0 = f0 := if_neg hb;clear hb hbd;go_wp2_with fail;go_meet
     case rel => exact ⟨ExtM.refl _,by rw [hF];exact hI2⟩
  case rest =>
   obtain ⟨hx4,hI4⟩ := hcut;have hrow4 : CRow wc w1.drew.heap.size _ cs := zag hrow2 hx4 hvR;have hvv : ∀ q,rv.ownBlock = some q -> q < w1.heap.size := fun q hq => (zaf hI1.bag.row q hq).2;have hvw : ∀ q,vo.ownBlock = some q -> w1.drew.heap.size <= q := fun q hq => (zaf hrow2 q hq).1;obtain ⟨p,cap,rfl,-⟩ := zaa hrow2;go_wp2_with fail;go_loopg [40] (cs.length + 1) (fun kx s40 wr => ∃ (i : Nat) (rv' : Value),s40 = .int .i64 i /\ i <= cs.length /\ cs.length - i <= kx /\ ExtM (fun k => k = R \/ rv.ownBlock = some k) wc wr /\ REIs wr R J r0' r1' rv' lo hi md rs' (zbd l (cs.take i)) (fedI e f0) f1 /\ ∀ q,rv'.ownBlock = some q -> rv.ownBlock = some q \/ wc.heap.size <= q)
   case atStart => exact ⟨0,rv,rfl,by omega,by omega,ExtM.refl _,hI4,fun q hq => .inl hq⟩
   case round =>
    obtain ⟨i,rv',rfl,hi,hgk,hxw,hIw,hrv⟩ := hrel;by_cases hil : i < cs.length
    . have hroww : CRow wr w1.drew.heap.size _ cs := zag hrow4 hxw (fun q hq e => by
       have := hvw q hq
       have hsz : w1.drew.heap.size = w1.heap.size := rfl;rcases e with e | e
       . omega
       . have := hvv q e;omega)
      obtain ⟨g,rc,e1,hg,hc⟩ := zcd hroww i cs[i] (List.getElem?_eq_getElem hil);simp only [Value.slice.injEq,true_and] at e1;obtain ⟨rfl,rfl⟩ := e1;have hsn := zdV l cs i hil;have hlr : (zbd l (cs.take i)).length < 1000000 := by
       have h1 := zdv (cs.take i) l;rw [List.length_take] at h1;omega
      have HSN := Lib.hid hsn;clear hsn hroww;generalize cs[i] = c at *;obtain ⟨x,gg⟩ := c;have y0 := hc 0 _ rfl;have y1 := hc 1 _ rfl;have y2 := hc 2 _ rfl;have y3 := hc 3 _ rfl;have y4 := hc 4 _ rfl;have y5 := hc 5 _ rfl;have y6 := hc 6 _ rfl;have y7 := hc 7 _ rfl;have y8 := hc 8 _ rfl;have y9 := hc 9 _ rfl;simp only [Nat.add_zero] at y0 y1 y2 y3 y4 y5 y6 y7 y8 y9;clear hc;go_upto_region 7 with fail;have bx := BoxC.mk' wr x gg 92;have hxa : Ext wr (wr.alloc (.cells #[.int .i64 x.key,.int .i64 x.l.k,.int .i64 x.l.t,.int .i64 x.l.v,.int .i64 x.r.k,.int .i64 x.r.t,.int .i64 x.r.v,.bool x.hl,.bool x.hr,.bool gg] 92)) := (ExtM.refl _).alloc _;have hIa := hIw.ext hxa;have hxw2 : ExtM (fun k => k = R \/ rv.ownBlock = some k) wc (wr.alloc (.cells #[.int .i64 x.key,.int .i64 x.l.k,.int .i64 x.l.t,.int .i64 x.l.v,.int .i64 x.r.k,.int .i64 x.r.t,.int .i64 x.r.v,.bool x.hl,.bool x.hr,.bool gg] 92)) := ExtM.trans _ _ _ hxw (hxa.mono (fun _ _ h => h.elim));clear y0 y1 y2 y3 y4 y5 y6 y7 y8 y9 hxa hIw hxw;generalize wr.alloc (.cells #[.int .i64 x.key,.int .i64 x.l.k,.int .i64 x.l.t,.int .i64 x.l.v,.int .i64 x.r.k,.int .i64 x.r.t,.int .i64 x.r.v,.bool x.hl,.bool x.hr,.bool gg] 92) = wb at *;generalize wr.heap.size = n at *;have hlR := hIa.lt;have hln : n < wb.heap.size := zac bx.e0;obtain ⟨e0,e1,e2,e3,e4,e5,e6,e7,e8,e9⟩ := id bx;refine Plan.bT Plan.Ext [4] 5 ?_;refine Plan.qs 1 [3] ?_;go_big_quiet_step (fail);refine Plan.o1 0 fun K hK => ?_;go_wp2_with (fail);refine hK _ _ (ExtM.refl _) ?_;clear hK K;refine Plan.o1 1 fun K hK => ?_;go_wp2_with (fail);refine hK _ _ (ExtM.refl _) ?_;clear hK K;refine Plan.qs 1 [2] ?_;go_big_quiet_step (fail);refine Plan.ol 4 fun K hK => ?_;go_wp2_with (fail);refine (zgz R rv' _ x gg _ (hIa.ext (ExtM.refl _).drew).bag hlr).mono ?_;rintro e wd ⟨⟨m,rfl⟩,hud⟩;go_wp2_with (fail);refine Plan.dn ?_;obtain ⟨hxd,rv2,hId,hrd⟩ := (hIa.ext (ExtM.refl wb).drew).bagged hud;rw [<- HSN.out] at hId;have HID := Lib.hid hId;clear hId hud e0 e1 e2 e3 e4 e5 e6 e7 e8 e9;go_wp2_with fail;go_roundg (cs.length - (i + 1))
      case measure => omega
      case rel =>
       have hs1 := hxw2.size;have hs2 : wb.drew.heap.size = wb.heap.size := rfl;refine ⟨i + 1,rv2,by go_num,by omega,Nat.le_refl _,(ExtM.trans _ _ _ hxw2 ((show Ext wb wb.drew from (ExtM.refl wb).drew).mono (fun _ _ h => h.elim))).fresh' hxd (fun q hq e => ?_),HID.out,fun q hq => ?_⟩
       . rcases e with e | e
         . exact .inl e
         . exact (hrv q e).elim .inr (fun e => by omega)
       . rcases hrd q hq with e | e
         . exact hrv q e
         . exact .inr (by omega)
    . obtain rfl : i = cs.length := by omega
      have hz : decide (cs.length < cs.length) = false := by simp
      have hz2 : decide ((cs.length : Int) < cs.length) = false := by simp
      go_wp2_with fail;go_ret2;refine ⟨.slice p cs.length cap,Rl,?_⟩;rw [HCS.out,HE.out,HRS.out];rw [List.take_length] at hIw;have hA : ExtM (zdU R J r0 r1 rv) u w1.drew := (ExtM.trans _ _ _ hxb (show Ext w1 w1.drew from (ExtM.refl w1).drew)).mono (fun _ _ h => h.elim);have hCx := ExtM.trans _ _ _ (ExtM.trans _ _ _ hA (hx2.mono (fun _ _ h => .inr (.inr h)))) (hx4.mono (fun _ _ h => .inl h));refine ⟨rfl,zak (zag hrow4 hxw (fun q hq e => ?_)) hA.size,hRL.out,ExtM.trans _ _ _ hCx (hxw.mono (fun _ _ h => h.elim .inl (fun h => .inr (.inl h)))),_,⟨J,r0',r1',rv',hIw,rfl⟩,fun q hq => ?_⟩
      . have := hvw q hq
        have hsz : w1.drew.heap.size = w1.heap.size := rfl;rcases e with e | e
        . omega
        . have := hvv q e;omega
      . rcases hq with e | e | e
        . exact .inl (.inl e)
        . exact (hrv q e).elim (fun e => .inl (.inr (.inl e))) (fun e => .inr (Nat.le_trans hCx.size e))
        . exact (hf2 q e).elim (fun e => .inl (.inr (.inr e))) (fun e => .inr (Nat.le_trans hA.size e))
theorem zmJ {u : World} {R : Nat} {Cs : Nat -> Prop} {lo hi md : Int} {rs : RSt} {l : List Out} {f0 f1 : Int} (h : REAt u R Cs lo hi md rs l f0 f1) (hp : zay lo hi) (hl0 : rs.a.length <= 300) (hl1 : rs.b.length <= 300) (hcm : 0 <= rs.came /\ rs.came < 1000000) (hll : l.length < 900000) (k t v : Int) :
 Calls Tryz.prog 8 #[.pointer (some ⟨R,0,none⟩),.int .i64 1,.agg #[.int .i64 k,.int .i64 t,.int .i64 v]] u fun e u' => ∃ (vo : Value) (Rl : List RHd),e = .returned (.tuple #[vo,.int .i64 (feedE lo hi 1 ⟨k,t,v⟩ rs.x rs.y (rs.of 1).length)]) /\
  CRow u' u.heap.size vo (rchg lo hi md 1 ⟨k,t,v⟩ rs Rl) /\ (feedE lo hi 1 ⟨k,t,v⟩ rs.x rs.y (rs.of 1).length = 0 -> Rl.Perm (rs.of (1 - 1)) /\ Rl.Pairwise (fun a b => ¬ ltR b a)) /\
  RNUp u u' R Cs lo hi md (za4 lo hi 1 ⟨k,t,v⟩ rs) (zbd l (rchg lo hi md 1 ⟨k,t,v⟩ rs Rl)) f0 (fedI (feedE lo hi 1 ⟨k,t,v⟩ rs.x rs.y (rs.of 1).length) f1) := by
 obtain ⟨J,r0,r1,rv,hI,rfl⟩ := h;have hxb : Ext u (u.alloc (.cells #[.int .i64 k,.int .i64 t,.int .i64 v] 37)) := (ExtM.refl _).alloc _;have hfe := fun w (hw : Ext (u.alloc (.cells #[.int .i64 k,.int .i64 t,.int .i64 v] 37)) w) => zlN w J r0 r1 lo hi md rs k t v ((hI.ext (ExtM.trans _ _ _ hxb hw)).join) hp hl0 hl1 hcm;have b0 : (u.alloc (.cells #[.int .i64 k,.int .i64 t,.int .i64 v] 37)).cell? ⟨u.heap.size,0,none⟩ = some (.int .i64 k) := by go_simp
 have b1 : (u.alloc (.cells #[.int .i64 k,.int .i64 t,.int .i64 v] 37)).cell? ⟨u.heap.size,1,none⟩ = some (.int .i64 t) := by go_simp
 have b2 : (u.alloc (.cells #[.int .i64 k,.int .i64 t,.int .i64 v] 37)).cell? ⟨u.heap.size,2,none⟩ = some (.int .i64 v) := by go_simp
 go_enter Tryz.func8,Tryz.ntmps8;go_upto_region 1 with fail;have hI1 := hI.ext hxb;generalize u.alloc (.cells #[.int .i64 k,.int .i64 t,.int .i64 v] 37) = w1 at *;generalize hU : u.heap.size = U at *;have HU := Lib.hid hU;clear hU;have c0 := hI1.c0;have lR := hI1.lt;have lU := zac b0;have hnR : ¬ zaO J r0 r1 R := hI1.nR;simp only at lU;have hnU : ¬ zaO J r0 r1 U := fun e => by have := hI.join.foot U e;have := HU.out;omega
 refine Plan.b0 (Plan.ExtL R U) 12 ?_;refine Plan.qs 6 [0,1,2,3,4,5] ?_;iterate 6 go_big_quiet_step (fail)
 refine Plan.o1 6 fun K hK => ?_;go_wp2_with (fail);refine (hfe _ (ExtM.refl _).drew).mono ?_;rintro e w2 ⟨vo,Rl,rfl,hrow,hRl,h2⟩;have H2 := ExtL.trans _ _ _ (ExtL.refl _).drew (RUp.lx hnR hnU h2);obtain ⟨hc2,hf2,-⟩ := ExtL.rules H2;have hs2_0 : R < w2.heap.size := by have := H2.size;(try simp at this);omega
 have hs2_1 : U < w2.heap.size := by have := H2.size;(try simp at this);omega
 go_wp2_with (fail);refine hK _ _ (RUp.lx hnR hnU h2) ?_;clear hK K;refine Plan.qs 5 [7,8,9,10,11] ?_;iterate 5 go_big_quiet_step (fail)
 refine Plan.dn ?_;have hcl := ziq lo hi md 1 ⟨k,t,v⟩ rs Rl (fun q => by rw [(hRl q).1.length_eq];unfold RSt.of;split <;> assumption);have hrow2 : CRow w2 w1.drew.heap.size vo (rchg lo hi md 1 ⟨k,t,v⟩ rs Rl) := hrow;obtain ⟨hx2,r0',r1',hI2,hf2⟩ := (hI1.ext (ExtM.refl w1).drew).joined h2;have hRL := Lib.hid hRl;clear hRl hrow h2 hfe b0 b1 b2 c0;generalize hcs : rchg lo hi md 1 ⟨k,t,v⟩ rs Rl = cs at *;have HCS := Lib.hid hcs;generalize hrs : za4 lo hi 1 ⟨k,t,v⟩ rs = rs' at *;have HRS := Lib.hid hrs;generalize hEe : feedE lo hi 1 ⟨k,t,v⟩ rs.x rs.y (rs.of 1).length = e at *;have HE := Lib.hid hEe;clear hEe hcs hrs;have hvR : ∀ q,vo.ownBlock = some q -> ¬ q = R := fun q hq e => by have := (zaf hrow2 q hq).1;have : w1.drew.heap.size = w1.heap.size := rfl;omega
 go_upto_region 2 with fail;go_cut [27] (fun s27 wx => ∃ b : Bool,s27 = .bool b /\ b = decide (e = 0 \/ e = 10) /\ w2 = wx)
 case first =>
  rcases (by omega : e = 0 \/ e = 10 \/ e ≠ 0 /\ e ≠ 10) with z0 | z0 | ⟨z0,z1⟩
  . subst z0;go_wp2_with fail;go_meet
    case rel => exact ⟨true,rfl,rfl,rfl⟩
  . subst z0;go_wp2_with fail;go_meet
    case rel => exact ⟨true,rfl,rfl,rfl⟩
  . have d0 : (e == 0) = false := by simp [z0]
    have d1 : (e == 10) = false := by simp [z1]
    go_wp2_with fail;go_meet
    case rel => exact ⟨false,rfl,(decide_eq_false (by omega)).symm,rfl⟩
 case rest =>
  obtain ⟨b,rfl,hbd,rfl⟩ := hcut;go_upto_if 27 with fail;go_cut [] (fun wx => ExtM (fun k => k = R) w2 wx /\ REIs wx R J r0' r1' rv lo hi md rs' l f0 (fedI e f1))
  case first =>
   cases b with
   | true =>
     have hb : e = 0 \/ e = 10 := of_decide_eq_true hbd.symm;have hF : fedI e f1 = wrap64 (f1 + 1) := if_pos hb;have c7 := hI2.c3;have z7 := hI2.fz 3;clear hb hbd;go_upto_region 3 with fail;refine Plan.bT Plan.Ext [10] 11 ?_;refine Plan.qs 7 [0,1,2,3,4,5,6] ?_;iterate 7 go_big_quiet_step (fail)
     refine Plan.o1 7 fun K hK => ?_;go_wp2_with (fail);refine hK _ _ (ExtM.refl _) ?_;clear hK K;refine Plan.o1 8 fun K hK => ?_;go_wp2_with (fail);refine hK _ _ (ExtM.refl _) ?_;clear hK K;refine Plan.qs 1 [9] ?_;go_big_quiet_step (fail);refine Plan.ol 10 fun K hK => ?_;go_wp2_with (fail);refine Plan.dn ?_;obtain ⟨hI3,hxs⟩ := hI2.fed1 (wrap64 (f1 + 1));have HN := Lib.hid (⟨ExtM.trans _ _ _ hxs ((show Ext _ _ from (ExtM.refl _).drew).mono (fun _ _ h => h.elim)),hI3.ext (ExtM.refl _).drew⟩ : ExtM (fun k => k = R) w2 (w2.setCell ⟨R,3,none⟩ (.int .i64 (wrap64 (f1 + 1)))).drew /\ _);clear hxs hI3;go_wp2_with fail;go_meet
     case rel => exact ⟨HN.out.1,by rw [hF];exact HN.out.2⟩
   | false =>
     have hb : ¬ (e = 0 \/ e = 10) := of_decide_eq_false hbd.symm;have hF : fedI e f1 = f1 := if_neg hb;clear hb hbd;go_wp2_with fail;go_meet
     case rel => exact ⟨ExtM.refl _,by rw [hF];exact hI2⟩
  case rest =>
   obtain ⟨hx4,hI4⟩ := hcut;have hrow4 : CRow wc w1.drew.heap.size _ cs := zag hrow2 hx4 hvR;have hvv : ∀ q,rv.ownBlock = some q -> q < w1.heap.size := fun q hq => (zaf hI1.bag.row q hq).2;have hvw : ∀ q,vo.ownBlock = some q -> w1.drew.heap.size <= q := fun q hq => (zaf hrow2 q hq).1;obtain ⟨p,cap,rfl,-⟩ := zaa hrow2;go_wp2_with fail;go_loopg [40] (cs.length + 1) (fun kx s40 wr => ∃ (i : Nat) (rv' : Value),s40 = .int .i64 i /\ i <= cs.length /\ cs.length - i <= kx /\ ExtM (fun k => k = R \/ rv.ownBlock = some k) wc wr /\ REIs wr R J r0' r1' rv' lo hi md rs' (zbd l (cs.take i)) f0 (fedI e f1) /\ ∀ q,rv'.ownBlock = some q -> rv.ownBlock = some q \/ wc.heap.size <= q)
   case atStart => exact ⟨0,rv,rfl,by omega,by omega,ExtM.refl _,hI4,fun q hq => .inl hq⟩
   case round =>
    obtain ⟨i,rv',rfl,hi,hgk,hxw,hIw,hrv⟩ := hrel;by_cases hil : i < cs.length
    . have hroww : CRow wr w1.drew.heap.size _ cs := zag hrow4 hxw (fun q hq e => by
       have := hvw q hq
       have hsz : w1.drew.heap.size = w1.heap.size := rfl;rcases e with e | e
       . omega
       . have := hvv q e;omega)
      obtain ⟨g,rc,e1,hg,hc⟩ := zcd hroww i cs[i] (List.getElem?_eq_getElem hil);simp only [Value.slice.injEq,true_and] at e1;obtain ⟨rfl,rfl⟩ := e1;have hsn := zdV l cs i hil;have hlr : (zbd l (cs.take i)).length < 1000000 := by
       have h1 := zdv (cs.take i) l;rw [List.length_take] at h1;omega
      have HSN := Lib.hid hsn;clear hsn hroww;generalize cs[i] = c at *;obtain ⟨x,gg⟩ := c;have y0 := hc 0 _ rfl;have y1 := hc 1 _ rfl;have y2 := hc 2 _ rfl;have y3 := hc 3 _ rfl;have y4 := hc 4 _ rfl;have y5 := hc 5 _ rfl;have y6 := hc 6 _ rfl;have y7 := hc 7 _ rfl;have y8 := hc 8 _ rfl;have y9 := hc 9 _ rfl;simp only [Nat.add_zero] at y0 y1 y2 y3 y4 y5 y6 y7 y8 y9;clear hc;go_upto_region 7 with fail;have bx := BoxC.mk' wr x gg 92;have hxa : Ext wr (wr.alloc (.cells #[.int .i64 x.key,.int .i64 x.l.k,.int .i64 x.l.t,.int .i64 x.l.v,.int .i64 x.r.k,.int .i64 x.r.t,.int .i64 x.r.v,.bool x.hl,.bool x.hr,.bool gg] 92)) := (ExtM.refl _).alloc _;have hIa := hIw.ext hxa;have hxw2 : ExtM (fun k => k = R \/ rv.ownBlock = some k) wc (wr.alloc (.cells #[.int .i64 x.key,.int .i64 x.l.k,.int .i64 x.l.t,.int .i64 x.l.v,.int .i64 x.r.k,.int .i64 x.r.t,.int .i64 x.r.v,.bool x.hl,.bool x.hr,.bool gg] 92)) := ExtM.trans _ _ _ hxw (hxa.mono (fun _ _ h => h.elim));clear y0 y1 y2 y3 y4 y5 y6 y7 y8 y9 hxa hIw hxw;generalize wr.alloc (.cells #[.int .i64 x.key,.int .i64 x.l.k,.int .i64 x.l.t,.int .i64 x.l.v,.int .i64 x.r.k,.int .i64 x.r.t,.int .i64 x.r.v,.bool x.hl,.bool x.hr,.bool gg] 92) = wb at *;generalize wr.heap.size = n at *;have hlR := hIa.lt;have hln : n < wb.heap.size := zac bx.e0;obtain ⟨e0,e1,e2,e3,e4,e5,e6,e7,e8,e9⟩ := id bx;refine Plan.bT Plan.Ext [4] 5 ?_;refine Plan.qs 1 [3] ?_;go_big_quiet_step (fail);refine Plan.o1 0 fun K hK => ?_;go_wp2_with (fail);refine hK _ _ (ExtM.refl _) ?_;clear hK K;refine Plan.o1 1 fun K hK => ?_;go_wp2_with (fail);refine hK _ _ (ExtM.refl _) ?_;clear hK K;refine Plan.qs 1 [2] ?_;go_big_quiet_step (fail);refine Plan.ol 4 fun K hK => ?_;go_wp2_with (fail);refine (zgz R rv' _ x gg _ (hIa.ext (ExtM.refl _).drew).bag hlr).mono ?_;rintro e wd ⟨⟨m,rfl⟩,hud⟩;go_wp2_with (fail);refine Plan.dn ?_;obtain ⟨hxd,rv2,hId,hrd⟩ := (hIa.ext (ExtM.refl wb).drew).bagged hud;rw [<- HSN.out] at hId;have HID := Lib.hid hId;clear hId hud e0 e1 e2 e3 e4 e5 e6 e7 e8 e9;go_wp2_with fail;go_roundg (cs.length - (i + 1))
      case measure => omega
      case rel =>
       have hs1 := hxw2.size;have hs2 : wb.drew.heap.size = wb.heap.size := rfl;refine ⟨i + 1,rv2,by go_num,by omega,Nat.le_refl _,(ExtM.trans _ _ _ hxw2 ((show Ext wb wb.drew from (ExtM.refl wb).drew).mono (fun _ _ h => h.elim))).fresh' hxd (fun q hq e => ?_),HID.out,fun q hq => ?_⟩
       . rcases e with e | e
         . exact .inl e
         . exact (hrv q e).elim .inr (fun e => by omega)
       . rcases hrd q hq with e | e
         . exact hrv q e
         . exact .inr (by omega)
    . obtain rfl : i = cs.length := by omega
      have hz : decide (cs.length < cs.length) = false := by simp
      have hz2 : decide ((cs.length : Int) < cs.length) = false := by simp
      go_wp2_with fail;go_ret2;refine ⟨.slice p cs.length cap,Rl,?_⟩;rw [HCS.out,HE.out,HRS.out];rw [List.take_length] at hIw;have hA : ExtM (zdU R J r0 r1 rv) u w1.drew := (ExtM.trans _ _ _ hxb (show Ext w1 w1.drew from (ExtM.refl w1).drew)).mono (fun _ _ h => h.elim);have hCx := ExtM.trans _ _ _ (ExtM.trans _ _ _ hA (hx2.mono (fun _ _ h => .inr (.inr h)))) (hx4.mono (fun _ _ h => .inl h));refine ⟨rfl,zak (zag hrow4 hxw (fun q hq e => ?_)) hA.size,hRL.out,ExtM.trans _ _ _ hCx (hxw.mono (fun _ _ h => h.elim .inl (fun h => .inr (.inl h)))),_,⟨J,r0',r1',rv',hIw,rfl⟩,fun q hq => ?_⟩
      . have := hvw q hq
        have hsz : w1.drew.heap.size = w1.heap.size := rfl;rcases e with e | e
        . omega
        . have := hvv q e;omega
      . rcases hq with e | e | e
        . exact .inl (.inl e)
        . exact (hrv q e).elim (fun e => .inl (.inr (.inl e))) (fun e => .inr (Nat.le_trans hCx.size e))
        . exact (hf2 q e).elim (fun e => .inl (.inr (.inr e))) (fun e => .inr (Nat.le_trans hA.size e))
theorem zmq {u : World} {R : Nat} {Cs : Nat -> Prop} {lo hi md : Int} {rs : RSt} {l : List Out} {f0 f1 : Int} (h : REAt u R Cs lo hi md rs l f0 f1) (s k t v : Int) (hs : s ≠ 0 /\ s ≠ 1) :
 Calls Tryz.prog 8 #[.pointer (some ⟨R,0,none⟩),.int .i64 s,.agg #[.int .i64 k,.int .i64 t,.int .i64 v]] u fun e u' => e = .returned (.tuple #[.slice none 0 0,.int .i64 1]) /\ Ext u u' := by
 obtain ⟨J,r0,r1,rv,hI,rfl⟩ := h;have hfe := fun w => zmt J s k t v w hs;have hxb : Ext u (u.alloc (.cells #[.int .i64 k,.int .i64 t,.int .i64 v] 37)) := (ExtM.refl _).alloc _;have b0 : (u.alloc (.cells #[.int .i64 k,.int .i64 t,.int .i64 v] 37)).cell? ⟨u.heap.size,0,none⟩ = some (.int .i64 k) := by go_simp
 have b1 : (u.alloc (.cells #[.int .i64 k,.int .i64 t,.int .i64 v] 37)).cell? ⟨u.heap.size,1,none⟩ = some (.int .i64 t) := by go_simp
 have b2 : (u.alloc (.cells #[.int .i64 k,.int .i64 t,.int .i64 v] 37)).cell? ⟨u.heap.size,2,none⟩ = some (.int .i64 v) := by go_simp
 go_enter Tryz.func8,Tryz.ntmps8;go_upto_region 1 with fail;have hI1 := hI.ext hxb;generalize u.alloc (.cells #[.int .i64 k,.int .i64 t,.int .i64 v] 37) = w1 at *;generalize hU : u.heap.size = U at *;clear hU;have c0 := hI1.c0;have lR := hI1.lt;have lU := zac b0;simp only at lU;refine Plan.b0 Plan.Ext 12 ?_;refine Plan.qs 6 [0,1,2,3,4,5] ?_;iterate 6 go_big_quiet_step (fail)
 refine Plan.o1 6 fun K hK => ?_;go_wp2_with (fail);refine (hfe _).mono ?_;rintro e w2 ⟨rfl,h2⟩;have H2 := ExtM.trans _ _ _ (ExtM.refl _).drew h2;obtain ⟨hc2,hf2,-⟩ := Ext.rules H2;have hs2_0 : R < w2.heap.size := by have := H2.size;(try simp at this);omega
 have hs2_1 : U < w2.heap.size := by have := H2.size;(try simp at this);omega
 go_wp2_with (fail);refine hK _ _ h2 ?_;clear hK K;refine Plan.qs 5 [7,8,9,10,11] ?_;iterate 5 go_big_quiet_step (fail)
 refine Plan.dn ?_;have hx := ExtM.trans _ _ _ hxb H2;clear hfe hI hI1 b0 b1 b2 c0 hc2 hf2 h2 H2 hxb;go_wp2_with fail;go_loopg [40] 1 (fun _kx s40 wr => s40 = .int .i64 0 /\ wr = w2)
 case atStart => exact ⟨rfl,rfl⟩
 case round =>
  obtain ⟨rfl,rfl⟩ := hrel;go_wp2_with fail;go_ret2;exact ⟨rfl,hx⟩
theorem zph (lo hi md : Int) (u : World) (h : checkI lo hi md = 0) :
 Calls Tryz.prog 12 #[.agg #[.int .i64 lo,.int .i64 hi,.int .i64 md]] u fun e u' => ∃ R Cs,e = .returned (.tuple #[.pointer (some ⟨R,0,none⟩),.int .i64 0]) /\ Ext u u' /\
  REAt u' R Cs lo hi md ⟨[],[],-1099511627777,-1099511627777,0,0⟩ [] 0 0 /\ ∀ k,Cs k -> u.heap.size <= k := by
 have hck := fun w => ziG lo hi md w;rw [h] at hck;have hxb : Ext u (u.alloc (.cells #[.int .i64 lo,.int .i64 hi,.int .i64 md] 45)) := (ExtM.refl _).alloc _;have b0 : (u.alloc (.cells #[.int .i64 lo,.int .i64 hi,.int .i64 md] 45)).cell? ⟨u.heap.size,0,none⟩ = some (.int .i64 lo) := by go_simp
 have b1 : (u.alloc (.cells #[.int .i64 lo,.int .i64 hi,.int .i64 md] 45)).cell? ⟨u.heap.size,1,none⟩ = some (.int .i64 hi) := by go_simp
 have b2 : (u.alloc (.cells #[.int .i64 lo,.int .i64 hi,.int .i64 md] 45)).cell? ⟨u.heap.size,2,none⟩ = some (.int .i64 md) := by go_simp
 go_enter Tryz.func12,Tryz.ntmps12;go_upto_region 1 with fail;generalize u.alloc (.cells #[.int .i64 lo,.int .i64 hi,.int .i64 md] 45) = w1 at *;generalize hU : u.heap.size = U at *;have HU := Lib.hid hU;clear hU;have lU := zac b0;go_upto_region 4 with (go_at_call 47;refine (hck _).mono ?_;rintro e w2 ⟨rfl,hx2⟩)
 have k := fun o => hx2.cell (p := ⟨U,o,none⟩) lU (fun h => h);have c0 := (k 0).trans b0;have c1 := (k 1).trans b1;have c2 := (k 2).trans b2;clear k b0 b1 b2 hck;go_wp2_with (go_at_call 48;refine (zkH _ _ _ _).mono ?_;rintro e w3 ⟨rfl,hN⟩);go_ret2;have hj : RIs w3 (w2.heap.size + 1) (.slice none 0 0) (.slice none 0 0) lo hi md ⟨[],[],-1099511627777,-1099511627777,0,0⟩ :=
  ⟨hN.c0,hN.c1,hN.c2,hN.rj 0 (by omega),hN.rj 1 (by omega),hN.c5,hN.c6,hN.c7,fun k hk => by cases hk⟩
 have hl := hj.foot _ (.inl rfl);have hx3 : Ext u w3 := ExtM.trans _ _ _ (ExtM.trans _ _ _ hxb hx2) hN.ext;have hs2 : u.heap.size <= w2.heap.size := (ExtM.trans _ _ _ hxb hx2).size;refine ⟨w3.heap.size,_,rfl,hx3.alloc _,⟨w2.heap.size + 1,.slice none 0 0,.slice none 0 0,.slice none 0 0,⟨by go_simp,⟨by go_simp,by go_simp,⟨by simp,.inl ⟨rfl,rfl⟩⟩,by simp [Value.ownBlock]⟩,by go_simp,by go_simp,fun q => by go_simp,hj.ext ((ExtM.refl _).alloc _),fun e => ?_,fun k hk => by cases hk⟩,rfl⟩,fun k hk => ?_⟩
 . rcases e with e | e | e
   . omega
   . cases e
   . cases e
 . have := hx3.size
   rcases hk with e | e | e | e | e
   . omega
   . cases e
   . omega
   . cases e
   . cases e
def sfV (lo hi md s : Int) (r : Row) (st : JSt) (V : List Out) : List Out := zaH V (zcR lo hi md s r st)
def sfL (lo hi md s : Int) (r : Row) (st : JSt) (l : List Out) : List Out := zbd l (zcR lo hi md s r st)
def sf0 (lo hi s : Int) (r : Row) (st : JSt) (f : Int) : Int := if s = 0 then fedI (zdO lo hi s r st) f else f
def sf1 (lo hi s : Int) (r : Row) (st : JSt) (f : Int) : Int := if s = 1 then fedI (zdO lo hi s r st) f else f
structure EG (lo hi md : Int) (st : JSt) (V : List Out) (f0 f1 : Int) (rs : RSt) (l : List Out) (n : Nat) : Prop where
 g : zce st rs n
 ok : POk lo hi md st V f0 f1 n
 p : l.Perm V
section
variable {lo hi md : Int} {st : JSt} {V : List Out} {f0 f1 : Int} {rs : RSt} {l : List Out} {n : Nat}
theorem EG.more (h : EG lo hi md st V f0 f1 rs l n) : EG lo hi md st V f0 f1 rs l (n + 1) := ⟨h.g.more,h.ok.more,h.p⟩
theorem EG.valid (h : EG lo hi md st V f0 f1 rs l n) (hn : n < 200) (s : Int) (r : Row) : zb1 V (zcR lo hi md s r st) := by
 unfold zcR;split
 . exact (h.ok.feed0 (by omega) r).2
 . split
   . exact (h.ok.feed1 (by omega) r).2
   . trivial
theorem EG.feed (h : EG lo hi md st V f0 f1 rs l n) (hn : n < 200) (s : Int) (r : Row) : EG lo hi md (zgm lo hi s r st) (sfV lo hi md s r st V) (sf0 lo hi s r st f0) (sf1 lo hi s r st f1) (zhq lo hi s r rs) (sfL lo hi md s r st l) (n + 1) := by
 refine ⟨h.g.feed lo hi s r,?_,zek _ h.p⟩;unfold zgm sfV sf0 sf1 zcR zdO;by_cases h0 : s = 0
 . subst h0;simp only [if_true,show ¬ (0 : Int) = 1 by decide,if_false];exact (h.ok.feed0 (by omega) r).1
 by_cases h1 : s = 1
 . subst h1;simp only [if_true,show ¬ (1 : Int) = 0 by decide,if_false];exact (h.ok.feed1 (by omega) r).1
 . simp only [if_neg h0,if_neg h1];exact h.ok.more
theorem EG.move (h : EG lo hi md st V f0 f1 rs l n) (s t : Int) : EG lo hi md (mvJ lo hi s t st) V f0 f1 (mvR lo hi s t rs) l (n + 1) := by
 refine ⟨h.g.move lo hi s t,?_,h.p⟩;unfold mvJ;by_cases hm : moveI s t st.x st.y = 0
 . rw [if_pos hm];have hs : s = 0 \/ s = 1 := by
    rcases Classical.em (s ≠ 0 /\ s ≠ 1) with hs | hs
    . unfold moveI at hm;rw [if_pos hs] at hm;cases hm
    . omega
   rcases hs with rfl | rfl
   . rw [if_pos rfl];exact h.ok.move 0 (by decide) t hm
   . rw [if_neg (by decide)];exact h.ok.move 1 (by decide) t hm
 . rw [if_neg hm];exact h.ok.more
theorem EG.perm (h : EG lo hi md st V f0 f1 rs l n) {V' : List Out} (hp : V'.Perm V) : EG lo hi md st V' f0 f1 rs l n := ⟨h.g,h.ok.perm hp,h.p.trans hp.symm⟩
end
structure EX (w u : World) (E R : Nat) (lo hi md : Int) (Av Bs Cs : Nat -> Prop) (st : JSt) (V : List Out) (f0 f1 : Int) (rs : RSt) (l : List Out) (g0 g1 : Int) : Prop where
 ext : Ext w u
 e : EAt u E Bs lo hi md st V V f0 f1
 r : REAt u R Cs lo hi md rs l g0 g1
 nB : ∀ k,Bs k -> w.heap.size <= k /\ ¬ Cs k /\ ¬ Av k
 nC : ∀ k,Cs k -> w.heap.size <= k /\ ¬ Av k
 av : ∀ b,Av b -> b < u.heap.size
section
variable {w u u' : World} {E R : Nat} {lo hi md : Int} {Av Bs Cs : Nat -> Prop} {st : JSt} {V : List Out} {f0 f1 : Int} {rs : RSt} {l : List Out} {g0 g1 : Int}
theorem EX.of (h : EX w u E R lo hi md Av Bs Cs st V f0 f1 rs l g0 g1) (hx : Ext u u') : EX w u' E R lo hi md Av Bs Cs st V f0 f1 rs l g0 g1 :=
 ⟨ExtM.trans _ _ _ h.ext hx,h.e.ext hx,h.r.ext hx,h.nB,h.nC,fun b hb => Nat.lt_of_lt_of_le (h.av b hb) hx.size⟩
theorem EX.narrow {Av' : Nat -> Prop} (h : EX w u E R lo hi md Av Bs Cs st V f0 f1 rs l g0 g1) (hA : ∀ b,Av' b -> Av b) : EX w u E R lo hi md Av' Bs Cs st V f0 f1 rs l g0 g1 :=
 ⟨h.ext,h.e,h.r,fun k hk => ⟨(h.nB k hk).1,(h.nB k hk).2.1,fun e => (h.nB k hk).2.2 (hA k e)⟩,fun k hk => ⟨(h.nC k hk).1,fun e => (h.nC k hk).2 (hA k e)⟩,fun b hb => h.av b (hA b hb)⟩
theorem EX.wide {Av' : Nat -> Prop} (h : EX w u E R lo hi md Av Bs Cs st V f0 f1 rs l g0 g1) (hx : Ext u u') (hA : ∀ b,Av' b -> Av b \/ (u.heap.size <= b /\ b < u'.heap.size)) : EX w u' E R lo hi md Av' Bs Cs st V f0 f1 rs l g0 g1 := by
 have h1 := h.of hx;refine ⟨h1.ext,h1.e,h1.r,fun k hk => ⟨(h.nB k hk).1,(h.nB k hk).2.1,fun e => ?_⟩,fun k hk => ⟨(h.nC k hk).1,fun e => ?_⟩,fun b hb => ?_⟩
 . rcases hA k e with e | e
   . exact (h.nB k hk).2.2 e
   . have := h.e.lt k hk;omega
 . rcases hA k e with e | e
   . exact (h.nC k hk).2 e
   . have := h.r.lt k hk;omega
 . rcases hA b hb with e | e
   . exact h1.av b e
   . exact e.2
theorem EX.eup {st' : JSt} {V' : List Out} {f0' f1' : Int} (h : EX w u E R lo hi md Av Bs Cs st V f0 f1 rs l g0 g1) (hu : EUp u u' E Bs lo hi md st' V' V' f0' f1') : ExtM (fun k => ¬ Av k) u u' /\ ∃ Bs',EX w u' E R lo hi md Av Bs' Cs st' V' f0' f1' rs l g0 g1 := by
 obtain ⟨hx,Bs',hj,hb⟩ := hu;have hsz := h.ext.size;refine ⟨hx.mono fun k _ hk => (h.nB k hk).2.2,Bs',h.ext.fresh hx (fun k hk e => by have := (h.nB k e).1;omega),hj,h.r.keep hx (fun k hk e => (h.nB k e).2.1 hk),fun k hk => ?_,h.nC,fun b hb => Nat.lt_of_lt_of_le (h.av b hb) hx.size⟩;rcases hb k hk with e | e
 . exact h.nB k e
 . exact ⟨by omega,fun q => by have := h.r.lt k q;omega,fun q => by have := h.av k q;omega⟩
theorem EX.rup {rs' : RSt} {l' : List Out} {g0' g1' : Int} (h : EX w u E R lo hi md Av Bs Cs st V f0 f1 rs l g0 g1) (hu : RNUp u u' R Cs lo hi md rs' l' g0' g1') : ExtM (fun k => ¬ Av k) u u' /\ ∃ Cs',EX w u' E R lo hi md Av Bs Cs' st V f0 f1 rs' l' g0' g1' := by
 obtain ⟨hx,Cs',hr,hc⟩ := hu;have hsz := h.ext.size;refine ⟨hx.mono fun k _ hk => (h.nC k hk).2,Cs',h.ext.fresh hx (fun k hk e => by have := (h.nC k e).1;omega),h.e.keep hx (fun k hk e => (h.nB k hk).2.1 e),hr,fun k hk => ⟨(h.nB k hk).1,fun e => ?_,(h.nB k hk).2.2⟩,fun k hk => ?_,fun b hb => Nat.lt_of_lt_of_le (h.av b hb) hx.size⟩
 . rcases hc k e with e | e
   . exact (h.nB k hk).2.1 e
   . have := h.e.lt k hk;omega
 . rcases hc k hk with e | e
   . exact h.nC k e
   . exact ⟨by omega,fun q => by have := h.av k q;omega⟩
theorem EX.loaded {E' : Nat} {Bs' : Nat -> Prop} {V' : List Out} (h : EX w u E R lo hi md Av Bs Cs st V f0 f1 rs l g0 g1) (hx : Ext u u') (hE : EAt u' E' Bs' lo hi md st V' V' f0 f1) (hB : ∀ k,Bs' k -> u.heap.size <= k) : EX w u' E' R lo hi md Av Bs' Cs st V' f0 f1 rs l g0 g1 := by
 have h1 := h.of hx;have hs := h.ext.size;exact ⟨h1.ext,hE,h1.r,fun k hk => ⟨by have := hB k hk;omega,fun e => by have := h.r.lt k e;have := hB k hk;omega,fun e => by have := h.av k e;have := hB k hk;omega⟩,h.nC,h1.av⟩
theorem EX.cR (h : EX w u E R lo hi md Av Bs Cs st V f0 f1 rs l g0 g1) : Cs R := by
 obtain ⟨J,r0,r1,rv,-,rfl⟩ := h.r;exact .inl rfl
variable {n : Nat}
theorem znY (h : EX w u E R lo hi md Av Bs Cs st V f0 f1 rs l g0 g1) {rs0 : RSt} {l0 : List Out} (hg : EG lo hi md st V f0 f1 rs0 l0 n) (hn : n < 200) (hp : zay lo hi) (hL : Laid w) (s rk rt rv : Int) :
 Calls Tryz.prog 9 #[.pointer (some ⟨E,0,none⟩),.int .i64 s,.agg #[.int .i64 rk,.int .i64 rt,.int .i64 rv]] u fun e u' => ∃ vo,e = .returned (.tuple #[vo,errV (zdO lo hi s ⟨rk,rt,rv⟩ st)]) /\ CRow u' u.heap.size vo (zcR lo hi md s ⟨rk,rt,rv⟩ st) /\
  ExtM Bs u u' /\ ExtM (fun k => ¬ Av k) u u' /\ ∃ Bs',EX w u' E R lo hi md Av Bs' Cs (zgm lo hi s ⟨rk,rt,rv⟩ st) (sfV lo hi md s ⟨rk,rt,rv⟩ st V) (sf0 lo hi s ⟨rk,rt,rv⟩ st f0) (sf1 lo hi s ⟨rk,rt,rv⟩ st f1) rs l g0 g1 := by
 have hv := hg.valid hn s ⟨rk,rt,rv⟩;have hla : st.a.length <= 300 := by rw [hg.g.a];exact hg.g.la
 have hlb : st.b.length <= 300 := by rw [hg.g.b];exact hg.g.lb
 have hlV := hg.ok.lV9 hn;have hlV : V.length < 900000 := by
  have h1 := hg.ok.lV;have : n * n <= 200 * 200 := Nat.mul_le_mul (by omega) (by omega);omega
 have hLu := hL.of h.ext;have hz : ¬ Bs 2 := fun e => by have h1 := (h.nB _ e).1;have h2 := zaG hL;omega
 by_cases h0 : s = 0
 . subst h0;simp only [zdO,zcR,zgm,sfV,sf0,sf1,if_true,show ¬ (0 : Int) = 1 by decide,if_false] at hv ⊢;refine (zmf h.e hp hla hlb hLu hz rk rt rv hv hlV).mono ?_;rintro e u' ⟨vo,rfl,hrow,hu⟩;exact ⟨vo,rfl,hrow,hu.1,h.eup hu⟩
 by_cases h1 : s = 1
 . subst h1;simp only [zdO,zcR,zgm,sfV,sf0,sf1,if_true,show ¬ (1 : Int) = 0 by decide,if_false] at hv ⊢;refine (zmp h.e hp hla hlb hLu hz rk rt rv hv hlV).mono ?_;rintro e u' ⟨vo,rfl,hrow,hu⟩;exact ⟨vo,rfl,hrow,hu.1,h.eup hu⟩
 . simp only [zdO,zcR,zgm,sfV,sf0,sf1,if_neg h0,if_neg h1];refine (znx h.e hLu s rk rt rv ⟨h0,h1⟩).mono ?_;rintro e u' ⟨rfl,hx⟩;exact ⟨_,rfl,nilC _ _,hx.mono (fun _ _ h => h.elim),hx.mono (fun _ _ h => h.elim),Bs,h.of hx⟩
theorem zlV (h : EX w u E R lo hi md Av Bs Cs st V f0 f1 rs l g0 g1) (hg : EG lo hi md st V f0 f1 rs l n) (hn : n < 200) (hp : zay lo hi) (s rk rt rv : Int) :
 Calls Tryz.prog 8 #[.pointer (some ⟨R,0,none⟩),.int .i64 s,.agg #[.int .i64 rk,.int .i64 rt,.int .i64 rv]] u fun e u' => ∃ vo,e = .returned (.tuple #[vo,.int .i64 (zdO lo hi s ⟨rk,rt,rv⟩ st)]) /\ CRow u' u.heap.size vo (zcR lo hi md s ⟨rk,rt,rv⟩ st) /\
  ExtM (fun k => ¬ Av k) u u' /\ ∃ Cs',EX w u' E R lo hi md Av Bs Cs' st V f0 f1 (zhq lo hi s ⟨rk,rt,rv⟩ rs) (sfL lo hi md s ⟨rk,rt,rv⟩ st l) (sf0 lo hi s ⟨rk,rt,rv⟩ st g0) (sf1 lo hi s ⟨rk,rt,rv⟩ st g1) := by
 have hc0 := hg.g.c0;have hc1 := hg.g.c1;have hll : l.length < 900000 := by
  rw [hg.p.length_eq];have h1 := hg.ok.lV;have : n * n <= 200 * 200 := Nat.mul_le_mul (by omega) (by omega);omega
 by_cases h0 : s = 0
 . subst h0;simp only [zdO,zcR,zhq,sfL,sf0,sf1,if_true,show ¬ (0 : Int) = 1 by decide,if_false];refine (zmr h.r hp hg.g.la hg.g.lb ⟨hc0,by omega⟩ hll rk rt rv).mono ?_;rintro e u' ⟨vo,Rl,rfl,hrow,hR,hu⟩;have hE : feedE lo hi 0 ⟨rk,rt,rv⟩ rs.x rs.y (rs.of 0).length = feedE lo hi 0 ⟨rk,rt,rv⟩ st.x st.y st.a.length := by rw [hg.g.rel.x,hg.g.rel.y,hg.g.a];rfl
   have hC : rchg lo hi md 0 ⟨rk,rt,rv⟩ rs Rl = zaj lo hi md 0 ⟨rk,rt,rv⟩ st := by
    show (if feedE lo hi 0 ⟨rk,rt,rv⟩ rs.x rs.y (rs.of 0).length = 0 then _ else _) = (if feedE lo hi 0 ⟨rk,rt,rv⟩ st.x st.y st.a.length = 0 then _ else _)
    rw [hE] at hR ⊢;by_cases he : feedE lo hi 0 ⟨rk,rt,rv⟩ st.x st.y st.a.length = 0
    . rw [if_pos he,if_pos he,hg.g.chg 1 Rl (hR he).1 (hR he).2]
    . rw [if_neg he,if_neg he]
   rw [hC] at hrow hu;rw [hE] at hu ⊢;exact ⟨vo,rfl,hrow,h.rup hu⟩
 by_cases h1 : s = 1
 . subst h1;simp only [zdO,zcR,zhq,sfL,sf0,sf1,if_true,show ¬ (1 : Int) = 0 by decide,if_false];refine (zmJ h.r hp hg.g.la hg.g.lb ⟨hc0,by omega⟩ hll rk rt rv).mono ?_;rintro e u' ⟨vo,Rl,rfl,hrow,hR,hu⟩;have hE : feedE lo hi 1 ⟨rk,rt,rv⟩ rs.x rs.y (rs.of 1).length = feedE lo hi 1 ⟨rk,rt,rv⟩ st.x st.y st.b.length := by rw [hg.g.rel.x,hg.g.rel.y,hg.g.b];rfl
   have hC : rchg lo hi md 1 ⟨rk,rt,rv⟩ rs Rl = zaj lo hi md 1 ⟨rk,rt,rv⟩ st := by
    show (if feedE lo hi 1 ⟨rk,rt,rv⟩ rs.x rs.y (rs.of 1).length = 0 then _ else _) = (if feedE lo hi 1 ⟨rk,rt,rv⟩ st.x st.y st.b.length = 0 then _ else _)
    rw [hE] at hR ⊢;by_cases he : feedE lo hi 1 ⟨rk,rt,rv⟩ st.x st.y st.b.length = 0
    . rw [if_pos he,if_pos he,hg.g.chg 0 Rl (hR he).1 (hR he).2]
    . rw [if_neg he,if_neg he]
   rw [hC] at hrow hu;rw [hE] at hu ⊢;exact ⟨vo,rfl,hrow,h.rup hu⟩
 . simp only [zdO,zcR,zhq,sfL,sf0,sf1,if_neg h0,if_neg h1];refine (zmq h.r s rk rt rv ⟨h0,h1⟩).mono ?_;rintro e u' ⟨rfl,hx⟩;exact ⟨_,rfl,nilC _ _,hx.mono (fun _ _ h => h.elim),Cs,h.of hx⟩
theorem zn5 (h : EX w u E R lo hi md Av Bs Cs st V f0 f1 rs l g0 g1) (hp : zay lo hi) (la : st.a.length <= 300) (lb : st.b.length <= 300) (s t : Int) :
 Calls Tryz.prog 13 #[.pointer (some ⟨E,0,none⟩),.int .i64 s,.int .i64 t] u fun e u' => e = .returned (errV (moveI s t st.x st.y)) /\
  ExtM (fun k => ¬ (Av k \/ k = R)) u u' /\ ∃ Bs',EX w u' E R lo hi md Av Bs' Cs (mvJ lo hi s t st) V f0 f1 rs l g0 g1 := by
 have hN : ∀ k,Bs k -> ¬ (Av k \/ k = R) := fun k hk e => e.elim (h.nB k hk).2.2 (fun e => (h.nB k hk).2.1 (e ▸ h.cR));unfold mvJ;by_cases h0 : s = 0
 . subst h0;simp only [if_true];exact (zm8 h.e hp t (by omega)).mono fun e u' hh => ⟨hh.1,hh.2.1.mono (fun k _ hk => hN k hk),(h.eup hh.2).2⟩
 by_cases h1 : s = 1
 . subst h1;simp only [if_neg h0];exact (zlH h.e hp t (by omega)).mono fun e u' hh => ⟨hh.1,hh.2.1.mono (fun k _ hk => hN k hk),(h.eup hh.2).2⟩
 . have hm : moveI s t st.x st.y = 1 := by unfold moveI;rw [if_pos ⟨h0,h1⟩]
   rw [hm,if_neg (by decide)];exact (zn4 h.e s t ⟨h0,h1⟩).mono fun e u' hh => ⟨hh.1,hh.2.mono (fun _ _ h => h.elim),Bs,h.of hh.2⟩
theorem zkz (h : EX w u E R lo hi md Av Bs Cs st V f0 f1 rs l g0 g1) : ∃ J r0 r1,u.cell? ⟨R,0,none⟩ = some (.pointer (some ⟨J,0,none⟩)) /\ R < u.heap.size /\ ¬ Av R /\ ¬ Bs R /\
 RIs u J r0 r1 lo hi md rs /\ (∀ k,zaO J r0 r1 k -> Cs k /\ k ≠ R) /\ u.cell? ⟨R,2,none⟩ = some (.int .i64 g0) /\ u.cell? ⟨R,3,none⟩ = some (.int .i64 g1) /\ (∃ rv,RE u R rv l) /\ Cs R := by
 obtain ⟨J,r0,r1,rv,hI,rfl⟩ := h.r;exact ⟨J,r0,r1,hI.c0,hI.lt,(h.nC R (.inl rfl)).2,fun e => (h.nB R e).2.1 (.inl rfl),hI.join,fun k hk => ⟨.inr (.inr hk),fun e => hI.nR (e ▸ hk)⟩,hI.c2,hI.c3,⟨rv,hI.bag⟩,.inl rfl⟩
theorem zlm (h : EX w u E R lo hi md Av Bs Cs st V f0 f1 rs l g0 g1) (c : Int) (hp : zay lo hi) (la : rs.a.length <= 300) (lb : rs.b.length <= 300) (ta : za1 rs.a) (tb : za1 rs.b) (s t : Int) (hE : moveI s t rs.x rs.y = c) :
 ∃ J,u.cell? ⟨R,0,none⟩ = some (.pointer (some ⟨J,0,none⟩)) /\ Calls Tryz.prog 14 #[.pointer (some ⟨J,0,none⟩),.int .i64 s,.int .i64 t] u fun e u' => e = .returned (.int .i64 c) /\
   ExtM (fun k => Cs k /\ k ≠ R) u u' /\ ∃ Cs',EX w u' E R lo hi md Av Bs Cs' st V f0 f1 (mvR lo hi s t rs) l g0 g1 := by
 subst hE;obtain ⟨J,r0,r1,rv,hI,rfl⟩ := id h.r;have key : ∀ (rs' : RSt) (u' : World),RUp u u' J (zaO J r0 r1) lo hi md rs' -> ExtM (fun k => zdU R J r0 r1 rv k /\ k ≠ R) u u' /\ ∃ Cs',EX w u' E R lo hi md Av Bs Cs' st V f0 f1 rs' l g0 g1 := fun rs' u' hu => by
  obtain ⟨hx,r0',r1',hI',hf⟩ := hI.joined hu;have hx' : ExtM (fun k => zdU R J r0 r1 rv k /\ k ≠ R) u u' := hx.mono fun k _ hk => ⟨.inr (.inr hk),fun e => hI.nR (e ▸ hk)⟩
  refine ⟨hx',(h.rup (g0' := g0) (g1' := g1) (l' := l) (rs' := rs') ⟨hx.mono fun k _ hk => .inr (.inr hk),_,⟨J,r0',r1',rv,hI',rfl⟩,fun k hk => ?_⟩).2⟩;rcases hk with e | e | e
  . exact .inl (.inl e)
  . exact .inl (.inr (.inl e))
  . exact (hf k e).imp (fun e => .inr (.inr e)) id
 refine ⟨J,hI.c0,?_⟩;unfold mvR;by_cases h0 : s = 0
 . subst h0;simp only [if_true];exact (zmw u J r0 r1 lo hi md rs hI.join hp t (by omega) tb).mono fun e u' hh => ⟨hh.1,key _ _ hh.2⟩
 by_cases h1 : s = 1
 . subst h1;simp only [if_neg h0];exact (zmA u J r0 r1 lo hi md rs hI.join hp t (by omega) ta).mono fun e u' hh => ⟨hh.1,key _ _ hh.2⟩
 . have hm : moveI s t rs.x rs.y = 1 := by unfold moveI;rw [if_pos ⟨h0,h1⟩]
   rw [hm,if_neg (by decide)];exact (zjg J s t u ⟨h0,h1⟩).mono fun e u' hh => ⟨hh.1,hh.2.mono (fun _ _ h => h.elim),_,h.of hh.2⟩
theorem zmB (h : EX w u E R lo hi md Av Bs Cs st V f0 f1 rs l g0 g1) (J : Nat) (hJ : u.cell? ⟨R,0,none⟩ = some (.pointer (some ⟨J,0,none⟩))) (c : Int) (hp : zay lo hi) (la : rs.a.length <= 300) (lb : rs.b.length <= 300) (ta : za1 rs.a) (tb : za1 rs.b) (s t : Int) (hE : moveI s t rs.x rs.y = c) :
 Calls Tryz.prog 14 #[.pointer (some ⟨J,0,none⟩),.int .i64 s,.int .i64 t] u fun e u' => e = .returned (.int .i64 c) /\
  ExtM (fun k => ¬ (Av k \/ k = R)) u u' /\ ∃ Cs',EX w u' E R lo hi md Av Bs Cs' st V f0 f1 (mvR lo hi s t rs) l g0 g1 := by
 obtain ⟨J',hJ',hc⟩ := zlm h c hp la lb ta tb s t hE;rw [hJ] at hJ';obtain rfl : J = J' := by simpa using hJ'
 exact hc.mono fun e u' hh => ⟨hh.1,hh.2.1.mono (fun k _ hk e => e.elim (h.nC k hk.1).2 hk.2),hh.2.2⟩
end
theorem zh0 (p1 p2 : Option Addr) (c1 c2 n : Nat) (l : List Out) (w : World) (h1 : zbq w p1 l) (h2 : zbq w p2 l) (hn : l.length = n) (hl : n < 1000000000) :
 Calls Tryz.prog 24 #[.slice p1 n c1,.slice p2 n c2] w fun e w' => e = .returned (.bool true) /\ Ext w w' := by
 have HN := Lib.hid hn;clear hn;go_enter Tryz.func24,Tryz.ntmps24;go_wp2_with fail;go_loopg [5] (n + 1) (fun kx s5 wr => ∃ k : Nat,s5 = .int .i64 k /\ k <= n /\ n - k <= kx /\ Ext w wr)
 case atStart => exact ⟨0,rfl,by omega,by omega,ExtM.refl _⟩
 case round =>
  obtain ⟨k,rfl,hk,hgk,hx⟩ := hrel;by_cases hkl : k < n
  . have hks : k < l.length := by rw [HN.out];exact hkl
    rcases h1.of hx with ho1 | ⟨b1,rfl,ho1⟩
    . rw [ho1] at hks;simp at hks
    rcases h2.of hx with ho2 | ⟨b2,rfl,ho2⟩
    . rw [ho2] at hks;simp at hks
    have el1 := ho1 k hks;have el2 := ho2 k hks;have lb1 := el1.lt;have lb2 := el2.lt;generalize l[k] = y at el1 el2;have hne := fun u => zga y u;obtain ⟨e0,e1,e2,e3,e4,e5,e6,e7,e8⟩ := id el1;obtain ⟨g0,g1,g2,g3,g4,g5,g6,g7,g8⟩ := id el2;clear el1 el2 ho1 ho2 hks h1 h2;go_wp2_with fail;refine Plan.b0 Plan.Ext 9 ?_;refine Plan.qs 9 [0,1,2,3,4,5,6,7,8] ?_;iterate 9 go_big_quiet_step (fail)
    refine Plan.dn ?_;clear e0 e1 e2 e3 e4 e5 e6 e7 e8 g0 g1 g2 g3 g4 g5 g6 g7 g8 hne;go_wp2_with fail;go_roundg (n - (k + 1))
    case measure => omega
    case rel => exact ⟨k + 1,by go_num,by omega,Nat.le_refl _,hx.drew⟩
  . have hz : decide (k < n) = false := by simp;omega
    go_wp2_with fail;go_ret;exact ⟨rfl,hx⟩
theorem zmo (a : GRow) (w : World) : (binOp .neq 140 (.agg #[.int .i64 a.key,.int .i64 a.cnt,.int .i64 a.sum,.int .i64 a.least,.int .i64 a.most,.bool a.some]) (.agg #[.int .i64 a.key,.int .i64 a.cnt,.int .i64 a.sum,.int .i64 a.least,.int .i64 a.most,.bool a.some])).run Tryz.prog w = .ok (.bool false) w := by
 obtain ⟨a1,a2,a3,a4,a5,a6⟩ := a;go_simp
theorem zfA (p1 p2 : Option Addr) (c1 c2 : Nat) (rows : List GRow) (w : World) (h1 : zcG w p1 rows) (h2 : zcG w p2 rows) (hl : rows.length < 1000000000) :
 Calls Tryz.prog 27 #[.slice p1 rows.length c1,.slice p2 rows.length c2] w fun e w' => e = .returned (.bool true) /\ Ext w w' := by
 generalize hn : rows.length = n at *;have HN := Lib.hid hn;clear hn;go_enter Tryz.func27,Tryz.ntmps27;go_wp2_with fail;go_loopw [5] (fun i wr => ∃ (k : Nat),k <= n /\ i = .int .i64 k /\ Ext w wr) (fun i _ => n - (intOf i).toNat)
 case atStart => exact ⟨0,Nat.zero_le _,rfl,ExtM.refl _⟩
 case round =>
  obtain ⟨k,hk,rfl,hx⟩ := hrel;by_cases hkl : k < n
  . have hd : decide ((k : Int) < n) = true := by simp;omega
    have hks : k < rows.length := by rw [HN.out];exact hkl
    rcases h1.of hx with ho1 | ⟨b1,rfl,ho1⟩
    . rw [ho1] at hks;simp at hks
    rcases h2.of hx with ho2 | ⟨b2,rfl,ho2⟩
    . rw [ho2] at hks;simp at hks
    have el1 := ho1 k hks;have el2 := ho2 k hks;have lb1 := el1.lt;have lb2 := el2.lt;generalize rows[k] = y at el1 el2;have hne := fun u => zmo y u;obtain ⟨e0,e1,e2,e3,e4,e5⟩ := id el1;obtain ⟨g0,g1,g2,g3,g4,g5⟩ := id el2;clear el1 el2 ho1 ho2 hks h1 h2;go_wp2_with fail;refine Plan.b0 Plan.Ext 9 ?_;refine Plan.qs 9 [0,1,2,3,4,5,6,7,8] ?_;iterate 9 go_big_quiet_step (fail)
    refine Plan.dn ?_;clear e0 e1 e2 e3 e4 e5 g0 g1 g2 g3 g4 g5 hne;go_wp2_with fail;go_roundw
    case rel => exact ⟨k + 1,by omega,by go_num,hx.drew⟩
    case measure => simp [intOf];omega
  . obtain rfl : k = n := by omega
    have hd : decide ((k : Int) < k) = false := by simp
    go_wp2_with fail;go_ret;exact ⟨rfl,hx⟩
theorem zkO {B C : Nat} {w w' : World} (h : Ext w w') : Plan.ExtL B C w w' := ExtM.mono h (fun _ _ h => h.elim)
def EL (w u : World) (E R : Nat) (lo hi md : Int) (n : Nat) : Prop := ∃ st V f0 f1 rs l Bs Cs,EX w u E R lo hi md (fun _ => False) Bs Cs st V f0 f1 rs l f0 f1 /\ EG lo hi md st V f0 f1 rs l n
theorem EL.ext {w u : World} {E R : Nat} {lo hi md : Int} {n : Nat} (h : EL w u E R lo hi md n) : Ext w u := by
 obtain ⟨st,V,f0,f1,rs,l,Bs,Cs,h,-⟩ := h;exact h.ext
theorem SOk.perm {lo hi md : Int} {st : JSt} {V l : List Out} {f0 f1 : Int} (h : SOk ⟨lo,hi,md,st,V,f0,f1⟩) (hp : l.Perm V) : SOk ⟨lo,hi,md,st,l,f0,f1⟩ :=
 ⟨h.l0,h.ga,h.gb,h.la,h.lb,fun x hx => h.v x (hp.mem_iff.1 hx),by show l.length <= _;rw [hp.length_eq];exact h.lv⟩
theorem zbq.of_eq {w : World} {p : Option Addr} {l l' : List Out} (h : zbq w p l) (e : l = l') : zbq w p l' := e ▸ h
theorem zdj (lo hi md : Int) (a : Option Addr) (cap : Nat) (xs : List StX) (w : World) (hlib : Lib4 w) (hin : zpD w a xs) :
 Calls Tryz.prog 4 #[.agg #[.int .i64 lo,.int .i64 hi,.int .i64 md],.slice a xs.length cap] w fun e w' => e = .returned (.bool true) /\ Ext w w' := by
 have hx0 : Ext w (w.alloc (.cells #[.int .i64 lo,.int .i64 hi,.int .i64 md] 45)) := (ExtM.refl w).alloc _;have hg := hlib.l;by_cases h100 : 100 < xs.length
 . have d : decide (100 < (xs.length : Int)) = true := by simp;omega
   go_enter Tryz.func4,Tryz.ntmps4;go_wp2_with fail;go_ret;exact ⟨rfl,hx0⟩
 have d : decide (100 < (xs.length : Int)) = false := by simp;omega
 have b0 : (w.alloc (.cells #[.int .i64 lo,.int .i64 hi,.int .i64 md] 45)).cell? ⟨w.heap.size,0,none⟩ = some (.int .i64 lo) := by go_simp
 have b1 : (w.alloc (.cells #[.int .i64 lo,.int .i64 hi,.int .i64 md] 45)).cell? ⟨w.heap.size,1,none⟩ = some (.int .i64 hi) := by go_simp
 have b2 : (w.alloc (.cells #[.int .i64 lo,.int .i64 hi,.int .i64 md] 45)).cell? ⟨w.heap.size,2,none⟩ = some (.int .i64 md) := by go_simp
 have lB : w.heap.size < (w.alloc (.cells #[.int .i64 lo,.int .i64 hi,.int .i64 md] 45)).heap.size := by simp
 by_cases hc : checkI lo hi md = 0
 . have hnw := fun u => znc lo hi md u hc;have hrn := fun u => zph lo hi md u hc;have hp := zgW hc;have HC := Lib.hid hc;clear hc;go_enter Tryz.func4,Tryz.ntmps4
   go_upto_region 5 with (first
    | (go_at_call 11
       refine (hnw _).mono ?_;rintro e w1 ⟨E,Bs,rfl,hx1,hBn,hE⟩;have k := fun o => hx1.cell (p := ⟨w.heap.size,o,none⟩) lB (fun h => h);have c0 := (k _).trans b0;have c1 := (k _).trans b1;have c2 := (k _).trans b2;have lB1 : w.heap.size < w1.heap.size := Nat.lt_of_lt_of_le lB hx1.size
       clear k b0 b1 b2)
    | (go_at_call 12
       refine (hrn _).mono ?_
       rintro e w2 ⟨R,Cs,rfl,hx2,hR,hCn⟩))
   have hX : Ext w w2 := ExtM.trans _ _ _ (ExtM.trans _ _ _ hx0 hx1) hx2;have hS0 : EL w w2 E R lo hi md 0 := by
    have hs1 := hx0.size;have hs2 := (ExtM.trans _ _ _ hx0 hx1 : Ext w w1).size;refine ⟨_,_,_,_,_,_,_,_,⟨hX,hE.ext hx2,hR,fun k hk => ⟨by have := hBn k hk;omega,fun e => by have := hE.lt k hk;have := hCn k e;omega,fun e => e⟩,fun k hk => ⟨by have := hCn k hk;omega,fun e => e⟩,fun b hb => hb.elim⟩,⟨?_,POk.new lo hi md,List.Perm.refl _⟩⟩;exact zce.mk (RelJ.mk ⟨[],RelS.nil 0⟩ ⟨[],RelS.nil 0⟩ rfl rfl rfl) (Nat.zero_le _) (Nat.zero_le _) (fun x hx => nomatch hx) (fun x hx => nomatch hx) (Int.le_refl _) (Int.le_refl _)
   clear hnw hrn hx1 hx2 hBn hE hR hCn hX c0 c1 c2 lB lB1 hx0;go_wp2_with fail;go_loopg [5,9] (xs.length + 1) (fun kx s5 s9 wr => ∃ n E : Nat,s5 = .pointer (some ⟨E,0,none⟩) /\ s9 = .int .i64 n /\ n <= xs.length /\ xs.length - n <= kx /\ EL w wr E R lo hi md n)
   case atStart => exact ⟨0,E,rfl,rfl,by omega,by omega,hS0⟩
   case round =>
    clear hS0;obtain ⟨n,E,rfl,rfl,hn,hgk,hS⟩ := hrel;by_cases hlt : n < xs.length
    . obtain ⟨b,off,rfl,hel⟩ : ∃ b off,a = some ⟨b,off,none⟩ /\ ∀ i (h : i < xs.length),zgX w b (off + i * 6) xs[i] := by
       rcases hin with h | h
       . subst h;simp at hlt
       . exact h
      have hx := hS.ext;have lw := (hel n hlt).lt;obtain ⟨c0,c1,c2,c3,c4,c5⟩ := (hel n hlt).of hx;clear hel;generalize xs[n] = dd at *;obtain ⟨wh,sd,sn,⟨rk,rt,rv⟩⟩ := dd;simp only at c0 c1 c2 c3 c4 c5;go_upto_block 2 with fail;obtain ⟨st,V,f0,f1,rs,l,Bs,Cs,h0',hgd⟩ := hS;have h8 : EX w (wr.alloc (.cells #[.int .i64 wh,.int .i64 sd,.int .i64 sn,.int .i64 rk,.int .i64 rt,.int .i64 rv] 39)) E R lo hi md (fun k => k = wr.heap.size) Bs Cs st V f0 f1 rs l f0 f1 :=
       h0'.wide ((ExtM.refl _).alloc _) (fun b hb => .inr ⟨by omega,by simp;omega⟩)
      have hB : w.heap.size <= wr.heap.size := h0'.ext.size;have b0 : (wr.alloc (.cells #[.int .i64 wh,.int .i64 sd,.int .i64 sn,.int .i64 rk,.int .i64 rt,.int .i64 rv] 39)).cell? ⟨wr.heap.size,0,none⟩ = some (.int .i64 wh) := by go_simp
      have b1 : (wr.alloc (.cells #[.int .i64 wh,.int .i64 sd,.int .i64 sn,.int .i64 rk,.int .i64 rt,.int .i64 rv] 39)).cell? ⟨wr.heap.size,1,none⟩ = some (.int .i64 sd) := by go_simp
      have b2 : (wr.alloc (.cells #[.int .i64 wh,.int .i64 sd,.int .i64 sn,.int .i64 rk,.int .i64 rt,.int .i64 rv] 39)).cell? ⟨wr.heap.size,2,none⟩ = some (.int .i64 sn) := by go_simp
      have b3 : (wr.alloc (.cells #[.int .i64 wh,.int .i64 sd,.int .i64 sn,.int .i64 rk,.int .i64 rt,.int .i64 rv] 39)).cell? ⟨wr.heap.size,3,none⟩ = some (.int .i64 rk) := by go_simp
      have b4 : (wr.alloc (.cells #[.int .i64 wh,.int .i64 sd,.int .i64 sn,.int .i64 rk,.int .i64 rt,.int .i64 rv] 39)).cell? ⟨wr.heap.size,4,none⟩ = some (.int .i64 rt) := by go_simp
      have b5 : (wr.alloc (.cells #[.int .i64 wh,.int .i64 sd,.int .i64 sn,.int .i64 rk,.int .i64 rt,.int .i64 rv] 39)).cell? ⟨wr.heap.size,5,none⟩ = some (.int .i64 rv) := by go_simp
      have lB : wr.heap.size < (wr.alloc (.cells #[.int .i64 wh,.int .i64 sd,.int .i64 sn,.int .i64 rk,.int .i64 rt,.int .i64 rv] 39)).heap.size := by simp
      generalize wr.alloc (.cells #[.int .i64 wh,.int .i64 sd,.int .i64 sn,.int .i64 rk,.int .i64 rt,.int .i64 rv] 39) = W8 at *;clear h0' c0 c1 c2 c3 c4 c5 hx lw;generalize wr.heap.size = B at *;have hgr := hg.of h8.ext;have hla := hgd.g.la;have hlb := hgd.g.lb;have hlaj : st.a.length <= 300 := by rw [hgd.g.a];exact hla
      have hlbj : st.b.length <= 300 := by rw [hgd.g.b];exact hlb
      go_cut [5] (fun s5 wx => ∃ E : Nat,s5 = .pointer (some ⟨E,0,none⟩) /\ EL w wx E R lo hi md (n + 1))
      case first =>
       by_cases q0 : wh = 0
       . subst q0;have HG := Lib.hid (hgd.feed (by omega) sd ⟨rk,rt,rv⟩);have HL := Lib.hid (zlS lo hi md sd ⟨rk,rt,rv⟩ st hlaj hlbj)
         go_wp2_with (first
          | (go_at_call 8
             refine (zlV h8 hgd (by omega) hp sd rk rt rv).mono ?_;rintro e w1 ⟨vr,rfl,hr1,hx1,Cs',h9⟩;have k := fun o => hx1.cell (p := ⟨B,o,none⟩) lB (fun e => e rfl);have e1 := (k _).trans b1;have e3 := (k _).trans b3;have e4 := (k _).trans b4;have e5 := (k _).trans b5;have lB1 : B < w1.heap.size := Nat.lt_of_lt_of_le lB hx1.size
             clear k)
          | (go_at_call 9
             refine (znY h9 hgd (by omega) hp hg sd rk rt rv).mono ?_;rintro e w2 ⟨vj,rfl,hr2,hxB,hx2,Bs',h10⟩;have hr1' : CRow w2 W8.heap.size vr _ := zag hr1 hxB (fun k hk e => by have h1 := (zaf hr1 k hk).1;have h2 := h8.e.lt k e;omega)
             have hgr2 := hg.of h10.ext)
          | (go_at_call 7
             refine (zdP _ _ hgr2).mono ?_
             rintro e w3 ⟨rfl,hx3⟩)
          | (go_at_call 10
             refine (zfJ _ _ _ _ _ _ (hr2.of hx3) (hr1'.of hx3) (by have := HL.out;omega)).mono ?_
             rintro e w4 ⟨rfl,hx4⟩))
         go_meet
         case rel => exact ⟨E,rfl,_,_,_,_,_,_,_,_,((h10.of hx3).of hx4).narrow (fun b hb => hb.elim),HG.out⟩
       have d0 : (wh == 0) = false := by simp [q0]
       by_cases q1 : wh = 1
       . subst q1;have HG := Lib.hid (hgd.move sd sn);have hta := hgd.g.ta;have htb := hgd.g.tb;have hmv : moveI sd sn rs.x rs.y = moveI sd sn st.x st.y := by rw [hgd.g.rel.x,hgd.g.rel.y]
         obtain ⟨J,r0,r1,cJ,lR,-,-,-,-,-,-,-,-⟩ := zkz h8;go_wp2_with fail;refine Plan.b0 (Plan.ExtL B R) 17 ?_;refine Plan.qs 12 [0,1,2,3,4,6,7,8,9,10,11,12] ?_;iterate 12 go_big_quiet_step (fail)
         refine Plan.qs 1 [13] ?_;go_big_quiet_step (fail);refine Plan.o1 5 fun K hK => ?_;go_wp2_with (fail);refine (zn5 (h8.of (ExtM.refl _).drew) hp hlaj hlbj sd sn).mono ?_;rintro e w1 ⟨rfl,h1,Bs',k1⟩;have H1 := ExtL.trans _ _ _ (ExtL.refl _).drew h1;go_wp2_with (fail);refine hK _ _ h1 ?_;clear hK K;refine Plan.o1 14 fun K hK => ?_;go_wp2_with (fail);refine (zmB k1 _ ((H1.cells R 0 (.inr rfl) lR).1.trans cJ) _ hp hla hlb hta htb sd sn hmv).mono ?_;rintro e w2 ⟨rfl,h2,Cs',k2⟩;have H2 := ExtL.trans _ _ _ H1 h2;go_wp2_with (fail);refine hK _ _ h2 ?_;clear hK K;refine Plan.o1 15 fun K hK => ?_;go_wp2_with (fail);refine (zdP _ _ (hg.of k2.ext)).mono ?_;rintro e w3 ⟨rfl,h3⟩;have H3 := ExtL.trans _ _ _ H2 (zkO h3);obtain ⟨hc3,hf3,-⟩ := ExtL.rules H3;have hs3_0 : B < w3.heap.size := by have := H3.size;(try simp at this);omega
         have hs3_1 : R < w3.heap.size := by have := H3.size;(try simp at this);omega
         go_wp2_with (fail);refine hK _ _ (zkO h3) ?_;clear hK K;refine Plan.qs 1 [16] ?_;go_big_quiet_step (fail);refine Plan.dn ?_;go_wp2_with fail;go_meet
         case rel => exact ⟨E,rfl,_,_,_,_,_,_,_,_,(k2.of h3).narrow (fun b hb => hb.elim),HG.out⟩
       have d1 : (wh == 1) = false := by simp [q1]
       by_cases q3 : wh = 3
       . subst q3;have hsok := (hgd.ok.eok (by omega) HC.out h8.e).sok (hgd.ok.lV9 (by omega));have hsv := fun (u : World) (hx : Ext W8 u) => zk9 (h8.e.ext hx) ⟨lo,hi,md,st,V,f0,f1⟩ rfl hsok (hlib.ext (ExtM.trans _ _ _ h8.ext hx)).t;have hrs := zmK h8.r ⟨lo,hi,md,st,l,f0,f1⟩ rfl (hsok.perm hgd.p) hgd.g (hlib.ext h8.ext).t;have hpe : savedT ⟨lo,hi,md,st,l,f0,f1⟩ = savedT ⟨lo,hi,md,st,V,f0,f1⟩ := zhy (e := ⟨lo,hi,md,st,V,f0,f1⟩) hgd.p;rw [hpe] at hrs;have hld := ziT ⟨lo,hi,md,st,V,f0,f1⟩ (hgd.ok.eok (by omega) HC.out h8.e);have HK := Lib.hid (⟨h8,hgd⟩ : _ /\ _);clear hpe hsok hla hlb hlaj hlbj;by_cases hbig : 60000 < (savedT ⟨lo,hi,md,st,V,f0,f1⟩).length
         . have e1 : zeX ⟨lo,hi,md,st,V,f0,f1⟩ = .returned (.tuple #[.string ByteArray.empty,errV 4]) := if_pos hbig;have e2 : zf9 (savedT ⟨lo,hi,md,st,V,f0,f1⟩) = .returned (.tuple #[.string ByteArray.empty,.int .i64 4]) := if_pos hbig;have e3 : errV 4 = .iface 24 (.int .i64 4) := rfl;have hba := fun (u : World) (hx : Ext W8 u) => zdP 4 u (hg.of (ExtM.trans _ _ _ h8.ext hx));rw [e2] at hrs;rw [e1,e3] at hsv;rw [e3] at hba;clear e1 e2 e3 hld h8 hgd hbig
           go_wp2_with (first
            | (go_at_call 15;refine hrs.mono ?_;rintro e w1 ⟨rfl,hx1⟩)
            | (go_at_call 16;refine (hsv _ hx1).mono ?_;rintro e w2 ⟨rfl,hx2⟩)
            | (go_at_call 7;refine (hba _ (ExtM.trans _ _ _ hx1 hx2)).mono ?_;rintro e w3 ⟨rfl,hx3⟩))
           go_meet
           case rel => exact ⟨E,rfl,_,_,_,_,_,_,_,_,(HK.out.1.of (ExtM.trans _ _ _ hx1 (ExtM.trans _ _ _ hx2 hx3))).narrow (fun b hb => hb.elim),HK.out.2.more⟩
         . have e1 : zeX ⟨lo,hi,md,st,V,f0,f1⟩ = .returned (.tuple #[.string ⟨(savedT ⟨lo,hi,md,st,V,f0,f1⟩).toArray⟩,.nilIface]) := if_neg hbig;have e2 : zf9 (savedT ⟨lo,hi,md,st,V,f0,f1⟩) = .returned (.tuple #[.string ⟨(savedT ⟨lo,hi,md,st,V,f0,f1⟩).toArray⟩,.int .i64 0]) := if_neg hbig;have e3 : errV 0 = .nilIface := rfl;have hba := fun (u : World) (hx : Ext W8 u) => zdP 0 u (hg.of (ExtM.trans _ _ _ h8.ext hx));have hls := hld (by omega);have hload : ∀ w9,Lib4 w9 -> Calls Tryz.prog 6 #[.string ⟨(savedT ⟨lo,hi,md,st,V,f0,f1⟩).toArray⟩] w9 fun e u' => ∃ E' Bs',e = .returned (.tuple #[.pointer (some ⟨E',0,none⟩),.nilIface]) /\ Ext w9 u' /\ EAt u' E' Bs' lo hi md st (sortO V).reverse (sortO V).reverse f0 f1 /\ ∀ k,Bs' k -> w9.heap.size <= k := fun w9 hl => by
            have hsz : (ByteArray.mk (savedT ⟨lo,hi,md,st,V,f0,f1⟩).toArray).size <= 60000 := by rw [<- zbA];show (savedT ⟨lo,hi,md,st,V,f0,f1⟩).length <= 60000;omega
            refine (zpa ⟨(savedT ⟨lo,hi,md,st,V,f0,f1⟩).toArray⟩ (by omega) hl.m hl.e hl.t hl.l (fun hn => ?_)).mono ?_
            . have h9 : zfM (savedT ⟨lo,hi,md,st,V,f0,f1⟩) = none := hn;rw [hls] at h9;cases h9
            . intro e u' hv;unfold LoadV at hv;have h9 : zfM (ByteArray.mk (savedT ⟨lo,hi,md,st,V,f0,f1⟩).toArray).data.toList = _ := hls;rw [h9] at hv;obtain ⟨q1,E',Bs',q2,q3,q4⟩ := hv;exact ⟨E',Bs',q2,q1,q3,q4⟩
           have hl8 := hlib.ext h8.ext;rw [e2] at hrs;rw [e1] at hsv;rw [e3] at hba;clear e1 e2 e3 hld hls h8 hgd hbig;generalize (⟨(savedT ⟨lo,hi,md,st,V,f0,f1⟩).toArray⟩ : ByteArray) = tx at *
           go_wp2_with (first
            | (go_at_call 15;refine hrs.mono ?_;rintro e w1 ⟨rfl,hx1⟩)
            | (go_at_call 16;refine (hsv _ hx1).mono ?_;rintro e w2 ⟨rfl,hx2⟩)
            | (go_at_call 7;refine (hba _ (ExtM.trans _ _ _ hx1 hx2)).mono ?_;rintro e w3 ⟨rfl,hx3⟩;have hl3 := hl8.ext (ExtM.trans _ _ _ hx1 (ExtM.trans _ _ _ hx2 hx3)))
            | (go_at_call 6;refine (hload _ hl3).mono ?_;rintro e w4 ⟨E',Bs',rfl,hx4,hat,hBs⟩;have HAT := Lib.hid (⟨hat,hBs,hx4⟩ : _ /\ _ /\ _);clear hat hBs hx4))
           go_meet
           case rel => exact ⟨E',rfl,_,_,_,_,_,_,_,_,((HK.out.1.of (ExtM.trans _ _ _ hx1 (ExtM.trans _ _ _ hx2 hx3))).loaded HAT.out.2.2 HAT.out.1 HAT.out.2.1).narrow (fun b hb => hb.elim),(HK.out.2.perm ((List.reverse_perm _).trans (zbf V))).more⟩
       have d3 : (wh == 3) = false := by simp [q3]
       have HK : Hid (∃ E',Value.pointer (some ⟨E,0,none⟩) = Value.pointer (some ⟨E',0,none⟩) /\ EL w W8 E' R lo hi md (n + 1)) := Lib.hid ⟨E,rfl,_,_,_,_,_,_,_,_,h8.narrow (fun b hb => hb.elim),hgd.more⟩;go_wp2_with fail;go_meet
       case rel => exact HK.out
      case rest =>
       clear hla hlb hlaj hlbj h8 b0 b1 b2 b3 b4 b5 lB hgr hgd;obtain ⟨E,rfl,st,V,f0,f1,rs,l,Bs,Cs,h9,hgd⟩ := hcut;go_wp2_with fail;go_loopg [19] 3 (fun kx s19 wr => ∃ i : Nat,s19 = .int .i64 i /\ i <= 2 /\ 2 - i <= kx /\ EX w wr E R lo hi md (fun _ => False) Bs Cs st V f0 f1 rs l f0 f1)
       case atStart => exact ⟨0,rfl,by omega,by omega,h9⟩
       case round =>
        clear h9;obtain ⟨i,rfl,hi2',hgk2,h9⟩ := hrel;obtain ⟨J,r0,r1,c0,lR,-,-,hj,-,d2,d3,⟨rv,hre⟩,-⟩ := zkz h9;have lJ := hj.lt;have HGD := Lib.hid hgd;have HX9 := Lib.hid h9;have HJ := Lib.hid hj;by_cases hi2 : i < 2
        . have c3 := hj.j0.c3;have c4 := hj.j1.c3;have c5 := hj.c5;have c6 := hj.c6;obtain ⟨p0,q0,rfl⟩ := hj.j0.row.slice;obtain ⟨p1,q1,rfl⟩ := hj.j1.row.slice;simp only [Nat.add_zero,Nat.reduceAdd] at c3 c4;clear h9 hgd hj hre;have hi' : i = 0 \/ i = 1 := by omega
          have hti : Plan.Gone i := ⟨⟩
          rcases hi' with rfl | rfl
          all_goals
           first
            | have _t : Plan.Gone 0 := hti
              have hheld : ∀ u,Ext wr u -> Calls Tryz.prog 17 #[.pointer (some ⟨E,0,none⟩),.int .i64 0] u fun e u' => e = .returned (.int .i64 (rs.a.length : Nat)) /\ Ext u u' := fun u hx => zni 0 (by omega) (HX9.out.e.ext hx) rs.a.length HGD.out.g.a;have hmark : ∀ u,Ext wr u -> Calls Tryz.prog 18 #[.pointer (some ⟨E,0,none⟩),.int .i64 0] u fun e u' => e = .returned (.int .i64 rs.x) /\ Ext u u' := fun u hx => znt 0 (HX9.out.e.ext hx) rs.x HGD.out.g.rel.x;have hfed : ∀ u,Ext wr u -> Calls Tryz.prog 19 #[.pointer (some ⟨E,0,none⟩),.int .i64 0] u fun e u' => e = .returned (.int .i64 f0) /\ Ext u u' := fun u hx => zoZ (HX9.out.e.ext hx);have hrows : ∀ u,Ext wr u -> Calls Tryz.prog 21 #[.pointer (some ⟨E,0,none⟩),.int .i64 0] u fun e u' => ∃ vo,e = .returned vo /\ MRow u' u.heap.size vo st.a /\ Ext u u' := fun u hx => znv 0 (by omega) (HX9.out.e.ext hx) (by have := HGD.out.g.a;have := HGD.out.g.la;show st.a.length < 1000000;omega);have hrall : ∀ u,Ext wr u -> Calls Tryz.prog 22 #[.pointer (some ⟨J,0,none⟩),.int .i64 0] u (zdK rs.a u) := fun u hx => zik J 0 _ rs.a u (by omega) (HJ.out.ext hx).j0.c3 (HJ.out.ext hx).j0.row (by have := HGD.out.g.la;omega);have hchg : ∀ Rl : List RHd,Rl.Perm rs.a -> Rl.Pairwise (fun a b => ¬ ltR b a) -> st.a = Rl.map RHd.hd := fun Rl kp ks => HGD.out.g.chg 0 Rl kp ks;have hln : rs.a.length <= 300 := HGD.out.g.la;obtain ⟨KM,hKM⟩ : ∃ KM : Nat,KM + 0 = 1 := ⟨1 - 0,by decide⟩
              have HRE : Hid (∀ u,Ext wr u -> EX w u E R lo hi md (fun _ => False) Bs Cs st V f0 f1 rs l f0 f1) := Lib.hid (fun u hx => HX9.out.of hx);generalize rs.a = RS at *;generalize st.a = SS at *;generalize rs.x = MX at *;generalize f0 = FX at *
            | have _t : Plan.Gone 1 := hti
              have hheld : ∀ u,Ext wr u -> Calls Tryz.prog 17 #[.pointer (some ⟨E,0,none⟩),.int .i64 1] u fun e u' => e = .returned (.int .i64 (rs.b.length : Nat)) /\ Ext u u' := fun u hx => zni 1 (by omega) (HX9.out.e.ext hx) rs.b.length HGD.out.g.b;have hmark : ∀ u,Ext wr u -> Calls Tryz.prog 18 #[.pointer (some ⟨E,0,none⟩),.int .i64 1] u fun e u' => e = .returned (.int .i64 rs.y) /\ Ext u u' := fun u hx => znt 1 (HX9.out.e.ext hx) rs.y HGD.out.g.rel.y;have hfed : ∀ u,Ext wr u -> Calls Tryz.prog 19 #[.pointer (some ⟨E,0,none⟩),.int .i64 1] u fun e u' => e = .returned (.int .i64 f1) /\ Ext u u' := fun u hx => zoy (HX9.out.e.ext hx);have hrows : ∀ u,Ext wr u -> Calls Tryz.prog 21 #[.pointer (some ⟨E,0,none⟩),.int .i64 1] u fun e u' => ∃ vo,e = .returned vo /\ MRow u' u.heap.size vo st.b /\ Ext u u' := fun u hx => znv 1 (by omega) (HX9.out.e.ext hx) (by have := HGD.out.g.b;have := HGD.out.g.lb;show st.b.length < 1000000;omega);have hrall : ∀ u,Ext wr u -> Calls Tryz.prog 22 #[.pointer (some ⟨J,0,none⟩),.int .i64 1] u (zdK rs.b u) := fun u hx => zik J 1 _ rs.b u (by omega) (HJ.out.ext hx).j1.c3 (HJ.out.ext hx).j1.row (by have := HGD.out.g.lb;omega);have hchg : ∀ Rl : List RHd,Rl.Perm rs.b -> Rl.Pairwise (fun a b => ¬ ltR b a) -> st.b = Rl.map RHd.hd := fun Rl kp ks => HGD.out.g.chg 1 Rl kp ks;have hln : rs.b.length <= 300 := HGD.out.g.lb;obtain ⟨KM,hKM⟩ : ∃ KM : Nat,KM + 1 = 1 := ⟨1 - 1,by decide⟩
              have HRE : Hid (∀ u,Ext wr u -> EX w u E R lo hi md (fun _ => False) Bs Cs st V f0 f1 rs l f0 f1) := Lib.hid (fun u hx => HX9.out.of hx);generalize rs.b = RS at *;generalize st.b = SS at *;generalize rs.y = MX at *;generalize f1 = FX at *
           go_wp2_with fail
           as_aux_lemma =>
            refine Plan.b0 Plan.Ext 54 ?_;refine Plan.qs 12 [0,1,3,4,5,6,7,8,9,10,11,12] ?_;iterate 12 go_big_quiet_step (fail)
            refine Plan.o1 2 fun K hK => ?_;go_wp2_with (fail);refine (hheld _ (ExtM.refl _).drew).mono ?_;rintro e w1 ⟨rfl,h1⟩;have H1 := ExtM.trans _ _ _ (ExtM.refl _).drew h1;obtain ⟨hc1,hf1,-⟩ := Ext.rules H1;have hs1_0 : R < w1.heap.size := by have := H1.size;(try simp at this);omega
            have hs1_1 : J < w1.heap.size := by have := H1.size;(try simp at this);omega
            go_wp2_with (fail);refine hK _ _ h1 ?_;clear hK K;refine Plan.qs 12 [13,14,15,16,18,19,20,21,22,23,24,25] ?_;iterate 12 go_big_quiet_step (fail)
            refine Plan.qs 1 [26] ?_;go_big_quiet_step (fail);refine Plan.ow 17 fun K hK => ?_;go_wp2_with (fail);refine (hmark _ H1).mono ?_;rintro e w2 ⟨rfl,h2⟩;clear hc1 hf1 hs1_0 hs1_1;have H2 := ExtM.trans _ _ _ H1 h2;obtain ⟨hc2,hf2,-⟩ := Ext.rules H2;have hs2_0 : R < w2.heap.size := by have := H2.size;(try simp at this);omega
            have hs2_1 : J < w2.heap.size := by have := H2.size;(try simp at this);omega
            go_wp2_with (fail);refine hK _ _ h2 ?_;clear hK K;refine Plan.qs 11 [27,28,29,30,31,33,34,35,36,37,38] ?_;iterate 11 go_big_quiet_step (fail)
            refine Plan.ow 32 fun K hK => ?_;go_wp2_with (fail);refine (hfed _ H2).mono ?_;rintro e w3 ⟨rfl,h3⟩;clear hc2 hf2 hs2_0 hs2_1;have H3 := ExtM.trans _ _ _ H2 h3;obtain ⟨hc3,hf3,-⟩ := Ext.rules H3;have hs3_0 : R < w3.heap.size := by have := H3.size;(try simp at this);omega
            have hs3_1 : J < w3.heap.size := by have := H3.size;(try simp at this);omega
            go_wp2_with (fail);refine hK _ _ h3 ?_;clear hK K;refine Plan.qs 10 [39,40,41,42,43,45,46,47,48,49] ?_;iterate 10 go_big_quiet_step (fail)
            refine Plan.ow 44 fun K hK => ?_;go_wp2_with (fail);refine (hrows _ H3).mono ?_;rintro e w4 ⟨vo,rfl,km,h4⟩;clear hc3 hf3 hs3_0 hs3_1;have H4 := ExtM.trans _ _ _ H3 h4;go_wp2_with (fail);refine hK _ _ h4 ?_;clear hK K;refine Plan.ow 50 fun K hK => ?_;go_wp2_with (fail);refine (hrall _ H4).mono ?_;rintro e w5 ⟨uo,Rl,rfl,kr,h5,kp,ks⟩;have H5 := ExtM.trans _ _ _ H4 h5;go_wp2_with (fail);refine hK _ _ h5 ?_;clear hK K;refine Plan.ow 51 fun K hK => ?_;go_wp2_with (fail);refine (zpr _ _ _ SS Rl _ (MRow.of km h5) (zak kr (Nat.zero_le _)) (hchg Rl kp ks) (by rw [kp.length_eq];omega)).mono ?_;rintro e w6 ⟨rfl,h6⟩;have H6 := ExtM.trans _ _ _ H5 h6;obtain ⟨hc6,hf6,-⟩ := Ext.rules H6;have hs6_0 : R < w6.heap.size := by have := H6.size;(try simp at this);omega
            have hs6_1 : J < w6.heap.size := by have := H6.size;(try simp at this);omega
            go_wp2_with (fail);refine hK _ _ h6 ?_;clear hK K;refine Plan.qs 2 [52,53] ?_;iterate 2 go_big_quiet_step (fail)
            refine Plan.dn ?_;go_wp2_with fail;go_roundg KM
            case measure => omega
            case rel => first | exact ⟨1,by go_num,by omega,by omega,HRE.out _ H6⟩ | exact ⟨2,by go_num,by omega,by omega,HRE.out _ H6⟩
        . have hz : decide ((i : Int) < 2) = false := by simp;omega
          have hz' : decide (i < 2) = false := by simp;omega
          have c7 := hj.c7;have hlV : V.length < 1000000 := by
           have h1 := hgd.ok.lV9 (by omega);omega
          have hll : l.length < 1000000 := by rw [hgd.p.length_eq];exact hlV
          have hso : sortO V = sortO l := zb6 hgd.p.symm;have hlate : ∀ u,Ext wr u -> Calls Tryz.prog 23 #[.pointer (some ⟨E,0,none⟩)] u fun e u' => e = .returned (.int .i64 rs.late) /\ Ext u u' := fun u hx => by
           have := zow (HX9.out.e.ext hx)
           rw [HGD.out.g.rel.late] at this;exact this
          have hview : ∀ u,Ext wr u -> Calls Tryz.prog 25 #[.pointer (some ⟨E,0,none⟩)] u fun e u' => ∃ p cap,e = .returned (.slice p l.length cap) /\ Ext u u' /\ zbq u' p (sortO l) := fun u hx => by
           refine (zoO (HX9.out.e.ext hx) hlV).mono ?_;intro e u' hv;obtain ⟨p,cap,q1,q2,q3⟩ := hv.out;rw [hso,zaA] at q1;exact ⟨p,cap,q1,q2,q3.of_eq hso⟩
          have hsort : ∀ u,Ext wr u -> Calls Tryz.prog 26 #[.pointer (some ⟨R,1,none⟩)] u fun e u' => ∃ p cap,e = .returned (.slice p l.length cap) /\ Ext u u' /\ zbq u' p (sortO l) := fun u hx => zeR R rv l u (hre.of hx) hll;have hso2 : (sortO l).length = l.length := zaA l;have hgr : ∀ u,Ext wr u -> Calls Tryz.prog 28 #[.pointer (some ⟨E,0,none⟩)] u (zgd u (refGs l)) := fun u hx => by
           obtain ⟨ents,h1,h2,h3⟩ := zif (HX9.out.e.ext hx) hlV;rw [zi6 (fun k => h1.of_perm HGD.out.p.symm k) h2];exact h3
          have hrw : (refGs l).length < 1000000 := by
           obtain ⟨ents,h1,h2,-⟩ := zif h9.e hlV;rw [zi6 (fun k => h1.of_perm HGD.out.p.symm k) h2];unfold allG;rw [List.length_map,zbj,List.length_map]
           have := h1.few h2
           omega
          obtain ⟨pb,cb,rfl,-,hob⟩ := zbq.own hre.row rfl;have cv := hre.c0;have hrg : ∀ u,Ext wr u -> Calls Tryz.prog 29 #[.slice pb l.length cb] u (zgd u (refGs l)) := fun u hx => zhB pb cb l u (hob.of hx) hll;clear hj h9 hgd hre hob hso hi2;generalize sortO l = lv at *;generalize refGs l = rows at *;go_wp2_with fail
          as_aux_lemma =>
           refine Plan.b0 Plan.Ext 32 ?_;refine Plan.qs 8 [0,2,3,4,5,6,7,8] ?_;iterate 8 go_big_quiet_step (fail)
           refine Plan.o1 1 fun K hK => ?_;go_wp2_with (fail);refine (hlate _ (ExtM.refl _).drew).mono ?_;rintro e w1 ⟨rfl,h1⟩;have H1 := ExtM.trans _ _ _ (ExtM.refl _).drew h1;obtain ⟨hc1,hf1,-⟩ := Ext.rules H1;have hs1_0 : R < w1.heap.size := by have := H1.size;(try simp at this);omega
           have hs1_1 : J < w1.heap.size := by have := H1.size;(try simp at this);omega
           go_wp2_with (fail);refine hK _ _ h1 ?_;clear hK K;refine Plan.qs 6 [9,10,11,13,14,15] ?_;iterate 6 go_big_quiet_step (fail)
           refine Plan.ow 12 fun K hK => ?_;go_wp2_with (fail);refine (hview _ H1).mono ?_;rintro e w2 ⟨q1,k1,rfl,h2,o1⟩;clear hc1 hf1 hs1_0 hs1_1;have H2 := ExtM.trans _ _ _ H1 h2;go_wp2_with (fail);refine hK _ _ h2 ?_;clear hK K;refine Plan.ow 16 fun K hK => ?_;go_wp2_with (fail);refine (hsort _ H2).mono ?_;rintro e w3 ⟨q2,k2,rfl,h3,o2⟩;have H3 := ExtM.trans _ _ _ H2 h3;go_wp2_with (fail);refine hK _ _ h3 ?_;clear hK K;refine Plan.ow 17 fun K hK => ?_;go_wp2_with (fail);refine (zh0 _ _ _ _ _ lv _ (o1.of h3) o2 hso2 (by omega)).mono ?_;rintro e w4 ⟨rfl,h4⟩;have H4 := ExtM.trans _ _ _ H3 h4;obtain ⟨hc4,hf4,-⟩ := Ext.rules H4;have hs4_0 : R < w4.heap.size := by have := H4.size;(try simp at this);omega
           have hs4_1 : J < w4.heap.size := by have := H4.size;(try simp at this);omega
           go_wp2_with (fail);refine hK _ _ h4 ?_;clear hK K;refine Plan.qs 9 [18,19,20,21,23,24,25,26,27] ?_;iterate 9 go_big_quiet_step (fail)
           refine Plan.ow 22 fun K hK => ?_;go_wp2_with (fail);refine (hgr _ H4).mono ?_;rintro e w5 ⟨q3,k3,rfl,h5,o3⟩;clear hc4 hf4 hs4_0 hs4_1;have H5 := ExtM.trans _ _ _ H4 h5;go_wp2_with (fail);refine hK _ _ h5 ?_;clear hK K;refine Plan.ow 28 fun K hK => ?_;go_wp2_with (fail);refine (hrg _ H5).mono ?_;rintro e w6 ⟨q4,k4,rfl,h6,o4⟩;have H6 := ExtM.trans _ _ _ H5 h6;go_wp2_with (fail);refine hK _ _ h6 ?_;clear hK K;refine Plan.ow 29 fun K hK => ?_;go_wp2_with (fail);refine (zfA _ _ _ _ rows _ (o3.of h6) o4 (by omega)).mono ?_;rintro e w7 ⟨rfl,h7⟩;have H7 := ExtM.trans _ _ _ H6 h7;obtain ⟨hc7,hf7,-⟩ := Ext.rules H7;have hs7_0 : R < w7.heap.size := by have := H7.size;(try simp at this);omega
           have hs7_1 : J < w7.heap.size := by have := H7.size;(try simp at this);omega
           go_wp2_with (fail);refine hK _ _ h7 ?_;clear hK K;refine Plan.qs 2 [30,31] ?_;iterate 2 go_big_quiet_step (fail)
           refine Plan.dn ?_;go_wp2_with fail;go_roundg (xs.length - (n + 1))
           case measure => omega
           case rel => exact ⟨n + 1,E,rfl,by go_num,by omega,Nat.le_refl _,_,_,_,_,_,_,_,_,HX9.out.of H7,HGD.out⟩
    . have hz : decide (n < xs.length) = false := by simp;omega
      obtain ⟨st,V,f0,f1,rs,l,Bs,Cs,h9,hgd⟩ := hS;have hX := h9.ext;have hE := h9.e;clear h9 hgd
      go_wp2_with (first
       | (go_at_call 19;refine (zoL E _).mono ?_;rintro e w1 ⟨rfl,hx1⟩)
       | (go_at_call 17;refine (zou (hE.ext hx1)).mono ?_;rintro e w2 ⟨rfl,hx2⟩))
      go_ret;exact ⟨rfl,ExtM.trans _ _ _ hX (ExtM.trans _ _ _ hx1 hx2)⟩
 . have hnw := fun u => zmT lo hi md u hc;have hrn := fun u => zjC lo hi md u hc;have hne : (checkI lo hi md != 0) = true := by simp [hc]
   generalize checkI lo hi md = c at *;have HC := Lib.hid hc;clear hc;go_enter Tryz.func4,Tryz.ntmps4
   go_wp2_with (first
    | (go_at_call 11
       refine (hnw _).mono ?_;rintro e w1 ⟨rfl,hx1⟩;have k := fun o => hx1.cell (p := ⟨w.heap.size,o,none⟩) lB (fun h => h);have c0 := (k _).trans b0;have c1 := (k _).trans b1;have c2 := (k _).trans b2;have lB1 : w.heap.size < w1.heap.size := Nat.lt_of_lt_of_le lB hx1.size
       clear k b0 b1 b2)
    | (go_at_call 12
       refine (hrn _).mono ?_;rintro e w2 ⟨rfl,hx2⟩
       have hX2 := ExtM.trans _ _ _ (ExtM.trans _ _ _ hx0 hx1) hx2)
    | (go_at_call 7
       refine (zdP c w2 (hg.of hX2)).mono ?_
       rintro e w3 ⟨rfl,hx3⟩))
   go_ret;exact ⟨rfl,ExtM.trans _ _ _ hX2 hx3⟩
end Go.Proofs.YtmcgnnmffeojpabGreatDoor
