import Derived.Test.YtmcgnnmffeojpabGreatDoorPk28
import Derived.Test.YtmcgnnmffeojpabGreatDoorPk36
import Derived.Deep.DeepCutAuto
import Derived.Deep.CutBlock
set_option maxRecDepth 100000
set_option maxHeartbeats 8000000
namespace Go.Proofs.YtmcgnnmffeojpabGreatDoor
open Go.RowKit Go.Plan
section
variable {u:World} {J:Nat} {r0 r1:Value} {lo hi md:Int} {st:RSt}
theorem zrv (h:RIs u J r0 r1 lo hi md st) (k t q m:Int) (hc:0 <= st.came /\ st.came < 1000000) :
 Calls Tryz.prog 33 #[.pointer (some ⟨J,0,none⟩),.int .i64 0,.agg #[.int .i64 k,.int .i64 t,.int .i64 q],.int .i64 m] u fun e u'=>e = .returned (.int .i64 (addE (st.a.map RHd.hd) ⟨⟨k,t,q⟩,m⟩)) /\ RUp u u' J (zaO J r0 r1) lo hi md (zrm 0 ⟨⟨k,t,q⟩,m⟩ st) :=
 (zrB J 0 r0 st.a st.came ⟨⟨k,t,q⟩,m⟩ u h.j0 hc).mono fun _ _ hh=>⟨hh.1,h.up0 hh.2⟩
theorem zrz (h:RIs u J r0 r1 lo hi md st) (k t q m:Int) (hc:0 <= st.came /\ st.came < 1000000) :
 Calls Tryz.prog 33 #[.pointer (some ⟨J,0,none⟩),.int .i64 1,.agg #[.int .i64 k,.int .i64 t,.int .i64 q],.int .i64 m] u fun e u'=>e = .returned (.int .i64 (addE (st.b.map RHd.hd) ⟨⟨k,t,q⟩,m⟩)) /\ RUp u u' J (zaO J r0 r1) lo hi md (zrm 1 ⟨⟨k,t,q⟩,m⟩ st) :=
 (zrB J 1 r1 st.b st.came ⟨⟨k,t,q⟩,m⟩ u h.j1 hc).mono fun _ _ hh=>⟨hh.1,h.up1 hh.2⟩
theorem zp3 (J:Nat) (s k t q m:Int) (u:World) (hs:s ≠ 0 /\ s ≠ 1) :
 Calls Tryz.prog 33 #[.pointer (some ⟨J,0,none⟩),.int .i64 s,.agg #[.int .i64 k,.int .i64 t,.int .i64 q],.int .i64 m] u fun e u'=>e = .returned (.int .i64 1) /\ Ext u u':=by
 have hin:decide ((0:Int) <= s /\ s <= 1) = false:=by simp;omega
 clear hs;go_enter Tryz.func33,Tryz.ntmps33;go_wp2_with (go_at_call 50;refine (zdC _ _ _ _).mono ?_;rintro e w1 ⟨rfl,rfl⟩;rw [hin]);go_ret;exact ⟨rfl,(ExtM.refl _).alloc _⟩
theorem zmt (J:Nat) (s k t q:Int) (u:World) (hs:s ≠ 0 /\ s ≠ 1) :
 Calls Tryz.prog 42 #[.pointer (some ⟨J,0,none⟩),.int .i64 s,.agg #[.int .i64 k,.int .i64 t,.int .i64 q]] u fun e u'=>e = .returned (.tuple #[.slice none 0 0,.int .i64 1]) /\ Ext u u':=by
 have hin:decide ((0:Int) <= s /\ s <= 1) = false:=by simp;omega
 clear hs;go_enter Tryz.func42,Tryz.ntmps42;go_wp2_with (go_at_call 50;refine (zdC _ _ _ _).mono ?_;rintro e w1 ⟨rfl,rfl⟩;rw [hin]);go_ret2;exact ⟨rfl,(ExtM.refl _).alloc _⟩
end
theorem RIs.mark {u:World} {J:Nat} {r0 r1:Value} {lo hi md:Int} {st:RSt} (h:RIs u J r0 r1 lo hi md st) (s:Nat) (hs:s < 2) (t:Int) :
 RIs (u.setCell ⟨J,5 + s,none⟩ (.int .i64 t)) J r0 r1 lo hi md (if s = 0 then { st with x:=t } else { st with y:=t }) /\ ExtM (fun k=>k = J) u (u.setCell ⟨J,5 + s,none⟩ (.int .i64 t)):=by
 have hx:ExtM (fun k=>k = J) u (u.setCell ⟨J,5 + s,none⟩ (.int .i64 t)):=ExtM.setCell (M:=fun k=>k = J) (ExtM.refl u) (p:=⟨J,5 + s,none⟩) (.inr rfl) _;have hc:∀ o,o ≠ 5 + s -> (u.setCell ⟨J,5 + s,none⟩ (.int .i64 t)).cell? ⟨J,o,none⟩ = u.cell? ⟨J,o,none⟩:=fun o ho=>World.cell?_setCell_other _ _ _ _ (by intro e;simp only [Addr.mk.injEq,and_true,true_and] at e;omega);have hf:∀ o,(u.setCell ⟨J,5 + s,none⟩ (.int .i64 t)).frozen? ⟨J,o,none⟩ = false:=fun o=>(World.frozen?_setCell _ _ _ _).trans (h.fz o);refine ⟨?_,hx⟩;have hs':s = 0 \/ s = 1:=by omega
 rcases hs' with rfl | rfl
 . exact ⟨(hc 0 (by decide)).trans h.c0,(hc 1 (by decide)).trans h.c1,(hc 2 (by decide)).trans h.c2,h.j0.other hx (hc 3 (by decide)) ((hc 8 (by decide)).trans h.j0.c8) hf,h.j1.other hx (hc 4 (by decide)) ((hc 8 (by decide)).trans h.j0.c8) hf,World.cell?_setCell_same _ _ _ h.c5,(hc 6 (by decide)).trans h.c6,(hc 7 (by decide)).trans h.c7,h.sep⟩
 . exact ⟨(hc 0 (by decide)).trans h.c0,(hc 1 (by decide)).trans h.c1,(hc 2 (by decide)).trans h.c2,h.j0.other hx (hc 3 (by decide)) ((hc 8 (by decide)).trans h.j0.c8) hf,h.j1.other hx (hc 4 (by decide)) ((hc 8 (by decide)).trans h.j0.c8) hf,(hc 5 (by decide)).trans h.c5,World.cell?_setCell_same _ _ _ h.c6,(hc 7 (by decide)).trans h.c7,h.sep⟩
theorem RIs.rows0 {u:World} {J b:Nat} {r0 r1 r':Value} {lo hi md:Int} {st:RSt} {L':List RHd} (h:RIs u J r0 r1 lo hi md st) (hrow:JRow u b r' L') (hJ:r'.ownBlock ≠ some J) (hs:∀ k,r'.ownBlock = some k -> r1.ownBlock ≠ some k) :
 RIs (u.setCell ⟨J,3,none⟩ r') J r' r1 lo hi md { st with a:=L' } /\ ExtM (fun k=>k = J) u (u.setCell ⟨J,3,none⟩ r'):=by
 have hx:ExtM (fun k=>k = J) u (u.setCell ⟨J,3,none⟩ r'):=ExtM.setCell (M:=fun k=>k = J) (ExtM.refl u) (p:=⟨J,3,none⟩) (.inr rfl) _;have hc:∀ o,o ≠ 3 -> (u.setCell ⟨J,3,none⟩ r').cell? ⟨J,o,none⟩ = u.cell? ⟨J,o,none⟩:=fun o ho=>World.cell?_setCell_other _ _ _ _ (by intro e;simp only [Addr.mk.injEq,and_true,true_and] at e;omega);have hf:∀ o,(u.setCell ⟨J,3,none⟩ r').frozen? ⟨J,o,none⟩ = false:=fun o=>(World.frozen?_setCell _ _ _ _).trans (h.fz o);exact ⟨⟨(hc 0 (by decide)).trans h.c0,(hc 1 (by decide)).trans h.c1,(hc 2 (by decide)).trans h.c2,⟨h.j0.hs,World.cell?_setCell_same _ _ _ h.j0.c3,(hc 8 (by decide)).trans h.j0.c8,hf,zak (zag hrow hx (fun k hk e=>hJ (e ▸ hk))) (Nat.zero_le _),hJ⟩,h.j1.other hx (hc 4 (by decide)) ((hc 8 (by decide)).trans h.j0.c8) hf,(hc 5 (by decide)).trans h.c5,(hc 6 (by decide)).trans h.c6,(hc 7 (by decide)).trans h.c7,hs⟩,hx⟩
theorem RIs.rows1 {u:World} {J b:Nat} {r0 r1 r':Value} {lo hi md:Int} {st:RSt} {L':List RHd} (h:RIs u J r0 r1 lo hi md st) (hrow:JRow u b r' L') (hJ:r'.ownBlock ≠ some J) (hs:∀ k,r'.ownBlock = some k -> r0.ownBlock ≠ some k) :
 RIs (u.setCell ⟨J,4,none⟩ r') J r0 r' lo hi md { st with b:=L' } /\ ExtM (fun k=>k = J) u (u.setCell ⟨J,4,none⟩ r'):=by
 have hx:ExtM (fun k=>k = J) u (u.setCell ⟨J,4,none⟩ r'):=ExtM.setCell (M:=fun k=>k = J) (ExtM.refl u) (p:=⟨J,4,none⟩) (.inr rfl) _;have hc:∀ o,o ≠ 4 -> (u.setCell ⟨J,4,none⟩ r').cell? ⟨J,o,none⟩ = u.cell? ⟨J,o,none⟩:=fun o ho=>World.cell?_setCell_other _ _ _ _ (by intro e;simp only [Addr.mk.injEq,and_true,true_and] at e;omega);have hf:∀ o,(u.setCell ⟨J,4,none⟩ r').frozen? ⟨J,o,none⟩ = false:=fun o=>(World.frozen?_setCell _ _ _ _).trans (h.fz o);exact ⟨⟨(hc 0 (by decide)).trans h.c0,(hc 1 (by decide)).trans h.c1,(hc 2 (by decide)).trans h.c2,h.j0.other hx (hc 3 (by decide)) ((hc 8 (by decide)).trans h.j0.c8) hf,⟨h.j1.hs,World.cell?_setCell_same _ _ _ h.j1.c3,(hc 8 (by decide)).trans h.j0.c8,hf,zak (zag hrow hx (fun k hk e=>hJ (e ▸ hk))) (Nat.zero_le _),hJ⟩,(hc 5 (by decide)).trans h.c5,(hc 6 (by decide)).trans h.c6,(hc 7 (by decide)).trans h.c7,fun k hk e=>hs k e hk⟩,hx⟩
theorem zcU (a b c:Int) (w:World) (h:a <= b /\ b <= c):Calls Tryz.prog 50 #[.int .i64 b,.int .i64 a,.int .i64 c] w fun e w'=>e = .returned (.bool true) /\ w = w' :=
 (zdC _ _ _ _).mono fun e w' hh=>⟨by rw [hh.1];simp [h],hh.2⟩
theorem zmM (a b c:Int) (w:World) (h:¬ (a <= b /\ b <= c)):Calls Tryz.prog 50 #[.int .i64 b,.int .i64 a,.int .i64 c] w fun e w'=>e = .returned (.bool false) /\ w = w' :=
 (zdC _ _ _ _).mono fun e w' hh=>⟨by rw [hh.1];simp [h],hh.2⟩
theorem zjg (J:Nat) (s t:Int) (u:World) (hs:s ≠ 0 /\ s ≠ 1) :
 Calls Tryz.prog 14 #[.pointer (some ⟨J,0,none⟩),.int .i64 s,.int .i64 t] u fun e u'=>e = .returned (.int .i64 1) /\ Ext u u':=by
 go_enter Tryz.func14,Tryz.ntmps14;go_wp2_with (go_at_call 50;refine (zmM _ _ _ _ (by omega)).mono ?_;rintro e w1 ⟨rfl,rfl⟩);go_ret;exact ⟨rfl,ExtM.refl _⟩
theorem _root_.Go.Plan.ExtM.trans' {a b c:World} (h:Ext a b) (k:Ext b c):Ext a c:=ExtM.trans _ _ _ h k
def za1 (L:List RHd):Prop:=∀ x ∈ L,-1099511627776 <= x.r.t /\ x.r.t <= 1099511627776
theorem box5 {wr w3:World} {X:RHd} (hx3:Ext (wr.alloc (.cells #[.int .i64 X.r.k,.int .i64 X.r.t,.int .i64 X.r.v,.int .i64 X.m,.int .i64 X.c] 118)) w3) (q:Nat) (u:Value) (h:X.cells[q]? = some u):w3.cell? ⟨wr.heap.size,q,none⟩ = some u :=
 (hx3.cell (p:=⟨wr.heap.size,q,none⟩) (by simp) (fun h=>h)).trans (newA wr X q u h)
theorem zmw (u:World) (J:Nat) (r0 r1:Value) (lo hi md:Int) (st:RSt) (h:RIs u J r0 r1 lo hi md st) (hp:zay lo hi) (t:Int) (hl:st.b.length < 100000) (ht:za1 st.b) :
 Calls Tryz.prog 14 #[.pointer (some ⟨J,0,none⟩),.int .i64 0,.int .i64 t] u fun e u'=>e = .returned (.int .i64 (zpG 0 t st.x st.y)) /\ RUp u u' J (zaO J r0 r1) lo hi md (if zpG 0 t st.x st.y = 0 then zbS lo hi 0 t st else st):=by
 have hmv:zpG 0 t st.x st.y = if t < -1099511627776 \/ 1099511627776 < t then 2 else if t < st.x then 10 else 0:=by unfold zpG;rw [if_neg (by decide)];rfl
 have hsame:RUp u u J (zaO J r0 r1) lo hi md st:=RUp.same ⟨r0,r1,h,rfl⟩ (ExtM.refl _);have c5:=h.c5;by_cases hr:-1099511627776 <= t /\ t <= 1099511627776
 . have HR:=Lib.hid hr;rw [hmv,if_neg (by omega)];clear hmv;by_cases hlt:t < st.x
   . have d:decide (t < st.x) = true:=by simp [hlt]
     rw [if_pos hlt,if_neg (by decide)];clear hr hlt;go_enter Tryz.func14,Tryz.ntmps14;go_upto_region 3 with (go_at_call 50;refine (zcU _ _ _ _ (by decide)).mono ?_;rintro e w1 ⟨rfl,rfl⟩)
     go_wp2_with (go_at_call 50;refine (zcU _ _ _ _ HR.out).mono ?_;rintro e w1 ⟨rfl,rfl⟩);go_ret;exact ⟨rfl,hsame⟩
   . have d:decide (t < st.x) = false:=by simp;omega
     rw [if_neg hlt,if_pos rfl];obtain ⟨h1,hx1⟩:=h.mark 0 (by omega) t;have f5:=h.fz 5;have HH:=Lib.hid h;clear hr hlt hsame h;go_enter Tryz.func14,Tryz.ntmps14;go_upto_region 3 with (go_at_call 50;refine (zcU _ _ _ _ (by decide)).mono ?_;rintro e w1 ⟨rfl,rfl⟩)
     go_upto_region 8 with (go_at_call 50;refine (zcU _ _ _ _ HR.out).mono ?_;rintro e w1 ⟨rfl,rfl⟩)
     simp only [if_true,Nat.reduceAdd] at h1 hx1;have hxsz:u.heap.size = (u.setCell ⟨J,5,none⟩ (.int .i64 t)).heap.size:=by simp
     generalize u.setCell ⟨J,5,none⟩ (.int .i64 t) = W at *;have hrow:=h1.j1.row;have crow:=h1.j1.c3;have c0:=h1.c0;have c1:=h1.c1;have lJ:=h1.lt;simp only [Nat.reduceAdd] at crow hrow;obtain ⟨p0,cap0,hr1,-⟩:=zaa hrow;rw [hr1] at crow hrow;generalize hL:st.b = L at *;have HL:=Lib.hid hL;clear hL;go_wp2_with fail;go_loopg [8,42] (L.length + 1) (fun kx s8 s42 wr=>∃ i:Nat,s42 = .int .i64 i /\ i <= L.length /\ L.length - i <= kx /\ Ext W wr /\ JRow wr W.heap.size s8 ((L.take i).filter (fun x=>decide (tilI lo hi 1 x.r.t > t))))
     case atStart=>exact ⟨0,rfl,by omega,by omega,ExtM.refl _,⟨rfl,.inl ⟨rfl,rfl⟩⟩⟩
     case round =>
      obtain ⟨i,rfl,hi',hgk,hx,hout⟩:=hrel;by_cases hil:i < L.length
      . obtain ⟨g,rc,e',hg,x0,x1,x2,x3,x4⟩:=zbh (hrow.extF hx) i hil;simp only [Value.slice.injEq,true_and] at e';obtain ⟨rfl,rfl⟩:=e';have hXt:=ht L[i]! (by rw [getElem!_pos L i hil];exact List.getElem_mem hil);have htk:L.take (i + 1) = L.take i ++ [L[i]!]:=by rw [List.take_succ_eq_append_getElem hil,getElem!_pos L i hil]
        have HTK:=Lib.hid htk;clear htk;have hlk:((L.take i).filter (fun x=>decide (tilI lo hi 1 x.r.t > t))).length < 1000000:=Nat.lt_of_le_of_lt (List.length_filter_le _ _) (by simp;omega);generalize L[i]! = X at *;have c0':=(hx.cell (p:=⟨J,0,none⟩) lJ (fun h=>h)).trans c0;have c1':=(hx.cell (p:=⟨J,1,none⟩) lJ (fun h=>h)).trans c1;have lJ':J < wr.heap.size:=Nat.lt_of_lt_of_le lJ hx.size;by_cases hk:tilI lo hi 1 X.r.t > t
        . have dk:decide (t < tilI lo hi 1 X.r.t) = true:=by simp;omega
          have HK:Hid (decide (tilI lo hi 1 X.r.t > t) = true):=Lib.hid dk;clear hk
          go_wp2_with (first
           | (go_at_call 51
              refine (ziK J lo hi _ 1 _ (by omega) hp hXt (by go_simp) (by go_simp)).mono ?_;rintro e w3 ⟨rfl,hx3⟩;have y0:=box5 hx3 0 _ rfl;have y1:=box5 hx3 1 _ rfl;have y2:=box5 hx3 2 _ rfl;have y3:=box5 hx3 3 _ rfl;have y4:=box5 hx3 4 _ rfl;have hx3w:Ext W w3:=ExtM.trans _ _ _ (hx.alloc _) hx3;obtain ⟨v',w',happ,hown',hgr',-⟩:=zbu (w3.alloc (.cells #[.int .i64 X.r.k,.int .i64 X.r.t,.int .i64 X.r.v,.int .i64 X.m,.int .i64 X.c] 118)) W.heap.size w3.heap.size 1 u8 _ X 62 (hout.extF (((ExtM.refl wr).alloc _).trans' (hx3.alloc _))) (newA w3 X) hlk (by have:=hx3w.size;simp;omega);have hx':Ext W w':=(hx3w.alloc (.cells #[.int .i64 X.r.k,.int .i64 X.r.t,.int .i64 X.r.v,.int .i64 X.m,.int .i64 X.c] 118)).fresh hgr' (fun k hk e=>by have:=(zaf hout k e).1;omega);have HX:=Lib.hid hx';have HOW:=Lib.hid hown'
              clear hx' hown' hgr')
           | (at_builtin;refine wpList_append_run happ rfl rfl _ _ rfl rfl rfl ?_;clear happ))
          go_roundg (L.length - (i + 1))
          case measure=>omega
          case rel=>exact ⟨i + 1,by go_num,by omega,Nat.le_refl _,HX.out,by rw [HTK.out,List.filter_append,List.filter_cons,HK.out,if_pos rfl,List.filter_nil];exact HOW.out⟩
        . have dk:decide (t < tilI lo hi 1 X.r.t) = false:=by simp;omega
          have HK:Hid (decide (tilI lo hi 1 X.r.t > t) = false):=Lib.hid dk;clear hk
          go_wp2_with (
           go_at_call 51;refine (ziK J lo hi _ 1 _ (by omega) hp hXt (by go_simp) (by go_simp)).mono ?_;rintro e w3 ⟨rfl,hx3⟩
           have hx3w:Ext W w3:=ExtM.trans _ _ _ (hx.alloc _) hx3)
          go_roundg (L.length - (i + 1))
          case measure=>omega
          case rel=>exact ⟨i + 1,by go_num,by omega,Nat.le_refl _,hx3w,by rw [HTK.out,List.filter_append,List.filter_cons,HK.out,if_neg (by decide),List.filter_nil,List.append_nil];exact hout.extF (((ExtM.refl wr).alloc _).trans' hx3)⟩
      . obtain rfl:i = L.length:=by omega
        rw [List.take_length] at hout;have h2:=h1.ext hx;have lJ':J < wr.heap.size:=h2.lt;have cw:=h2.j1.c3;have fw:=h2.fz (1 + 3);simp only [Nat.reduceAdd] at cw fw;have hge:∀ k,u8.ownBlock = some k -> W.heap.size <= k:=fun k hk=>(zaf hout k hk).1;obtain ⟨pu,cu,rfl⟩:=hout.slice;have hlen:=L.length_filter_le (fun x=>decide (tilI lo hi 1 x.r.t > t));have HLe:=Lib.hid hlen;have hsJ:=h2.foot J (.inl rfl);obtain ⟨h3,hx2⟩:=h2.rows1 hout (fun e=>by have:=hge _ e;omega) (fun k e1 e2=>by have:=hge _ e1;have:=HH.out.foot k (.inr (.inl e2));omega);clear hrow crow hil hi' hgk hlen hout h2;generalize (L.filter (fun x=>decide (tilI lo hi 1 x.r.t > t))).length = n at *;go_wp2_with fail;go_ret;have hL':=HL.out;subst hL';refine ⟨rfl,((hx1.fresh' hx (fun _ _ h=>h.elim)).fresh' hx2 (fun _ _ h=>h)).mono (fun k _ hk=>.inl hk),_,⟨_,_,h3,rfl⟩,fun k hk=>?_⟩;rcases hk with hk | hk | hk
        . exact .inl (.inl hk)
        . exact .inl (.inr (.inl hk))
        . exact .inr (Nat.le_trans (Nat.le_of_eq hxsz) (hge k hk))
 . rw [hmv,if_pos (by omega),if_neg (by decide)];have HR:=Lib.hid hr;clear hr hmv;go_enter Tryz.func14,Tryz.ntmps14;go_upto_region 3 with (go_at_call 50;refine (zcU _ _ _ _ (by decide)).mono ?_;rintro e w1 ⟨rfl,rfl⟩)
   go_wp2_with (go_at_call 50;refine (zmM _ _ _ _ HR.out).mono ?_;rintro e w1 ⟨rfl,rfl⟩);go_ret;exact ⟨rfl,hsame⟩
theorem zmA (u:World) (J:Nat) (r0 r1:Value) (lo hi md:Int) (st:RSt) (h:RIs u J r0 r1 lo hi md st) (hp:zay lo hi) (t:Int) (hl:st.a.length < 100000) (ht:za1 st.a) :
 Calls Tryz.prog 14 #[.pointer (some ⟨J,0,none⟩),.int .i64 1,.int .i64 t] u fun e u'=>e = .returned (.int .i64 (zpG 1 t st.x st.y)) /\ RUp u u' J (zaO J r0 r1) lo hi md (if zpG 1 t st.x st.y = 0 then zbS lo hi 1 t st else st):=by
 have hmv:zpG 1 t st.x st.y = if t < -1099511627776 \/ 1099511627776 < t then 2 else if t < st.y then 10 else 0:=by unfold zpG;rw [if_neg (by decide)];rfl
 have hsame:RUp u u J (zaO J r0 r1) lo hi md st:=RUp.same ⟨r0,r1,h,rfl⟩ (ExtM.refl _);have c6:=h.c6;by_cases hr:-1099511627776 <= t /\ t <= 1099511627776
 . have HR:=Lib.hid hr;rw [hmv,if_neg (by omega)];clear hmv;by_cases hlt:t < st.y
   . have d:decide (t < st.y) = true:=by simp [hlt]
     rw [if_pos hlt,if_neg (by decide)];clear hr hlt;go_enter Tryz.func14,Tryz.ntmps14;go_upto_region 3 with (go_at_call 50;refine (zcU _ _ _ _ (by decide)).mono ?_;rintro e w1 ⟨rfl,rfl⟩)
     go_wp2_with (go_at_call 50;refine (zcU _ _ _ _ HR.out).mono ?_;rintro e w1 ⟨rfl,rfl⟩);go_ret;exact ⟨rfl,hsame⟩
   . have d:decide (t < st.y) = false:=by simp;omega
     rw [if_neg hlt,if_pos rfl];obtain ⟨h1,hx1⟩:=h.mark 1 (by omega) t;have f6:=h.fz 6;have HH:=Lib.hid h;clear hr hlt hsame h;go_enter Tryz.func14,Tryz.ntmps14;go_upto_region 3 with (go_at_call 50;refine (zcU _ _ _ _ (by decide)).mono ?_;rintro e w1 ⟨rfl,rfl⟩)
     go_upto_region 8 with (go_at_call 50;refine (zcU _ _ _ _ HR.out).mono ?_;rintro e w1 ⟨rfl,rfl⟩)
     simp only [if_neg (show ¬ (1:Nat) = 0 by decide),Nat.reduceAdd] at h1 hx1;have hxsz:u.heap.size = (u.setCell ⟨J,6,none⟩ (.int .i64 t)).heap.size:=by simp
     generalize u.setCell ⟨J,6,none⟩ (.int .i64 t) = W at *;have hrow:=h1.j0.row;have crow:=h1.j0.c3;have c0:=h1.c0;have c1:=h1.c1;have lJ:=h1.lt;simp only [Nat.reduceAdd] at crow hrow;obtain ⟨p0,cap0,hr0,-⟩:=zaa hrow;rw [hr0] at crow hrow;generalize hL:st.a = L at *;have HL:=Lib.hid hL;clear hL;go_wp2_with fail;go_loopg [8,42] (L.length + 1) (fun kx s8 s42 wr=>∃ i:Nat,s42 = .int .i64 i /\ i <= L.length /\ L.length - i <= kx /\ Ext W wr /\ JRow wr W.heap.size s8 ((L.take i).filter (fun x=>decide (tilI lo hi 0 x.r.t > t))))
     case atStart=>exact ⟨0,rfl,by omega,by omega,ExtM.refl _,⟨rfl,.inl ⟨rfl,rfl⟩⟩⟩
     case round =>
      obtain ⟨i,rfl,hi',hgk,hx,hout⟩:=hrel;by_cases hil:i < L.length
      . obtain ⟨g,rc,e',hg,x0,x1,x2,x3,x4⟩:=zbh (hrow.extF hx) i hil;simp only [Value.slice.injEq,true_and] at e';obtain ⟨rfl,rfl⟩:=e';have hXt:=ht L[i]! (by rw [getElem!_pos L i hil];exact List.getElem_mem hil);have htk:L.take (i + 1) = L.take i ++ [L[i]!]:=by rw [List.take_succ_eq_append_getElem hil,getElem!_pos L i hil]
        have HTK:=Lib.hid htk;clear htk;have hlk:((L.take i).filter (fun x=>decide (tilI lo hi 0 x.r.t > t))).length < 1000000:=Nat.lt_of_le_of_lt (List.length_filter_le _ _) (by simp;omega);generalize L[i]! = X at *;have c0':=(hx.cell (p:=⟨J,0,none⟩) lJ (fun h=>h)).trans c0;have c1':=(hx.cell (p:=⟨J,1,none⟩) lJ (fun h=>h)).trans c1;have lJ':J < wr.heap.size:=Nat.lt_of_lt_of_le lJ hx.size;by_cases hk:tilI lo hi 0 X.r.t > t
        . have dk:decide (t < tilI lo hi 0 X.r.t) = true:=by simp;omega
          have HK:Hid (decide (tilI lo hi 0 X.r.t > t) = true):=Lib.hid dk;clear hk
          go_wp2_with (first
           | (go_at_call 51
              refine (ziK J lo hi _ 0 _ (by omega) hp hXt (by go_simp) (by go_simp)).mono ?_;rintro e w3 ⟨rfl,hx3⟩;have y0:=box5 hx3 0 _ rfl;have y1:=box5 hx3 1 _ rfl;have y2:=box5 hx3 2 _ rfl;have y3:=box5 hx3 3 _ rfl;have y4:=box5 hx3 4 _ rfl;have hx3w:Ext W w3:=ExtM.trans _ _ _ (hx.alloc _) hx3;obtain ⟨v',w',happ,hown',hgr',-⟩:=zbu (w3.alloc (.cells #[.int .i64 X.r.k,.int .i64 X.r.t,.int .i64 X.r.v,.int .i64 X.m,.int .i64 X.c] 118)) W.heap.size w3.heap.size 1 u8 _ X 62 (hout.extF (((ExtM.refl wr).alloc _).trans' (hx3.alloc _))) (newA w3 X) hlk (by have:=hx3w.size;simp;omega);have hx':Ext W w':=(hx3w.alloc (.cells #[.int .i64 X.r.k,.int .i64 X.r.t,.int .i64 X.r.v,.int .i64 X.m,.int .i64 X.c] 118)).fresh hgr' (fun k hk e=>by have:=(zaf hout k e).1;omega);have HX:=Lib.hid hx';have HOW:=Lib.hid hown'
              clear hx' hown' hgr')
           | (at_builtin;refine wpList_append_run happ rfl rfl _ _ rfl rfl rfl ?_;clear happ))
          go_roundg (L.length - (i + 1))
          case measure=>omega
          case rel=>exact ⟨i + 1,by go_num,by omega,Nat.le_refl _,HX.out,by rw [HTK.out,List.filter_append,List.filter_cons,HK.out,if_pos rfl,List.filter_nil];exact HOW.out⟩
        . have dk:decide (t < tilI lo hi 0 X.r.t) = false:=by simp;omega
          have HK:Hid (decide (tilI lo hi 0 X.r.t > t) = false):=Lib.hid dk;clear hk
          go_wp2_with (
           go_at_call 51;refine (ziK J lo hi _ 0 _ (by omega) hp hXt (by go_simp) (by go_simp)).mono ?_;rintro e w3 ⟨rfl,hx3⟩
           have hx3w:Ext W w3:=ExtM.trans _ _ _ (hx.alloc _) hx3)
          go_roundg (L.length - (i + 1))
          case measure=>omega
          case rel=>exact ⟨i + 1,by go_num,by omega,Nat.le_refl _,hx3w,by rw [HTK.out,List.filter_append,List.filter_cons,HK.out,if_neg (by decide),List.filter_nil,List.append_nil];exact hout.extF (((ExtM.refl wr).alloc _).trans' hx3)⟩
      . obtain rfl:i = L.length:=by omega
        rw [List.take_length] at hout;have h2:=h1.ext hx;have lJ':J < wr.heap.size:=h2.lt;have cw:=h2.j0.c3;have fw:=h2.fz (0 + 3);simp only [Nat.reduceAdd] at cw fw;have hge:∀ k,u8.ownBlock = some k -> W.heap.size <= k:=fun k hk=>(zaf hout k hk).1;obtain ⟨pu,cu,rfl⟩:=hout.slice;have hlen:=L.length_filter_le (fun x=>decide (tilI lo hi 0 x.r.t > t));have HLe:=Lib.hid hlen;have hsJ:=h2.foot J (.inl rfl);obtain ⟨h3,hx2⟩:=h2.rows0 hout (fun e=>by have:=hge _ e;omega) (fun k e1 e2=>by have:=hge _ e1;have:=HH.out.foot k (.inr (.inr e2));omega);clear hrow crow hil hi' hgk hlen hout h2;generalize (L.filter (fun x=>decide (tilI lo hi 0 x.r.t > t))).length = n at *;go_wp2_with fail;go_ret;have hL':=HL.out;subst hL';refine ⟨rfl,((hx1.fresh' hx (fun _ _ h=>h.elim)).fresh' hx2 (fun _ _ h=>h)).mono (fun k _ hk=>.inl hk),_,⟨_,_,h3,rfl⟩,fun k hk=>?_⟩;rcases hk with hk | hk | hk
        . exact .inl (.inl hk)
        . exact .inr (Nat.le_trans (Nat.le_of_eq hxsz) (hge k hk))
        . exact .inl (.inr (.inr hk))
 . rw [hmv,if_pos (by omega),if_neg (by decide)];have HR:=Lib.hid hr;clear hr hmv;go_enter Tryz.func14,Tryz.ntmps14;go_upto_region 3 with (go_at_call 50;refine (zcU _ _ _ _ (by decide)).mono ?_;rintro e w1 ⟨rfl,rfl⟩)
   go_wp2_with (go_at_call 50;refine (zmM _ _ _ _ HR.out).mono ?_;rintro e w1 ⟨rfl,rfl⟩);go_ret;exact ⟨rfl,hsame⟩
theorem ziH (k t v:Int) (w:World):Calls Tryz.prog 34 #[.int .i64 0,.agg #[.int .i64 k,.int .i64 t,.int .i64 v]] w fun e w'=>e = .returned (.agg #[.int .i64 k,.int .i64 k,.int .i64 t,.int .i64 v,.int .i64 0,.int .i64 0,.int .i64 0,.bool true,.bool false]) /\ Ext w w':=by
 have:=zkl 0 k t v w
 rwa [if_pos rfl] at this
theorem zhM (k t v:Int) (w:World):Calls Tryz.prog 34 #[.int .i64 1,.agg #[.int .i64 k,.int .i64 t,.int .i64 v]] w fun e w'=>e = .returned (.agg #[.int .i64 k,.int .i64 0,.int .i64 0,.int .i64 0,.int .i64 k,.int .i64 t,.int .i64 v,.bool false,.bool true]) /\ Ext w w':=by
 have:=zkl 1 k t v w
 rwa [if_neg (by decide)] at this
theorem znd (a b c:Int) (w:World) (h:a <= b /\ b <= c):Calls Tryz.prog 50 #[.int .i64 b,.int .i64 a,.int .i64 c] w fun e w'=>e = .returned (.bool true) /\ Ext w w' :=
 (zcU a b c w h).mono fun _ _ hh=>⟨hh.1,hh.2 ▸ ExtM.refl _⟩
theorem znk (a b c:Int) (w:World) (h:¬ (a <= b /\ b <= c)):Calls Tryz.prog 50 #[.int .i64 b,.int .i64 a,.int .i64 c] w fun e w'=>e = .returned (.bool false) /\ Ext w w' :=
 (zmM a b c w h).mono fun _ _ hh=>⟨hh.1,hh.2 ▸ ExtM.refl _⟩
def zcs (u:World) (J:Nat) (r0 r1:Value) (lo hi md:Int) (s:Nat) (r:Row) (st:RSt) (e:Ending) (u':World):Prop :=
 ∃ (vo:Value) (R:List RHd),e = .returned (.tuple #[vo,.int .i64 (feedE lo hi s r st.x st.y (st.of s).length)]) /\
   CRow u' u.heap.size vo (if feedE lo hi s r st.x st.y (st.of s).length = 0 then chgs md s r ((R.map RHd.hd).filter (zab r.k (frI lo hi s r.t) (tilI lo hi s r.t))) else []) /\
   (feedE lo hi s r st.x st.y (st.of s).length = 0 -> R.Perm (st.of (1 - s)) /\ R.Pairwise (fun a b=>¬ ltR b a)) /\ RUp u u' J (zaO J r0 r1) lo hi md (za4 lo hi s r st)
theorem zdg {u u':World} {J:Nat} {r0 r1:Value} {lo hi md:Int} {s:Nat} {r:Row} {st:RSt} (h:RIs u J r0 r1 lo hi md st) (hx:Ext u u') (e:Int) (hE:feedE lo hi s r st.x st.y (st.of s).length = e) (h0:e ≠ 0) (h10:e ≠ 10) :
 zcs u J r0 r1 lo hi md s r st (.returned (.tuple #[.slice none 0 0,.int .i64 e])) u':=by
 refine ⟨.slice none 0 0,[],by rw [hE],?_,fun q=>absurd (hE.symm.trans q) h0,?_⟩
 . rw [hE,if_neg h0];exact nilC _ _
 . unfold za4;simp only [hE,if_neg h0,if_neg h10];exact RUp.same ⟨r0,r1,h,rfl⟩ hx
theorem zeD {u u':World} {J:Nat} {r0 r1:Value} {lo hi md:Int} {s:Nat} {r:Row} {st:RSt} (h:RIs u J r0 r1 lo hi md st) (hx:Ext u u') (hE:feedE lo hi s r st.x st.y (st.of s).length = 10) :
 zcs u J r0 r1 lo hi md s r st (.returned (.tuple #[.slice none 0 0,.int .i64 10])) (u'.setCell ⟨J,7,none⟩ (.int .i64 (wrap64 (st.late + 1)))):=by
 obtain ⟨h1,h2⟩:=(h.ext hx).late (wrap64 (st.late + 1));refine ⟨.slice none 0 0,[],by rw [hE],?_,fun q=>absurd (hE.symm.trans q) (by decide),?_⟩
 . rw [hE,if_neg (by decide)];exact nilC _ _
 . unfold za4;simp only [hE,if_pos];exact ⟨(hx.mono (fun _ _ h=>h.elim):ExtM (fun k=>k = J) u u').fresh' h2 (fun _ _ h=>h) |>.mono (fun k _ e=>.inl e),_,⟨r0,r1,h1,rfl⟩,fun k hk=>.inl hk⟩
def zbv (p:Hd -> Bool) (L:List RHd) (is:List Nat):List RHd:=(is.map (fun q=>L[q]!)).filter (fun x=>p x.hd)
theorem zkS {p:Hd -> Bool} {L:List RHd} {is:List Nat} {q:Nat} (h:p L[q]!.hd = true):zbv p L (is ++ [q]) = zbv p L is ++ [L[q]!]:=by
 unfold zbv;rw [List.map_append,List.filter_append,List.map_singleton,List.filter_cons,if_pos h,List.filter_nil]
theorem zjH {p:Hd -> Bool} {L:List RHd} {is:List Nat} {q:Nat} (h:p L[q]!.hd = false):zbv p L (is ++ [q]) = zbv p L is:=by
 unfold zbv;rw [List.map_append,List.filter_append,List.map_singleton,List.filter_cons,if_neg (by rw [h];decide),List.filter_nil,List.append_nil]
theorem zgQ (p:Hd -> Bool) (L:List RHd) (is:List Nat):(zbv p L is).length <= is.length:=by
 unfold zbv;exact Nat.le_trans (List.length_filter_le _ _) (by simp)
theorem zez {L:List RHd} {is:List Nat} (h:zfj L is) (hl:is.length = L.length) (i:Nat) (hi:i < L.length):is.take (i + 1) = is.take i ++ [is[i]!] /\ is[i]! < L.length /\ is[i]! ∉ is.take i:=by
 have hil:i < is.length:=by omega
 have htk:is.take (i + 1) = is.take i ++ [is[i]!]:=by rw [List.take_succ_eq_append_getElem hil,getElem!_pos is i hil]
 refine ⟨htk,?_,?_⟩
 . have:is[i] ∈ List.range L.length:=h.1.mem_iff.1 (List.getElem_mem hil);rw [getElem!_pos is i hil];simpa using this
 . have hn:is.Nodup:=h.1.nodup_iff.2 List.nodup_range;have hn2:(is.take (i + 1)).Nodup:=hn.sublist (List.take_sublist _ _);rw [htk] at hn2;intro hm;exact (List.nodup_append.1 hn2).2.2 _ hm _ (List.mem_singleton.2 rfl) rfl
theorem zkV {w:World} {b:Nat} {v:Value} {L:List RHd} (h:JRow w b v L) (q:Nat) (X:RHd) (hX:L[q]? = some X) :
 ∃ g rc,v = .slice (some ⟨g,0,none⟩) L.length rc /\ g < w.heap.size /\ w.cell? ⟨g,q * 5,none⟩ = some (.int .i64 X.r.k) /\ w.cell? ⟨g,q * 5 + 1,none⟩ = some (.int .i64 X.r.t) /\ w.cell? ⟨g,q * 5 + 2,none⟩ = some (.int .i64 X.r.v) /\ w.cell? ⟨g,q * 5 + 3,none⟩ = some (.int .i64 X.m) /\ w.cell? ⟨g,q * 5 + 4,none⟩ = some (.int .i64 X.c):=by
 obtain ⟨hq,rfl⟩:=List.getElem?_eq_some_iff.1 hX
 have:=zbh (zak h (Nat.zero_le _)) q hq
 rw [getElem!_pos L q hq] at this;exact this
theorem zj5 (p:Hd -> Bool) (L:List RHd) (is:List Nat):(zbv p L is).map RHd.hd = ((is.map (fun q=>L[q]!)).map RHd.hd).filter p:=by
 unfold zbv;generalize is.map (fun q=>L[q]!) = R;exact (List.filter_map (f:=RHd.hd) (p:=p) (l:=R)).symm
theorem ze0 {L:List RHd} {is:List Nat} (h:zfj L is) (p:Hd -> Bool):(is.map (fun q=>L[q]!)).Perm L /\ (is.map (fun q=>L[q]!)).Pairwise (fun a b=>¬ ltR b a) /\ (zbv p L is).map RHd.hd = ((is.map (fun q=>L[q]!)).map RHd.hd).filter p:=by
 refine ⟨?_,h.2,zj5 _ _ _⟩
 have:=h.1.map (fun i=>L[i]!)
 rwa [zg2] at this
theorem zd7 {R L:List RHd} (h:R.Perm L) (p:Hd -> Bool):((R.map RHd.hd).filter p).length = (L.filter (fun x=>p x.hd)).length:=by
 rw [List.filter_map,List.length_map];exact (h.filter (p ∘ RHd.hd)).length_eq
theorem zdG {u w7:World} {J s base:Nat} {r0 r1 v:Value} {lo hi md:Int} {r:Row} {st:RSt} {R:List RHd} {ms:List Hd} (hE:feedE lo hi s r st.x st.y (st.of s).length = 0) (hR1:R.Perm (st.of (1 - s))) (hR2:R.Pairwise (fun a b=>¬ ltR b a))
 (hms:(R.map RHd.hd).filter (zab r.k (frI lo hi s r.t) (tilI lo hi s r.t)) = ms) (hrow:CRow w7 base v (chgs md s r ms)) (hb:u.heap.size <= base) (hU:RUp u w7 J (zaO J r0 r1) lo hi md (za4 lo hi s r st)) :
 zcs u J r0 r1 lo hi md s r st (.returned (.tuple #[v,.int .i64 0])) w7 :=
 ⟨v,R,by rw [hE],by rw [if_pos hE,hms];exact zak hrow hb,fun _=>⟨hR1,hR2⟩,hU⟩
theorem zeJ {lo hi:Int} {r:Row} {st:RSt} (hE:feedE lo hi 0 r st.x st.y (st.of 0).length = 0) (hb:¬ tilI lo hi 0 r.t > st.y):za4 lo hi 0 r st = { st with b:=st.b.map (bumpQ (zab r.k (frI lo hi 0 r.t) (tilI lo hi 0 r.t))) }:=by
 unfold za4;simp only [hE];rw [if_neg (by decide),if_pos trivial];exact if_neg hb
theorem zej {lo hi:Int} {r:Row} {st:RSt} (hE:feedE lo hi 0 r st.x st.y (st.of 0).length = 0) (hb:tilI lo hi 0 r.t > st.y) :
 za4 lo hi 0 r st = { st with a:=st.a ++ [⟨r,((st.b.filter (fun x=>zab r.k (frI lo hi 0 r.t) (tilI lo hi 0 r.t) x.hd)).length:Nat),st.came + 1⟩],b:=st.b.map (bumpQ (zab r.k (frI lo hi 0 r.t) (tilI lo hi 0 r.t))),came:=st.came + 1 }:=by
 unfold za4;simp only [hE];rw [if_neg (by decide),if_pos trivial];exact if_pos hb
theorem zeE {lo hi:Int} {r:Row} {st:RSt} (hE:feedE lo hi 1 r st.x st.y (st.of 1).length = 0) (hb:¬ tilI lo hi 1 r.t > st.x):za4 lo hi 1 r st = { st with a:=st.a.map (bumpQ (zab r.k (frI lo hi 1 r.t) (tilI lo hi 1 r.t))) }:=by
 unfold za4;simp only [hE];rw [if_neg (by decide),if_pos trivial];exact if_neg hb
theorem zef {lo hi:Int} {r:Row} {st:RSt} (hE:feedE lo hi 1 r st.x st.y (st.of 1).length = 0) (hb:tilI lo hi 1 r.t > st.x) :
 za4 lo hi 1 r st = { st with b:=st.b ++ [⟨r,((st.a.filter (fun x=>zab r.k (frI lo hi 1 r.t) (tilI lo hi 1 r.t) x.hd)).length:Nat),st.came + 1⟩],a:=st.a.map (bumpQ (zab r.k (frI lo hi 1 r.t) (tilI lo hi 1 r.t))),came:=st.came + 1 }:=by
 unfold za4;simp only [hE];rw [if_neg (by decide),if_pos trivial];exact if_pos hb
theorem znh (J s:Nat) (v:Value) (L:List RHd) (came k t q m:Int) (w:World) (h:RJ w J s v L came) (hl:L.length < 1000) (hc:0 <= came /\ came < 1000000) :
 Calls Tryz.prog 78 #[.pointer (some ⟨J,0,none⟩),.int .i64 (s:Int),.agg #[.int .i64 k,.int .i64 t,.int .i64 q],.int .i64 m] w fun e w'=>e = .returned (.tuple #[]) /\ RJUp w w' J s v (L ++ [⟨⟨k,t,q⟩,m,came + 1⟩]) (came + 1) :=
 (zpC J s v L came k t q m w h hl hc).mono fun _ _ ⟨h1,h2,v',h3,h4,h5⟩=>⟨h1,⟨⟨v',h3,.inr h4⟩,h2,h5⟩⟩
theorem outC {wc w9:World} {B:Nat} {l0:List Value} (o:Out) (hx:Ext wc w9) (hB:B < wc.heap.size) (hl:l0.length = 9) (hn:∀ j v,l0[j]? = some v -> wc.cell? ⟨B,j,none⟩ = some v) :
 ExtM (fun k=>k = B) wc (zdl w9 B 0 (outL o)) /\ ∀ j v,(outL o)[j]? = some v -> (zdl w9 B 0 (outL o)).cell? ⟨B,j,none⟩ = some v:=by
 refine ⟨ExtM.fresh' (hx.mono (fun _ _ h=>h.elim)) (zcE B (outL o) 0 w9) (fun _ _ h=>h),fun j v hj=>?_⟩
 have:=zcf B (outL o) 0 w9 (fun q hq=>?_) j v hj
 . rwa [Nat.zero_add] at this
 . have hq':q < l0.length:=by rw [hl];exact hq
   refine ⟨l0[q],?_⟩;rw [Nat.zero_add];exact (hx.cell (p:=⟨B,q,none⟩) hB (fun h=>h)).trans (hn q _ (List.getElem?_eq_getElem hq'))
theorem zlN (u:World) (J:Nat) (r0 r1:Value) (lo hi md:Int) (st:RSt) (rk rt rv:Int) (h:RIs u J r0 r1 lo hi md st) (hp:zay lo hi) (hl0:st.a.length <= 300) (hl1:st.b.length <= 300) (hcm:0 <= st.came /\ st.came < 1000000) :
 Calls Tryz.prog 42 #[.pointer (some ⟨J,0,none⟩),.int .i64 1,.agg #[.int .i64 rk,.int .i64 rt,.int .i64 rv]] u (zcs u J r0 r1 lo hi md 1 ⟨rk,rt,rv⟩ st):=by
 have hxb:Ext u (u.alloc (.cells #[.int .i64 rk,.int .i64 rt,.int .i64 rv] 37)):=(ExtM.refl u).alloc _;have lJ:=h.lt;have hgd:=fun w=>zlk rk rt rv w;obtain ⟨q0,a0,rfl⟩:=h.j0.row.slice;obtain ⟨q1,a1,rfl⟩:=h.j1.row.slice;cases hg:za3 rk rt rv with
 | false =>
   rw [hg] at hgd;go_enter Tryz.func42,Tryz.ntmps42
   go_wp2_with (first
    | (go_at_call 50;refine (zcU _ _ _ _ (by decide)).mono ?_;rintro e w1 ⟨rfl,rfl⟩)
    | (go_at_call 36;refine (hgd _).mono ?_;rintro e w1 ⟨rfl,hx1⟩))
   go_ret2;exact zdg h (ExtM.trans _ _ _ hxb hx1) 1 (by unfold feedE;rw [if_pos hg]) (by decide) (by decide)
 | true =>
   rw [hg] at hgd;have hb1:(u.alloc (.cells #[.int .i64 rk,.int .i64 rt,.int .i64 rv] 37)).cell? ⟨u.heap.size,1,none⟩ = some (.int .i64 rt):=by go_simp
   have hb0:(u.alloc (.cells #[.int .i64 rk,.int .i64 rt,.int .i64 rv] 37)).cell? ⟨u.heap.size,0,none⟩ = some (.int .i64 rk):=by go_simp
   have hb2:(u.alloc (.cells #[.int .i64 rk,.int .i64 rt,.int .i64 rv] 37)).cell? ⟨u.heap.size,2,none⟩ = some (.int .i64 rv):=by go_simp
   have lB:u.heap.size < (u.alloc (.cells #[.int .i64 rk,.int .i64 rt,.int .i64 rv] 37)).heap.size:=by simp
   go_enter Tryz.func42,Tryz.ntmps42
   go_upto_region 3 with (first
    | (go_at_call 50;refine (zcU _ _ _ _ (by decide)).mono ?_;rintro e w1 ⟨rfl,rfl⟩)
    | (go_at_call 36;refine (hgd _).mono ?_;rintro e w1 ⟨rfl,hx1⟩))
   have hX1:=ExtM.trans _ _ _ hxb hx1;have h1:=h.ext hX1;have k:=fun q=>hx1.cell (p:=⟨u.heap.size,q,none⟩) lB (fun h=>h);have e0:=(k _).trans hb0;have e1:=(k _).trans hb1;have e2:=(k _).trans hb2;have lB1:u.heap.size < w1.heap.size:=Nat.lt_of_lt_of_le lB hx1.size;have lJ1:=h1.lt;have c0:=h1.c0;have c1:=h1.c1;have c5:=h1.c5;have c6:=h1.c6;have c7:=h1.c7;have f7:=h1.fz 7;clear k hb0 hb1 hb2 lB hxb hx1;by_cases hlate:rt <= st.y
   . have hE:feedE lo hi 1 ⟨rk,rt,rv⟩ st.x st.y (st.of 1).length = 10:=by rw [zcZ hg,if_pos hlate]
     have d:decide (rt <= st.y) = true:=by simp [hlate]
     clear hlate;go_quiet (fail);go_wp2_with fail;go_ret2;exact zeD h (hX1.drewN _) hE
   . have ht:=zcr hg;have d:decide (rt <= st.y) = false:=by simp;omega
     have HLA:=Lib.hid hlate;clear hlate;go_quiet (fail)
     go_upto_region 8 with (
      go_at_call 51;refine (ziK J lo hi rt 1 _ (by omega) hp ht (by go_simp) (by go_simp)).mono ?_
      rintro e w3 ⟨rfl,hx3⟩)
     have hX3:Ext u w3:=ExtM.trans _ _ _ (hX1.drewN _) hx3;have h3:=h.ext hX3;have k:=fun q=>(((ExtM.refl w1).drewN nq).trans' hx3).cell (p:=⟨u.heap.size,q,none⟩) lB1 (fun h=>h);have b0:=(k _).trans e0;have b1:=(k _).trans e1;have b2:=(k _).trans e2;have lB3:u.heap.size < w3.heap.size:=Nat.lt_of_lt_of_le lB1 ((((ExtM.refl w1).drewN nq).trans' hx3).size);have lJ3:=h3.lt;have C5:=h3.c5;have crow:=h3.j1.c3;simp only [Nat.reduceAdd] at crow;clear k e0 e1 e2 lB1 lJ1 hX1 hx3 h1 c0 c1 c5 c6 c7 f7;generalize hT:tilI lo hi 1 rt = T at *;generalize hF:frI lo hi 1 rt = F at *;have HT:=Lib.hid hT;have HF:=Lib.hid hF;have HG:=Lib.hid hg;clear hT hF hg;go_upto_region 9 with fail;generalize hbE:decide (st.x < T) = hb at *;have HBE:=Lib.hid hbE;clear hbE;go_cut [70] (fun s70 wx=>s70 = .bool (hb && decide ((300:Int) <= (st.b.length:Int))) /\ wx = w3)
     case first =>
      cases hb
      . go_wp2_with fail;go_meet
        case rel=>exact ⟨by simp,rfl⟩
      . go_wp2_with fail;go_meet
        case rel=>exact ⟨by simp,rfl⟩
     case rest =>
      obtain ⟨rfl,rfl⟩:=hcut;cases hfull:(hb && decide ((300:Int) <= (st.b.length:Int))) with
      | true =>
        have hE:feedE lo hi 1 ⟨rk,rt,rv⟩ st.x st.y (st.of 1).length = 12:=by
         simp only [Bool.and_eq_true,decide_eq_true_eq] at hfull;have h1:=HBE.out;rw [hfull.1] at h1;have h2:st.x < T:=by simpa using h1
         rw [zcZ HG.out,if_neg (by have:=HLA.out;omega),HT.out,if_pos];exact ⟨h2,by show 300 <= st.b.length;omega⟩
        go_wp2_with fail;go_ret2;exact zdg h hX3 12 hE (by decide) (by decide)
      | false =>
        have hE:feedE lo hi 1 ⟨rk,rt,rv⟩ st.x st.y (st.of 1).length = 0:=by
         rw [zcZ HG.out,if_neg (by have:=HLA.out;omega),HT.out,if_neg];rintro ⟨h1,h2⟩;have h3:=HBE.out;have h2':300 <= st.b.length:=h2;rw [<- h3] at hfull;simp only [Bool.and_eq_false_iff,decide_eq_false_iff_not] at hfull;omega
        have HFU:=Lib.hid hfull;have HE:=Lib.hid hE;clear hfull hE crow C5;have crowO:=h3.j0.c3;have hrow:=h3.j0.row;simp only [Nat.reduceAdd] at crowO;have hso:=zf0 J 0 _ st.a _ (by omega) crowO hrow (by omega)
        go_wp2_with (
         go_at_call 66;refine hso.mono ?_
         rintro e w5 ⟨p,cap,is,rfl,hx5,hsr,hlen,hcells⟩)
        have h5:=h3.ext hx5;have HSR:=Lib.hid hsr;have HLN:=Lib.hid hlen;have hcl:st.a = [] \/ ∃ b,p = some ⟨b,0,none⟩ /\ wc.heap.size <= b /\ b < w5.heap.size /\ ∀ i,i < st.a.length -> w5.cell? ⟨b,i,none⟩ = some (.int .i64 (is[i]!:Nat)):=hcells;have HCL:=Lib.hid hcl;have k:=fun q=>hx5.cell (p:=⟨u.heap.size,q,none⟩) lB3 (fun h=>h);have B0:=(k _).trans b0;have B1:=(k _).trans b1;have B2:=(k _).trans b2;have lB5:u.heap.size < w5.heap.size:=Nat.lt_of_lt_of_le lB3 hx5.size;have hX5:Ext u w5:=ExtM.trans _ _ _ hX3 hx5;have nB:∀ k,zaO J (.slice q0 st.a.length a0) (.slice q1 st.b.length a1) k -> k < u.heap.size:=h.foot;have hsz5:=hx5.size;clear k b0 b1 b2 hsr hlen hcells hcl hso crowO hrow h3 lB3 lJ3 hx5;go_loopg [12,13,75] (st.a.length + 1) (fun kx s12 s13 s75 wr=>∃ i:Nat,s75 = .int .i64 i /\ i <= st.a.length /\ st.a.length - i <= kx /\ ExtM (fun k=>(Value.slice q0 st.a.length a0).ownBlock = some k) w5 wr /\ RIs wr J (.slice q0 st.a.length a0) (.slice q1 st.b.length a1) lo hi md { st with a:=mixL (zab rk F T) st.a (is.take i) } /\ s13 = .int .i64 ((zbv (zab rk F T) st.a (is.take i)).length:Nat) /\ CRow wr w5.heap.size s12 (((zbv (zab rk F T) st.a (is.take i)).map RHd.hd).flatMap (chg1 md 1 ⟨rk,rt,rv⟩)))
        case atStart=>exact ⟨0,rfl,by omega,by omega,ExtM.refl _,by rw [List.take_zero,zij];exact h5,rfl,nilC _ _⟩
        case round =>
         obtain ⟨i,rfl,hi',hgk,hx,h6,rfl,hout⟩:=hrel;by_cases hil:i < st.a.length
         . obtain ⟨b,rfl,hb1,hb2,hbc⟩:∃ b,p = some ⟨b,0,none⟩ /\ wc.heap.size <= b /\ b < w5.heap.size /\ ∀ i,i < st.a.length -> w5.cell? ⟨b,i,none⟩ = some (.int .i64 (is[i]!:Nat)):=by
            rcases HCL.out with h | h
            . rw [h] at hil;simp at hil
            . exact h
           have hgO:∀ k,(Value.slice q0 st.a.length a0).ownBlock = some k -> k < u.heap.size:=fun k hk=>nB k (.inr (.inl hk));have hsz:=hX5.size;have hX3s:=hX3.size;have hcell:wr.cell? ⟨b,i,none⟩ = some (.int .i64 (is[i]!:Nat)):=(hx.cell (p:=⟨b,i,none⟩) hb2 (fun e=>by have:=hgO b e;omega)).trans (hbc i hil);obtain ⟨htk,hq,hnq⟩:=zez HSR.out HLN.out i hil;have hgX:=mixL_get (p:=zab rk F T) hnq hq;have HGX:=Lib.hid hgX;have HMS:=Lib.hid (zii (p:=zab rk F T) (is:=is.take i) hq);have HSK:=Lib.hid (zgn (p:=zab rk F T) (is:=is.take i) hq);have HTK:=Lib.hid htk;clear htk hbc hgX;generalize is[i]! = q at *;have crow6:=h6.j0.c3;have hrow6:=h6.j0.row;simp only [Nat.reduceAdd] at crow6;obtain ⟨g,rc,e',hg,x0,x1,x2,x3,x4⟩:=zkV hrow6 q _ HGX.out;simp only [Value.slice.injEq] at e';obtain ⟨rfl,-,rfl⟩:=e';have HPT:=Lib.hid (zkS (p:=zab rk F T) (L:=st.a) (is:=is.take i) (q:=q));have HPF:=Lib.hid (zjH (p:=zab rk F T) (L:=st.a) (is:=is.take i) (q:=q));generalize st.a[q]! = X at *;have k:=fun o=>hx.cell (p:=⟨u.heap.size,o,none⟩) lB5 (fun e=>by have:=hgO u.heap.size e;omega);have b0:=(k _).trans B0;have b1:=(k _).trans B1;have b2:=(k _).trans B2;have lB6:u.heap.size < wr.heap.size:=Nat.lt_of_lt_of_le lB5 hx.size;clear k;go_upto_region 17 with fail;go_cut [105] (fun s105 wx=>s105 = .bool (!(zab rk F T X.hd)) /\ Ext wr wx)
           case first =>
            by_cases hk1:X.r.k = rk
            . have d1:(X.r.k != rk) = false:=by simp [hk1]
              by_cases hk2:F <= X.r.t /\ X.r.t <= T
              . have HM:Hid (zab rk F T X.hd = true):=Lib.hid ((zbn _ _ _ _).2 ⟨hk1,hk2.1,hk2.2⟩);have HK:=Lib.hid hk2;clear hk1 hk2;refine Plan.b0 Plan.Ext 19 ?_;refine Plan.qs 12 [0,1,2,3,4,5,6,7,8,9,10,11] ?_;iterate 12 go_big_quiet_step (fail)
                refine Plan.qs 4 [12,13,14,15] ?_;iterate 4 go_big_quiet_step (fail)
                refine Plan.ow 16 fun K hK=>?_;go_wp2_with (fail);refine (znd F X.r.t T _ HK.out).mono ?_;rintro e w7 ⟨rfl,h7⟩;have H7:=ExtM.trans _ _ _ (ExtM.refl _).drew h7;obtain ⟨hc7,hf7,-⟩:=Ext.rules H7;have hs7_0:g < w7.heap.size:=by have:=H7.size;(try simp at this);omega
                have hs7_1:u.heap.size < w7.heap.size:=by have:=H7.size;(try simp at this);omega
                go_wp2_with (fail);refine hK _ _ h7 ?_;clear hK K;refine Plan.qs 2 [17,18] ?_;iterate 2 go_big_quiet_step (fail)
                refine Plan.dn ?_;go_wp2_with fail;go_meet
                case rel=>exact ⟨by rw [HM.out];rfl,H7⟩
              . have HM:Hid (zab rk F T X.hd = false):=Lib.hid (Bool.eq_false_iff.2 fun h=>hk2 ((zbn _ _ _ _).1 h).2);have HK:=Lib.hid hk2;clear hk1 hk2;refine Plan.b0 Plan.Ext 19 ?_;refine Plan.qs 12 [0,1,2,3,4,5,6,7,8,9,10,11] ?_;iterate 12 go_big_quiet_step (fail)
                refine Plan.qs 4 [12,13,14,15] ?_;iterate 4 go_big_quiet_step (fail)
                refine Plan.ow 16 fun K hK=>?_;go_wp2_with (fail);refine (znk F X.r.t T _ HK.out).mono ?_;rintro e w7 ⟨rfl,h7⟩;have H7:=ExtM.trans _ _ _ (ExtM.refl _).drew h7;obtain ⟨hc7,hf7,-⟩:=Ext.rules H7;have hs7_0:g < w7.heap.size:=by have:=H7.size;(try simp at this);omega
                have hs7_1:u.heap.size < w7.heap.size:=by have:=H7.size;(try simp at this);omega
                go_wp2_with (fail);refine hK _ _ h7 ?_;clear hK K;refine Plan.qs 2 [17,18] ?_;iterate 2 go_big_quiet_step (fail)
                refine Plan.dn ?_;go_wp2_with fail;go_meet
                case rel=>exact ⟨by rw [HM.out];rfl,H7⟩
            . have d1:(X.r.k != rk) = true:=by simp [hk1]
              have HM:Hid (zab rk F T X.hd = false):=Lib.hid (Bool.eq_false_iff.2 fun h=>hk1 ((zbn _ _ _ _).1 h).1);clear hk1;refine Plan.b0 Plan.Ext 19 ?_;refine Plan.qs 12 [0,1,2,3,4,5,6,7,8,9,10,11] ?_;iterate 12 go_big_quiet_step (fail)
              refine Plan.qs 4 [12,13,14,15] ?_;iterate 4 go_big_quiet_step (fail)
              refine Plan.zaZ 16 (by kernel_rfl) (by rfl) (Plan.skip ExtM.refl rfl ?_);simp only [Act.put,List.setIfInBounds_toArray,List.set_cons_succ,List.set_cons_zero];refine Plan.qs 2 [17,18] ?_;iterate 2 go_big_quiet_step (fail)
              refine Plan.dn ?_;go_wp2_with fail;go_meet
              case rel=>exact ⟨by rw [HM.out];rfl,(ExtM.refl _).drew⟩
           case rest =>
            obtain ⟨rfl,hxc⟩:=hcut;have h7:=h6.ext hxc;have kg:=fun o=>hxc.cell (p:=⟨g,o,none⟩) hg (fun h=>h);have y0:=(kg _).trans x0;have y1:=(kg _).trans x1;have y2:=(kg _).trans x2;have y3:=(kg _).trans x3;have kb:=fun o=>hxc.cell (p:=⟨u.heap.size,o,none⟩) lB6 (fun h=>h);have C0:=(kb _).trans b0;have C1:=(kb _).trans b1;have C2:=(kb _).trans b2;have lB7:=Nat.lt_of_lt_of_le lB6 hxc.size;have hg7:=Nat.lt_of_lt_of_le hg hxc.size;have hout7:=hout.of hxc;have hxw:ExtM (fun k=>(Value.slice (some ⟨g,0,none⟩) st.a.length a0).ownBlock = some k) w5 wc:=hx.fresh' hxc (fun _ _ h=>h.elim);have m2:=h7.c2;have lJ7:=h7.lt;clear kg kb x0 x1 x2 x3 x4 b0 b1 b2 crow6 hrow6 hcell h6 hx hout lB6 hg;generalize hm:zab rk F T X.hd = pm at *;have HM:=Lib.hid hm;clear hm;cases pm with
            | false =>
              have HE1:=Lib.hid (HSK.out rfl);have HE2:=Lib.hid (HPF.out rfl);clear HSK HPF HPT HMS;go_wp2_with fail;go_roundg (st.a.length - (i + 1))
              case measure=>omega
              case rel=>exact ⟨i + 1,by go_num,by omega,Nat.le_refl _,hxw,by rw [HTK.out,HE1.out];exact h7,by rw [HTK.out,HE2.out],by rw [HTK.out,HE2.out];exact hout7⟩
            | true =>
              have HE2:=Lib.hid (HPT.out rfl);clear HSK HPF HPT;go_upto_region 18 with fail;go_cut [115] (fun s115 wx=>s115 = .bool (decide (X.m = 0) && zai md 0) /\ wx = wc)
              case first =>
               by_cases hm0:X.m = 0
               . have d0:(X.m == 0) = true:=by simp [hm0]
                 have HM0:=Lib.hid hm0;clear hm0;go_wp2_with (go_at_call 84;refine (zih J md 0 _ (by omega) m2).mono ?_;rintro e w' ⟨rfl,rfl⟩);go_meet
                 case rel=>exact ⟨by simp [HM0.out],rfl⟩
               . have d0:(X.m == 0) = false:=by simp [hm0]
                 have HM0:=Lib.hid hm0;clear hm0;go_wp2_with fail;go_meet
                 case rel=>exact ⟨by simp [HM0.out],rfl⟩
              case rest =>
               obtain ⟨rfl,rfl⟩:=hcut;generalize hq:(decide (X.m = 0) && zai md 0) = tq at *;have HQ:=Lib.hid hq;clear hq;go_upto_if 115 with fail;have hfl:=zaK md 1 ⟨rk,rt,rv⟩ ((zbv (zab rk F T) st.a (is.take i)).map RHd.hd);have hpl:=zgQ (zab rk F T) st.a (is.take i);rw [List.length_map] at hfl;rw [List.length_take] at hpl;have hge:∀ k,u12.ownBlock = some k -> w5.heap.size <= k:=fun k hk=>(zaf hout7 k hk).1;have hsw:w5.heap.size <= wc.heap.size:=hxw.size;go_cut [12] (fun s12 wx=>ExtM (fun k=>w5.heap.size <= k) wc wx /\ CRow wx w5.heap.size s12 (((zbv (zab rk F T) st.a (is.take i)).map RHd.hd).flatMap (chg1 md 1 ⟨rk,rt,rv⟩) ++ (if tq = true then [(zan 0 X.r,true)] else [])))
               case first =>
                cases tq
                . go_wp2_with fail;go_meet
                  case rel=>exact ⟨ExtM.refl _,by simpa using hout7⟩
                . go_wp2_with (first
                   | (go_at_call 34
                      refine (ziH _ _ _ _).mono ?_;rintro e w6 ⟨rfl,hx6⟩;have hl6:(((zbv (zab rk F T) st.a (is.take i)).map RHd.hd).flatMap (chg1 md 1 ⟨rk,rt,rv⟩)).length < 1000000:=by omega
                      obtain ⟨v',w',happ,hown',hgr',-⟩:=zat (w6.alloc (.cells #[.int .i64 X.r.k,.int .i64 X.r.k,.int .i64 X.r.t,.int .i64 X.r.v,.int .i64 0,.int .i64 0,.int .i64 0,.bool true,.bool false,.bool true] 92)) w5.heap.size w6.heap.size 1 u12 _ (zan 0 X.r,true) 33 (hout7.of (hx6.alloc _)) (zdD w6 (zan 0 X.r,true)) hl6 (by have:=hx6.size;simp;omega)
                      have HG':=Lib.hid (ExtM.fresh' ((hx6.alloc _).mono (fun _ _ h=>h.elim):ExtM (fun k=>w5.heap.size <= k) _ _) hgr' (fun k hk e=>hge k e)))
                   | (at_builtin;refine wpList_append_run happ rfl rfl _ _ rfl rfl rfl ?_;clear happ))
                  go_meet
                  case rel=>exact ⟨HG'.out,hown'⟩
               case rest =>
                obtain ⟨hx8,hout8⟩:=hcut;clear hxc;have h8:=h7.extM hx8 (fun e=>by have e':w5.heap.size <= J:=e;omega) (fun k hk e=>by have e':w5.heap.size <= k:=e;have:=nB k (.inr (.inl hk));omega) (fun k hk e=>by have e':w5.heap.size <= k:=e;have:=nB k (.inr (.inr hk));omega);have hgu:=hgO g rfl;have kg:=fun o=>hx8.cell (p:=⟨g,o,none⟩) hg7 (fun e=>by have e':w5.heap.size <= g:=e;omega);have z0:=(kg _).trans y0;have z1:=(kg _).trans y1;have z2:=(kg _).trans y2;have z3:=(kg _).trans y3;have kb:=fun o=>hx8.cell (p:=⟨u.heap.size,o,none⟩) lB7 (fun e=>by have e':w5.heap.size <= u.heap.size:=e;omega);have D0:=(kb _).trans C0;have D1:=(kb _).trans C1;have D2:=(kb _).trans C2;have lB8:=Nat.lt_of_lt_of_le lB7 hx8.size;have hg8:=Nat.lt_of_lt_of_le hg7 hx8.size;have hxw8:ExtM (fun k=>(Value.slice (some ⟨g,0,none⟩) st.a.length a0).ownBlock = some k) w5 wc:=hxw.fresh' hx8 (fun k hk e=>by have e':w5.heap.size <= k:=e;omega);clear kg kb y0 y1 y2 y3 C0 C1 C2 lB7 hg7 h7 hout7 hxw hx8 hge hsw lJ7 m2;go_upto_region 20 with fail;go_cut [17] (fun s17 wx=>zhA wc wx s17 (outL (zbs ⟨rk,rt,rv⟩ X.r)))
                case first =>
                 refine Plan.bT Plan.Ext [7] 8 ?_;refine Plan.qs 5 [0,1,2,3,4] ?_;iterate 5 go_big_quiet_step (fail)
                 refine Plan.o2 5 6 (fun K hK=>?_) fun K hK=>?_
                 focus
                  go_wp2_with (fail);refine (zes rk rt rv X.r.k X.r.t X.r.v _).mono ?_;rintro e w8 ⟨rfl,h8⟩;have H8:=ExtM.trans _ _ _ (ExtM.refl _).drew h8;obtain ⟨hc8,hf8,-⟩:=Ext.rules H8;have hs8_0:g < w8.heap.size:=by have:=H8.size;(try simp at this);omega
                  have hs8_1:u.heap.size < w8.heap.size:=by have:=H8.size;(try simp at this);omega
                  go_wp2_with (fail);refine hK _ _ h8 ?_;clear hK K;refine Plan.o1 6 fun K hK=>?_;go_wp2_with (fail);refine hK _ _ ((ExtM.refl _).alloc _) ?_;clear hK K
                 rotate_left
                 focus
                  go_wp2_with (fail);refine hK _ _ ((ExtM.refl _).alloc _) ?_;clear hK K;refine Plan.o1 5 fun K hK=>?_;go_wp2_with (fail);refine (zes rk rt rv X.r.k X.r.t X.r.v _).mono ?_;rintro e w8 ⟨rfl,h8⟩;have H8:=ExtM.trans _ _ _ ((ExtM.refl _).drew.alloc _) h8;obtain ⟨hc8,hf8,-⟩:=Ext.rules H8;have hs8_0:g < w8.heap.size:=by have:=H8.size;(try simp at this);omega
                  have hs8_1:u.heap.size < w8.heap.size:=by have:=H8.size;(try simp at this);omega
                  go_wp2_with (fail);refine hK _ _ h8 ?_;clear hK K
                 . obtain ⟨hn,hfz,hlt⟩:=zbm h8;have n0:=hn 0 _ rfl;have n1:=hn 1 _ rfl;have n2:=hn 2 _ rfl;have n3:=hn 3 _ rfl;have n4:=hn 4 _ rfl;have n5:=hn 5 _ rfl;have n6:=hn 6 _ rfl;have n7:=hn 7 _ rfl;have n8:=hn 8 _ rfl;refine Plan.ol 7 fun K hK=>?_;go_wp2_with (fail);refine Plan.dn ?_;go_wp2_with fail;go_meet
                   case rel=>exact outA (zbs ⟨rk,rt,rv⟩ X.r) H8 hn hfz hlt
                 . refine Plan.ol 7 fun K hK=>?_;go_wp2_with (fail);refine Plan.dn ?_;go_wp2_with fail;go_meet
                   case rel=>exact outB (zbs ⟨rk,rt,rv⟩ X.r) H8
                case rest =>
                 obtain ⟨Bo,rfl,hBo,hBl,hx9,hno,hfo⟩:=hcut;have h9:=h8.ext hx9;have kg:=fun o=>hx9.cell (p:=⟨g,o,none⟩) hg8 (fun h=>h);have kb:=fun o=>hx9.cell (p:=⟨u.heap.size,o,none⟩) lB8 (fun h=>h);have z0':=(kg _).trans z0;have z1':=(kg _).trans z1;have z2':=(kg _).trans z2;have z3':=(kg _).trans z3;have D0':=(kb _).trans D0;have D1':=(kb _).trans D1;have D2':=(kb _).trans D2;have hg9:=Nat.lt_of_lt_of_le hg8 hx9.size;have lB9:=Nat.lt_of_lt_of_le lB8 hx9.size;have hout9:=hout8.of hx9;have hxw9:ExtM (fun k=>(Value.slice (some ⟨g,0,none⟩) st.a.length a0).ownBlock = some k) w5 wc:=hxw8.fresh' hx9 (fun _ _ h=>h.elim);have hsw9:w5.heap.size <= Bo:=Nat.le_trans hxw8.size hBo;have hob:∀ k,u12.ownBlock = some k -> k ≠ Bo:=fun k hk=>by have:=(zaf hout8 k hk).2;omega
                 clear kg kb z0 z1 z2 z3 D0 D1 D2 lB8 hg8 h8 hout8 hxw8 hx9 hBo;go_upto_if 133 with fail;go_cut [] (fun wx=>ExtM (fun k=>k = Bo) wc wx /\ ∀ j v,(outL (zbs X.r ⟨rk,rt,rv⟩))[j]? = some v -> wx.cell? ⟨Bo,j,none⟩ = some v)
                 case first =>
                  go_wp2_with fail;have HNO:=Lib.hid hno;have n0:=hno 0 _ rfl;have n1:=hno 1 _ rfl;have n2:=hno 2 _ rfl;have n3:=hno 3 _ rfl;have n4:=hno 4 _ rfl;have n5:=hno 5 _ rfl;have n6:=hno 6 _ rfl;have n7:=hno 7 _ rfl;have n8:=hno 8 _ rfl;clear hno;refine Plan.bT Plan.Ext [6] 7 ?_;refine Plan.qs 5 [0,1,2,3,4] ?_;iterate 5 go_big_quiet_step (fail)
                  refine Plan.o1 5 fun K hK=>?_;go_wp2_with (fail);refine (zes X.r.k X.r.t X.r.v rk rt rv _).mono ?_;rintro e w9 ⟨rfl,h9⟩;have H9:=ExtM.trans _ _ _ (ExtM.refl _).drew h9;obtain ⟨hc9,hf9,-⟩:=Ext.rules H9;have hs9_0:g < w9.heap.size:=by have:=H9.size;(try simp at this);omega
                  have hs9_1:u.heap.size < w9.heap.size:=by have:=H9.size;(try simp at this);omega
                  have hs9_2:Bo < w9.heap.size:=by have:=H9.size;(try simp at this);omega
                  go_wp2_with (fail);refine hK _ _ h9 ?_;clear hK K;have m0:=(hc9 _ _ hBl).trans n0;have m1:=(hc9 _ _ hBl).trans n1;have m2:=(hc9 _ _ hBl).trans n2;have m3:=(hc9 _ _ hBl).trans n3;have m4:=(hc9 _ _ hBl).trans n4;have m5:=(hc9 _ _ hBl).trans n5;have m6:=(hc9 _ _ hBl).trans n6;have m7:=(hc9 _ _ hBl).trans n7;have m8:=(hc9 _ _ hBl).trans n8;have hfo':∀ o,w9.frozen? ⟨Bo,o,none⟩ = false:=fun o=>(hf9 _ _ hBl).trans (hfo o);refine Plan.ol 6 fun K hK=>?_;go_wp2_with (fail);refine Plan.dn ?_;go_wp2_with fail;go_meet
                  case rel=>exact outC (zbs X.r ⟨rk,rt,rv⟩) H9 hBl (l0:=outL (zbs ⟨rk,rt,rv⟩ X.r)) rfl HNO.out
                 obtain ⟨hxo,hno1⟩:=hcut;have hgu9:=hgO g rfl;have h9:=h9.extM hxo (fun e=>by have e':J = Bo:=e;omega) (fun k hk e=>by have e':k = Bo:=e;have:=nB k (.inr (.inl hk));omega) (fun k hk e=>by have e':k = Bo:=e;have:=nB k (.inr (.inr hk));omega);have E3:=(hxo.cell (p:=⟨g,q * 5 + 3,none⟩) hg9 (fun e=>by have e':g = Bo:=e;omega)).trans z3';have hout9:CRow wc w5.heap.size u12 _:=zag hout9 hxo (fun k hk e=>hob k hk e);have hg9:=Nat.lt_of_lt_of_le hg9 hxo.size;have hxw9:ExtM (fun k=>(Value.slice (some ⟨g,0,none⟩) st.a.length a0).ownBlock = some k) w5 wc:=hxw9.fresh' hxo (fun k hk e=>by have e':k = Bo:=e;omega);have n0:=hno1 0 _ rfl;have n1:=hno1 1 _ rfl;have n2:=hno1 2 _ rfl;have n3:=hno1 3 _ rfl;have n4:=hno1 4 _ rfl;have n5:=hno1 5 _ rfl;have n6:=hno1 6 _ rfl;have n7:=hno1 7 _ rfl;have n8:=hno1 8 _ rfl;clear hno hno1 z0' z1' z2' z3' D0' D1' D2' lB9 hxo hob hfo;have hl9:(((zbv (zab rk F T) st.a (is.take i)).map RHd.hd).flatMap (chg1 md 1 ⟨rk,rt,rv⟩) ++ (if tq = true then [(zan 0 X.r,true)] else [])).length < 1000000:=by
                  rw [List.length_append];have:(if tq = true then [(zan 0 X.r,true)] else []:List (Out × Bool)).length <= 1:=by split <;> simp
                  omega
                 have hge9:∀ k,u12.ownBlock = some k -> w5.heap.size <= k:=fun k hk=>(zaf hout9 k hk).1;have hs9:w5.heap.size <= wc.heap.size:=hxw9.size;obtain ⟨v',w',happ,hown',hgr',-⟩:=zat (wc.alloc (.cells #[.int .i64 X.r.k,.int .i64 X.r.k,.int .i64 X.r.t,.int .i64 X.r.v,.int .i64 rk,.int .i64 rt,.int .i64 rv,.bool true,.bool true,.bool false] 92)) w5.heap.size wc.heap.size 1 u12 _ (zbs X.r ⟨rk,rt,rv⟩,false) 33 (hout9.of ((ExtM.refl wc:Ext wc wc).alloc _)) (zdD wc (zbs X.r ⟨rk,rt,rv⟩,false)) hl9 (by simp;omega);have hx10:ExtM (fun k=>w5.heap.size <= k) wc w':=ExtM.fresh' (((ExtM.refl wc:Ext wc wc).alloc _).mono (fun _ _ h=>h.elim):ExtM (fun k=>w5.heap.size <= k) _ _) hgr' (fun k hk e=>hge9 k e);have hgu:=hgO g rfl;have h10:=h9.extM hx10 (fun e=>by have e':w5.heap.size <= J:=e;omega) (fun k hk e=>by have e':w5.heap.size <= k:=e;have:=nB k (.inr (.inl hk));omega) (fun k hk e=>by have e':w5.heap.size <= k:=e;have:=nB k (.inr (.inr hk));omega);have fz10:w'.frozen? ⟨g,q * 5 + 3,none⟩ = false:=by
                  have hlq:q < (mixL (zab rk F T) st.a (is.take i)).length:=by rw [zfi];exact hq
                  obtain ⟨g',cap',e1,-,-,e2⟩:=zaJ (enc:=RHd.cells) zcV h10.j0.row q 3 hlq (by omega);simp only [Value.slice.injEq,Option.some.injEq,Addr.mk.injEq,and_true] at e1;rw [e1.1];exact e2
                 have E10:=(hx10.cell (p:=⟨g,q * 5 + 3,none⟩) hg9 (fun e=>by have e':w5.heap.size <= g:=e;omega)).trans E3;obtain ⟨h11,hx11⟩:=h10.setM0 q X HGX.out (wrap64 (X.m + 1));have hset:(mixL (zab rk F T) st.a (is.take i)).set q ⟨X.r,wrap64 (X.m + 1),X.c⟩ = mixL (zab rk F T) st.a (is.take (i + 1)):=by
                  have hb:bumpQ (zab rk F T) X = ⟨X.r,wrap64 (X.m + 1),X.c⟩:=by unfold bumpQ;rw [HM.out];rfl
                  rw [<- hb,HMS.out,HTK.out]
                 have h12:RIs (w'.setCell ⟨g,q * 5 + 3,none⟩ (.int .i64 (wrap64 (X.m + 1)))) J (.slice (some ⟨g,0,none⟩) st.a.length a0) (.slice q1 st.b.length a1) lo hi md { st with a:=mixL (zab rk F T) st.a (is.take (i + 1)) }:=by
                  rw [<- hset];exact h11
                 have hout12:=zag hown' hx11 (fun k hk e=>by have h1:=(zaf hown' k hk).1;have e':k = g:=e;omega);have hx12:ExtM (fun k=>(Value.slice (some ⟨g,0,none⟩) st.a.length a0).ownBlock = some k) w5 (w'.setCell ⟨g,q * 5 + 3,none⟩ (.int .i64 (wrap64 (X.m + 1)))) :=
                  (hxw9.fresh' hx10 (fun k hk e=>by have e':w5.heap.size <= k:=e;omega)).fresh' hx11 (fun k _ e=>by have e':k = g:=e;rw [e'];rfl)
                 have hplt:(zbv (zab rk F T) st.a (is.take i)).length <= 300:=by omega
                 have H12:=Lib.hid h12;have HO12:=Lib.hid hout12;have HX12:=Lib.hid hx12;clear h12 hout12 hx12 hset h11 hx11 h10 hown' hgr' hout9 h9 hl9 hge9 hfl hpl;go_wp2_with (at_builtin;refine wpList_append_run happ rfl rfl _ _ rfl rfl rfl ?_;clear happ);go_roundg (st.a.length - (i + 1))
                 case measure=>omega
                 case rel =>
                  refine ⟨i + 1,by go_num,by omega,Nat.le_refl _,HX12.out,H12.out,?_,?_⟩
                  . rw [HTK.out,HE2.out,List.length_append,List.length_singleton];push_cast;rfl
                  . rw [HTK.out,HE2.out,List.map_append,List.map_singleton,List.flatMap_append,List.flatMap_singleton,zf6];show CRow _ _ _ (_ ++ ((if (decide (X.m = 0) && zai md 0) = true then _ else _) ++ _));rw [HQ.out,<- List.append_assoc];exact HO12.out
         . have hie:i = st.a.length:=by omega
           subst hie;have htk:is.take st.a.length = is:=List.take_of_length_le (by have:=HLN.out;omega);rw [htk] at h6 hout;have hall:∀ j,j < st.a.length -> j ∈ is:=fun j hj=>HSR.out.1.mem_iff.2 (List.mem_range.2 hj);rw [zhP hall] at h6;obtain ⟨hR1,hR2,hR3⟩:=ze0 HSR.out (zab rk F T);rw [hR3] at hout;have hgO:∀ k,(Value.slice q0 st.a.length a0).ownBlock = some k -> k < u.heap.size:=fun k hk=>nB k (.inr (.inl hk));have hsz:=hX5.size;have k:=fun o=>hx.cell (p:=⟨u.heap.size,o,none⟩) lB5 (fun e=>by have:=hgO u.heap.size e;omega);have b0:=(k _).trans B0;have b1:=(k _).trans B1;have b2:=(k _).trans B2;have lB6:u.heap.size < wr.heap.size:=Nat.lt_of_lt_of_le lB5 hx.size;have hplen:(zbv (zab rk F T) st.a is).length = ((((is.map (fun q=>st.a[q]!)).map RHd.hd).filter (zab rk F T))).length:=by rw [<- hR3,List.length_map]
           rw [htk];have HPL:=Lib.hid hplen;have hlen2:(((is.map (fun q=>st.a[q]!)).map RHd.hd).filter (zab rk F T)).length <= 300:=Nat.le_trans (List.length_filter_le _ _) (by simp;have:=HLN.out;omega);have HCNT:Hid ((((is.map (fun q=>st.a[q]!)).map RHd.hd).filter (zab rk F T)).length = (st.a.filter (fun x=>zab rk F T x.hd)).length):=Lib.hid (zd7 hR1 _);have HR1:=Lib.hid hR1;have HR2:=Lib.hid hR2;generalize is.map (fun q=>st.a[q]!) = R at *;generalize hms:(R.map RHd.hd).filter (zab rk F T) = ms at *;have HMS:=Lib.hid hms;rw [hplen];have m2:=h6.c2;have HX6:=Lib.hid hx;have hX6:ExtM (zaO J (.slice q0 st.a.length a0) (.slice q1 st.b.length a1)) u wr:=(hX5.mono (fun _ _ h=>h.elim):ExtM (zaO J (.slice q0 st.a.length a0) (.slice q1 st.b.length a1)) u w5).fresh' hx (fun k _ hk=>.inr (.inl hk));clear k hms hplen hR1 hR2 hR3 hall htk hi' hil hgk h5 HCL HLN B0 B1 B2;go_upto_region 27 with fail;go_cut [161] (fun s161 wx=>s161 = .bool (decide (ms.length = 0) && zai md 1) /\ wx = wr)
           case first =>
            by_cases hm0:ms.length = 0
            . have d0:((ms.length:Int) == 0) = true:=by simp [hm0]
              have HM0:=Lib.hid hm0;clear hm0;go_wp2_with (go_at_call 84;refine (zih J md 1 _ (by omega) m2).mono ?_;rintro e w' ⟨rfl,rfl⟩);go_meet
              case rel=>exact ⟨by simp [HM0.out],rfl⟩
            . have d0:((ms.length:Int) == 0) = false:=by simp [hm0]
              have HM0:=Lib.hid hm0;clear hm0;go_wp2_with fail;go_meet
              case rel=>exact ⟨by simp [HM0.out],rfl⟩
           case rest =>
            obtain ⟨rfl,rfl⟩:=hcut;generalize hq:(decide (ms.length = 0) && zai md 1) = tq at *;have HQ:=Lib.hid hq;clear hq;go_upto_if 161 with fail;have hfl:=zaK md 1 ⟨rk,rt,rv⟩ ms;have hge:∀ k,u12.ownBlock = some k -> w5.heap.size <= k:=fun k hk=>(zaf hout k hk).1;have hsw:w5.heap.size <= wc.heap.size:=HX6.out.size;go_cut [12] (fun s12 wx=>ExtM (fun k=>w5.heap.size <= k) wc wx /\ CRow wx w5.heap.size s12 (chgs md 1 ⟨rk,rt,rv⟩ ms))
            case first =>
             cases tq
             . go_wp2_with fail;go_meet
               case rel =>
                refine ⟨ExtM.refl _,?_⟩;rw [zbD,HQ.out,if_neg (by decide),List.append_nil];exact hout
             . go_wp2_with (first
                | (go_at_call 34
                   refine (zhM _ _ _ _).mono ?_;rintro e w6 ⟨rfl,hx6⟩;have hl6:(ms.flatMap (chg1 md 1 ⟨rk,rt,rv⟩)).length < 1000000:=by omega
                   obtain ⟨v',w',happ,hown',hgr',-⟩:=zat (w6.alloc (.cells #[.int .i64 rk,.int .i64 0,.int .i64 0,.int .i64 0,.int .i64 rk,.int .i64 rt,.int .i64 rv,.bool false,.bool true,.bool false] 92)) w5.heap.size w6.heap.size 1 u12 _ (zan 1 ⟨rk,rt,rv⟩,false) 33 (hout.of (hx6.alloc _)) (zdD w6 (zan 1 ⟨rk,rt,rv⟩,false)) hl6 (by have:=hx6.size;simp;omega)
                   have HG':=Lib.hid (ExtM.fresh' ((hx6.alloc _).mono (fun _ _ h=>h.elim):ExtM (fun k=>w5.heap.size <= k) _ _) hgr' (fun k hk e=>hge k e)))
                | (at_builtin;refine wpList_append_run happ rfl rfl _ _ rfl rfl rfl ?_;clear happ))
               go_meet
               case rel =>
                refine ⟨HG'.out,?_⟩;rw [zbD,HQ.out,if_pos rfl];exact hown'
            case rest =>
             obtain ⟨hxc,hrowt⟩:=hcut;have h7:=h6.extM hxc (fun e=>by have e':w5.heap.size <= J:=e;omega) (fun k hk e=>by have e':w5.heap.size <= k:=e;have:=nB k (.inr (.inl hk));omega) (fun k hk e=>by have e':w5.heap.size <= k:=e;have:=nB k (.inr (.inr hk));omega);have k:=fun q=>hxc.cell (p:=⟨u.heap.size,q,none⟩) lB6 (fun h=>by have h':w5.heap.size <= u.heap.size:=h;omega);have C0:=(k _).trans b0;have C1:=(k _).trans b1;have C2:=(k _).trans b2;have hX7:=hX6.fresh' hxc (fun k hk e=>by have e':w5.heap.size <= k:=e;omega);have hb5:u.heap.size <= w5.heap.size:=hX5.size;clear k b0 b1 b2 hxc h6 hge hfl hout hX6 hx;go_upto_region 29 with fail;cases hb with
             | false =>
               go_wp2_with fail;go_ret2;have e1:=HT.out;have e2:=HF.out;have e3:=HBE.out;subst e1 e2;refine zdG HE.out HR1.out HR2.out HMS.out hrowt hb5 ?_;rw [zeE HE.out (by simpa using e3)];exact ⟨hX7,_,⟨_,_,h7,rfl⟩,fun k hk=>.inl hk⟩
             | true =>
               have hlt:st.b.length < 300:=by
                have h1:=HFU.out;simp at h1;omega
               go_wp2_with (
                go_at_call 78;refine (znh J 1 _ st.b st.came rk rt rv _ _ h7.j1 (by omega) hcm).mono ?_
                rintro e w8 ⟨rfl,hu⟩)
               go_ret2;have e1:=HT.out;have e2:=HF.out;have e3:=HBE.out;subst e1 e2;have hu2:=h7.up1 hu;have hrow8:=zag hrowt hu2.1 (fun k hk e=>by have h1:=(zaf hrowt k hk).1;have h2:=nB k e;omega);refine zdG HE.out HR1.out HR2.out HMS.out hrow8 hb5 ?_;rw [zef HE.out (by simpa using e3)];have h9:RUp u w8 J (zaO J (.slice q0 st.a.length a0) (.slice q1 st.b.length a1)) lo hi md _:=RUp.trans hX7 (fun k hk=>.inl hk) hu2;rw [<- HCNT.out];exact h9
end Go.Proofs.YtmcgnnmffeojpabGreatDoor
