import Derived.Test.YtiknejbcehpmoaaGreatDoorPk22
import Derived.Deep.DeepCutAuto
import Derived.Deep.CutBlock
set_option maxRecDepth 100000
set_option maxHeartbeats 8000000
namespace Go.Proofs.YtiknejbcehpmoaaGreatDoor
open Go.RowKit Go.Plan
def outL (o:Out):List Value:=[.int .i64 o.key,.int .i64 o.l.k,.int .i64 o.l.t,.int .i64 o.l.v,.int .i64 o.r.k,.int .i64 o.r.t,.int .i64 o.r.v,.bool o.hl,.bool o.hr]
def chgL (c:Out × Bool):List Value:=outL c.1 ++ [.bool c.2]
theorem zfv (c:Out × Bool):(chgL c).length = 10:=rfl
theorem zor (c:Out × Bool):∀ v ∈ chgL c,v.oneCell' = true:=by
 intro v hv;simp only [chgL,outL,List.cons_append,List.nil_append,List.mem_cons,List.not_mem_nil,or_false] at hv;rcases hv with rfl | rfl | rfl | rfl | rfl | rfl | rfl | rfl | rfl | rfl <;> rfl
def CRow (w:World) (base:Nat) (v:Value) (l:List (Out × Bool)):Prop:=w.ownsRow base 96 10 v l.length (l.flatMap chgL)
theorem znE:(Tryz.prog.info? 96).map (fun i=>(i.zero,i.size,i.bytes)) = some (some (.agg #[.int .i64 0,.int .i64 0,.int .i64 0,.int .i64 0,.int .i64 0,.int .i64 0,.int .i64 0,.bool false,.bool false,.bool false]),10,72):=by kernel_rfl
theorem zat (W:World) (base nb c:Nat) (v:Value) (acc:List (Out × Bool)) (x:Out × Bool) (ty:TypeId) (hown:CRow W base v acc) (hx:∀ j u,(chgL x)[j]? = some u -> W.cell? ⟨nb,j,none⟩ = some u) (hl:acc.length < 1000000) (hb:base <= W.heap.size) :
 ∃ v' w',(Builtin.append_ #[88,88] ty #[v,.slice (some ⟨nb,0,none⟩) 1 c]).run Tryz.prog W = .ok v' w' /\ CRow w' base v' (acc ++ [x]) /\ ExtR v.ownBlock W w' /\ (v'.ownBlock = v.ownBlock \/ ∃ k,v'.ownBlock = some k /\ W.heap.size <= k) :=
 zb8 zfv zor 88 _ 72 znE rfl (by decide) Tryz.underlying88 (by decide) W base nb c v acc x ty hown hx hl hb
theorem CRow.of {w w':World} {b:Nat} {v:Value} {l:List (Out × Bool)} (h:CRow w b v l) (hx:Ext w w'):CRow w' b v l:=zag h hx (fun _ _ h=>h)
theorem zdD (W:World) (x:Out × Bool):∀ j u,(chgL x)[j]? = some u -> (W.alloc (.cells #[.int .i64 x.1.key,.int .i64 x.1.l.k,.int .i64 x.1.l.t,.int .i64 x.1.l.v,.int .i64 x.1.r.k,.int .i64 x.1.r.t,.int .i64 x.1.r.v,.bool x.1.hl,.bool x.1.hr,.bool x.2] 96)).cell? ⟨W.heap.size,j,none⟩ = some u:=fun j u hj =>
 (World.cell?_alloc_at _ _ _ j (by simp)).trans (by simpa [chgL,outL] using hj)
theorem zfk (k t v:Int) (w:World):Calls Tryz.prog 204 #[.int .i64 0,.agg #[.int .i64 k,.int .i64 t,.int .i64 v]] w fun e w'=>e = .returned (.agg #[.int .i64 k,.int .i64 k,.int .i64 t,.int .i64 v,.int .i64 0,.int .i64 0,.int .i64 0,.bool true,.bool false]) /\ Ext w w':=by
 have:=zj9 0 k t v w
 rwa [if_pos rfl] at this
theorem zfN (k t v:Int) (w:World):Calls Tryz.prog 204 #[.int .i64 1,.agg #[.int .i64 k,.int .i64 t,.int .i64 v]] w fun e w'=>e = .returned (.agg #[.int .i64 k,.int .i64 0,.int .i64 0,.int .i64 0,.int .i64 k,.int .i64 t,.int .i64 v,.bool false,.bool true]) /\ Ext w w':=by
 have:=zj9 1 k t v w
 rwa [if_neg (by decide)] at this
def zbG (u:World) (P M:Nat) (v0 v1:Value) (lo hi md:Int) (s:Nat) (r:Row) (st:JSt) (e:Ending) (u':World):Prop :=
 ∃ vo,e = .returned (.tuple #[vo,errV (feedE lo hi s r st.x st.y (st.of s).length)]) /\ CRow u' u.heap.size vo (zaj lo hi md s r st) /\ JUp u u' P M (zaE P M v0 v1) lo hi md (zam lo hi s r st)
theorem nilC (base:Nat) (w:World):CRow w base (.slice none 0 0) []:=⟨rfl,.inl ⟨rfl,rfl⟩⟩
theorem JIs.late {u:World} {P M:Nat} {v0 v1:Value} {lo hi md:Int} {st:JSt} (h:JIs u P M v0 v1 lo hi md st) (x:Int):JIs (u.setCell ⟨P,6,none⟩ (.int .i64 x)) P M v0 v1 lo hi md { st with late:=x } /\ ExtM (fun k=>k = P) u (u.setCell ⟨P,6,none⟩ (.int .i64 x)):=by
 have hx:ExtM (fun k=>k = P) u (u.setCell ⟨P,6,none⟩ (.int .i64 x)):=ExtM.setCell (M:=fun k=>k = P) (ExtM.refl u) (p:=⟨P,6,none⟩) (.inr rfl) _;have hc:∀ o,o ≠ 6 -> (u.setCell ⟨P,6,none⟩ (.int .i64 x)).cell? ⟨P,o,none⟩ = u.cell? ⟨P,o,none⟩:=fun o ho=>World.cell?_setCell_other _ _ _ _ (by intro e;simp only [Addr.mk.injEq,and_true,true_and] at e;omega);have hf:∀ o,(u.setCell ⟨P,6,none⟩ (.int .i64 x)).frozen? ⟨P,o,none⟩ = u.frozen? ⟨P,o,none⟩:=fun o=>World.frozen?_setCell _ _ _ _;refine ⟨⟨(hc 0 (by decide)).trans h.c0,(hc 1 (by decide)).trans h.c1,(hc 2 (by decide)).trans h.c2,?_,?_,(hc 5 (by decide)).trans h.c5,World.cell?_setCell_same _ _ _ h.c6,(hf 6).trans h.f6,h.mks.extM hx (fun e=>h.ne e.symm),h.ne,h.m0,h.m1,h.sep⟩,hx⟩
 . exact ⟨(hc 3 (by decide)).trans h.s0.c0,(hf 3).trans h.s0.fz,h.s0.row.ext hx (fun k hk e=>h.s0.own (e ▸ hk)),h.s0.srt,h.s0.own⟩
 . exact ⟨(hc 4 (by decide)).trans h.s1.c0,(hf 4).trans h.s1.fz,h.s1.row.ext hx (fun k hk e=>h.s1.own (e ▸ hk)),h.s1.srt,h.s1.own⟩
theorem zdM {u u':World} {P M:Nat} {v0 v1:Value} {lo hi md:Int} {s:Nat} {r:Row} {st:JSt} (h:JIs u P M v0 v1 lo hi md st) (hx:Ext u u') (e:Int) (hE:feedE lo hi s r st.x st.y (st.of s).length = e) (h0:e ≠ 0) (h10:e ≠ 10) :
 zbG u P M v0 v1 lo hi md s r st (.returned (.tuple #[.slice none 0 0,.iface 47 (.int .i64 e)])) u':=by
 refine ⟨.slice none 0 0,by rw [hE,errV,if_neg h0],?_,?_⟩
 . unfold zaj;rw [hE,if_neg h0];exact nilC _ _
 . unfold zam;simp only [hE,if_neg h0,if_neg h10];exact JUp.same ⟨v0,v1,h,rfl⟩ hx
theorem zgb {u u':World} {P M:Nat} {v0 v1:Value} {lo hi md:Int} {s:Nat} {r:Row} {st:JSt} (h:JIs u P M v0 v1 lo hi md st) (hx:Ext u u') (hE:feedE lo hi s r st.x st.y (st.of s).length = 10) :
 zbG u P M v0 v1 lo hi md s r st (.returned (.tuple #[.slice none 0 0,.iface 47 (.int .i64 10)])) (u'.setCell ⟨P,6,none⟩ (.int .i64 (wrap64 (st.late + 1)))):=by
 obtain ⟨h1,h2⟩:=(h.ext hx).late (wrap64 (st.late + 1));refine ⟨.slice none 0 0,by rw [hE,errV,if_neg (by decide)],?_,?_⟩
 . unfold zaj;rw [hE,if_neg (by decide)];exact nilC _ _
 . unfold zam;simp only [hE,if_pos];exact ⟨(hx.mono (fun _ _ h=>h.elim):ExtM (fun k=>k = P) u u').fresh' h2 (fun _ _ h=>h) |>.mono (fun k _ e=>.inl e),_,⟨v0,v1,h1,rfl⟩,fun k hk=>.inl hk⟩
theorem Mk.ofE {w w':World} {B:Nat} {x y:Int} (h:Mk w B x y) (hx:Ext w w'):Mk w' B x y:=h.extM hx (fun h=>h)
theorem zpw (B:Nat) (s x y o:Int) (w:World) (h:Mk w B x y) (ho:ofI s x y = o):Calls Tryz.prog 178 #[.pointer (some ⟨B,0,none⟩),.int .i64 s] w fun e w'=>e = .returned (.int .i64 o) /\ w = w' :=
 (of_c B s x y w h).mono fun e w' hh=>by subst ho;exact ⟨hh.1,hh.2.symm⟩
theorem zcM {lo hi rk rt rv x y:Int} {n:Nat} (hg:za3 rk rt rv = true):feedE lo hi 0 ⟨rk,rt,rv⟩ x y n = if rt <= x then 10 else if tilI lo hi 0 rt > y /\ 300 <= n then 12 else 0:=by
 unfold feedE;rw [if_neg (by rw [hg];decide)];rfl
theorem zcZ {lo hi rk rt rv x y:Int} {n:Nat} (hg:za3 rk rt rv = true):feedE lo hi 1 ⟨rk,rt,rv⟩ x y n = if rt <= y then 10 else if tilI lo hi 1 rt > x /\ 300 <= n then 12 else 0:=by
 unfold feedE;rw [if_neg (by rw [hg];decide)];rfl
theorem zcr {rk rt rv:Int} (hg:za3 rk rt rv = true):-1099511627776 <= rt /\ rt <= 1099511627776:=by
 unfold za3 inB at hg;simp only [Bool.and_eq_true,decide_eq_true_eq] at hg;omega
theorem JIs.met1 {u u':World} {P M:Nat} {v0 v1:Value} {lo hi md:Int} {st:JSt} {l:List Hd} (h:JIs u P M v0 v1 lo hi md st) (hS:zaz u' P 4 v1 l) (hx:ExtM (fun k=>v1.ownBlock = some k) u u'):JIs u' P M v0 v1 lo hi md { st with b:=l }:=by
 have k:=fun o=>hx.cell (p:=⟨P,o,none⟩) h.lt h.s1.own;exact ⟨(k _).trans h.c0,(k _).trans h.c1,(k _).trans h.c2,h.s0.extM hx h.s1.own (fun q hq=>h.sep q hq),hS,(k _).trans h.c5,(k _).trans h.c6,(hx.frozen (p:=⟨P,6,none⟩) h.lt h.s1.own).trans h.f6,h.mks.extM hx h.m1,h.ne,h.m0,h.m1,h.sep⟩
theorem JIs.met0 {u u':World} {P M:Nat} {v0 v1:Value} {lo hi md:Int} {st:JSt} {l:List Hd} (h:JIs u P M v0 v1 lo hi md st) (hS:zaz u' P 3 v0 l) (hx:ExtM (fun k=>v0.ownBlock = some k) u u'):JIs u' P M v0 v1 lo hi md { st with a:=l }:=by
 have k:=fun o=>hx.cell (p:=⟨P,o,none⟩) h.lt h.s0.own;exact ⟨(k _).trans h.c0,(k _).trans h.c1,(k _).trans h.c2,hS,h.s1.extM hx h.s0.own (fun q hq e=>h.sep q e hq),(k _).trans h.c5,(k _).trans h.c6,(hx.frozen (p:=⟨P,6,none⟩) h.lt h.s0.own).trans h.f6,h.mks.extM hx h.m0,h.ne,h.m0,h.m1,h.sep⟩
theorem zka (B S o:Nat) (v:Value) (hs:List Hd) (key fr til:Int) (w:World) (h:zaz w S o v hs) (hl:hs.length < 1000000) (hB:v.ownBlock ≠ some B) :
 Calls Tryz.prog 202 #[.pointer (some ⟨S,o,none⟩),.int .i64 key,.int .i64 fr,.int .i64 til] w fun e w'=>∃ vo,e = .returned vo /\ MRow w' w.heap.size vo (hs.filter (zab key fr til)) /\ zaz w' S o v (hs.map (zao (zab key fr til))) /\ ExtM (fun k=>v.ownBlock = some k) w w' /\ ExtK B w w' :=
 (zpp S o v hs key fr til w h hl).mono fun _e _w' ⟨vo,a,b,c,d⟩=>⟨vo,a,b,c,d,d.mono (fun _k _ hk e=>hB (e ▸ hk))⟩
theorem zi1 (B S o:Nat) (v:Value) (hs:List Hd) (x:Hd) (w:World) (h:zaz w S o v hs) (hB:v.ownBlock ≠ some B) (hS:S ≠ B) :
 Calls Tryz.prog 206 #[.pointer (some ⟨S,o,none⟩),.agg #[.int .i64 x.r.k,.int .i64 x.r.t,.int .i64 x.r.v],.int .i64 x.m] w fun e w'=>e = .returned (errV (addE hs x)) /\ ExtK B w w' /\ zco w w' S o v (addL hs x) :=
 (zp0 S o v hs x w h).mono fun _e _w' hh=>⟨hh.1,hh.2.ext.mono (fun _k _ hk e=>hk.elim (fun hk=>hS (hk ▸ e)) (fun hk=>hB (e ▸ hk))),hh.2⟩
theorem zi4 (P:Nat) (md:Int) (u:World) (c2:u.cell? ⟨P,2,none⟩ = some (.int .i64 md)) :
 Calls Tryz.prog 203 #[.pointer (some ⟨P,0,none⟩),.int .i64 1] u fun e u'=>e = .returned (.bool (zai md 1)) /\ u = u':=zjV P md 1 u (by omega) c2
theorem zhL (P:Nat) (md:Int) (u:World) (c2:u.cell? ⟨P,2,none⟩ = some (.int .i64 md)) :
 Calls Tryz.prog 203 #[.pointer (some ⟨P,0,none⟩),.int .i64 0] u fun e u'=>e = .returned (.bool (zai md 0)) /\ u = u':=zjV P md 0 u (by omega) c2
theorem zf6 (md:Int) (s:Nat) (r:Row) (m:Hd):chg1 md s r m = (if (decide (m.m = 0) && zai md (1 - s)) = true then [(zan (1 - s) m.r,true)] else []) ++ [(if s = 0 then zbs r m.r else zbs m.r r,false)]:=by
 unfold chg1;simp only [Bool.and_eq_true,decide_eq_true_eq]
theorem zbD (md:Int) (s:Nat) (r:Row) (ms:List Hd):chgs md s r ms = ms.flatMap (chg1 md s r) ++ (if (decide (ms.length = 0) && zai md s) = true then [(zan s r,false)] else []):=by
 unfold chgs;simp only [Bool.and_eq_true,decide_eq_true_eq,List.length_eq_zero_iff]
theorem zaK (md:Int) (s:Nat) (r:Row):∀ ms:List Hd,(ms.flatMap (chg1 md s r)).length <= 2 * ms.length
 | []=>by simp
 | m :: ms=>by
   rw [List.flatMap_cons,List.length_append,List.length_cons]
   have:=zaK md s r ms
   have:(chg1 md s r m).length <= 2:=by unfold chg1;split <;> simp
   omega
theorem zfu (B:Nat) (s t x y:Int) (b:Bool) (w:World) (h:Mk w B x y) (hb:decide (t <= ofI s x y) = b):Calls Tryz.prog 200 #[.pointer (some ⟨B,0,none⟩),.int .i64 s,.int .i64 t] w fun e w'=>e = .returned (.bool b) /\ Ext w w' :=
 (zoB B s t x y w h).mono fun e w' hh=>by rw [<- hb];exact ⟨hh.1,hh.2 ▸ ExtM.refl _⟩
section
variable {u w5 w6 w7 w8:World} {P M:Nat} {v0 v1 v:Value} {lo hi md:Int} {r:Row} {st:JSt} {ms:List Hd}
theorem zlZ (hE:feedE lo hi 0 r st.x st.y (st.of 0).length = 0) (hb:¬ tilI lo hi 0 r.t > st.y) (hms:st.b.filter (zab r.k (frI lo hi 0 r.t) (tilI lo hi 0 r.t)) = ms) (hX:ExtM (zaE P M v0 v1) u w5) (hx:Ext w5 w6)
 (h7:JIs w6 P M v0 v1 lo hi md { st with b:=st.b.map (zao (zab r.k (frI lo hi 0 r.t) (tilI lo hi 0 r.t))) }) (hrow:CRow w6 w5.heap.size v (chgs md 0 r ms)):zbG u P M v0 v1 lo hi md 0 r st (.returned (.tuple #[v,.nilIface])) w6:=by
 refine ⟨v,by rw [hE];rfl,?_,?_⟩
 . have e:zaj lo hi md 0 r st = chgs md 0 r ms:=by unfold zaj;rw [if_pos hE];subst hms;rfl
   rw [e];exact zak hrow hX.size
 . have e:zam lo hi 0 r st = { st with b:=st.b.map (zao (zab r.k (frI lo hi 0 r.t) (tilI lo hi 0 r.t))) }:=by
    unfold zam;simp only [hE];rw [if_neg (by decide),if_pos trivial];exact if_neg hb
   rw [e];exact ⟨hX.fresh' hx (fun _ _ h=>h.elim),_,⟨v0,v1,h7,rfl⟩,fun k hk=>.inl hk⟩
theorem zj8 (hE:feedE lo hi 0 r st.x st.y (st.of 0).length = 0) (hb:tilI lo hi 0 r.t > st.y) (hms:st.b.filter (zab r.k (frI lo hi 0 r.t) (tilI lo hi 0 r.t)) = ms) (hg:za3 r.k r.t r.v = true) (h:JIs u P M v0 v1 lo hi md st) (hX:ExtM (zaE P M v0 v1) u w5) (hx:Ext w5 w6)
 (h7:JIs w6 P M v0 v1 lo hi md { st with b:=st.b.map (zao (zab r.k (frI lo hi 0 r.t) (tilI lo hi 0 r.t))) }) (hrow:CRow w6 w5.heap.size v (chgs md 0 r ms)) (hu:zco w6 w7 P 3 v0 (addL st.a ⟨r,((ms.length:Nat):Int)⟩)) (hx8:Ext w7 w8):zbG u P M v0 v1 lo hi md 0 r st (.returned (.tuple #[v,.nilIface])) w8:=by
 have hlt:st.a.length < 300:=by
  have hE':(if r.t <= st.x then 10 else if tilI lo hi 0 r.t > st.y /\ 300 <= st.a.length then 12 else 0:Int) = 0:=(zcM (n:=st.a.length) hg).symm.trans hE;by_cases q1:r.t <= st.x
  . rw [if_pos q1] at hE';exact absurd hE' (by decide)
  . rw [if_neg q1] at hE';by_cases q2:tilI lo hi 0 r.t > st.y /\ 300 <= st.a.length
    . rw [if_pos q2] at hE';exact absurd hE' (by decide)
    . omega
 have ha:addL st.a ⟨r,((ms.length:Nat):Int)⟩ = addH st.a ⟨r,((ms.length:Nat):Int)⟩:=by
  have hae:addE st.a ⟨r,((ms.length:Nat):Int)⟩ = 0:=by
   unfold addE;simp only [hg];rw [if_neg (by simp),if_neg (by omega)]
  unfold addL;rw [if_pos hae]
 rw [ha] at hu;refine ⟨v,by rw [hE];rfl,?_,?_⟩
 . have e:zaj lo hi md 0 r st = chgs md 0 r ms:=by unfold zaj;rw [if_pos hE];subst hms;rfl
   rw [e];refine zak (zag (zag hrow hu.ext (fun k hk e=>?_)) hx8 (fun _ _ h=>h)) hX.size;have h1:=(zaf hrow k hk).1;have h2:=hX.size;have h3:=h.foot k (e.elim .inl (fun e=>.inr (.inr (.inl e))));omega
 . have e:zam lo hi 0 r st = { st with a:=addH st.a ⟨r,((ms.length:Nat):Int)⟩,b:=st.b.map (zao (zab r.k (frI lo hi 0 r.t) (tilI lo hi 0 r.t))) }:=by
    unfold zam;simp only [hE];rw [if_neg (by decide),if_pos trivial];subst hms;exact if_pos hb
   rw [e];obtain ⟨j1,j2,j3,j4⟩:=h7.up0 hu;exact JUp.trans (_st1:=st) (hX.fresh' hx (fun _ _ h=>h.elim)) (fun k hk=>.inl hk) ⟨j1.fresh' hx8 (fun _ _ h=>h.elim),j2,j3.ext hx8,j4⟩
theorem zmR (hE:feedE lo hi 1 r st.x st.y (st.of 1).length = 0) (hb:¬ tilI lo hi 1 r.t > st.x) (hms:st.a.filter (zab r.k (frI lo hi 1 r.t) (tilI lo hi 1 r.t)) = ms) (hX:ExtM (zaE P M v0 v1) u w5) (hx:Ext w5 w6)
 (h7:JIs w6 P M v0 v1 lo hi md { st with a:=st.a.map (zao (zab r.k (frI lo hi 1 r.t) (tilI lo hi 1 r.t))) }) (hrow:CRow w6 w5.heap.size v (chgs md 1 r ms)):zbG u P M v0 v1 lo hi md 1 r st (.returned (.tuple #[v,.nilIface])) w6:=by
 refine ⟨v,by rw [hE];rfl,?_,?_⟩
 . have e:zaj lo hi md 1 r st = chgs md 1 r ms:=by unfold zaj;rw [if_pos hE];subst hms;rfl
   rw [e];exact zak hrow hX.size
 . have e:zam lo hi 1 r st = { st with a:=st.a.map (zao (zab r.k (frI lo hi 1 r.t) (tilI lo hi 1 r.t))) }:=by
    unfold zam;simp only [hE];rw [if_neg (by decide),if_pos trivial];exact if_neg hb
   rw [e];exact ⟨hX.fresh' hx (fun _ _ h=>h.elim),_,⟨v0,v1,h7,rfl⟩,fun k hk=>.inl hk⟩
theorem zk7 (hE:feedE lo hi 1 r st.x st.y (st.of 1).length = 0) (hb:tilI lo hi 1 r.t > st.x) (hms:st.a.filter (zab r.k (frI lo hi 1 r.t) (tilI lo hi 1 r.t)) = ms) (hg:za3 r.k r.t r.v = true) (h:JIs u P M v0 v1 lo hi md st) (hX:ExtM (zaE P M v0 v1) u w5) (hx:Ext w5 w6)
 (h7:JIs w6 P M v0 v1 lo hi md { st with a:=st.a.map (zao (zab r.k (frI lo hi 1 r.t) (tilI lo hi 1 r.t))) }) (hrow:CRow w6 w5.heap.size v (chgs md 1 r ms)) (hu:zco w6 w7 P 4 v1 (addL st.b ⟨r,((ms.length:Nat):Int)⟩)) (hx8:Ext w7 w8):zbG u P M v0 v1 lo hi md 1 r st (.returned (.tuple #[v,.nilIface])) w8:=by
 have hlt:st.b.length < 300:=by
  have hE':(if r.t <= st.y then 10 else if tilI lo hi 1 r.t > st.x /\ 300 <= st.b.length then 12 else 0:Int) = 0:=(zcZ (n:=st.b.length) hg).symm.trans hE;by_cases q1:r.t <= st.y
  . rw [if_pos q1] at hE';exact absurd hE' (by decide)
  . rw [if_neg q1] at hE';by_cases q2:tilI lo hi 1 r.t > st.x /\ 300 <= st.b.length
    . rw [if_pos q2] at hE';exact absurd hE' (by decide)
    . omega
 have ha:addL st.b ⟨r,((ms.length:Nat):Int)⟩ = addH st.b ⟨r,((ms.length:Nat):Int)⟩:=by
  have hae:addE st.b ⟨r,((ms.length:Nat):Int)⟩ = 0:=by
   unfold addE;simp only [hg];rw [if_neg (by simp),if_neg (by omega)]
  unfold addL;rw [if_pos hae]
 rw [ha] at hu;refine ⟨v,by rw [hE];rfl,?_,?_⟩
 . have e:zaj lo hi md 1 r st = chgs md 1 r ms:=by unfold zaj;rw [if_pos hE];subst hms;rfl
   rw [e];refine zak (zag (zag hrow hu.ext (fun k hk e=>?_)) hx8 (fun _ _ h=>h)) hX.size;have h1:=(zaf hrow k hk).1;have h2:=hX.size;have h3:=h.foot k (e.elim .inl (fun e=>.inr (.inr (.inr e))));omega
 . have e:zam lo hi 1 r st = { st with b:=addH st.b ⟨r,((ms.length:Nat):Int)⟩,a:=st.a.map (zao (zab r.k (frI lo hi 1 r.t) (tilI lo hi 1 r.t))) }:=by
    unfold zam;simp only [hE];rw [if_neg (by decide),if_pos trivial];subst hms;exact if_pos hb
   rw [e];obtain ⟨j1,j2,j3,j4⟩:=h7.up1 hu;exact JUp.trans (_st1:=st) (hX.fresh' hx (fun _ _ h=>h.elim)) (fun k hk=>.inl hk) ⟨j1.fresh' hx8 (fun _ _ h=>h.elim),j2,j3.ext hx8,j4⟩
end
theorem zos (u:World) (P M:Nat) (v0 v1:Value) (lo hi md:Int) (st:JSt) (rk rt rv:Int) (h:JIs u P M v0 v1 lo hi md st) (hp:zay lo hi) (hl0:st.a.length <= 300) (hl1:st.b.length <= 300) :
 Calls Tryz.prog 174 #[.pointer (some ⟨P,0,none⟩),.int .i64 1,.agg #[.int .i64 rk,.int .i64 rt,.int .i64 rv]] u (zbG u P M v0 v1 lo hi md 1 ⟨rk,rt,rv⟩ st):=by
 have hxb:Ext u (u.alloc (.cells #[.int .i64 rk,.int .i64 rt,.int .i64 rv] 92)):=(ExtM.refl u).alloc _;have lP:=h.lt;have hgd:=fun w=>zdq rk rt rv w;cases hg:za3 rk rt rv with
 | false =>
   rw [hg] at hgd;go_enter Tryz.func174,Tryz.ntmps174;go_wp2_with (go_at_call 199;refine (hgd _).mono ?_;rintro e w1 ⟨rfl,hx1⟩);go_ret2;exact zdM h (ExtM.trans _ _ _ hxb hx1) 1 (by unfold feedE;rw [if_pos hg]) (by decide) (by decide)
 | true =>
   rw [hg] at hgd;have hb1:(u.alloc (.cells #[.int .i64 rk,.int .i64 rt,.int .i64 rv] 92)).cell? ⟨u.heap.size,1,none⟩ = some (.int .i64 rt):=by go_simp
   have hb0:(u.alloc (.cells #[.int .i64 rk,.int .i64 rt,.int .i64 rv] 92)).cell? ⟨u.heap.size,0,none⟩ = some (.int .i64 rk):=by go_simp
   have hb2:(u.alloc (.cells #[.int .i64 rk,.int .i64 rt,.int .i64 rv] 92)).cell? ⟨u.heap.size,2,none⟩ = some (.int .i64 rv):=by go_simp
   have lB:u.heap.size < (u.alloc (.cells #[.int .i64 rk,.int .i64 rt,.int .i64 rv] 92)).heap.size:=by simp
   go_enter Tryz.func174,Tryz.ntmps174;go_wp2_with (go_at_call 199;refine (hgd _).mono ?_;rintro e w1 ⟨rfl,hx1⟩);have hX1:=ExtM.trans _ _ _ hxb hx1;have h1:=h.ext hX1;have k:=fun q=>hx1.cell (p:=⟨u.heap.size,q,none⟩) lB (fun h=>h);have e0:=(k _).trans hb0;have e1:=(k _).trans hb1;have e2:=(k _).trans hb2;have lB1:u.heap.size < w1.heap.size:=Nat.lt_of_lt_of_le lB hx1.size;have lP1:=h1.lt;have c5:=h1.c5;have c6:=h1.c6;have f6:=h1.f6;clear k hb0 hb1 hb2 lB hxb hx1;by_cases hlate:rt <= st.y
   . have hE:feedE lo hi 1 ⟨rk,rt,rv⟩ st.x st.y (st.of 1).length = 10:=by rw [zcZ hg,if_pos hlate]
     refine Plan.b0 Plan.Ext 9 ?_;refine Plan.qs 7 [0,1,2,3,4,5,6] ?_;iterate 7 go_big_quiet_step (fail)
     refine Plan.o1 7 fun K hK=>?_;go_wp2_with (fail);refine (zfu M 1 rt st.x st.y true _ (h1.mks.ofE (ExtM.refl _).drew) (by simp [ofI,hlate])).mono ?_;rintro e w1 ⟨rfl,h1⟩;have H1:=ExtM.trans _ _ _ (ExtM.refl _).drew h1;obtain ⟨hc1,hf1,-⟩:=Ext.rules H1;have hs1_0:P < w1.heap.size:=by have:=H1.size;(try simp at this);omega
     have hs1_1:u.heap.size < w1.heap.size:=by have:=H1.size;(try simp at this);omega
     go_wp2_with (fail);refine hK _ _ h1 ?_;clear hK K;refine Plan.qs 1 [8] ?_;go_big_quiet_step (fail);refine Plan.dn ?_;have c6':=(hc1 _ _ lP1).trans c6;have f6':=(hf1 _ _ lP1).trans f6;clear hc1 hf1;go_wp2_with fail;go_ret2;exact zgb h (ExtM.trans _ _ _ hX1 H1) hE
   . have ht:=zcr hg;refine Plan.b0 Plan.Ext 9 ?_;refine Plan.qs 7 [0,1,2,3,4,5,6] ?_;iterate 7 go_big_quiet_step (fail)
     refine Plan.o1 7 fun K hK=>?_;go_wp2_with (fail);refine (zfu M 1 rt st.x st.y false _ (h1.mks.ofE (ExtM.refl _).drew) (by simp [ofI];omega)).mono ?_;rintro e w2 ⟨rfl,h2⟩;have H2:=ExtM.trans _ _ _ (ExtM.refl _).drew h2;obtain ⟨hc2,hf2,-⟩:=Ext.rules H2;have hs2_0:P < w2.heap.size:=by have:=H2.size;(try simp at this);omega
     have hs2_1:u.heap.size < w2.heap.size:=by have:=H2.size;(try simp at this);omega
     go_wp2_with (fail);refine hK _ _ h2 ?_;clear hK K;refine Plan.qs 1 [8] ?_;go_big_quiet_step (fail);refine Plan.dn ?_;have hX2:=ExtM.trans _ _ _ hX1 H2;have h2:=h1.ext H2;have k:=fun q=>hc2 u.heap.size q lB1;have a0:=(k _).trans e0;have a1:=(k _).trans e1;have a2:=(k _).trans e2;have lB2:=hs2_1;have lP2:=h2.lt;have c5':=h2.c5;clear k hc2 hf2 e0 e1 e2 c5 c6 f6
     go_upto_region 8 with (first
      | (go_at_call 201
         refine (zns P lo hi rt 1 _ (by omega) hp ht h2.c0 h2.c1).mono ?_;rintro e w3 ⟨rfl,hx3⟩
         have c53:=(h2.ext hx3).c5)
      | (go_at_call 178
         refine (zpw M 0 st.x st.y st.x _ (h2.ext hx3).mks rfl).mono ?_
         rintro e w4 ⟨rfl,rfl⟩))
     have hX3:=ExtM.trans _ _ _ hX2 hx3;have h3:=h2.ext hx3;have k:=fun q=>hx3.cell (p:=⟨u.heap.size,q,none⟩) lB2 (fun h=>h);have b0:=(k _).trans a0;have b1:=(k _).trans a1;have b2:=(k _).trans a2;have lB3:u.heap.size < w3.heap.size:=Nat.lt_of_lt_of_le lB2 hx3.size;have lP3:=h3.lt;have nB:∀ k,zaE P M v0 v1 k -> k ≠ u.heap.size:=fun k hk=>by have:=h.foot k hk;omega
     clear k a0 a1 a2 c5' c53 lB2 lP2 lB1 lP1 hX1 hX2 h2 H2 hx3 h1 hs2_0 hs2_1;generalize hT:tilI lo hi 1 rt = T at *;generalize hF:frI lo hi 1 rt = F at *;generalize hbE:decide (st.x < T) = hb at *;have HT:=Lib.hid hT;have HF:=Lib.hid hF;have HBE:=Lib.hid hbE;have HG:=Lib.hid hg;have HLA:=Lib.hid hlate;clear hT hF hbE hg hlate;have hm:=zia P 4 v1 st.b _ h3.s1;go_cut [71] (fun s71 wx=>s71 = .bool (hb && decide ((300:Int) <= (st.b.length:Int))) /\ wx = w3)
     case first =>
      cases hb
      . go_wp2_with fail;go_meet
        case rel=>exact ⟨by simp,rfl⟩
      . go_wp2_with (go_at_call 173;refine hm.mono ?_;rintro e w' ⟨rfl,rfl⟩);go_meet
        case rel=>exact ⟨by simp,rfl⟩
     case rest =>
      obtain ⟨rfl,rfl⟩:=hcut;cases hfull:(hb && decide ((300:Int) <= (st.b.length:Int))) with
      | true =>
        have hE:feedE lo hi 1 ⟨rk,rt,rv⟩ st.x st.y (st.of 1).length = 12:=by
         simp only [Bool.and_eq_true,decide_eq_true_eq] at hfull;have h1:=HBE.out;rw [hfull.1] at h1;have h2:st.x < T:=by simpa using h1
         rw [zcZ HG.out,if_neg (by have:=HLA.out;omega),HT.out,if_pos];exact ⟨h2,by show 300 <= st.b.length;omega⟩
        go_wp2_with fail;go_ret2;exact zdM h hX3 12 hE (by decide) (by decide)
      | false =>
        have hE:feedE lo hi 1 ⟨rk,rt,rv⟩ st.x st.y (st.of 1).length = 0:=by
         rw [zcZ HG.out,if_neg (by have:=HLA.out;omega),HT.out,if_neg];rintro ⟨h1,h2⟩;have h3:=HBE.out;have h2':300 <= st.b.length:=h2;rw [<- h3] at hfull;simp only [Bool.and_eq_false_iff,decide_eq_false_iff_not] at hfull;omega
        have nb1:v1.ownBlock ≠ some u.heap.size:=fun e=>nB _ (.inr (.inr (.inr e))) rfl;have nb0:v0.ownBlock ≠ some u.heap.size:=fun e=>nB _ (.inr (.inr (.inl e))) rfl;have HFU:=Lib.hid hfull;have HE:=Lib.hid hE;clear hfull hE;go_wp2_with fail;refine Plan.b0 (Plan.ExtK u.heap.size) 12 ?_;refine Plan.qs 10 [0,1,2,3,4,5,6,7,8,9] ?_;iterate 10 go_big_quiet_step (fail)
        refine Plan.o1 10 fun K hK=>?_;go_wp2_with (fail);refine (zka u.heap.size P 3 v0 st.a rk F T _ (h3.s0.ext (ExtM.refl _).drew) (by omega) nb0).mono ?_;rintro e w5 ⟨vo,rfl,hmr,hS,hxo,h5⟩;have H5:=ExtK.trans _ _ _ (ExtK.refl _).drew h5;obtain ⟨hc5,hf5,-⟩:=ExtK.rules H5;have hs5_0:u.heap.size < w5.heap.size:=by have:=H5.size;(try simp at this);omega
        go_wp2_with (fail);refine hK _ _ h5 ?_;clear hK K;refine Plan.qs 1 [11] ?_;go_big_quiet_step (fail);refine Plan.dn ?_;have hxo:ExtM (fun k=>v0.ownBlock = some k) wc w5:=⟨hxo.os,hxo.tape,hxo.output,hxo.size,hxo.block⟩
        have h5:=h3.met0 hS hxo;have hXo:ExtM (zaE P M v0 v1) u w5:=(hX3.mono (fun _ _ h=>h.elim):ExtM (zaE P M v0 v1) u wc).fresh' hxo (fun k _ hk=>.inr (.inr (.inl hk)));have k:=fun q=>hc5 q lB3;have b0':=(k _).trans b0;have b1':=(k _).trans b1;have b2':=(k _).trans b2;clear k hc5 hf5 b0 b1 b2 hm h3 hS hxo H5;have lB5:=hs5_0;have lP5:=h5.lt;have hmd:=h5.c2;obtain ⟨pm,cm,rfl,-⟩:=zaa hmr;have hmle:(st.a.filter (zab rk F T)).length <= 300:=Nat.le_trans (List.length_filter_le _ _) hl0;generalize hms:st.a.filter (zab rk F T) = ms at *;have HMS:=Lib.hid hms;clear hms;go_wp2_with fail;go_loopg [11,86] (ms.length + 1) (fun kx s11 s86 wr=>∃ i:Nat,s86 = .int .i64 i /\ i <= ms.length /\ ms.length - i <= kx /\ Ext w5 wr /\ CRow wr w5.heap.size s11 ((ms.take i).flatMap (chg1 md 1 ⟨rk,rt,rv⟩)))
        case atStart=>exact ⟨0,rfl,by omega,by omega,ExtM.refl _,nilC _ _⟩
        case round =>
         obtain ⟨i,rfl,hin,hgk,hx,hrow⟩:=hrel;by_cases hil:i < ms.length
         . skip;obtain ⟨g,mc,e',hgl,y0,y1,y2,y3⟩:=zc9 (zag hmr hx (fun _ _ h=>h):MRow wr _ _ _) i ms[i] (List.getElem?_eq_getElem hil);simp only [Value.slice.injEq,true_and] at e';obtain ⟨rfl,rfl⟩:=e';have HTK:=Lib.hid (List.take_succ_eq_append_getElem hil);have hfl:=zaK md 1 ⟨rk,rt,rv⟩ (ms.take i);rw [List.length_take] at hfl;generalize ms[i] = m at *;have k:=fun q=>hx.cell (p:=⟨u.heap.size,q,none⟩) lB5 (fun h=>h);have b0:=(k _).trans b0';have b1:=(k _).trans b1';have b2:=(k _).trans b2';have lB6:u.heap.size < wr.heap.size:=Nat.lt_of_lt_of_le lB5 hx.size;have hmd':=(hx.cell (p:=⟨P,2,none⟩) lP5 (fun h=>h)).trans hmd;have lP6:P < wr.heap.size:=Nat.lt_of_lt_of_le lP5 hx.size;clear k;go_upto_region 15 with fail;have hxm:Ext wr (wr.alloc (.cells #[.int .i64 m.r.k,.int .i64 m.r.t,.int .i64 m.r.v,.int .i64 m.m] 221)):=(ExtM.refl wr).alloc _;have n0:(wr.alloc (.cells #[.int .i64 m.r.k,.int .i64 m.r.t,.int .i64 m.r.v,.int .i64 m.m] 221)).cell? ⟨wr.heap.size,0,none⟩ = some (.int .i64 m.r.k):=by go_simp
           have n1:(wr.alloc (.cells #[.int .i64 m.r.k,.int .i64 m.r.t,.int .i64 m.r.v,.int .i64 m.m] 221)).cell? ⟨wr.heap.size,1,none⟩ = some (.int .i64 m.r.t):=by go_simp
           have n2:(wr.alloc (.cells #[.int .i64 m.r.k,.int .i64 m.r.t,.int .i64 m.r.v,.int .i64 m.m] 221)).cell? ⟨wr.heap.size,2,none⟩ = some (.int .i64 m.r.v):=by go_simp
           have n3:(wr.alloc (.cells #[.int .i64 m.r.k,.int .i64 m.r.t,.int .i64 m.r.v,.int .i64 m.m] 221)).cell? ⟨wr.heap.size,3,none⟩ = some (.int .i64 m.m):=by go_simp
           have lm:wr.heap.size < (wr.alloc (.cells #[.int .i64 m.r.k,.int .i64 m.r.t,.int .i64 m.r.v,.int .i64 m.m] 221)).heap.size:=by simp
           have hxw:Ext w5 (wr.alloc (.cells #[.int .i64 m.r.k,.int .i64 m.r.t,.int .i64 m.r.v,.int .i64 m.m] 221)):=ExtM.trans _ _ _ hx hxm;have k:=fun q=>hxm.cell (p:=⟨u.heap.size,q,none⟩) lB6 (fun h=>h);have B0:=(k _).trans b0;have B1:=(k _).trans b1;have B2:=(k _).trans b2;have hmdm:=(hxm.cell (p:=⟨P,2,none⟩) lP6 (fun h=>h)).trans hmd';have hrowm:=hrow.of hxm;have lBm:u.heap.size < (wr.alloc (.cells #[.int .i64 m.r.k,.int .i64 m.r.t,.int .i64 m.r.v,.int .i64 m.m] 221)).heap.size:=Nat.lt_of_lt_of_le lB6 hxm.size;clear k b0 b1 b2 hmd' hxm y0 y1 y2 y3;generalize wr.alloc (.cells #[.int .i64 m.r.k,.int .i64 m.r.t,.int .i64 m.r.v,.int .i64 m.m] 221) = Wm at *;have hsw:w5.heap.size <= wr.heap.size:=hx.size;have hge:∀ k,u11.ownBlock = some k -> w5.heap.size <= k /\ k ≠ wr.heap.size:=fun k hk=>⟨(zaf hrow k hk).1,by have:=(zaf hrow k hk).2;omega⟩
           clear hrow;generalize wr.heap.size = Bm at *;go_cut [98] (fun s98 wx=>s98 = .bool (decide (m.m = 0) && zai md 0) /\ wx = Wm)
           case first =>
            by_cases hm0:m.m = 0
            . have d0:(m.m == 0) = true:=by simp [hm0]
              have HM0:=Lib.hid hm0;clear hm0;go_wp2_with (go_at_call 203;refine (zhL P md _ hmdm).mono ?_;rintro e w' ⟨rfl,rfl⟩);go_meet
              case rel=>exact ⟨by simp [HM0.out],rfl⟩
            . have d0:(m.m == 0) = false:=by simp [hm0]
              have HM0:=Lib.hid hm0;clear hm0;go_wp2_with fail;go_meet
              case rel=>exact ⟨by simp [HM0.out],rfl⟩
           case rest =>
            obtain ⟨rfl,rfl⟩:=hcut;generalize hq:(decide (m.m = 0) && zai md 0) = q at *;have HQ:=Lib.hid hq;clear hq;go_upto_if 98 with fail;go_cut [11] (fun s11 wx=>ExtM (fun k=>w5.heap.size <= k /\ k ≠ Bm) wc wx /\ CRow wx w5.heap.size s11 ((ms.take i).flatMap (chg1 md 1 ⟨rk,rt,rv⟩) ++ (if q = true then [(zan 0 m.r,true)] else [])))
            case first =>
             cases q
             . go_wp2_with fail;go_meet
               case rel=>exact ⟨ExtM.refl _,by simpa using hrowm⟩
             . go_wp2_with (first
                | (go_at_call 204
                   refine (zfk _ _ _ _).mono ?_;rintro e w6 ⟨rfl,hx6⟩;have hl6:((ms.take i).flatMap (chg1 md 1 ⟨rk,rt,rv⟩)).length < 1000000:=by omega
                   obtain ⟨v',w',happ,hown',hgr',-⟩:=zat (w6.alloc (.cells #[.int .i64 m.r.k,.int .i64 m.r.k,.int .i64 m.r.t,.int .i64 m.r.v,.int .i64 0,.int .i64 0,.int .i64 0,.bool true,.bool false,.bool true] 96)) w5.heap.size w6.heap.size 1 u11 _ (zan 0 m.r,true) 88 (hrowm.of (hx6.alloc _)) (zdD w6 (zan 0 m.r,true)) hl6 (by have:=hx6.size;have:=hxw.size;simp;omega)
                   have HG':=Lib.hid (ExtM.fresh' ((hx6.alloc _).mono (fun _ _ h=>h.elim):ExtM (fun k=>w5.heap.size <= k /\ k ≠ Bm) _ _) hgr' (fun k hk e=>hge k e)))
                | (at_builtin;refine wpList_append_run happ rfl rfl _ _ rfl rfl rfl ?_;clear happ))
               go_meet
               case rel=>exact ⟨HG'.out,hown'⟩
            case rest =>
             obtain ⟨hxc,hrowc⟩:=hcut;have k:=fun q=>hxc.cell (p:=⟨u.heap.size,q,none⟩) lBm (fun h=>by have:=h.1;simp at this;omega);have C0:=(k _).trans B0;have C1:=(k _).trans B1;have C2:=(k _).trans B2;have k2:=fun q=>hxc.cell (p:=⟨Bm,q,none⟩) lm (fun h=>h.2 rfl);have N0:=(k2 _).trans n0;have N1:=(k2 _).trans n1;have N2:=(k2 _).trans n2;have hxw2:Ext w5 _:=hxw.fresh hxc (fun k hk e=>by omega);clear k k2 B0 B1 B2 n0 n1 n2 n3 hxc;have HXW:=Lib.hid hxw2;clear hxw2
             go_wp2_with (first
              | (go_at_call 205
                 refine (zkN _ _ _ _ _ _ _).mono ?_;rintro e w7 ⟨rfl,hx7⟩;have hl7:((ms.take i).flatMap (chg1 md 1 ⟨rk,rt,rv⟩) ++ (if q = true then [(zan 0 m.r,true)] else [])).length < 1000000:=by
                  rw [List.length_append];have:(if q = true then [(zan 0 m.r,true)] else []:List (Out × Bool)).length <= 1:=by split <;> simp
                  omega
                 obtain ⟨v',w',happ,hown',hgr',-⟩:=zat (w7.alloc (.cells #[.int .i64 m.r.k,.int .i64 m.r.k,.int .i64 m.r.t,.int .i64 m.r.v,.int .i64 rk,.int .i64 rt,.int .i64 rv,.bool true,.bool true,.bool false] 96)) w5.heap.size w7.heap.size 1 _ _ (zbs m.r ⟨rk,rt,rv⟩,false) 88 (hrowc.of (hx7.alloc _)) (zdD w7 (zbs m.r ⟨rk,rt,rv⟩,false)) hl7 (by have:=hx7.size;have:=HXW.out.size;simp;omega)
                 have HG':=Lib.hid (ExtM.fresh' ((hx7.alloc _).mono (fun _ _ h=>h.elim):ExtM (fun k=>w5.heap.size <= k) _ _) hgr' (fun k hk e=>(zaf hrowc k e).1)))
              | (at_builtin;refine wpList_append_run happ rfl rfl _ _ rfl rfl rfl ?_;clear happ))
             go_roundg (ms.length - (i + 1))
             case measure=>omega
             case rel =>
              refine ⟨i + 1,by simp,by omega,by omega,HXW.out.fresh' HG'.out (fun k hk e=>by omega),?_⟩;rw [HTK.out,List.flatMap_append,List.flatMap_cons,List.flatMap_nil,List.append_nil,zf6,HQ.out,<- List.append_assoc];exact hown'
         . have hie:i = ms.length:=by omega
           subst hie;have hrow':=hrow;rw [List.take_length] at hrow';have k:=fun q=>hx.cell (p:=⟨u.heap.size,q,none⟩) lB5 (fun h=>h);have b0:=(k _).trans b0';have b1:=(k _).trans b1';have b2:=(k _).trans b2';have lB6:u.heap.size < wr.heap.size:=Nat.lt_of_lt_of_le lB5 hx.size;have hmd':=(hx.cell (p:=⟨P,2,none⟩) lP5 (fun h=>h)).trans hmd;have lP6:P < wr.heap.size:=Nat.lt_of_lt_of_le lP5 hx.size;have h6:=h5.ext hx;clear k hrow hgk hin hil;go_upto_region 21 with fail;go_cut [134] (fun s134 wx=>s134 = .bool (decide (ms.length = 0) && zai md 1) /\ wx = wr)
           case first =>
            by_cases hm0:ms.length = 0
            . have d0:((ms.length:Int) == 0) = true:=by simp [hm0]
              have HM0:=Lib.hid hm0;clear hm0;go_wp2_with (go_at_call 203;refine (zi4 P md _ hmd').mono ?_;rintro e w' ⟨rfl,rfl⟩);go_meet
              case rel=>exact ⟨by simp [HM0.out],rfl⟩
            . have d0:((ms.length:Int) == 0) = false:=by simp [hm0]
              have HM0:=Lib.hid hm0;clear hm0;go_wp2_with fail;go_meet
              case rel=>exact ⟨by simp [HM0.out],rfl⟩
           case rest =>
            obtain ⟨rfl,rfl⟩:=hcut;generalize hq:(decide (ms.length = 0) && zai md 1) = q at *;have HQ:=Lib.hid hq;clear hq;go_upto_if 134 with fail;go_cut [11] (fun s11 wx=>ExtM (fun k=>w5.heap.size <= k) wc wx /\ Ext w5 wx /\ CRow wx w5.heap.size s11 (chgs md 1 ⟨rk,rt,rv⟩ ms))
            case first =>
             cases q
             . go_wp2_with fail;go_meet
               case rel =>
                refine ⟨ExtM.refl _,hx,?_⟩;rw [zbD,HQ.out,if_neg (by decide),List.append_nil];exact hrow'
             . go_wp2_with (first
                | (go_at_call 204
                   refine (zfN _ _ _ _).mono ?_;rintro e w6 ⟨rfl,hx6⟩;have hl6:(ms.flatMap (chg1 md 1 ⟨rk,rt,rv⟩)).length < 1000000:=by
                    have:=zaK md 1 ⟨rk,rt,rv⟩ ms
                    omega
                   obtain ⟨v',w',happ,hown',hgr',-⟩:=zat (w6.alloc (.cells #[.int .i64 rk,.int .i64 0,.int .i64 0,.int .i64 0,.int .i64 rk,.int .i64 rt,.int .i64 rv,.bool false,.bool true,.bool false] 96)) w5.heap.size w6.heap.size 1 _ _ (zan 1 ⟨rk,rt,rv⟩,false) 88 (hrow'.of (hx6.alloc _)) (zdD w6 (zan 1 ⟨rk,rt,rv⟩,false)) hl6 (by have:=hx6.size;have:=hx.size;simp;omega)
                   have HG':=Lib.hid (ExtM.fresh' ((hx6.alloc _).mono (fun _ _ h=>h.elim):ExtM (fun k=>w5.heap.size <= k) _ _) hgr' (fun k hk e=>(zaf hrow' k e).1)))
                | (at_builtin;refine wpList_append_run happ rfl rfl _ _ rfl rfl rfl ?_;clear happ))
               go_meet
               case rel =>
                refine ⟨HG'.out,hx.fresh' HG'.out (fun k hk e=>by omega),?_⟩;rw [zbD,HQ.out,if_pos rfl];exact hown'
            case rest =>
             obtain ⟨hxc,hxt,hrowt⟩:=hcut;have k:=fun q=>hxc.cell (p:=⟨u.heap.size,q,none⟩) lB6 (fun h=>by have h':w5.heap.size <= u.heap.size:=h;omega);have C0:=(k _).trans b0;have C1:=(k _).trans b1;have C2:=(k _).trans b2;have h7:=h5.ext hxt;clear k b0 b1 b2 hxc hmd' h6;go_upto_region 23 with fail;cases hb with
             | false =>
               go_wp2_with fail;go_ret2;have e1:=HT.out;have e2:=HF.out;have e3:=HBE.out;subst e1 e2;exact zmR HE.out (by simpa using e3) HMS.out hXo hxt h7 hrowt
             | true =>
               have hne:P ≠ u.heap.size:=by omega
               have lB7:u.heap.size < wc.heap.size:=Nat.lt_of_lt_of_le lB5 hxt.size;go_wp2_with fail;refine Plan.b0 (Plan.ExtK u.heap.size) 9 ?_;refine Plan.qs 8 [0,1,2,3,4,5,6,7] ?_;iterate 8 go_big_quiet_step (fail)
               refine Plan.o1 8 fun K hK=>?_;go_wp2_with (fail);refine (zi1 u.heap.size P 4 v1 st.b ⟨⟨rk,rt,rv⟩,((ms.length:Nat):Int)⟩ _ (h7.s1.ext (ExtM.refl _).drew) nb1 hne).mono ?_;rintro e w8 ⟨rfl,h8,hu⟩;have H8:=ExtK.trans _ _ _ (ExtK.refl _).drew h8;obtain ⟨hc8,hf8,-⟩:=ExtK.rules H8;have hs8_0:u.heap.size < w8.heap.size:=by have:=H8.size;(try simp at this);omega
               go_wp2_with (fail);refine hK _ _ h8 ?_;clear hK K;refine Plan.dn ?_;go_wp2_with fail;go_ret2;have e1:=HT.out;have e2:=HF.out;have e3:=HBE.out;subst e1 e2;exact zk7 HE.out (by simpa using e3) HMS.out HG.out h hXo hxt.drew (h7.ext (ExtM.refl _).drew) (hrowt.of (ExtM.refl _).drew) hu (ExtM.refl _)
end Go.Proofs.YtiknejbcehpmoaaGreatDoor
