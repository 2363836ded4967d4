import Derived.Test.YtmcgnnmffeojpabGreatDoorPk19
import Derived.Deep.DeepCutAuto
import Derived.Deep.CutBlock
set_option maxRecDepth 100000
set_option maxHeartbeats 8000000
namespace Go.Proofs.YtmcgnnmffeojpabGreatDoor
open Go.RowKit Go.Plan
def outL (o:Out):List Value:=[.int .i64 o.key,.int .i64 o.l.k,.int .i64 o.l.t,.int .i64 o.l.v,.int .i64 o.r.k,.int .i64 o.r.t,.int .i64 o.r.v,.bool o.hl,.bool o.hr]
def chgL (c:Out × Bool):List Value:=outL c.1 ++ [.bool c.2]
theorem zfv (c:Out × Bool):(chgL c).length = 10:=rfl
theorem zor (c:Out × Bool):∀ v ∈ chgL c,v.oneCell' = true:=by
 intro v hv;simp only [chgL,outL,List.cons_append,List.nil_append,List.mem_cons,List.not_mem_nil,or_false] at hv;rcases hv with rfl | rfl | rfl | rfl | rfl | rfl | rfl | rfl | rfl | rfl <;> rfl
def CRow (w:World) (base:Nat) (v:Value) (l:List (Out × Bool)):Prop:=w.ownsRow base 92 10 v l.length (l.flatMap chgL)
theorem znE:(Tryz.prog.info? 92).map (fun i=>(i.zero,i.size,i.bytes)) = some (some (.agg #[.int .i64 0,.int .i64 0,.int .i64 0,.int .i64 0,.int .i64 0,.int .i64 0,.int .i64 0,.bool false,.bool false,.bool false]),10,72):=by kernel_rfl
theorem zat (W:World) (base nb c:Nat) (v:Value) (acc:List (Out × Bool)) (x:Out × Bool) (ty:TypeId) (hown:CRow W base v acc) (hx:∀ j u,(chgL x)[j]? = some u -> W.cell? ⟨nb,j,none⟩ = some u) (hl:acc.length < 1000000) (hb:base <= W.heap.size) :
 ∃ v' w',(Builtin.append_ #[33,33] ty #[v,.slice (some ⟨nb,0,none⟩) 1 c]).run Tryz.prog W = .ok v' w' /\ CRow w' base v' (acc ++ [x]) /\ ExtR v.ownBlock W w' /\ (v'.ownBlock = v.ownBlock \/ ∃ k,v'.ownBlock = some k /\ W.heap.size <= k) :=
 zb8 zfv zor 33 _ 72 znE rfl (by decide) Tryz.underlying33 (by decide) W base nb c v acc x ty hown hx hl hb
theorem CRow.of {w w':World} {b:Nat} {v:Value} {l:List (Out × Bool)} (h:CRow w b v l) (hx:Ext w w'):CRow w' b v l:=zag h hx (fun _ _ h=>h)
theorem zdD (W:World) (x:Out × Bool):∀ j u,(chgL x)[j]? = some u -> (W.alloc (.cells #[.int .i64 x.1.key,.int .i64 x.1.l.k,.int .i64 x.1.l.t,.int .i64 x.1.l.v,.int .i64 x.1.r.k,.int .i64 x.1.r.t,.int .i64 x.1.r.v,.bool x.1.hl,.bool x.1.hr,.bool x.2] 92)).cell? ⟨W.heap.size,j,none⟩ = some u:=fun j u hj =>
 (World.cell?_alloc_at _ _ _ j (by simp)).trans (by simpa [chgL,outL] using hj)
theorem zfk (k t v:Int) (w:World):Calls Tryz.prog 92 #[.int .i64 0,.agg #[.int .i64 k,.int .i64 t,.int .i64 v]] w fun e w'=>e = .returned (.agg #[.int .i64 k,.int .i64 k,.int .i64 t,.int .i64 v,.int .i64 0,.int .i64 0,.int .i64 0,.bool true,.bool false]) /\ Ext w w':=by
 have:=zj9 0 k t v w
 rwa [if_pos rfl] at this
theorem zfN (k t v:Int) (w:World):Calls Tryz.prog 92 #[.int .i64 1,.agg #[.int .i64 k,.int .i64 t,.int .i64 v]] w fun e w'=>e = .returned (.agg #[.int .i64 k,.int .i64 0,.int .i64 0,.int .i64 0,.int .i64 k,.int .i64 t,.int .i64 v,.bool false,.bool true]) /\ Ext w w':=by
 have:=zj9 1 k t v w
 rwa [if_neg (by decide)] at this
def zbG (u:World) (P M:Nat) (v0 v1:Value) (lo hi md:Int) (s:Nat) (r:Row) (st:JSt) (e:Ending) (u':World):Prop :=
 ∃ vo,e = .returned (.tuple #[vo,errV (feedE lo hi s r st.x st.y (st.of s).length)]) /\ CRow u' u.heap.size vo (zaj lo hi md s r st) /\ JUp u u' P M (zaE P M v0 v1) lo hi md (zam lo hi s r st)
theorem nilC (base:Nat) (w:World):CRow w base (.slice none 0 0) []:=⟨rfl,.inl ⟨rfl,rfl⟩⟩
theorem JIs.late {u:World} {P M:Nat} {v0 v1:Value} {lo hi md:Int} {st:JSt} (h:JIs u P M v0 v1 lo hi md st) (x:Int):JIs (u.setCell ⟨P,6,none⟩ (.int .i64 x)) P M v0 v1 lo hi md { st with late:=x } /\ ExtM (fun k=>k = P) u (u.setCell ⟨P,6,none⟩ (.int .i64 x)):=by
 have hx:ExtM (fun k=>k = P) u (u.setCell ⟨P,6,none⟩ (.int .i64 x)):=ExtM.setCell (M:=fun k=>k = P) (ExtM.refl u) (p:=⟨P,6,none⟩) (.inr rfl) _;have hc:∀ o,o ≠ 6 -> (u.setCell ⟨P,6,none⟩ (.int .i64 x)).cell? ⟨P,o,none⟩ = u.cell? ⟨P,o,none⟩:=fun o ho=>World.cell?_setCell_other _ _ _ _ (by intro e;simp only [Addr.mk.injEq,and_true,true_and] at e;omega);have hf:∀ o,(u.setCell ⟨P,6,none⟩ (.int .i64 x)).frozen? ⟨P,o,none⟩ = u.frozen? ⟨P,o,none⟩:=fun o=>World.frozen?_setCell _ _ _ _;refine ⟨⟨(hc 0 (by decide)).trans h.c0,(hc 1 (by decide)).trans h.c1,(hc 2 (by decide)).trans h.c2,?_,?_,(hc 5 (by decide)).trans h.c5,World.cell?_setCell_same _ _ _ h.c6,(hf 6).trans h.f6,h.mks.extM hx (fun e=>h.ne e.symm),h.ne,h.m0,h.m1,h.sep⟩,hx⟩
 . exact ⟨(hc 3 (by decide)).trans h.s0.c0,(hf 3).trans h.s0.fz,h.s0.row.ext hx (fun k hk e=>h.s0.own (e ▸ hk)),h.s0.srt,h.s0.own⟩
 . exact ⟨(hc 4 (by decide)).trans h.s1.c0,(hf 4).trans h.s1.fz,h.s1.row.ext hx (fun k hk e=>h.s1.own (e ▸ hk)),h.s1.srt,h.s1.own⟩
theorem zdM {u u':World} {P M:Nat} {v0 v1:Value} {lo hi md:Int} {s:Nat} {r:Row} {st:JSt} (h:JIs u P M v0 v1 lo hi md st) (hx:Ext u u') (e:Int) (hE:feedE lo hi s r st.x st.y (st.of s).length = e) (h0:e ≠ 0) (h10:e ≠ 10) :
 zbG u P M v0 v1 lo hi md s r st (.returned (.tuple #[.slice none 0 0,.iface 24 (.int .i64 e)])) u':=by
 refine ⟨.slice none 0 0,by rw [hE,errV,if_neg h0],?_,?_⟩
 . unfold zaj;rw [hE,if_neg h0];exact nilC _ _
 . unfold zam;simp only [hE,if_neg h0,if_neg h10];exact JUp.same ⟨v0,v1,h,rfl⟩ hx
theorem zgb {u u':World} {P M:Nat} {v0 v1:Value} {lo hi md:Int} {s:Nat} {r:Row} {st:JSt} (h:JIs u P M v0 v1 lo hi md st) (hx:Ext u u') (hE:feedE lo hi s r st.x st.y (st.of s).length = 10) :
 zbG u P M v0 v1 lo hi md s r st (.returned (.tuple #[.slice none 0 0,.iface 24 (.int .i64 10)])) (u'.setCell ⟨P,6,none⟩ (.int .i64 (wrap64 (st.late + 1)))):=by
 obtain ⟨h1,h2⟩:=(h.ext hx).late (wrap64 (st.late + 1));refine ⟨.slice none 0 0,by rw [hE,errV,if_neg (by decide)],?_,?_⟩
 . unfold zaj;rw [hE,if_neg (by decide)];exact nilC _ _
 . unfold zam;simp only [hE,if_pos];exact ⟨(hx.mono (fun _ _ h=>h.elim):ExtM (fun k=>k = P) u u').fresh' h2 (fun _ _ h=>h) |>.mono (fun k _ e=>.inl e),_,⟨v0,v1,h1,rfl⟩,fun k hk=>.inl hk⟩
theorem Mk.ofE {w w':World} {B:Nat} {x y:Int} (h:Mk w B x y) (hx:Ext w w'):Mk w' B x y:=h.extM hx (fun h=>h)
theorem zpw (B:Nat) (s x y o:Int) (w:World) (h:Mk w B x y) (ho:ofI s x y = o):Calls Tryz.prog 88 #[.pointer (some ⟨B,0,none⟩),.int .i64 s] w fun e w'=>e = .returned (.int .i64 o) /\ w = w' :=
 (of_c B s x y w h).mono fun e w' hh=>by subst ho;exact ⟨hh.1,hh.2.symm⟩
theorem zcM {lo hi rk rt rv x y:Int} {n:Nat} (hg:za3 rk rt rv = true):feedE lo hi 0 ⟨rk,rt,rv⟩ x y n = if rt <= x then 10 else if tilI lo hi 0 rt > y /\ 300 <= n then 12 else 0:=by
 unfold feedE;rw [if_neg (by rw [hg];decide)];rfl
theorem zcZ {lo hi rk rt rv x y:Int} {n:Nat} (hg:za3 rk rt rv = true):feedE lo hi 1 ⟨rk,rt,rv⟩ x y n = if rt <= y then 10 else if tilI lo hi 1 rt > x /\ 300 <= n then 12 else 0:=by
 unfold feedE;rw [if_neg (by rw [hg];decide)];rfl
theorem zcr {rk rt rv:Int} (hg:za3 rk rt rv = true):-1099511627776 <= rt /\ rt <= 1099511627776:=by
 unfold za3 inB at hg;simp only [Bool.and_eq_true,decide_eq_true_eq] at hg;omega
theorem JIs.met1 {u u':World} {P M:Nat} {v0 v1:Value} {lo hi md:Int} {st:JSt} {l:List Hd} (h:JIs u P M v0 v1 lo hi md st) (hS:zaz u' P 4 v1 l) (hx:ExtM (fun k=>v1.ownBlock = some k) u u'):JIs u' P M v0 v1 lo hi md { st with b:=l }:=by
 have k:=fun o=>hx.cell (p:=⟨P,o,none⟩) h.lt h.s1.own;exact ⟨(k _).trans h.c0,(k _).trans h.c1,(k _).trans h.c2,h.s0.extM hx h.s1.own (fun q hq=>h.sep q hq),hS,(k _).trans h.c5,(k _).trans h.c6,(hx.frozen (p:=⟨P,6,none⟩) h.lt h.s1.own).trans h.f6,h.mks.extM hx h.m1,h.ne,h.m0,h.m1,h.sep⟩
theorem JIs.met0 {u u':World} {P M:Nat} {v0 v1:Value} {lo hi md:Int} {st:JSt} {l:List Hd} (h:JIs u P M v0 v1 lo hi md st) (hS:zaz u' P 3 v0 l) (hx:ExtM (fun k=>v0.ownBlock = some k) u u'):JIs u' P M v0 v1 lo hi md { st with a:=l }:=by
 have k:=fun o=>hx.cell (p:=⟨P,o,none⟩) h.lt h.s0.own;exact ⟨(k _).trans h.c0,(k _).trans h.c1,(k _).trans h.c2,hS,h.s1.extM hx h.s0.own (fun q hq e=>h.sep q e hq),(k _).trans h.c5,(k _).trans h.c6,(hx.frozen (p:=⟨P,6,none⟩) h.lt h.s0.own).trans h.f6,h.mks.extM hx h.m0,h.ne,h.m0,h.m1,h.sep⟩
theorem zka (B S o:Nat) (v:Value) (hs:List Hd) (key fr til:Int) (w:World) (h:zaz w S o v hs) (hl:hs.length < 1000000) (hB:v.ownBlock ≠ some B) :
 Calls Tryz.prog 90 #[.pointer (some ⟨S,o,none⟩),.int .i64 key,.int .i64 fr,.int .i64 til] w fun e w'=>∃ vo,e = .returned vo /\ MRow w' w.heap.size vo (hs.filter (zab key fr til)) /\ zaz w' S o v (hs.map (zao (zab key fr til))) /\ ExtM (fun k=>v.ownBlock = some k) w w' /\ ExtK B w w' :=
 (zpp S o v hs key fr til w h hl).mono fun _e _w' ⟨vo,a,b,c,d⟩=>⟨vo,a,b,c,d,d.mono (fun _k _ hk e=>hB (e ▸ hk))⟩
theorem zi1 (B S o:Nat) (v:Value) (hs:List Hd) (x:Hd) (w:World) (h:zaz w S o v hs) (hB:v.ownBlock ≠ some B) (hS:S ≠ B) :
 Calls Tryz.prog 94 #[.pointer (some ⟨S,o,none⟩),.agg #[.int .i64 x.r.k,.int .i64 x.r.t,.int .i64 x.r.v],.int .i64 x.m] w fun e w'=>e = .returned (errV (addE hs x)) /\ ExtK B w w' /\ zco w w' S o v (addL hs x) :=
 (zp0 S o v hs x w h).mono fun _e _w' hh=>⟨hh.1,hh.2.ext.mono (fun _k _ hk e=>hk.elim (fun hk=>hS (hk ▸ e)) (fun hk=>hB (e ▸ hk))),hh.2⟩
theorem zi4 (P:Nat) (md:Int) (u:World) (c2:u.cell? ⟨P,2,none⟩ = some (.int .i64 md)) :
 Calls Tryz.prog 91 #[.pointer (some ⟨P,0,none⟩),.int .i64 1] u fun e u'=>e = .returned (.bool (zai md 1)) /\ u = u':=zjV P md 1 u (by omega) c2
theorem zhL (P:Nat) (md:Int) (u:World) (c2:u.cell? ⟨P,2,none⟩ = some (.int .i64 md)) :
 Calls Tryz.prog 91 #[.pointer (some ⟨P,0,none⟩),.int .i64 0] u fun e u'=>e = .returned (.bool (zai md 0)) /\ u = u':=zjV P md 0 u (by omega) c2
theorem zf6 (md:Int) (s:Nat) (r:Row) (m:Hd):chg1 md s r m = (if (decide (m.m = 0) && zai md (1 - s)) = true then [(zan (1 - s) m.r,true)] else []) ++ [(if s = 0 then zbs r m.r else zbs m.r r,false)]:=by
 unfold chg1;simp only [Bool.and_eq_true,decide_eq_true_eq]
theorem zbD (md:Int) (s:Nat) (r:Row) (ms:List Hd):chgs md s r ms = ms.flatMap (chg1 md s r) ++ (if (decide (ms.length = 0) && zai md s) = true then [(zan s r,false)] else []):=by
 unfold chgs;simp only [Bool.and_eq_true,decide_eq_true_eq,List.length_eq_zero_iff]
theorem zaK (md:Int) (s:Nat) (r:Row):∀ ms:List Hd,(ms.flatMap (chg1 md s r)).length <= 2 * ms.length
 | []=>by simp
 | m :: ms=>by
   rw [List.flatMap_cons,List.length_append,List.length_cons]
   have:=zaK md s r ms
   have:(chg1 md s r m).length <= 2:=by unfold chg1;split <;> simp
   omega
theorem zfu (B:Nat) (s t x y:Int) (b:Bool) (w:World) (h:Mk w B x y) (hb:decide (t <= ofI s x y) = b):Calls Tryz.prog 86 #[.pointer (some ⟨B,0,none⟩),.int .i64 s,.int .i64 t] w fun e w'=>e = .returned (.bool b) /\ Ext w w' :=
 (zoB B s t x y w h).mono fun e w' hh=>by rw [<- hb];exact ⟨hh.1,hh.2 ▸ ExtM.refl _⟩
section
variable {u w5 w6 w7 w8:World} {P M:Nat} {v0 v1 v:Value} {lo hi md:Int} {r:Row} {st:JSt} {ms:List Hd}
theorem zlZ (hE:feedE lo hi 0 r st.x st.y (st.of 0).length = 0) (hb:¬ tilI lo hi 0 r.t > st.y) (hms:st.b.filter (zab r.k (frI lo hi 0 r.t) (tilI lo hi 0 r.t)) = ms) (hX:ExtM (zaE P M v0 v1) u w5) (hx:Ext w5 w6)
 (h7:JIs w6 P M v0 v1 lo hi md { st with b:=st.b.map (zao (zab r.k (frI lo hi 0 r.t) (tilI lo hi 0 r.t))) }) (hrow:CRow w6 w5.heap.size v (chgs md 0 r ms)):zbG u P M v0 v1 lo hi md 0 r st (.returned (.tuple #[v,.nilIface])) w6:=by
 refine ⟨v,by rw [hE];rfl,?_,?_⟩
 . have e:zaj lo hi md 0 r st = chgs md 0 r ms:=by unfold zaj;rw [if_pos hE];subst hms;rfl
   rw [e];exact zak hrow hX.size
 . have e:zam lo hi 0 r st = { st with b:=st.b.map (zao (zab r.k (frI lo hi 0 r.t) (tilI lo hi 0 r.t))) }:=by
    unfold zam;simp only [hE];rw [if_neg (by decide),if_pos trivial];exact if_neg hb
   rw [e];exact ⟨hX.fresh' hx (fun _ _ h=>h.elim),_,⟨v0,v1,h7,rfl⟩,fun k hk=>.inl hk⟩
theorem zj8 (hE:feedE lo hi 0 r st.x st.y (st.of 0).length = 0) (hb:tilI lo hi 0 r.t > st.y) (hms:st.b.filter (zab r.k (frI lo hi 0 r.t) (tilI lo hi 0 r.t)) = ms) (hg:za3 r.k r.t r.v = true) (h:JIs u P M v0 v1 lo hi md st) (hX:ExtM (zaE P M v0 v1) u w5) (hx:Ext w5 w6)
 (h7:JIs w6 P M v0 v1 lo hi md { st with b:=st.b.map (zao (zab r.k (frI lo hi 0 r.t) (tilI lo hi 0 r.t))) }) (hrow:CRow w6 w5.heap.size v (chgs md 0 r ms)) (hu:zco w6 w7 P 3 v0 (addL st.a ⟨r,((ms.length:Nat):Int)⟩)) (hx8:Ext w7 w8):zbG u P M v0 v1 lo hi md 0 r st (.returned (.tuple #[v,.nilIface])) w8:=by
 have hlt:st.a.length < 300:=by
  have hE':(if r.t <= st.x then 10 else if tilI lo hi 0 r.t > st.y /\ 300 <= st.a.length then 12 else 0:Int) = 0:=(zcM (n:=st.a.length) hg).symm.trans hE;by_cases q1:r.t <= st.x
  . rw [if_pos q1] at hE';exact absurd hE' (by decide)
  . rw [if_neg q1] at hE';by_cases q2:tilI lo hi 0 r.t > st.y /\ 300 <= st.a.length
    . rw [if_pos q2] at hE';exact absurd hE' (by decide)
    . omega
 have ha:addL st.a ⟨r,((ms.length:Nat):Int)⟩ = addH st.a ⟨r,((ms.length:Nat):Int)⟩:=by
  have hae:addE st.a ⟨r,((ms.length:Nat):Int)⟩ = 0:=by
   unfold addE;simp only [hg];rw [if_neg (by simp),if_neg (by omega)]
  unfold addL;rw [if_pos hae]
 rw [ha] at hu;refine ⟨v,by rw [hE];rfl,?_,?_⟩
 . have e:zaj lo hi md 0 r st = chgs md 0 r ms:=by unfold zaj;rw [if_pos hE];subst hms;rfl
   rw [e];refine zak (zag (zag hrow hu.ext (fun k hk e=>?_)) hx8 (fun _ _ h=>h)) hX.size;have h1:=(zaf hrow k hk).1;have h2:=hX.size;have h3:=h.foot k (e.elim .inl (fun e=>.inr (.inr (.inl e))));omega
 . have e:zam lo hi 0 r st = { st with a:=addH st.a ⟨r,((ms.length:Nat):Int)⟩,b:=st.b.map (zao (zab r.k (frI lo hi 0 r.t) (tilI lo hi 0 r.t))) }:=by
    unfold zam;simp only [hE];rw [if_neg (by decide),if_pos trivial];subst hms;exact if_pos hb
   rw [e];obtain ⟨j1,j2,j3,j4⟩:=h7.up0 hu;exact JUp.trans (_st1:=st) (hX.fresh' hx (fun _ _ h=>h.elim)) (fun k hk=>.inl hk) ⟨j1.fresh' hx8 (fun _ _ h=>h.elim),j2,j3.ext hx8,j4⟩
theorem zmR (hE:feedE lo hi 1 r st.x st.y (st.of 1).length = 0) (hb:¬ tilI lo hi 1 r.t > st.x) (hms:st.a.filter (zab r.k (frI lo hi 1 r.t) (tilI lo hi 1 r.t)) = ms) (hX:ExtM (zaE P M v0 v1) u w5) (hx:Ext w5 w6)
 (h7:JIs w6 P M v0 v1 lo hi md { st with a:=st.a.map (zao (zab r.k (frI lo hi 1 r.t) (tilI lo hi 1 r.t))) }) (hrow:CRow w6 w5.heap.size v (chgs md 1 r ms)):zbG u P M v0 v1 lo hi md 1 r st (.returned (.tuple #[v,.nilIface])) w6:=by
 refine ⟨v,by rw [hE];rfl,?_,?_⟩
 . have e:zaj lo hi md 1 r st = chgs md 1 r ms:=by unfold zaj;rw [if_pos hE];subst hms;rfl
   rw [e];exact zak hrow hX.size
 . have e:zam lo hi 1 r st = { st with a:=st.a.map (zao (zab r.k (frI lo hi 1 r.t) (tilI lo hi 1 r.t))) }:=by
    unfold zam;simp only [hE];rw [if_neg (by decide),if_pos trivial];exact if_neg hb
   rw [e];exact ⟨hX.fresh' hx (fun _ _ h=>h.elim),_,⟨v0,v1,h7,rfl⟩,fun k hk=>.inl hk⟩
theorem zk7 (hE:feedE lo hi 1 r st.x st.y (st.of 1).length = 0) (hb:tilI lo hi 1 r.t > st.x) (hms:st.a.filter (zab r.k (frI lo hi 1 r.t) (tilI lo hi 1 r.t)) = ms) (hg:za3 r.k r.t r.v = true) (h:JIs u P M v0 v1 lo hi md st) (hX:ExtM (zaE P M v0 v1) u w5) (hx:Ext w5 w6)
 (h7:JIs w6 P M v0 v1 lo hi md { st with a:=st.a.map (zao (zab r.k (frI lo hi 1 r.t) (tilI lo hi 1 r.t))) }) (hrow:CRow w6 w5.heap.size v (chgs md 1 r ms)) (hu:zco w6 w7 P 4 v1 (addL st.b ⟨r,((ms.length:Nat):Int)⟩)) (hx8:Ext w7 w8):zbG u P M v0 v1 lo hi md 1 r st (.returned (.tuple #[v,.nilIface])) w8:=by
 have hlt:st.b.length < 300:=by
  have hE':(if r.t <= st.y then 10 else if tilI lo hi 1 r.t > st.x /\ 300 <= st.b.length then 12 else 0:Int) = 0:=(zcZ (n:=st.b.length) hg).symm.trans hE;by_cases q1:r.t <= st.y
  . rw [if_pos q1] at hE';exact absurd hE' (by decide)
  . rw [if_neg q1] at hE';by_cases q2:tilI lo hi 1 r.t > st.x /\ 300 <= st.b.length
    . rw [if_pos q2] at hE';exact absurd hE' (by decide)
    . omega
 have ha:addL st.b ⟨r,((ms.length:Nat):Int)⟩ = addH st.b ⟨r,((ms.length:Nat):Int)⟩:=by
  have hae:addE st.b ⟨r,((ms.length:Nat):Int)⟩ = 0:=by
   unfold addE;simp only [hg];rw [if_neg (by simp),if_neg (by omega)]
  unfold addL;rw [if_pos hae]
 rw [ha] at hu;refine ⟨v,by rw [hE];rfl,?_,?_⟩
 . have e:zaj lo hi md 1 r st = chgs md 1 r ms:=by unfold zaj;rw [if_pos hE];subst hms;rfl
   rw [e];refine zak (zag (zag hrow hu.ext (fun k hk e=>?_)) hx8 (fun _ _ h=>h)) hX.size;have h1:=(zaf hrow k hk).1;have h2:=hX.size;have h3:=h.foot k (e.elim .inl (fun e=>.inr (.inr (.inr e))));omega
 . have e:zam lo hi 1 r st = { st with b:=addH st.b ⟨r,((ms.length:Nat):Int)⟩,a:=st.a.map (zao (zab r.k (frI lo hi 1 r.t) (tilI lo hi 1 r.t))) }:=by
    unfold zam;simp only [hE];rw [if_neg (by decide),if_pos trivial];subst hms;exact if_pos hb
   rw [e];obtain ⟨j1,j2,j3,j4⟩:=h7.up1 hu;exact JUp.trans (_st1:=st) (hX.fresh' hx (fun _ _ h=>h.elim)) (fun k hk=>.inl hk) ⟨j1.fresh' hx8 (fun _ _ h=>h.elim),j2,j3.ext hx8,j4⟩
end
end Go.Proofs.YtmcgnnmffeojpabGreatDoor
