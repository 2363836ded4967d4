import Derived.Test.YtmcgnnmffeojpabGreatDoorPk20
set_option maxRecDepth 100000
set_option maxHeartbeats 8000000
namespace Go.Plan
def ExtC (B:Nat) (w w':World):Prop:=∀ o,o <= 2 -> w'.cell? ⟨B,o,none⟩ = w.cell? ⟨B,o,none⟩
theorem ExtC.refl {B:Nat} (w:World):ExtC B w w:=fun _ _=>rfl
theorem ExtC.trans {B:Nat} (a b c:World) (h:ExtC B a b) (k:ExtC B b c):ExtC B a c:=fun o ho=>(k o ho).trans (h o ho)
instance {B:Nat}:Std.Refl (ExtC B):=⟨ExtC.refl⟩
instance {B:Nat}:Trans (ExtC B) (ExtC B) (ExtC B):=⟨fun h k=>ExtC.trans _ _ _ h k⟩
@[go_sem] theorem cell?_extC (B:Nat) (w p:World) (o:Nat) (ho:o <= 2):(Plan.ext (ExtC B) w p).cell? ⟨B,o,none⟩ = w.cell? ⟨B,o,none⟩:=zb7 ExtC.refl w p o ho
end Go.Plan
namespace Go.Proofs.YtmcgnnmffeojpabGreatDoor
open Go.RowKit Go.Plan
theorem JUp.before {u u0 u':World} {P M:Nat} {Bs:Nat -> Prop} {lo hi md:Int} {st:JSt} (hx:Ext u u0) (h:JUp u0 u' P M Bs lo hi md st):JUp u u' P M Bs lo hi md st :=
 JUp.trans (_st1:=st) (hx.mono (fun _ _ h=>h.elim)) (fun _k hk=>.inl hk) h
theorem zil (B:Nat) (s t x y:Int) (w:World) (h:Mk w B x y) (he:zpG s t x y = 0):Calls Tryz.prog 100 #[.pointer (some ⟨B,0,none⟩),.int .i64 s,.int .i64 t] w fun e w'=>e = .returned .nilIface /\ w' = w.setCell ⟨B,if s = 0 then 0 else 1,none⟩ (.int .i64 t) :=
 (znm B s t x y w h).mono fun e w' hh=>by rw [he] at hh;unfold zh9 at hh;rw [if_pos he] at hh;exact hh
theorem zg0 (B:Nat) (s t x y c:Int) (w:World) (h:Mk w B x y) (he:zpG s t x y = c) (hc:c ≠ 0):Calls Tryz.prog 100 #[.pointer (some ⟨B,0,none⟩),.int .i64 s,.int .i64 t] w fun e w'=>e = .returned (.iface 24 (.int .i64 c)) /\ w = w' :=
 (znm B s t x y w h).mono fun e w' hh=>by subst he;unfold zh9 errV at hh;rw [if_neg hc,if_neg hc] at hh;exact ⟨hh.1,hh.2.symm⟩
theorem JIs.mark {u:World} {P M:Nat} {v0 v1:Value} {lo hi md:Int} {st:JSt} (h:JIs u P M v0 v1 lo hi md st) (s:Nat) (hs:s < 2) (t:Int) :
 JIs (u.setCell ⟨M,s,none⟩ (.int .i64 t)) P M v0 v1 lo hi md (if s = 0 then { st with x:=t } else { st with y:=t }) /\ ExtM (fun k=>k = M) u (u.setCell ⟨M,s,none⟩ (.int .i64 t)):=by
 have hx:ExtM (fun k=>k = M) u (u.setCell ⟨M,s,none⟩ (.int .i64 t)):=ExtM.setCell (M:=fun k=>k = M) (ExtM.refl u) (p:=⟨M,s,none⟩) (.inr rfl) _;have k:=fun o=>hx.cell (p:=⟨P,o,none⟩) h.lt h.ne;have hf:∀ o,(u.setCell ⟨M,s,none⟩ (.int .i64 t)).frozen? ⟨M,o,none⟩ = u.frozen? ⟨M,o,none⟩:=fun o=>World.frozen?_setCell _ _ _ _;have s0:=h.s0.extM hx h.ne (fun k hk e=>h.m0 (e ▸ hk));have s1:=h.s1.extM hx h.ne (fun k hk e=>h.m1 (e ▸ hk));have f6:=(hx.frozen (p:=⟨P,6,none⟩) h.lt h.ne).trans h.f6;refine ⟨?_,hx⟩;have hs':s = 0 \/ s = 1:=by omega
 rcases hs' with rfl | rfl
 . exact ⟨(k _).trans h.c0,(k _).trans h.c1,(k _).trans h.c2,s0,s1,(k _).trans h.c5,(k _).trans h.c6,f6,⟨World.cell?_setCell_same _ _ _ h.mks.c0,(World.cell?_setCell_other _ _ _ _ (by simp)).trans h.mks.c1,(hf 0).trans h.mks.f0,(hf 1).trans h.mks.f1⟩,h.ne,h.m0,h.m1,h.sep⟩
 . exact ⟨(k _).trans h.c0,(k _).trans h.c1,(k _).trans h.c2,s0,s1,(k _).trans h.c5,(k _).trans h.c6,f6,⟨(World.cell?_setCell_other _ _ _ _ (by simp)).trans h.mks.c0,World.cell?_setCell_same _ _ _ h.mks.c1,(hf 0).trans h.mks.f0,(hf 1).trans h.mks.f1⟩,h.ne,h.m0,h.m1,h.sep⟩
theorem zcP {s t x y:Int} (h:zpG s t x y = 0):-1099511627776 <= t /\ t <= 1099511627776:=by
 unfold zpG at h;split at h
 . cases h
 . split at h
   . cases h
   . omega
theorem zeF {u:World} {P M:Nat} {v0 v1:Value} {lo hi md:Int} {st:JSt} (h:JIs u P M v0 v1 lo hi md st) (s t c:Int) (hc:zpG s t st.x st.y = c) (h0:c ≠ 0) :
 Calls Tryz.prog 49 #[.pointer (some ⟨P,0,none⟩),.int .i64 s,.int .i64 t] u fun e u'=>e = .returned (errV c) /\ JUp u u' P M (zaE P M v0 v1) lo hi md st:=by
 have c5:=h.c5;go_enter Tryz.func49,Tryz.ntmps49;go_wp2_with (go_at_call 100;refine (zg0 M s t st.x st.y c _ h.mks hc h0).mono ?_;rintro e w1 ⟨rfl,rfl⟩);go_ret;exact ⟨by rw [errV,if_neg h0];rfl,JUp.same ⟨v0,v1,h,rfl⟩ (ExtM.refl _)⟩
theorem zri (P:Nat) (s k t q m:Int) (u:World) (hs:s ≠ 0 /\ s ≠ 1) :
 Calls Tryz.prog 82 #[.pointer (some ⟨P,0,none⟩),.int .i64 s,.agg #[.int .i64 k,.int .i64 t,.int .i64 q],.int .i64 m] u fun e u'=>e = .returned (errV 1) /\ Ext u u':=by
 have d0:(s != 0) = true:=by simp [hs.1]
 have d1:(s != 1) = true:=by simp [hs.2]
 clear hs;go_enter Tryz.func82,Tryz.ntmps82;go_wp2_with fail;go_ret;exact ⟨rfl,(ExtM.refl _).alloc _⟩
theorem ziS (P:Nat) (s k t q:Int) (u:World) (hs:s ≠ 0 /\ s ≠ 1) :
 Calls Tryz.prog 43 #[.pointer (some ⟨P,0,none⟩),.int .i64 s,.agg #[.int .i64 k,.int .i64 t,.int .i64 q]] u fun e u'=>e = .returned (.tuple #[.slice none 0 0,errV 1]) /\ Ext u u':=by
 have d0:(s != 0) = true:=by simp [hs.1]
 have d1:(s != 1) = true:=by simp [hs.2]
 clear hs;go_enter Tryz.func43,Tryz.ntmps43;go_wp2_with fail;go_ret2;exact ⟨rfl,(ExtM.refl _).alloc _⟩
theorem zh5 {u:World} {P M:Nat} {v0 v1:Value} {lo hi md:Int} {st:JSt} (h:JIs u P M v0 v1 lo hi md st) (n:Int) :
 Calls Tryz.prog 81 #[.pointer (some ⟨P,0,none⟩),.int .i64 n] u fun e u'=>e = .returned (.tuple #[]) /\ JIs u' P M v0 v1 lo hi md { st with late:=max n 0 } /\ ExtM (fun k=>k = P) u u':=by
 have f6:=h.f6;have c6:=h.c6;obtain ⟨h1,hx⟩:=h.late (max n 0);go_enter Tryz.func81,Tryz.ntmps81;go_wp2_with fail
 all_goals
  go_end0
  first
  | exact ⟨rfl,h1,hx⟩
  | (rw [show max n 0 = 0 by omega] at h1 hx ⊢;exact ⟨rfl,h1,hx⟩)
  | (rw [show max n 0 = n by omega] at h1 hx ⊢;exact ⟨rfl,h1,hx⟩)
section
variable {u:World} {P M:Nat} {v0 v1:Value} {lo hi md:Int} {st:JSt}
theorem zot (h:JIs u P M v0 v1 lo hi md st) (k t q m:Int) :
 Calls Tryz.prog 82 #[.pointer (some ⟨P,0,none⟩),.int .i64 0,.agg #[.int .i64 k,.int .i64 t,.int .i64 q],.int .i64 m] u fun e u'=>e = .returned (errV (addE st.a ⟨⟨k,t,q⟩,m⟩)) /\ JUp u u' P M (zaE P M v0 v1) lo hi md (putJ 0 ⟨⟨k,t,q⟩,m⟩ st):=by
 have hx0:Ext u (u.alloc (.cells #[.int .i64 k,.int .i64 t,.int .i64 q] 37)):=(ExtM.refl u).alloc _;have b0:(u.alloc (.cells #[.int .i64 k,.int .i64 t,.int .i64 q] 37)).cell? ⟨u.heap.size,0,none⟩ = some (.int .i64 k):=by go_simp
 have b1:(u.alloc (.cells #[.int .i64 k,.int .i64 t,.int .i64 q] 37)).cell? ⟨u.heap.size,1,none⟩ = some (.int .i64 t):=by go_simp
 have b2:(u.alloc (.cells #[.int .i64 k,.int .i64 t,.int .i64 q] 37)).cell? ⟨u.heap.size,2,none⟩ = some (.int .i64 q):=by go_simp
 have lB:u.heap.size < (u.alloc (.cells #[.int .i64 k,.int .i64 t,.int .i64 q] 37)).heap.size:=by simp
 have hne:P ≠ u.heap.size:=by have:=h.lt;omega
 have nb:v0.ownBlock ≠ some u.heap.size:=fun e=>by have:=h.foot _ (.inr (.inr (.inl e)));omega
 have h1:=h.ext hx0;go_enter Tryz.func82,Tryz.ntmps82;go_upto_region 3 with fail;generalize u.alloc (.cells #[.int .i64 k,.int .i64 t,.int .i64 q] 37) = W at *;refine Plan.b0 (Plan.ExtK u.heap.size) 9 ?_;refine Plan.qs 7 [0,1,2,3,4,5,6] ?_;iterate 7 go_big_quiet_step (fail)
 refine Plan.o1 7 fun K hK=>?_;go_wp2_with (fail);refine (zi1 u.heap.size P 3 v0 st.a ⟨⟨k,t,q⟩,m⟩ _ (h1.s0.ext (ExtM.refl _).drew) nb hne).mono ?_;rintro e w9 ⟨rfl,h9,hu⟩;have H9:=ExtK.trans _ _ _ (ExtK.refl _).drew h9;obtain ⟨hc9,hf9,-⟩:=ExtK.rules H9;have hs9_0:u.heap.size < w9.heap.size:=by have:=H9.size;(try simp at this);omega
 go_wp2_with (fail);refine hK _ _ h9 ?_;clear hK K;refine Plan.qs 1 [8] ?_;go_big_quiet_step (fail);refine Plan.dn ?_;go_wp2_with fail;go_ret;exact ⟨rfl,JUp.before (hx0.drew) ((h1.ext (ExtM.refl _).drew).up0 hu)⟩
theorem zob (h:JIs u P M v0 v1 lo hi md st) (k t q m:Int) :
 Calls Tryz.prog 82 #[.pointer (some ⟨P,0,none⟩),.int .i64 1,.agg #[.int .i64 k,.int .i64 t,.int .i64 q],.int .i64 m] u fun e u'=>e = .returned (errV (addE st.b ⟨⟨k,t,q⟩,m⟩)) /\ JUp u u' P M (zaE P M v0 v1) lo hi md (putJ 1 ⟨⟨k,t,q⟩,m⟩ st):=by
 have hx0:Ext u (u.alloc (.cells #[.int .i64 k,.int .i64 t,.int .i64 q] 37)):=(ExtM.refl u).alloc _;have b0:(u.alloc (.cells #[.int .i64 k,.int .i64 t,.int .i64 q] 37)).cell? ⟨u.heap.size,0,none⟩ = some (.int .i64 k):=by go_simp
 have b1:(u.alloc (.cells #[.int .i64 k,.int .i64 t,.int .i64 q] 37)).cell? ⟨u.heap.size,1,none⟩ = some (.int .i64 t):=by go_simp
 have b2:(u.alloc (.cells #[.int .i64 k,.int .i64 t,.int .i64 q] 37)).cell? ⟨u.heap.size,2,none⟩ = some (.int .i64 q):=by go_simp
 have lB:u.heap.size < (u.alloc (.cells #[.int .i64 k,.int .i64 t,.int .i64 q] 37)).heap.size:=by simp
 have hne:P ≠ u.heap.size:=by have:=h.lt;omega
 have nb:v1.ownBlock ≠ some u.heap.size:=fun e=>by have:=h.foot _ (.inr (.inr (.inr e)));omega
 have h1:=h.ext hx0;go_enter Tryz.func82,Tryz.ntmps82;go_upto_region 3 with fail;generalize u.alloc (.cells #[.int .i64 k,.int .i64 t,.int .i64 q] 37) = W at *;refine Plan.b0 (Plan.ExtK u.heap.size) 9 ?_;refine Plan.qs 7 [0,1,2,3,4,5,6] ?_;iterate 7 go_big_quiet_step (fail)
 refine Plan.o1 7 fun K hK=>?_;go_wp2_with (fail);refine (zi1 u.heap.size P 4 v1 st.b ⟨⟨k,t,q⟩,m⟩ _ (h1.s1.ext (ExtM.refl _).drew) nb hne).mono ?_;rintro e w9 ⟨rfl,h9,hu⟩;have H9:=ExtK.trans _ _ _ (ExtK.refl _).drew h9;obtain ⟨hc9,hf9,-⟩:=ExtK.rules H9;have hs9_0:u.heap.size < w9.heap.size:=by have:=H9.size;(try simp at this);omega
 go_wp2_with (fail);refine hK _ _ h9 ?_;clear hK K;refine Plan.qs 1 [8] ?_;go_big_quiet_step (fail);refine Plan.dn ?_;go_wp2_with fail;go_ret;exact ⟨rfl,JUp.before (hx0.drew) ((h1.ext (ExtM.refl _).drew).up1 hu)⟩
theorem zmG (h:JIs u P M v0 v1 lo hi md st) (hp:zay lo hi) (t:Int) (hl:st.b.length < 1000000) :
 Calls Tryz.prog 49 #[.pointer (some ⟨P,0,none⟩),.int .i64 0,.int .i64 t] u fun e u'=>e = .returned (errV (zpG 0 t st.x st.y)) /\ JUp u u' P M (zaE P M v0 v1) lo hi md (if zpG 0 t st.x st.y = 0 then zbr lo hi 0 t st else st):=by
 have c5:=h.c5;by_cases hE:zpG 0 t st.x st.y = 0
 . rw [if_pos hE,hE];have ht:=zcP hE;obtain ⟨p1,p2,p3,p4⟩:=hp;have hwr:IntKind.i64.wrap (t + lo) = t + lo:=by rw [IntKind.wrap_i64];omega
   obtain ⟨h1,hx1⟩:=h.mark 0 (by omega) t;have lM:M < (u.setCell ⟨M,0,none⟩ (.int .i64 t)).heap.size:=by rw [World.size_setCell];exact h.mks.lt
   have lP:P < (u.setCell ⟨M,0,none⟩ (.int .i64 t)).heap.size:=by rw [World.size_setCell];exact h.lt
   have c0:=h1.c0;go_enter Tryz.func49,Tryz.ntmps49;go_upto_region 4 with (go_at_call 100;refine (zil M 0 t st.x st.y _ h.mks hE).mono ?_;rintro e w1 ⟨rfl,rfl⟩)
   simp only [if_true] at *;generalize u.setCell ⟨M,0,none⟩ (.int .i64 t) = W at *;go_wp2_with fail;refine Plan.b0 (Plan.ExtC P) 12 ?_;refine Plan.qs 11 [0,1,2,3,4,5,6,7,8,9,10] ?_;iterate 11 go_big_quiet_step (fail)
   refine Plan.o1 11 fun K hK=>?_;go_wp2_with (fail);refine (zne P 4 v1 st.b (t + lo) _ (h1.s1.ext (ExtM.refl _).drew) hl).mono ?_;rintro e w2 ⟨rfl,hu⟩;go_wp2_with (fail);refine hK _ _ (fun o ho=>hu.cell o (by omega)) ?_;clear hK K;refine Plan.dn ?_;go_wp2_with fail;go_ret;have e:zbr lo hi 0 t st = { st with x:=t,b:=zeC (t + lo) st.b }:=by unfold zbr;rw [if_pos rfl,ziZ]
   rw [e];exact ⟨rfl,JUp.trans (_st1:=st) ((hx1.mono (fun k _ hk=>.inr (.inl hk)):ExtM (zaE P M v0 v1) u W).drew) (fun k hk=>.inl hk) ((h1.ext (ExtM.refl _).drew).up1 hu)⟩
 . rw [if_neg hE];exact zeF h 0 t _ rfl hE
theorem zlW (h:JIs u P M v0 v1 lo hi md st) (hp:zay lo hi) (t:Int) (hl:st.a.length < 1000000) :
 Calls Tryz.prog 49 #[.pointer (some ⟨P,0,none⟩),.int .i64 1,.int .i64 t] u fun e u'=>e = .returned (errV (zpG 1 t st.x st.y)) /\ JUp u u' P M (zaE P M v0 v1) lo hi md (if zpG 1 t st.x st.y = 0 then zbr lo hi 1 t st else st):=by
 have c5:=h.c5;by_cases hE:zpG 1 t st.x st.y = 0
 . rw [if_pos hE,hE];have ht:=zcP hE;obtain ⟨p1,p2,p3,p4⟩:=hp;have hwr:IntKind.i64.wrap (t - hi) = t - hi:=by rw [IntKind.wrap_i64];omega
   obtain ⟨h1,hx1⟩:=h.mark 1 (by omega) t;have lM:M < (u.setCell ⟨M,1,none⟩ (.int .i64 t)).heap.size:=by rw [World.size_setCell];exact h.mks.lt
   have lP:P < (u.setCell ⟨M,1,none⟩ (.int .i64 t)).heap.size:=by rw [World.size_setCell];exact h.lt
   have c1:=h1.c1;go_enter Tryz.func49,Tryz.ntmps49;go_upto_region 4 with (go_at_call 100;refine (zil M 1 t st.x st.y _ h.mks hE).mono ?_;rintro e w1 ⟨rfl,rfl⟩)
   simp only [if_neg (show ¬ (1:Nat) = 0 by decide)] at *;generalize u.setCell ⟨M,1,none⟩ (.int .i64 t) = W at *;go_wp2_with fail;refine Plan.b0 (Plan.ExtC P) 12 ?_;refine Plan.qs 11 [0,1,2,3,4,5,6,7,8,9,10] ?_;iterate 11 go_big_quiet_step (fail)
   refine Plan.o1 11 fun K hK=>?_;go_wp2_with (fail);refine (zne P 3 v0 st.a (t - hi) _ (h1.s0.ext (ExtM.refl _).drew) hl).mono ?_;rintro e w2 ⟨rfl,hu⟩;go_wp2_with (fail);refine hK _ _ (fun o ho=>hu.cell o (by omega)) ?_;clear hK K;refine Plan.dn ?_;go_wp2_with fail;go_ret;have e:zbr lo hi 1 t st = { st with y:=t,a:=zeC (t - hi) st.a }:=by unfold zbr;rw [if_neg (show ¬ (1:Nat) = 0 by decide),ziL]
   rw [e];exact ⟨rfl,JUp.trans (_st1:=st) ((hx1.mono (fun k _ hk=>.inr (.inl hk)):ExtM (zaE P M v0 v1) u W).drew) (fun k hk=>.inl hk) ((h1.ext (ExtM.refl _).drew).up0 hu)⟩
 . rw [if_neg hE];exact zeF h 1 t _ rfl hE
end
end Go.Proofs.YtmcgnnmffeojpabGreatDoor
