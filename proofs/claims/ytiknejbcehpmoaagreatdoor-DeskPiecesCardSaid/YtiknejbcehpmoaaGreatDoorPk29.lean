import Derived.Test.YtiknejbcehpmoaaGreatDoorPk28
import Derived.Deep.DeepCutAuto
import Derived.Deep.CutBlock
set_option maxRecDepth 100000
set_option maxHeartbeats 8000000
namespace Go.Proofs.YtiknejbcehpmoaaGreatDoor
open Go.RowKit Go.Plan
theorem zp9 {u:World} {L E:Nat} {Bs:Nat -> Prop} {lo hi md:Int} {st:JSt} {V:List Out} {f0 f1:Int} (hL:LdIs u L (some ⟨E,0,none⟩) false) (hE:EAt u E Bs lo hi md st V V f0 f1) (hn:¬ Bs L) (n:List Int) (a:Option Addr) (cap:Nat) (hnum:zaq u L a n) (hV:V.length < 900000) (x:Out) (hx:outE n = some x) :
 Calls Tryz.prog 184 #[.pointer (some ⟨L,0,none⟩),.slice a n.length cap] u fun e u'=>e = .returned (.tuple #[]) /\ LUp u u' L E Bs lo hi md st (x :: V) f0 f1:=by
 have hcase:(∃ h r,n = h :: zdr [r] /\ (h = 1 \/ h = 2) /\ za0 r) \/ (∃ r s,n = 3 :: zdr [r,s] /\ za0 r /\ za0 s /\ r.k = s.k):=by
  unfold outE at hx;split at hx
  . rename_i h a b c;split at hx
    . rename_i hh;exact .inl ⟨h,⟨a,b,c⟩,rfl,hh.1,hh.2⟩
    . cases hx
  . rename_i h a b c d e f;split at hx
    . rename_i hh;obtain ⟨rfl,h1,h2,h3⟩:=hh;exact .inr ⟨⟨a,b,c⟩,⟨d,e,f⟩,rfl,h1,h2,h3⟩
    . cases hx
  . cases hx
 rcases hcase with ⟨h,r,rfl,hh,hg⟩ | ⟨r,s,rfl,hg1,hg2,hk⟩
 . rcases hh with rfl | rfl
   . refine (zrp hL hE hn [r] rfl (by intro q hq;rw [List.mem_singleton.1 hq];exact hg.ok) a cap hnum hV).mono ?_;rintro e u' ⟨y,he,rfl,hu⟩;obtain rfl:x = outG 1 [r]:=Option.some.inj (hx.symm.trans (ziu hg (.inl rfl)));rw [show badO 1 [r] = false from zpW (R:=[r]) (by intro q hq;rw [List.mem_singleton.1 hq];exact hg)] at hu;exact ⟨he,hu⟩
   . refine (zqY hL hE hn [r] rfl (by intro q hq;rw [List.mem_singleton.1 hq];exact hg.ok) a cap hnum hV).mono ?_;rintro e u' ⟨y,he,rfl,hu⟩;obtain rfl:x = outG 2 [r]:=Option.some.inj (hx.symm.trans (ziu hg (.inr rfl)));rw [show badO 2 [r] = false from zpW (R:=[r]) (by intro q hq;rw [List.mem_singleton.1 hq];exact hg)] at hu;exact ⟨he,hu⟩
 . have hgs:∀ q ∈ [r,s],za0 q:=by
    intro q hq;simp only [List.mem_cons,List.not_mem_nil,or_false] at hq;rcases hq with rfl | rfl <;> assumption
   refine (zra hL hE hn [r,s] rfl (fun q hq=>(hgs q hq).ok) a cap hnum hV).mono ?_;rintro e u' ⟨y,he,rfl,hu⟩;obtain rfl:x = outG 3 [r,s]:=Option.some.inj (hx.symm.trans (zlP hg1 hg2 hk));rw [show badO 3 [r,s] = false by unfold badO;rw [if_pos rfl,zpW hgs];simp [hk]] at hu;exact ⟨he,hu⟩
def zeB:ByteArray:=⟨#[112,108,97,110]⟩
def sFed:ByteArray:=⟨#[102,101,100]⟩
def zcI:ByteArray:=⟨#[109,97,114,107,115]⟩
def sRow:ByteArray:=⟨#[114,111,119]⟩
def sOut:ByteArray:=⟨#[111,117,116]⟩
theorem zfW:Go.Maps.Keyed Tryz.prog 9:=Go.Maps.string_keyed Tryz.underlying9
theorem zea (x y:ByteArray) (h:Value.string x = Value.string y):x = y:=by simpa using h
theorem keyS (s:ByteArray) (h:s.size <= 1000000000):∃ l,keyOf Tryz.prog 9 (.string s) = some l:=by
 have hm:s.size <= maxLen:=by unfold maxLen;omega
 exact ⟨_,by simp only [keyOf,mapKey,Tryz.underlying9];rw [if_pos hm]⟩
theorem zp5 (w:World):(zeroValue 3).run Tryz.prog w = .ok (.int .i64 0) w:=by kernel_rfl
def zhj:List (ByteArray × Value):=putK (putK (putK (putK [] zeB (.int .i64 3)) sFed (.int .i64 3)) zcI (.int .i64 2)) sRow (.int .i64 5)
theorem zdk (u:World):∃ w1 w2 w3 w4,(Instr.mapUpdate 45 (.map (some u.heap.size)) (.string zeB) (.int .i64 3)).run Tryz.prog (u.alloc (.map #[] 0)) = .ok () w1 /\
 (Instr.mapUpdate 45 (.map (some u.heap.size)) (.string sFed) (.int .i64 3)).run Tryz.prog w1 = .ok () w2 /\
 (Instr.mapUpdate 45 (.map (some u.heap.size)) (.string zcI) (.int .i64 2)).run Tryz.prog w2 = .ok () w3 /\
 (Instr.mapUpdate 45 (.map (some u.heap.size)) (.string sRow) (.int .i64 5)).run Tryz.prog w3 = .ok () w4 /\ Ext u w4 /\
 ∀ s,s.size <= 1000000000 -> (Instr.lookup 45 (.map (some u.heap.size)) (.string s) true).run Tryz.prog w4 = .ok (.tuple #[(mlook zhj s).getD (.int .i64 0),.bool (mlook zhj s).isSome]) w4:=by
 have h0:zav Tryz.prog 9 Value.string (u.alloc (.map #[] 0)) u.heap.size []:=zav.made u;obtain ⟨w1,r1,x1,z1,h1⟩:=h0.run_update zfW zea Tryz.underlying45 zeB (keyS _ (by decide)) (.int .i64 3);obtain ⟨w2,r2,x2,z2,h2⟩:=h1.run_update zfW zea Tryz.underlying45 sFed (keyS _ (by decide)) (.int .i64 3);obtain ⟨w3,r3,x3,z3,h3⟩:=h2.run_update zfW zea Tryz.underlying45 zcI (keyS _ (by decide)) (.int .i64 2);obtain ⟨w4,r4,x4,z4,h4⟩:=h3.run_update zfW zea Tryz.underlying45 sRow (keyS _ (by decide)) (.int .i64 5);refine ⟨w1,w2,w3,w4,r1,r2,r3,r4,?_,fun s hs=>?_⟩
 . have hB:ExtB u.heap.size (u.alloc (.map #[] 0)) w4:=ExtB.trans _ _ _ x1 (ExtB.trans _ _ _ x2 (ExtB.trans _ _ _ x3 x4));exact ⟨hB.os,hB.tape,hB.output,Nat.le_trans (by simp) hB.size,fun k hk _=>(hB.block k (by simp;omega) (fun e=>by have e':k = u.heap.size:=e;omega)).trans (heap_alloc_old _ _ hk)⟩
 . exact h4.run_look true zfW zea Tryz.underlying45 zp5 s (keyS _ hs)
theorem zlf:mlook zhj zeB = some (.int .i64 3):=by rfl
theorem zmN:mlook zhj sFed = some (.int .i64 3):=by rfl
theorem zja:mlook zhj zcI = some (.int .i64 2):=by rfl
theorem zmE:mlook zhj sRow = some (.int .i64 5):=by rfl
theorem znb:mlook zhj sOut = none:=by rfl
end Go.Proofs.YtiknejbcehpmoaaGreatDoor
namespace Go.Plan
def ExtC (B:Nat) (w w':World):Prop:=∀ o,o <= 2 -> w'.cell? ⟨B,o,none⟩ = w.cell? ⟨B,o,none⟩
theorem ExtC.refl {B:Nat} (w:World):ExtC B w w:=fun _ _=>rfl
theorem ExtC.trans {B:Nat} (a b c:World) (h:ExtC B a b) (k:ExtC B b c):ExtC B a c:=fun o ho=>(k o ho).trans (h o ho)
instance {B:Nat}:Std.Refl (ExtC B):=⟨ExtC.refl⟩
instance {B:Nat}:Trans (ExtC B) (ExtC B) (ExtC B):=⟨fun h k=>ExtC.trans _ _ _ h k⟩
@[go_sem] theorem cell?_extC (B:Nat) (w p:World) (o:Nat) (ho:o <= 2):(Plan.ext (ExtC B) w p).cell? ⟨B,o,none⟩ = w.cell? ⟨B,o,none⟩:=zb7 ExtC.refl w p o ho
end Go.Plan
namespace Go.Proofs.YtiknejbcehpmoaaGreatDoor
open Go.RowKit Go.Plan
theorem JUp.before {u u0 u':World} {P M:Nat} {Bs:Nat -> Prop} {lo hi md:Int} {st:JSt} (hx:Ext u u0) (h:JUp u0 u' P M Bs lo hi md st):JUp u u' P M Bs lo hi md st :=
 JUp.trans (_st1:=st) (hx.mono (fun _ _ h=>h.elim)) (fun _k hk=>.inl hk) h
theorem zil (B:Nat) (s t x y:Int) (w:World) (h:Mk w B x y) (he:moveI s t x y = 0):Calls Tryz.prog 176 #[.pointer (some ⟨B,0,none⟩),.int .i64 s,.int .i64 t] w fun e w'=>e = .returned .nilIface /\ w' = w.setCell ⟨B,if s = 0 then 0 else 1,none⟩ (.int .i64 t) :=
 (znm B s t x y w h).mono fun e w' hh=>by rw [he] at hh;unfold zh9 at hh;rw [if_pos he] at hh;exact hh
theorem zg0 (B:Nat) (s t x y c:Int) (w:World) (h:Mk w B x y) (he:moveI s t x y = c) (hc:c ≠ 0):Calls Tryz.prog 176 #[.pointer (some ⟨B,0,none⟩),.int .i64 s,.int .i64 t] w fun e w'=>e = .returned (.iface 47 (.int .i64 c)) /\ w = w' :=
 (znm B s t x y w h).mono fun e w' hh=>by subst he;unfold zh9 errV at hh;rw [if_neg hc,if_neg hc] at hh;exact ⟨hh.1,hh.2.symm⟩
theorem JIs.mark {u:World} {P M:Nat} {v0 v1:Value} {lo hi md:Int} {st:JSt} (h:JIs u P M v0 v1 lo hi md st) (s:Nat) (hs:s < 2) (t:Int) :
 JIs (u.setCell ⟨M,s,none⟩ (.int .i64 t)) P M v0 v1 lo hi md (if s = 0 then { st with x:=t } else { st with y:=t }) /\ ExtM (fun k=>k = M) u (u.setCell ⟨M,s,none⟩ (.int .i64 t)):=by
 have hx:ExtM (fun k=>k = M) u (u.setCell ⟨M,s,none⟩ (.int .i64 t)):=ExtM.setCell (M:=fun k=>k = M) (ExtM.refl u) (p:=⟨M,s,none⟩) (.inr rfl) _;have k:=fun o=>hx.cell (p:=⟨P,o,none⟩) h.lt h.ne;have hf:∀ o,(u.setCell ⟨M,s,none⟩ (.int .i64 t)).frozen? ⟨M,o,none⟩ = u.frozen? ⟨M,o,none⟩:=fun o=>World.frozen?_setCell _ _ _ _;have s0:=h.s0.extM hx h.ne (fun k hk e=>h.m0 (e ▸ hk));have s1:=h.s1.extM hx h.ne (fun k hk e=>h.m1 (e ▸ hk));have f6:=(hx.frozen (p:=⟨P,6,none⟩) h.lt h.ne).trans h.f6;refine ⟨?_,hx⟩;have hs':s = 0 \/ s = 1:=by omega
 rcases hs' with rfl | rfl
 . exact ⟨(k _).trans h.c0,(k _).trans h.c1,(k _).trans h.c2,s0,s1,(k _).trans h.c5,(k _).trans h.c6,f6,⟨World.cell?_setCell_same _ _ _ h.mks.c0,(World.cell?_setCell_other _ _ _ _ (by simp)).trans h.mks.c1,(hf 0).trans h.mks.f0,(hf 1).trans h.mks.f1⟩,h.ne,h.m0,h.m1,h.sep⟩
 . exact ⟨(k _).trans h.c0,(k _).trans h.c1,(k _).trans h.c2,s0,s1,(k _).trans h.c5,(k _).trans h.c6,f6,⟨(World.cell?_setCell_other _ _ _ _ (by simp)).trans h.mks.c0,World.cell?_setCell_same _ _ _ h.mks.c1,(hf 0).trans h.mks.f0,(hf 1).trans h.mks.f1⟩,h.ne,h.m0,h.m1,h.sep⟩
theorem zcP {s t x y:Int} (h:moveI s t x y = 0):-1099511627776 <= t /\ t <= 1099511627776:=by
 unfold moveI at h;split at h
 . cases h
 . split at h
   . cases h
   . omega
theorem zeF {u:World} {P M:Nat} {v0 v1:Value} {lo hi md:Int} {st:JSt} (h:JIs u P M v0 v1 lo hi md st) (s t c:Int) (hc:moveI s t st.x st.y = c) (h0:c ≠ 0) :
 Calls Tryz.prog 134 #[.pointer (some ⟨P,0,none⟩),.int .i64 s,.int .i64 t] u fun e u'=>e = .returned (errV c) /\ JUp u u' P M (zaE P M v0 v1) lo hi md st:=by
 have c5:=h.c5;go_enter Tryz.func134,Tryz.ntmps134;go_wp2_with (go_at_call 176;refine (zg0 M s t st.x st.y c _ h.mks hc h0).mono ?_;rintro e w1 ⟨rfl,rfl⟩);go_ret;exact ⟨by rw [errV,if_neg h0];rfl,JUp.same ⟨v0,v1,h,rfl⟩ (ExtM.refl _)⟩
theorem zri (P:Nat) (s k t q m:Int) (u:World) (hs:s ≠ 0 /\ s ≠ 1) :
 Calls Tryz.prog 183 #[.pointer (some ⟨P,0,none⟩),.int .i64 s,.agg #[.int .i64 k,.int .i64 t,.int .i64 q],.int .i64 m] u fun e u'=>e = .returned (errV 1) /\ Ext u u':=by
 have d0:(s != 0) = true:=by simp [hs.1]
 have d1:(s != 1) = true:=by simp [hs.2]
 clear hs;go_enter Tryz.func183,Tryz.ntmps183;go_wp2_with fail;go_ret;exact ⟨rfl,(ExtM.refl _).alloc _⟩
theorem zh5 {u:World} {P M:Nat} {v0 v1:Value} {lo hi md:Int} {st:JSt} (h:JIs u P M v0 v1 lo hi md st) (n:Int) :
 Calls Tryz.prog 182 #[.pointer (some ⟨P,0,none⟩),.int .i64 n] u fun e u'=>e = .returned (.tuple #[]) /\ JIs u' P M v0 v1 lo hi md { st with late:=max n 0 } /\ ExtM (fun k=>k = P) u u':=by
 have f6:=h.f6;have c6:=h.c6;obtain ⟨h1,hx⟩:=h.late (max n 0);go_enter Tryz.func182,Tryz.ntmps182;go_wp2_with fail
 all_goals
  go_end0
  first
  | exact ⟨rfl,h1,hx⟩
  | (rw [show max n 0 = 0 by omega] at h1 hx ⊢;exact ⟨rfl,h1,hx⟩)
  | (rw [show max n 0 = n by omega] at h1 hx ⊢;exact ⟨rfl,h1,hx⟩)
section
variable {u:World} {P M:Nat} {v0 v1:Value} {lo hi md:Int} {st:JSt}
theorem zot (h:JIs u P M v0 v1 lo hi md st) (k t q m:Int) :
 Calls Tryz.prog 183 #[.pointer (some ⟨P,0,none⟩),.int .i64 0,.agg #[.int .i64 k,.int .i64 t,.int .i64 q],.int .i64 m] u fun e u'=>e = .returned (errV (addE st.a ⟨⟨k,t,q⟩,m⟩)) /\ JUp u u' P M (zaE P M v0 v1) lo hi md (putJ 0 ⟨⟨k,t,q⟩,m⟩ st):=by
 have hx0:Ext u (u.alloc (.cells #[.int .i64 k,.int .i64 t,.int .i64 q] 92)):=(ExtM.refl u).alloc _;have b0:(u.alloc (.cells #[.int .i64 k,.int .i64 t,.int .i64 q] 92)).cell? ⟨u.heap.size,0,none⟩ = some (.int .i64 k):=by go_simp
 have b1:(u.alloc (.cells #[.int .i64 k,.int .i64 t,.int .i64 q] 92)).cell? ⟨u.heap.size,1,none⟩ = some (.int .i64 t):=by go_simp
 have b2:(u.alloc (.cells #[.int .i64 k,.int .i64 t,.int .i64 q] 92)).cell? ⟨u.heap.size,2,none⟩ = some (.int .i64 q):=by go_simp
 have lB:u.heap.size < (u.alloc (.cells #[.int .i64 k,.int .i64 t,.int .i64 q] 92)).heap.size:=by simp
 have hne:P ≠ u.heap.size:=by have:=h.lt;omega
 have nb:v0.ownBlock ≠ some u.heap.size:=fun e=>by have:=h.foot _ (.inr (.inr (.inl e)));omega
 have h1:=h.ext hx0;go_enter Tryz.func183,Tryz.ntmps183;go_upto_region 3 with fail;generalize u.alloc (.cells #[.int .i64 k,.int .i64 t,.int .i64 q] 92) = W at *;refine Plan.b0 (Plan.ExtK u.heap.size) 9 ?_;refine Plan.qs 7 [0,1,2,3,4,5,6] ?_;iterate 7 go_big_quiet_step (fail)
 refine Plan.o1 7 fun K hK=>?_;go_wp2_with (fail);refine (zi1 u.heap.size P 3 v0 st.a ⟨⟨k,t,q⟩,m⟩ _ (h1.s0.ext (ExtM.refl _).drew) nb hne).mono ?_;rintro e w9 ⟨rfl,h9,hu⟩;have H9:=ExtK.trans _ _ _ (ExtK.refl _).drew h9;obtain ⟨hc9,hf9,-⟩:=ExtK.rules H9;have hs9_0:u.heap.size < w9.heap.size:=by have:=H9.size;(try simp at this);omega
 go_wp2_with (fail);refine hK _ _ h9 ?_;clear hK K;refine Plan.qs 1 [8] ?_;go_big_quiet_step (fail);refine Plan.dn ?_;go_wp2_with fail;go_ret;exact ⟨rfl,JUp.before (hx0.drew) ((h1.ext (ExtM.refl _).drew).up0 hu)⟩
theorem zob (h:JIs u P M v0 v1 lo hi md st) (k t q m:Int) :
 Calls Tryz.prog 183 #[.pointer (some ⟨P,0,none⟩),.int .i64 1,.agg #[.int .i64 k,.int .i64 t,.int .i64 q],.int .i64 m] u fun e u'=>e = .returned (errV (addE st.b ⟨⟨k,t,q⟩,m⟩)) /\ JUp u u' P M (zaE P M v0 v1) lo hi md (putJ 1 ⟨⟨k,t,q⟩,m⟩ st):=by
 have hx0:Ext u (u.alloc (.cells #[.int .i64 k,.int .i64 t,.int .i64 q] 92)):=(ExtM.refl u).alloc _;have b0:(u.alloc (.cells #[.int .i64 k,.int .i64 t,.int .i64 q] 92)).cell? ⟨u.heap.size,0,none⟩ = some (.int .i64 k):=by go_simp
 have b1:(u.alloc (.cells #[.int .i64 k,.int .i64 t,.int .i64 q] 92)).cell? ⟨u.heap.size,1,none⟩ = some (.int .i64 t):=by go_simp
 have b2:(u.alloc (.cells #[.int .i64 k,.int .i64 t,.int .i64 q] 92)).cell? ⟨u.heap.size,2,none⟩ = some (.int .i64 q):=by go_simp
 have lB:u.heap.size < (u.alloc (.cells #[.int .i64 k,.int .i64 t,.int .i64 q] 92)).heap.size:=by simp
 have hne:P ≠ u.heap.size:=by have:=h.lt;omega
 have nb:v1.ownBlock ≠ some u.heap.size:=fun e=>by have:=h.foot _ (.inr (.inr (.inr e)));omega
 have h1:=h.ext hx0;go_enter Tryz.func183,Tryz.ntmps183;go_upto_region 3 with fail;generalize u.alloc (.cells #[.int .i64 k,.int .i64 t,.int .i64 q] 92) = W at *;refine Plan.b0 (Plan.ExtK u.heap.size) 9 ?_;refine Plan.qs 7 [0,1,2,3,4,5,6] ?_;iterate 7 go_big_quiet_step (fail)
 refine Plan.o1 7 fun K hK=>?_;go_wp2_with (fail);refine (zi1 u.heap.size P 4 v1 st.b ⟨⟨k,t,q⟩,m⟩ _ (h1.s1.ext (ExtM.refl _).drew) nb hne).mono ?_;rintro e w9 ⟨rfl,h9,hu⟩;have H9:=ExtK.trans _ _ _ (ExtK.refl _).drew h9;obtain ⟨hc9,hf9,-⟩:=ExtK.rules H9;have hs9_0:u.heap.size < w9.heap.size:=by have:=H9.size;(try simp at this);omega
 go_wp2_with (fail);refine hK _ _ h9 ?_;clear hK K;refine Plan.qs 1 [8] ?_;go_big_quiet_step (fail);refine Plan.dn ?_;go_wp2_with fail;go_ret;exact ⟨rfl,JUp.before (hx0.drew) ((h1.ext (ExtM.refl _).drew).up1 hu)⟩
theorem zmG (h:JIs u P M v0 v1 lo hi md st) (hp:zay lo hi) (t:Int) (hl:st.b.length < 1000000) :
 Calls Tryz.prog 134 #[.pointer (some ⟨P,0,none⟩),.int .i64 0,.int .i64 t] u fun e u'=>e = .returned (errV (moveI 0 t st.x st.y)) /\ JUp u u' P M (zaE P M v0 v1) lo hi md (if moveI 0 t st.x st.y = 0 then zbr lo hi 0 t st else st):=by
 have c5:=h.c5;by_cases hE:moveI 0 t st.x st.y = 0
 . rw [if_pos hE,hE];have ht:=zcP hE;obtain ⟨p1,p2,p3,p4⟩:=hp;have hwr:IntKind.i64.wrap (t + lo) = t + lo:=by rw [IntKind.wrap_i64];omega
   obtain ⟨h1,hx1⟩:=h.mark 0 (by omega) t;have lM:M < (u.setCell ⟨M,0,none⟩ (.int .i64 t)).heap.size:=by rw [World.size_setCell];exact h.mks.lt
   have lP:P < (u.setCell ⟨M,0,none⟩ (.int .i64 t)).heap.size:=by rw [World.size_setCell];exact h.lt
   have c0:=h1.c0;go_enter Tryz.func134,Tryz.ntmps134;go_upto_region 4 with (go_at_call 176;refine (zil M 0 t st.x st.y _ h.mks hE).mono ?_;rintro e w1 ⟨rfl,rfl⟩)
   simp only [if_true] at *;generalize u.setCell ⟨M,0,none⟩ (.int .i64 t) = W at *;go_wp2_with fail;refine Plan.b0 (Plan.ExtC P) 12 ?_;refine Plan.qs 11 [0,1,2,3,4,5,6,7,8,9,10] ?_;iterate 11 go_big_quiet_step (fail)
   refine Plan.o1 11 fun K hK=>?_;go_wp2_with (fail);refine (zne P 4 v1 st.b (t + lo) _ (h1.s1.ext (ExtM.refl _).drew) hl).mono ?_;rintro e w2 ⟨rfl,hu⟩;go_wp2_with (fail);refine hK _ _ (fun o ho=>hu.cell o (by omega)) ?_;clear hK K;refine Plan.dn ?_;go_wp2_with fail;go_ret;have e:zbr lo hi 0 t st = { st with x:=t,b:=zeC (t + lo) st.b }:=by unfold zbr;rw [if_pos rfl,ziZ]
   rw [e];exact ⟨rfl,JUp.trans (_st1:=st) ((hx1.mono (fun k _ hk=>.inr (.inl hk)):ExtM (zaE P M v0 v1) u W).drew) (fun k hk=>.inl hk) ((h1.ext (ExtM.refl _).drew).up1 hu)⟩
 . rw [if_neg hE];exact zeF h 0 t _ rfl hE
theorem zlW (h:JIs u P M v0 v1 lo hi md st) (hp:zay lo hi) (t:Int) (hl:st.a.length < 1000000) :
 Calls Tryz.prog 134 #[.pointer (some ⟨P,0,none⟩),.int .i64 1,.int .i64 t] u fun e u'=>e = .returned (errV (moveI 1 t st.x st.y)) /\ JUp u u' P M (zaE P M v0 v1) lo hi md (if moveI 1 t st.x st.y = 0 then zbr lo hi 1 t st else st):=by
 have c5:=h.c5;by_cases hE:moveI 1 t st.x st.y = 0
 . rw [if_pos hE,hE];have ht:=zcP hE;obtain ⟨p1,p2,p3,p4⟩:=hp;have hwr:IntKind.i64.wrap (t - hi) = t - hi:=by rw [IntKind.wrap_i64];omega
   obtain ⟨h1,hx1⟩:=h.mark 1 (by omega) t;have lM:M < (u.setCell ⟨M,1,none⟩ (.int .i64 t)).heap.size:=by rw [World.size_setCell];exact h.mks.lt
   have lP:P < (u.setCell ⟨M,1,none⟩ (.int .i64 t)).heap.size:=by rw [World.size_setCell];exact h.lt
   have c1:=h1.c1;go_enter Tryz.func134,Tryz.ntmps134;go_upto_region 4 with (go_at_call 176;refine (zil M 1 t st.x st.y _ h.mks hE).mono ?_;rintro e w1 ⟨rfl,rfl⟩)
   simp only [if_neg (show ¬ (1:Nat) = 0 by decide)] at *;generalize u.setCell ⟨M,1,none⟩ (.int .i64 t) = W at *;go_wp2_with fail;refine Plan.b0 (Plan.ExtC P) 12 ?_;refine Plan.qs 11 [0,1,2,3,4,5,6,7,8,9,10] ?_;iterate 11 go_big_quiet_step (fail)
   refine Plan.o1 11 fun K hK=>?_;go_wp2_with (fail);refine (zne P 3 v0 st.a (t - hi) _ (h1.s0.ext (ExtM.refl _).drew) hl).mono ?_;rintro e w2 ⟨rfl,hu⟩;go_wp2_with (fail);refine hK _ _ (fun o ho=>hu.cell o (by omega)) ?_;clear hK K;refine Plan.dn ?_;go_wp2_with fail;go_ret;have e:zbr lo hi 1 t st = { st with y:=t,a:=zeC (t - hi) st.a }:=by unfold zbr;rw [if_neg (show ¬ (1:Nat) = 0 by decide),ziL]
   rw [e];exact ⟨rfl,JUp.trans (_st1:=st) ((hx1.mono (fun k _ hk=>.inr (.inl hk)):ExtM (zaE P M v0 v1) u W).drew) (fun k hk=>.inl hk) ((h1.ext (ExtM.refl _).drew).up0 hu)⟩
 . rw [if_neg hE];exact zeF h 1 t _ rfl hE
end
end Go.Proofs.YtiknejbcehpmoaaGreatDoor
namespace Go.Plan
def Ext3 (A B C:Nat) (w w':World):Prop:=ExtM (fun k=>¬ (k = A \/ k = B \/ k = C)) w w'
theorem Ext3.refl {A B C:Nat} (w:World):Ext3 A B C w w:=ExtM.refl w
theorem Ext3.trans {A B C:Nat} (a b c:World) (h:Ext3 A B C a b) (k:Ext3 A B C b c):Ext3 A B C a c:=ExtM.trans _ _ _ h k
instance {A B C:Nat}:Std.Refl (Ext3 A B C):=⟨Ext3.refl⟩
instance {A B C:Nat}:Trans (Ext3 A B C) (Ext3 A B C) (Ext3 A B C):=⟨fun h k=>Ext3.trans _ _ _ h k⟩
theorem Ext3.of_M {M:Nat -> Prop} {A B C:Nat} {w w':World} (hA:¬ M A) (hB:¬ M B) (hC:¬ M C) (h:ExtM M w w'):Ext3 A B C w w':=ExtM.mono h (fun _ _ hk e=>by rcases e with e | e | e <;> subst e <;> contradiction)
theorem Ext3.drew {A B C:Nat} {a w:World} (h:Ext3 A B C a w):Ext3 A B C a w.drew:=ExtM.drew h
theorem Ext3.size {A B C:Nat} {w w':World} (h:Ext3 A B C w w'):w.heap.size <= w'.heap.size:=ExtM.size h
theorem Ext3.cells {A B C:Nat} {w w':World} (h:Ext3 A B C w w') (b o:Nat) (hb:b = A \/ b = B \/ b = C) (hl:b < w.heap.size):w'.cell? ⟨b,o,none⟩ = w.cell? ⟨b,o,none⟩ /\ w'.frozen? ⟨b,o,none⟩ = w.frozen? ⟨b,o,none⟩ :=
 ⟨ExtM.cell (p:=⟨b,o,none⟩) h hl (fun e=>e hb),ExtM.frozen (p:=⟨b,o,none⟩) h hl (fun e=>e hb)⟩
theorem Ext3.rules {A B C:Nat} {w w':World} (_:Ext3 A B C w w'):True /\ True /\ True:=⟨trivial,trivial,trivial⟩
@[go_sem] theorem cell?_ext3a (A B C:Nat) (w p:World) (o:Nat) (hb:A < w.heap.size):(Plan.ext (Ext3 A B C) w p).cell? ⟨A,o,none⟩ = w.cell? ⟨A,o,none⟩:=((zb7 Ext3.refl w p).cells A o (.inl rfl) hb).1
@[go_sem] theorem cell?_ext3b (A B C:Nat) (w p:World) (o:Nat) (hb:B < w.heap.size):(Plan.ext (Ext3 A B C) w p).cell? ⟨B,o,none⟩ = w.cell? ⟨B,o,none⟩:=((zb7 Ext3.refl w p).cells B o (.inr (.inl rfl)) hb).1
@[go_sem] theorem cell?_ext3c (A B C:Nat) (w p:World) (o:Nat) (hb:C < w.heap.size):(Plan.ext (Ext3 A B C) w p).cell? ⟨C,o,none⟩ = w.cell? ⟨C,o,none⟩:=((zb7 Ext3.refl w p).cells C o (.inr (.inr rfl)) hb).1
@[go_sem] theorem cell?_ext3a_drew (A B C:Nat) (w p:World) (o:Nat) (hb:A < w.heap.size):(Plan.ext (Ext3 A B C) w.drew p).cell? ⟨A,o,none⟩ = w.cell? ⟨A,o,none⟩:=cell?_ext3a A B C w.drew p o hb
@[go_sem] theorem cell?_ext3b_drew (A B C:Nat) (w p:World) (o:Nat) (hb:B < w.heap.size):(Plan.ext (Ext3 A B C) w.drew p).cell? ⟨B,o,none⟩ = w.cell? ⟨B,o,none⟩:=cell?_ext3b A B C w.drew p o hb
@[go_sem] theorem cell?_ext3c_drew (A B C:Nat) (w p:World) (o:Nat) (hb:C < w.heap.size):(Plan.ext (Ext3 A B C) w.drew p).cell? ⟨C,o,none⟩ = w.cell? ⟨C,o,none⟩:=cell?_ext3c A B C w.drew p o hb
end Go.Plan
namespace Go.Proofs.YtiknejbcehpmoaaGreatDoor
open Go.RowKit Go.Plan
theorem zqD {u w:World} {L E:Nat} {Bs:Nat -> Prop} {lo hi md:Int} {st:JSt} {V:List Out} {f0 f1:Int} {c:Bool} (h:EUp u w E Bs lo hi md st V V f0 f1) (hl:LdIs w L (some ⟨E,0,none⟩) c) (hn:¬ Bs L) (hL:L < u.heap.size) (b:Bool):LUpB u (w.setCell ⟨L,1,none⟩ (.bool b)) L E Bs lo hi md st V f0 f1 b:=by
 obtain ⟨h1,Bs',h3,h4⟩:=h;have hs:ExtM (fun k=>k = L) w (w.setCell ⟨L,1,none⟩ (.bool b)):=ExtM.setCell (M:=fun k=>k = L) (p:=⟨L,1,none⟩) (ExtM.refl _) (.inr rfl) _;refine ⟨(h1.mono (fun _ _ h=>.inr h)).fresh' hs (fun _ _ h=>.inl h),hl.set b,Bs',h3.keep hs (fun k hk e=>?_),h4⟩;subst e;rcases h4 _ hk with e | e
 . exact hn e
 . omega
theorem zkX {hs:List Hd} {x:Hd} (h:∀ y ∈ hs,y.r.ok) (he:addE hs x = 0):∀ y ∈ addL hs x,y.r.ok:=by
 have hx:x.r.ok:=by
  unfold addE at he;split at he
  . cases he
  . rename_i hg;have hg1:za0 x.r:=by
     unfold za0;simp only [Bool.and_eq_false_imp,Classical.not_imp,Bool.not_eq_false] at hg;exact hg.1
    have:=hg1.i64
    refine ⟨?_,?_,?_⟩ <;> unfold I64 <;> omega
 intro y hy;unfold addL at hy;rw [if_pos he] at hy;unfold addH insH at hy;simp only [List.mem_append,List.mem_cons] at hy;rcases hy with hy | rfl | hy
 . exact h y (List.mem_of_mem_take hy)
 . exact hx
 . exact h y (List.mem_of_mem_drop hy)
theorem zqU {hs:List Hd} {x:Hd} (h:addE hs x ≠ 0):addL hs x = hs:=if_neg h
theorem zo7 {u:World} {E:Nat} {Bs:Nat -> Prop} {lo hi md:Int} {st:JSt} {V W:List Out} {f0 f1:Int} (h:EAt u E Bs lo hi md st V W f0 f1) (s k t q m c:Int) (hp:zcF s ⟨⟨k,t,q⟩,m⟩ st = c) :
 ∃ P,u.cell? ⟨E,3,none⟩ = some (.pointer (some ⟨P,0,none⟩)) /\ ∀ U,Ext u U -> Calls Tryz.prog 183 #[.pointer (some ⟨P,0,none⟩),.int .i64 s,.agg #[.int .i64 k,.int .i64 t,.int .i64 q],.int .i64 m] U fun e U'=>e = .returned (errV c) /\ ExtM (fun k=>Bs k /\ k ≠ E) U U' /\ EUp U U' E Bs lo hi md (if c = 0 then putJ s.toNat ⟨⟨k,t,q⟩,m⟩ st else st) V W f0 f1:=by
 obtain ⟨P,M,v0,v1,D,DG,ents,hI,rfl⟩:=h;refine ⟨P,hI.c3,fun U hU=>?_⟩;have hIU:=hI.ext hU;have hnE:¬ zaE P M v0 v1 E:=fun e=>(hI.sJ E e).1 (.inl rfl);unfold zcF at hp;split at hp
 . rename_i h0;subst h0;refine (zot hIU.join k t q m).mono ?_;rintro e U' ⟨rfl,hj⟩;rw [hp];refine ⟨rfl,hj.1.mono (fun k _ hk=>⟨.inl hk,fun e=>hnE (e ▸ hk)⟩),?_⟩;by_cases hc:c = 0
   . rw [if_pos hc];exact hIU.upJ hj (zkX hI.okA (hp.trans hc)) hI.okB
   . rw [if_neg hc];have e:putJ 0 ⟨⟨k,t,q⟩,m⟩ st = st:=by show { st with a:=addL st.a _ } = st;rw [zqU (by rw [hp];exact hc)]
     rw [e] at hj;exact hIU.upJ hj hI.okA hI.okB
 . split at hp
   . rename_i h1;subst h1;refine (zob hIU.join k t q m).mono ?_;rintro e U' ⟨rfl,hj⟩;rw [hp];refine ⟨rfl,hj.1.mono (fun k _ hk=>⟨.inl hk,fun e=>hnE (e ▸ hk)⟩),?_⟩;by_cases hc:c = 0
     . rw [if_pos hc];exact hIU.upJ hj hI.okA (zkX hI.okB (hp.trans hc))
     . rw [if_neg hc];have e:putJ 1 ⟨⟨k,t,q⟩,m⟩ st = st:=by show { st with b:=addL st.b _ } = st;rw [zqU (by rw [hp];exact hc)]
       rw [e] at hj;exact hIU.upJ hj hI.okA hI.okB
   . rename_i h0 h1;subst hp;refine (zri P s k t q m U ⟨h0,h1⟩).mono ?_;rintro e U' ⟨rfl,hx⟩;exact ⟨rfl,hx.mono (fun _ _ h=>h.elim),EUp.same ⟨P,M,v0,v1,D,DG,ents,hIU,rfl⟩ hx⟩
theorem zqd {u:World} {L E:Nat} {Bs:Nat -> Prop} {lo hi md:Int} {st:JSt} {V:List Out} {f0 f1:Int} (hL:LdIs u L (some ⟨E,0,none⟩) false) (hE:EAt u E Bs lo hi md st V V f0 f1) (hnB:¬ Bs L) (i:Int) (hi3:3 <= i) (s k t q m:Int) (a:Option Addr) (cap:Nat) (hnum:zaq u L a [s,k,t,q,m]) (hgB:∀ g,a = some ⟨g,0,none⟩ -> ¬ Bs g) (c:Int) (hp:zcF s ⟨⟨k,t,q⟩,m⟩ st = c) (b:Bool) (hb:b = decide (c ≠ 0)) :
 Calls Tryz.prog 141 #[.pointer (some ⟨L,0,none⟩),.int .i64 i,.string ⟨#[114,111,119]⟩,.slice a 5 cap] u fun e u'=>e = .returned (.tuple #[]) /\ LUpB u u' L E Bs lo hi md (if c = 0 then putJ s.toNat ⟨⟨k,t,q⟩,m⟩ st else st) V f0 f1 b:=by
 obtain ⟨g,rfl,hgL,hgu,hgc⟩:=hnum.cells (by simp);have hgB:=hgB g rfl;have g0:=hgc 0 s rfl;have g1:=hgc 1 k rfl;have g2:=hgc 2 t rfl;have g3:=hgc 3 q rfl;have g4:=hgc 4 m rfl;clear hgc hnum;obtain ⟨w1,w2,w3,w4,r1,r2,r3,r4,hx4,hlk⟩:=zdk u;have hl:=hlk sRow (by decide);rw [zmE] at hl;simp only [Option.getD_some,Option.isSome_some] at hl;unfold sRow at hl r4;unfold zeB at r1;unfold sFed at r2;unfold zcI at r3;have hmm:=@run_makeMap Tryz.prog;have i0:(i == 0) = false:=by simp;omega
 have i1:(i == 1) = false:=by simp;omega
 have i2:(i == 2) = false:=by simp;omega
 have HI:=Lib.hid hi3;have HLK:=Lib.hid hlk;have HX:=Lib.hid hx4;have HL:=Lib.hid hL;have HE:=Lib.hid hE;have HP:=Lib.hid hp;have HBB:=Lib.hid hb;clear hi3 hlk hx4 hL hE hp hb;go_enter Tryz.func141,Tryz.ntmps141;go_upto_region 20 with fail;have hl4:=HL.out.keep HX.out id;have hat:=HE.out.ext HX.out;obtain ⟨P,c3,hput⟩:=zo7 hat s k t q m c HP.out;have c0:=hl4.c0;have lE:=hat.lt _ hat.mine;have lL:=hl4.lt;have hs4:=HX.out.size;have k4:=fun o=>HX.out.cell (p:=⟨g,o,none⟩) hgu id;have y0:=(k4 _).trans g0;have y1:=(k4 _).trans g1;have y2:=(k4 _).trans g2;have y3:=(k4 _).trans g3;have y4:=(k4 _).trans g4;have lg:g < w4.heap.size:=by omega
 clear k4 g0 g1 g2 g3 g4 r1 r2 r3 r4 hl hmm;have hnL3:¬ (Bs L /\ L ≠ E):=fun e=>hnB e.1;have hnE3:¬ (Bs E /\ E ≠ E):=fun e=>e.2 rfl;have hnG3:¬ (Bs g /\ g ≠ E):=fun e=>hgB e.1;refine Plan.b0 (Plan.Ext3 L E g) 25 ?_;refine Plan.qs 12 [0,1,2,3,4,5,6,7,8,9,10,11] ?_;iterate 12 go_big_quiet_step (fail)
 refine Plan.qs 11 [12,13,14,15,16,17,18,19,20,21,22] ?_;iterate 11 go_big_quiet_step (fail)
 refine Plan.o1 23 fun K hK=>?_;go_wp2_with (fail);refine (hput _ (ExtM.refl _).drew).mono ?_;rintro e w5 ⟨rfl,h5,hup⟩;have H5:=Ext3.trans _ _ _ (Ext3.refl _).drew (Ext3.of_M hnL3 hnE3 hnG3 h5);obtain ⟨hc5,hf5,-⟩:=Ext3.rules H5;have hs5_0:L < w5.heap.size:=by have:=H5.size;(try simp at this);omega
 have hs5_1:E < w5.heap.size:=by have:=H5.size;(try simp at this);omega
 have hs5_2:g < w5.heap.size:=by have:=H5.size;(try simp at this);omega
 go_wp2_with (fail);refine hK _ _ (Ext3.of_M hnL3 hnE3 hnG3 h5) ?_;clear hK K;refine Plan.qs 1 [24] ?_;go_big_quiet_step (fail);refine Plan.dn ?_;have hlu:=HL.out.lt;have hup1:=EUp.before (ExtM.trans _ _ _ HX.out ((ExtM.refl w4).drew)) hup;have hl5:=hl4.keep H5 (fun e=>e (.inl rfl));have c1:=hl5.c1;have cf:=hl5.f 1;have lL5:=hl5.lt;have hfin:=zqD hup1 hl5 hnB hlu b;have HF:=Lib.hid hfin;clear hfin hup hup1 hl5 h5 H5 hl4 hat hput c3 c0 lE lL hs4 y0 y1 y2 y3 y4 lg hnL3 hnE3 hnG3;by_cases hc:c = 0
 . subst hc;have er:errV 0 = .nilIface:=rfl;rw [er];obtain rfl:b = false:=HBB.out;go_wp2_with fail;go_end0;exact ⟨rfl,HF.out⟩
 . have er:errV c = .iface 47 (.int .i64 c):=if_neg hc;rw [er];obtain rfl:b = true:=by rw [HBB.out];simpa using hc
   clear er;have HN:=Lib.hid hc;clear hc;go_wp2_with fail;go_end0;refine ⟨rfl,?_⟩;have h:=HF.out;rw [if_neg HN.out] at h
   first | exact h | exact HF.out
theorem zlu {u:World} {L E:Nat} {Bs:Nat -> Prop} {lo hi md:Int} {st:JSt} {V:List Out} {f0 f1:Int} (hL:LdIs u L (some ⟨E,0,none⟩) false) (hE:EAt u E Bs lo hi md st V V f0 f1) (hnB:¬ Bs L) (i:Int) (hi3:3 <= i) (s k t q m:Int) (a:Option Addr) (cap:Nat) (hnum:zaq u L a [s,k,t,q,m]) (hgB:∀ g,a = some ⟨g,0,none⟩ -> ¬ Bs g) (hp:zcF s ⟨⟨k,t,q⟩,m⟩ st = 0) :
 Calls Tryz.prog 141 #[.pointer (some ⟨L,0,none⟩),.int .i64 i,.string ⟨#[114,111,119]⟩,.slice a 5 cap] u fun e u'=>e = .returned (.tuple #[]) /\ LUp u u' L E Bs lo hi md (putJ s.toNat ⟨⟨k,t,q⟩,m⟩ st) V f0 f1:=zqd hL hE hnB i hi3 s k t q m a cap hnum hgB 0 hp false rfl
theorem zaq.ext {w w':World} {b:Nat} {a:Option Addr} {ns:List Int} (h:zaq w b a ns) (hx:Ext w w'):zaq w' b a ns:=by
 rcases h with h | ⟨g,c,t,fz,h1,h2,h3,h4,h5⟩
 . exact .inl h
 . exact .inr ⟨g,c,t,fz,h1,h2,h3,(hx.block g (Array.getElem?_eq_some_iff.1 h4).1 id).trans h4,h5⟩
theorem zpS {u w0 w:World} {L E:Nat} {Bs:Nat -> Prop} {lo hi md:Int} {st:JSt} {V:List Out} {f0 f1:Int} {c:Bool} (hx:Ext u w0) (h:LUpB w0 w L E Bs lo hi md st V f0 f1 c) (hn:¬ Bs L) (hL:L < u.heap.size) (b:Bool):LUpB u (w.setCell ⟨L,1,none⟩ (.bool b)) L E Bs lo hi md st V f0 f1 b:=by
 obtain ⟨h1,h2,Bs',h3,h4⟩:=h;have hz:=hx.size;have hs:ExtM (fun k=>k = L) w (w.setCell ⟨L,1,none⟩ (.bool b)):=ExtM.setCell (M:=fun k=>k = L) (p:=⟨L,1,none⟩) (ExtM.refl _) (.inr rfl) _;refine ⟨((hx.mono (fun _ _ h=>h.elim)).fresh' h1 (fun _ _ h=>h)).fresh' hs (fun _ _ h=>.inl h),h2.set b,Bs',h3.keep hs (fun k hk e=>?_),fun k hk=>(h4 k hk).imp id (fun q=>Nat.le_trans hz q)⟩;subst e;rcases h4 _ hk with e | e
 . exact hn e
 . omega
theorem zdI {u w0 w:World} {L E:Nat} {Bs:Nat -> Prop} {lo hi md:Int} {st:JSt} {V:List Out} {f0 f1:Int} (hx:Ext u w0) (h:LUp w0 w L E Bs lo hi md st V f0 f1) (hn:¬ Bs L) (hL:L < u.heap.size):LUp u (w.setCell ⟨L,1,none⟩ (.bool false)) L E Bs lo hi md st V f0 f1:=zpS hx h hn hL false
theorem zkZ {u:World} {L E:Nat} {Bs:Nat -> Prop} {lo hi md:Int} {st:JSt} {V:List Out} {f0 f1:Int} (hL:LdIs u L (some ⟨E,0,none⟩) false) (hE:EAt u E Bs lo hi md st V V f0 f1) (hnB:¬ Bs L) (i:Int) (hi3:3 <= i) (n:List Int) (a:Option Addr) (cap:Nat) (hnum:zaq u L a n) (hV:V.length < 900000) (x:Out) (hx:outE n = some x) :
 Calls Tryz.prog 141 #[.pointer (some ⟨L,0,none⟩),.int .i64 i,.string ⟨#[111,117,116]⟩,.slice a n.length cap] u fun e u'=>e = .returned (.tuple #[]) /\ LUp u u' L E Bs lo hi md st (x :: V) f0 f1:=by
 obtain ⟨w1,w2,w3,w4,r1,r2,r3,r4,hx4,hlk⟩:=zdk u;have hl:=hlk sOut (by decide);rw [znb] at hl;simp only [Option.getD_none,Option.isSome_none] at hl;unfold sOut at hl;unfold sRow at r4;unfold zeB at r1;unfold sFed at r2;unfold zcI at r3;have hmm:=@run_makeMap Tryz.prog;have i0:(i == 0) = false:=by simp;omega
 have i1:(i == 1) = false:=by simp;omega
 have i2:(i == 2) = false:=by simp;omega
 have hout:=zp9 (hL.keep hx4 id) (hE.ext hx4) hnB n a cap (hnum.ext hx4) hV x hx;have hlu:=hL.lt;have HLU:=Lib.hid hlu;have HX:=Lib.hid hx4;clear hi3 hlk hx4 hL hE hnum hx hlu;go_enter Tryz.func141,Tryz.ntmps141;go_wp2_with (go_at_call 184;refine hout.mono ?_;rintro e w5 ⟨rfl,hup⟩;refine Hid.out ?_);refine Lib.hid ?_;have hl5:=hup.2.1;have c1:=hl5.c1;have cf:=hl5.f 1;have lL5:=hl5.lt;have hfin:=zdI HX.out hup hnB HLU.out;clear hup hl5 r1 r2 r3 r4 hl hmm hout;go_wp2_with fail;go_end0;exact ⟨rfl,hfin⟩
theorem setB (L o:Nat) (v:Value) (w:World):Plan.ExtB L w (w.setCell ⟨L,o,none⟩ v):=ExtM.setCell (M:=fun k=>k = L) (p:=⟨L,o,none⟩) (ExtM.refl _) (.inr rfl) _
theorem LdIs.rules {u w:World} {L:Nat} {p:Option Addr} {b:Bool} (h:LdIs u L p b) (hx:Ext u w):w.cell? ⟨L,0,none⟩ = some (.pointer p) /\ w.frozen? ⟨L,0,none⟩ = false /\ True:=⟨(h.keep hx id).c0,(h.keep hx id).f 0,trivial⟩
theorem LdIs.setE {u:World} {L:Nat} {p:Option Addr} {b:Bool} (h:LdIs u L p b) (q:Option Addr):LdIs (u.setCell ⟨L,0,none⟩ (.pointer q)) L q b:=by
 have h0:=h.c0;have h1:=h.c1;refine ⟨?_,?_,fun o=>?_⟩
 . go_simp
 . go_simp
 . have:=h.f o
   go_simp
theorem zjn {u:World} {L:Nat} (hL:LdIs u L none false) (b c d:Int) (a:Option Addr) (cap:Nat) (hnum:zaq u L a [b,c,d]) (hc:checkI b c d = 0) :
 Calls Tryz.prog 141 #[.pointer (some ⟨L,0,none⟩),.int .i64 0,.string ⟨#[112,108,97,110]⟩,.slice a 3 cap] u fun e u'=>e = .returned (.tuple #[]) /\ ∃ E Bs,ExtM (fun k=>k = L) u u' /\ LdIs u' L (some ⟨E,0,none⟩) false /\ EAt u' E Bs b c d ⟨[],[],-1099511627777,-1099511627777,0⟩ [] [] 0 0 /\ ∀ k,Bs k -> u.heap.size <= k:=by
 obtain ⟨g,rfl,hgL,hgu,hgc⟩:=hnum.cells (by simp);have g0:=hgc 0 b rfl;have g1:=hgc 1 c rfl;have g2:=hgc 2 d rfl;clear hgc hnum;obtain ⟨w1,w2,w3,w4,r1,r2,r3,r4,hx4,hlk⟩:=zdk u;have hl:=hlk zeB (by decide);rw [zlf] at hl;simp only [Option.getD_some,Option.isSome_some] at hl;unfold sRow at r4;unfold zeB at r1 hl;unfold sFed at r2;unfold zcI at r3;have hmm:=@run_makeMap Tryz.prog;have HLK:=Lib.hid hlk;have HX:=Lib.hid hx4;have HL:=Lib.hid hL;have HC:=Lib.hid hc;clear hlk hx4 hL hc;go_enter Tryz.func141,Tryz.ntmps141;go_upto_region 7 with fail;have hl4:=HL.out.keep HX.out id;have k4:=fun o=>HX.out.cell (p:=⟨g,o,none⟩) hgu id;have y0:=(k4 _).trans g0;have y1:=(k4 _).trans g1;have y2:=(k4 _).trans g2;have lL:=hl4.lt;have lg:g < w4.heap.size:=Nat.lt_of_lt_of_le hgu HX.out.size;clear k4 g0 g1 g2 r1 r2 r3 r4 hl hmm;have hrul:∀ {W:World},Ext w4.drew W -> Plan.ExtB L w4 W -> W.cell? ⟨L,0,none⟩ = some (.pointer none) /\ W.frozen? ⟨L,0,none⟩ = false /\ True:=fun h _=>hl4.rules (ExtM.trans _ _ _ (ExtM.refl _).drew h);refine Plan.b0 (Plan.ExtB L) 19 ?_;refine Plan.qs 11 [0,1,2,3,4,5,6,7,8,9,10] ?_;iterate 11 go_big_quiet_step (fail)
 refine Plan.o1 11 fun K hK=>?_;go_wp2_with (fail);refine (znc b c d _ HC.out).mono ?_;rintro e w5 ⟨E,Bs,rfl,h5,hnew,hat⟩;have H5:=(ExtB.trans (B:=L)) _ _ _ (ExtB.of_ext (ExtM.refl _).drew) (ExtB.of_ext h5);obtain ⟨hc5,hf5,-⟩:=hrul h5 H5;have hs5_0:L < w5.heap.size:=by have:=H5.size;(try simp at this);omega
 have hs5_1:g < w5.heap.size:=by have:=H5.size;(try simp at this);omega
 go_wp2_with (fail);refine hK _ _ (ExtB.of_ext h5) ?_;clear hK K;refine Plan.qs 5 [12,13,14,15,16] ?_;iterate 5 go_big_quiet_step (fail)
 refine Plan.o1 17 fun K hK=>?_;go_wp2_with (fail);refine hK _ _ (setB L 0 _ _) ?_;clear hK K;refine Plan.qs 1 [18] ?_;go_big_quiet_step (fail);refine Plan.dn ?_;have hx5:Ext w4 w5:=ExtM.trans _ _ _ (ExtM.refl w4).drew h5;have hl5:=(hl4.keep hx5 id).setE (some ⟨E,0,none⟩);have hnL:∀ k,Bs k -> u.heap.size <= k:=fun k hk=>Nat.le_trans HX.out.size (hnew k hk);have hLu:=HL.out.lt;have hnB:¬ Bs L:=fun e=>by have:=hnL L e;omega
 have hS1:ExtM (fun k=>k = L) w5 (w5.setCell ⟨L,0,none⟩ (.pointer (some ⟨E,0,none⟩))):=setB L 0 _ _;have hup:LUp w5 (w5.setCell ⟨L,0,none⟩ (.pointer (some ⟨E,0,none⟩))) L E Bs b c d ⟨[],[],-1099511627777,-1099511627777,0⟩ [] 0 0 :=
  ⟨hS1.mono (fun _ _ h=>.inl h),hl5,Bs,hat.keep hS1 (fun k hk e=>hnB (e ▸ hk)),fun k hk=>.inl hk⟩
 have hfin:=zdI (u:=u) (ExtM.trans _ _ _ HX.out hx5) hup hnB hLu;have c1:=hl5.c1;have cf:=hl5.f 1;have lL5:=hl5.lt;have HF:=Lib.hid hfin;have HNL:=Lib.hid hnL;clear hfin hnL hup hl5 hl4 hat hnew hrul hx5 hS1 h5 H5 hc5 hf5 hs5_0 hs5_1 y0 y1 y2 lL lg;go_wp2_with fail;go_end0;obtain ⟨f1,f2,Bs',f3,f4⟩:=HF.out;exact ⟨rfl,E,Bs',f1.mono (fun k hk h=>h.elim id (fun e=>absurd (HNL.out k e) (by omega))),f2,f3,fun k hk=>(f4 k hk).elim (HNL.out k) id⟩
theorem zn8 {u:World} {E:Nat} {Bs:Nat -> Prop} {lo hi md:Int} {st:JSt} {V W:List Out} {f0 f1:Int} (h:EAt u E Bs lo hi md st V W f0 f1) (n:Int) :
 ∃ P,u.cell? ⟨E,3,none⟩ = some (.pointer (some ⟨P,0,none⟩)) /\ ∀ U,Ext u U -> Calls Tryz.prog 182 #[.pointer (some ⟨P,0,none⟩),.int .i64 n] U fun e U'=>e = .returned (.tuple #[]) /\ ExtM (fun k=>Bs k /\ k ≠ E) U U' /\ EUp U U' E Bs lo hi md { st with late:=max n 0 } V W f0 f1:=by
 obtain ⟨P,M,v0,v1,D,DG,ents,hI,rfl⟩:=h;refine ⟨P,hI.c3,fun U hU=>?_⟩;have hIU:=hI.ext hU;have hnE:¬ zaE P M v0 v1 E:=fun e=>(hI.sJ E e).1 (.inl rfl);refine (zh5 hIU.join n).mono ?_;rintro e U' ⟨rfl,hj,hx⟩;have hjx:ExtM (zaE P M v0 v1) U U':=hx.mono (fun k _ e=>.inl e);have hju:JUp U U' P M (zaE P M v0 v1) lo hi md { st with late:=max n 0 }:=⟨hjx,_,⟨v0,v1,hj,rfl⟩,fun k hk=>.inl hk⟩
 exact ⟨rfl,hjx.mono (fun k _ hk=>⟨.inl hk,fun e=>hnE (e ▸ hk)⟩),hIU.upJ hju hI.okA hI.okB⟩
theorem zqg {u:World} {L E:Nat} {Bs:Nat -> Prop} {lo hi md:Int} {st:JSt} {V:List Out} {f0 f1:Int} (hL:LdIs u L (some ⟨E,0,none⟩) false) (hE:EAt u E Bs lo hi md st V V f0 f1) (hnB:¬ Bs L) (b c d:Int) (a:Option Addr) (cap:Nat) (hnum:zaq u L a [b,c,d]) (hgB:∀ g,a = some ⟨g,0,none⟩ -> ¬ Bs g) (bb:Bool) (hbb:bb = decide (b < 0 \/ c < 0 \/ d < 0)) :
 Calls Tryz.prog 141 #[.pointer (some ⟨L,0,none⟩),.int .i64 1,.string ⟨#[102,101,100]⟩,.slice a 3 cap] u fun e u'=>e = .returned (.tuple #[]) /\ LUpB u u' L E Bs lo hi md { st with late:=max d 0 } V b c bb:=by
 obtain ⟨g,rfl,hgL,hgu,hgc⟩:=hnum.cells (by simp);have hgB:=hgB g rfl;have g0:=hgc 0 b rfl;have g1:=hgc 1 c rfl;have g2:=hgc 2 d rfl;clear hgc hnum;obtain ⟨w1,w2,w3,w4,r1,r2,r3,r4,hx4,hlk⟩:=zdk u;have hl:=hlk sFed (by decide);rw [zmN] at hl;simp only [Option.getD_some,Option.isSome_some] at hl;unfold sRow at r4;unfold zeB at r1;unfold sFed at r2 hl;unfold zcI at r3;have hmm:=@run_makeMap Tryz.prog;have HLK:=Lib.hid hlk;have HX:=Lib.hid hx4;have HL:=Lib.hid hL;have HE:=Lib.hid hE;have HBB:=Lib.hid hbb;clear hlk hx4 hL hE hbb;go_enter Tryz.func141,Tryz.ntmps141;go_upto_region 9 with fail;have hl4:=HL.out.keep HX.out id;have hat:=HE.out.ext HX.out;have hcell:w4.frozen? ⟨E,7,none⟩ = false /\ w4.frozen? ⟨E,8,none⟩ = false /\ w4.cell? ⟨E,7,none⟩ = some (.int .i64 f0) /\ w4.cell? ⟨E,8,none⟩ = some (.int .i64 f1):=by
  obtain ⟨P,M,v0,v1,D,DG,ents,hI,-⟩:=hat;exact ⟨hI.fz 7,hI.fz 8,hI.c7,hI.c8⟩
 obtain ⟨e7,e8,c7,c8⟩:=hcell;have c0:=hl4.c0;have lE:=hat.lt _ hat.mine;have lL:=hl4.lt;have k4:=fun o=>HX.out.cell (p:=⟨g,o,none⟩) hgu id;have y0:=(k4 _).trans g0;have y1:=(k4 _).trans g1;have y2:=(k4 _).trans g2;have lg:g < w4.heap.size:=Nat.lt_of_lt_of_le hgu HX.out.size;clear k4 g0 g1 g2 r1 r2 r3 r4 hl hmm;go_cut [] (fun wx=>EUp w4 wx E Bs lo hi md st V V b c)
 case first =>
  refine Plan.bT Plan.Ext [13] 14 ?_;refine Plan.qs 11 [0,1,2,3,4,5,6,7,8,9,10] ?_;iterate 11 go_big_quiet_step (fail)
  refine Plan.o1 11 fun K hK=>?_;go_wp2_with (fail);refine hK _ _ (ExtM.refl _) ?_;clear hK K;refine Plan.qs 1 [12] ?_;go_big_quiet_step (fail);refine Plan.ol 13 fun K hK=>?_;go_wp2_with (fail);refine Plan.dn ?_;go_wp2_with fail;go_meet
  case rel=>exact EUp.fed hat.mine (EUp.fed hat.mine (EUp.same hat ((ExtM.refl _).drew)) 7 b (.inl ⟨rfl,rfl,rfl⟩)) 8 c (.inr ⟨rfl,rfl,rfl⟩)
 case rest =>
  have HC4:=Lib.hid hcut;obtain ⟨hx9,Bs1,hat9,hB1⟩:=hcut;have hlw:=hl4.lt;have n1:∀ k,k < w4.heap.size -> ¬ Bs k -> ¬ Bs1 k:=fun k hk hn e=>(hB1 k e).elim hn (fun q=>by omega);have hl9:=hl4.keep hx9 hnB;have hnL3:¬ (Bs1 L /\ L ≠ E):=fun e=>n1 L hlw hnB e.1;have hnE3:¬ (Bs1 E /\ E ≠ E):=fun e=>e.2 rfl;have hnG3:¬ (Bs1 g /\ g ≠ E):=fun e=>n1 g lg hgB e.1;obtain ⟨P,c3,hlate⟩:=zn8 hat9 d;have z0:=(hx9.cell (p:=⟨g,0,none⟩) lg hgB).trans y0;have z1:=(hx9.cell (p:=⟨g,1,none⟩) lg hgB).trans y1;have z2:=(hx9.cell (p:=⟨g,2,none⟩) lg hgB).trans y2;have lE9:=hat9.lt _ hat9.mine;have lL9:=hl9.lt;have lg9:=Nat.lt_of_lt_of_le lg hx9.size;have HX9:=Lib.hid hx9;have HB1:=Lib.hid hB1;have HL4:=Lib.hid hl4;clear c0 y0 y1 y2 e7 e8 c7 c8 lE lL lg hl4 hat n1 hx9 hB1;have c0:=hl9.c0;go_upto_region 10 with fail;refine Plan.b0 (Plan.Ext3 L E g) 11 ?_;refine Plan.qs 10 [0,1,2,3,4,5,6,7,8,9] ?_;iterate 10 go_big_quiet_step (fail)
  refine Plan.o1 10 fun K hK=>?_;go_wp2_with (fail);refine (hlate _ (ExtM.refl _).drew).mono ?_;rintro e w6 ⟨rfl,h6,hup⟩;have H6:=Ext3.trans _ _ _ (Ext3.refl _).drew (Ext3.of_M hnL3 hnE3 hnG3 h6);obtain ⟨hc6,hf6,-⟩:=Ext3.rules H6;have hs6_0:L < w6.heap.size:=by have:=H6.size;(try simp at this);omega
  have hs6_1:E < w6.heap.size:=by have:=H6.size;(try simp at this);omega
  have hs6_2:g < w6.heap.size:=by have:=H6.size;(try simp at this);omega
  go_wp2_with (fail);refine hK _ _ (Ext3.of_M hnL3 hnE3 hnG3 h6) ?_;clear hK K;refine Plan.dn ?_;have hl6:=hl9.keep H6 (fun e=>e (.inl rfl));have x0:=(H6.cells g 0 (.inr (.inr rfl)) lg9).1.trans z0;have x1:=(H6.cells g 1 (.inr (.inr rfl)) lg9).1.trans z1;have x2:=(H6.cells g 2 (.inr (.inr rfl)) lg9).1.trans z2;have c1:=hl6.c1;have cf:=hl6.f 1;have lL6:=hl6.lt;have hupA:=EUp.trans HX9.out HB1.out (EUp.before ((ExtM.refl _).drew) hup);have hfin:=zpS HX.out (zqD hupA hl6 hnB hlw bb) hnB HL.out.lt bb;have HF:=Lib.hid hfin;clear hfin hupA hup h6 H6 hl6 hl9 hat9 hlate c3 z0 z1 z2 c0 lE9 lL9 hnL3 hnE3 hnG3;by_cases q0:b < 0
  . obtain rfl:bb = true:=by rw [HBB.out];simp [q0]
    have b0:decide (b < 0) = true:=by simpa using q0
    clear q0;go_wp2_with fail;go_end0;exact ⟨rfl,HF.out⟩
  have b0:decide (b < 0) = false:=by simpa using q0
  by_cases q1:c < 0
  . obtain rfl:bb = true:=by rw [HBB.out];simp [q1]
    have b1:decide (c < 0) = true:=by simpa using q1
    clear q0 q1;go_wp2_with fail;go_end0;exact ⟨rfl,HF.out⟩
  have b1:decide (c < 0) = false:=by simpa using q1
  by_cases q2:d < 0
  . obtain rfl:bb = true:=by rw [HBB.out];simp [q2]
    have b2:decide (d < 0) = true:=by simpa using q2
    clear q0 q1 q2;go_wp2_with fail;go_end0;exact ⟨rfl,HF.out⟩
  have b2:decide (d < 0) = false:=by simpa using q2
  obtain rfl:bb = false:=by rw [HBB.out];simp [q0,q1,q2]
  clear q0 q1 q2;go_wp2_with fail;go_end0;exact ⟨rfl,HF.out⟩
theorem zli {u:World} {L E:Nat} {Bs:Nat -> Prop} {lo hi md:Int} {st:JSt} {V:List Out} {f0 f1:Int} (hL:LdIs u L (some ⟨E,0,none⟩) false) (hE:EAt u E Bs lo hi md st V V f0 f1) (hnB:¬ Bs L) (b c d:Int) (a:Option Addr) (cap:Nat) (hnum:zaq u L a [b,c,d]) (hgB:∀ g,a = some ⟨g,0,none⟩ -> ¬ Bs g) (hb:0 <= b) (hc:0 <= c) (hd:0 <= d) :
 Calls Tryz.prog 141 #[.pointer (some ⟨L,0,none⟩),.int .i64 1,.string ⟨#[102,101,100]⟩,.slice a 3 cap] u fun e u'=>e = .returned (.tuple #[]) /\ LUp u u' L E Bs lo hi md { st with late:=d } V b c:=by
 have h:=zqg hL hE hnB b c d a cap hnum hgB false (by simp;omega);rw [show max d 0 = d by omega] at h;exact h
theorem zi2 {lo hi:Int} {s:Nat} {t:Int} {st:JSt} (hA:∀ h ∈ st.a,h.r.ok) (hB:∀ h ∈ st.b,h.r.ok):(∀ h ∈ (zbr lo hi s t st).a,h.r.ok) /\ ∀ h ∈ (zbr lo hi s t st).b,h.r.ok:=by
 unfold zbr;split
 . exact ⟨hA,fun h hh=>hB h (List.mem_filter.1 hh).1⟩
 . exact ⟨fun h hh=>hA h (List.mem_filter.1 hh).1,hB⟩
theorem ziC {u:World} {E:Nat} {Bs:Nat -> Prop} {lo hi md:Int} {st:JSt} {V W:List Out} {f0 f1:Int} (h:EAt u E Bs lo hi md st V W f0 f1) (hp:zay lo hi) (t:Int) (hl:st.b.length < 1000000) :
 ∃ P,u.cell? ⟨E,3,none⟩ = some (.pointer (some ⟨P,0,none⟩)) /\ ∀ U,Ext u U -> Calls Tryz.prog 134 #[.pointer (some ⟨P,0,none⟩),.int .i64 0,.int .i64 t] U fun e U'=>e = .returned (errV (moveI 0 t st.x st.y)) /\ ExtM (fun k=>Bs k /\ k ≠ E) U U' /\ EUp U U' E Bs lo hi md (if moveI 0 t st.x st.y = 0 then zbr lo hi 0 t st else st) V W f0 f1:=by
 obtain ⟨P,M,v0,v1,D,DG,ents,hI,rfl⟩:=h;refine ⟨P,hI.c3,fun U hU=>?_⟩;have hIU:=hI.ext hU;have hnE:¬ zaE P M v0 v1 E:=fun e=>(hI.sJ E e).1 (.inl rfl);refine (zmG hIU.join hp t hl).mono ?_;rintro e U' ⟨rfl,hj⟩;have hok:=zi2 (lo:=lo) (hi:=hi) (s:=0) (t:=t) hI.okA hI.okB;refine ⟨rfl,hj.1.mono (fun k _ hk=>⟨.inl hk,fun e=>hnE (e ▸ hk)⟩),hIU.upJ hj ?_ ?_⟩
 . split
   . exact hok.1
   . exact hI.okA
 . split
   . exact hok.2
   . exact hI.okB
theorem ziB {u:World} {E:Nat} {Bs:Nat -> Prop} {lo hi md:Int} {st:JSt} {V W:List Out} {f0 f1:Int} (h:EAt u E Bs lo hi md st V W f0 f1) (hp:zay lo hi) (t:Int) (hl:st.a.length < 1000000) :
 ∃ P,u.cell? ⟨E,3,none⟩ = some (.pointer (some ⟨P,0,none⟩)) /\ ∀ U,Ext u U -> Calls Tryz.prog 134 #[.pointer (some ⟨P,0,none⟩),.int .i64 1,.int .i64 t] U fun e U'=>e = .returned (errV (moveI 1 t st.x st.y)) /\ ExtM (fun k=>Bs k /\ k ≠ E) U U' /\ EUp U U' E Bs lo hi md (if moveI 1 t st.x st.y = 0 then zbr lo hi 1 t st else st) V W f0 f1:=by
 obtain ⟨P,M,v0,v1,D,DG,ents,hI,rfl⟩:=h;refine ⟨P,hI.c3,fun U hU=>?_⟩;have hIU:=hI.ext hU;have hnE:¬ zaE P M v0 v1 E:=fun e=>(hI.sJ E e).1 (.inl rfl);refine (zlW hIU.join hp t hl).mono ?_;rintro e U' ⟨rfl,hj⟩;have hok:=zi2 (lo:=lo) (hi:=hi) (s:=1) (t:=t) hI.okA hI.okB;refine ⟨rfl,hj.1.mono (fun k _ hk=>⟨.inl hk,fun e=>hnE (e ▸ hk)⟩),hIU.upJ hj ?_ ?_⟩
 . split
   . exact hok.1
   . exact hI.okA
 . split
   . exact hok.2
   . exact hI.okB
end Go.Proofs.YtiknejbcehpmoaaGreatDoor
