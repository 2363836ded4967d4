import Derived.Test.YtmcgnnmffeojpabGreatDoorPk6
import Derived.WalkSpells
import Derived.Lib.Hide
import Derived.OwnWalk
set_option maxRecDepth 100000
set_option maxHeartbeats 8000000
namespace Go.Proofs.YtmcgnnmffeojpabGreatDoor
open Go.RowKit Go.Plan
structure zaB (w:World) (B o:Nat) (D:Option Nat) (l:List Out):Prop where
 c0:w.cell? ⟨B,o,none⟩ = some (.map D)
 c1:w.cell? ⟨B,o + 1,none⟩ = some (.int .i64 (l.length:Int))
 f0:w.frozen? ⟨B,o,none⟩ = false
 f1:w.frozen? ⟨B,o + 1,none⟩ = false
 ok:∀ x ∈ l,x.ok
 mp:(D = none /\ l = []) \/ ∃ d m,D = some d /\ d ≠ B /\ zav Tryz.prog 86 encO w d m /\ zbk m l
theorem zac {w:World} {a:Addr} {v:Value} (h:w.cell? a = some v):a.block < w.heap.size:=by
 unfold World.cell? at h;split at h
 . rename_i hb;exact (Array.getElem?_eq_some_iff.1 hb).1
 . cases h
theorem zaB.ltB {w:World} {B o:Nat} {D:Option Nat} {l:List Out} (h:zaB w B o D l):B < w.heap.size:=zac h.c0
theorem zaB.of {M:Nat -> Prop} {w w':World} {B o:Nat} {D:Option Nat} {l:List Out} (h:zaB w B o D l) (hx:ExtM M w w') (hB:¬ M B) (hD:∀ d,D = some d -> ¬ M d):zaB w' B o D l where
 c0:=(hx.cell (p:=⟨B,o,none⟩) h.ltB hB).trans h.c0
 c1:=(hx.cell (p:=⟨B,o + 1,none⟩) h.ltB hB).trans h.c1
 f0:=(hx.frozen (p:=⟨B,o,none⟩) h.ltB hB).trans h.f0
 f1:=(hx.frozen (p:=⟨B,o + 1,none⟩) h.ltB hB).trans h.f1
 ok:=h.ok
 mp:=by
  rcases h.mp with h | ⟨d,m,h1,h2,h3,h4⟩
  . exact .inl h
  . exact .inr ⟨d,m,h1,h2,h3.of hx (hD d h1),h4⟩
def bagM (B:Nat) (D:Option Nat) (k:Nat):Prop:=k = B \/ D = some k
def encC (x:Out) (g:Bool):Value:=.agg #[.int .i64 x.key,.int .i64 x.l.k,.int .i64 x.l.t,.int .i64 x.l.v,.int .i64 x.r.k,.int .i64 x.r.t,.int .i64 x.r.v,.bool x.hl,.bool x.hr,.bool g]
theorem zbx (x:Out):encO x = .agg #[.int .i64 x.key,.int .i64 x.l.k,.int .i64 x.l.t,.int .i64 x.l.v,.int .i64 x.r.k,.int .i64 x.r.t,.int .i64 x.r.v,.bool x.hl,.bool x.hr]:=rfl
structure BoxC (w:World) (n:Nat) (x:Out) (g:Bool):Prop where
 e0:w.cell? ⟨n,0,none⟩ = some (.int .i64 x.key)
 e1:w.cell? ⟨n,1,none⟩ = some (.int .i64 x.l.k)
 e2:w.cell? ⟨n,2,none⟩ = some (.int .i64 x.l.t)
 e3:w.cell? ⟨n,3,none⟩ = some (.int .i64 x.l.v)
 e4:w.cell? ⟨n,4,none⟩ = some (.int .i64 x.r.k)
 e5:w.cell? ⟨n,5,none⟩ = some (.int .i64 x.r.t)
 e6:w.cell? ⟨n,6,none⟩ = some (.int .i64 x.r.v)
 e7:w.cell? ⟨n,7,none⟩ = some (.bool x.hl)
 e8:w.cell? ⟨n,8,none⟩ = some (.bool x.hr)
 e9:w.cell? ⟨n,9,none⟩ = some (.bool g)
theorem BoxC.mk' (w:World) (x:Out) (g:Bool) (t:TypeId):BoxC (w.alloc (.cells #[.int .i64 x.key,.int .i64 x.l.k,.int .i64 x.l.t,.int .i64 x.l.v,.int .i64 x.r.k,.int .i64 x.r.t,.int .i64 x.r.v,.bool x.hl,.bool x.hr,.bool g] t)) w.heap.size x g:=by
 constructor <;> go_simp
theorem BoxC.of {M:Nat -> Prop} {w w':World} {n:Nat} {x:Out} {g:Bool} (h:BoxC w n x g) (hx:ExtM M w w') (hn:¬ M n):BoxC w' n x g:=by
 have hl:n < w.heap.size:=zac h.e0;have r:∀ i,w'.cell? ⟨n,i,none⟩ = w.cell? ⟨n,i,none⟩:=fun i=>hx.cell (p:=⟨n,i,none⟩) hl hn;exact ⟨(r 0).trans h.e0,(r 1).trans h.e1,(r 2).trans h.e2,(r 3).trans h.e3,(r 4).trans h.e4,(r 5).trans h.e5,(r 6).trans h.e6,(r 7).trans h.e7,(r 8).trans h.e8,(r 9).trans h.e9⟩
structure zaL (B o:Nat) (w w':World):Prop where
 cell:∀ q,q ≠ o -> q ≠ o + 1 -> w'.cell? ⟨B,q,none⟩ = w.cell? ⟨B,q,none⟩
 frz:∀ q,w'.frozen? ⟨B,q,none⟩ = w.frozen? ⟨B,q,none⟩
theorem zaL.refl {B o:Nat} (w:World):zaL B o w w:=⟨fun _ _ _=>rfl,fun _=>rfl⟩
theorem zaL.trans {B o:Nat} {a b c:World} (h:zaL B o a b) (k:zaL B o b c):zaL B o a c:=⟨fun q h0 h1=>(k.cell q h0 h1).trans (h.cell q h0 h1),fun q=>(k.frz q).trans (h.frz q)⟩
theorem zaL.step {F:Nat -> Prop} {B o:Nat} {a b c:World} (h:zaL B o a b) (hx:ExtM F b c) (hB:B < b.heap.size) (hF:¬ F B):zaL B o a c :=
 h.trans ⟨fun q _ _=>hx.cell (p:=⟨B,q,none⟩) hB hF,fun q=>hx.frozen (p:=⟨B,q,none⟩) hB hF⟩
theorem zaL.set {B o k:Nat} {a b:World} (h:zaL B o a b) (hk:k = o \/ k = o + 1) (v:Value):zaL B o a (b.setCell ⟨B,k,none⟩ v) :=
 h.trans ⟨fun q h0 h1=>World.cell?_setCell_other _ _ _ _ (by intro e;simp only [Addr.mk.injEq,and_true,true_and] at e;omega),fun q=>World.frozen?_setCell _ _ _ _⟩
theorem zaB.store {w:World} {B o d:Nat} {v:Value} {m:List (Out × Value)} {l:List Out} (c0:w.cell? ⟨B,o,none⟩ = some (.map (some d))) (c1:w.cell? ⟨B,o + 1,none⟩ = some v) (f0:w.frozen? ⟨B,o,none⟩ = false) (f1:w.frozen? ⟨B,o + 1,none⟩ = false)
 (ok:∀ x ∈ l,x.ok) (hd:¬ B = d) (hm:zav Tryz.prog 86 encO w d m) (hc:zbk m l) (n:Int) (hn:n = (l.length:Int)):zaB (w.setCell ⟨B,o + 1,none⟩ (.int .i64 n)) B o (some d) l:=by
 subst hn;have hm':zav Tryz.prog 86 encO (w.setCell ⟨B,o + 1,none⟩ (.int .i64 (l.length:Int))) d m:=hm.keep (Below.heap_setCell _ _ _ _ (fun e=>hd e.symm));exact ⟨by go_simp,by go_simp,by go_simp,by go_simp,ok,.inr ⟨d,m,rfl,fun e=>hd e.symm,hm',hc⟩⟩
structure BagC (w:World) (B o:Nat) (D:Option Nat) (n:Int):Prop where
 c0:w.cell? ⟨B,o,none⟩ = some (.map D)
 c1:w.cell? ⟨B,o + 1,none⟩ = some (.int .i64 n)
 f0:w.frozen? ⟨B,o,none⟩ = false
 f1:w.frozen? ⟨B,o + 1,none⟩ = false
theorem BagC.lt {w:World} {B o:Nat} {D:Option Nat} {n:Int} (h:BagC w B o D n):B < w.heap.size:=zac h.c0
theorem BagC.of {M:Nat -> Prop} {w w':World} {B o:Nat} {D:Option Nat} {n:Int} (h:BagC w B o D n) (hx:ExtM M w w') (hB:¬ M B):BagC w' B o D n where
 c0:=(hx.cell (p:=⟨B,o,none⟩) h.lt hB).trans h.c0
 c1:=(hx.cell (p:=⟨B,o + 1,none⟩) h.lt hB).trans h.c1
 f0:=(hx.frozen (p:=⟨B,o,none⟩) h.lt hB).trans h.f0
 f1:=(hx.frozen (p:=⟨B,o + 1,none⟩) h.lt hB).trans h.f1
theorem zaB.cells {w:World} {B o:Nat} {D:Option Nat} {l:List Out} (h:zaB w B o D l):BagC w B o D l.length:=⟨h.c0,h.c1,h.f0,h.f1⟩
theorem zaB.store' {w:World} {B o d:Nat} {n0:Int} {m:List (Out × Value)} {l:List Out} (hb:BagC w B o (some d) n0)
 (ok:∀ x ∈ l,x.ok) (hd:¬ B = d) (hm:zav Tryz.prog 86 encO w d m) (hc:zbk m l) (n:Int) (hn:n = (l.length:Int)):zaB (w.setCell ⟨B,o + 1,none⟩ (.int .i64 n)) B o (some d) l :=
 zaB.store hb.c0 hb.c1 hb.f0 hb.f1 ok hd hm hc n hn
theorem zl3 (B o d:Nat) (l:List Out) (x:Out) (w:World) (h:zaB w B o (some d) l) (hx:x.ok) (hl:l.length < 1000000000) :
 Calls Tryz.prog 96 #[.pointer (some ⟨B,o,none⟩),encC x false] w fun e w'=>e = .returned .nilIface /\ ExtM (bagM B (some d)) w w' /\ zaB w' B o (some d) (x :: l) /\ zaL B o w w':=by
 have hne:=fun w=>run_eql_map_nil (P:=Tryz.prog) w 102 86 3 (some d) Tryz.underlying102;have hB:=h.ltB;obtain ⟨d',m,hd,hdB,hm,hcnt⟩:=h.mp.resolve_left (by rintro ⟨h,-⟩;cases h);obtain rfl:d = d':=Option.some.inj hd;have hdw:=hm.lt;have hok:=h.ok;have hbc:=h.cells;obtain ⟨c0,c1,f0,f1⟩:=id hbc;clear h hd;unfold encC;go_enter Tryz.func96,Tryz.ntmps96;go_wp2_with fail;have bx:=BoxC.mk' w x false 92;have x1:Ext w (w.alloc (.cells #[.int .i64 x.key,.int .i64 x.l.k,.int .i64 x.l.t,.int .i64 x.l.v,.int .i64 x.r.k,.int .i64 x.r.t,.int .i64 x.r.v,.bool x.hl,.bool x.hr,.bool false] 92)):=(ExtM.refl _).alloc _;replace hbc:=hbc.of x1 id;replace hm:=hm.of x1 id;clear c0 c1 f0 f1;generalize w.alloc (.cells #[.int .i64 x.key,.int .i64 x.l.k,.int .i64 x.l.t,.int .i64 x.l.v,.int .i64 x.r.k,.int .i64 x.r.t,.int .i64 x.r.v,.bool x.hl,.bool x.hr,.bool false] 92) = w1 at *;have hN:¬ w.heap.size = d:=by omega
 have hBn:¬ B = d:=fun e=>hdB e.symm;have hBN:¬ B = w.heap.size:=by omega
 generalize hn:w.heap.size = n at *;have hlk:=(hm.of (ExtM.drew (ExtM.refl w1):Ext w1 w1.drew) id).run_look false zbV zaT Tryz.underlying102 zb4 x (keyO x hx);obtain ⟨st,w2,hme,x2,z2,hlk2,hst⟩:=(hm.of (ExtM.drew (ExtM.refl w1):Ext w1 w1.drew) id).run_entry zbV zaT Tryz.underlying102 zb4 x (keyO x hx);obtain ⟨w3,hst3,x3,z3,hm3⟩:=hst (.int .i64 ((l.count x:Int) + 1));rw [hcnt.getD] at hlk hme hlk2;simp only [zbx,Bool.false_eq_true,if_false] at hlk hme hlk2;have y3:ExtB d w1 w3:=ExtB.trans _ _ _ (ExtB.of_ext ((ExtM.refl w1).drew)) (ExtB.trans _ _ _ x2 x3);have hbc3:=hbc.of y3 hBn;have bx3:=bx.of y3 hN;clear z2 z3;have hcb0:0 <= ((l.count x:Nat):Int):=Int.natCast_nonneg _;have hcb1:((l.count x:Nat):Int) < 1000000000:=by have:=List.count_le_length (a:=x) (l:=l);omega
 have hc3:=hcnt.add x;generalize ((l.count x:Nat):Int) = c at *;have hnl:n < w1.heap.size:=zac bx.e0;have hB1:=hbc.lt;obtain ⟨c0,c1,f0,f1⟩:=id hbc;obtain ⟨e0,e1,e2,e3,e4,e5,e6,e7,e8,e9⟩:=id bx;refine Plan.b0 (Plan.ExtB d) 11 ?_;refine Plan.qs 6 [0,1,2,3,4,5] ?_;iterate 6 go_big_quiet_step (fail)
 refine Plan.o2 6 8 (fun K hK=>?_) fun K hK=>?_
 focus
  go_wp2_with (fail);refine hK _ _ (ExtM.refl _) ?_;clear hK K;refine Plan.qs 1 [7] ?_;go_big_quiet_step (fail);refine Plan.o1 8 fun K hK=>?_;go_wp2_with (fail);refine hK _ _ (x2) ?_;clear hK K;refine Plan.qs 1 [9] ?_;go_big_quiet_step (fail);refine Plan.o1 10 fun K hK=>?_;go_wp2_with (fail);refine hK _ _ (x3) ?_;clear hK K;refine Plan.dn ?_
 rotate_left
 focus
  go_wp2_with (fail);refine hK _ _ (x2) ?_;clear hK K;refine Plan.qs 1 [9] ?_;go_big_quiet_step (fail);refine Plan.o1 6 fun K hK=>?_;go_wp2_with (fail);refine hK _ _ (ExtM.refl _) ?_;clear hK K;refine Plan.qs 1 [7] ?_;go_big_quiet_step (fail);refine Plan.o1 10 fun K hK=>?_;go_wp2_with (fail);refine hK _ _ (x3) ?_;clear hK K;refine Plan.dn ?_
 all_goals
  clear hnl hB1 c0 c1 f0 f1 e0 e1 e2 e3 e4 e5 e6 e7 e8 e9;have hnl:n < w3.heap.size:=zac bx3.e0;have hB1:=hbc3.lt;obtain ⟨c0,c1,f0,f1⟩:=id hbc3;obtain ⟨e0,e1,e2,e3,e4,e5,e6,e7,e8,e9⟩:=id bx3;go_wp2_with fail;go_ret;refine ⟨rfl,?_,zaB.store' hbc3 (fun y hy=>?_) hBn hm3 hc3 _ (by simp),(((zaL.refl w).step x1 (by rw [hn];exact hB) (fun h=>h)).step y3 hbc.lt hBn).set (.inr rfl) _⟩
  . exact ExtM.setCell (ExtM.trans _ _ _ (ExtM.mono x1 (fun _ _ h=>h.elim)) (ExtM.mono y3 (fun k _ h=>.inr (congrArg some h.symm)))) (.inr (.inl rfl)) _
  . rcases List.mem_cons.1 hy with rfl | hy
    . exact hx
    . exact hok y hy
theorem zfZ (B o:Nat) (x:Out) (w:World) (h:zaB w B o none []) (hx:x.ok) :
 Calls Tryz.prog 96 #[.pointer (some ⟨B,o,none⟩),encC x false] w fun e w'=>e = .returned .nilIface /\ ∃ d,w.heap.size <= d /\ ExtM (bagM B none) w w' /\ zaB w' B o (some d) [x] /\ zaL B o w w':=by
 have hne:=fun w=>run_eql_map_nil (P:=Tryz.prog) w 102 86 3 none Tryz.underlying102;have hmm:=@run_makeMap Tryz.prog;have hB:=h.ltB;obtain ⟨c0,c1,f0,f1⟩:=h.cells;unfold encC;go_enter Tryz.func96,Tryz.ntmps96;go_wp2_with fail;have xs:ExtM (bagM B none) w (w.setCell ⟨B,o,none⟩ (.map (some (w.heap.size + 1)))):=ExtM.setCell (ExtM.refl _) (.inr (.inl rfl)) _;have zs:(w.setCell ⟨B,o,none⟩ (.map (some (w.heap.size + 1)))).heap.size = w.heap.size:=by simp
 have hbcs:BagC (w.setCell ⟨B,o,none⟩ (.map (some (w.heap.size + 1)))) B o (some (w.heap.size + 1)) 0:=⟨by go_simp,by go_simp,by go_simp,by go_simp⟩
 have hos:zaL B o w (w.setCell ⟨B,o,none⟩ (.map (some (w.heap.size + 1)))):=(zaL.refl w).set (.inl rfl) _;clear c0 c1 f0 f1 h;generalize w.setCell ⟨B,o,none⟩ (.map (some (w.heap.size + 1))) = ws at *;have bx:=BoxC.mk' ws x false 92;rw [zs] at bx;have x0:Ext ws (ws.alloc (.cells #[.int .i64 x.key,.int .i64 x.l.k,.int .i64 x.l.t,.int .i64 x.l.v,.int .i64 x.r.k,.int .i64 x.r.t,.int .i64 x.r.v,.bool x.hl,.bool x.hr,.bool false] 92)):=(ExtM.refl _).alloc _;have z0:(ws.alloc (.cells #[.int .i64 x.key,.int .i64 x.l.k,.int .i64 x.l.t,.int .i64 x.l.v,.int .i64 x.r.k,.int .i64 x.r.t,.int .i64 x.r.v,.bool x.hl,.bool x.hr,.bool false] 92)).heap.size = w.heap.size + 1:=by rw [World.size_alloc,zs]
 generalize ws.alloc (.cells #[.int .i64 x.key,.int .i64 x.l.k,.int .i64 x.l.t,.int .i64 x.l.v,.int .i64 x.r.k,.int .i64 x.r.t,.int .i64 x.r.v,.bool x.hl,.bool x.hr,.bool false] 92) = w0 at *;have hm:zav Tryz.prog 86 encO (w0.alloc (.map #[] 0)) w0.heap.size []:=zav.made w0;rw [z0] at hm;have x1:Ext w0 (w0.alloc (.map #[] 0)):=(ExtM.refl _).alloc _;have hbc:=(hbcs.of x0 id).of x1 id;replace bx:=bx.of x1 id;have x01:ExtM (bagM B none) w (w0.alloc (.map #[] 0)):=ExtM.trans _ _ _ xs (ExtM.trans _ _ _ (ExtM.mono x0 (fun _ _ h=>h.elim)) (ExtM.mono x1 (fun _ _ h=>h.elim)));have hos1:zaL B o w (w0.alloc (.map #[] 0)):=(hos.step x0 hbcs.lt (fun h=>h)).step x1 (hbcs.of x0 id).lt (fun h=>h);clear hbcs x0 x1 zs z0 xs hos;generalize w0.alloc (.map #[] 0) = w1 at *;have hN:¬ w.heap.size = w.heap.size + 1:=by omega
 have hBn:¬ B = w.heap.size + 1:=by omega
 have hdn:w.heap.size <= w.heap.size + 1:=by omega
 obtain ⟨l,hl0⟩:∃ l:List Out,l = []:=⟨[],rfl⟩
 have hcnt:zbk [] l:=hl0 ▸ zbk.nil;have hl:l.length < 1000000000:=by rw [hl0];decide
 generalize hd:w.heap.size + 1 = d at *;generalize hn:w.heap.size = n at *;clear hd;have hlk:=(hm.of (ExtM.drew (ExtM.refl w1):Ext w1 w1.drew) id).run_look false zbV zaT Tryz.underlying102 zb4 x (keyO x hx);obtain ⟨st,w2,hme,x2,z2,hlk2,hst⟩:=(hm.of (ExtM.drew (ExtM.refl w1):Ext w1 w1.drew) id).run_entry zbV zaT Tryz.underlying102 zb4 x (keyO x hx);obtain ⟨w3,hst3,x3,z3,hm3⟩:=hst (.int .i64 ((l.count x:Int) + 1));rw [hcnt.getD] at hlk hme hlk2;simp only [zbx,Bool.false_eq_true,if_false] at hlk hme hlk2;have y3:ExtB d w1 w3:=ExtB.trans _ _ _ (ExtB.of_ext ((ExtM.refl w1).drew)) (ExtB.trans _ _ _ x2 x3);have hbc3:=hbc.of y3 hBn;have bx3:=bx.of y3 hN;clear z2 z3;have hcb0:0 <= ((l.count x:Nat):Int):=Int.natCast_nonneg _;have hcb1:((l.count x:Nat):Int) < 1000000000:=by have:=List.count_le_length (a:=x) (l:=l);omega
 have hc3:=hcnt.add x;have hc0:((l.count x:Nat):Int) = 0:=by rw [hl0];simp
 rw [hc0] at hlk hme hlk2 hst3 hm3 hc3;rw [hl0] at hc3;clear hl0;clear hcb0 hcb1 hc0;simp only [Int.zero_add] at hst3 hm3 hc3;have hnl:n < w1.heap.size:=zac bx.e0;have hB1:=hbc.lt;obtain ⟨c0,c1,f0,f1⟩:=id hbc;obtain ⟨e0,e1,e2,e3,e4,e5,e6,e7,e8,e9⟩:=id bx;refine Plan.b0 (Plan.ExtB d) 11 ?_;refine Plan.qs 6 [0,1,2,3,4,5] ?_;iterate 6 go_big_quiet_step (fail)
 refine Plan.o2 6 8 (fun K hK=>?_) fun K hK=>?_
 focus
  go_wp2_with (fail);refine hK _ _ (ExtM.refl _) ?_;clear hK K;refine Plan.qs 1 [7] ?_;go_big_quiet_step (fail);refine Plan.o1 8 fun K hK=>?_;go_wp2_with (fail);refine hK _ _ (x2) ?_;clear hK K;refine Plan.qs 1 [9] ?_;go_big_quiet_step (fail);refine Plan.o1 10 fun K hK=>?_;go_wp2_with (fail);refine hK _ _ (x3) ?_;clear hK K;refine Plan.dn ?_
 rotate_left
 focus
  go_wp2_with (fail);refine hK _ _ (x2) ?_;clear hK K;refine Plan.qs 1 [9] ?_;go_big_quiet_step (fail);refine Plan.o1 6 fun K hK=>?_;go_wp2_with (fail);refine hK _ _ (ExtM.refl _) ?_;clear hK K;refine Plan.qs 1 [7] ?_;go_big_quiet_step (fail);refine Plan.o1 10 fun K hK=>?_;go_wp2_with (fail);refine hK _ _ (x3) ?_;clear hK K;refine Plan.dn ?_
 all_goals
  clear hnl hB1 c0 c1 f0 f1 e0 e1 e2 e3 e4 e5 e6 e7 e8 e9;have hnl:n < w3.heap.size:=zac bx3.e0;have hB1:=hbc3.lt;obtain ⟨c0,c1,f0,f1⟩:=id hbc3;obtain ⟨e0,e1,e2,e3,e4,e5,e6,e7,e8,e9⟩:=id bx3;go_wp2_with fail;go_ret;refine ⟨rfl,d,hn ▸ hdn,?_,zaB.store' hbc3 (fun y hy=>?_) hBn hm3 hc3 _ (by simp),(hos1.step y3 hbc.lt hBn).set (.inr rfl) _⟩
  . refine ExtM.setCell ?_ (.inr (.inl rfl)) _;refine ⟨y3.os.trans x01.os,y3.tape.trans x01.tape,y3.output.trans x01.output,Nat.le_trans x01.size y3.size,fun k hk hk'=>?_⟩;exact (y3.block k (Nat.lt_of_lt_of_le hk x01.size) (fun e=>by have e':k = d:=e;omega)).trans (x01.block k hk hk')
  . obtain rfl:=List.mem_singleton.1 hy;exact hx
theorem zqN (x:Out) (hx:x.ok) (w:World):(Instr.lookup 102 (.map none) (encO x) false).run Tryz.prog w = .ok (.int .i64 0) w:=by
 obtain ⟨l,hl⟩:=keyO x hx;have hf:(Instr.findKey 86 (encO x) []).run Tryz.prog w = .ok none w:=by
  rcases zbV.find w hl [] (by simp) with ⟨h,-⟩ | ⟨j,e,-,h,-⟩
  . exact h
  . simp at h
 simp [Instr.lookup,run_underlying Tryz.underlying102,zbV.check w _ hl,hf,Result.andThen]
theorem zg6 (B o d:Nat) (l:List Out) (x:Out) (w:World) (h:zaB w B o (some d) l) (hx:x.ok) (hl:l.length < 1000000000) (hc1:1 < l.count x) :
 Calls Tryz.prog 96 #[.pointer (some ⟨B,o,none⟩),encC x true] w fun e w'=>e = .returned .nilIface /\ ExtM (bagM B (some d)) w w' /\ zaB w' B o (some d) (l.erase x) /\ zaL B o w w':=by
 have hB:=h.ltB;obtain ⟨d',m,hd,hdB,hm,hcnt⟩:=h.mp.resolve_left (by rintro ⟨h,-⟩;cases h);obtain rfl:d = d':=Option.some.inj hd;have hdw:=hm.lt;have hok:=h.ok;have hbc:=h.cells;obtain ⟨c0,c1,f0,f1⟩:=id hbc;clear h hd;unfold encC;go_enter Tryz.func96,Tryz.ntmps96;go_wp2_with fail;have bx:=BoxC.mk' w x true 92;have x1:Ext w (w.alloc (.cells #[.int .i64 x.key,.int .i64 x.l.k,.int .i64 x.l.t,.int .i64 x.l.v,.int .i64 x.r.k,.int .i64 x.r.t,.int .i64 x.r.v,.bool x.hl,.bool x.hr,.bool true] 92)):=(ExtM.refl _).alloc _;replace hbc:=hbc.of x1 id;replace hm:=hm.of x1 id;clear c0 c1 f0 f1;generalize w.alloc (.cells #[.int .i64 x.key,.int .i64 x.l.k,.int .i64 x.l.t,.int .i64 x.l.v,.int .i64 x.r.k,.int .i64 x.r.t,.int .i64 x.r.v,.bool x.hl,.bool x.hr,.bool true] 92) = w1 at *;have hN:¬ w.heap.size = d:=by omega
 have hBn:¬ B = d:=fun e=>hdB e.symm;have hBN:¬ B = w.heap.size:=by omega
 generalize hn:w.heap.size = n at *;have hlq:=fun p=>(hm.of (zb7 ExtM.refl w1.drew p |> fun h=>ExtM.trans _ _ _ (ExtM.drew (ExtM.refl w1)) h:Ext w1 (Plan.ext Ext w1.drew p)) id).run_look false zbV zaT Tryz.underlying102 zb4 x (keyO x hx);simp only [hcnt.getD,zbx,Bool.false_eq_true,if_false] at hlq;have hz1:(((l.count x:Nat):Int) == 0) = false:=by simp;omega
 have hz2:(((l.count x:Nat):Int) - 1 == 0) = false:=by simp;omega
 have hlen:0 < l.length:=Nat.lt_of_lt_of_le (by omega) (List.count_le_length (a:=x) (l:=l));have hle:((l.length:Int) - 1) = ((l.erase x).length:Int):=by rw [List.length_erase_of_mem (List.count_pos_iff.1 (by omega))];omega
 have hokr:∀ y ∈ l.erase x,y.ok:=fun y hy=>hok y (List.mem_of_mem_erase hy);have hc3:=hcnt.dec x hc1;have HLE:=Lib.hid hle;clear hle;have hcc:1 < ((l.count x:Nat):Int):=by omega
 have hnl:n < w1.heap.size:=zac bx.e0;have hB1:=hbc.lt;obtain ⟨c0,c1,f0,f1⟩:=id hbc;obtain ⟨e0,e1,e2,e3,e4,e5,e6,e7,e8,e9⟩:=id bx;refine Plan.b0 Plan.Ext 8 ?_;refine Plan.qs 8 [0,1,2,3,4,5,6,7] ?_;iterate 8 go_big_quiet_step (fail)
 refine Plan.dn ?_;clear hnl hB1 c0 c1 f0 f1 e0 e1 e2 e3 e4 e5 e6 e7 e8 e9;have xd:Ext w1 w1.drew:=(ExtM.refl _).drew;replace hm:=hm.of xd id;replace bx:=bx.of xd id;replace hbc:=hbc.of xd id;replace x1:=ExtM.trans _ _ _ x1 xd;clear hlq xd;go_wp2_with fail;generalize w1.drew = v1 at *;have hlk:=(hm.of (ExtM.drew (ExtM.refl v1):Ext v1 v1.drew) id).run_look false zbV zaT Tryz.underlying102 zb4 x (keyO x hx);obtain ⟨st,w2,hme,x2,z2,hlk2,hst⟩:=(hm.of (ExtM.drew (ExtM.refl v1):Ext v1 v1.drew) id).run_entry zbV zaT Tryz.underlying102 zb4 x (keyO x hx);obtain ⟨w3,hst3,x3,z3,hm3⟩:=hst (.int .i64 ((l.count x:Int) - 1));rw [hcnt.getD] at hlk hme hlk2;simp only [zbx,Bool.false_eq_true,if_false] at hlk hme hlk2;have y3:ExtB d v1 w3:=ExtB.trans _ _ _ (ExtB.of_ext ((ExtM.refl v1).drew)) (ExtB.trans _ _ _ x2 x3);have hbc3:=hbc.of y3 hBn;have bx3:=bx.of y3 hN;clear z2 z3;have hcb0:0 <= ((l.count x:Nat):Int):=Int.natCast_nonneg _;have hcb1:((l.count x:Nat):Int) < 1000000000:=by have:=List.count_le_length (a:=x) (l:=l);omega
 have hlq:=fun p=>(hm3.of (zb7 ExtM.refl w3.drew p |> fun h=>ExtM.trans _ _ _ (ExtM.drew (ExtM.refl w3)) h:Ext w3 (Plan.ext Ext w3.drew p)) id).run_look false zbV zaT Tryz.underlying102 zb4 x (keyO x hx);simp only [hc3.getD,zbx,Bool.false_eq_true,if_false] at hlq;generalize hcq:((l.count x:Nat):Int) = c at *;have hq:(((l.erase x).count x:Nat):Int) = c - 1:=by rw [List.count_erase_self];omega
 simp only [hq] at hlq;clear hcq hq;have hnl:n < v1.heap.size:=zac bx.e0;have hB1:=hbc.lt;obtain ⟨c0,c1,f0,f1⟩:=id hbc;obtain ⟨e0,e1,e2,e3,e4,e5,e6,e7,e8,e9⟩:=id bx;refine Plan.b0 (Plan.ExtB d) 11 ?_;refine Plan.qs 6 [0,1,2,3,4,5] ?_;iterate 6 go_big_quiet_step (fail)
 refine Plan.o2 6 8 (fun K hK=>?_) fun K hK=>?_
 focus
  go_wp2_with (fail);refine hK _ _ (ExtM.refl _) ?_;clear hK K;refine Plan.qs 1 [7] ?_;go_big_quiet_step (fail);refine Plan.o1 8 fun K hK=>?_;go_wp2_with (fail);refine hK _ _ (x2) ?_;clear hK K;refine Plan.qs 1 [9] ?_;go_big_quiet_step (fail);refine Plan.o1 10 fun K hK=>?_;go_wp2_with (fail);refine hK _ _ (x3) ?_;clear hK K;refine Plan.dn ?_
 rotate_left
 focus
  go_wp2_with (fail);refine hK _ _ (x2) ?_;clear hK K;refine Plan.qs 1 [9] ?_;go_big_quiet_step (fail);refine Plan.o1 6 fun K hK=>?_;go_wp2_with (fail);refine hK _ _ (ExtM.refl _) ?_;clear hK K;refine Plan.qs 1 [7] ?_;go_big_quiet_step (fail);refine Plan.o1 10 fun K hK=>?_;go_wp2_with (fail);refine hK _ _ (x3) ?_;clear hK K;refine Plan.dn ?_
 all_goals
  clear hnl hB1 c0 c1 f0 f1 e0 e1 e2 e3 e4 e5 e6 e7 e8 e9;go_wp2_with fail;have hnl:n < w3.heap.size:=zac bx3.e0;have hB1:=hbc3.lt;obtain ⟨c0,c1,f0,f1⟩:=id hbc3;obtain ⟨e0,e1,e2,e3,e4,e5,e6,e7,e8,e9⟩:=id bx3;refine Plan.b0 Plan.Ext 8 ?_;refine Plan.qs 8 [0,1,2,3,4,5,6,7] ?_;iterate 8 go_big_quiet_step (fail)
  refine Plan.dn ?_;clear hnl hB1 c0 c1 f0 f1 e0 e1 e2 e3 e4 e5 e6 e7 e8 e9;have xd:Ext w3 w3.drew:=(ExtM.refl _).drew;have hm4:=hm3.of xd id;have hbc4:=hbc3.of xd id;have y4:ExtB d v1 w3.drew:=ExtB.trans _ _ _ y3 (ExtB.of_ext xd);have hlt4:=hbc4.lt;obtain ⟨c0,c1,f0,f1⟩:=id hbc4;clear xd hbc3 bx3 hm3 y3 x3 hlq;generalize w3.drew = w4 at *;go_wp2_with fail;go_ret;refine ⟨rfl,?_,zaB.store' hbc4 hokr hBn hm4 hc3 _ HLE.out,(((zaL.refl w).step x1 (by rw [hn];exact hB) (fun h=>h)).step y4 hbc.lt hBn).set (.inr rfl) _⟩;exact ExtM.setCell (ExtM.trans _ _ _ (ExtM.mono x1 (fun _ _ h=>h.elim)) (ExtM.mono y4 (fun k _ h=>.inr (congrArg some h.symm)))) (.inr (.inl rfl)) _
theorem zlI (B o d:Nat) (l:List Out) (x:Out) (w:World) (h:zaB w B o (some d) l) (hx:x.ok) (hl:l.length < 1000000000) (hc1:1 < l.count x) :
 Calls Tryz.prog 96 #[.pointer (some ⟨B,o,none⟩),encC x true] w fun e w'=>e = .returned .nilIface /\ ExtM (bagM B (some d)) w w' /\ zaB w' B o (some d) (l.erase x) :=
 (zg6 B o d l x w h hx hl hc1).mono fun _e _w' hh=>⟨hh.1,hh.2.1,hh.2.2.1⟩
theorem zgK (B o d:Nat) (l:List Out) (x:Out) (w:World) (h:zaB w B o (some d) l) (hx:x.ok) (hl:l.length < 1000000000) (hc1:l.count x = 1) :
 Calls Tryz.prog 96 #[.pointer (some ⟨B,o,none⟩),encC x true] w fun e w'=>e = .returned .nilIface /\ ExtM (bagM B (some d)) w w' /\ zaB w' B o (some d) (l.erase x) /\ zaL B o w w':=by
 have hB:=h.ltB;obtain ⟨d',m,hd,hdB,hm,hcnt⟩:=h.mp.resolve_left (by rintro ⟨h,-⟩;cases h);obtain rfl:d = d':=Option.some.inj hd;have hdw:=hm.lt;have hok:=h.ok;have hbc:=h.cells;obtain ⟨c0,c1,f0,f1⟩:=id hbc;clear h hd;unfold encC;go_enter Tryz.func96,Tryz.ntmps96;go_wp2_with fail;have bx:=BoxC.mk' w x true 92;have x1:Ext w (w.alloc (.cells #[.int .i64 x.key,.int .i64 x.l.k,.int .i64 x.l.t,.int .i64 x.l.v,.int .i64 x.r.k,.int .i64 x.r.t,.int .i64 x.r.v,.bool x.hl,.bool x.hr,.bool true] 92)):=(ExtM.refl _).alloc _;replace hbc:=hbc.of x1 id;replace hm:=hm.of x1 id;clear c0 c1 f0 f1;generalize w.alloc (.cells #[.int .i64 x.key,.int .i64 x.l.k,.int .i64 x.l.t,.int .i64 x.l.v,.int .i64 x.r.k,.int .i64 x.r.t,.int .i64 x.r.v,.bool x.hl,.bool x.hr,.bool true] 92) = w1 at *;have hN:¬ w.heap.size = d:=by omega
 have hBn:¬ B = d:=fun e=>hdB e.symm;have hBN:¬ B = w.heap.size:=by omega
 generalize hn:w.heap.size = n at *;have hlq:=fun p=>(hm.of (zb7 ExtM.refl w1.drew p |> fun h=>ExtM.trans _ _ _ (ExtM.drew (ExtM.refl w1)) h:Ext w1 (Plan.ext Ext w1.drew p)) id).run_look false zbV zaT Tryz.underlying102 zb4 x (keyO x hx);simp only [hcnt.getD,zbx,Bool.false_eq_true,if_false] at hlq;have hz1:(((l.count x:Nat):Int) == 0) = false:=by simp;omega
 have hz2:(((l.count x:Nat):Int) - 1 == 0) = true:=by simp;omega
 have hlen:0 < l.length:=Nat.lt_of_lt_of_le (by omega) (List.count_le_length (a:=x) (l:=l));have hle:((l.length:Int) - 1) = ((l.erase x).length:Int):=by rw [List.length_erase_of_mem (List.count_pos_iff.1 (by omega))];omega
 have hokr:∀ y ∈ l.erase x,y.ok:=fun y hy=>hok y (List.mem_of_mem_erase hy);have hc5:=hcnt.del x (.int .i64 (((l.count x:Nat):Int) - 1)) hc1;have hcc:0 < ((l.count x:Nat):Int):=by omega
 have HC1:=Lib.hid hc1;clear hc1;have HLE:=Lib.hid hle;clear hle;have hnl:n < w1.heap.size:=zac bx.e0;have hB1:=hbc.lt;obtain ⟨c0,c1,f0,f1⟩:=id hbc;obtain ⟨e0,e1,e2,e3,e4,e5,e6,e7,e8,e9⟩:=id bx;refine Plan.b0 Plan.Ext 8 ?_;refine Plan.qs 8 [0,1,2,3,4,5,6,7] ?_;iterate 8 go_big_quiet_step (fail)
 refine Plan.dn ?_;clear hnl hB1 c0 c1 f0 f1 e0 e1 e2 e3 e4 e5 e6 e7 e8 e9;have xd:Ext w1 w1.drew:=(ExtM.refl _).drew;replace hm:=hm.of xd id;replace bx:=bx.of xd id;replace hbc:=hbc.of xd id;replace x1:=ExtM.trans _ _ _ x1 xd;clear hlq xd;go_wp2_with fail;generalize w1.drew = v1 at *;have hlk:=(hm.of (ExtM.drew (ExtM.refl v1):Ext v1 v1.drew) id).run_look false zbV zaT Tryz.underlying102 zb4 x (keyO x hx);obtain ⟨st,w2,hme,x2,z2,hlk2,hst⟩:=(hm.of (ExtM.drew (ExtM.refl v1):Ext v1 v1.drew) id).run_entry zbV zaT Tryz.underlying102 zb4 x (keyO x hx);obtain ⟨w3,hst3,x3,z3,hm3⟩:=hst (.int .i64 ((l.count x:Int) - 1));rw [hcnt.getD] at hlk hme hlk2;simp only [zbx,Bool.false_eq_true,if_false] at hlk hme hlk2;have y3:ExtB d v1 w3:=ExtB.trans _ _ _ (ExtB.of_ext ((ExtM.refl v1).drew)) (ExtB.trans _ _ _ x2 x3);have hbc3:=hbc.of y3 hBn;have bx3:=bx.of y3 hN;clear z2 z3;have hcb0:0 <= ((l.count x:Nat):Int):=Int.natCast_nonneg _;have hcb1:((l.count x:Nat):Int) < 1000000000:=by have:=List.count_le_length (a:=x) (l:=l);omega
 have hlq:=fun p=>(hm3.of (zb7 ExtM.refl w3.drew p |> fun h=>ExtM.trans _ _ _ (ExtM.drew (ExtM.refl w3)) h:Ext w3 (Plan.ext Ext w3.drew p)) id).run_look false zbV zaT Tryz.underlying102 zb4 x (keyO x hx);simp only [look_putK,if_pos,Option.getD_some,zbx,Bool.false_eq_true,if_false] at hlq;generalize ((l.count x:Nat):Int) = c at *;have hnl:n < v1.heap.size:=zac bx.e0;have hB1:=hbc.lt;obtain ⟨c0,c1,f0,f1⟩:=id hbc;obtain ⟨e0,e1,e2,e3,e4,e5,e6,e7,e8,e9⟩:=id bx;refine Plan.b0 (Plan.ExtB d) 11 ?_;refine Plan.qs 6 [0,1,2,3,4,5] ?_;iterate 6 go_big_quiet_step (fail)
 refine Plan.o2 6 8 (fun K hK=>?_) fun K hK=>?_
 focus
  go_wp2_with (fail);refine hK _ _ (ExtM.refl _) ?_;clear hK K;refine Plan.qs 1 [7] ?_;go_big_quiet_step (fail);refine Plan.o1 8 fun K hK=>?_;go_wp2_with (fail);refine hK _ _ (x2) ?_;clear hK K;refine Plan.qs 1 [9] ?_;go_big_quiet_step (fail);refine Plan.o1 10 fun K hK=>?_;go_wp2_with (fail);refine hK _ _ (x3) ?_;clear hK K;refine Plan.dn ?_
 rotate_left
 focus
  go_wp2_with (fail);refine hK _ _ (x2) ?_;clear hK K;refine Plan.qs 1 [9] ?_;go_big_quiet_step (fail);refine Plan.o1 6 fun K hK=>?_;go_wp2_with (fail);refine hK _ _ (ExtM.refl _) ?_;clear hK K;refine Plan.qs 1 [7] ?_;go_big_quiet_step (fail);refine Plan.o1 10 fun K hK=>?_;go_wp2_with (fail);refine hK _ _ (x3) ?_;clear hK K;refine Plan.dn ?_
 all_goals
  clear hnl hB1 c0 c1 f0 f1 e0 e1 e2 e3 e4 e5 e6 e7 e8 e9;go_wp2_with fail;have hnl:n < w3.heap.size:=zac bx3.e0;have hB1:=hbc3.lt;obtain ⟨c0,c1,f0,f1⟩:=id hbc3;obtain ⟨e0,e1,e2,e3,e4,e5,e6,e7,e8,e9⟩:=id bx3;refine Plan.b0 Plan.Ext 8 ?_;refine Plan.qs 8 [0,1,2,3,4,5,6,7] ?_;iterate 8 go_big_quiet_step (fail)
  refine Plan.dn ?_;clear hnl hB1 c0 c1 f0 f1 e0 e1 e2 e3 e4 e5 e6 e7 e8 e9;have xd:Ext w3 w3.drew:=(ExtM.refl _).drew;have hm4:=hm3.of xd id;have bx4:=bx3.of xd id;have hbc4:=hbc3.of xd id;have y4:ExtB d v1 w3.drew:=ExtB.trans _ _ _ y3 (ExtB.of_ext xd);clear xd hbc3 bx3 hm3 y3 x3 hlq;generalize w3.drew = w4 at *;go_wp2_with fail;obtain ⟨w5,hdel,x5,-,hm5⟩:=(hm4.of (ExtM.drew (ExtM.refl w4):Ext w4 w4.drew) id).run_delete zbV zaT Tryz.underlying102 x (keyO x hx);simp only [zbx] at hdel;have y5:ExtB d w4 w5:=ExtB.trans _ _ _ (ExtB.of_ext ((ExtM.refl w4).drew)) x5;have hbc5:=hbc4.of y5 hBn;have hnl:n < w4.heap.size:=zac bx4.e0;have hB1:=hbc4.lt;obtain ⟨c0,c1,f0,f1⟩:=id hbc4;obtain ⟨e0,e1,e2,e3,e4,e5,e6,e7,e8,e9⟩:=id bx4;refine Plan.b0 (Plan.ExtB d) 7 ?_;refine Plan.qs 6 [0,1,2,3,4,5] ?_;iterate 6 go_big_quiet_step (fail)
  refine Plan.o1 6 fun K hK=>?_;go_wp2_with (fail);refine hK _ _ (x5) ?_;clear hK K;refine Plan.dn ?_;clear hnl hB1 c0 c1 f0 f1 e0 e1 e2 e3 e4 e5 e6 e7 e8 e9;have hlt5:=hbc5.lt;obtain ⟨c0,c1,f0,f1⟩:=id hbc5;go_wp2_with fail;go_ret;refine ⟨rfl,?_,zaB.store' hbc5 hokr hBn hm5 hc5 _ HLE.out,(((zaL.refl w).step x1 (by rw [hn];exact hB) (fun h=>h)).step (ExtB.trans _ _ _ y4 y5) hbc.lt hBn).set (.inr rfl) _⟩;exact ExtM.setCell (ExtM.trans _ _ _ (ExtM.mono x1 (fun _ _ h=>h.elim)) (ExtM.mono (ExtB.trans _ _ _ y4 y5) (fun k _ h=>.inr (congrArg some h.symm)))) (.inr (.inl rfl)) _
theorem zm3 (B o d:Nat) (l:List Out) (x:Out) (w:World) (h:zaB w B o (some d) l) (hx:x.ok) (hl:l.length < 1000000000) (hc1:l.count x = 1) :
 Calls Tryz.prog 96 #[.pointer (some ⟨B,o,none⟩),encC x true] w fun e w'=>e = .returned .nilIface /\ ExtM (bagM B (some d)) w w' /\ zaB w' B o (some d) (l.erase x) :=
 (zgK B o d l x w h hx hl hc1).mono fun _e _w' hh=>⟨hh.1,hh.2.1,hh.2.2.1⟩
theorem zqO (B o d:Nat) (l:List Out) (x:Out) (w:World) (h:zaB w B o (some d) l) (hx:x.ok) (hc1:l.count x = 0) :
 Calls Tryz.prog 96 #[.pointer (some ⟨B,o,none⟩),encC x true] w fun e w'=>e = .returned (.iface 24 (.int .i64 8)) /\ Ext w w':=by
 have hB:=h.ltB;obtain ⟨d',m,hd,hdB,hm,hcnt⟩:=h.mp.resolve_left (by rintro ⟨h,-⟩;cases h);obtain rfl:d = d':=Option.some.inj hd;have hdw:=hm.lt;have hok:=h.ok;have hbc:=h.cells;obtain ⟨c0,c1,f0,f1⟩:=id hbc;clear h hd;unfold encC;go_enter Tryz.func96,Tryz.ntmps96;go_wp2_with fail;have bx:=BoxC.mk' w x true 92;have x1:Ext w (w.alloc (.cells #[.int .i64 x.key,.int .i64 x.l.k,.int .i64 x.l.t,.int .i64 x.l.v,.int .i64 x.r.k,.int .i64 x.r.t,.int .i64 x.r.v,.bool x.hl,.bool x.hr,.bool true] 92)):=(ExtM.refl _).alloc _;replace hbc:=hbc.of x1 id;replace hm:=hm.of x1 id;clear c0 c1 f0 f1;generalize w.alloc (.cells #[.int .i64 x.key,.int .i64 x.l.k,.int .i64 x.l.t,.int .i64 x.l.v,.int .i64 x.r.k,.int .i64 x.r.t,.int .i64 x.r.v,.bool x.hl,.bool x.hr,.bool true] 92) = w1 at *;have hN:¬ w.heap.size = d:=by omega
 have hBn:¬ B = d:=fun e=>hdB e.symm;have hBN:¬ B = w.heap.size:=by omega
 generalize hn:w.heap.size = n at *;have hlq:=fun p=>(hm.of (zb7 ExtM.refl w1.drew p |> fun h=>ExtM.trans _ _ _ (ExtM.drew (ExtM.refl w1)) h:Ext w1 (Plan.ext Ext w1.drew p)) id).run_look false zbV zaT Tryz.underlying102 zb4 x (keyO x hx);simp only [hcnt.getD,zbx,Bool.false_eq_true,if_false,hc1] at hlq;clear hc1;have hnl:n < w1.heap.size:=zac bx.e0;have hB1:=hbc.lt;obtain ⟨c0,c1,f0,f1⟩:=id hbc;obtain ⟨e0,e1,e2,e3,e4,e5,e6,e7,e8,e9⟩:=id bx;refine Plan.b0 Plan.Ext 8 ?_;refine Plan.qs 8 [0,1,2,3,4,5,6,7] ?_;iterate 8 go_big_quiet_step (fail)
 refine Plan.dn ?_;clear hnl hB1 c0 c1 f0 f1 e0 e1 e2 e3 e4 e5 e6 e7 e8 e9;go_wp2_with fail;go_ret;exact ⟨rfl,x1.drew⟩
theorem zqM (B o:Nat) (l:List Out) (x:Out) (w:World) (h:zaB w B o none l) (hx:x.ok) :
 Calls Tryz.prog 96 #[.pointer (some ⟨B,o,none⟩),encC x true] w fun e w'=>e = .returned (.iface 24 (.int .i64 8)) /\ Ext w w':=by
 have hB:=h.ltB;have hbc:=h.cells;obtain ⟨c0,c1,f0,f1⟩:=id hbc;clear h;unfold encC;go_enter Tryz.func96,Tryz.ntmps96;go_wp2_with fail;have bx:=BoxC.mk' w x true 92;have x1:Ext w (w.alloc (.cells #[.int .i64 x.key,.int .i64 x.l.k,.int .i64 x.l.t,.int .i64 x.l.v,.int .i64 x.r.k,.int .i64 x.r.t,.int .i64 x.r.v,.bool x.hl,.bool x.hr,.bool true] 92)):=(ExtM.refl _).alloc _;replace hbc:=hbc.of x1 id;clear c0 c1 f0 f1;generalize w.alloc (.cells #[.int .i64 x.key,.int .i64 x.l.k,.int .i64 x.l.t,.int .i64 x.l.v,.int .i64 x.r.k,.int .i64 x.r.t,.int .i64 x.r.v,.bool x.hl,.bool x.hr,.bool true] 92) = w1 at *;have hBN:¬ B = w.heap.size:=by omega
 generalize hn:w.heap.size = n at *;have hlq:=fun u=>zqN x hx u;simp only [zbx] at hlq;have hnl:n < w1.heap.size:=zac bx.e0;have hB1:=hbc.lt;obtain ⟨c0,c1,f0,f1⟩:=id hbc;obtain ⟨e0,e1,e2,e3,e4,e5,e6,e7,e8,e9⟩:=id bx;refine Plan.b0 Plan.Ext 8 ?_;refine Plan.qs 8 [0,1,2,3,4,5,6,7] ?_;iterate 8 go_big_quiet_step (fail)
 refine Plan.dn ?_;clear hnl hB1 c0 c1 f0 f1 e0 e1 e2 e3 e4 e5 e6 e7 e8 e9;go_wp2_with fail;go_ret;exact ⟨rfl,x1.drew⟩
theorem wpList_append_run {P:Program} {w w':World} {ops:Array Oper} {rest:List Oper} {o:Oper} {a:Act} {Q:Exit -> Act -> World -> Prop} {t ty:TypeId} {v x v':Value} (hr:(Builtin.append_ #[t,t] ty #[v,x]).run P w = .ok v' w') (hgd:o.guard = none) (hty:o.type = ty) (so xo:Operand)
 (ho:o.op = .call { callee:=.builtin .append,args:=#[so,xo],argTypes:=#[t,t] }) (hs:a.eval so = v) (hx:a.eval xo = x) (h:wpList P ops Q rest (a.put o.dst v') w'):wpList P ops Q (o :: rest) a w:=by
 refine wpList_plain hgd fun K hK'=>?_;subst hty;unfold Oper.wp execOp;simp only [ho,resolve,invoke,builtin,Sem.run_bind,Sem.run_pure,Result.andThen_ok,List.map_toArray,List.map_cons,List.map_nil,hs,hx,hr];exact hK' _ _ h
structure BoxO (w:World) (n:Nat) (x:Out):Prop where
 e0:w.cell? ⟨n,0,none⟩ = some (.int .i64 x.key)
 e1:w.cell? ⟨n,1,none⟩ = some (.int .i64 x.l.k)
 e2:w.cell? ⟨n,2,none⟩ = some (.int .i64 x.l.t)
 e3:w.cell? ⟨n,3,none⟩ = some (.int .i64 x.l.v)
 e4:w.cell? ⟨n,4,none⟩ = some (.int .i64 x.r.k)
 e5:w.cell? ⟨n,5,none⟩ = some (.int .i64 x.r.t)
 e6:w.cell? ⟨n,6,none⟩ = some (.int .i64 x.r.v)
 e7:w.cell? ⟨n,7,none⟩ = some (.bool x.hl)
 e8:w.cell? ⟨n,8,none⟩ = some (.bool x.hr)
theorem BoxO.mk' (w:World) (x:Out) (t:TypeId):BoxO (w.alloc (.cells #[.int .i64 x.key,.int .i64 x.l.k,.int .i64 x.l.t,.int .i64 x.l.v,.int .i64 x.r.k,.int .i64 x.r.t,.int .i64 x.r.v,.bool x.hl,.bool x.hr] t)) w.heap.size x:=by
 constructor <;> go_simp
theorem BoxO.keep {w w':World} {n:Nat} {x:Out} (h:BoxO w n x) (hb:w'.heap[n]? = w.heap[n]?):BoxO w' n x:=by
 have r:∀ i,w'.cell? ⟨n,i,none⟩ = w.cell? ⟨n,i,none⟩:=fun i=>World.cell?_of_block (w:=w) (w':=w') (a:=⟨n,i,none⟩) hb;exact ⟨(r 0).trans h.e0,(r 1).trans h.e1,(r 2).trans h.e2,(r 3).trans h.e3,(r 4).trans h.e4,(r 5).trans h.e5,(r 6).trans h.e6,(r 7).trans h.e7,(r 8).trans h.e8⟩
theorem BoxO.lt {w:World} {n:Nat} {x:Out} (h:BoxO w n x):n < w.heap.size:=zac h.e0
theorem BoxO.cells {w:World} {n:Nat} {x:Out} (h:BoxO w n x):∀ j,j < 9 -> w.cell? ⟨n,j,none⟩ = x.cells[j]?:=by
 intro j hj;match j,hj with
 | 0,_=>exact h.e0
 | 1,_=>exact h.e1
 | 2,_=>exact h.e2
 | 3,_=>exact h.e3
 | 4,_=>exact h.e4
 | 5,_=>exact h.e5
 | 6,_=>exact h.e6
 | 7,_=>exact h.e7
 | 8,_=>exact h.e8
theorem zah {w:World} {o:Obj} {k:Nat} (h:k < w.heap.size):(w.alloc o).heap[k]? = w.heap[k]?:=Below.heap_alloc _ _ _ h
structure zbI (w:World) (b a:Nat) (x:Out):Prop where
 e0:w.cell? ⟨b,a,none⟩ = some (.int .i64 x.key)
 e1:w.cell? ⟨b,a + 1,none⟩ = some (.int .i64 x.l.k)
 e2:w.cell? ⟨b,a + 2,none⟩ = some (.int .i64 x.l.t)
 e3:w.cell? ⟨b,a + 3,none⟩ = some (.int .i64 x.l.v)
 e4:w.cell? ⟨b,a + 4,none⟩ = some (.int .i64 x.r.k)
 e5:w.cell? ⟨b,a + 5,none⟩ = some (.int .i64 x.r.t)
 e6:w.cell? ⟨b,a + 6,none⟩ = some (.int .i64 x.r.v)
 e7:w.cell? ⟨b,a + 7,none⟩ = some (.bool x.hl)
 e8:w.cell? ⟨b,a + 8,none⟩ = some (.bool x.hr)
theorem zbI.of {w w':World} {b a:Nat} {x:Out} (h:zbI w b a x) (hx:Ext w w'):zbI w' b a x:=by
 have hl:b < w.heap.size:=zac h.e0;have r:∀ i,w'.cell? ⟨b,i,none⟩ = w.cell? ⟨b,i,none⟩:=fun i=>hx.cell (p:=⟨b,i,none⟩) hl id;exact ⟨(r _).trans h.e0,(r _).trans h.e1,(r _).trans h.e2,(r _).trans h.e3,(r _).trans h.e4,(r _).trans h.e5,(r _).trans h.e6,(r _).trans h.e7,(r _).trans h.e8⟩
theorem zbI.lt {w:World} {b a:Nat} {x:Out} (h:zbI w b a x):b < w.heap.size:=zac h.e0
def zbq (w:World) (p:Option Addr) (l:List Out):Prop:=l = [] \/ ∃ b,p = some ⟨b,0,none⟩ /\ ∀ i (hi:i < l.length),zbI w b (i * 9) (l[i]'hi)
theorem zbq.of {w w':World} {p:Option Addr} {l:List Out} (h:zbq w p l) (hx:Ext w w'):zbq w' p l:=by
 rcases h with h | ⟨b,h1,h2⟩
 . exact .inl h
 . exact .inr ⟨b,h1,fun i hi=>(h2 i hi).of hx⟩
end Go.Proofs.YtmcgnnmffeojpabGreatDoor
