import Derived.Test.YtmcgnnmffeojpabGreatDoorPk5
import Derived.Sort.Grow
set_option maxRecDepth 100000
set_option maxHeartbeats 8000000
namespace Go.Plan
open Go.Sort
def Grw (w w':World):Prop:=∃ q os,w' = grow (w.drewN q) os
theorem Grw.refl (w:World):Grw w w:=⟨0,#[],by simp [grow,World.drewN]⟩
theorem Grw.trans (a b c:World) (h:Grw a b) (k:Grw b c):Grw a c:=by
 obtain ⟨q,os,rfl⟩:=h;obtain ⟨q',os',rfl⟩:=k;exact ⟨q + q',os ++ os',by simp [grow,World.drewN,Array.append_assoc,Nat.add_assoc]⟩
instance:Std.Refl Grw:=⟨Grw.refl⟩
instance:Trans Grw Grw Grw:=⟨fun h k=>Grw.trans _ _ _ h k⟩
theorem Grw.alloc {a w:World} (h:Grw a w) (o:Obj):Grw a (w.alloc o):=Grw.trans _ _ _ h ⟨0,#[o],by rw [alloc_eq_grow];rfl⟩
theorem Grw.drew {a w:World} (h:Grw a w):Grw a w.drew:=Grw.trans _ _ _ h ⟨1,#[],by rw [grow_empty];rfl⟩
theorem Grw.ext {a w:World} (h:Grw a w):Ext a w:=by
 obtain ⟨q,os,rfl⟩:=h
 exact ⟨rfl,rfl,rfl,by simp [grow,World.drewN],fun k hk _=>by
  have hk':k < (a.drewN q).heap.size:=hk;simp only [grow];rw [Array.getElem?_append_left hk']
  rfl⟩
theorem Grw.rules {w w':World} (h:Grw w w'):(∀ b o,b < w.heap.size -> w'.cell? ⟨b,o,none⟩ = w.cell? ⟨b,o,none⟩) /\ (∀ b o,b < w.heap.size -> w'.frozen? ⟨b,o,none⟩ = w.frozen? ⟨b,o,none⟩) /\ True :=
 ⟨h.ext.rules.1,h.ext.rules.2.1,trivial⟩
theorem Grw.size {w w':World} (h:Grw w w'):w.heap.size <= w'.heap.size:=h.ext.size
@[go_sem] theorem cell?_grw (w p:World) (b o:Nat) (hb:b < w.heap.size):(Plan.ext Grw w p).cell? ⟨b,o,none⟩ = w.cell? ⟨b,o,none⟩:=(zb7 Grw.refl w p).rules.1 b o hb
@[go_sem] theorem frozen?_grw (w p:World) (b o:Nat) (hb:b < w.heap.size):(Plan.ext Grw w p).frozen? ⟨b,o,none⟩ = w.frozen? ⟨b,o,none⟩:=(zb7 Grw.refl w p).rules.2.1 b o hb
@[go_sem] theorem cell?_grw_drew (w p:World) (b o:Nat) (hb:b < w.heap.size):(Plan.ext Grw w.drew p).cell? ⟨b,o,none⟩ = w.cell? ⟨b,o,none⟩:=cell?_grw w.drew p b o hb
@[go_sem] theorem frozen?_grw_drew (w p:World) (b o:Nat) (hb:b < w.heap.size):(Plan.ext Grw w.drew p).frozen? ⟨b,o,none⟩ = w.frozen? ⟨b,o,none⟩:=frozen?_grw w.drew p b o hb
end Go.Plan
namespace Go.Proofs.YtmcgnnmffeojpabGreatDoor
open Go.RowKit Go.Plan
theorem zgR (k1 t1 v1 k2 t2 v2:Int) (w:World) :
 Calls Tryz.prog 146 #[.agg #[.int .i64 k1,.int .i64 t1,.int .i64 v1],.agg #[.int .i64 k2,.int .i64 t2,.int .i64 v2]] w fun e w' =>
  e = .returned (.int .i64 (zaF k1 t1 v1 k2 t2 v2)) /\ Grw w w':=by
 unfold zaF;go_enter Tryz.func146,Tryz.ntmps146;go_wp2_with fail;refine Plan.b0 Plan.Grw 18 ?_;refine Plan.qs 12 [0,1,2,3,5,6,7,8,10,11,12,13] ?_;iterate 12 go_big_quiet_step (fail)
 refine Plan.o1 4 fun K hK=>?_;go_wp2_with (fail);refine (zfQ _ _ _).mono ?_;rintro e w' ⟨rfl,rfl⟩;go_wp2_with (fail);refine hK _ _ (Grw.refl _) ?_;clear hK K;refine Plan.o1 9 fun K hK=>?_;go_wp2_with (fail);refine (zfQ _ _ _).mono ?_;rintro e w' ⟨rfl,rfl⟩;go_wp2_with (fail);refine hK _ _ (Grw.refl _) ?_;clear hK K;refine Plan.o1 14 fun K hK=>?_;go_wp2_with (fail);refine (zfQ _ _ _).mono ?_;rintro e w' ⟨rfl,rfl⟩;go_wp2_with (fail);refine hK _ _ (Grw.refl _) ?_;clear hK K;refine Plan.o1 15 fun K hK=>?_;go_wp2_with (fail);refine hK _ _ ((Grw.refl _).alloc _) ?_;clear hK K;refine Plan.o1 16 fun K hK=>?_;go_wp2_with (fail);refine (or_c [cmpI k1 k2,cmpI t1 t2,cmpI v1 v2] _ _ _ _ ?_ (by simp)).mono ?_
 . intro i hi;simp only [List.length_cons,List.length_nil] at hi;have hi5:i = 0 \/ i = 1 \/ i = 2 \/ i = 3 \/ i = 4:=(by omega);rcases hi5 with rfl | rfl | rfl | rfl | rfl <;> first | (exfalso;omega) | go_simp
 rintro e w' ⟨rfl,rfl⟩;go_wp2_with (fail);refine hK _ _ (Grw.refl _) ?_;clear hK K;refine Plan.qs 1 [17] ?_;go_big_quiet_step (fail);refine Plan.dn ?_;go_wp2;go_ret;exact ⟨rfl,by repeat (first | exact Grw.refl _ | refine Grw.drew ?_ | refine Grw.alloc ?_ _)⟩
theorem zgw (a b:Out) (w:World) :
 Calls Tryz.prog 107 #[.agg #[.int .i64 a.key,.int .i64 a.l.k,.int .i64 a.l.t,.int .i64 a.l.v,.int .i64 a.r.k,.int .i64 a.r.t,.int .i64 a.r.v,.bool a.hl,.bool a.hr],.agg #[.int .i64 b.key,.int .i64 b.l.k,.int .i64 b.l.t,.int .i64 b.l.v,.int .i64 b.r.k,.int .i64 b.r.t,.int .i64 b.r.v,.bool b.hl,.bool b.hr]] w fun e w' =>
  e = .returned (.int .i64 (zad a b)) /\ Grw w w':=by
 unfold zad;obtain ⟨k1,⟨lk1,lt1,lv1⟩,⟨rk1,rt1,rv1⟩,hl1,hr1⟩:=a;obtain ⟨k2,⟨lk2,lt2,lv2⟩,⟨rk2,rt2,rv2⟩,hl2,hr2⟩:=b;simp only;go_enter Tryz.func107,Tryz.ntmps107;go_wp2_with fail;refine Plan.b0 Plan.Grw 32 ?_;refine Plan.qs 12 [0,1,2,3,5,6,8,9,12,13,14,15] ?_;iterate 12 go_big_quiet_step (fail)
 refine Plan.qs 8 [17,18,20,21,24,25,26,27] ?_;iterate 8 go_big_quiet_step (fail)
 refine Plan.o1 4 fun K hK=>?_;go_wp2_with (fail);refine (zfQ _ _ _).mono ?_;rintro e w' ⟨rfl,rfl⟩;go_wp2_with (fail);refine hK _ _ (Grw.refl _) ?_;clear hK K;refine Plan.o1 7 fun K hK=>?_;go_wp2_with (fail);refine (ziF _ _).mono ?_;rintro e w' ⟨rfl,rfl⟩;go_wp2_with (fail);refine hK _ _ (Grw.refl _) ?_;clear hK K;refine Plan.o1 10 fun K hK=>?_;go_wp2_with (fail);refine (ziF _ _).mono ?_;rintro e w' ⟨rfl,rfl⟩;go_wp2_with (fail);refine hK _ _ (Grw.refl _) ?_;clear hK K;refine Plan.o1 11 fun K hK=>?_;go_wp2_with (fail);refine (zfQ _ _ _).mono ?_;rintro e w' ⟨rfl,rfl⟩;go_wp2_with (fail);refine hK _ _ (Grw.refl _) ?_;clear hK K;refine Plan.o1 16 fun K hK=>?_;go_wp2_with (fail);refine (zgR _ _ _ _ _ _ _).mono ?_;rintro e w1 ⟨rfl,h1⟩;have H1:=Grw.trans _ _ _ (Grw.refl _).drew h1;go_wp2_with (fail);refine hK _ _ h1 ?_;clear hK K;refine Plan.o1 19 fun K hK=>?_;go_wp2_with (fail);refine (ziF _ _).mono ?_;rintro e w' ⟨rfl,rfl⟩;go_wp2_with (fail);refine hK _ _ (Grw.refl _) ?_;clear hK K;refine Plan.o1 22 fun K hK=>?_;go_wp2_with (fail);refine (ziF _ _).mono ?_;rintro e w' ⟨rfl,rfl⟩;go_wp2_with (fail);refine hK _ _ (Grw.refl _) ?_;clear hK K;refine Plan.o1 23 fun K hK=>?_;go_wp2_with (fail);refine (zfQ _ _ _).mono ?_;rintro e w' ⟨rfl,rfl⟩;go_wp2_with (fail);refine hK _ _ (Grw.refl _) ?_;clear hK K;refine Plan.o1 28 fun K hK=>?_;go_wp2_with (fail);refine (zgR _ _ _ _ _ _ _).mono ?_;rintro e w2 ⟨rfl,h2⟩;have H2:=Grw.trans _ _ _ H1 h2;obtain ⟨hc2,hf2,-⟩:=Grw.rules H2;have hs2_0:w.heap.size < w2.heap.size:=by have:=H2.size;(try simp at this);omega
 have hs2_1:w.heap.size + 1 < w2.heap.size:=by have:=H2.size;(try simp at this);omega
 go_wp2_with (fail);refine hK _ _ h2 ?_;clear hK K;refine Plan.o1 29 fun K hK=>?_;go_wp2_with (fail);refine hK _ _ ((Grw.refl _).alloc _) ?_;clear hK K;refine Plan.o1 30 fun K hK=>?_;go_wp2_with (fail);refine (or_c [cmpI k1 k2,cmpI (flagI hl1) (flagI hl2),zaF lk1 lt1 lv1 lk2 lt2 lv2,cmpI (flagI hr1) (flagI hr2),zaF rk1 rt1 rv1 rk2 rt2 rv2] _ _ _ _ ?_ (by simp)).mono ?_
 . intro i hi;simp only [List.length_cons,List.length_nil] at hi;have hi5:i = 0 \/ i = 1 \/ i = 2 \/ i = 3 \/ i = 4:=(by omega);rcases hi5 with rfl | rfl | rfl | rfl | rfl <;> first | (exfalso;omega) | go_simp
 rintro e w' ⟨rfl,rfl⟩;go_wp2_with (fail);refine hK _ _ (Grw.refl _) ?_;clear hK K;refine Plan.qs 1 [31] ?_;go_big_quiet_step (fail);refine Plan.dn ?_;go_wp2;go_ret;exact ⟨rfl,by repeat (first | exact Grw.refl _ | refine Grw.drew ?_ | refine Grw.alloc ?_ _ | refine Grw.trans _ _ _ ?_ (by assumption))⟩
end Go.Proofs.YtmcgnnmffeojpabGreatDoor
