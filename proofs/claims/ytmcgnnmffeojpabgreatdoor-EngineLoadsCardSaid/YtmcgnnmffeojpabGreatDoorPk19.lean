import Derived.Test.YtmcgnnmffeojpabGreatDoorPk12
import Derived.Test.YtmcgnnmffeojpabGreatDoorPk15
set_option maxRecDepth 100000
set_option maxHeartbeats 8000000
namespace Go.Proofs.YtmcgnnmffeojpabGreatDoor
open Go.RowKit Go.Plan
structure Mk (w:World) (B:Nat) (x y:Int):Prop where
 c0:w.cell? ⟨B,0,none⟩ = some (.int .i64 x)
 c1:w.cell? ⟨B,1,none⟩ = some (.int .i64 y)
 f0:w.frozen? ⟨B,0,none⟩ = false
 f1:w.frozen? ⟨B,1,none⟩ = false
theorem Mk.lt {w:World} {B:Nat} {x y:Int} (h:Mk w B x y):B < w.heap.size:=zcN h.c0
def ofI (s x y:Int):Int:=if s = 0 then x else if s = 1 then y else -1099511627777
theorem zp1 (w:World):Calls Tryz.prog 99 #[] w fun e w'=>e = .returned (.pointer (some ⟨w.heap.size,0,none⟩)) /\ Ext w w' /\ Mk w' w.heap.size (-1099511627777) (-1099511627777):=by
 go_enter Tryz.func99,Tryz.ntmps99;go_wp2_with fail;go_ret;exact ⟨rfl,(ExtM.refl _).alloc _,by go_simp,by go_simp,by rw [Go.RowKit.frozen?_alloc_cells];simp [World.frozen?],by rw [Go.RowKit.frozen?_alloc_cells];simp [World.frozen?]⟩
theorem of_c (B:Nat) (s x y:Int) (w:World) (h:Mk w B x y):Calls Tryz.prog 88 #[.pointer (some ⟨B,0,none⟩),.int .i64 s] w fun e w'=>e = .returned (.int .i64 (ofI s x y)) /\ w' = w:=by
 obtain ⟨c0,c1,f0,f1⟩:=h;by_cases h0:s = 0
 . subst h0;go_enter Tryz.func88,Tryz.ntmps88;go_wp2_with fail;go_ret;exact ⟨rfl,rfl⟩
 by_cases h1:s = 1
 . subst h1;go_enter Tryz.func88,Tryz.ntmps88;go_wp2_with fail;go_ret;exact ⟨rfl,rfl⟩
 . have e:ofI s x y = -1099511627777:=by simp [ofI,h0,h1]
   rw [e];have b0:(s != 0) = true:=by simp [h0]
   have b1:(s != 1) = true:=by simp [h1]
   go_enter Tryz.func88,Tryz.ntmps88;go_wp2_with fail;go_ret;exact ⟨rfl,rfl⟩
theorem zoB (B:Nat) (s t x y:Int) (w:World) (h:Mk w B x y):Calls Tryz.prog 86 #[.pointer (some ⟨B,0,none⟩),.int .i64 s,.int .i64 t] w fun e w'=>e = .returned (.bool (decide (t <= ofI s x y))) /\ w' = w:=by
 go_enter Tryz.func86,Tryz.ntmps86;go_wp2_with fail;refine (of_c B s x y _ h).mono ?_;rintro e w' ⟨rfl,rfl⟩;go_wp2_with fail;go_ret;exact ⟨rfl,rfl⟩
def zpG (s t x y:Int):Int :=
 if s ≠ 0 /\ s ≠ 1 then 1 else if t < -1099511627776 \/ 1099511627776 < t then 2 else if t < ofI s x y then 10 else 0
def zh9 (w:World) (B:Nat) (s t x y:Int):World:=if zpG s t x y = 0 then w.setCell ⟨B,if s = 0 then 0 else 1,none⟩ (.int .i64 t) else w
theorem znm (B:Nat) (s t x y:Int) (w:World) (h:Mk w B x y):Calls Tryz.prog 100 #[.pointer (some ⟨B,0,none⟩),.int .i64 s,.int .i64 t] w fun e w' =>
 e = .returned (errV (zpG s t x y)) /\ w' = zh9 w B s t x y:=by
 obtain ⟨c0,c1,f0,f1⟩:=h;by_cases hs:s ≠ 0 /\ s ≠ 1
 . have em:zpG s t x y = 1:=by simp [zpG,hs]
   have b0:(s != 0) = true:=by simp [hs.1]
   have b1:(s != 1) = true:=by simp [hs.2]
   rw [zh9,em,if_neg (by decide)];go_enter Tryz.func100,Tryz.ntmps100;go_wp2_with fail;go_ret;exact ⟨rfl,rfl⟩
 by_cases ht:t < -1099511627776 \/ 1099511627776 < t
 . have em:zpG s t x y = 2:=by simp only [zpG,if_neg hs,if_pos ht]
   rw [zh9,em,if_neg (by decide)];have hs':s = 0 \/ s = 1:=by omega
   by_cases hl:t < -1099511627776
   . have d:decide (t < -1099511627776) = true:=by simp [hl]
     rcases hs' with rfl | rfl
     . go_enter Tryz.func100,Tryz.ntmps100;go_wp2_with fail;go_ret;exact ⟨rfl,rfl⟩
     . go_enter Tryz.func100,Tryz.ntmps100;go_wp2_with fail;go_ret;exact ⟨rfl,rfl⟩
   . have hu:1099511627776 < t:=by omega
     have d:decide (t < -1099511627776) = false:=by simp [hl]
     have d':decide (1099511627776 < t) = true:=by simp [hu]
     rcases hs' with rfl | rfl
     . go_enter Tryz.func100,Tryz.ntmps100;go_wp2_with fail;go_ret;exact ⟨rfl,rfl⟩
     . go_enter Tryz.func100,Tryz.ntmps100;go_wp2_with fail;go_ret;exact ⟨rfl,rfl⟩
 have hs':s = 0 \/ s = 1:=by omega
 have hl:¬ t < -1099511627776:=by omega
 have hu:¬ 1099511627776 < t:=by omega
 have d:decide (t < -1099511627776) = false:=by simp [hl]
 have d':decide (1099511627776 < t) = false:=by simp [hu]
 by_cases ho:t < ofI s x y
 . have em:zpG s t x y = 10:=by simp only [zpG,if_neg hs,if_neg ht,if_pos ho]
   rw [zh9,em,if_neg (by decide)];rcases hs' with rfl | rfl
   . have o:decide (t < x) = true:=by simpa [ofI] using ho
     clear ho ht;go_enter Tryz.func100,Tryz.ntmps100;go_wp2_with fail;go_ret;exact ⟨rfl,rfl⟩
   . have o:decide (t < y) = true:=by simpa [ofI] using ho
     clear ho ht;go_enter Tryz.func100,Tryz.ntmps100;go_wp2_with fail;go_ret;exact ⟨rfl,rfl⟩
 . have em:zpG s t x y = 0:=by simp only [zpG,if_neg hs,if_neg ht,if_neg ho]
   rw [zh9,em,if_pos rfl];rcases hs' with rfl | rfl
   . have o:decide (t < x) = false:=by simpa [ofI] using ho
     clear ho ht;go_enter Tryz.func100,Tryz.ntmps100;go_wp2_with fail;go_ret;exact ⟨rfl,rfl⟩
   . have o:decide (t < y) = false:=by simpa [ofI] using ho
     clear ho ht;go_enter Tryz.func100,Tryz.ntmps100;go_wp2_with fail;go_ret;exact ⟨rfl,rfl⟩
structure JIs (u:World) (P M:Nat) (v0 v1:Value) (lo hi md:Int) (st:JSt):Prop where
 c0:u.cell? ⟨P,0,none⟩ = some (.int .i64 lo)
 c1:u.cell? ⟨P,1,none⟩ = some (.int .i64 hi)
 c2:u.cell? ⟨P,2,none⟩ = some (.int .i64 md)
 s0:zaz u P 3 v0 st.a
 s1:zaz u P 4 v1 st.b
 c5:u.cell? ⟨P,5,none⟩ = some (.pointer (some ⟨M,0,none⟩))
 c6:u.cell? ⟨P,6,none⟩ = some (.int .i64 st.late)
 f6:u.frozen? ⟨P,6,none⟩ = false
 mks:Mk u M st.x st.y
 ne:P ≠ M
 m0:v0.ownBlock ≠ some M
 m1:v1.ownBlock ≠ some M
 sep:∀ k,v0.ownBlock = some k -> v1.ownBlock ≠ some k
theorem JIs.lt {u:World} {P M:Nat} {v0 v1:Value} {lo hi md:Int} {st:JSt} (h:JIs u P M v0 v1 lo hi md st):P < u.heap.size:=zaG h.c0
theorem Mk.extM {F:Nat -> Prop} {w w':World} {B:Nat} {x y:Int} (h:Mk w B x y) (hx:ExtM F w w') (hB:¬ F B):Mk w' B x y :=
 ⟨(hx.cell (p:=⟨B,0,none⟩) h.lt hB).trans h.c0,(hx.cell (p:=⟨B,1,none⟩) h.lt hB).trans h.c1,(hx.frozen (p:=⟨B,0,none⟩) h.lt hB).trans h.f0,(hx.frozen (p:=⟨B,1,none⟩) h.lt hB).trans h.f1⟩
theorem JIs.extM {F:Nat -> Prop} {u u':World} {P M:Nat} {v0 v1:Value} {lo hi md:Int} {st:JSt} (h:JIs u P M v0 v1 lo hi md st) (hx:ExtM F u u') (hP:¬ F P) (hM:¬ F M) (h0:∀ k,v0.ownBlock = some k -> ¬ F k) (h1:∀ k,v1.ownBlock = some k -> ¬ F k):JIs u' P M v0 v1 lo hi md st:=by
 have k:=fun o=>hx.cell (p:=⟨P,o,none⟩) h.lt hP;exact ⟨(k _).trans h.c0,(k _).trans h.c1,(k _).trans h.c2,h.s0.extM hx hP h0,h.s1.extM hx hP h1,(k _).trans h.c5,(k _).trans h.c6,(hx.frozen (p:=⟨P,6,none⟩) h.lt hP).trans h.f6,h.mks.extM hx hM,h.ne,h.m0,h.m1,h.sep⟩
theorem JIs.ext {u u':World} {P M:Nat} {v0 v1:Value} {lo hi md:Int} {st:JSt} (h:JIs u P M v0 v1 lo hi md st) (hx:Ext u u'):JIs u' P M v0 v1 lo hi md st :=
 h.extM hx id id (fun _ _=>id) (fun _ _=>id)
def zaE (P M:Nat) (v0 v1:Value) (k:Nat):Prop:=k = P \/ k = M \/ v0.ownBlock = some k \/ v1.ownBlock = some k
theorem JIs.foot {u:World} {P M:Nat} {v0 v1:Value} {lo hi md:Int} {st:JSt} (h:JIs u P M v0 v1 lo hi md st) (k:Nat) (hk:zaE P M v0 v1 k):k < u.heap.size:=by
 rcases hk with rfl | rfl | hk | hk
 . exact h.lt
 . exact h.mks.lt
 . exact (zaf h.s0.row k hk).2
 . exact (zaf h.s1.row k hk).2
def JAt (u:World) (P M:Nat) (Bs:Nat -> Prop) (lo hi md:Int) (st:JSt):Prop:=∃ v0 v1,JIs u P M v0 v1 lo hi md st /\ Bs = zaE P M v0 v1
def JUp (u u':World) (P M:Nat) (Bs:Nat -> Prop) (lo hi md:Int) (st':JSt):Prop :=
 ExtM Bs u u' /\ ∃ Bs',JAt u' P M Bs' lo hi md st' /\ ∀ k,Bs' k -> Bs k \/ u.heap.size <= k
theorem JAt.lt {u:World} {P M:Nat} {Bs:Nat -> Prop} {lo hi md:Int} {st:JSt} (h:JAt u P M Bs lo hi md st) (k:Nat) (hk:Bs k):k < u.heap.size:=by
 obtain ⟨v0,v1,h,rfl⟩:=h;exact h.foot k hk
theorem JAt.keep {F:Nat -> Prop} {u u':World} {P M:Nat} {Bs:Nat -> Prop} {lo hi md:Int} {st:JSt} (h:JAt u P M Bs lo hi md st) (hx:ExtM F u u') (hd:∀ k,Bs k -> ¬ F k):JAt u' P M Bs lo hi md st:=by
 obtain ⟨v0,v1,h,rfl⟩:=h;exact ⟨v0,v1,h.extM hx (hd _ (.inl rfl)) (hd _ (.inr (.inl rfl))) (fun k hk=>hd k (.inr (.inr (.inl hk)))) (fun k hk=>hd k (.inr (.inr (.inr hk)))),rfl⟩
theorem JAt.ext {u u':World} {P M:Nat} {Bs:Nat -> Prop} {lo hi md:Int} {st:JSt} (h:JAt u P M Bs lo hi md st) (hx:Ext u u'):JAt u' P M Bs lo hi md st:=h.keep hx (fun _ _=>id)
theorem JUp.same {u u':World} {P M:Nat} {Bs:Nat -> Prop} {lo hi md:Int} {st:JSt} (h:JAt u P M Bs lo hi md st) (hx:Ext u u'):JUp u u' P M Bs lo hi md st :=
 ⟨hx.mono (fun _ _ h=>h.elim),Bs,h.ext hx,fun _k hk=>.inl hk⟩
theorem JIs.up0 {u u':World} {P M:Nat} {v0 v1:Value} {lo hi md:Int} {st:JSt} {l:List Hd} (h:JIs u P M v0 v1 lo hi md st) (hu:zco u u' P 3 v0 l):JUp u u' P M (zaE P M v0 v1) lo hi md { st with a:=l }:=by
 obtain ⟨⟨v',hS,ho⟩,hx,hc,hf⟩:=hu;have lM:=h.mks.lt;have lP:=h.lt;refine ⟨hx.mono (fun k _ hk=>hk.elim .inl (fun hk=>.inr (.inr (.inl hk)))),_,⟨v',v1,⟨(hc 0 (by decide)).trans h.c0,(hc 1 (by decide)).trans h.c1,(hc 2 (by decide)).trans h.c2,hS,?_,(hc 5 (by decide)).trans h.c5,(hc 6 (by decide)).trans h.c6,(hf 6).trans h.f6,h.mks.extM hx (fun e=>e.elim (fun e=>h.ne e.symm) h.m0),h.ne,?_,h.m1,?_⟩,rfl⟩,fun k hk=>?_⟩
 . exact ⟨(hc 4 (by decide)).trans h.s1.c0,(hf 4).trans h.s1.fz,h.s1.row.ext hx (fun k hk e=>e.elim (fun e=>h.s1.own (e ▸ hk)) (fun e=>h.sep k e hk)),h.s1.srt,h.s1.own⟩
 . rcases ho with ho | ⟨k',ho,hn⟩
   . rw [ho];exact h.m0
   . rw [ho];intro e;have:=Option.some.inj e;omega
 . intro k hk e;rcases ho with ho | ⟨k',ho,hn⟩
   . exact h.sep k (ho ▸ hk) e
   . rw [ho] at hk
     have:=Option.some.inj hk
     have:=(zaf h.s1.row k e).2
     omega
 . rcases hk with hk | hk | hk | hk
   . exact .inl (.inl hk)
   . exact .inl (.inr (.inl hk))
   . rcases ho with ho | ⟨k',ho,hn⟩
     . exact .inl (.inr (.inr (.inl (ho ▸ hk))))
     . rw [ho] at hk
       have:=Option.some.inj hk
       exact .inr (by omega)
   . exact .inl (.inr (.inr (.inr hk)))
theorem JIs.up1 {u u':World} {P M:Nat} {v0 v1:Value} {lo hi md:Int} {st:JSt} {l:List Hd} (h:JIs u P M v0 v1 lo hi md st) (hu:zco u u' P 4 v1 l):JUp u u' P M (zaE P M v0 v1) lo hi md { st with b:=l }:=by
 obtain ⟨⟨v',hS,ho⟩,hx,hc,hf⟩:=hu;have lM:=h.mks.lt;have lP:=h.lt;refine ⟨hx.mono (fun k _ hk=>hk.elim .inl (fun hk=>.inr (.inr (.inr hk)))),_,⟨v0,v',⟨(hc 0 (by decide)).trans h.c0,(hc 1 (by decide)).trans h.c1,(hc 2 (by decide)).trans h.c2,?_,hS,(hc 5 (by decide)).trans h.c5,(hc 6 (by decide)).trans h.c6,(hf 6).trans h.f6,h.mks.extM hx (fun e=>e.elim (fun e=>h.ne e.symm) h.m1),h.ne,h.m0,?_,?_⟩,rfl⟩,fun k hk=>?_⟩
 . exact ⟨(hc 3 (by decide)).trans h.s0.c0,(hf 3).trans h.s0.fz,h.s0.row.ext hx (fun k hk e=>e.elim (fun e=>h.s0.own (e ▸ hk)) (fun e=>h.sep k hk e)),h.s0.srt,h.s0.own⟩
 . rcases ho with ho | ⟨k',ho,hn⟩
   . rw [ho];exact h.m1
   . rw [ho];intro e;have:=Option.some.inj e;omega
 . intro k hk e;rcases ho with ho | ⟨k',ho,hn⟩
   . exact h.sep k hk (ho ▸ e)
   . rw [ho] at e
     have:=Option.some.inj e
     have:=(zaf h.s0.row k hk).2
     omega
 . rcases hk with hk | hk | hk | hk
   . exact .inl (.inl hk)
   . exact .inl (.inr (.inl hk))
   . exact .inl (.inr (.inr (.inl hk)))
   . rcases ho with ho | ⟨k',ho,hn⟩
     . exact .inl (.inr (.inr (.inr (ho ▸ hk))))
     . rw [ho] at hk
       have:=Option.some.inj hk
       exact .inr (by omega)
theorem _root_.Go.Plan.ExtM.fresh' {M N:Nat -> Prop} {a b c:World} (h1:ExtM M a b) (h2:ExtM N b c) (hN:∀ k,k < a.heap.size -> N k -> M k):ExtM M a c :=
 ⟨h2.os.trans h1.os,h2.tape.trans h1.tape,h2.output.trans h1.output,Nat.le_trans h1.size h2.size,fun k hk hn=>(h2.block k (Nat.lt_of_lt_of_le hk h1.size) (fun e=>hn (hN k hk e))).trans (h1.block k hk hn)⟩
theorem JUp.trans {u u1 u2:World} {P M:Nat} {Bs:Nat -> Prop} {lo hi md:Int} {_st1 st2:JSt} (h:ExtM Bs u u1) {Bs1:Nat -> Prop} (hB:∀ k,Bs1 k -> Bs k \/ u.heap.size <= k) (h2:JUp u1 u2 P M Bs1 lo hi md st2):JUp u u2 P M Bs lo hi md st2:=by
 obtain ⟨hx,Bs2,ha,hb⟩:=h2;have hs:=h.size;refine ⟨h.fresh' hx (fun k hk e=>(hB k e).resolve_right (by omega)),Bs2,ha,fun k hk=>?_⟩;rcases hb k hk with e | e
 . exact hB k e
 . exact .inr (by omega)
theorem zjV (P:Nat) (md:Int) (s:Nat) (u:World) (hs:s < 2) (c2:u.cell? ⟨P,2,none⟩ = some (.int .i64 md)) :
 Calls Tryz.prog 91 #[.pointer (some ⟨P,0,none⟩),.int .i64 (s:Nat)] u fun e u'=>e = .returned (.bool (zai md s)) /\ u = u':=by
 have hs':s = 0 \/ s = 1:=by omega
 by_cases h3:md = 3
 . have d3:(md == 3) = true:=by simp [h3]
   have d1:(md == 1) = false:=by simp [h3]
   have d2:(md == 2) = false:=by simp [h3]
   have e:zai md s = true:=by unfold zai;simp [h3]
   rw [e];clear h3 e;rcases hs' with rfl | rfl
   . skip;go_enter Tryz.func91,Tryz.ntmps91;go_wp2_with fail;go_ret;exact ⟨rfl,rfl⟩
   . skip;go_enter Tryz.func91,Tryz.ntmps91;go_wp2_with fail;go_ret;exact ⟨rfl,rfl⟩
 . have d3:(md == 3) = false:=by simp [h3]
   rcases hs' with rfl | rfl
   . by_cases h1:md = 1
     . have d1:(md == 1) = true:=by simp [h1]
       have e:zai md 0 = true:=by unfold zai;simp [h1]
       rw [e];clear h1 h3 e d3;go_enter Tryz.func91,Tryz.ntmps91;go_wp2_with fail;go_ret;exact ⟨rfl,rfl⟩
     . have d1:(md == 1) = false:=by simp [h1]
       have e:zai md 0 = false:=by unfold zai;simp [h1,h3]
       rw [e];clear h1 h3 e;go_enter Tryz.func91,Tryz.ntmps91;go_wp2_with fail;go_ret;exact ⟨rfl,rfl⟩
   . by_cases h1:md = 2
     . have d1:(md == 2) = true:=by simp [h1]
       have e:zai md 1 = true:=by unfold zai;simp [h1]
       rw [e];clear h1 h3 e d3;go_enter Tryz.func91,Tryz.ntmps91;go_wp2_with fail;go_ret;exact ⟨rfl,rfl⟩
     . have d1:(md == 2) = false:=by simp [h1]
       have e:zai md 1 = false:=by unfold zai;simp [h1,h3]
       rw [e];clear h1 h3 e;go_enter Tryz.func91,Tryz.ntmps91;go_wp2_with fail;go_ret;exact ⟨rfl,rfl⟩
theorem zih (J:Nat) (md:Int) (s:Nat) (u:World) (hs:s < 2) (c2:u.cell? ⟨J,2,none⟩ = some (.int .i64 md)) :
 Calls Tryz.prog 84 #[.pointer (some ⟨J,0,none⟩),.int .i64 (s:Nat)] u fun e u'=>e = .returned (.bool (zai md s)) /\ u = u':=by
 have hs':s = 0 \/ s = 1:=by omega
 by_cases h3:md = 3
 . have d3:(md == 3) = true:=by simp [h3]
   have e:zai md s = true:=by unfold zai;simp [h3]
   rw [e];clear h3 e;rcases hs' with rfl | rfl
   . skip;go_enter Tryz.func84,Tryz.ntmps84;go_wp2_with fail;go_ret;exact ⟨rfl,rfl⟩
   . skip;go_enter Tryz.func84,Tryz.ntmps84;go_wp2_with fail;go_ret;exact ⟨rfl,rfl⟩
 . have d3:(md == 3) = false:=by simp [h3]
   rcases hs' with rfl | rfl
   . by_cases h1:md = 1
     . have d1:(md == 1) = true:=by simp [h1]
       have e:zai md 0 = true:=by unfold zai;simp [h1]
       rw [e];clear h1 h3 e;go_enter Tryz.func84,Tryz.ntmps84;go_wp2_with fail;go_ret;exact ⟨rfl,rfl⟩
     . have d1:(md == 1) = false:=by simp [h1]
       have e:zai md 0 = false:=by unfold zai;simp [h1,h3]
       rw [e];clear h1 h3 e;go_enter Tryz.func84,Tryz.ntmps84;go_wp2_with fail;go_ret;exact ⟨rfl,rfl⟩
   . by_cases h1:md = 2
     . have d1:(md == 2) = true:=by simp [h1]
       have e:zai md 1 = true:=by unfold zai;simp [h1]
       rw [e];clear h1 h3 e;go_enter Tryz.func84,Tryz.ntmps84;go_wp2_with fail;go_ret;exact ⟨rfl,rfl⟩
     . have d1:(md == 2) = false:=by simp [h1]
       have e:zai md 1 = false:=by unfold zai;simp [h1,h3]
       rw [e];clear h1 h3 e;go_enter Tryz.func84,Tryz.ntmps84;go_wp2_with fail;go_ret;exact ⟨rfl,rfl⟩
def zay (lo hi:Int):Prop:=-1048576 <= lo /\ lo <= 1048576 /\ -1048576 <= hi /\ hi <= 1048576
theorem zns (P:Nat) (lo hi t:Int) (s:Nat) (u:World) (hs:s < 2) (hp:zay lo hi) (ht:-1099511627776 <= t /\ t <= 1099511627776) (c0:u.cell? ⟨P,0,none⟩ = some (.int .i64 lo)) (c1:u.cell? ⟨P,1,none⟩ = some (.int .i64 hi)) :
 Calls Tryz.prog 87 #[.pointer (some ⟨P,0,none⟩),.int .i64 (s:Nat),.int .i64 t] u fun e u'=>e = .returned (.tuple #[.int .i64 (frI lo hi s t),.int .i64 (tilI lo hi s t)]) /\ Ext u u':=by
 have hs':s = 0 \/ s = 1:=by omega
 obtain ⟨p1,p2,p3,p4⟩:=hp;obtain ⟨t1,t2⟩:=ht;have lP:=zaG c0;rcases hs' with rfl | rfl
 . have e1:frI lo hi 0 t = t + lo:=rfl;have e2:tilI lo hi 0 t = t + hi:=rfl;rw [e1,e2];clear e1 e2;have w1:IntKind.i64.wrap (t + lo) = t + lo:=by rw [IntKind.wrap_i64];omega
   have w2:IntKind.i64.wrap (t + hi) = t + hi:=by rw [IntKind.wrap_i64];omega
   go_enter Tryz.func87,Tryz.ntmps87;go_wp2_with fail;go_quiet (fail);go_wp2_with fail;go_ret2;exact ⟨rfl,(ExtM.refl _).drewN _⟩
 . have e1:frI lo hi 1 t = t - hi:=rfl;have e2:tilI lo hi 1 t = t - lo:=rfl;rw [e1,e2];clear e1 e2;have w1:IntKind.i64.wrap (t - lo) = t - lo:=by rw [IntKind.wrap_i64];omega
   have w2:IntKind.i64.wrap (t - hi) = t - hi:=by rw [IntKind.wrap_i64];omega
   go_enter Tryz.func87,Tryz.ntmps87;go_wp2_with fail;go_quiet (fail);go_wp2_with fail;go_ret2;exact ⟨rfl,(ExtM.refl _).drewN _⟩
theorem ziK (P:Nat) (lo hi t:Int) (s:Nat) (u:World) (hs:s < 2) (hp:zay lo hi) (ht:-1099511627776 <= t /\ t <= 1099511627776) (c0:u.cell? ⟨P,0,none⟩ = some (.int .i64 lo)) (c1:u.cell? ⟨P,1,none⟩ = some (.int .i64 hi)) :
 Calls Tryz.prog 51 #[.pointer (some ⟨P,0,none⟩),.int .i64 (s:Nat),.int .i64 t] u fun e u'=>e = .returned (.tuple #[.int .i64 (frI lo hi s t),.int .i64 (tilI lo hi s t)]) /\ Ext u u':=by
 have hs':s = 0 \/ s = 1:=by omega
 obtain ⟨p1,p2,p3,p4⟩:=hp;obtain ⟨t1,t2⟩:=ht;have lP:=zaG c0;rcases hs' with rfl | rfl
 . have e1:frI lo hi 0 t = t + lo:=rfl;have e2:tilI lo hi 0 t = t + hi:=rfl;rw [e1,e2];clear e1 e2;have w1:IntKind.i64.wrap (t + lo) = t + lo:=by rw [IntKind.wrap_i64];omega
   have w2:IntKind.i64.wrap (t + hi) = t + hi:=by rw [IntKind.wrap_i64];omega
   go_enter Tryz.func51,Tryz.ntmps51;go_wp2_with fail;go_quiet (fail);go_wp2_with fail;go_ret2;exact ⟨rfl,(ExtM.refl _).drewN _⟩
 . have e1:frI lo hi 1 t = t - hi:=rfl;have e2:tilI lo hi 1 t = t - lo:=rfl;rw [e1,e2];clear e1 e2;have w1:IntKind.i64.wrap (t - lo) = t - lo:=by rw [IntKind.wrap_i64];omega
   have w2:IntKind.i64.wrap (t - hi) = t - hi:=by rw [IntKind.wrap_i64];omega
   go_enter Tryz.func51,Tryz.ntmps51;go_wp2_with fail;go_quiet (fail);go_wp2_with fail;go_ret2;exact ⟨rfl,(ExtM.refl _).drewN _⟩
section
variable {u:World} {P M:Nat} {v0 v1:Value} {lo hi md:Int} {st:JSt}
theorem zhI (s:Int) (h:JIs u P M v0 v1 lo hi md st) :
 Calls Tryz.prog 59 #[.pointer (some ⟨P,0,none⟩),.int .i64 s] u fun e u'=>e = .returned (.int .i64 (ofI s st.x st.y)) /\ u = u':=by
 have c5:=h.c5;go_enter Tryz.func59,Tryz.ntmps59;go_wp2_with (go_at_call 88;refine (of_c M s st.x st.y _ h.mks).mono ?_;rintro e w' ⟨rfl,rfl⟩);go_ret;exact ⟨rfl,rfl⟩
theorem zkI (h:JIs u P M v0 v1 lo hi md st) :
 Calls Tryz.prog 58 #[.pointer (some ⟨P,0,none⟩)] u fun e u'=>e = .returned (.int .i64 st.late) /\ u = u':=by
 have c6:=h.c6;go_enter Tryz.func58,Tryz.ntmps58;go_wp2_with fail;go_ret;exact ⟨rfl,rfl⟩
theorem zl7 (s:Nat) (hs:s < 2) (h:JIs u P M v0 v1 lo hi md st) (hl:(st.of s).length < 1000000) :
 Calls Tryz.prog 60 #[.pointer (some ⟨P,0,none⟩),.int .i64 (s:Nat)] u fun e u'=>∃ vo,e = .returned vo /\ MRow u' u.heap.size vo (st.of s) /\ Ext u u':=by
 have hs':s = 0 \/ s = 1:=by omega
 rcases hs' with rfl | rfl
 . have ha:=zoV P 3 v0 st.a _ h.s0 hl;go_enter Tryz.func60,Tryz.ntmps60;go_wp2_with (go_at_call 105;refine ha.mono ?_;rintro e w' ⟨vo,rfl,hm,hx⟩;obtain ⟨vp,vc,rfl,-⟩:=zaa hm);go_ret;exact ⟨_,rfl,hm,hx⟩
 . have ha:=zoV P 4 v1 st.b _ h.s1 hl;go_enter Tryz.func60,Tryz.ntmps60;go_wp2_with (go_at_call 105;refine ha.mono ?_;rintro e w' ⟨vo,rfl,hm,hx⟩;obtain ⟨vp,vc,rfl,-⟩:=zaa hm);go_ret;exact ⟨_,rfl,hm,hx⟩
end
end Go.Proofs.YtmcgnnmffeojpabGreatDoor
