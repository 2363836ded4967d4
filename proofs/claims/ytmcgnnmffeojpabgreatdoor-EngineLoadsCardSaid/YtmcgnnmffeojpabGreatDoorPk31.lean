import Derived.Test.YtmcgnnmffeojpabGreatDoorPk23
import Derived.Deep.DeepCutAuto
import Derived.Deep.CutBlock
set_option maxRecDepth 100000
set_option maxHeartbeats 8000000
namespace Go.Proofs.YtmcgnnmffeojpabGreatDoor
open Go.RowKit Go.Plan
def FewG (n:Nat) (ents:List Ent):Prop:=∀ k a,st ents k = some a -> 1 <= a.cnt /\ a.cnt <= n /\ a.right.length <= n
theorem FewG.more {n:Nat} {ents:List Ent} (h:FewG n ents):FewG (n + 1) ents:=fun k a ha=>by have:=h k a ha;omega
theorem za7.fewG {ents:List Ent} {l:List Out} (h:za7 ents l) {n:Nat} (hn:l.length <= n):FewG n ents:=fun k a ha=>by
 have h1:=h.bound ha;have h2:=h k;rw [ha] at h2;have h3:=h2.2.cnt;have h4:0 < (zqc l k).length:=List.length_pos_iff.2 h2.1;omega
theorem zsa (B o:Nat) (D:Option Nat) (l:List Out) (x:Out) (g:Bool) (w:World) (h:zaB w B o D l) (hx:x.ok) (hl:l.length < 1000000000) :
 Calls Tryz.prog 96 #[.pointer (some ⟨B,o,none⟩),encC x g] w fun e w'=>∃ c D' l',e = .returned (errV c) /\ Grew w D D' /\ ExtM (bagM B D) w w' /\ zaB w' B o D' l' /\ zaL B o w w' /\ l'.length <= l.length + 1:=by
 cases g with
 | false =>
   refine (znV B o D l x w h hx hl).mono ?_;rintro e w' ⟨he,D',hg,h1,h2,h3⟩;exact ⟨0,D',x :: l,he,hg,h1,h2,h3,by simp⟩
 | true =>
   by_cases hm:x ∈ l
   . refine (zmj B o D l x w h hm hl).mono ?_;rintro e w' ⟨he,h1,h2,h3⟩;exact ⟨0,D,_,he,.inl rfl,h1,h2,h3,Nat.le_trans List.length_erase_le (Nat.le_succ _)⟩
   . refine (zrS B o D l x w h hx hm).mono ?_;rintro e w' ⟨he,h1⟩;exact ⟨8,D,l,he,.inl rfl,h1.mono (fun _ _ h=>h.elim),h.of h1 (fun h=>h) (fun _ _ h=>h),(zaL.refl w).step h1 h.ltB (fun h=>h),Nat.le_succ _⟩
theorem FewG.post {w w':World} {G o:Nat} {D:Option Nat} {ents:List Ent} {n:Nat} {key:Int} {b:Option GS} (h:FewG n ents) (hp:zdb w w' G o D ents key b) (hb:∀ a,b = some a -> 1 <= a.cnt /\ a.cnt <= (n + 1:Nat) /\ a.right.length <= n + 1) :
 ∃ D' ents',za6 w' G o D' ents' /\ FewG (n + 1) ents' /\ zgk w w' G o D D' ents ents':=by
 obtain ⟨D',ents',h1,h2,h3⟩:=hp;refine ⟨D',ents',h1,fun k a ha=>?_,h2⟩;rw [h3 k] at ha;split at ha
 . exact hb a ha
 . exact h.more k a ha
theorem zrU (G o:Nat) (D:Option Nat) (ents:List Ent) (x:Out) (g:Bool) (n:Nat) (w:World) (h:za6 w G o D ents) (hf:FewG n ents) (hx:x.ok) (hn:n < 1000000) :
 Calls Tryz.prog 97 #[.pointer (some ⟨G,o,none⟩),encC x g] w fun e w'=>∃ c D' ents',e = .returned (errV c) /\ za6 w' G o D' ents' /\ FewG (n + 1) ents' /\ zgk w w' G o D D' ents ents':=by
 cases g with
 | false =>
   refine (zmv G o D ents x w h hx (fun a ha=>by have:=hf _ a ha;omega)).mono ?_;rintro e w' ⟨he,hp⟩
   obtain ⟨D',e',h1,h2,h3⟩:=hf.post hp (fun a ha=>by
    cases ha;have hl:∀ (a:GS),(insI a.right (a.right.countP (. < x.r.v)) x.r.v).length = a.right.length + 1:=fun a=>zmS _ _ _ List.countP_le_length;unfold zhr;cases hs:st ents x.key with
    | none =>
      simp only [Option.getD_none];refine ⟨by omega,by omega,?_⟩;split
      . rw [hl ⟨0,0,[]⟩];simp
      . simp
    | some b =>
      have:=hf _ b hs
      simp only [Option.getD_some];refine ⟨by omega,by omega,?_⟩;split
      . rw [hl];omega
      . omega)
   exact ⟨0,D',e',he,h1,h2,h3⟩
 | true =>
   have none:(∀ a,st ents x.key = some a -> a.right.length < 1000000000 /\ x.hr = true /\ ¬ x.r.v ∈ a.right) -> Calls Tryz.prog 97 #[.pointer (some ⟨G,o,none⟩),encC x true] w fun e w'=>∃ c D' ents',e = .returned (errV c) /\ za6 w' G o D' ents' /\ FewG (n + 1) ents' /\ zgk w w' G o D D' ents ents':=fun hn=>by
    refine (zrh G o D ents x w h hx hn).mono ?_;rintro e w' ⟨he,h1⟩;exact ⟨8,D,ents,he,h.of h1 (fun _ _ h=>h),hf.more,⟨h1.mono (fun _ _ h=>h.elim),fun k hk=>.inl hk,(zbM.refl w).step h1 h.ltG (fun h=>h)⟩⟩
   cases hs:st ents x.key with
   | none=>exact none (fun a ha=>by rw [hs] at ha;cases ha)
   | some a =>
     have hb:=hf _ a hs;by_cases hi:x.hr = true -> x.r.v ∈ a.right
     . refine (zkd G o D ents x w h hx a hs (by omega) (by omega) (by omega) hi).mono ?_;rintro e w' ⟨he,hp⟩
       obtain ⟨D',e',h1,h2,h3⟩:=hf.post hp (fun b hb'=>by
        unfold zjv at hb';split at hb'
        . cases hb'
        . cases hb';unfold ziI;simp only;refine ⟨by omega,by omega,?_⟩;split
          . exact Nat.le_trans (List.length_eraseIdx_le _ _) (by omega)
          . omega)
       exact ⟨0,D',e',he,h1,h2,h3⟩
     . refine none (fun b hb'=>?_);rw [hs] at hb';cases hb';exact ⟨by omega,Classical.byContradiction fun hh=>hi (fun h=>absurd h hh),fun hm=>hi (fun _=>hm)⟩
structure EK (u:World) (E P M:Nat) (v0 v1:Value) (D DG:Option Nat) (ents:List Ent) (lo hi md:Int) (st:JSt) (V:List Out) (n:Nat) (f0 f1:Int):Prop where
 c0:u.cell? ⟨E,0,none⟩ = some (.int .i64 lo)
 c1:u.cell? ⟨E,1,none⟩ = some (.int .i64 hi)
 c2:u.cell? ⟨E,2,none⟩ = some (.int .i64 md)
 c3:u.cell? ⟨E,3,none⟩ = some (.pointer (some ⟨P,0,none⟩))
 bag:zaB u E 4 D V
 grp:za6 u E 6 DG ents
 few:V.length <= n /\ FewG n ents
 c7:u.cell? ⟨E,7,none⟩ = some (.int .i64 f0)
 c8:u.cell? ⟨E,8,none⟩ = some (.int .i64 f1)
 fz:∀ q,u.frozen? ⟨E,q,none⟩ = false
 join:JIs u P M v0 v1 lo hi md st
 sJ:∀ k,zaE P M v0 v1 k -> ¬ bagM E D k /\ ¬ grpM E DG ents k
 sB:∀ k,D = some k -> ¬ grpM E DG ents k
 okA:∀ h ∈ st.a,h.r.ok
 okB:∀ h ∈ st.b,h.r.ok
theorem EIs.weak {u:World} {E P M:Nat} {v0 v1:Value} {D DG:Option Nat} {ents:List Ent} {lo hi md:Int} {st:JSt} {V W:List Out} {f0 f1:Int} (h:EIs u E P M v0 v1 D DG ents lo hi md st V W f0 f1) {n:Nat} (hV:V.length <= n) (hW:W.length <= n):EK u E P M v0 v1 D DG ents lo hi md st V n f0 f1 :=
 ⟨h.c0,h.c1,h.c2,h.c3,h.bag,h.grp,⟨hV,h.rep.fewG hW⟩,h.c7,h.c8,h.fz,h.join,h.sJ,h.sB,h.okA,h.okB⟩
section
variable {u u':World} {E P M:Nat} {v0 v1:Value} {D DG:Option Nat} {ents:List Ent} {lo hi md:Int} {st:JSt} {V:List Out} {n:Nat} {f0 f1:Int}
theorem EK.lt (h:EK u E P M v0 v1 D DG ents lo hi md st V n f0 f1):E < u.heap.size:=zaG h.c0
theorem EK.foot (h:EK u E P M v0 v1 D DG ents lo hi md st V n f0 f1) (k:Nat) (hk:zeA E P M v0 v1 D DG ents k):k < u.heap.size:=by
 rcases hk with hk | hk | hk
 . exact h.join.foot k hk
 . exact h.bag.foot k hk
 . exact h.grp.foot k hk
theorem EK.keep {F:Nat -> Prop} (h:EK u E P M v0 v1 D DG ents lo hi md st V n f0 f1) (hx:ExtM F u u') (hF:∀ k,zeA E P M v0 v1 D DG ents k -> ¬ F k):EK u' E P M v0 v1 D DG ents lo hi md st V n f0 f1:=by
 have hE:¬ F E:=hF E (.inr (.inl (.inl rfl)));have k:=fun o=>hx.cell (p:=⟨E,o,none⟩) h.lt hE;have kf:=fun o=>hx.frozen (p:=⟨E,o,none⟩) h.lt hE
 exact ⟨(k _).trans h.c0,(k _).trans h.c1,(k _).trans h.c2,(k _).trans h.c3,h.bag.of hx hE (fun d hd=>hF d (.inr (.inl (.inr hd)))),h.grp.of hx (fun k hk=>hF k (.inr (.inr hk))),h.few,(k _).trans h.c7,(k _).trans h.c8,fun q=>(kf q).trans (h.fz q),
  h.join.extM hx (hF _ (.inl (.inl rfl))) (hF _ (.inl (.inr (.inl rfl)))) (fun k hk=>hF k (.inl (.inr (.inr (.inl hk))))) (fun k hk=>hF k (.inl (.inr (.inr (.inr hk))))),h.sJ,h.sB,h.okA,h.okB⟩
theorem EK.ext (h:EK u E P M v0 v1 D DG ents lo hi md st V n f0 f1) (hx:Ext u u'):EK u' E P M v0 v1 D DG ents lo hi md st V n f0 f1:=h.keep hx (fun _ _ h=>h)
end
def EKAt (u:World) (E:Nat) (Bs:Nat -> Prop) (lo hi md:Int) (st:JSt) (n:Nat) (f0 f1:Int):Prop :=
 ∃ P M v0 v1 D DG ents V,EK u E P M v0 v1 D DG ents lo hi md st V n f0 f1 /\ Bs = zeA E P M v0 v1 D DG ents
def EKUp (u u':World) (E:Nat) (Bs:Nat -> Prop) (lo hi md:Int) (st:JSt) (n:Nat) (f0 f1:Int):Prop :=
 ExtM Bs u u' /\ ∃ Bs',EKAt u' E Bs' lo hi md st n f0 f1 /\ ∀ k,Bs' k -> Bs k \/ u.heap.size <= k
section
variable {u u' u'':World} {E:Nat} {Bs:Nat -> Prop} {lo hi md:Int} {st st':JSt} {n:Nat} {f0 f1 f0' f1':Int}
theorem EKAt.lt (h:EKAt u E Bs lo hi md st n f0 f1) (k:Nat) (hk:Bs k):k < u.heap.size:=by
 obtain ⟨P,M,v0,v1,D,DG,ents,V,h,rfl⟩:=h;exact h.foot k hk
theorem EKAt.keep {F:Nat -> Prop} (h:EKAt u E Bs lo hi md st n f0 f1) (hx:ExtM F u u') (hF:∀ k,Bs k -> ¬ F k):EKAt u' E Bs lo hi md st n f0 f1:=by
 obtain ⟨P,M,v0,v1,D,DG,ents,V,h,rfl⟩:=h;exact ⟨P,M,v0,v1,D,DG,ents,V,h.keep hx hF,rfl⟩
theorem EKAt.ext (h:EKAt u E Bs lo hi md st n f0 f1) (hx:Ext u u'):EKAt u' E Bs lo hi md st n f0 f1:=h.keep hx (fun _ _ h=>h)
theorem EKAt.mine (h:EKAt u E Bs lo hi md st n f0 f1):Bs E:=by
 obtain ⟨P,M,v0,v1,D,DG,ents,V,h,rfl⟩:=h;exact .inr (.inl (.inl rfl))
theorem EKUp.same (h:EKAt u E Bs lo hi md st n f0 f1) (hx:Ext u u'):EKUp u u' E Bs lo hi md st n f0 f1 :=
 ⟨hx.mono (fun _ _ h=>h.elim),Bs,h.ext hx,fun _k hk=>.inl hk⟩
theorem EKUp.trans {u1:World} {Bs1:Nat -> Prop} (h:ExtM Bs u u1) (hB:∀ k,Bs1 k -> Bs k \/ u.heap.size <= k) (h2:EKUp u1 u' E Bs1 lo hi md st n f0 f1):EKUp u u' E Bs lo hi md st n f0 f1:=by
 obtain ⟨hx,Bs2,ha,hb⟩:=h2;have hs:=h.size;refine ⟨h.fresh' hx (fun k hk e=>(hB k e).resolve_right (by omega)),Bs2,ha,fun k hk=>?_⟩;rcases hb k hk with e | e
 . exact hB k e
 . exact .inr (by omega)
theorem EKUp.after (h:EKUp u u' E Bs lo hi md st n f0 f1) (hx:Ext u' u''):EKUp u u'' E Bs lo hi md st n f0 f1:=by
 obtain ⟨j1,j2,j3,j4⟩:=h;exact ⟨j1.fresh' hx (fun _ _ h=>h.elim),j2,j3.ext hx,j4⟩
theorem EKUp.before {u0:World} (hx:Ext u u0) (h:EKUp u0 u' E Bs lo hi md st n f0 f1):EKUp u u' E Bs lo hi md st n f0 f1 :=
 EKUp.trans (hx.mono (fun _ _ h=>h.elim)) (fun _k hk=>.inl hk) h
theorem zrQ (h:EKAt u E Bs lo hi md st n f0 f1) (x:Out) (g:Bool) (hok:x.ok) (hl:n < 1000000) :
 Calls Tryz.prog 96 #[.pointer (some ⟨E,4,none⟩),encC x g] u fun e u'=>∃ c,e = .returned (errV c) /\ EKUp u u' E Bs lo hi md st (n + 1) f0 f1:=by
 obtain ⟨P,M,v0,v1,D,DG,ents,V,h,rfl⟩:=h;have fin:∀ (u':World) (D':Option Nat) (V':List Out),Grew u D D' -> ExtM (bagM E D) u u' -> zaB u' E 4 D' V' -> zaL E 4 u u' -> V'.length <= V.length + 1 -> EKUp u u' E (zeA E P M v0 v1 D DG ents) lo hi md st (n + 1) f0 f1:=fun u' D' V' hg hx hb ho hle=>by
  have hgf:=fun k hk=>h.grp.foot k hk;have hjf:=fun k hk=>h.join.foot k hk;have hD':∀ k,bagM E D' k -> bagM E D k \/ u.heap.size <= k:=fun k hk=>by
   rcases hg with rfl | ⟨rfl,d,rfl,hd⟩
   . exact .inl hk
   . rcases hk with rfl | hk
     . exact .inl (.inl rfl)
     . obtain rfl:=Option.some.inj hk;exact .inr hd
  refine ⟨hx.mono fun k _ hk=>.inr (.inl hk),_,⟨P,M,v0,v1,D',DG,ents,V',?_,rfl⟩,fun k hk=>?_⟩
  . refine ⟨(ho.cell 0 (by decide) (by decide)).trans h.c0,(ho.cell 1 (by decide) (by decide)).trans h.c1,(ho.cell 2 (by decide) (by decide)).trans h.c2,(ho.cell 3 (by decide) (by decide)).trans h.c3,hb,
     h.grp.of' hx (ho.cell 6 (by decide) (by decide)) (ho.frz 6) (fun k hk hb=>?_),⟨by have:=h.few.1;omega,h.few.2.more⟩,(ho.cell 7 (by decide) (by decide)).trans h.c7,(ho.cell 8 (by decide) (by decide)).trans h.c8,fun q=>(ho.frz q).trans (h.fz q),
     h.join.extM hx (h.sJ P (.inl rfl)).1 (h.sJ M (.inr (.inl rfl))).1 (fun k hk=>(h.sJ k (.inr (.inr (.inl hk)))).1) (fun k hk=>(h.sJ k (.inr (.inr (.inr hk)))).1),fun k hk=>⟨fun e=>?_,(h.sJ k hk).2⟩,fun k hk e=>?_,h.okA,h.okB⟩
    . rcases hb with rfl | hb
      . rcases hk with hk | ⟨e,he,hk⟩
        . rcases h.grp.mp with ⟨h1,-⟩ | ⟨d,h1,h2,-⟩
          . rw [h1] at hk;cases hk
          . rw [h1] at hk;exact h2 (Option.some.inj hk)
        . exact (h.grp.away e he _ hk).1 rfl
      . exact h.sB k hb (.inr hk)
    . rcases hD' k e with e | e
      . exact (h.sJ k hk).1 e
      . have:=hjf k hk;omega
    . rcases hD' k (.inr hk) with e' | e'
      . rcases e' with rfl | e'
        . rcases hb.mp with ⟨h1,-⟩ | ⟨d,m,h1,h2,-⟩
          . rw [h1] at hk;cases hk
          . rw [h1] at hk;exact h2 (Option.some.inj hk)
        . exact h.sB k e' e
      . have:=hgf k e;omega
  . rcases hk with hk | hk | hk
    . exact .inl (.inl hk)
    . rcases hD' k hk with e | e
      . exact .inl (.inr (.inl e))
      . exact .inr e
    . exact .inl (.inr (.inr hk))
 refine (zsa E 4 D V x g u h.bag hok (by have:=h.few.1;omega)).mono ?_;rintro e u' ⟨c,D',l',he,hg,hx,hb,ho,hle⟩;exact ⟨c,he,fin u' D' l' hg hx hb ho hle⟩
theorem zsb (h:EKAt u E Bs lo hi md st n f0 f1) (x:Out) (g:Bool) (hok:x.ok) (hl:n < 1000000) :
 Calls Tryz.prog 97 #[.pointer (some ⟨E,6,none⟩),encC x g] u fun e u'=>∃ c,e = .returned (errV c) /\ EKUp u u' E Bs lo hi md st (n + 1) f0 f1:=by
 obtain ⟨P,M,v0,v1,D,DG,ents,V,h,rfl⟩:=h;have fin:∀ (u':World) (DG':Option Nat) (ents':List Ent),za6 u' E 6 DG' ents' -> FewG (n + 1) ents' -> zgk u u' E 6 DG DG' ents ents' -> EKUp u u' E (zeA E P M v0 v1 D DG ents) lo hi md st (n + 1) f0 f1:=fun u' DG' ents' hg hr ht=>by
  have hbf:=fun k hk=>h.bag.foot k hk;have hjf:=fun k hk=>h.join.foot k hk;have ho:=ht.only;refine ⟨ht.ext.mono fun k _ hk=>.inr (.inr hk),_,⟨P,M,v0,v1,D,DG',ents',V,?_,rfl⟩,fun k hk=>?_⟩
  . refine ⟨(ho.cell 0 (by decide)).trans h.c0,(ho.cell 1 (by decide)).trans h.c1,(ho.cell 2 (by decide)).trans h.c2,(ho.cell 3 (by decide)).trans h.c3,
     h.bag.of' ht.ext (fun q hq=>ho.cell q (by omega)) ho.frz (fun d hd=>h.sB d hd),hg,⟨by have:=h.few.1;omega,hr⟩,(ho.cell 7 (by decide)).trans h.c7,(ho.cell 8 (by decide)).trans h.c8,fun q=>(ho.frz q).trans (h.fz q),
     h.join.extM ht.ext (h.sJ P (.inl rfl)).2 (h.sJ M (.inr (.inl rfl))).2 (fun k hk=>(h.sJ k (.inr (.inr (.inl hk)))).2) (fun k hk=>(h.sJ k (.inr (.inr (.inr hk)))).2),fun k hk=>⟨(h.sJ k hk).1,fun e=>?_⟩,fun k hk e=>?_,h.okA,h.okB⟩
    . rcases ht.foot k e with e | e
      . exact (h.sJ k hk).2 e
      . have:=hjf k hk;omega
    . rcases ht.foot k e with e | e
      . exact h.sB k hk e
      . have:=hbf k (.inr hk);omega
  . rcases hk with hk | hk | hk
    . exact .inl (.inl hk)
    . exact .inl (.inr (.inl hk))
    . rcases ht.foot k hk with e | e
      . exact .inl (.inr (.inr e))
      . exact .inr e
 refine (zrU E 6 DG ents x g n u h.grp h.few.2 hok hl).mono ?_;rintro e u' ⟨c,D',e',he,g1,g2,g3⟩;exact ⟨c,he,fin u' D' e' g1 g2 g3⟩
end
theorem zqe {u:World} {E:Nat} {Bs:Nat -> Prop} {lo hi md:Int} {st:JSt} {m:Nat} {f0 f1:Int} (h:EKAt u E Bs lo hi md st m f0 f1) (b:Nat) (vo:Value) (cs:List (Out × Bool)) (hrow:CRow u b vo cs) (hsep:∀ k,vo.ownBlock = some k -> ¬ Bs k)
 (hok:∀ c ∈ cs,c.1.ok) (hl:m + 2 * cs.length < 1000000) :
 Calls Tryz.prog 45 #[.pointer (some ⟨E,0,none⟩),vo] u fun e u'=>e = .returned (.tuple #[]) /\ EKUp u u' E Bs lo hi md st (m + 2 * cs.length) f0 f1:=by
 obtain ⟨p,cap,rfl,-⟩:=zaa hrow;have hrl:=fun k hk=>(zaf hrow k hk).2;go_enter Tryz.func45,Tryz.ntmps45;go_wp2_with fail;go_loopg [8] (cs.length + 1) (fun kx s8 wr=>∃ (i:Nat),s8 = .int .i64 i /\ i <= cs.length /\ cs.length - i <= kx /\ EKUp u wr E Bs lo hi md st (m + 2 * i) f0 f1)
 case atStart=>exact ⟨0,rfl,by omega,by omega,EKUp.same h (ExtM.refl _)⟩
 case round =>
  obtain ⟨i,rfl,hi,hgk,hup⟩:=hrel;by_cases hil:i < cs.length
  . have hdr:cs.drop i = cs[i] :: cs.drop (i + 1):=List.drop_eq_getElem_cons hil;obtain ⟨hx,Bs1,hat,hB1⟩:=id hup;have hrow1:CRow wr b _ cs:=zag hrow hx (fun k hk=>hsep k hk);obtain ⟨g,rc,e1,hg,hc⟩:=zcd hrow1 i cs[i] (List.getElem?_eq_getElem hil);simp only [Value.slice.injEq,true_and] at e1;obtain ⟨rfl,rfl⟩:=e1;have hck:=hok _ (List.getElem_mem hil);have HDR:=Lib.hid hdr;clear hdr;generalize cs[i] = c at *;obtain ⟨x,gg⟩:=c;have y0:=hc 0 _ rfl;have y1:=hc 1 _ rfl;have y2:=hc 2 _ rfl;have y3:=hc 3 _ rfl;have y4:=hc 4 _ rfl;have y5:=hc 5 _ rfl;have y6:=hc 6 _ rfl;have y7:=hc 7 _ rfl;have y8:=hc 8 _ rfl;have y9:=hc 9 _ rfl;simp only [Nat.add_zero] at y0 y1 y2 y3 y4 y5 y6 y7 y8 y9;clear hc;generalize hmi:m + 2 * i = mi at *;have hl1:mi + 1 < 1000000:=by omega
    have HMI:=Lib.hid hmi;clear hmi;go_upto_region 3 with fail;have bx:=BoxC.mk' wr x gg 92;have hxa:Ext wr (wr.alloc (.cells #[.int .i64 x.key,.int .i64 x.l.k,.int .i64 x.l.t,.int .i64 x.l.v,.int .i64 x.r.k,.int .i64 x.r.t,.int .i64 x.r.v,.bool x.hl,.bool x.hr,.bool gg] 92)):=(ExtM.refl _).alloc _;have hat2:=hat.ext hxa;have hnB:¬ Bs1 wr.heap.size:=fun e=>by have:=hat.lt _ e;omega
    have hup2:=EKUp.after hup hxa;clear y0 y1 y2 y3 y4 y5 y6 y7 y8 y9 hup hat hxa hrow1;generalize wr.alloc (.cells #[.int .i64 x.key,.int .i64 x.l.k,.int .i64 x.l.t,.int .i64 x.l.v,.int .i64 x.r.k,.int .i64 x.r.t,.int .i64 x.r.v,.bool x.hl,.bool x.hr,.bool gg] 92) = w1 at *;generalize wr.heap.size = n at *;have hlE:=hat2.lt _ hat2.mine;have hln:n < w1.heap.size:=zac bx.e0;obtain ⟨e0,e1,e2,e3,e4,e5,e6,e7,e8,e9⟩:=id bx;refine Plan.bT Plan.Ext [4] 5 ?_;refine Plan.qs 1 [3] ?_;go_big_quiet_step (fail);refine Plan.o1 0 fun K hK=>?_;go_wp2_with (fail);refine hK _ _ (ExtM.refl _) ?_;clear hK K;refine Plan.o1 1 fun K hK=>?_;go_wp2_with (fail);refine hK _ _ (ExtM.refl _) ?_;clear hK K;refine Plan.qs 1 [2] ?_;go_big_quiet_step (fail);refine Plan.ol 4 fun K hK=>?_;go_wp2_with (fail);refine (zrQ (hat2.ext (ExtM.refl _).drew) x gg hck (by omega)).mono ?_;rintro e w2 ⟨ca,rfl,hu2⟩;go_wp2_with (fail);refine Plan.dn ?_;have hu2':=EKUp.before ((ExtM.refl w1).drew) hu2;clear hu2 e0 e1 e2 e3 e4 e5 e6 e7 e8 e9 hlE;obtain ⟨hx2,Bs2,hat3,hB2⟩:=id hu2';have bx2:=bx.of hx2 hnB;have hlE:=hat3.lt _ hat3.mine;have hln2:n < w2.heap.size:=zac bx2.e0;obtain ⟨e0,e1,e2,e3,e4,e5,e6,e7,e8,e9⟩:=id bx2;go_wp2_with fail;refine Plan.bT Plan.Ext [4] 5 ?_;refine Plan.qs 1 [3] ?_;go_big_quiet_step (fail);refine Plan.o1 0 fun K hK=>?_;go_wp2_with (fail);refine hK _ _ (ExtM.refl _) ?_;clear hK K;refine Plan.o1 1 fun K hK=>?_;go_wp2_with (fail);refine hK _ _ (ExtM.refl _) ?_;clear hK K;refine Plan.qs 1 [2] ?_;go_big_quiet_step (fail);refine Plan.ol 4 fun K hK=>?_;go_wp2_with (fail);refine (zsb (hat3.ext (ExtM.refl _).drew) x gg hck hl1).mono ?_;rintro e w4 ⟨cb,rfl,hu4⟩;go_wp2_with (fail);refine Plan.dn ?_;have hu4':=EKUp.before ((ExtM.refl w2).drew) hu4;have hfin:=EKUp.trans hup2.1 hB1 (EKUp.trans hx2 hB2 hu4');have HF:=Lib.hid hfin;clear hu4 hfin hu4' hu2' e0 e1 e2 e3 e4 e5 e6 e7 e8 e9 hlE;go_wp2_with fail;go_roundg (cs.length - (i + 1))
    case measure=>omega
    case rel =>
     exact ⟨i + 1,by go_num,by omega,Nat.le_refl _,by rw [show m + 2 * (i + 1) = mi + 1 + 1 by have:=HMI.out;omega];exact HF.out⟩
  . obtain rfl:i = cs.length:=by omega
    have hz:decide (cs.length < cs.length) = false:=by simp
    go_wp2_with fail;go_end0;exact ⟨rfl,hup⟩
section
variable {u u':World} {E P M:Nat} {v0 v1:Value} {D DG:Option Nat} {ents:List Ent} {lo hi md:Int} {st:JSt} {V:List Out} {n:Nat} {f0 f1:Int}
theorem EK.joins {st':JSt} (h:EK u E P M v0 v1 D DG ents lo hi md st V n f0 f1) (hu:JUp u u' P M (zaE P M v0 v1) lo hi md st') (hA:∀ h ∈ st'.a,h.r.ok) (hB:∀ h ∈ st'.b,h.r.ok) :
 ∃ v0' v1',JIs u' P M v0' v1' lo hi md st' /\ EK u' E P M v0' v1' D DG ents lo hi md st' V n f0 f1 /\ ∀ k,zeA E P M v0' v1' D DG ents k -> zeA E P M v0 v1 D DG ents k \/ u.heap.size <= k:=by
 obtain ⟨hx,Bs',⟨v0',v1',hj,rfl⟩,hb⟩:=hu;have hE:¬ zaE P M v0 v1 E:=fun e=>(h.sJ E e).1 (.inl rfl);have k:=fun o=>hx.cell (p:=⟨E,o,none⟩) h.lt hE;have kf:=fun o=>hx.frozen (p:=⟨E,o,none⟩) h.lt hE;refine ⟨v0',v1',hj,?_,fun k hk=>?_⟩
 . refine ⟨(k _).trans h.c0,(k _).trans h.c1,(k _).trans h.c2,(k _).trans h.c3,h.bag.of hx hE (fun d hd e=>(h.sJ d e).1 (.inr hd)),h.grp.of hx (fun k hk e=>(h.sJ k e).2 hk),h.few,(k _).trans h.c7,(k _).trans h.c8,fun q=>(kf q).trans (h.fz q),hj,fun k hk=>?_,h.sB,hA,hB⟩;rcases hb k hk with e | e
   . exact h.sJ k e
   . exact ⟨fun q=>by have:=h.bag.foot k q;omega,fun q=>by have:=h.grp.foot k q;omega⟩
 . rcases hk with hk | hk
   . rcases hb k hk with e | e
     . exact .inl (.inl e)
     . exact .inr e
   . exact .inl (.inr hk)
end
def EKGo (u u':World) (E:Nat) (Bs:Nat -> Prop) (lo hi md:Int) (st:JSt) (n:Nat) (f0 f1:Int) (vo:Value):Prop :=
 ExtM Bs u u' /\ ∃ Bs',EKAt u' E Bs' lo hi md st n f0 f1 /\ (∀ k,Bs' k -> Bs k \/ u.heap.size <= k) /\ ∀ k,vo.ownBlock = some k -> ¬ Bs' k
theorem EK.fed0 {u:World} {E P M:Nat} {v0 v1:Value} {D DG:Option Nat} {ents:List Ent} {lo hi md:Int} {st:JSt} {V:List Out} {n:Nat} {f0 f1:Int} (h:EK u E P M v0 v1 D DG ents lo hi md st V n f0 f1) (x:Int) :
 EK (u.setCell ⟨E,7,none⟩ (.int .i64 x)) E P M v0 v1 D DG ents lo hi md st V n x f1 /\ ExtM (fun k=>k = E) u (u.setCell ⟨E,7,none⟩ (.int .i64 x)):=by
 have hx:ExtM (fun k=>k = E) u (u.setCell ⟨E,7,none⟩ (.int .i64 x)):=ExtM.setCell (M:=fun k=>k = E) (ExtM.refl u) (p:=⟨E,7,none⟩) (.inr rfl) _;have hc:∀ o,o ≠ 7 -> (u.setCell ⟨E,7,none⟩ (.int .i64 x)).cell? ⟨E,o,none⟩ = u.cell? ⟨E,o,none⟩:=fun o ho=>World.cell?_setCell_other _ _ _ _ (by intro e;simp only [Addr.mk.injEq,and_true,true_and] at e;omega);have hf:∀ o,(u.setCell ⟨E,7,none⟩ (.int .i64 x)).frozen? ⟨E,o,none⟩ = u.frozen? ⟨E,o,none⟩:=fun o=>World.frozen?_setCell _ _ _ _;have hj:∀ k,zaE P M v0 v1 k -> ¬ k = E:=fun k hk e=>by subst e;exact (h.sJ _ hk).1 (.inl rfl)
 refine ⟨⟨(hc 0 (by decide)).trans h.c0,(hc 1 (by decide)).trans h.c1,(hc 2 (by decide)).trans h.c2,(hc 3 (by decide)).trans h.c3,h.bag.of' hx (fun q hq=>hc q (by omega)) hf (fun d hd e=>?_),
  h.grp.of' hx (hc 6 (by decide)) (hf 6) (fun k hk e=>?_),h.few,World.cell?_setCell_same _ _ _ h.c7,(hc 8 (by decide)).trans h.c8,fun q=>(hf q).trans (h.fz q),h.join.extM hx (hj P (.inl rfl)) (hj M (.inr (.inl rfl))) (fun k hk=>hj k (.inr (.inr (.inl hk)))) (fun k hk=>hj k (.inr (.inr (.inr hk)))),h.sJ,h.sB,h.okA,h.okB⟩,hx⟩
 . subst e;rcases h.bag.mp with ⟨h1,-⟩ | ⟨d,m,h1,h2,-⟩
   . rw [h1] at hd;cases hd
   . rw [h1] at hd;exact h2 (Option.some.inj hd)
 . subst e;rcases hk with hk | ⟨e,he,hk⟩
   . rcases h.grp.mp with ⟨h1,-⟩ | ⟨d,h1,h2,-⟩
     . rw [h1] at hk;cases hk
     . rw [h1] at hk;exact h2 (Option.some.inj hk)
   . exact (h.grp.away e he _ hk).1 rfl
theorem EK.fed1 {u:World} {E P M:Nat} {v0 v1:Value} {D DG:Option Nat} {ents:List Ent} {lo hi md:Int} {st:JSt} {V:List Out} {n:Nat} {f0 f1:Int} (h:EK u E P M v0 v1 D DG ents lo hi md st V n f0 f1) (x:Int) :
 EK (u.setCell ⟨E,8,none⟩ (.int .i64 x)) E P M v0 v1 D DG ents lo hi md st V n f0 x /\ ExtM (fun k=>k = E) u (u.setCell ⟨E,8,none⟩ (.int .i64 x)):=by
 have hx:ExtM (fun k=>k = E) u (u.setCell ⟨E,8,none⟩ (.int .i64 x)):=ExtM.setCell (M:=fun k=>k = E) (ExtM.refl u) (p:=⟨E,8,none⟩) (.inr rfl) _;have hc:∀ o,o ≠ 8 -> (u.setCell ⟨E,8,none⟩ (.int .i64 x)).cell? ⟨E,o,none⟩ = u.cell? ⟨E,o,none⟩:=fun o ho=>World.cell?_setCell_other _ _ _ _ (by intro e;simp only [Addr.mk.injEq,and_true,true_and] at e;omega);have hf:∀ o,(u.setCell ⟨E,8,none⟩ (.int .i64 x)).frozen? ⟨E,o,none⟩ = u.frozen? ⟨E,o,none⟩:=fun o=>World.frozen?_setCell _ _ _ _;have hj:∀ k,zaE P M v0 v1 k -> ¬ k = E:=fun k hk e=>by subst e;exact (h.sJ _ hk).1 (.inl rfl)
 refine ⟨⟨(hc 0 (by decide)).trans h.c0,(hc 1 (by decide)).trans h.c1,(hc 2 (by decide)).trans h.c2,(hc 3 (by decide)).trans h.c3,h.bag.of' hx (fun q hq=>hc q (by omega)) hf (fun d hd e=>?_),
  h.grp.of' hx (hc 6 (by decide)) (hf 6) (fun k hk e=>?_),h.few,(hc 7 (by decide)).trans h.c7,World.cell?_setCell_same _ _ _ h.c8,fun q=>(hf q).trans (h.fz q),h.join.extM hx (hj P (.inl rfl)) (hj M (.inr (.inl rfl))) (fun k hk=>hj k (.inr (.inr (.inl hk)))) (fun k hk=>hj k (.inr (.inr (.inr hk)))),h.sJ,h.sB,h.okA,h.okB⟩,hx⟩
 . subst e;rcases h.bag.mp with ⟨h1,-⟩ | ⟨d,m,h1,h2,-⟩
   . rw [h1] at hd;cases hd
   . rw [h1] at hd;exact h2 (Option.some.inj hd)
 . subst e;rcases hk with hk | ⟨e,he,hk⟩
   . rcases h.grp.mp with ⟨h1,-⟩ | ⟨d,h1,h2,-⟩
     . rw [h1] at hk;cases hk
     . rw [h1] at hk;exact h2 (Option.some.inj hk)
   . exact (h.grp.away e he _ hk).1 rfl
theorem EKUp.fed {u u':World} {E:Nat} {Bs:Nat -> Prop} {lo hi md:Int} {st:JSt} {n:Nat} {f0 f1 f0' f1':Int} (hB:Bs E) (h:EKUp u u' E Bs lo hi md st n f0 f1) (o:Nat) (x:Int)
 (ho:(o = 7 /\ f0' = x /\ f1' = f1) \/ (o = 8 /\ f0' = f0 /\ f1' = x)):EKUp u (u'.setCell ⟨E,o,none⟩ (.int .i64 x)) E Bs lo hi md st n f0' f1':=by
 obtain ⟨hx,Bs',⟨P,M,v0,v1,D,DG,ents,V,hI,rfl⟩,hb⟩:=h;rcases ho with ⟨rfl,rfl,rfl⟩ | ⟨rfl,rfl,rfl⟩
 . obtain ⟨h1,h2⟩:=hI.fed0 f0';exact ⟨ExtM.trans _ _ _ hx (h2.mono fun k _ e=>e ▸ hB),_,⟨P,M,v0,v1,D,DG,ents,V,h1,rfl⟩,hb⟩
 . obtain ⟨h1,h2⟩:=hI.fed1 f1';exact ⟨ExtM.trans _ _ _ hx (h2.mono fun k _ e=>e ▸ hB),_,⟨P,M,v0,v1,D,DG,ents,V,h1,rfl⟩,hb⟩
theorem zr4 {u:World} {E P M:Nat} {v0 v1:Value} {D DG:Option Nat} {ents:List Ent} {lo hi md:Int} {st:JSt} {V:List Out} {n:Nat} {f0 f1:Int} (h:EK u E P M v0 v1 D DG ents lo hi md st V n f0 f1) (hp:zay lo hi) (la:st.a.length <= 300) (lb:st.b.length <= 300) (rk rt rv:Int) :
 Calls Tryz.prog 43 #[.pointer (some ⟨P,0,none⟩),.int .i64 0,.agg #[.int .i64 rk,.int .i64 rt,.int .i64 rv]] u fun e u' =>
  ∃ vo,e = .returned (.tuple #[vo,errV (feedE lo hi 0 ⟨rk,rt,rv⟩ st.x st.y (st.of 0).length)]) /\ ExtM (zaE P M v0 v1) u u' /\ CRow u' u.heap.size vo (zaj lo hi md 0 ⟨rk,rt,rv⟩ st) /\ EKGo u u' E (zeA E P M v0 v1 D DG ents) lo hi md (zam lo hi 0 ⟨rk,rt,rv⟩ st) n f0 f1 vo:=by
 refine (zog u P M v0 v1 lo hi md st rk rt rv h.join hp la lb).mono ?_;rintro e u' ⟨vo,he,hr,hu⟩;have hk:=zim (lo:=lo) (hi:=hi) (s:=0) (r:=⟨rk,rt,rv⟩) (st:=st) (by decide) h.okA h.okB;obtain ⟨v0',v1',hj,hI,hb⟩:=h.joins hu hk.1 hk.2;refine ⟨vo,he,hu.1,hr,hu.1.mono (fun k _ hk=>.inl hk),_,⟨P,M,v0',v1',D,DG,ents,V,hI,rfl⟩,hb,fun k hk hf=>?_⟩;have hlt:=(zaf hr k hk).1;rcases hf with (rfl | rfl | hf | hf) | hf | hf
 . have:=h.join.lt;omega
 . have:=h.join.mks.lt;omega
 . exact zcC hr hj.s0.row k hk hf
 . exact zcC hr hj.s1.row k hk hf
 . have:=h.bag.foot k hf;omega
 . have:=h.grp.foot k hf;omega
theorem zru {u:World} {E P M:Nat} {v0 v1:Value} {D DG:Option Nat} {ents:List Ent} {lo hi md:Int} {st:JSt} {V:List Out} {n:Nat} {f0 f1:Int} (h:EK u E P M v0 v1 D DG ents lo hi md st V n f0 f1) (hp:zay lo hi) (la:st.a.length <= 300) (lb:st.b.length <= 300) (rk rt rv:Int) :
 Calls Tryz.prog 43 #[.pointer (some ⟨P,0,none⟩),.int .i64 1,.agg #[.int .i64 rk,.int .i64 rt,.int .i64 rv]] u fun e u' =>
  ∃ vo,e = .returned (.tuple #[vo,errV (feedE lo hi 1 ⟨rk,rt,rv⟩ st.x st.y (st.of 1).length)]) /\ ExtM (zaE P M v0 v1) u u' /\ CRow u' u.heap.size vo (zaj lo hi md 1 ⟨rk,rt,rv⟩ st) /\ EKGo u u' E (zeA E P M v0 v1 D DG ents) lo hi md (zam lo hi 1 ⟨rk,rt,rv⟩ st) n f0 f1 vo:=by
 refine (zos u P M v0 v1 lo hi md st rk rt rv h.join hp la lb).mono ?_;rintro e u' ⟨vo,he,hr,hu⟩;have hk:=zim (lo:=lo) (hi:=hi) (s:=1) (r:=⟨rk,rt,rv⟩) (st:=st) (by decide) h.okA h.okB;obtain ⟨v0',v1',hj,hI,hb⟩:=h.joins hu hk.1 hk.2;refine ⟨vo,he,hu.1,hr,hu.1.mono (fun k _ hk=>.inl hk),_,⟨P,M,v0',v1',D,DG,ents,V,hI,rfl⟩,hb,fun k hk hf=>?_⟩;have hlt:=(zaf hr k hk).1;rcases hf with (rfl | rfl | hf | hf) | hf | hf
 . have:=h.join.lt;omega
 . have:=h.join.mks.lt;omega
 . exact zcC hr hj.s0.row k hk hf
 . exact zcC hr hj.s1.row k hk hf
 . have:=h.bag.foot k hf;omega
 . have:=h.grp.foot k hf;omega
section
variable {u:World} {E:Nat} {Bs:Nat -> Prop} {lo hi md:Int} {st:JSt} {n:Nat} {f0 f1:Int}
theorem EKAt.c70 (h:EKAt u E Bs lo hi md st n f0 f1):u.cell? ⟨E,7,none⟩ = some (.int .i64 f0):=by obtain ⟨_,_,_,_,_,_,_,_,h,-⟩:=h;exact h.c7
theorem EKAt.c71 (h:EKAt u E Bs lo hi md st n f0 f1):u.cell? ⟨E,8,none⟩ = some (.int .i64 f1):=by obtain ⟨_,_,_,_,_,_,_,_,h,-⟩:=h;exact h.c8
theorem EKAt.fz (h:EKAt u E Bs lo hi md st n f0 f1) (q:Nat):u.frozen? ⟨E,q,none⟩ = false:=by obtain ⟨_,_,_,_,_,_,_,_,h,-⟩:=h;exact h.fz q
end
def zqX (u u':World) (E:Nat) (Bs:Nat -> Prop) (lo hi md:Int) (st:JSt) (n:Nat) (f0 f1:Int) (vo:Value):Prop :=
 ExtM Bs u u' /\ ∃ Bs',EKAt u' E Bs' lo hi md st n f0 f1 /\ (∀ k,Bs' k -> Bs k \/ u.heap.size <= k) /\ ∀ k,vo.ownBlock = some k -> ¬ Bs' k
theorem zqX.up {u u':World} {E:Nat} {Bs:Nat -> Prop} {lo hi md:Int} {st:JSt} {n:Nat} {f0 f1:Int} {vo:Value} (h:zqX u u' E Bs lo hi md st n f0 f1 vo):EKUp u u' E Bs lo hi md st n f0 f1:=by
 obtain ⟨h1,Bs',h2,h3,-⟩:=h;exact ⟨h1,Bs',h2,h3⟩
theorem EKUp.vnil {u u':World} {E:Nat} {Bs:Nat -> Prop} {lo hi md:Int} {st:JSt} {n:Nat} {f0 f1:Int} (h:EKUp u u' E Bs lo hi md st n f0 f1):zqX u u' E Bs lo hi md st n f0 f1 (.slice none 0 0):=by
 obtain ⟨h1,Bs',h2,h3⟩:=h;exact ⟨h1,Bs',h2,h3,fun k hk=>nomatch hk⟩
theorem zrc {u:World} {E:Nat} {Bs:Nat -> Prop} {lo hi md:Int} {st:JSt} {m:Nat} {f0 f1:Int} (h:EKAt u E Bs lo hi md st m f0 f1) (hp:zay lo hi) (la:st.a.length <= 300) (lb:st.b.length <= 300) (hL:Laid u) (hz:¬ Bs 2) (rk rt rv:Int)
 (hl:m < 900000) :
 Calls Tryz.prog 9 #[.pointer (some ⟨E,0,none⟩),.int .i64 0,.agg #[.int .i64 rk,.int .i64 rt,.int .i64 rv]] u fun e u' =>
  ∃ vo,e = .returned (.tuple #[vo,errV (feedE lo hi 0 ⟨rk,rt,rv⟩ st.x st.y (st.of 0).length)]) /\ CRow u' u.heap.size vo (zaj lo hi md 0 ⟨rk,rt,rv⟩ st) /\
    zqX u u' E Bs lo hi md (zam lo hi 0 ⟨rk,rt,rv⟩ st) (m + 2 * (zaj lo hi md 0 ⟨rk,rt,rv⟩ st).length) (fedI (feedE lo hi 0 ⟨rk,rt,rv⟩ st.x st.y (st.of 0).length) f0) f1 vo:=by
 obtain ⟨P,M,v0,v1,D,DG,ents,V,hI,rfl⟩:=h;have hxb:Ext u (u.alloc (.cells #[.int .i64 rk,.int .i64 rt,.int .i64 rv] 37)):=(ExtM.refl u).alloc _;have hfo:=hI.foot;go_enter Tryz.func9,Tryz.ntmps9;go_upto_region 1 with fail;have b0:(u.alloc (.cells #[.int .i64 rk,.int .i64 rt,.int .i64 rv] 37)).cell? ⟨u.heap.size,0,none⟩ = some (.int .i64 rk):=by go_simp
 have b1:(u.alloc (.cells #[.int .i64 rk,.int .i64 rt,.int .i64 rv] 37)).cell? ⟨u.heap.size,1,none⟩ = some (.int .i64 rt):=by go_simp
 have b2:(u.alloc (.cells #[.int .i64 rk,.int .i64 rt,.int .i64 rv] 37)).cell? ⟨u.heap.size,2,none⟩ = some (.int .i64 rv):=by go_simp
 have hnJ:¬ zaE P M v0 v1 u.heap.size:=fun e=>by have:=hfo _ (.inl e);omega
 have hEJ:¬ zaE P M v0 v1 E:=fun e=>(hI.sJ E e).1 (.inl rfl);have hI2:=hI.ext hxb;have hL2:=hL.of hxb;have hsz:=hxb.size;generalize u.alloc (.cells #[.int .i64 rk,.int .i64 rt,.int .i64 rv] 37) = w1 at *;generalize hn:u.heap.size = n at *;have hnl:n < w1.heap.size:=zac b0;have hEl:=hI2.lt;have c3:=hI2.c3;refine Plan.b0 (Plan.ExtL E n) 12 ?_;refine Plan.qs 6 [0,1,2,3,4,5] ?_;iterate 6 go_big_quiet_step (fail)
 refine Plan.o1 6 fun K hK=>?_;go_wp2_with (fail);refine (zr4 (hI2.ext (ExtM.refl _).drew) hp la lb rk rt rv).mono ?_;rintro e w2 ⟨vo,rfl,h2,hrow,hgo⟩;have H2:=ExtL.trans _ _ _ (ExtL.refl _).drew (ExtL.of_M hEJ hnJ h2);obtain ⟨hc2,hf2,-⟩:=ExtL.rules H2;have hs2_0:E < w2.heap.size:=by have:=H2.size;(try simp at this);omega
 have hs2_1:n < w2.heap.size:=by have:=H2.size;(try simp at this);omega
 go_wp2_with (fail);refine hK _ _ (ExtL.of_M hEJ hnJ h2) ?_;clear hK K;refine Plan.qs 5 [7,8,9,10,11] ?_;iterate 5 go_big_quiet_step (fail)
 refine Plan.dn ?_;obtain ⟨hx2,Bs2,hat,hB2,hsep⟩:=id hgo;have hL3:Laid w2:=(hL2.of (ExtM.refl _).drew).ofM hx2 hz;have hbs:u.heap.size <= w1.drew.heap.size:=by show u.heap.size <= w1.heap.size;omega
 clear b0 b1 b2 c3;generalize hEe:feedE lo hi 0 ⟨rk,rt,rv⟩ st.x st.y (st.of 0).length = e at *;have HE:=Lib.hid hEe;clear hEe;by_cases z0:e = 0
 . subst z0;have er:errV 0 = .nilIface:=rfl;rw [er];go_upto_region 3 with (go_at_call 44;refine (zfr _).mono ?_;rintro e w2 ⟨rfl,rfl⟩)
   have c7:=hat.c70;have z7:=hat.fz 7;have hE3:=hat.lt _ hat.mine;refine Plan.bT Plan.Ext [10] 11 ?_;refine Plan.qs 7 [0,1,2,3,4,5,6] ?_;iterate 7 go_big_quiet_step (fail)
   refine Plan.o1 7 fun K hK=>?_;go_wp2_with (fail);refine hK _ _ (ExtM.refl _) ?_;clear hK K;refine Plan.o1 8 fun K hK=>?_;go_wp2_with (fail);refine hK _ _ (ExtM.refl _) ?_;clear hK K;refine Plan.qs 1 [9] ?_;go_big_quiet_step (fail);refine Plan.ol 10 fun K hK=>?_;go_wp2_with (fail);refine Plan.dn ?_;have hu4:=EKUp.fed (x:=wrap64 (f0 + 1)) hat.mine (EKUp.same hat (ExtM.refl w2).drew) 7 (.inl ⟨rfl,rfl,rfl⟩);have hF:fedI 0 f0 = wrap64 (f0 + 1):=if_pos (.inl rfl);obtain ⟨hx4,Bs4,hat4,hB4⟩:=id hu4;have hrow4:CRow _ _ vo _:=zag hrow hx4 hsep;have hsep4:∀ k,vo.ownBlock = some k -> ¬ Bs4 k:=fun k hk hf=>by
    rcases hB4 k hf with q | q
    . exact hsep k hk q
    . have:=(zaf hrow k hk).2;omega
   go_wp2_with (go_at_call 45;refine (zqe hat4 _ vo _ hrow4 hsep4 (zi8 hI.okA hI.okB) (by have:=zgU lo hi md 0 ⟨rk,rt,rv⟩ st la lb;omega)).mono ?_;rintro e w5 ⟨rfl,hu5⟩);go_ret2;rw [HE.out,hF];obtain ⟨hx5,Bs5,hat5,hB5⟩:=id hu5;refine ⟨vo,rfl,zak (zag hrow4 hu5.1 hsep4) hbs,(EKUp.before hxb (EKUp.before (ExtM.refl _).drew (EKUp.trans hx2 hB2 (EKUp.trans hx4 hB4 hu5)))).1,Bs5,hat5,fun k hk=>?_,fun k hk hf=>?_⟩
   . rcases hB5 k hk with q | q
     . rcases hB4 k q with q | q
       . rcases hB2 k q with q | q
         . exact .inl q
         . exact .inr (Nat.le_trans hbs q)
       . exact .inr (Nat.le_trans hbs (Nat.le_trans hx2.size q))
     . exact .inr (Nat.le_trans hbs (Nat.le_trans hx2.size (Nat.le_trans hx4.size q)))
   . rcases hB5 k hf with q | q
     . exact hsep4 k hk q
     . have:=(zaf hrow4 k hk).2;omega
 . have hnil:zaj lo hi md 0 ⟨rk,rt,rv⟩ st = []:=by unfold zaj;rw [if_neg (by rw [HE.out];exact z0)]
   by_cases z1:e = 10
   . subst z1;have er:errV 10 = .iface 24 (.int .i64 10):=rfl;rw [er];go_upto_region 3 with (go_at_call 44;first | (refine (zcz 10 _ hL3).mono ?_;rintro e w3 ⟨rfl,hx3⟩) | (refine (zcz 10 _ (hL3.of hx3)).mono ?_;rintro e w4 ⟨rfl,hx4⟩))
     have hx24:=ExtM.trans _ _ _ hx3 hx4;have hat4:=hat.ext hx24;clear hx3 hx4;have c7:=hat4.c70;have z7:=hat4.fz 7;have hE3:=hat4.lt _ hat4.mine;refine Plan.bT Plan.Ext [10] 11 ?_;refine Plan.qs 7 [0,1,2,3,4,5,6] ?_;iterate 7 go_big_quiet_step (fail)
     refine Plan.o1 7 fun K hK=>?_;go_wp2_with (fail);refine hK _ _ (ExtM.refl _) ?_;clear hK K;refine Plan.o1 8 fun K hK=>?_;go_wp2_with (fail);refine hK _ _ (ExtM.refl _) ?_;clear hK K;refine Plan.qs 1 [9] ?_;go_big_quiet_step (fail);refine Plan.ol 10 fun K hK=>?_;go_wp2_with (fail);refine Plan.dn ?_;have hu4:=EKUp.fed (x:=wrap64 (f0 + 1)) hat.mine (EKUp.after (EKUp.same hat hx24) (ExtM.refl w4).drew) 7 (.inl ⟨rfl,rfl,rfl⟩);have hF:fedI 10 f0 = wrap64 (f0 + 1):=if_pos (.inr rfl);go_wp2_with fail;go_ret2;rw [HE.out,hF,hnil,er];simp only [List.length_nil,Nat.mul_zero,Nat.add_zero];exact ⟨.slice none 0 0,rfl,nilC _ _,EKUp.vnil (EKUp.before hxb (EKUp.before (ExtM.refl _).drew (EKUp.trans hx2 hB2 hu4)))⟩
   . have er:errV e = .iface 24 (.int .i64 e):=if_neg z0;rw [er];have d0:(e == 0) = false:=by simp [z0]
     have d1:(e == 10) = false:=by simp [z1]
     have hF:fedI e f0 = f0:=if_neg (fun q=>q.elim z0 z1);have HF:=Lib.hid hF;clear hF;go_wp2_with (go_at_call 44;first | (refine (zcz e _ hL3).mono ?_;rintro e w3 ⟨rfl,hx3⟩) | (refine (zcz e _ (hL3.of hx3)).mono ?_;rintro e w4 ⟨rfl,hx4⟩));go_ret2;rw [HE.out,HF.out,hnil,er];simp only [List.length_nil,Nat.mul_zero,Nat.add_zero];exact ⟨.slice none 0 0,rfl,nilC _ _,EKUp.vnil (EKUp.before hxb (EKUp.before (ExtM.refl _).drew (EKUp.trans hx2 hB2 (EKUp.same hat (ExtM.trans _ _ _ hx3 hx4)))))⟩
theorem zr6 {u:World} {E:Nat} {Bs:Nat -> Prop} {lo hi md:Int} {st:JSt} {m:Nat} {f0 f1:Int} (h:EKAt u E Bs lo hi md st m f0 f1) (hp:zay lo hi) (la:st.a.length <= 300) (lb:st.b.length <= 300) (hL:Laid u) (hz:¬ Bs 2) (rk rt rv:Int)
 (hl:m < 900000) :
 Calls Tryz.prog 9 #[.pointer (some ⟨E,0,none⟩),.int .i64 0,.agg #[.int .i64 rk,.int .i64 rt,.int .i64 rv]] u fun e u' =>
  ∃ vo,e = .returned (.tuple #[vo,errV (feedE lo hi 0 ⟨rk,rt,rv⟩ st.x st.y (st.of 0).length)]) /\ CRow u' u.heap.size vo (zaj lo hi md 0 ⟨rk,rt,rv⟩ st) /\
    EKUp u u' E Bs lo hi md (zam lo hi 0 ⟨rk,rt,rv⟩ st) (m + 2 * (zaj lo hi md 0 ⟨rk,rt,rv⟩ st).length) (fedI (feedE lo hi 0 ⟨rk,rt,rv⟩ st.x st.y (st.of 0).length) f0) f1 :=
 (zrc h hp la lb hL hz rk rt rv hl).mono fun e u' hh=>by
   obtain ⟨vo,h1,h2,h3⟩:=hh;exact ⟨vo,h1,h2,h3.up⟩
theorem zrg {u:World} {E:Nat} {Bs:Nat -> Prop} {lo hi md:Int} {st:JSt} {m:Nat} {f0 f1:Int} (h:EKAt u E Bs lo hi md st m f0 f1) (hp:zay lo hi) (la:st.a.length <= 300) (lb:st.b.length <= 300) (hL:Laid u) (hz:¬ Bs 2) (rk rt rv:Int)
 (hl:m < 900000) :
 Calls Tryz.prog 9 #[.pointer (some ⟨E,0,none⟩),.int .i64 1,.agg #[.int .i64 rk,.int .i64 rt,.int .i64 rv]] u fun e u' =>
  ∃ vo,e = .returned (.tuple #[vo,errV (feedE lo hi 1 ⟨rk,rt,rv⟩ st.x st.y (st.of 1).length)]) /\ CRow u' u.heap.size vo (zaj lo hi md 1 ⟨rk,rt,rv⟩ st) /\
    zqX u u' E Bs lo hi md (zam lo hi 1 ⟨rk,rt,rv⟩ st) (m + 2 * (zaj lo hi md 1 ⟨rk,rt,rv⟩ st).length) f0 (fedI (feedE lo hi 1 ⟨rk,rt,rv⟩ st.x st.y (st.of 1).length) f1) vo:=by
 obtain ⟨P,M,v0,v1,D,DG,ents,V,hI,rfl⟩:=h;have hxb:Ext u (u.alloc (.cells #[.int .i64 rk,.int .i64 rt,.int .i64 rv] 37)):=(ExtM.refl u).alloc _;have hfo:=hI.foot;go_enter Tryz.func9,Tryz.ntmps9;go_upto_region 1 with fail;have b0:(u.alloc (.cells #[.int .i64 rk,.int .i64 rt,.int .i64 rv] 37)).cell? ⟨u.heap.size,0,none⟩ = some (.int .i64 rk):=by go_simp
 have b1:(u.alloc (.cells #[.int .i64 rk,.int .i64 rt,.int .i64 rv] 37)).cell? ⟨u.heap.size,1,none⟩ = some (.int .i64 rt):=by go_simp
 have b2:(u.alloc (.cells #[.int .i64 rk,.int .i64 rt,.int .i64 rv] 37)).cell? ⟨u.heap.size,2,none⟩ = some (.int .i64 rv):=by go_simp
 have hnJ:¬ zaE P M v0 v1 u.heap.size:=fun e=>by have:=hfo _ (.inl e);omega
 have hEJ:¬ zaE P M v0 v1 E:=fun e=>(hI.sJ E e).1 (.inl rfl);have hI2:=hI.ext hxb;have hL2:=hL.of hxb;have hsz:=hxb.size;generalize u.alloc (.cells #[.int .i64 rk,.int .i64 rt,.int .i64 rv] 37) = w1 at *;generalize hn:u.heap.size = n at *;have hnl:n < w1.heap.size:=zac b0;have hEl:=hI2.lt;have c3:=hI2.c3;refine Plan.b0 (Plan.ExtL E n) 12 ?_;refine Plan.qs 6 [0,1,2,3,4,5] ?_;iterate 6 go_big_quiet_step (fail)
 refine Plan.o1 6 fun K hK=>?_;go_wp2_with (fail);refine (zru (hI2.ext (ExtM.refl _).drew) hp la lb rk rt rv).mono ?_;rintro e w2 ⟨vo,rfl,h2,hrow,hgo⟩;have H2:=ExtL.trans _ _ _ (ExtL.refl _).drew (ExtL.of_M hEJ hnJ h2);obtain ⟨hc2,hf2,-⟩:=ExtL.rules H2;have hs2_0:E < w2.heap.size:=by have:=H2.size;(try simp at this);omega
 have hs2_1:n < w2.heap.size:=by have:=H2.size;(try simp at this);omega
 go_wp2_with (fail);refine hK _ _ (ExtL.of_M hEJ hnJ h2) ?_;clear hK K;refine Plan.qs 5 [7,8,9,10,11] ?_;iterate 5 go_big_quiet_step (fail)
 refine Plan.dn ?_;obtain ⟨hx2,Bs2,hat,hB2,hsep⟩:=id hgo;have hL3:Laid w2:=(hL2.of (ExtM.refl _).drew).ofM hx2 hz;have hbs:u.heap.size <= w1.drew.heap.size:=by show u.heap.size <= w1.heap.size;omega
 clear b0 b1 b2 c3;generalize hEe:feedE lo hi 1 ⟨rk,rt,rv⟩ st.x st.y (st.of 1).length = e at *;have HE:=Lib.hid hEe;clear hEe;by_cases z0:e = 0
 . subst z0;have er:errV 0 = .nilIface:=rfl;rw [er];go_upto_region 3 with (go_at_call 44;refine (zfr _).mono ?_;rintro e w2 ⟨rfl,rfl⟩)
   have c7:=hat.c71;have z7:=hat.fz 8;have hE3:=hat.lt _ hat.mine;refine Plan.bT Plan.Ext [10] 11 ?_;refine Plan.qs 7 [0,1,2,3,4,5,6] ?_;iterate 7 go_big_quiet_step (fail)
   refine Plan.o1 7 fun K hK=>?_;go_wp2_with (fail);refine hK _ _ (ExtM.refl _) ?_;clear hK K;refine Plan.o1 8 fun K hK=>?_;go_wp2_with (fail);refine hK _ _ (ExtM.refl _) ?_;clear hK K;refine Plan.qs 1 [9] ?_;go_big_quiet_step (fail);refine Plan.ol 10 fun K hK=>?_;go_wp2_with (fail);refine Plan.dn ?_;have hu4:=EKUp.fed (x:=wrap64 (f1 + 1)) hat.mine (EKUp.same hat (ExtM.refl w2).drew) 8 (.inr ⟨rfl,rfl,rfl⟩);have hF:fedI 0 f1 = wrap64 (f1 + 1):=if_pos (.inl rfl);obtain ⟨hx4,Bs4,hat4,hB4⟩:=id hu4;have hrow4:CRow _ _ vo _:=zag hrow hx4 hsep;have hsep4:∀ k,vo.ownBlock = some k -> ¬ Bs4 k:=fun k hk hf=>by
    rcases hB4 k hf with q | q
    . exact hsep k hk q
    . have:=(zaf hrow k hk).2;omega
   go_wp2_with (go_at_call 45;refine (zqe hat4 _ vo _ hrow4 hsep4 (zi8 hI.okA hI.okB) (by have:=zgU lo hi md 1 ⟨rk,rt,rv⟩ st la lb;omega)).mono ?_;rintro e w5 ⟨rfl,hu5⟩);go_ret2;rw [HE.out,hF];obtain ⟨hx5,Bs5,hat5,hB5⟩:=id hu5;refine ⟨vo,rfl,zak (zag hrow4 hu5.1 hsep4) hbs,(EKUp.before hxb (EKUp.before (ExtM.refl _).drew (EKUp.trans hx2 hB2 (EKUp.trans hx4 hB4 hu5)))).1,Bs5,hat5,fun k hk=>?_,fun k hk hf=>?_⟩
   . rcases hB5 k hk with q | q
     . rcases hB4 k q with q | q
       . rcases hB2 k q with q | q
         . exact .inl q
         . exact .inr (Nat.le_trans hbs q)
       . exact .inr (Nat.le_trans hbs (Nat.le_trans hx2.size q))
     . exact .inr (Nat.le_trans hbs (Nat.le_trans hx2.size (Nat.le_trans hx4.size q)))
   . rcases hB5 k hf with q | q
     . exact hsep4 k hk q
     . have:=(zaf hrow4 k hk).2;omega
 . have hnil:zaj lo hi md 1 ⟨rk,rt,rv⟩ st = []:=by unfold zaj;rw [if_neg (by rw [HE.out];exact z0)]
   by_cases z1:e = 10
   . subst z1;have er:errV 10 = .iface 24 (.int .i64 10):=rfl;rw [er];go_upto_region 3 with (go_at_call 44;first | (refine (zcz 10 _ hL3).mono ?_;rintro e w3 ⟨rfl,hx3⟩) | (refine (zcz 10 _ (hL3.of hx3)).mono ?_;rintro e w4 ⟨rfl,hx4⟩))
     have hx24:=ExtM.trans _ _ _ hx3 hx4;have hat4:=hat.ext hx24;clear hx3 hx4;have c7:=hat4.c71;have z7:=hat4.fz 8;have hE3:=hat4.lt _ hat4.mine;refine Plan.bT Plan.Ext [10] 11 ?_;refine Plan.qs 7 [0,1,2,3,4,5,6] ?_;iterate 7 go_big_quiet_step (fail)
     refine Plan.o1 7 fun K hK=>?_;go_wp2_with (fail);refine hK _ _ (ExtM.refl _) ?_;clear hK K;refine Plan.o1 8 fun K hK=>?_;go_wp2_with (fail);refine hK _ _ (ExtM.refl _) ?_;clear hK K;refine Plan.qs 1 [9] ?_;go_big_quiet_step (fail);refine Plan.ol 10 fun K hK=>?_;go_wp2_with (fail);refine Plan.dn ?_;have hu4:=EKUp.fed (x:=wrap64 (f1 + 1)) hat.mine (EKUp.after (EKUp.same hat hx24) (ExtM.refl w4).drew) 8 (.inr ⟨rfl,rfl,rfl⟩);have hF:fedI 10 f1 = wrap64 (f1 + 1):=if_pos (.inr rfl);go_wp2_with fail;go_ret2;rw [HE.out,hF,hnil,er];simp only [List.length_nil,Nat.mul_zero,Nat.add_zero];exact ⟨.slice none 0 0,rfl,nilC _ _,EKUp.vnil (EKUp.before hxb (EKUp.before (ExtM.refl _).drew (EKUp.trans hx2 hB2 hu4)))⟩
   . have er:errV e = .iface 24 (.int .i64 e):=if_neg z0;rw [er];have d0:(e == 0) = false:=by simp [z0]
     have d1:(e == 10) = false:=by simp [z1]
     have hF:fedI e f1 = f1:=if_neg (fun q=>q.elim z0 z1);have HF:=Lib.hid hF;clear hF;go_wp2_with (go_at_call 44;first | (refine (zcz e _ hL3).mono ?_;rintro e w3 ⟨rfl,hx3⟩) | (refine (zcz e _ (hL3.of hx3)).mono ?_;rintro e w4 ⟨rfl,hx4⟩));go_ret2;rw [HE.out,HF.out,hnil,er];simp only [List.length_nil,Nat.mul_zero,Nat.add_zero];exact ⟨.slice none 0 0,rfl,nilC _ _,EKUp.vnil (EKUp.before hxb (EKUp.before (ExtM.refl _).drew (EKUp.trans hx2 hB2 (EKUp.same hat (ExtM.trans _ _ _ hx3 hx4)))))⟩
theorem zrx {u:World} {E:Nat} {Bs:Nat -> Prop} {lo hi md:Int} {st:JSt} {m:Nat} {f0 f1:Int} (h:EKAt u E Bs lo hi md st m f0 f1) (hp:zay lo hi) (la:st.a.length <= 300) (lb:st.b.length <= 300) (hL:Laid u) (hz:¬ Bs 2) (rk rt rv:Int)
 (hl:m < 900000) :
 Calls Tryz.prog 9 #[.pointer (some ⟨E,0,none⟩),.int .i64 1,.agg #[.int .i64 rk,.int .i64 rt,.int .i64 rv]] u fun e u' =>
  ∃ vo,e = .returned (.tuple #[vo,errV (feedE lo hi 1 ⟨rk,rt,rv⟩ st.x st.y (st.of 1).length)]) /\ CRow u' u.heap.size vo (zaj lo hi md 1 ⟨rk,rt,rv⟩ st) /\
    EKUp u u' E Bs lo hi md (zam lo hi 1 ⟨rk,rt,rv⟩ st) (m + 2 * (zaj lo hi md 1 ⟨rk,rt,rv⟩ st).length) f0 (fedI (feedE lo hi 1 ⟨rk,rt,rv⟩ st.x st.y (st.of 1).length) f1) :=
 (zrg h hp la lb hL hz rk rt rv hl).mono fun e u' hh=>by
   obtain ⟨vo,h1,h2,h3⟩:=hh;exact ⟨vo,h1,h2,h3.up⟩
theorem EAt.weak {u:World} {E:Nat} {Bs:Nat -> Prop} {lo hi md:Int} {st:JSt} {V W:List Out} {f0 f1:Int} (h:EAt u E Bs lo hi md st V W f0 f1) {n:Nat} (hV:V.length <= n) (hW:W.length <= n):EKAt u E Bs lo hi md st n f0 f1:=by
 obtain ⟨P,M,v0,v1,D,DG,ents,h,rfl⟩:=h;exact ⟨P,M,v0,v1,D,DG,ents,V,h.weak hV hW,rfl⟩
end Go.Proofs.YtmcgnnmffeojpabGreatDoor
