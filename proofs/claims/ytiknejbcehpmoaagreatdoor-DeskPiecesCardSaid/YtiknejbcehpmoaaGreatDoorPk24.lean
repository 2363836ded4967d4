import Derived.Test.YtiknejbcehpmoaaGreatDoorPk15
import Derived.Test.YtiknejbcehpmoaaGreatDoorPk21
import Derived.Test.YtiknejbcehpmoaaGreatDoorPk23
import Derived.Deep.DeepCutAuto
import Derived.Deep.CutBlock
set_option maxRecDepth 100000
set_option maxHeartbeats 8000000
namespace Go.Proofs.YtiknejbcehpmoaaGreatDoor
open Go.RowKit Go.Plan
theorem zaB.of' {M:Nat -> Prop} {w w':World} {B o:Nat} {D:Option Nat} {l:List Out} (h:zaB w B o D l) (hx:ExtM M w w') (hc:∀ q,(q = o \/ q = o + 1) -> w'.cell? ⟨B,q,none⟩ = w.cell? ⟨B,q,none⟩) (hf:∀ q,w'.frozen? ⟨B,q,none⟩ = w.frozen? ⟨B,q,none⟩) (hD:∀ d,D = some d -> ¬ M d):zaB w' B o D l where
 c0:=(hc o (.inl rfl)).trans h.c0
 c1:=(hc (o + 1) (.inr rfl)).trans h.c1
 f0:=(hf o).trans h.f0
 f1:=(hf (o + 1)).trans h.f1
 ok:=h.ok
 mp:=by
  rcases h.mp with h | ⟨d,m,h1,h2,h3,h4⟩
  . exact .inl h
  . exact .inr ⟨d,m,h1,h2,h3.of hx (hD d h1),h4⟩
theorem za6.of' {M:Nat -> Prop} {w w':World} {G o:Nat} {D:Option Nat} {ents:List Ent} (h:za6 w G o D ents) (hx:ExtM M w w') (hc:w'.cell? ⟨G,o,none⟩ = w.cell? ⟨G,o,none⟩) (hf:w'.frozen? ⟨G,o,none⟩ = w.frozen? ⟨G,o,none⟩) (hM:∀ k,(D = some k \/ ∃ e ∈ ents,fb e k) -> ¬ M k):za6 w' G o D ents where
 c0:=hc.trans h.c0
 f0:=hf.trans h.f0
 mp:=by
  rcases h.mp with h | ⟨d,h1,h2,h3⟩
  . exact .inl h
  . exact .inr ⟨d,h1,h2,h3.of hx (hM d (.inl h1))⟩
 all e he:=(h.all e he).keep fun k hk=>hx.block k ((h.all e he).lt k hk) (hM k (.inr ⟨e,he,hk⟩))
 apart:=h.apart
 away:=h.away
 ok:=h.ok
structure EIs (u:World) (E P M:Nat) (v0 v1:Value) (D DG:Option Nat) (ents:List Ent) (lo hi md:Int) (st:JSt) (V W:List Out) (f0 f1:Int):Prop where
 c0:u.cell? ⟨E,0,none⟩ = some (.int .i64 lo)
 c1:u.cell? ⟨E,1,none⟩ = some (.int .i64 hi)
 c2:u.cell? ⟨E,2,none⟩ = some (.int .i64 md)
 c3:u.cell? ⟨E,3,none⟩ = some (.pointer (some ⟨P,0,none⟩))
 bag:zaB u E 4 D V
 grp:za6 u E 6 DG ents
 rep:za7 ents W
 c7:u.cell? ⟨E,7,none⟩ = some (.int .i64 f0)
 c8:u.cell? ⟨E,8,none⟩ = some (.int .i64 f1)
 fz:∀ q,u.frozen? ⟨E,q,none⟩ = false
 join:JIs u P M v0 v1 lo hi md st
 sJ:∀ k,zaE P M v0 v1 k -> ¬ bagM E D k /\ ¬ grpM E DG ents k
 sB:∀ k,D = some k -> ¬ grpM E DG ents k
 okA:∀ h ∈ st.a,h.r.ok
 okB:∀ h ∈ st.b,h.r.ok
def zeA (E P M:Nat) (v0 v1:Value) (D DG:Option Nat) (ents:List Ent) (k:Nat):Prop:=zaE P M v0 v1 k \/ bagM E D k \/ grpM E DG ents k
section
variable {u u':World} {E P M:Nat} {v0 v1:Value} {D DG:Option Nat} {ents:List Ent} {lo hi md:Int} {st:JSt} {V W:List Out} {f0 f1:Int}
theorem EIs.lt (h:EIs u E P M v0 v1 D DG ents lo hi md st V W f0 f1):E < u.heap.size:=zaG h.c0
theorem EIs.foot (h:EIs u E P M v0 v1 D DG ents lo hi md st V W f0 f1) (k:Nat) (hk:zeA E P M v0 v1 D DG ents k):k < u.heap.size:=by
 rcases hk with hk | hk | hk
 . exact h.join.foot k hk
 . exact h.bag.foot k hk
 . exact h.grp.foot k hk
theorem EIs.keep {F:Nat -> Prop} (h:EIs u E P M v0 v1 D DG ents lo hi md st V W f0 f1) (hx:ExtM F u u') (hF:∀ k,zeA E P M v0 v1 D DG ents k -> ¬ F k):EIs u' E P M v0 v1 D DG ents lo hi md st V W f0 f1:=by
 have hE:¬ F E:=hF E (.inr (.inl (.inl rfl)));have k:=fun o=>hx.cell (p:=⟨E,o,none⟩) h.lt hE;have kf:=fun o=>hx.frozen (p:=⟨E,o,none⟩) h.lt hE
 exact ⟨(k _).trans h.c0,(k _).trans h.c1,(k _).trans h.c2,(k _).trans h.c3,h.bag.of hx hE (fun d hd=>hF d (.inr (.inl (.inr hd)))),h.grp.of hx (fun k hk=>hF k (.inr (.inr hk))),h.rep,(k _).trans h.c7,(k _).trans h.c8,fun q=>(kf q).trans (h.fz q),
  h.join.extM hx (hF _ (.inl (.inl rfl))) (hF _ (.inl (.inr (.inl rfl)))) (fun k hk=>hF k (.inl (.inr (.inr (.inl hk))))) (fun k hk=>hF k (.inl (.inr (.inr (.inr hk))))),h.sJ,h.sB,h.okA,h.okB⟩
theorem EIs.ext (h:EIs u E P M v0 v1 D DG ents lo hi md st V W f0 f1) (hx:Ext u u'):EIs u' E P M v0 v1 D DG ents lo hi md st V W f0 f1:=h.keep hx (fun _ _ h=>h)
end
def EAt (u:World) (E:Nat) (Bs:Nat -> Prop) (lo hi md:Int) (st:JSt) (V W:List Out) (f0 f1:Int):Prop :=
 ∃ P M v0 v1 D DG ents,EIs u E P M v0 v1 D DG ents lo hi md st V W f0 f1 /\ Bs = zeA E P M v0 v1 D DG ents
def EUp (u u':World) (E:Nat) (Bs:Nat -> Prop) (lo hi md:Int) (st:JSt) (V W:List Out) (f0 f1:Int):Prop :=
 ExtM Bs u u' /\ ∃ Bs',EAt u' E Bs' lo hi md st V W f0 f1 /\ ∀ k,Bs' k -> Bs k \/ u.heap.size <= k
section
variable {u u' u'':World} {E:Nat} {Bs:Nat -> Prop} {lo hi md:Int} {st st':JSt} {V W V' W':List Out} {f0 f1 f0' f1':Int}
theorem EAt.lt (h:EAt u E Bs lo hi md st V W f0 f1) (k:Nat) (hk:Bs k):k < u.heap.size:=by
 obtain ⟨P,M,v0,v1,D,DG,ents,h,rfl⟩:=h;exact h.foot k hk
theorem EAt.keep {F:Nat -> Prop} (h:EAt u E Bs lo hi md st V W f0 f1) (hx:ExtM F u u') (hF:∀ k,Bs k -> ¬ F k):EAt u' E Bs lo hi md st V W f0 f1:=by
 obtain ⟨P,M,v0,v1,D,DG,ents,h,rfl⟩:=h;exact ⟨P,M,v0,v1,D,DG,ents,h.keep hx hF,rfl⟩
theorem EAt.ext (h:EAt u E Bs lo hi md st V W f0 f1) (hx:Ext u u'):EAt u' E Bs lo hi md st V W f0 f1:=h.keep hx (fun _ _ h=>h)
theorem EAt.mine (h:EAt u E Bs lo hi md st V W f0 f1):Bs E:=by
 obtain ⟨P,M,v0,v1,D,DG,ents,h,rfl⟩:=h;exact .inr (.inl (.inl rfl))
theorem EUp.same (h:EAt u E Bs lo hi md st V W f0 f1) (hx:Ext u u'):EUp u u' E Bs lo hi md st V W f0 f1 :=
 ⟨hx.mono (fun _ _ h=>h.elim),Bs,h.ext hx,fun _k hk=>.inl hk⟩
theorem EUp.trans {u1:World} {Bs1:Nat -> Prop} (h:ExtM Bs u u1) (hB:∀ k,Bs1 k -> Bs k \/ u.heap.size <= k) (h2:EUp u1 u' E Bs1 lo hi md st V W f0 f1):EUp u u' E Bs lo hi md st V W f0 f1:=by
 obtain ⟨hx,Bs2,ha,hb⟩:=h2;have hs:=h.size;refine ⟨h.fresh' hx (fun k hk e=>(hB k e).resolve_right (by omega)),Bs2,ha,fun k hk=>?_⟩;rcases hb k hk with e | e
 . exact hB k e
 . exact .inr (by omega)
theorem EUp.after (h:EUp u u' E Bs lo hi md st V W f0 f1) (hx:Ext u' u''):EUp u u'' E Bs lo hi md st V W f0 f1:=by
 obtain ⟨j1,j2,j3,j4⟩:=h;exact ⟨j1.fresh' hx (fun _ _ h=>h.elim),j2,j3.ext hx,j4⟩
theorem EUp.before {u0:World} (hx:Ext u u0) (h:EUp u0 u' E Bs lo hi md st V W f0 f1):EUp u u' E Bs lo hi md st V W f0 f1 :=
 EUp.trans (hx.mono (fun _ _ h=>h.elim)) (fun _k hk=>.inl hk) h
def zjp (V:List Out) (c:Out × Bool):List Out:=if c.2 then V.erase c.1 else c.1 :: V
theorem znO (h:EAt u E Bs lo hi md st V W f0 f1) (x:Out) (g:Bool) (hok:x.ok) (hv:g = true -> x ∈ V) (hl:V.length < 1000000) :
 Calls Tryz.prog 207 #[.pointer (some ⟨E,4,none⟩),encC x g] u fun e u'=>e = .returned .nilIface /\ EUp u u' E Bs lo hi md st (zjp V (x,g)) W f0 f1:=by
 obtain ⟨P,M,v0,v1,D,DG,ents,h,rfl⟩:=h;have fin:∀ (u':World) (D':Option Nat) (V':List Out),Grew u D D' -> ExtM (bagM E D) u u' -> zaB u' E 4 D' V' -> zaL E 4 u u' -> EUp u u' E (zeA E P M v0 v1 D DG ents) lo hi md st V' W f0 f1:=fun u' D' V' hg hx hb ho=>by
  have hgf:=fun k hk=>h.grp.foot k hk;have hjf:=fun k hk=>h.join.foot k hk;have hD':∀ k,bagM E D' k -> bagM E D k \/ u.heap.size <= k:=fun k hk=>by
   rcases hg with rfl | ⟨rfl,d,rfl,hd⟩
   . exact .inl hk
   . rcases hk with rfl | hk
     . exact .inl (.inl rfl)
     . obtain rfl:=Option.some.inj hk;exact .inr hd
  refine ⟨hx.mono fun k _ hk=>.inr (.inl hk),_,⟨P,M,v0,v1,D',DG,ents,?_,rfl⟩,fun k hk=>?_⟩
  . refine ⟨(ho.cell 0 (by decide) (by decide)).trans h.c0,(ho.cell 1 (by decide) (by decide)).trans h.c1,(ho.cell 2 (by decide) (by decide)).trans h.c2,(ho.cell 3 (by decide) (by decide)).trans h.c3,hb,
     h.grp.of' hx (ho.cell 6 (by decide) (by decide)) (ho.frz 6) (fun k hk hb=>?_),h.rep,(ho.cell 7 (by decide) (by decide)).trans h.c7,(ho.cell 8 (by decide) (by decide)).trans h.c8,fun q=>(ho.frz q).trans (h.fz q),
     h.join.extM hx (h.sJ P (.inl rfl)).1 (h.sJ M (.inr (.inl rfl))).1 (fun k hk=>(h.sJ k (.inr (.inr (.inl hk)))).1) (fun k hk=>(h.sJ k (.inr (.inr (.inr hk)))).1),fun k hk=>⟨fun e=>?_,(h.sJ k hk).2⟩,fun k hk e=>?_,h.okA,h.okB⟩
    . rcases hb with rfl | hb
      . rcases hk with hk | ⟨e,he,hk⟩
        . rcases h.grp.mp with ⟨h1,-⟩ | ⟨d,h1,h2,-⟩
          . rw [h1] at hk;cases hk
          . rw [h1] at hk;exact h2 (Option.some.inj hk)
        . exact (h.grp.away e he _ hk).1 rfl
      . exact h.sB k hb (.inr hk)
    . rcases hD' k e with e | e
      . exact (h.sJ k hk).1 e
      . have:=hjf k hk;omega
    . rcases hD' k (.inr hk) with e' | e'
      . rcases e' with rfl | e'
        . rcases hb.mp with ⟨h1,-⟩ | ⟨d,m,h1,h2,-⟩
          . rw [h1] at hk;cases hk
          . rw [h1] at hk;exact h2 (Option.some.inj hk)
        . exact h.sB k e' e
      . have:=hgf k e;omega
  . rcases hk with hk | hk | hk
    . exact .inl (.inl hk)
    . rcases hD' k hk with e | e
      . exact .inl (.inr (.inl e))
      . exact .inr e
    . exact .inl (.inr (.inr hk))
 cases g with
 | false =>
   refine (znV E 4 D V x u h.bag hok (by omega)).mono ?_;rintro e u' ⟨he,D',hg,hx,hb,ho⟩;exact ⟨he,fin u' D' _ hg hx hb ho⟩
 | true =>
   refine (zmj E 4 D V x u h.bag (hv rfl) (by omega)).mono ?_;rintro e u' ⟨he,hx,hb,ho⟩;exact ⟨he,fin u' D _ (.inl rfl) hx hb ho⟩
theorem zpf (h:EAt u E Bs lo hi md st V W f0 f1) (x:Out) (g:Bool) (hok:x.ok) (hv:g = true -> x ∈ W) (hl:W.length < 1000000) :
 Calls Tryz.prog 208 #[.pointer (some ⟨E,6,none⟩),encC x g] u fun e u'=>e = .returned .nilIface /\ EUp u u' E Bs lo hi md st V (zjp W (x,g)) f0 f1:=by
 obtain ⟨P,M,v0,v1,D,DG,ents,h,rfl⟩:=h;have fin:∀ (u':World) (DG':Option Nat) (ents':List Ent) (W':List Out),za6 u' E 6 DG' ents' -> za7 ents' W' -> zgk u u' E 6 DG DG' ents ents' -> EUp u u' E (zeA E P M v0 v1 D DG ents) lo hi md st V W' f0 f1:=fun u' DG' ents' W' hg hr ht=>by
  have hbf:=fun k hk=>h.bag.foot k hk;have hjf:=fun k hk=>h.join.foot k hk;have ho:=ht.only;refine ⟨ht.ext.mono fun k _ hk=>.inr (.inr hk),_,⟨P,M,v0,v1,D,DG',ents',?_,rfl⟩,fun k hk=>?_⟩
  . refine ⟨(ho.cell 0 (by decide)).trans h.c0,(ho.cell 1 (by decide)).trans h.c1,(ho.cell 2 (by decide)).trans h.c2,(ho.cell 3 (by decide)).trans h.c3,
     h.bag.of' ht.ext (fun q hq=>ho.cell q (by omega)) ho.frz (fun d hd=>h.sB d hd),hg,hr,(ho.cell 7 (by decide)).trans h.c7,(ho.cell 8 (by decide)).trans h.c8,fun q=>(ho.frz q).trans (h.fz q),
     h.join.extM ht.ext (h.sJ P (.inl rfl)).2 (h.sJ M (.inr (.inl rfl))).2 (fun k hk=>(h.sJ k (.inr (.inr (.inl hk)))).2) (fun k hk=>(h.sJ k (.inr (.inr (.inr hk)))).2),fun k hk=>⟨(h.sJ k hk).1,fun e=>?_⟩,fun k hk e=>?_,h.okA,h.okB⟩
    . rcases ht.foot k e with e | e
      . exact (h.sJ k hk).2 e
      . have:=hjf k hk;omega
    . rcases ht.foot k e with e | e
      . exact h.sB k hk e
      . have:=hbf k (.inr hk);omega
  . rcases hk with hk | hk | hk
    . exact .inl (.inl hk)
    . exact .inl (.inr (.inl hk))
    . rcases ht.foot k hk with e | e
      . exact .inl (.inr (.inr e))
      . exact .inr e
 cases g with
 | false =>
   refine (zo6 E 6 DG ents W x u h.grp h.rep hok hl).mono ?_;rintro e u' ⟨he,D',e',g1,g2,g3⟩;exact ⟨he,fin u' D' e' _ g1 g2 g3⟩
 | true =>
   refine (zof E 6 DG ents W x u h.grp h.rep (hv rfl) hok hl).mono ?_;rintro e u' ⟨he,D',e',g1,g2,g3⟩;exact ⟨he,fin u' D' e' _ g1 g2 g3⟩
theorem znf (h:EAt u E Bs lo hi md st V W f0 f1) (hl:V.length < 1000000) :
 Calls Tryz.prog 138 #[.pointer (some ⟨E,4,none⟩)] u (zh4 u (sortO V)):=by
 obtain ⟨P,M,v0,v1,D,DG,ents,h,rfl⟩:=h;exact zpk E 4 D V u h.bag hl
end
theorem zcd {w:World} {b:Nat} {v:Value} {L:List (Out × Bool)} (h:CRow w b v L) (x:Nat) (X:Out × Bool) (hx:L[x]? = some X) :
 ∃ g cap,v = .slice (some ⟨g,0,none⟩) L.length cap /\ g < w.heap.size /\ ∀ c v,(chgL X)[c]? = some v -> w.cell? ⟨g,x * 10 + c,none⟩ = some v:=by
 obtain ⟨hlt,rfl⟩:=List.getElem?_eq_some_iff.1 hx;obtain ⟨g,cap,rfl,hg,h0,-⟩:=zaJ (enc:=chgL) zfv h x 0 hlt (by omega);refine ⟨g,cap,rfl,hg,fun c v hv=>?_⟩;have hc:c < 10:=by
  have:=(List.getElem?_eq_some_iff.1 hv).1
  rwa [zfv] at this
 obtain ⟨g',cap',e1,-,e2,-⟩:=zaJ (enc:=chgL) zfv h x c hlt hc;simp only [Value.slice.injEq,Option.some.injEq,Addr.mk.injEq,and_true,true_and] at e1;rw [e1.1];exact e2.trans hv
theorem zhu (V:List Out) (c:Out × Bool) (cs:List (Out × Bool)):zaH V (c :: cs) = zaH (zjp V c) cs:=rfl
theorem zlw (V:List Out) (c:Out × Bool):(zjp V c).length <= V.length + 1:=by
 unfold zjp;split
 . exact Nat.le_trans List.length_erase_le (by omega)
 . simp
theorem zc1 {u:World} {E:Nat} {Bs:Nat -> Prop} {lo hi md:Int} {st:JSt} {V:List Out} {f0 f1:Int} (h:EAt u E Bs lo hi md st V V f0 f1) (b:Nat) (vo:Value) (cs:List (Out × Bool)) (hrow:CRow u b vo cs) (hsep:∀ k,vo.ownBlock = some k -> ¬ Bs k)
 (hok:∀ c ∈ cs,c.1.ok) (hv:zb1 V cs) (hl:V.length + cs.length < 1000000) :
 Calls Tryz.prog 175 #[.pointer (some ⟨E,0,none⟩),vo] u fun e u'=>e = .returned (.tuple #[]) /\ EUp u u' E Bs lo hi md st (zaH V cs) (zaH V cs) f0 f1:=by
 obtain ⟨p,cap,rfl,-⟩:=zaa hrow;have hrl:=fun k hk=>(zaf hrow k hk).2;go_enter Tryz.func175,Tryz.ntmps175;go_wp2_with fail;go_loopg [8] (cs.length + 1) (fun kx s8 wr=>∃ (i:Nat) (V':List Out),s8 = .int .i64 i /\ i <= cs.length /\ cs.length - i <= kx /\ EUp u wr E Bs lo hi md st V' V' f0 f1 /\ zb1 V' (cs.drop i) /\ zaH V' (cs.drop i) = zaH V cs /\ V'.length <= V.length + i)
 case atStart=>exact ⟨0,V,rfl,by omega,by omega,EUp.same h (ExtM.refl _),hv,rfl,by omega⟩
 case round =>
  obtain ⟨i,V',rfl,hi,hgk,hup,hv',hav,hlen⟩:=hrel;have HV:=Lib.hid hv';have HA:=Lib.hid hav;clear hv' hav;by_cases hil:i < cs.length
  . have hdr:cs.drop i = cs[i] :: cs.drop (i + 1):=List.drop_eq_getElem_cons hil;obtain ⟨hx,Bs1,hat,hB1⟩:=id hup;have hrow1:CRow wr b _ cs:=zag hrow hx (fun k hk=>hsep k hk);obtain ⟨g,rc,e1,hg,hc⟩:=zcd hrow1 i cs[i] (List.getElem?_eq_getElem hil);simp only [Value.slice.injEq,true_and] at e1;obtain ⟨rfl,rfl⟩:=e1;have hck:=hok _ (List.getElem_mem hil);have HDR:=Lib.hid hdr;clear hdr;generalize cs[i] = c at *;obtain ⟨x,gg⟩:=c;have y0:=hc 0 _ rfl;have y1:=hc 1 _ rfl;have y2:=hc 2 _ rfl;have y3:=hc 3 _ rfl;have y4:=hc 4 _ rfl;have y5:=hc 5 _ rfl;have y6:=hc 6 _ rfl;have y7:=hc 7 _ rfl;have y8:=hc 8 _ rfl;have y9:=hc 9 _ rfl;simp only [Nat.add_zero] at y0 y1 y2 y3 y4 y5 y6 y7 y8 y9;have hvc:=HV.out;rw [HDR.out] at hvc;have HVC:=Lib.hid hvc;clear hc hvc;go_upto_region 3 with fail;have bx:=BoxC.mk' wr x gg 96;have hxa:Ext wr (wr.alloc (.cells #[.int .i64 x.key,.int .i64 x.l.k,.int .i64 x.l.t,.int .i64 x.l.v,.int .i64 x.r.k,.int .i64 x.r.t,.int .i64 x.r.v,.bool x.hl,.bool x.hr,.bool gg] 96)):=(ExtM.refl _).alloc _;have hat2:=hat.ext hxa;have hnB:¬ Bs1 wr.heap.size:=fun e=>by have:=hat.lt _ e;omega
    have hup2:=EUp.after hup hxa;clear y0 y1 y2 y3 y4 y5 y6 y7 y8 y9 hup hat hxa hrow1;generalize wr.alloc (.cells #[.int .i64 x.key,.int .i64 x.l.k,.int .i64 x.l.t,.int .i64 x.l.v,.int .i64 x.r.k,.int .i64 x.r.t,.int .i64 x.r.v,.bool x.hl,.bool x.hr,.bool gg] 96) = w1 at *;generalize wr.heap.size = n at *;have hlE:=hat2.lt _ hat2.mine;have hln:n < w1.heap.size:=zac bx.e0;have hl1:V'.length < 1000000:=by omega
    obtain ⟨e0,e1,e2,e3,e4,e5,e6,e7,e8,e9⟩:=id bx;refine Plan.bT Plan.Ext [4] 5 ?_;refine Plan.qs 1 [3] ?_;go_big_quiet_step (fail);refine Plan.o1 0 fun K hK=>?_;go_wp2_with (fail);refine hK _ _ (ExtM.refl _) ?_;clear hK K;refine Plan.o1 1 fun K hK=>?_;go_wp2_with (fail);refine hK _ _ (ExtM.refl _) ?_;clear hK K;refine Plan.qs 1 [2] ?_;go_big_quiet_step (fail);refine Plan.ol 4 fun K hK=>?_;go_wp2_with (fail);refine (znO (hat2.ext (ExtM.refl _).drew) x gg hck (fun hg=>HVC.out.1 hg) hl1).mono ?_;rintro e w2 ⟨rfl,hu2⟩;go_wp2_with (fail);refine Plan.dn ?_;have hu2':=EUp.before ((ExtM.refl w1).drew) hu2;clear hu2 e0 e1 e2 e3 e4 e5 e6 e7 e8 e9 hlE;obtain ⟨hx2,Bs2,hat3,hB2⟩:=id hu2';have bx2:=bx.of hx2 hnB;have hlE:=hat3.lt _ hat3.mine;have hln2:n < w2.heap.size:=zac bx2.e0;obtain ⟨e0,e1,e2,e3,e4,e5,e6,e7,e8,e9⟩:=id bx2;go_wp2_with fail;refine Plan.bT Plan.Ext [4] 5 ?_;refine Plan.qs 1 [3] ?_;go_big_quiet_step (fail);refine Plan.o1 0 fun K hK=>?_;go_wp2_with (fail);refine hK _ _ (ExtM.refl _) ?_;clear hK K;refine Plan.o1 1 fun K hK=>?_;go_wp2_with (fail);refine hK _ _ (ExtM.refl _) ?_;clear hK K;refine Plan.qs 1 [2] ?_;go_big_quiet_step (fail);refine Plan.ol 4 fun K hK=>?_;go_wp2_with (fail);refine (zpf (hat3.ext (ExtM.refl _).drew) x gg hck (fun hg=>HVC.out.1 hg) hl1).mono ?_;rintro e w4 ⟨rfl,hu4⟩;go_wp2_with (fail);refine Plan.dn ?_;have hu4':=EUp.before ((ExtM.refl w2).drew) hu4;have hfin:=EUp.trans hup2.1 hB1 (EUp.trans hx2 hB2 hu4');have HF:=Lib.hid hfin;clear hu4 hfin hu4' hu2' e0 e1 e2 e3 e4 e5 e6 e7 e8 e9 hlE;go_wp2_with fail;go_roundg (cs.length - (i + 1))
    case measure=>omega
    case rel =>
     have hav:=HA.out;rw [HDR.out,zhu] at hav;refine ⟨i + 1,zjp V' (x,gg),by go_num,by omega,Nat.le_refl _,HF.out,HVC.out.2,hav,?_⟩
     have:=zlw V' (x,gg)
     omega
  . obtain rfl:i = cs.length:=by omega
    have hz:decide (cs.length < cs.length) = false:=by simp
    go_wp2_with fail;go_end0
    have:=HA.out
    rw [List.drop_length] at this;refine ⟨rfl,?_⟩;rw [<- this];exact hup
theorem zog (u:World) (P M:Nat) (v0 v1:Value) (lo hi md:Int) (st:JSt) (rk rt rv:Int) (h:JIs u P M v0 v1 lo hi md st) (hp:zay lo hi) (hl0:st.a.length <= 300) (hl1:st.b.length <= 300) :
 Calls Tryz.prog 174 #[.pointer (some ⟨P,0,none⟩),.int .i64 0,.agg #[.int .i64 rk,.int .i64 rt,.int .i64 rv]] u (zbG u P M v0 v1 lo hi md 0 ⟨rk,rt,rv⟩ st):=by
 have hxb:Ext u (u.alloc (.cells #[.int .i64 rk,.int .i64 rt,.int .i64 rv] 92)):=(ExtM.refl u).alloc _;have lP:=h.lt;have hgd:=fun w=>zdq rk rt rv w;cases hg:za3 rk rt rv with
 | false =>
   rw [hg] at hgd;go_enter Tryz.func174,Tryz.ntmps174;go_wp2_with (go_at_call 199;refine (hgd _).mono ?_;rintro e w1 ⟨rfl,hx1⟩);go_ret2;exact zdM h (ExtM.trans _ _ _ hxb hx1) 1 (by unfold feedE;rw [if_pos hg]) (by decide) (by decide)
 | true =>
   rw [hg] at hgd;have hb1:(u.alloc (.cells #[.int .i64 rk,.int .i64 rt,.int .i64 rv] 92)).cell? ⟨u.heap.size,1,none⟩ = some (.int .i64 rt):=by go_simp
   have hb0:(u.alloc (.cells #[.int .i64 rk,.int .i64 rt,.int .i64 rv] 92)).cell? ⟨u.heap.size,0,none⟩ = some (.int .i64 rk):=by go_simp
   have hb2:(u.alloc (.cells #[.int .i64 rk,.int .i64 rt,.int .i64 rv] 92)).cell? ⟨u.heap.size,2,none⟩ = some (.int .i64 rv):=by go_simp
   have lB:u.heap.size < (u.alloc (.cells #[.int .i64 rk,.int .i64 rt,.int .i64 rv] 92)).heap.size:=by simp
   go_enter Tryz.func174,Tryz.ntmps174;go_wp2_with (go_at_call 199;refine (hgd _).mono ?_;rintro e w1 ⟨rfl,hx1⟩);have hX1:=ExtM.trans _ _ _ hxb hx1;have h1:=h.ext hX1;have k:=fun q=>hx1.cell (p:=⟨u.heap.size,q,none⟩) lB (fun h=>h);have e0:=(k _).trans hb0;have e1:=(k _).trans hb1;have e2:=(k _).trans hb2;have lB1:u.heap.size < w1.heap.size:=Nat.lt_of_lt_of_le lB hx1.size;have lP1:=h1.lt;have c5:=h1.c5;have c6:=h1.c6;have f6:=h1.f6;clear k hb0 hb1 hb2 lB hxb hx1;by_cases hlate:rt <= st.x
   . have hE:feedE lo hi 0 ⟨rk,rt,rv⟩ st.x st.y (st.of 0).length = 10:=by rw [zcM hg,if_pos hlate]
     refine Plan.b0 Plan.Ext 9 ?_;refine Plan.qs 7 [0,1,2,3,4,5,6] ?_;iterate 7 go_big_quiet_step (fail)
     refine Plan.o1 7 fun K hK=>?_;go_wp2_with (fail);refine (zfu M 0 rt st.x st.y true _ (h1.mks.ofE (ExtM.refl _).drew) (by simp [ofI,hlate])).mono ?_;rintro e w1 ⟨rfl,h1⟩;have H1:=ExtM.trans _ _ _ (ExtM.refl _).drew h1;obtain ⟨hc1,hf1,-⟩:=Ext.rules H1;have hs1_0:P < w1.heap.size:=by have:=H1.size;(try simp at this);omega
     have hs1_1:u.heap.size < w1.heap.size:=by have:=H1.size;(try simp at this);omega
     go_wp2_with (fail);refine hK _ _ h1 ?_;clear hK K;refine Plan.qs 1 [8] ?_;go_big_quiet_step (fail);refine Plan.dn ?_;have c6':=(hc1 _ _ lP1).trans c6;have f6':=(hf1 _ _ lP1).trans f6;clear hc1 hf1;go_wp2_with fail;go_ret2;exact zgb h (ExtM.trans _ _ _ hX1 H1) hE
   . have ht:=zcr hg;refine Plan.b0 Plan.Ext 9 ?_;refine Plan.qs 7 [0,1,2,3,4,5,6] ?_;iterate 7 go_big_quiet_step (fail)
     refine Plan.o1 7 fun K hK=>?_;go_wp2_with (fail);refine (zfu M 0 rt st.x st.y false _ (h1.mks.ofE (ExtM.refl _).drew) (by simp [ofI];omega)).mono ?_;rintro e w2 ⟨rfl,h2⟩;have H2:=ExtM.trans _ _ _ (ExtM.refl _).drew h2;obtain ⟨hc2,hf2,-⟩:=Ext.rules H2;have hs2_0:P < w2.heap.size:=by have:=H2.size;(try simp at this);omega
     have hs2_1:u.heap.size < w2.heap.size:=by have:=H2.size;(try simp at this);omega
     go_wp2_with (fail);refine hK _ _ h2 ?_;clear hK K;refine Plan.qs 1 [8] ?_;go_big_quiet_step (fail);refine Plan.dn ?_;have hX2:=ExtM.trans _ _ _ hX1 H2;have h2:=h1.ext H2;have k:=fun q=>hc2 u.heap.size q lB1;have a0:=(k _).trans e0;have a1:=(k _).trans e1;have a2:=(k _).trans e2;have lB2:=hs2_1;have lP2:=h2.lt;have c5':=h2.c5;clear k hc2 hf2 e0 e1 e2 c5 c6 f6
     go_upto_region 8 with (first
      | (go_at_call 201
         refine (zns P lo hi rt 0 _ (by omega) hp ht h2.c0 h2.c1).mono ?_;rintro e w3 ⟨rfl,hx3⟩
         have c53:=(h2.ext hx3).c5)
      | (go_at_call 178
         refine (zpw M 1 st.x st.y st.y _ (h2.ext hx3).mks rfl).mono ?_
         rintro e w4 ⟨rfl,rfl⟩))
     have hX3:=ExtM.trans _ _ _ hX2 hx3;have h3:=h2.ext hx3;have k:=fun q=>hx3.cell (p:=⟨u.heap.size,q,none⟩) lB2 (fun h=>h);have b0:=(k _).trans a0;have b1:=(k _).trans a1;have b2:=(k _).trans a2;have lB3:u.heap.size < w3.heap.size:=Nat.lt_of_lt_of_le lB2 hx3.size;have lP3:=h3.lt;have nB:∀ k,zaE P M v0 v1 k -> k ≠ u.heap.size:=fun k hk=>by have:=h.foot k hk;omega
     clear k a0 a1 a2 c5' c53 lB2 lP2 lB1 lP1 hX1 hX2 h2 H2 hx3 h1 hs2_0 hs2_1;generalize hT:tilI lo hi 0 rt = T at *;generalize hF:frI lo hi 0 rt = F at *;generalize hbE:decide (st.y < T) = hb at *;have HT:=Lib.hid hT;have HF:=Lib.hid hF;have HBE:=Lib.hid hbE;have HG:=Lib.hid hg;have HLA:=Lib.hid hlate;clear hT hF hbE hg hlate;have hm:=zia P 3 v0 st.a _ h3.s0;go_cut [71] (fun s71 wx=>s71 = .bool (hb && decide ((300:Int) <= (st.a.length:Int))) /\ wx = w3)
     case first =>
      cases hb
      . go_wp2_with fail;go_meet
        case rel=>exact ⟨by simp,rfl⟩
      . go_wp2_with (go_at_call 173;refine hm.mono ?_;rintro e w' ⟨rfl,rfl⟩);go_meet
        case rel=>exact ⟨by simp,rfl⟩
     case rest =>
      obtain ⟨rfl,rfl⟩:=hcut;cases hfull:(hb && decide ((300:Int) <= (st.a.length:Int))) with
      | true =>
        have hE:feedE lo hi 0 ⟨rk,rt,rv⟩ st.x st.y (st.of 0).length = 12:=by
         simp only [Bool.and_eq_true,decide_eq_true_eq] at hfull;have h1:=HBE.out;rw [hfull.1] at h1;have h2:st.y < T:=by simpa using h1
         rw [zcM HG.out,if_neg (by have:=HLA.out;omega),HT.out,if_pos];exact ⟨h2,by show 300 <= st.a.length;omega⟩
        go_wp2_with fail;go_ret2;exact zdM h hX3 12 hE (by decide) (by decide)
      | false =>
        have hE:feedE lo hi 0 ⟨rk,rt,rv⟩ st.x st.y (st.of 0).length = 0:=by
         rw [zcM HG.out,if_neg (by have:=HLA.out;omega),HT.out,if_neg];rintro ⟨h1,h2⟩;have h3:=HBE.out;have h2':300 <= st.a.length:=h2;rw [<- h3] at hfull;simp only [Bool.and_eq_false_iff,decide_eq_false_iff_not] at hfull;omega
        have nb1:v1.ownBlock ≠ some u.heap.size:=fun e=>nB _ (.inr (.inr (.inr e))) rfl;have nb0:v0.ownBlock ≠ some u.heap.size:=fun e=>nB _ (.inr (.inr (.inl e))) rfl;have HFU:=Lib.hid hfull;have HE:=Lib.hid hE;clear hfull hE;go_wp2_with fail;refine Plan.b0 (Plan.ExtK u.heap.size) 12 ?_;refine Plan.qs 10 [0,1,2,3,4,5,6,7,8,9] ?_;iterate 10 go_big_quiet_step (fail)
        refine Plan.o1 10 fun K hK=>?_;go_wp2_with (fail);refine (zka u.heap.size P 4 v1 st.b rk F T _ (h3.s1.ext (ExtM.refl _).drew) (by omega) nb1).mono ?_;rintro e w5 ⟨vo,rfl,hmr,hS,hxo,h5⟩;have H5:=ExtK.trans _ _ _ (ExtK.refl _).drew h5;obtain ⟨hc5,hf5,-⟩:=ExtK.rules H5;have hs5_0:u.heap.size < w5.heap.size:=by have:=H5.size;(try simp at this);omega
        go_wp2_with (fail);refine hK _ _ h5 ?_;clear hK K;refine Plan.qs 1 [11] ?_;go_big_quiet_step (fail);refine Plan.dn ?_;have hxo:ExtM (fun k=>v1.ownBlock = some k) wc w5:=⟨hxo.os,hxo.tape,hxo.output,hxo.size,hxo.block⟩
        have h5:=h3.met1 hS hxo;have hXo:ExtM (zaE P M v0 v1) u w5:=(hX3.mono (fun _ _ h=>h.elim):ExtM (zaE P M v0 v1) u wc).fresh' hxo (fun k _ hk=>.inr (.inr (.inr hk)));have k:=fun q=>hc5 q lB3;have b0':=(k _).trans b0;have b1':=(k _).trans b1;have b2':=(k _).trans b2;clear k hc5 hf5 b0 b1 b2 hm h3 hS hxo H5;have lB5:=hs5_0;have lP5:=h5.lt;have hmd:=h5.c2;obtain ⟨pm,cm,rfl,-⟩:=zaa hmr;have hmle:(st.b.filter (zab rk F T)).length <= 300:=Nat.le_trans (List.length_filter_le _ _) hl1;generalize hms:st.b.filter (zab rk F T) = ms at *;have HMS:=Lib.hid hms;clear hms;go_wp2_with fail;go_loopg [11,86] (ms.length + 1) (fun kx s11 s86 wr=>∃ i:Nat,s86 = .int .i64 i /\ i <= ms.length /\ ms.length - i <= kx /\ Ext w5 wr /\ CRow wr w5.heap.size s11 ((ms.take i).flatMap (chg1 md 0 ⟨rk,rt,rv⟩)))
        case atStart=>exact ⟨0,rfl,by omega,by omega,ExtM.refl _,nilC _ _⟩
        case round =>
         obtain ⟨i,rfl,hin,hgk,hx,hrow⟩:=hrel;by_cases hil:i < ms.length
         . skip;obtain ⟨g,mc,e',hgl,y0,y1,y2,y3⟩:=zc9 (zag hmr hx (fun _ _ h=>h):MRow wr _ _ _) i ms[i] (List.getElem?_eq_getElem hil);simp only [Value.slice.injEq,true_and] at e';obtain ⟨rfl,rfl⟩:=e';have HTK:=Lib.hid (List.take_succ_eq_append_getElem hil);have hfl:=zaK md 0 ⟨rk,rt,rv⟩ (ms.take i);rw [List.length_take] at hfl;generalize ms[i] = m at *;have k:=fun q=>hx.cell (p:=⟨u.heap.size,q,none⟩) lB5 (fun h=>h);have b0:=(k _).trans b0';have b1:=(k _).trans b1';have b2:=(k _).trans b2';have lB6:u.heap.size < wr.heap.size:=Nat.lt_of_lt_of_le lB5 hx.size;have hmd':=(hx.cell (p:=⟨P,2,none⟩) lP5 (fun h=>h)).trans hmd;have lP6:P < wr.heap.size:=Nat.lt_of_lt_of_le lP5 hx.size;clear k;go_upto_region 15 with fail;have hxm:Ext wr (wr.alloc (.cells #[.int .i64 m.r.k,.int .i64 m.r.t,.int .i64 m.r.v,.int .i64 m.m] 221)):=(ExtM.refl wr).alloc _;have n0:(wr.alloc (.cells #[.int .i64 m.r.k,.int .i64 m.r.t,.int .i64 m.r.v,.int .i64 m.m] 221)).cell? ⟨wr.heap.size,0,none⟩ = some (.int .i64 m.r.k):=by go_simp
           have n1:(wr.alloc (.cells #[.int .i64 m.r.k,.int .i64 m.r.t,.int .i64 m.r.v,.int .i64 m.m] 221)).cell? ⟨wr.heap.size,1,none⟩ = some (.int .i64 m.r.t):=by go_simp
           have n2:(wr.alloc (.cells #[.int .i64 m.r.k,.int .i64 m.r.t,.int .i64 m.r.v,.int .i64 m.m] 221)).cell? ⟨wr.heap.size,2,none⟩ = some (.int .i64 m.r.v):=by go_simp
           have n3:(wr.alloc (.cells #[.int .i64 m.r.k,.int .i64 m.r.t,.int .i64 m.r.v,.int .i64 m.m] 221)).cell? ⟨wr.heap.size,3,none⟩ = some (.int .i64 m.m):=by go_simp
           have lm:wr.heap.size < (wr.alloc (.cells #[.int .i64 m.r.k,.int .i64 m.r.t,.int .i64 m.r.v,.int .i64 m.m] 221)).heap.size:=by simp
           have hxw:Ext w5 (wr.alloc (.cells #[.int .i64 m.r.k,.int .i64 m.r.t,.int .i64 m.r.v,.int .i64 m.m] 221)):=ExtM.trans _ _ _ hx hxm;have k:=fun q=>hxm.cell (p:=⟨u.heap.size,q,none⟩) lB6 (fun h=>h);have B0:=(k _).trans b0;have B1:=(k _).trans b1;have B2:=(k _).trans b2;have hmdm:=(hxm.cell (p:=⟨P,2,none⟩) lP6 (fun h=>h)).trans hmd';have hrowm:=hrow.of hxm;have lBm:u.heap.size < (wr.alloc (.cells #[.int .i64 m.r.k,.int .i64 m.r.t,.int .i64 m.r.v,.int .i64 m.m] 221)).heap.size:=Nat.lt_of_lt_of_le lB6 hxm.size;clear k b0 b1 b2 hmd' hxm y0 y1 y2 y3;generalize wr.alloc (.cells #[.int .i64 m.r.k,.int .i64 m.r.t,.int .i64 m.r.v,.int .i64 m.m] 221) = Wm at *;have hsw:w5.heap.size <= wr.heap.size:=hx.size;have hge:∀ k,u11.ownBlock = some k -> w5.heap.size <= k /\ k ≠ wr.heap.size:=fun k hk=>⟨(zaf hrow k hk).1,by have:=(zaf hrow k hk).2;omega⟩
           clear hrow;generalize wr.heap.size = Bm at *;go_cut [98] (fun s98 wx=>s98 = .bool (decide (m.m = 0) && zai md 1) /\ wx = Wm)
           case first =>
            by_cases hm0:m.m = 0
            . have d0:(m.m == 0) = true:=by simp [hm0]
              have HM0:=Lib.hid hm0;clear hm0;go_wp2_with (go_at_call 203;refine (zi4 P md _ hmdm).mono ?_;rintro e w' ⟨rfl,rfl⟩);go_meet
              case rel=>exact ⟨by simp [HM0.out],rfl⟩
            . have d0:(m.m == 0) = false:=by simp [hm0]
              have HM0:=Lib.hid hm0;clear hm0;go_wp2_with fail;go_meet
              case rel=>exact ⟨by simp [HM0.out],rfl⟩
           case rest =>
            obtain ⟨rfl,rfl⟩:=hcut;generalize hq:(decide (m.m = 0) && zai md 1) = q at *;have HQ:=Lib.hid hq;clear hq;go_upto_if 98 with fail;go_cut [11] (fun s11 wx=>ExtM (fun k=>w5.heap.size <= k /\ k ≠ Bm) wc wx /\ CRow wx w5.heap.size s11 ((ms.take i).flatMap (chg1 md 0 ⟨rk,rt,rv⟩) ++ (if q = true then [(zan 1 m.r,true)] else [])))
            case first =>
             cases q
             . go_wp2_with fail;go_meet
               case rel=>exact ⟨ExtM.refl _,by simpa using hrowm⟩
             . go_wp2_with (first
                | (go_at_call 204
                   refine (zfN _ _ _ _).mono ?_;rintro e w6 ⟨rfl,hx6⟩;have hl6:((ms.take i).flatMap (chg1 md 0 ⟨rk,rt,rv⟩)).length < 1000000:=by omega
                   obtain ⟨v',w',happ,hown',hgr',-⟩:=zat (w6.alloc (.cells #[.int .i64 m.r.k,.int .i64 0,.int .i64 0,.int .i64 0,.int .i64 m.r.k,.int .i64 m.r.t,.int .i64 m.r.v,.bool false,.bool true,.bool true] 96)) w5.heap.size w6.heap.size 1 u11 _ (zan 1 m.r,true) 88 (hrowm.of (hx6.alloc _)) (zdD w6 (zan 1 m.r,true)) hl6 (by have:=hx6.size;have:=hxw.size;simp;omega)
                   have HG':=Lib.hid (ExtM.fresh' ((hx6.alloc _).mono (fun _ _ h=>h.elim):ExtM (fun k=>w5.heap.size <= k /\ k ≠ Bm) _ _) hgr' (fun k hk e=>hge k e)))
                | (at_builtin;refine wpList_append_run happ rfl rfl _ _ rfl rfl rfl ?_;clear happ))
               go_meet
               case rel=>exact ⟨HG'.out,hown'⟩
            case rest =>
             obtain ⟨hxc,hrowc⟩:=hcut;have k:=fun q=>hxc.cell (p:=⟨u.heap.size,q,none⟩) lBm (fun h=>by have:=h.1;simp at this;omega);have C0:=(k _).trans B0;have C1:=(k _).trans B1;have C2:=(k _).trans B2;have k2:=fun q=>hxc.cell (p:=⟨Bm,q,none⟩) lm (fun h=>h.2 rfl);have N0:=(k2 _).trans n0;have N1:=(k2 _).trans n1;have N2:=(k2 _).trans n2;have hxw2:Ext w5 _:=hxw.fresh hxc (fun k hk e=>by omega);clear k k2 B0 B1 B2 n0 n1 n2 n3 hxc;have HXW:=Lib.hid hxw2;clear hxw2
             go_wp2_with (first
              | (go_at_call 205
                 refine (zkN _ _ _ _ _ _ _).mono ?_;rintro e w7 ⟨rfl,hx7⟩;have hl7:((ms.take i).flatMap (chg1 md 0 ⟨rk,rt,rv⟩) ++ (if q = true then [(zan 1 m.r,true)] else [])).length < 1000000:=by
                  rw [List.length_append];have:(if q = true then [(zan 1 m.r,true)] else []:List (Out × Bool)).length <= 1:=by split <;> simp
                  omega
                 obtain ⟨v',w',happ,hown',hgr',-⟩:=zat (w7.alloc (.cells #[.int .i64 rk,.int .i64 rk,.int .i64 rt,.int .i64 rv,.int .i64 m.r.k,.int .i64 m.r.t,.int .i64 m.r.v,.bool true,.bool true,.bool false] 96)) w5.heap.size w7.heap.size 1 _ _ (zbs ⟨rk,rt,rv⟩ m.r,false) 88 (hrowc.of (hx7.alloc _)) (zdD w7 (zbs ⟨rk,rt,rv⟩ m.r,false)) hl7 (by have:=hx7.size;have:=HXW.out.size;simp;omega)
                 have HG':=Lib.hid (ExtM.fresh' ((hx7.alloc _).mono (fun _ _ h=>h.elim):ExtM (fun k=>w5.heap.size <= k) _ _) hgr' (fun k hk e=>(zaf hrowc k e).1)))
              | (at_builtin;refine wpList_append_run happ rfl rfl _ _ rfl rfl rfl ?_;clear happ))
             go_roundg (ms.length - (i + 1))
             case measure=>omega
             case rel =>
              refine ⟨i + 1,by simp,by omega,by omega,HXW.out.fresh' HG'.out (fun k hk e=>by omega),?_⟩;rw [HTK.out,List.flatMap_append,List.flatMap_cons,List.flatMap_nil,List.append_nil,zf6,HQ.out,<- List.append_assoc];exact hown'
         . have hie:i = ms.length:=by omega
           subst hie;have hrow':=hrow;rw [List.take_length] at hrow';have k:=fun q=>hx.cell (p:=⟨u.heap.size,q,none⟩) lB5 (fun h=>h);have b0:=(k _).trans b0';have b1:=(k _).trans b1';have b2:=(k _).trans b2';have lB6:u.heap.size < wr.heap.size:=Nat.lt_of_lt_of_le lB5 hx.size;have hmd':=(hx.cell (p:=⟨P,2,none⟩) lP5 (fun h=>h)).trans hmd;have lP6:P < wr.heap.size:=Nat.lt_of_lt_of_le lP5 hx.size;have h6:=h5.ext hx;clear k hrow hgk hin hil;go_upto_region 21 with fail;go_cut [134] (fun s134 wx=>s134 = .bool (decide (ms.length = 0) && zai md 0) /\ wx = wr)
           case first =>
            by_cases hm0:ms.length = 0
            . have d0:((ms.length:Int) == 0) = true:=by simp [hm0]
              have HM0:=Lib.hid hm0;clear hm0;go_wp2_with (go_at_call 203;refine (zhL P md _ hmd').mono ?_;rintro e w' ⟨rfl,rfl⟩);go_meet
              case rel=>exact ⟨by simp [HM0.out],rfl⟩
            . have d0:((ms.length:Int) == 0) = false:=by simp [hm0]
              have HM0:=Lib.hid hm0;clear hm0;go_wp2_with fail;go_meet
              case rel=>exact ⟨by simp [HM0.out],rfl⟩
           case rest =>
            obtain ⟨rfl,rfl⟩:=hcut;generalize hq:(decide (ms.length = 0) && zai md 0) = q at *;have HQ:=Lib.hid hq;clear hq;go_upto_if 134 with fail;go_cut [11] (fun s11 wx=>ExtM (fun k=>w5.heap.size <= k) wc wx /\ Ext w5 wx /\ CRow wx w5.heap.size s11 (chgs md 0 ⟨rk,rt,rv⟩ ms))
            case first =>
             cases q
             . go_wp2_with fail;go_meet
               case rel =>
                refine ⟨ExtM.refl _,hx,?_⟩;rw [zbD,HQ.out,if_neg (by decide),List.append_nil];exact hrow'
             . go_wp2_with (first
                | (go_at_call 204
                   refine (zfk _ _ _ _).mono ?_;rintro e w6 ⟨rfl,hx6⟩;have hl6:(ms.flatMap (chg1 md 0 ⟨rk,rt,rv⟩)).length < 1000000:=by
                    have:=zaK md 0 ⟨rk,rt,rv⟩ ms
                    omega
                   obtain ⟨v',w',happ,hown',hgr',-⟩:=zat (w6.alloc (.cells #[.int .i64 rk,.int .i64 rk,.int .i64 rt,.int .i64 rv,.int .i64 0,.int .i64 0,.int .i64 0,.bool true,.bool false,.bool false] 96)) w5.heap.size w6.heap.size 1 _ _ (zan 0 ⟨rk,rt,rv⟩,false) 88 (hrow'.of (hx6.alloc _)) (zdD w6 (zan 0 ⟨rk,rt,rv⟩,false)) hl6 (by have:=hx6.size;have:=hx.size;simp;omega)
                   have HG':=Lib.hid (ExtM.fresh' ((hx6.alloc _).mono (fun _ _ h=>h.elim):ExtM (fun k=>w5.heap.size <= k) _ _) hgr' (fun k hk e=>(zaf hrow' k e).1)))
                | (at_builtin;refine wpList_append_run happ rfl rfl _ _ rfl rfl rfl ?_;clear happ))
               go_meet
               case rel =>
                refine ⟨HG'.out,hx.fresh' HG'.out (fun k hk e=>by omega),?_⟩;rw [zbD,HQ.out,if_pos rfl];exact hown'
            case rest =>
             obtain ⟨hxc,hxt,hrowt⟩:=hcut;have k:=fun q=>hxc.cell (p:=⟨u.heap.size,q,none⟩) lB6 (fun h=>by have h':w5.heap.size <= u.heap.size:=h;omega);have C0:=(k _).trans b0;have C1:=(k _).trans b1;have C2:=(k _).trans b2;have h7:=h5.ext hxt;clear k b0 b1 b2 hxc hmd' h6;go_upto_region 23 with fail;cases hb with
             | false =>
               go_wp2_with fail;go_ret2;have e1:=HT.out;have e2:=HF.out;have e3:=HBE.out;subst e1 e2;exact zlZ HE.out (by simpa using e3) HMS.out hXo hxt h7 hrowt
             | true =>
               have hne:P ≠ u.heap.size:=by omega
               have lB7:u.heap.size < wc.heap.size:=Nat.lt_of_lt_of_le lB5 hxt.size;go_wp2_with fail;refine Plan.b0 (Plan.ExtK u.heap.size) 9 ?_;refine Plan.qs 8 [0,1,2,3,4,5,6,7] ?_;iterate 8 go_big_quiet_step (fail)
               refine Plan.o1 8 fun K hK=>?_;go_wp2_with (fail);refine (zi1 u.heap.size P 3 v0 st.a ⟨⟨rk,rt,rv⟩,((ms.length:Nat):Int)⟩ _ (h7.s0.ext (ExtM.refl _).drew) nb0 hne).mono ?_;rintro e w8 ⟨rfl,h8,hu⟩;have H8:=ExtK.trans _ _ _ (ExtK.refl _).drew h8;obtain ⟨hc8,hf8,-⟩:=ExtK.rules H8;have hs8_0:u.heap.size < w8.heap.size:=by have:=H8.size;(try simp at this);omega
               go_wp2_with (fail);refine hK _ _ h8 ?_;clear hK K;refine Plan.dn ?_;go_wp2_with fail;go_ret2;have e1:=HT.out;have e2:=HF.out;have e3:=HBE.out;subst e1 e2;exact zj8 HE.out (by simpa using e3) HMS.out HG.out h hXo hxt.drew (h7.ext (ExtM.refl _).drew) (hrowt.of (ExtM.refl _).drew) hu (ExtM.refl _)
end Go.Proofs.YtiknejbcehpmoaaGreatDoor
namespace Go.Plan
def ExtL (B C:Nat) (w w':World):Prop:=ExtM (fun k=>¬ (k = B \/ k = C)) w w'
theorem ExtL.refl {B C:Nat} (w:World):ExtL B C w w:=ExtM.refl w
theorem ExtL.trans {B C:Nat} (a b c:World) (h:ExtL B C a b) (k:ExtL B C b c):ExtL B C a c:=ExtM.trans _ _ _ h k
instance {B C:Nat}:Std.Refl (ExtL B C):=⟨ExtL.refl⟩
instance {B C:Nat}:Trans (ExtL B C) (ExtL B C) (ExtL B C):=⟨fun h k=>ExtL.trans _ _ _ h k⟩
theorem ExtL.of_M {M:Nat -> Prop} {B C:Nat} {w w':World} (hB:¬ M B) (hC:¬ M C) (h:ExtM M w w'):ExtL B C w w':=ExtM.mono h (fun _ _ hk e=>e.elim (fun e=>hB (e ▸ hk)) (fun e=>hC (e ▸ hk)))
theorem ExtL.drew {B C:Nat} {a w:World} (h:ExtL B C a w):ExtL B C a w.drew:=ExtM.drew h
theorem ExtL.size {B C:Nat} {w w':World} (h:ExtL B C w w'):w.heap.size <= w'.heap.size:=ExtM.size h
theorem ExtL.cells {B C:Nat} {w w':World} (h:ExtL B C w w') (b o:Nat) (hb:b = B \/ b = C) (hl:b < w.heap.size):w'.cell? ⟨b,o,none⟩ = w.cell? ⟨b,o,none⟩ /\ w'.frozen? ⟨b,o,none⟩ = w.frozen? ⟨b,o,none⟩ :=
 ⟨ExtM.cell h (p:=⟨b,o,none⟩) hl (fun e=>e hb),ExtM.frozen h (p:=⟨b,o,none⟩) hl (fun e=>e hb)⟩
theorem ExtL.rules {B C:Nat} {w w':World} (_:ExtL B C w w'):True /\ True /\ True:=⟨trivial,trivial,trivial⟩
@[go_sem] theorem cell?_extL (B C:Nat) (w p:World) (o:Nat) (hb:B < w.heap.size):(Plan.ext (ExtL B C) w p).cell? ⟨B,o,none⟩ = w.cell? ⟨B,o,none⟩:=((zb7 ExtL.refl w p).cells B o (.inl rfl) hb).1
@[go_sem] theorem cell?_extL' (B C:Nat) (w p:World) (o:Nat) (hb:C < w.heap.size):(Plan.ext (ExtL B C) w p).cell? ⟨C,o,none⟩ = w.cell? ⟨C,o,none⟩:=((zb7 ExtL.refl w p).cells C o (.inr rfl) hb).1
@[go_sem] theorem cell?_extL_drew (B C:Nat) (w p:World) (o:Nat) (hb:B < w.heap.size):(Plan.ext (ExtL B C) w.drew p).cell? ⟨B,o,none⟩ = w.cell? ⟨B,o,none⟩:=cell?_extL B C w.drew p o hb
@[go_sem] theorem cell?_extL_drew' (B C:Nat) (w p:World) (o:Nat) (hb:C < w.heap.size):(Plan.ext (ExtL B C) w.drew p).cell? ⟨C,o,none⟩ = w.cell? ⟨C,o,none⟩:=cell?_extL' B C w.drew p o hb
end Go.Plan
namespace Go.Proofs.YtiknejbcehpmoaaGreatDoor
open Go.RowKit Go.Plan
theorem Row.ok_good {r:Row} (h:za3 r.k r.t r.v = true):r.ok:=by
 unfold za3 inB at h;simp only [Bool.and_eq_true,decide_eq_true_eq] at h;unfold Row.ok I64;omega
theorem zim {lo hi:Int} {s:Nat} {r:Row} {st:JSt} (hs:s < 2) (hA:∀ h ∈ st.a,h.r.ok) (hB:∀ h ∈ st.b,h.r.ok):(∀ h ∈ (zam lo hi s r st).a,h.r.ok) /\ ∀ h ∈ (zam lo hi s r st).b,h.r.ok:=by
 unfold zam;simp only;split
 . exact ⟨hA,hB⟩
 . split
   . rename_i hE;have hr:r.ok:=by
      unfold feedE at hE;by_cases h1:za3 r.k r.t r.v = false
      . rw [if_pos h1] at hE;cases hE
      . exact Row.ok_good (by simpa using h1)
     have hmap:∀ (p:Hd -> Bool) (l:List Hd),(∀ h ∈ l,h.r.ok) -> ∀ h ∈ l.map (zao p),h.r.ok:=fun p l hl h hh=>by
      obtain ⟨g,hg,rfl⟩:=List.mem_map.1 hh;rw [zi9];exact hl g hg
     have hadd:∀ (l:List Hd) (m:Int),(∀ h ∈ l,h.r.ok) -> ∀ h ∈ addH l ⟨r,m⟩,h.r.ok:=fun l m hl h hh=>by
      rcases List.mem_cons.1 ((zey l ⟨r,m⟩).mem_iff.1 hh) with rfl | hh
      . exact hr
      . exact hl h hh
     have hs':s = 0 \/ s = 1:=by omega
     rcases hs' with rfl | rfl
     . split
       . exact ⟨hadd _ _ hA,hmap _ _ hB⟩
       . exact ⟨hA,hmap _ _ hB⟩
     . split
       . exact ⟨hmap _ _ hA,hadd _ _ hB⟩
       . exact ⟨hmap _ _ hA,hB⟩
   . exact ⟨hA,hB⟩
section
variable {u u':World} {E P M:Nat} {v0 v1:Value} {D DG:Option Nat} {ents:List Ent} {lo hi md:Int} {st:JSt} {V W:List Out} {f0 f1:Int}
theorem EIs.joins {st':JSt} (h:EIs u E P M v0 v1 D DG ents lo hi md st V W f0 f1) (hu:JUp u u' P M (zaE P M v0 v1) lo hi md st') (hA:∀ h ∈ st'.a,h.r.ok) (hB:∀ h ∈ st'.b,h.r.ok) :
 ∃ v0' v1',JIs u' P M v0' v1' lo hi md st' /\ EIs u' E P M v0' v1' D DG ents lo hi md st' V W f0 f1 /\ ∀ k,zeA E P M v0' v1' D DG ents k -> zeA E P M v0 v1 D DG ents k \/ u.heap.size <= k:=by
 obtain ⟨hx,Bs',⟨v0',v1',hj,rfl⟩,hb⟩:=hu;have hE:¬ zaE P M v0 v1 E:=fun e=>(h.sJ E e).1 (.inl rfl);have k:=fun o=>hx.cell (p:=⟨E,o,none⟩) h.lt hE;have kf:=fun o=>hx.frozen (p:=⟨E,o,none⟩) h.lt hE;refine ⟨v0',v1',hj,?_,fun k hk=>?_⟩
 . refine ⟨(k _).trans h.c0,(k _).trans h.c1,(k _).trans h.c2,(k _).trans h.c3,h.bag.of hx hE (fun d hd e=>(h.sJ d e).1 (.inr hd)),h.grp.of hx (fun k hk e=>(h.sJ k e).2 hk),h.rep,(k _).trans h.c7,(k _).trans h.c8,fun q=>(kf q).trans (h.fz q),hj,fun k hk=>?_,h.sB,hA,hB⟩;rcases hb k hk with e | e
   . exact h.sJ k e
   . exact ⟨fun q=>by have:=h.bag.foot k q;omega,fun q=>by have:=h.grp.foot k q;omega⟩
 . rcases hk with hk | hk
   . rcases hb k hk with e | e
     . exact .inl (.inl e)
     . exact .inr e
   . exact .inl (.inr hk)
end
theorem zcC {w:World} {b:Nat} {vo v:Value} {cs:List (Out × Bool)} {hs:List Hd} (hr:CRow w b vo cs) (h:HRow w v hs) (k:Nat) (hk:vo.ownBlock = some k) (hv:v.ownBlock = some k):False:=by
 unfold CRow World.ownsRow at hr;unfold HRow World.ownsRow at h;rcases hr.2 with ⟨rfl,-⟩ | ⟨g,cap,cur,rfl,-,hg,-⟩
 . cases hk
 . rcases h.2 with ⟨rfl,-⟩ | ⟨g',cap',cur',rfl,-,hg',-⟩
   . cases hv
   . obtain rfl:g = k:=Option.some.inj hk;obtain rfl:g' = g:=Option.some.inj hv;rw [hg] at hg';simp at hg'
def EGo (u u':World) (E:Nat) (Bs:Nat -> Prop) (lo hi md:Int) (st:JSt) (V W:List Out) (f0 f1:Int) (vo:Value):Prop :=
 ExtM Bs u u' /\ ∃ Bs',EAt u' E Bs' lo hi md st V W f0 f1 /\ (∀ k,Bs' k -> Bs k \/ u.heap.size <= k) /\ ∀ k,vo.ownBlock = some k -> ¬ Bs' k
theorem zoF {md:Int} {s:Nat} {r:Row} {ms:List Hd} (hr:r.ok) (hm:∀ m ∈ ms,m.r.ok):∀ c ∈ chgs md s r ms,c.1.ok:=by
 have z:Row.ok ⟨0,0,0⟩:=by unfold Row.ok I64;decide
 have hl:∀ (s:Nat) (x:Row),x.ok -> (zan s x).ok:=fun s x hx=>by unfold zan;split <;> exact ⟨hx.1,by assumption,by assumption⟩
 intro c hc;unfold chgs at hc;rcases List.mem_append.1 hc with hc | hc
 . obtain ⟨m,hm',hc⟩:=List.mem_flatMap.1 hc;have hmr:=hm m hm';unfold chg1 at hc;rcases List.mem_append.1 hc with hc | hc
   . split at hc
     . rw [List.mem_singleton] at hc;subst hc;exact hl _ _ hmr
     . cases hc
   . rw [List.mem_singleton] at hc;subst hc;simp only;split
     . exact ⟨hr.1,hr,hmr⟩
     . exact ⟨hmr.1,hmr,hr⟩
 . split at hc
   . rw [List.mem_singleton] at hc;subst hc;exact hl _ _ hr
   . cases hc
theorem zi8 {lo hi md:Int} {s:Nat} {r:Row} {st:JSt} (hA:∀ h ∈ st.a,h.r.ok) (hB:∀ h ∈ st.b,h.r.ok):∀ c ∈ zaj lo hi md s r st,c.1.ok:=by
 unfold zaj;split
 . rename_i hE;have hr:r.ok:=by
    unfold feedE at hE;by_cases h1:za3 r.k r.t r.v = false
    . rw [if_pos h1] at hE;cases hE
    . exact Row.ok_good (by simpa using h1)
   exact zoF hr fun m hm=>by
    have:=(List.mem_filter.1 hm).1
    unfold JSt.of at this;split at this
    . exact hA m this
    . exact hB m this
 . exact fun c hc=>nomatch hc
theorem zgU (lo hi md:Int) (s:Nat) (r:Row) (st:JSt) (la:st.a.length <= 300) (lb:st.b.length <= 300):(zaj lo hi md s r st).length <= 601:=by
 unfold zaj;split
 . rw [zbD,List.length_append];have h1:=zaK md s r ((st.of (1 - s)).filter (zab r.k (frI lo hi s r.t) (tilI lo hi s r.t)));have h2:((st.of (1 - s)).filter (zab r.k (frI lo hi s r.t) (tilI lo hi s r.t))).length <= 300:=Nat.le_trans (List.length_filter_le _ _) (by unfold JSt.of;split <;> assumption);have h3:∀ b:Bool,(if b = true then [(zan s r,false)] else []:List (Out × Bool)).length <= 1:=fun b=>by cases b <;> simp
   have:=h3 (decide (((st.of (1 - s)).filter (zab r.k (frI lo hi s r.t) (tilI lo hi s r.t))).length = 0) && zai md s)
   omega
 . simp
theorem EIs.fed0 {u:World} {E P M:Nat} {v0 v1:Value} {D DG:Option Nat} {ents:List Ent} {lo hi md:Int} {st:JSt} {V W:List Out} {f0 f1:Int} (h:EIs u E P M v0 v1 D DG ents lo hi md st V W f0 f1) (x:Int) :
 EIs (u.setCell ⟨E,7,none⟩ (.int .i64 x)) E P M v0 v1 D DG ents lo hi md st V W x f1 /\ ExtM (fun k=>k = E) u (u.setCell ⟨E,7,none⟩ (.int .i64 x)):=by
 have hx:ExtM (fun k=>k = E) u (u.setCell ⟨E,7,none⟩ (.int .i64 x)):=ExtM.setCell (M:=fun k=>k = E) (ExtM.refl u) (p:=⟨E,7,none⟩) (.inr rfl) _;have hc:∀ o,o ≠ 7 -> (u.setCell ⟨E,7,none⟩ (.int .i64 x)).cell? ⟨E,o,none⟩ = u.cell? ⟨E,o,none⟩:=fun o ho=>World.cell?_setCell_other _ _ _ _ (by intro e;simp only [Addr.mk.injEq,and_true,true_and] at e;omega);have hf:∀ o,(u.setCell ⟨E,7,none⟩ (.int .i64 x)).frozen? ⟨E,o,none⟩ = u.frozen? ⟨E,o,none⟩:=fun o=>World.frozen?_setCell _ _ _ _;have hj:∀ k,zaE P M v0 v1 k -> ¬ k = E:=fun k hk e=>by subst e;exact (h.sJ _ hk).1 (.inl rfl)
 refine ⟨⟨(hc 0 (by decide)).trans h.c0,(hc 1 (by decide)).trans h.c1,(hc 2 (by decide)).trans h.c2,(hc 3 (by decide)).trans h.c3,h.bag.of' hx (fun q hq=>hc q (by omega)) hf (fun d hd e=>?_),
  h.grp.of' hx (hc 6 (by decide)) (hf 6) (fun k hk e=>?_),h.rep,World.cell?_setCell_same _ _ _ h.c7,(hc 8 (by decide)).trans h.c8,fun q=>(hf q).trans (h.fz q),h.join.extM hx (hj P (.inl rfl)) (hj M (.inr (.inl rfl))) (fun k hk=>hj k (.inr (.inr (.inl hk)))) (fun k hk=>hj k (.inr (.inr (.inr hk)))),h.sJ,h.sB,h.okA,h.okB⟩,hx⟩
 . subst e;rcases h.bag.mp with ⟨h1,-⟩ | ⟨d,m,h1,h2,-⟩
   . rw [h1] at hd;cases hd
   . rw [h1] at hd;exact h2 (Option.some.inj hd)
 . subst e;rcases hk with hk | ⟨e,he,hk⟩
   . rcases h.grp.mp with ⟨h1,-⟩ | ⟨d,h1,h2,-⟩
     . rw [h1] at hk;cases hk
     . rw [h1] at hk;exact h2 (Option.some.inj hk)
   . exact (h.grp.away e he _ hk).1 rfl
theorem EIs.fed1 {u:World} {E P M:Nat} {v0 v1:Value} {D DG:Option Nat} {ents:List Ent} {lo hi md:Int} {st:JSt} {V W:List Out} {f0 f1:Int} (h:EIs u E P M v0 v1 D DG ents lo hi md st V W f0 f1) (x:Int) :
 EIs (u.setCell ⟨E,8,none⟩ (.int .i64 x)) E P M v0 v1 D DG ents lo hi md st V W f0 x /\ ExtM (fun k=>k = E) u (u.setCell ⟨E,8,none⟩ (.int .i64 x)):=by
 have hx:ExtM (fun k=>k = E) u (u.setCell ⟨E,8,none⟩ (.int .i64 x)):=ExtM.setCell (M:=fun k=>k = E) (ExtM.refl u) (p:=⟨E,8,none⟩) (.inr rfl) _;have hc:∀ o,o ≠ 8 -> (u.setCell ⟨E,8,none⟩ (.int .i64 x)).cell? ⟨E,o,none⟩ = u.cell? ⟨E,o,none⟩:=fun o ho=>World.cell?_setCell_other _ _ _ _ (by intro e;simp only [Addr.mk.injEq,and_true,true_and] at e;omega);have hf:∀ o,(u.setCell ⟨E,8,none⟩ (.int .i64 x)).frozen? ⟨E,o,none⟩ = u.frozen? ⟨E,o,none⟩:=fun o=>World.frozen?_setCell _ _ _ _;have hj:∀ k,zaE P M v0 v1 k -> ¬ k = E:=fun k hk e=>by subst e;exact (h.sJ _ hk).1 (.inl rfl)
 refine ⟨⟨(hc 0 (by decide)).trans h.c0,(hc 1 (by decide)).trans h.c1,(hc 2 (by decide)).trans h.c2,(hc 3 (by decide)).trans h.c3,h.bag.of' hx (fun q hq=>hc q (by omega)) hf (fun d hd e=>?_),
  h.grp.of' hx (hc 6 (by decide)) (hf 6) (fun k hk e=>?_),h.rep,(hc 7 (by decide)).trans h.c7,World.cell?_setCell_same _ _ _ h.c8,fun q=>(hf q).trans (h.fz q),h.join.extM hx (hj P (.inl rfl)) (hj M (.inr (.inl rfl))) (fun k hk=>hj k (.inr (.inr (.inl hk)))) (fun k hk=>hj k (.inr (.inr (.inr hk)))),h.sJ,h.sB,h.okA,h.okB⟩,hx⟩
 . subst e;rcases h.bag.mp with ⟨h1,-⟩ | ⟨d,m,h1,h2,-⟩
   . rw [h1] at hd;cases hd
   . rw [h1] at hd;exact h2 (Option.some.inj hd)
 . subst e;rcases hk with hk | ⟨e,he,hk⟩
   . rcases h.grp.mp with ⟨h1,-⟩ | ⟨d,h1,h2,-⟩
     . rw [h1] at hk;cases hk
     . rw [h1] at hk;exact h2 (Option.some.inj hk)
   . exact (h.grp.away e he _ hk).1 rfl
theorem EUp.fed {u u':World} {E:Nat} {Bs:Nat -> Prop} {lo hi md:Int} {st:JSt} {V W:List Out} {f0 f1 f0' f1':Int} (hB:Bs E) (h:EUp u u' E Bs lo hi md st V W f0 f1) (o:Nat) (x:Int)
 (ho:(o = 7 /\ f0' = x /\ f1' = f1) \/ (o = 8 /\ f0' = f0 /\ f1' = x)):EUp u (u'.setCell ⟨E,o,none⟩ (.int .i64 x)) E Bs lo hi md st V W f0' f1':=by
 obtain ⟨hx,Bs',⟨P,M,v0,v1,D,DG,ents,hI,rfl⟩,hb⟩:=h;rcases ho with ⟨rfl,rfl,rfl⟩ | ⟨rfl,rfl,rfl⟩
 . obtain ⟨h1,h2⟩:=hI.fed0 f0';exact ⟨ExtM.trans _ _ _ hx (h2.mono fun k _ e=>e ▸ hB),_,⟨P,M,v0,v1,D,DG,ents,h1,rfl⟩,hb⟩
 . obtain ⟨h1,h2⟩:=hI.fed1 f1';exact ⟨ExtM.trans _ _ _ hx (h2.mono fun k _ e=>e ▸ hB),_,⟨P,M,v0,v1,D,DG,ents,h1,rfl⟩,hb⟩
theorem Laid.ofM {w w':World} {M:Nat -> Prop} (h:Laid w) (hx:ExtM M w w') (hne:¬ M 0):Laid w':=(hx.cell (p:=⟨0,0,none⟩) (zcN h) hne).trans h
theorem zlE {u:World} {E P M:Nat} {v0 v1:Value} {D DG:Option Nat} {ents:List Ent} {lo hi md:Int} {st:JSt} {V W:List Out} {f0 f1:Int} (h:EIs u E P M v0 v1 D DG ents lo hi md st V W f0 f1) (hp:zay lo hi) (la:st.a.length <= 300) (lb:st.b.length <= 300) (rk rt rv:Int) :
 Calls Tryz.prog 174 #[.pointer (some ⟨P,0,none⟩),.int .i64 0,.agg #[.int .i64 rk,.int .i64 rt,.int .i64 rv]] u fun e u' =>
  ∃ vo,e = .returned (.tuple #[vo,errV (feedE lo hi 0 ⟨rk,rt,rv⟩ st.x st.y (st.of 0).length)]) /\ ExtM (zaE P M v0 v1) u u' /\ CRow u' u.heap.size vo (zaj lo hi md 0 ⟨rk,rt,rv⟩ st) /\ EGo u u' E (zeA E P M v0 v1 D DG ents) lo hi md (zam lo hi 0 ⟨rk,rt,rv⟩ st) V W f0 f1 vo:=by
 refine (zog u P M v0 v1 lo hi md st rk rt rv h.join hp la lb).mono ?_;rintro e u' ⟨vo,he,hr,hu⟩;have hk:=zim (lo:=lo) (hi:=hi) (s:=0) (r:=⟨rk,rt,rv⟩) (st:=st) (by decide) h.okA h.okB;obtain ⟨v0',v1',hj,hI,hb⟩:=h.joins hu hk.1 hk.2;refine ⟨vo,he,hu.1,hr,hu.1.mono (fun k _ hk=>.inl hk),_,⟨P,M,v0',v1',D,DG,ents,hI,rfl⟩,hb,fun k hk hf=>?_⟩;have hlt:=(zaf hr k hk).1;rcases hf with (rfl | rfl | hf | hf) | hf | hf
 . have:=h.join.lt;omega
 . have:=h.join.mks.lt;omega
 . exact zcC hr hj.s0.row k hk hf
 . exact zcC hr hj.s1.row k hk hf
 . have:=h.bag.foot k hf;omega
 . have:=h.grp.foot k hf;omega
theorem zmg {u:World} {E P M:Nat} {v0 v1:Value} {D DG:Option Nat} {ents:List Ent} {lo hi md:Int} {st:JSt} {V W:List Out} {f0 f1:Int} (h:EIs u E P M v0 v1 D DG ents lo hi md st V W f0 f1) (hp:zay lo hi) (la:st.a.length <= 300) (lb:st.b.length <= 300) (rk rt rv:Int) :
 Calls Tryz.prog 174 #[.pointer (some ⟨P,0,none⟩),.int .i64 1,.agg #[.int .i64 rk,.int .i64 rt,.int .i64 rv]] u fun e u' =>
  ∃ vo,e = .returned (.tuple #[vo,errV (feedE lo hi 1 ⟨rk,rt,rv⟩ st.x st.y (st.of 1).length)]) /\ ExtM (zaE P M v0 v1) u u' /\ CRow u' u.heap.size vo (zaj lo hi md 1 ⟨rk,rt,rv⟩ st) /\ EGo u u' E (zeA E P M v0 v1 D DG ents) lo hi md (zam lo hi 1 ⟨rk,rt,rv⟩ st) V W f0 f1 vo:=by
 refine (zos u P M v0 v1 lo hi md st rk rt rv h.join hp la lb).mono ?_;rintro e u' ⟨vo,he,hr,hu⟩;have hk:=zim (lo:=lo) (hi:=hi) (s:=1) (r:=⟨rk,rt,rv⟩) (st:=st) (by decide) h.okA h.okB;obtain ⟨v0',v1',hj,hI,hb⟩:=h.joins hu hk.1 hk.2;refine ⟨vo,he,hu.1,hr,hu.1.mono (fun k _ hk=>.inl hk),_,⟨P,M,v0',v1',D,DG,ents,hI,rfl⟩,hb,fun k hk hf=>?_⟩;have hlt:=(zaf hr k hk).1;rcases hf with (rfl | rfl | hf | hf) | hf | hf
 . have:=h.join.lt;omega
 . have:=h.join.mks.lt;omega
 . exact zcC hr hj.s0.row k hk hf
 . exact zcC hr hj.s1.row k hk hf
 . have:=h.bag.foot k hf;omega
 . have:=h.grp.foot k hf;omega
def fedI (e f:Int):Int:=if e = 0 \/ e = 10 then wrap64 (f + 1) else f
section
variable {u:World} {E:Nat} {Bs:Nat -> Prop} {lo hi md:Int} {st:JSt} {V W:List Out} {f0 f1:Int}
theorem EAt.c70 (h:EAt u E Bs lo hi md st V W f0 f1):u.cell? ⟨E,7,none⟩ = some (.int .i64 f0):=by obtain ⟨_,_,_,_,_,_,_,h,-⟩:=h;exact h.c7
theorem EAt.c71 (h:EAt u E Bs lo hi md st V W f0 f1):u.cell? ⟨E,8,none⟩ = some (.int .i64 f1):=by obtain ⟨_,_,_,_,_,_,_,h,-⟩:=h;exact h.c8
theorem EAt.fz (h:EAt u E Bs lo hi md st V W f0 f1) (q:Nat):u.frozen? ⟨E,q,none⟩ = false:=by obtain ⟨_,_,_,_,_,_,_,h,-⟩:=h;exact h.fz q
end
def EUpV (u u':World) (E:Nat) (Bs:Nat -> Prop) (lo hi md:Int) (st:JSt) (V W:List Out) (f0 f1:Int) (vo:Value):Prop :=
 ExtM Bs u u' /\ ∃ Bs',EAt u' E Bs' lo hi md st V W f0 f1 /\ (∀ k,Bs' k -> Bs k \/ u.heap.size <= k) /\ ∀ k,vo.ownBlock = some k -> ¬ Bs' k
theorem EUpV.up {u u':World} {E:Nat} {Bs:Nat -> Prop} {lo hi md:Int} {st:JSt} {V W:List Out} {f0 f1:Int} {vo:Value} (h:EUpV u u' E Bs lo hi md st V W f0 f1 vo):EUp u u' E Bs lo hi md st V W f0 f1:=by
 obtain ⟨h1,Bs',h2,h3,-⟩:=h;exact ⟨h1,Bs',h2,h3⟩
theorem EUp.vnil {u u':World} {E:Nat} {Bs:Nat -> Prop} {lo hi md:Int} {st:JSt} {V W:List Out} {f0 f1:Int} (h:EUp u u' E Bs lo hi md st V W f0 f1):EUpV u u' E Bs lo hi md st V W f0 f1 (.slice none 0 0):=by
 obtain ⟨h1,Bs',h2,h3⟩:=h;exact ⟨h1,Bs',h2,h3,fun k hk=>nomatch hk⟩
theorem zl0 {u:World} {E:Nat} {Bs:Nat -> Prop} {lo hi md:Int} {st:JSt} {V:List Out} {f0 f1:Int} (h:EAt u E Bs lo hi md st V V f0 f1) (hp:zay lo hi) (la:st.a.length <= 300) (lb:st.b.length <= 300) (hL:Laid u) (hz:¬ Bs 0) (rk rt rv:Int)
 (hv:zb1 V (zaj lo hi md 0 ⟨rk,rt,rv⟩ st)) (hl:V.length < 900000) :
 Calls Tryz.prog 133 #[.pointer (some ⟨E,0,none⟩),.int .i64 0,.agg #[.int .i64 rk,.int .i64 rt,.int .i64 rv]] u fun e u' =>
  ∃ vo,e = .returned (.tuple #[vo,errV (feedE lo hi 0 ⟨rk,rt,rv⟩ st.x st.y (st.of 0).length)]) /\ CRow u' u.heap.size vo (zaj lo hi md 0 ⟨rk,rt,rv⟩ st) /\
    EUpV u u' E Bs lo hi md (zam lo hi 0 ⟨rk,rt,rv⟩ st) (zaH V (zaj lo hi md 0 ⟨rk,rt,rv⟩ st)) (zaH V (zaj lo hi md 0 ⟨rk,rt,rv⟩ st)) (fedI (feedE lo hi 0 ⟨rk,rt,rv⟩ st.x st.y (st.of 0).length) f0) f1 vo:=by
 obtain ⟨P,M,v0,v1,D,DG,ents,hI,rfl⟩:=h;have hxb:Ext u (u.alloc (.cells #[.int .i64 rk,.int .i64 rt,.int .i64 rv] 92)):=(ExtM.refl u).alloc _;have hfo:=hI.foot;go_enter Tryz.func133,Tryz.ntmps133;go_upto_region 1 with fail;have b0:(u.alloc (.cells #[.int .i64 rk,.int .i64 rt,.int .i64 rv] 92)).cell? ⟨u.heap.size,0,none⟩ = some (.int .i64 rk):=by go_simp
 have b1:(u.alloc (.cells #[.int .i64 rk,.int .i64 rt,.int .i64 rv] 92)).cell? ⟨u.heap.size,1,none⟩ = some (.int .i64 rt):=by go_simp
 have b2:(u.alloc (.cells #[.int .i64 rk,.int .i64 rt,.int .i64 rv] 92)).cell? ⟨u.heap.size,2,none⟩ = some (.int .i64 rv):=by go_simp
 have hnJ:¬ zaE P M v0 v1 u.heap.size:=fun e=>by have:=hfo _ (.inl e);omega
 have hEJ:¬ zaE P M v0 v1 E:=fun e=>(hI.sJ E e).1 (.inl rfl);have hI2:=hI.ext hxb;have hL2:=hL.of hxb;have hsz:=hxb.size;generalize u.alloc (.cells #[.int .i64 rk,.int .i64 rt,.int .i64 rv] 92) = w1 at *;generalize hn:u.heap.size = n at *;have hnl:n < w1.heap.size:=zac b0;have hEl:=hI2.lt;have c3:=hI2.c3;refine Plan.b0 (Plan.ExtL E n) 12 ?_;refine Plan.qs 6 [0,1,2,3,4,5] ?_;iterate 6 go_big_quiet_step (fail)
 refine Plan.o1 6 fun K hK=>?_;go_wp2_with (fail);refine (zlE (hI2.ext (ExtM.refl _).drew) hp la lb rk rt rv).mono ?_;rintro e w2 ⟨vo,rfl,h2,hrow,hgo⟩;have H2:=ExtL.trans _ _ _ (ExtL.refl _).drew (ExtL.of_M hEJ hnJ h2);obtain ⟨hc2,hf2,-⟩:=ExtL.rules H2;have hs2_0:E < w2.heap.size:=by have:=H2.size;(try simp at this);omega
 have hs2_1:n < w2.heap.size:=by have:=H2.size;(try simp at this);omega
 go_wp2_with (fail);refine hK _ _ (ExtL.of_M hEJ hnJ h2) ?_;clear hK K;refine Plan.qs 5 [7,8,9,10,11] ?_;iterate 5 go_big_quiet_step (fail)
 refine Plan.dn ?_;obtain ⟨hx2,Bs2,hat,hB2,hsep⟩:=id hgo;have hL3:Laid w2:=(hL2.of (ExtM.refl _).drew).ofM hx2 hz;have hC:=Lib.hid hv;have hbs:u.heap.size <= w1.drew.heap.size:=by show u.heap.size <= w1.heap.size;omega
 clear hv b0 b1 b2 c3;generalize hEe:feedE lo hi 0 ⟨rk,rt,rv⟩ st.x st.y (st.of 0).length = e at *;have HE:=Lib.hid hEe;clear hEe;by_cases z0:e = 0
 . subst z0;have er:errV 0 = .nilIface:=rfl;rw [er];go_upto_region 3 with (go_at_call 44;refine (zfr _).mono ?_;rintro e w2 ⟨rfl,rfl⟩)
   have c7:=hat.c70;have z7:=hat.fz 7;have hE3:=hat.lt _ hat.mine;refine Plan.bT Plan.Ext [10] 11 ?_;refine Plan.qs 7 [0,1,2,3,4,5,6] ?_;iterate 7 go_big_quiet_step (fail)
   refine Plan.o1 7 fun K hK=>?_;go_wp2_with (fail);refine hK _ _ (ExtM.refl _) ?_;clear hK K;refine Plan.o1 8 fun K hK=>?_;go_wp2_with (fail);refine hK _ _ (ExtM.refl _) ?_;clear hK K;refine Plan.qs 1 [9] ?_;go_big_quiet_step (fail);refine Plan.ol 10 fun K hK=>?_;go_wp2_with (fail);refine Plan.dn ?_;have hu4:=EUp.fed (x:=wrap64 (f0 + 1)) hat.mine (EUp.same hat (ExtM.refl w2).drew) 7 (.inl ⟨rfl,rfl,rfl⟩);have hF:fedI 0 f0 = wrap64 (f0 + 1):=if_pos (.inl rfl);obtain ⟨hx4,Bs4,hat4,hB4⟩:=id hu4;have hrow4:CRow _ _ vo _:=zag hrow hx4 hsep;have hsep4:∀ k,vo.ownBlock = some k -> ¬ Bs4 k:=fun k hk hf=>by
    rcases hB4 k hf with q | q
    . exact hsep k hk q
    . have:=(zaf hrow k hk).2;omega
   go_wp2_with (go_at_call 175;refine (zc1 hat4 _ vo _ hrow4 hsep4 (zi8 hI.okA hI.okB) hC.out (by have:=zgU lo hi md 0 ⟨rk,rt,rv⟩ st la lb;omega)).mono ?_;rintro e w5 ⟨rfl,hu5⟩);go_ret2;rw [HE.out,hF];obtain ⟨hx5,Bs5,hat5,hB5⟩:=id hu5;refine ⟨vo,rfl,zak (zag hrow4 hu5.1 hsep4) hbs,(EUp.before hxb (EUp.before (ExtM.refl _).drew (EUp.trans hx2 hB2 (EUp.trans hx4 hB4 hu5)))).1,Bs5,hat5,fun k hk=>?_,fun k hk hf=>?_⟩
   . rcases hB5 k hk with q | q
     . rcases hB4 k q with q | q
       . rcases hB2 k q with q | q
         . exact .inl q
         . exact .inr (Nat.le_trans hbs q)
       . exact .inr (Nat.le_trans hbs (Nat.le_trans hx2.size q))
     . exact .inr (Nat.le_trans hbs (Nat.le_trans hx2.size (Nat.le_trans hx4.size q)))
   . rcases hB5 k hf with q | q
     . exact hsep4 k hk q
     . have:=(zaf hrow4 k hk).2;omega
 . have hnil:zaj lo hi md 0 ⟨rk,rt,rv⟩ st = []:=by unfold zaj;rw [if_neg (by rw [HE.out];exact z0)]
   by_cases z1:e = 10
   . subst z1;have er:errV 10 = .iface 47 (.int .i64 10):=rfl;rw [er];go_upto_region 3 with (go_at_call 44;first | (refine (zcz 10 _ hL3).mono ?_;rintro e w3 ⟨rfl,hx3⟩) | (refine (zcz 10 _ (hL3.of hx3)).mono ?_;rintro e w4 ⟨rfl,hx4⟩))
     have hx24:=ExtM.trans _ _ _ hx3 hx4;have hat4:=hat.ext hx24;clear hx3 hx4;have c7:=hat4.c70;have z7:=hat4.fz 7;have hE3:=hat4.lt _ hat4.mine;refine Plan.bT Plan.Ext [10] 11 ?_;refine Plan.qs 7 [0,1,2,3,4,5,6] ?_;iterate 7 go_big_quiet_step (fail)
     refine Plan.o1 7 fun K hK=>?_;go_wp2_with (fail);refine hK _ _ (ExtM.refl _) ?_;clear hK K;refine Plan.o1 8 fun K hK=>?_;go_wp2_with (fail);refine hK _ _ (ExtM.refl _) ?_;clear hK K;refine Plan.qs 1 [9] ?_;go_big_quiet_step (fail);refine Plan.ol 10 fun K hK=>?_;go_wp2_with (fail);refine Plan.dn ?_;have hu4:=EUp.fed (x:=wrap64 (f0 + 1)) hat.mine (EUp.after (EUp.same hat hx24) (ExtM.refl w4).drew) 7 (.inl ⟨rfl,rfl,rfl⟩);have hF:fedI 10 f0 = wrap64 (f0 + 1):=if_pos (.inr rfl);go_wp2_with fail;go_ret2;rw [HE.out,hF,hnil,er];exact ⟨.slice none 0 0,rfl,nilC _ _,EUp.vnil (EUp.before hxb (EUp.before (ExtM.refl _).drew (EUp.trans hx2 hB2 hu4)))⟩
   . have er:errV e = .iface 47 (.int .i64 e):=if_neg z0;rw [er];have d0:(e == 0) = false:=by simp [z0]
     have d1:(e == 10) = false:=by simp [z1]
     have hF:fedI e f0 = f0:=if_neg (fun q=>q.elim z0 z1);have HF:=Lib.hid hF;clear hF;go_wp2_with (go_at_call 44;first | (refine (zcz e _ hL3).mono ?_;rintro e w3 ⟨rfl,hx3⟩) | (refine (zcz e _ (hL3.of hx3)).mono ?_;rintro e w4 ⟨rfl,hx4⟩));go_ret2;rw [HE.out,HF.out,hnil,er];exact ⟨.slice none 0 0,rfl,nilC _ _,EUp.vnil (EUp.before hxb (EUp.before (ExtM.refl _).drew (EUp.trans hx2 hB2 (EUp.same hat (ExtM.trans _ _ _ hx3 hx4)))))⟩
theorem zmf {u:World} {E:Nat} {Bs:Nat -> Prop} {lo hi md:Int} {st:JSt} {V:List Out} {f0 f1:Int} (h:EAt u E Bs lo hi md st V V f0 f1) (hp:zay lo hi) (la:st.a.length <= 300) (lb:st.b.length <= 300) (hL:Laid u) (hz:¬ Bs 0) (rk rt rv:Int)
 (hv:zb1 V (zaj lo hi md 0 ⟨rk,rt,rv⟩ st)) (hl:V.length < 900000) :
 Calls Tryz.prog 133 #[.pointer (some ⟨E,0,none⟩),.int .i64 0,.agg #[.int .i64 rk,.int .i64 rt,.int .i64 rv]] u fun e u' =>
  ∃ vo,e = .returned (.tuple #[vo,errV (feedE lo hi 0 ⟨rk,rt,rv⟩ st.x st.y (st.of 0).length)]) /\ CRow u' u.heap.size vo (zaj lo hi md 0 ⟨rk,rt,rv⟩ st) /\
    EUp u u' E Bs lo hi md (zam lo hi 0 ⟨rk,rt,rv⟩ st) (zaH V (zaj lo hi md 0 ⟨rk,rt,rv⟩ st)) (zaH V (zaj lo hi md 0 ⟨rk,rt,rv⟩ st)) (fedI (feedE lo hi 0 ⟨rk,rt,rv⟩ st.x st.y (st.of 0).length) f0) f1 :=
 (zl0 h hp la lb hL hz rk rt rv hv hl).mono fun e u' hh=>by
   obtain ⟨vo,h1,h2,h3⟩:=hh;exact ⟨vo,h1,h2,h3.up⟩
theorem zl1 {u:World} {E:Nat} {Bs:Nat -> Prop} {lo hi md:Int} {st:JSt} {V:List Out} {f0 f1:Int} (h:EAt u E Bs lo hi md st V V f0 f1) (hp:zay lo hi) (la:st.a.length <= 300) (lb:st.b.length <= 300) (hL:Laid u) (hz:¬ Bs 0) (rk rt rv:Int)
 (hv:zb1 V (zaj lo hi md 1 ⟨rk,rt,rv⟩ st)) (hl:V.length < 900000) :
 Calls Tryz.prog 133 #[.pointer (some ⟨E,0,none⟩),.int .i64 1,.agg #[.int .i64 rk,.int .i64 rt,.int .i64 rv]] u fun e u' =>
  ∃ vo,e = .returned (.tuple #[vo,errV (feedE lo hi 1 ⟨rk,rt,rv⟩ st.x st.y (st.of 1).length)]) /\ CRow u' u.heap.size vo (zaj lo hi md 1 ⟨rk,rt,rv⟩ st) /\
    EUpV u u' E Bs lo hi md (zam lo hi 1 ⟨rk,rt,rv⟩ st) (zaH V (zaj lo hi md 1 ⟨rk,rt,rv⟩ st)) (zaH V (zaj lo hi md 1 ⟨rk,rt,rv⟩ st)) f0 (fedI (feedE lo hi 1 ⟨rk,rt,rv⟩ st.x st.y (st.of 1).length) f1) vo:=by
 obtain ⟨P,M,v0,v1,D,DG,ents,hI,rfl⟩:=h;have hxb:Ext u (u.alloc (.cells #[.int .i64 rk,.int .i64 rt,.int .i64 rv] 92)):=(ExtM.refl u).alloc _;have hfo:=hI.foot;go_enter Tryz.func133,Tryz.ntmps133;go_upto_region 1 with fail;have b0:(u.alloc (.cells #[.int .i64 rk,.int .i64 rt,.int .i64 rv] 92)).cell? ⟨u.heap.size,0,none⟩ = some (.int .i64 rk):=by go_simp
 have b1:(u.alloc (.cells #[.int .i64 rk,.int .i64 rt,.int .i64 rv] 92)).cell? ⟨u.heap.size,1,none⟩ = some (.int .i64 rt):=by go_simp
 have b2:(u.alloc (.cells #[.int .i64 rk,.int .i64 rt,.int .i64 rv] 92)).cell? ⟨u.heap.size,2,none⟩ = some (.int .i64 rv):=by go_simp
 have hnJ:¬ zaE P M v0 v1 u.heap.size:=fun e=>by have:=hfo _ (.inl e);omega
 have hEJ:¬ zaE P M v0 v1 E:=fun e=>(hI.sJ E e).1 (.inl rfl);have hI2:=hI.ext hxb;have hL2:=hL.of hxb;have hsz:=hxb.size;generalize u.alloc (.cells #[.int .i64 rk,.int .i64 rt,.int .i64 rv] 92) = w1 at *;generalize hn:u.heap.size = n at *;have hnl:n < w1.heap.size:=zac b0;have hEl:=hI2.lt;have c3:=hI2.c3;refine Plan.b0 (Plan.ExtL E n) 12 ?_;refine Plan.qs 6 [0,1,2,3,4,5] ?_;iterate 6 go_big_quiet_step (fail)
 refine Plan.o1 6 fun K hK=>?_;go_wp2_with (fail);refine (zmg (hI2.ext (ExtM.refl _).drew) hp la lb rk rt rv).mono ?_;rintro e w2 ⟨vo,rfl,h2,hrow,hgo⟩;have H2:=ExtL.trans _ _ _ (ExtL.refl _).drew (ExtL.of_M hEJ hnJ h2);obtain ⟨hc2,hf2,-⟩:=ExtL.rules H2;have hs2_0:E < w2.heap.size:=by have:=H2.size;(try simp at this);omega
 have hs2_1:n < w2.heap.size:=by have:=H2.size;(try simp at this);omega
 go_wp2_with (fail);refine hK _ _ (ExtL.of_M hEJ hnJ h2) ?_;clear hK K;refine Plan.qs 5 [7,8,9,10,11] ?_;iterate 5 go_big_quiet_step (fail)
 refine Plan.dn ?_;obtain ⟨hx2,Bs2,hat,hB2,hsep⟩:=id hgo;have hL3:Laid w2:=(hL2.of (ExtM.refl _).drew).ofM hx2 hz;have hC:=Lib.hid hv;have hbs:u.heap.size <= w1.drew.heap.size:=by show u.heap.size <= w1.heap.size;omega
 clear hv b0 b1 b2 c3;generalize hEe:feedE lo hi 1 ⟨rk,rt,rv⟩ st.x st.y (st.of 1).length = e at *;have HE:=Lib.hid hEe;clear hEe;by_cases z0:e = 0
 . subst z0;have er:errV 0 = .nilIface:=rfl;rw [er];go_upto_region 3 with (go_at_call 44;refine (zfr _).mono ?_;rintro e w2 ⟨rfl,rfl⟩)
   have c7:=hat.c71;have z7:=hat.fz 8;have hE3:=hat.lt _ hat.mine;refine Plan.bT Plan.Ext [10] 11 ?_;refine Plan.qs 7 [0,1,2,3,4,5,6] ?_;iterate 7 go_big_quiet_step (fail)
   refine Plan.o1 7 fun K hK=>?_;go_wp2_with (fail);refine hK _ _ (ExtM.refl _) ?_;clear hK K;refine Plan.o1 8 fun K hK=>?_;go_wp2_with (fail);refine hK _ _ (ExtM.refl _) ?_;clear hK K;refine Plan.qs 1 [9] ?_;go_big_quiet_step (fail);refine Plan.ol 10 fun K hK=>?_;go_wp2_with (fail);refine Plan.dn ?_;have hu4:=EUp.fed (x:=wrap64 (f1 + 1)) hat.mine (EUp.same hat (ExtM.refl w2).drew) 8 (.inr ⟨rfl,rfl,rfl⟩);have hF:fedI 0 f1 = wrap64 (f1 + 1):=if_pos (.inl rfl);obtain ⟨hx4,Bs4,hat4,hB4⟩:=id hu4;have hrow4:CRow _ _ vo _:=zag hrow hx4 hsep;have hsep4:∀ k,vo.ownBlock = some k -> ¬ Bs4 k:=fun k hk hf=>by
    rcases hB4 k hf with q | q
    . exact hsep k hk q
    . have:=(zaf hrow k hk).2;omega
   go_wp2_with (go_at_call 175;refine (zc1 hat4 _ vo _ hrow4 hsep4 (zi8 hI.okA hI.okB) hC.out (by have:=zgU lo hi md 1 ⟨rk,rt,rv⟩ st la lb;omega)).mono ?_;rintro e w5 ⟨rfl,hu5⟩);go_ret2;rw [HE.out,hF];obtain ⟨hx5,Bs5,hat5,hB5⟩:=id hu5;refine ⟨vo,rfl,zak (zag hrow4 hu5.1 hsep4) hbs,(EUp.before hxb (EUp.before (ExtM.refl _).drew (EUp.trans hx2 hB2 (EUp.trans hx4 hB4 hu5)))).1,Bs5,hat5,fun k hk=>?_,fun k hk hf=>?_⟩
   . rcases hB5 k hk with q | q
     . rcases hB4 k q with q | q
       . rcases hB2 k q with q | q
         . exact .inl q
         . exact .inr (Nat.le_trans hbs q)
       . exact .inr (Nat.le_trans hbs (Nat.le_trans hx2.size q))
     . exact .inr (Nat.le_trans hbs (Nat.le_trans hx2.size (Nat.le_trans hx4.size q)))
   . rcases hB5 k hf with q | q
     . exact hsep4 k hk q
     . have:=(zaf hrow4 k hk).2;omega
 . have hnil:zaj lo hi md 1 ⟨rk,rt,rv⟩ st = []:=by unfold zaj;rw [if_neg (by rw [HE.out];exact z0)]
   by_cases z1:e = 10
   . subst z1;have er:errV 10 = .iface 47 (.int .i64 10):=rfl;rw [er];go_upto_region 3 with (go_at_call 44;first | (refine (zcz 10 _ hL3).mono ?_;rintro e w3 ⟨rfl,hx3⟩) | (refine (zcz 10 _ (hL3.of hx3)).mono ?_;rintro e w4 ⟨rfl,hx4⟩))
     have hx24:=ExtM.trans _ _ _ hx3 hx4;have hat4:=hat.ext hx24;clear hx3 hx4;have c7:=hat4.c71;have z7:=hat4.fz 8;have hE3:=hat4.lt _ hat4.mine;refine Plan.bT Plan.Ext [10] 11 ?_;refine Plan.qs 7 [0,1,2,3,4,5,6] ?_;iterate 7 go_big_quiet_step (fail)
     refine Plan.o1 7 fun K hK=>?_;go_wp2_with (fail);refine hK _ _ (ExtM.refl _) ?_;clear hK K;refine Plan.o1 8 fun K hK=>?_;go_wp2_with (fail);refine hK _ _ (ExtM.refl _) ?_;clear hK K;refine Plan.qs 1 [9] ?_;go_big_quiet_step (fail);refine Plan.ol 10 fun K hK=>?_;go_wp2_with (fail);refine Plan.dn ?_;have hu4:=EUp.fed (x:=wrap64 (f1 + 1)) hat.mine (EUp.after (EUp.same hat hx24) (ExtM.refl w4).drew) 8 (.inr ⟨rfl,rfl,rfl⟩);have hF:fedI 10 f1 = wrap64 (f1 + 1):=if_pos (.inr rfl);go_wp2_with fail;go_ret2;rw [HE.out,hF,hnil,er];exact ⟨.slice none 0 0,rfl,nilC _ _,EUp.vnil (EUp.before hxb (EUp.before (ExtM.refl _).drew (EUp.trans hx2 hB2 hu4)))⟩
   . have er:errV e = .iface 47 (.int .i64 e):=if_neg z0;rw [er];have d0:(e == 0) = false:=by simp [z0]
     have d1:(e == 10) = false:=by simp [z1]
     have hF:fedI e f1 = f1:=if_neg (fun q=>q.elim z0 z1);have HF:=Lib.hid hF;clear hF;go_wp2_with (go_at_call 44;first | (refine (zcz e _ hL3).mono ?_;rintro e w3 ⟨rfl,hx3⟩) | (refine (zcz e _ (hL3.of hx3)).mono ?_;rintro e w4 ⟨rfl,hx4⟩));go_ret2;rw [HE.out,HF.out,hnil,er];exact ⟨.slice none 0 0,rfl,nilC _ _,EUp.vnil (EUp.before hxb (EUp.before (ExtM.refl _).drew (EUp.trans hx2 hB2 (EUp.same hat (ExtM.trans _ _ _ hx3 hx4)))))⟩
theorem zmp {u:World} {E:Nat} {Bs:Nat -> Prop} {lo hi md:Int} {st:JSt} {V:List Out} {f0 f1:Int} (h:EAt u E Bs lo hi md st V V f0 f1) (hp:zay lo hi) (la:st.a.length <= 300) (lb:st.b.length <= 300) (hL:Laid u) (hz:¬ Bs 0) (rk rt rv:Int)
 (hv:zb1 V (zaj lo hi md 1 ⟨rk,rt,rv⟩ st)) (hl:V.length < 900000) :
 Calls Tryz.prog 133 #[.pointer (some ⟨E,0,none⟩),.int .i64 1,.agg #[.int .i64 rk,.int .i64 rt,.int .i64 rv]] u fun e u' =>
  ∃ vo,e = .returned (.tuple #[vo,errV (feedE lo hi 1 ⟨rk,rt,rv⟩ st.x st.y (st.of 1).length)]) /\ CRow u' u.heap.size vo (zaj lo hi md 1 ⟨rk,rt,rv⟩ st) /\
    EUp u u' E Bs lo hi md (zam lo hi 1 ⟨rk,rt,rv⟩ st) (zaH V (zaj lo hi md 1 ⟨rk,rt,rv⟩ st)) (zaH V (zaj lo hi md 1 ⟨rk,rt,rv⟩ st)) f0 (fedI (feedE lo hi 1 ⟨rk,rt,rv⟩ st.x st.y (st.of 1).length) f1) :=
 (zl1 h hp la lb hL hz rk rt rv hv hl).mono fun e u' hh=>by
   obtain ⟨vo,h1,h2,h3⟩:=hh;exact ⟨vo,h1,h2,h3.up⟩
end Go.Proofs.YtiknejbcehpmoaaGreatDoor
