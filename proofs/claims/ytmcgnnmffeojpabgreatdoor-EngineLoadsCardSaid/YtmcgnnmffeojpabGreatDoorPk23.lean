import Derived.Test.YtmcgnnmffeojpabGreatDoorPk14
import Derived.Test.YtmcgnnmffeojpabGreatDoorPk18
import Derived.Test.YtmcgnnmffeojpabGreatDoorPk21
import Derived.Test.YtmcgnnmffeojpabGreatDoorPk22
import Derived.Deep.DeepCutAuto
import Derived.Deep.CutBlock
set_option maxRecDepth 100000
set_option maxHeartbeats 8000000
namespace Go.Proofs.YtmcgnnmffeojpabGreatDoor
open Go.RowKit Go.Plan
theorem zaB.of' {M:Nat -> Prop} {w w':World} {B o:Nat} {D:Option Nat} {l:List Out} (h:zaB w B o D l) (hx:ExtM M w w') (hc:∀ q,(q = o \/ q = o + 1) -> w'.cell? ⟨B,q,none⟩ = w.cell? ⟨B,q,none⟩) (hf:∀ q,w'.frozen? ⟨B,q,none⟩ = w.frozen? ⟨B,q,none⟩) (hD:∀ d,D = some d -> ¬ M d):zaB w' B o D l where
 c0:=(hc o (.inl rfl)).trans h.c0
 c1:=(hc (o + 1) (.inr rfl)).trans h.c1
 f0:=(hf o).trans h.f0
 f1:=(hf (o + 1)).trans h.f1
 ok:=h.ok
 mp:=by
  rcases h.mp with h | ⟨d,m,h1,h2,h3,h4⟩
  . exact .inl h
  . exact .inr ⟨d,m,h1,h2,h3.of hx (hD d h1),h4⟩
theorem za6.of' {M:Nat -> Prop} {w w':World} {G o:Nat} {D:Option Nat} {ents:List Ent} (h:za6 w G o D ents) (hx:ExtM M w w') (hc:w'.cell? ⟨G,o,none⟩ = w.cell? ⟨G,o,none⟩) (hf:w'.frozen? ⟨G,o,none⟩ = w.frozen? ⟨G,o,none⟩) (hM:∀ k,(D = some k \/ ∃ e ∈ ents,fb e k) -> ¬ M k):za6 w' G o D ents where
 c0:=hc.trans h.c0
 f0:=hf.trans h.f0
 mp:=by
  rcases h.mp with h | ⟨d,h1,h2,h3⟩
  . exact .inl h
  . exact .inr ⟨d,h1,h2,h3.of hx (hM d (.inl h1))⟩
 all e he:=(h.all e he).keep fun k hk=>hx.block k ((h.all e he).lt k hk) (hM k (.inr ⟨e,he,hk⟩))
 apart:=h.apart
 away:=h.away
 ok:=h.ok
structure EIs (u:World) (E P M:Nat) (v0 v1:Value) (D DG:Option Nat) (ents:List Ent) (lo hi md:Int) (st:JSt) (V W:List Out) (f0 f1:Int):Prop where
 c0:u.cell? ⟨E,0,none⟩ = some (.int .i64 lo)
 c1:u.cell? ⟨E,1,none⟩ = some (.int .i64 hi)
 c2:u.cell? ⟨E,2,none⟩ = some (.int .i64 md)
 c3:u.cell? ⟨E,3,none⟩ = some (.pointer (some ⟨P,0,none⟩))
 bag:zaB u E 4 D V
 grp:za6 u E 6 DG ents
 rep:za7 ents W
 c7:u.cell? ⟨E,7,none⟩ = some (.int .i64 f0)
 c8:u.cell? ⟨E,8,none⟩ = some (.int .i64 f1)
 fz:∀ q,u.frozen? ⟨E,q,none⟩ = false
 join:JIs u P M v0 v1 lo hi md st
 sJ:∀ k,zaE P M v0 v1 k -> ¬ bagM E D k /\ ¬ grpM E DG ents k
 sB:∀ k,D = some k -> ¬ grpM E DG ents k
 okA:∀ h ∈ st.a,h.r.ok
 okB:∀ h ∈ st.b,h.r.ok
def zeA (E P M:Nat) (v0 v1:Value) (D DG:Option Nat) (ents:List Ent) (k:Nat):Prop:=zaE P M v0 v1 k \/ bagM E D k \/ grpM E DG ents k
section
variable {u u':World} {E P M:Nat} {v0 v1:Value} {D DG:Option Nat} {ents:List Ent} {lo hi md:Int} {st:JSt} {V W:List Out} {f0 f1:Int}
theorem EIs.lt (h:EIs u E P M v0 v1 D DG ents lo hi md st V W f0 f1):E < u.heap.size:=zaG h.c0
theorem EIs.foot (h:EIs u E P M v0 v1 D DG ents lo hi md st V W f0 f1) (k:Nat) (hk:zeA E P M v0 v1 D DG ents k):k < u.heap.size:=by
 rcases hk with hk | hk | hk
 . exact h.join.foot k hk
 . exact h.bag.foot k hk
 . exact h.grp.foot k hk
theorem EIs.keep {F:Nat -> Prop} (h:EIs u E P M v0 v1 D DG ents lo hi md st V W f0 f1) (hx:ExtM F u u') (hF:∀ k,zeA E P M v0 v1 D DG ents k -> ¬ F k):EIs u' E P M v0 v1 D DG ents lo hi md st V W f0 f1:=by
 have hE:¬ F E:=hF E (.inr (.inl (.inl rfl)));have k:=fun o=>hx.cell (p:=⟨E,o,none⟩) h.lt hE;have kf:=fun o=>hx.frozen (p:=⟨E,o,none⟩) h.lt hE
 exact ⟨(k _).trans h.c0,(k _).trans h.c1,(k _).trans h.c2,(k _).trans h.c3,h.bag.of hx hE (fun d hd=>hF d (.inr (.inl (.inr hd)))),h.grp.of hx (fun k hk=>hF k (.inr (.inr hk))),h.rep,(k _).trans h.c7,(k _).trans h.c8,fun q=>(kf q).trans (h.fz q),
  h.join.extM hx (hF _ (.inl (.inl rfl))) (hF _ (.inl (.inr (.inl rfl)))) (fun k hk=>hF k (.inl (.inr (.inr (.inl hk))))) (fun k hk=>hF k (.inl (.inr (.inr (.inr hk))))),h.sJ,h.sB,h.okA,h.okB⟩
theorem EIs.ext (h:EIs u E P M v0 v1 D DG ents lo hi md st V W f0 f1) (hx:Ext u u'):EIs u' E P M v0 v1 D DG ents lo hi md st V W f0 f1:=h.keep hx (fun _ _ h=>h)
end
def EAt (u:World) (E:Nat) (Bs:Nat -> Prop) (lo hi md:Int) (st:JSt) (V W:List Out) (f0 f1:Int):Prop :=
 ∃ P M v0 v1 D DG ents,EIs u E P M v0 v1 D DG ents lo hi md st V W f0 f1 /\ Bs = zeA E P M v0 v1 D DG ents
def EUp (u u':World) (E:Nat) (Bs:Nat -> Prop) (lo hi md:Int) (st:JSt) (V W:List Out) (f0 f1:Int):Prop :=
 ExtM Bs u u' /\ ∃ Bs',EAt u' E Bs' lo hi md st V W f0 f1 /\ ∀ k,Bs' k -> Bs k \/ u.heap.size <= k
section
variable {u u' u'':World} {E:Nat} {Bs:Nat -> Prop} {lo hi md:Int} {st st':JSt} {V W V' W':List Out} {f0 f1 f0' f1':Int}
theorem EAt.lt (h:EAt u E Bs lo hi md st V W f0 f1) (k:Nat) (hk:Bs k):k < u.heap.size:=by
 obtain ⟨P,M,v0,v1,D,DG,ents,h,rfl⟩:=h;exact h.foot k hk
theorem EAt.keep {F:Nat -> Prop} (h:EAt u E Bs lo hi md st V W f0 f1) (hx:ExtM F u u') (hF:∀ k,Bs k -> ¬ F k):EAt u' E Bs lo hi md st V W f0 f1:=by
 obtain ⟨P,M,v0,v1,D,DG,ents,h,rfl⟩:=h;exact ⟨P,M,v0,v1,D,DG,ents,h.keep hx hF,rfl⟩
theorem EAt.ext (h:EAt u E Bs lo hi md st V W f0 f1) (hx:Ext u u'):EAt u' E Bs lo hi md st V W f0 f1:=h.keep hx (fun _ _ h=>h)
theorem EAt.mine (h:EAt u E Bs lo hi md st V W f0 f1):Bs E:=by
 obtain ⟨P,M,v0,v1,D,DG,ents,h,rfl⟩:=h;exact .inr (.inl (.inl rfl))
theorem EUp.same (h:EAt u E Bs lo hi md st V W f0 f1) (hx:Ext u u'):EUp u u' E Bs lo hi md st V W f0 f1 :=
 ⟨hx.mono (fun _ _ h=>h.elim),Bs,h.ext hx,fun _k hk=>.inl hk⟩
theorem EUp.trans {u1:World} {Bs1:Nat -> Prop} (h:ExtM Bs u u1) (hB:∀ k,Bs1 k -> Bs k \/ u.heap.size <= k) (h2:EUp u1 u' E Bs1 lo hi md st V W f0 f1):EUp u u' E Bs lo hi md st V W f0 f1:=by
 obtain ⟨hx,Bs2,ha,hb⟩:=h2;have hs:=h.size;refine ⟨h.fresh' hx (fun k hk e=>(hB k e).resolve_right (by omega)),Bs2,ha,fun k hk=>?_⟩;rcases hb k hk with e | e
 . exact hB k e
 . exact .inr (by omega)
theorem EUp.after (h:EUp u u' E Bs lo hi md st V W f0 f1) (hx:Ext u' u''):EUp u u'' E Bs lo hi md st V W f0 f1:=by
 obtain ⟨j1,j2,j3,j4⟩:=h;exact ⟨j1.fresh' hx (fun _ _ h=>h.elim),j2,j3.ext hx,j4⟩
theorem EUp.before {u0:World} (hx:Ext u u0) (h:EUp u0 u' E Bs lo hi md st V W f0 f1):EUp u u' E Bs lo hi md st V W f0 f1 :=
 EUp.trans (hx.mono (fun _ _ h=>h.elim)) (fun _k hk=>.inl hk) h
def zjp (V:List Out) (c:Out × Bool):List Out:=if c.2 then V.erase c.1 else c.1 :: V
theorem znO (h:EAt u E Bs lo hi md st V W f0 f1) (x:Out) (g:Bool) (hok:x.ok) (hv:g = true -> x ∈ V) (hl:V.length < 1000000) :
 Calls Tryz.prog 96 #[.pointer (some ⟨E,4,none⟩),encC x g] u fun e u'=>e = .returned .nilIface /\ EUp u u' E Bs lo hi md st (zjp V (x,g)) W f0 f1:=by
 obtain ⟨P,M,v0,v1,D,DG,ents,h,rfl⟩:=h;have fin:∀ (u':World) (D':Option Nat) (V':List Out),Grew u D D' -> ExtM (bagM E D) u u' -> zaB u' E 4 D' V' -> zaL E 4 u u' -> EUp u u' E (zeA E P M v0 v1 D DG ents) lo hi md st V' W f0 f1:=fun u' D' V' hg hx hb ho=>by
  have hgf:=fun k hk=>h.grp.foot k hk;have hjf:=fun k hk=>h.join.foot k hk;have hD':∀ k,bagM E D' k -> bagM E D k \/ u.heap.size <= k:=fun k hk=>by
   rcases hg with rfl | ⟨rfl,d,rfl,hd⟩
   . exact .inl hk
   . rcases hk with rfl | hk
     . exact .inl (.inl rfl)
     . obtain rfl:=Option.some.inj hk;exact .inr hd
  refine ⟨hx.mono fun k _ hk=>.inr (.inl hk),_,⟨P,M,v0,v1,D',DG,ents,?_,rfl⟩,fun k hk=>?_⟩
  . refine ⟨(ho.cell 0 (by decide) (by decide)).trans h.c0,(ho.cell 1 (by decide) (by decide)).trans h.c1,(ho.cell 2 (by decide) (by decide)).trans h.c2,(ho.cell 3 (by decide) (by decide)).trans h.c3,hb,
     h.grp.of' hx (ho.cell 6 (by decide) (by decide)) (ho.frz 6) (fun k hk hb=>?_),h.rep,(ho.cell 7 (by decide) (by decide)).trans h.c7,(ho.cell 8 (by decide) (by decide)).trans h.c8,fun q=>(ho.frz q).trans (h.fz q),
     h.join.extM hx (h.sJ P (.inl rfl)).1 (h.sJ M (.inr (.inl rfl))).1 (fun k hk=>(h.sJ k (.inr (.inr (.inl hk)))).1) (fun k hk=>(h.sJ k (.inr (.inr (.inr hk)))).1),fun k hk=>⟨fun e=>?_,(h.sJ k hk).2⟩,fun k hk e=>?_,h.okA,h.okB⟩
    . rcases hb with rfl | hb
      . rcases hk with hk | ⟨e,he,hk⟩
        . rcases h.grp.mp with ⟨h1,-⟩ | ⟨d,h1,h2,-⟩
          . rw [h1] at hk;cases hk
          . rw [h1] at hk;exact h2 (Option.some.inj hk)
        . exact (h.grp.away e he _ hk).1 rfl
      . exact h.sB k hb (.inr hk)
    . rcases hD' k e with e | e
      . exact (h.sJ k hk).1 e
      . have:=hjf k hk;omega
    . rcases hD' k (.inr hk) with e' | e'
      . rcases e' with rfl | e'
        . rcases hb.mp with ⟨h1,-⟩ | ⟨d,m,h1,h2,-⟩
          . rw [h1] at hk;cases hk
          . rw [h1] at hk;exact h2 (Option.some.inj hk)
        . exact h.sB k e' e
      . have:=hgf k e;omega
  . rcases hk with hk | hk | hk
    . exact .inl (.inl hk)
    . rcases hD' k hk with e | e
      . exact .inl (.inr (.inl e))
      . exact .inr e
    . exact .inl (.inr (.inr hk))
 cases g with
 | false =>
   refine (znV E 4 D V x u h.bag hok (by omega)).mono ?_;rintro e u' ⟨he,D',hg,hx,hb,ho⟩;exact ⟨he,fin u' D' _ hg hx hb ho⟩
 | true =>
   refine (zmj E 4 D V x u h.bag (hv rfl) (by omega)).mono ?_;rintro e u' ⟨he,hx,hb,ho⟩;exact ⟨he,fin u' D _ (.inl rfl) hx hb ho⟩
theorem zpf (h:EAt u E Bs lo hi md st V W f0 f1) (x:Out) (g:Bool) (hok:x.ok) (hv:g = true -> x ∈ W) (hl:W.length < 1000000) :
 Calls Tryz.prog 97 #[.pointer (some ⟨E,6,none⟩),encC x g] u fun e u'=>e = .returned .nilIface /\ EUp u u' E Bs lo hi md st V (zjp W (x,g)) f0 f1:=by
 obtain ⟨P,M,v0,v1,D,DG,ents,h,rfl⟩:=h;have fin:∀ (u':World) (DG':Option Nat) (ents':List Ent) (W':List Out),za6 u' E 6 DG' ents' -> za7 ents' W' -> zgk u u' E 6 DG DG' ents ents' -> EUp u u' E (zeA E P M v0 v1 D DG ents) lo hi md st V W' f0 f1:=fun u' DG' ents' W' hg hr ht=>by
  have hbf:=fun k hk=>h.bag.foot k hk;have hjf:=fun k hk=>h.join.foot k hk;have ho:=ht.only;refine ⟨ht.ext.mono fun k _ hk=>.inr (.inr hk),_,⟨P,M,v0,v1,D,DG',ents',?_,rfl⟩,fun k hk=>?_⟩
  . refine ⟨(ho.cell 0 (by decide)).trans h.c0,(ho.cell 1 (by decide)).trans h.c1,(ho.cell 2 (by decide)).trans h.c2,(ho.cell 3 (by decide)).trans h.c3,
     h.bag.of' ht.ext (fun q hq=>ho.cell q (by omega)) ho.frz (fun d hd=>h.sB d hd),hg,hr,(ho.cell 7 (by decide)).trans h.c7,(ho.cell 8 (by decide)).trans h.c8,fun q=>(ho.frz q).trans (h.fz q),
     h.join.extM ht.ext (h.sJ P (.inl rfl)).2 (h.sJ M (.inr (.inl rfl))).2 (fun k hk=>(h.sJ k (.inr (.inr (.inl hk)))).2) (fun k hk=>(h.sJ k (.inr (.inr (.inr hk)))).2),fun k hk=>⟨(h.sJ k hk).1,fun e=>?_⟩,fun k hk e=>?_,h.okA,h.okB⟩
    . rcases ht.foot k e with e | e
      . exact (h.sJ k hk).2 e
      . have:=hjf k hk;omega
    . rcases ht.foot k e with e | e
      . exact h.sB k hk e
      . have:=hbf k (.inr hk);omega
  . rcases hk with hk | hk | hk
    . exact .inl (.inl hk)
    . exact .inl (.inr (.inl hk))
    . rcases ht.foot k hk with e | e
      . exact .inl (.inr (.inr e))
      . exact .inr e
 cases g with
 | false =>
   refine (zo6 E 6 DG ents W x u h.grp h.rep hok hl).mono ?_;rintro e u' ⟨he,D',e',g1,g2,g3⟩;exact ⟨he,fin u' D' e' _ g1 g2 g3⟩
 | true =>
   refine (zof E 6 DG ents W x u h.grp h.rep (hv rfl) hok hl).mono ?_;rintro e u' ⟨he,D',e',g1,g2,g3⟩;exact ⟨he,fin u' D' e' _ g1 g2 g3⟩
theorem znf (h:EAt u E Bs lo hi md st V W f0 f1) (hl:V.length < 1000000) :
 Calls Tryz.prog 61 #[.pointer (some ⟨E,4,none⟩)] u (zh4 u (sortO V)):=by
 obtain ⟨P,M,v0,v1,D,DG,ents,h,rfl⟩:=h;exact zpk E 4 D V u h.bag hl
end
theorem zcd {w:World} {b:Nat} {v:Value} {L:List (Out × Bool)} (h:CRow w b v L) (x:Nat) (X:Out × Bool) (hx:L[x]? = some X) :
 ∃ g cap,v = .slice (some ⟨g,0,none⟩) L.length cap /\ g < w.heap.size /\ ∀ c v,(chgL X)[c]? = some v -> w.cell? ⟨g,x * 10 + c,none⟩ = some v:=by
 obtain ⟨hlt,rfl⟩:=List.getElem?_eq_some_iff.1 hx;obtain ⟨g,cap,rfl,hg,h0,-⟩:=zaJ (enc:=chgL) zfv h x 0 hlt (by omega);refine ⟨g,cap,rfl,hg,fun c v hv=>?_⟩;have hc:c < 10:=by
  have:=(List.getElem?_eq_some_iff.1 hv).1
  rwa [zfv] at this
 obtain ⟨g',cap',e1,-,e2,-⟩:=zaJ (enc:=chgL) zfv h x c hlt hc;simp only [Value.slice.injEq,Option.some.injEq,Addr.mk.injEq,and_true,true_and] at e1;rw [e1.1];exact e2.trans hv
theorem zoh (a:Out × Bool) (w:World):(binOp .neq 92 (.agg #[.int .i64 a.1.key,.int .i64 a.1.l.k,.int .i64 a.1.l.t,.int .i64 a.1.l.v,.int .i64 a.1.r.k,.int .i64 a.1.r.t,.int .i64 a.1.r.v,.bool a.1.hl,.bool a.1.hr,.bool a.2]) (.agg #[.int .i64 a.1.key,.int .i64 a.1.l.k,.int .i64 a.1.l.t,.int .i64 a.1.l.v,.int .i64 a.1.r.k,.int .i64 a.1.r.t,.int .i64 a.1.r.v,.bool a.1.hl,.bool a.1.hr,.bool a.2])).run Tryz.prog w = .ok (.bool false) w:=by
 obtain ⟨⟨a1,⟨a2,a3,a4⟩,⟨a5,a6,a7⟩,a8,a9⟩,a10⟩:=a;go_simp
theorem zfJ (b1 b2:Nat) (v1 v2:Value) (L:List (Out × Bool)) (w:World) (h1:CRow w b1 v1 L) (h2:CRow w b2 v2 L) (hl:L.length < 1000000) :
 Calls Tryz.prog 10 #[v1,v2] w fun e w'=>e = .returned (.bool true) /\ Ext w w':=by
 obtain ⟨p1,c1,rfl,-⟩:=zaa h1;obtain ⟨p2,c2,rfl,-⟩:=zaa h2;go_enter Tryz.func10,Tryz.ntmps10;go_wp2_with fail;go_loopg [5] (L.length + 1) (fun kx s5 wr=>∃ (i:Nat),s5 = .int .i64 i /\ i <= L.length /\ L.length - i <= kx /\ Ext w wr)
 case atStart=>exact ⟨0,rfl,by omega,by omega,ExtM.refl _⟩
 case round =>
  obtain ⟨i,rfl,hi,hgk,hx⟩:=hrel;by_cases hlt:i < L.length
  . obtain ⟨g,rc,e1,hg,hc⟩:=zcd (h1.of hx) i L[i] (List.getElem?_eq_getElem hlt);simp only [Value.slice.injEq,true_and] at e1;obtain ⟨rfl,rfl⟩:=e1;obtain ⟨g',rc',e2,hg',hc'⟩:=zcd (h2.of hx) i L[i] (List.getElem?_eq_getElem hlt);simp only [Value.slice.injEq,true_and] at e2;obtain ⟨rfl,rfl⟩:=e2;generalize L[i] = X at *;have x0:=hc 0 _ rfl;have x1:=hc 1 _ rfl;have x2:=hc 2 _ rfl;have x3:=hc 3 _ rfl;have x4:=hc 4 _ rfl;have x5:=hc 5 _ rfl;have x6:=hc 6 _ rfl;have x7:=hc 7 _ rfl;have x8:=hc 8 _ rfl;have x9:=hc 9 _ rfl;have y0:=hc' 0 _ rfl;have y1:=hc' 1 _ rfl;have y2:=hc' 2 _ rfl;have y3:=hc' 3 _ rfl;have y4:=hc' 4 _ rfl;have y5:=hc' 5 _ rfl;have y6:=hc' 6 _ rfl;have y7:=hc' 7 _ rfl;have y8:=hc' 8 _ rfl;have y9:=hc' 9 _ rfl;simp only [Nat.add_zero] at x0 y0;have hne:=fun u=>zoh X u;clear hc hc';go_wp2_with fail;refine Plan.b0 Plan.Ext 9 ?_;refine Plan.qs 9 [0,1,2,3,4,5,6,7,8] ?_;iterate 9 go_big_quiet_step (fail)
    refine Plan.dn ?_;go_wp2_with fail;go_roundg (L.length - (i + 1))
    case measure=>omega
    case rel=>exact ⟨i + 1,by go_num,by omega,Nat.le_refl _,hx.drew⟩
  . have hz:decide ((i:Int) < (L.length:Int)) = false:=by simp;omega
    go_wp2_with fail;go_ret;exact ⟨rfl,hx⟩
theorem zhu (V:List Out) (c:Out × Bool) (cs:List (Out × Bool)):zaH V (c :: cs) = zaH (zjp V c) cs:=rfl
theorem zlw (V:List Out) (c:Out × Bool):(zjp V c).length <= V.length + 1:=by
 unfold zjp;split
 . exact Nat.le_trans List.length_erase_le (by omega)
 . simp
theorem zc1 {u:World} {E:Nat} {Bs:Nat -> Prop} {lo hi md:Int} {st:JSt} {V:List Out} {f0 f1:Int} (h:EAt u E Bs lo hi md st V V f0 f1) (b:Nat) (vo:Value) (cs:List (Out × Bool)) (hrow:CRow u b vo cs) (hsep:∀ k,vo.ownBlock = some k -> ¬ Bs k)
 (hok:∀ c ∈ cs,c.1.ok) (hv:zb1 V cs) (hl:V.length + cs.length < 1000000) :
 Calls Tryz.prog 45 #[.pointer (some ⟨E,0,none⟩),vo] u fun e u'=>e = .returned (.tuple #[]) /\ EUp u u' E Bs lo hi md st (zaH V cs) (zaH V cs) f0 f1:=by
 obtain ⟨p,cap,rfl,-⟩:=zaa hrow;have hrl:=fun k hk=>(zaf hrow k hk).2;go_enter Tryz.func45,Tryz.ntmps45;go_wp2_with fail;go_loopg [8] (cs.length + 1) (fun kx s8 wr=>∃ (i:Nat) (V':List Out),s8 = .int .i64 i /\ i <= cs.length /\ cs.length - i <= kx /\ EUp u wr E Bs lo hi md st V' V' f0 f1 /\ zb1 V' (cs.drop i) /\ zaH V' (cs.drop i) = zaH V cs /\ V'.length <= V.length + i)
 case atStart=>exact ⟨0,V,rfl,by omega,by omega,EUp.same h (ExtM.refl _),hv,rfl,by omega⟩
 case round =>
  obtain ⟨i,V',rfl,hi,hgk,hup,hv',hav,hlen⟩:=hrel;have HV:=Lib.hid hv';have HA:=Lib.hid hav;clear hv' hav;by_cases hil:i < cs.length
  . have hdr:cs.drop i = cs[i] :: cs.drop (i + 1):=List.drop_eq_getElem_cons hil;obtain ⟨hx,Bs1,hat,hB1⟩:=id hup;have hrow1:CRow wr b _ cs:=zag hrow hx (fun k hk=>hsep k hk);obtain ⟨g,rc,e1,hg,hc⟩:=zcd hrow1 i cs[i] (List.getElem?_eq_getElem hil);simp only [Value.slice.injEq,true_and] at e1;obtain ⟨rfl,rfl⟩:=e1;have hck:=hok _ (List.getElem_mem hil);have HDR:=Lib.hid hdr;clear hdr;generalize cs[i] = c at *;obtain ⟨x,gg⟩:=c;have y0:=hc 0 _ rfl;have y1:=hc 1 _ rfl;have y2:=hc 2 _ rfl;have y3:=hc 3 _ rfl;have y4:=hc 4 _ rfl;have y5:=hc 5 _ rfl;have y6:=hc 6 _ rfl;have y7:=hc 7 _ rfl;have y8:=hc 8 _ rfl;have y9:=hc 9 _ rfl;simp only [Nat.add_zero] at y0 y1 y2 y3 y4 y5 y6 y7 y8 y9;have hvc:=HV.out;rw [HDR.out] at hvc;have HVC:=Lib.hid hvc;clear hc hvc;go_upto_region 3 with fail;have bx:=BoxC.mk' wr x gg 92;have hxa:Ext wr (wr.alloc (.cells #[.int .i64 x.key,.int .i64 x.l.k,.int .i64 x.l.t,.int .i64 x.l.v,.int .i64 x.r.k,.int .i64 x.r.t,.int .i64 x.r.v,.bool x.hl,.bool x.hr,.bool gg] 92)):=(ExtM.refl _).alloc _;have hat2:=hat.ext hxa;have hnB:¬ Bs1 wr.heap.size:=fun e=>by have:=hat.lt _ e;omega
    have hup2:=EUp.after hup hxa;clear y0 y1 y2 y3 y4 y5 y6 y7 y8 y9 hup hat hxa hrow1;generalize wr.alloc (.cells #[.int .i64 x.key,.int .i64 x.l.k,.int .i64 x.l.t,.int .i64 x.l.v,.int .i64 x.r.k,.int .i64 x.r.t,.int .i64 x.r.v,.bool x.hl,.bool x.hr,.bool gg] 92) = w1 at *;generalize wr.heap.size = n at *;have hlE:=hat2.lt _ hat2.mine;have hln:n < w1.heap.size:=zac bx.e0;have hl1:V'.length < 1000000:=by omega
    obtain ⟨e0,e1,e2,e3,e4,e5,e6,e7,e8,e9⟩:=id bx;refine Plan.bT Plan.Ext [4] 5 ?_;refine Plan.qs 1 [3] ?_;go_big_quiet_step (fail);refine Plan.o1 0 fun K hK=>?_;go_wp2_with (fail);refine hK _ _ (ExtM.refl _) ?_;clear hK K;refine Plan.o1 1 fun K hK=>?_;go_wp2_with (fail);refine hK _ _ (ExtM.refl _) ?_;clear hK K;refine Plan.qs 1 [2] ?_;go_big_quiet_step (fail);refine Plan.ol 4 fun K hK=>?_;go_wp2_with (fail);refine (znO (hat2.ext (ExtM.refl _).drew) x gg hck (fun hg=>HVC.out.1 hg) hl1).mono ?_;rintro e w2 ⟨rfl,hu2⟩;go_wp2_with (fail);refine Plan.dn ?_;have hu2':=EUp.before ((ExtM.refl w1).drew) hu2;clear hu2 e0 e1 e2 e3 e4 e5 e6 e7 e8 e9 hlE;obtain ⟨hx2,Bs2,hat3,hB2⟩:=id hu2';have bx2:=bx.of hx2 hnB;have hlE:=hat3.lt _ hat3.mine;have hln2:n < w2.heap.size:=zac bx2.e0;obtain ⟨e0,e1,e2,e3,e4,e5,e6,e7,e8,e9⟩:=id bx2;go_wp2_with fail;refine Plan.bT Plan.Ext [4] 5 ?_;refine Plan.qs 1 [3] ?_;go_big_quiet_step (fail);refine Plan.o1 0 fun K hK=>?_;go_wp2_with (fail);refine hK _ _ (ExtM.refl _) ?_;clear hK K;refine Plan.o1 1 fun K hK=>?_;go_wp2_with (fail);refine hK _ _ (ExtM.refl _) ?_;clear hK K;refine Plan.qs 1 [2] ?_;go_big_quiet_step (fail);refine Plan.ol 4 fun K hK=>?_;go_wp2_with (fail);refine (zpf (hat3.ext (ExtM.refl _).drew) x gg hck (fun hg=>HVC.out.1 hg) hl1).mono ?_;rintro e w4 ⟨rfl,hu4⟩;go_wp2_with (fail);refine Plan.dn ?_;have hu4':=EUp.before ((ExtM.refl w2).drew) hu4;have hfin:=EUp.trans hup2.1 hB1 (EUp.trans hx2 hB2 hu4');have HF:=Lib.hid hfin;clear hu4 hfin hu4' hu2' e0 e1 e2 e3 e4 e5 e6 e7 e8 e9 hlE;go_wp2_with fail;go_roundg (cs.length - (i + 1))
    case measure=>omega
    case rel =>
     have hav:=HA.out;rw [HDR.out,zhu] at hav;refine ⟨i + 1,zjp V' (x,gg),by go_num,by omega,Nat.le_refl _,HF.out,HVC.out.2,hav,?_⟩
     have:=zlw V' (x,gg)
     omega
  . obtain rfl:i = cs.length:=by omega
    have hz:decide (cs.length < cs.length) = false:=by simp
    go_wp2_with fail;go_end0
    have:=HA.out
    rw [List.drop_length] at this;refine ⟨rfl,?_⟩;rw [<- this];exact hup
end Go.Proofs.YtmcgnnmffeojpabGreatDoor
namespace Go.Plan
theorem ExtK.of_M {M:Nat -> Prop} {B:Nat} {w w':World} (h:ExtM M w w') (hB:¬ M B):ExtK B w w':=ExtM.mono h (fun _ _ hk e=>hB (e ▸ hk))
def ExtL (B C:Nat) (w w':World):Prop:=ExtM (fun k=>¬ (k = B \/ k = C)) w w'
theorem ExtL.refl {B C:Nat} (w:World):ExtL B C w w:=ExtM.refl w
theorem ExtL.trans {B C:Nat} (a b c:World) (h:ExtL B C a b) (k:ExtL B C b c):ExtL B C a c:=ExtM.trans _ _ _ h k
instance {B C:Nat}:Std.Refl (ExtL B C):=⟨ExtL.refl⟩
instance {B C:Nat}:Trans (ExtL B C) (ExtL B C) (ExtL B C):=⟨fun h k=>ExtL.trans _ _ _ h k⟩
theorem ExtL.of_M {M:Nat -> Prop} {B C:Nat} {w w':World} (hB:¬ M B) (hC:¬ M C) (h:ExtM M w w'):ExtL B C w w':=ExtM.mono h (fun _ _ hk e=>e.elim (fun e=>hB (e ▸ hk)) (fun e=>hC (e ▸ hk)))
theorem ExtL.drew {B C:Nat} {a w:World} (h:ExtL B C a w):ExtL B C a w.drew:=ExtM.drew h
theorem ExtL.size {B C:Nat} {w w':World} (h:ExtL B C w w'):w.heap.size <= w'.heap.size:=ExtM.size h
theorem ExtL.cells {B C:Nat} {w w':World} (h:ExtL B C w w') (b o:Nat) (hb:b = B \/ b = C) (hl:b < w.heap.size):w'.cell? ⟨b,o,none⟩ = w.cell? ⟨b,o,none⟩ /\ w'.frozen? ⟨b,o,none⟩ = w.frozen? ⟨b,o,none⟩ :=
 ⟨ExtM.cell h (p:=⟨b,o,none⟩) hl (fun e=>e hb),ExtM.frozen h (p:=⟨b,o,none⟩) hl (fun e=>e hb)⟩
theorem ExtL.rules {B C:Nat} {w w':World} (_:ExtL B C w w'):True /\ True /\ True:=⟨trivial,trivial,trivial⟩
@[go_sem] theorem cell?_extL (B C:Nat) (w p:World) (o:Nat) (hb:B < w.heap.size):(Plan.ext (ExtL B C) w p).cell? ⟨B,o,none⟩ = w.cell? ⟨B,o,none⟩:=((zb7 ExtL.refl w p).cells B o (.inl rfl) hb).1
@[go_sem] theorem cell?_extL' (B C:Nat) (w p:World) (o:Nat) (hb:C < w.heap.size):(Plan.ext (ExtL B C) w p).cell? ⟨C,o,none⟩ = w.cell? ⟨C,o,none⟩:=((zb7 ExtL.refl w p).cells C o (.inr rfl) hb).1
@[go_sem] theorem cell?_extL_drew (B C:Nat) (w p:World) (o:Nat) (hb:B < w.heap.size):(Plan.ext (ExtL B C) w.drew p).cell? ⟨B,o,none⟩ = w.cell? ⟨B,o,none⟩:=cell?_extL B C w.drew p o hb
@[go_sem] theorem cell?_extL_drew' (B C:Nat) (w p:World) (o:Nat) (hb:C < w.heap.size):(Plan.ext (ExtL B C) w.drew p).cell? ⟨C,o,none⟩ = w.cell? ⟨C,o,none⟩:=cell?_extL' B C w.drew p o hb
end Go.Plan
namespace Go.Proofs.YtmcgnnmffeojpabGreatDoor
open Go.RowKit Go.Plan
theorem Row.ok_good {r:Row} (h:za3 r.k r.t r.v = true):r.ok:=by
 unfold za3 inB at h;simp only [Bool.and_eq_true,decide_eq_true_eq] at h;unfold Row.ok I64;omega
theorem zim {lo hi:Int} {s:Nat} {r:Row} {st:JSt} (hs:s < 2) (hA:∀ h ∈ st.a,h.r.ok) (hB:∀ h ∈ st.b,h.r.ok):(∀ h ∈ (zam lo hi s r st).a,h.r.ok) /\ ∀ h ∈ (zam lo hi s r st).b,h.r.ok:=by
 unfold zam;simp only;split
 . exact ⟨hA,hB⟩
 . split
   . rename_i hE;have hr:r.ok:=by
      unfold feedE at hE;by_cases h1:za3 r.k r.t r.v = false
      . rw [if_pos h1] at hE;cases hE
      . exact Row.ok_good (by simpa using h1)
     have hmap:∀ (p:Hd -> Bool) (l:List Hd),(∀ h ∈ l,h.r.ok) -> ∀ h ∈ l.map (zao p),h.r.ok:=fun p l hl h hh=>by
      obtain ⟨g,hg,rfl⟩:=List.mem_map.1 hh;rw [zi9];exact hl g hg
     have hadd:∀ (l:List Hd) (m:Int),(∀ h ∈ l,h.r.ok) -> ∀ h ∈ addH l ⟨r,m⟩,h.r.ok:=fun l m hl h hh=>by
      rcases List.mem_cons.1 ((zey l ⟨r,m⟩).mem_iff.1 hh) with rfl | hh
      . exact hr
      . exact hl h hh
     have hs':s = 0 \/ s = 1:=by omega
     rcases hs' with rfl | rfl
     . split
       . exact ⟨hadd _ _ hA,hmap _ _ hB⟩
       . exact ⟨hA,hmap _ _ hB⟩
     . split
       . exact ⟨hmap _ _ hA,hadd _ _ hB⟩
       . exact ⟨hmap _ _ hA,hB⟩
   . exact ⟨hA,hB⟩
section
variable {u u':World} {E P M:Nat} {v0 v1:Value} {D DG:Option Nat} {ents:List Ent} {lo hi md:Int} {st:JSt} {V W:List Out} {f0 f1:Int}
theorem EIs.joins {st':JSt} (h:EIs u E P M v0 v1 D DG ents lo hi md st V W f0 f1) (hu:JUp u u' P M (zaE P M v0 v1) lo hi md st') (hA:∀ h ∈ st'.a,h.r.ok) (hB:∀ h ∈ st'.b,h.r.ok) :
 ∃ v0' v1',JIs u' P M v0' v1' lo hi md st' /\ EIs u' E P M v0' v1' D DG ents lo hi md st' V W f0 f1 /\ ∀ k,zeA E P M v0' v1' D DG ents k -> zeA E P M v0 v1 D DG ents k \/ u.heap.size <= k:=by
 obtain ⟨hx,Bs',⟨v0',v1',hj,rfl⟩,hb⟩:=hu;have hE:¬ zaE P M v0 v1 E:=fun e=>(h.sJ E e).1 (.inl rfl);have k:=fun o=>hx.cell (p:=⟨E,o,none⟩) h.lt hE;have kf:=fun o=>hx.frozen (p:=⟨E,o,none⟩) h.lt hE;refine ⟨v0',v1',hj,?_,fun k hk=>?_⟩
 . refine ⟨(k _).trans h.c0,(k _).trans h.c1,(k _).trans h.c2,(k _).trans h.c3,h.bag.of hx hE (fun d hd e=>(h.sJ d e).1 (.inr hd)),h.grp.of hx (fun k hk e=>(h.sJ k e).2 hk),h.rep,(k _).trans h.c7,(k _).trans h.c8,fun q=>(kf q).trans (h.fz q),hj,fun k hk=>?_,h.sB,hA,hB⟩;rcases hb k hk with e | e
   . exact h.sJ k e
   . exact ⟨fun q=>by have:=h.bag.foot k q;omega,fun q=>by have:=h.grp.foot k q;omega⟩
 . rcases hk with hk | hk
   . rcases hb k hk with e | e
     . exact .inl (.inl e)
     . exact .inr e
   . exact .inl (.inr hk)
end
theorem zcC {w:World} {b:Nat} {vo v:Value} {cs:List (Out × Bool)} {hs:List Hd} (hr:CRow w b vo cs) (h:HRow w v hs) (k:Nat) (hk:vo.ownBlock = some k) (hv:v.ownBlock = some k):False:=by
 unfold CRow World.ownsRow at hr;unfold HRow World.ownsRow at h;rcases hr.2 with ⟨rfl,-⟩ | ⟨g,cap,cur,rfl,-,hg,-⟩
 . cases hk
 . rcases h.2 with ⟨rfl,-⟩ | ⟨g',cap',cur',rfl,-,hg',-⟩
   . cases hv
   . obtain rfl:g = k:=Option.some.inj hk;obtain rfl:g' = g:=Option.some.inj hv;rw [hg] at hg';simp at hg'
theorem zoF {md:Int} {s:Nat} {r:Row} {ms:List Hd} (hr:r.ok) (hm:∀ m ∈ ms,m.r.ok):∀ c ∈ chgs md s r ms,c.1.ok:=by
 have z:Row.ok ⟨0,0,0⟩:=by unfold Row.ok I64;decide
 have hl:∀ (s:Nat) (x:Row),x.ok -> (zan s x).ok:=fun s x hx=>by unfold zan;split <;> exact ⟨hx.1,by assumption,by assumption⟩
 intro c hc;unfold chgs at hc;rcases List.mem_append.1 hc with hc | hc
 . obtain ⟨m,hm',hc⟩:=List.mem_flatMap.1 hc;have hmr:=hm m hm';unfold chg1 at hc;rcases List.mem_append.1 hc with hc | hc
   . split at hc
     . rw [List.mem_singleton] at hc;subst hc;exact hl _ _ hmr
     . cases hc
   . rw [List.mem_singleton] at hc;subst hc;simp only;split
     . exact ⟨hr.1,hr,hmr⟩
     . exact ⟨hmr.1,hmr,hr⟩
 . split at hc
   . rw [List.mem_singleton] at hc;subst hc;exact hl _ _ hr
   . cases hc
theorem zi8 {lo hi md:Int} {s:Nat} {r:Row} {st:JSt} (hA:∀ h ∈ st.a,h.r.ok) (hB:∀ h ∈ st.b,h.r.ok):∀ c ∈ zaj lo hi md s r st,c.1.ok:=by
 unfold zaj;split
 . rename_i hE;have hr:r.ok:=by
    unfold feedE at hE;by_cases h1:za3 r.k r.t r.v = false
    . rw [if_pos h1] at hE;cases hE
    . exact Row.ok_good (by simpa using h1)
   exact zoF hr fun m hm=>by
    have:=(List.mem_filter.1 hm).1
    unfold JSt.of at this;split at this
    . exact hA m this
    . exact hB m this
 . exact fun c hc=>nomatch hc
theorem zgU (lo hi md:Int) (s:Nat) (r:Row) (st:JSt) (la:st.a.length <= 300) (lb:st.b.length <= 300):(zaj lo hi md s r st).length <= 601:=by
 unfold zaj;split
 . rw [zbD,List.length_append];have h1:=zaK md s r ((st.of (1 - s)).filter (zab r.k (frI lo hi s r.t) (tilI lo hi s r.t)));have h2:((st.of (1 - s)).filter (zab r.k (frI lo hi s r.t) (tilI lo hi s r.t))).length <= 300:=Nat.le_trans (List.length_filter_le _ _) (by unfold JSt.of;split <;> assumption);have h3:∀ b:Bool,(if b = true then [(zan s r,false)] else []:List (Out × Bool)).length <= 1:=fun b=>by cases b <;> simp
   have:=h3 (decide (((st.of (1 - s)).filter (zab r.k (frI lo hi s r.t) (tilI lo hi s r.t))).length = 0) && zai md s)
   omega
 . simp
theorem EIs.fed0 {u:World} {E P M:Nat} {v0 v1:Value} {D DG:Option Nat} {ents:List Ent} {lo hi md:Int} {st:JSt} {V W:List Out} {f0 f1:Int} (h:EIs u E P M v0 v1 D DG ents lo hi md st V W f0 f1) (x:Int) :
 EIs (u.setCell ⟨E,7,none⟩ (.int .i64 x)) E P M v0 v1 D DG ents lo hi md st V W x f1 /\ ExtM (fun k=>k = E) u (u.setCell ⟨E,7,none⟩ (.int .i64 x)):=by
 have hx:ExtM (fun k=>k = E) u (u.setCell ⟨E,7,none⟩ (.int .i64 x)):=ExtM.setCell (M:=fun k=>k = E) (ExtM.refl u) (p:=⟨E,7,none⟩) (.inr rfl) _;have hc:∀ o,o ≠ 7 -> (u.setCell ⟨E,7,none⟩ (.int .i64 x)).cell? ⟨E,o,none⟩ = u.cell? ⟨E,o,none⟩:=fun o ho=>World.cell?_setCell_other _ _ _ _ (by intro e;simp only [Addr.mk.injEq,and_true,true_and] at e;omega);have hf:∀ o,(u.setCell ⟨E,7,none⟩ (.int .i64 x)).frozen? ⟨E,o,none⟩ = u.frozen? ⟨E,o,none⟩:=fun o=>World.frozen?_setCell _ _ _ _;have hj:∀ k,zaE P M v0 v1 k -> ¬ k = E:=fun k hk e=>by subst e;exact (h.sJ _ hk).1 (.inl rfl)
 refine ⟨⟨(hc 0 (by decide)).trans h.c0,(hc 1 (by decide)).trans h.c1,(hc 2 (by decide)).trans h.c2,(hc 3 (by decide)).trans h.c3,h.bag.of' hx (fun q hq=>hc q (by omega)) hf (fun d hd e=>?_),
  h.grp.of' hx (hc 6 (by decide)) (hf 6) (fun k hk e=>?_),h.rep,World.cell?_setCell_same _ _ _ h.c7,(hc 8 (by decide)).trans h.c8,fun q=>(hf q).trans (h.fz q),h.join.extM hx (hj P (.inl rfl)) (hj M (.inr (.inl rfl))) (fun k hk=>hj k (.inr (.inr (.inl hk)))) (fun k hk=>hj k (.inr (.inr (.inr hk)))),h.sJ,h.sB,h.okA,h.okB⟩,hx⟩
 . subst e;rcases h.bag.mp with ⟨h1,-⟩ | ⟨d,m,h1,h2,-⟩
   . rw [h1] at hd;cases hd
   . rw [h1] at hd;exact h2 (Option.some.inj hd)
 . subst e;rcases hk with hk | ⟨e,he,hk⟩
   . rcases h.grp.mp with ⟨h1,-⟩ | ⟨d,h1,h2,-⟩
     . rw [h1] at hk;cases hk
     . rw [h1] at hk;exact h2 (Option.some.inj hk)
   . exact (h.grp.away e he _ hk).1 rfl
theorem EIs.fed1 {u:World} {E P M:Nat} {v0 v1:Value} {D DG:Option Nat} {ents:List Ent} {lo hi md:Int} {st:JSt} {V W:List Out} {f0 f1:Int} (h:EIs u E P M v0 v1 D DG ents lo hi md st V W f0 f1) (x:Int) :
 EIs (u.setCell ⟨E,8,none⟩ (.int .i64 x)) E P M v0 v1 D DG ents lo hi md st V W f0 x /\ ExtM (fun k=>k = E) u (u.setCell ⟨E,8,none⟩ (.int .i64 x)):=by
 have hx:ExtM (fun k=>k = E) u (u.setCell ⟨E,8,none⟩ (.int .i64 x)):=ExtM.setCell (M:=fun k=>k = E) (ExtM.refl u) (p:=⟨E,8,none⟩) (.inr rfl) _;have hc:∀ o,o ≠ 8 -> (u.setCell ⟨E,8,none⟩ (.int .i64 x)).cell? ⟨E,o,none⟩ = u.cell? ⟨E,o,none⟩:=fun o ho=>World.cell?_setCell_other _ _ _ _ (by intro e;simp only [Addr.mk.injEq,and_true,true_and] at e;omega);have hf:∀ o,(u.setCell ⟨E,8,none⟩ (.int .i64 x)).frozen? ⟨E,o,none⟩ = u.frozen? ⟨E,o,none⟩:=fun o=>World.frozen?_setCell _ _ _ _;have hj:∀ k,zaE P M v0 v1 k -> ¬ k = E:=fun k hk e=>by subst e;exact (h.sJ _ hk).1 (.inl rfl)
 refine ⟨⟨(hc 0 (by decide)).trans h.c0,(hc 1 (by decide)).trans h.c1,(hc 2 (by decide)).trans h.c2,(hc 3 (by decide)).trans h.c3,h.bag.of' hx (fun q hq=>hc q (by omega)) hf (fun d hd e=>?_),
  h.grp.of' hx (hc 6 (by decide)) (hf 6) (fun k hk e=>?_),h.rep,(hc 7 (by decide)).trans h.c7,World.cell?_setCell_same _ _ _ h.c8,fun q=>(hf q).trans (h.fz q),h.join.extM hx (hj P (.inl rfl)) (hj M (.inr (.inl rfl))) (fun k hk=>hj k (.inr (.inr (.inl hk)))) (fun k hk=>hj k (.inr (.inr (.inr hk)))),h.sJ,h.sB,h.okA,h.okB⟩,hx⟩
 . subst e;rcases h.bag.mp with ⟨h1,-⟩ | ⟨d,m,h1,h2,-⟩
   . rw [h1] at hd;cases hd
   . rw [h1] at hd;exact h2 (Option.some.inj hd)
 . subst e;rcases hk with hk | ⟨e,he,hk⟩
   . rcases h.grp.mp with ⟨h1,-⟩ | ⟨d,h1,h2,-⟩
     . rw [h1] at hk;cases hk
     . rw [h1] at hk;exact h2 (Option.some.inj hk)
   . exact (h.grp.away e he _ hk).1 rfl
theorem EUp.fed {u u':World} {E:Nat} {Bs:Nat -> Prop} {lo hi md:Int} {st:JSt} {V W:List Out} {f0 f1 f0' f1':Int} (hB:Bs E) (h:EUp u u' E Bs lo hi md st V W f0 f1) (o:Nat) (x:Int)
 (ho:(o = 7 /\ f0' = x /\ f1' = f1) \/ (o = 8 /\ f0' = f0 /\ f1' = x)):EUp u (u'.setCell ⟨E,o,none⟩ (.int .i64 x)) E Bs lo hi md st V W f0' f1':=by
 obtain ⟨hx,Bs',⟨P,M,v0,v1,D,DG,ents,hI,rfl⟩,hb⟩:=h;rcases ho with ⟨rfl,rfl,rfl⟩ | ⟨rfl,rfl,rfl⟩
 . obtain ⟨h1,h2⟩:=hI.fed0 f0';exact ⟨ExtM.trans _ _ _ hx (h2.mono fun k _ e=>e ▸ hB),_,⟨P,M,v0,v1,D,DG,ents,h1,rfl⟩,hb⟩
 . obtain ⟨h1,h2⟩:=hI.fed1 f1';exact ⟨ExtM.trans _ _ _ hx (h2.mono fun k _ e=>e ▸ hB),_,⟨P,M,v0,v1,D,DG,ents,h1,rfl⟩,hb⟩
theorem Laid.ofM {w w':World} {M:Nat -> Prop} (h:Laid w) (hx:ExtM M w w') (hne:¬ M 2):Laid w':=(hx.cell (p:=⟨2,0,none⟩) (zcN h) hne).trans h
def fedI (e f:Int):Int:=if e = 0 \/ e = 10 then wrap64 (f + 1) else f
section
variable {u:World} {E:Nat} {Bs:Nat -> Prop} {lo hi md:Int} {st:JSt} {V W:List Out} {f0 f1:Int}
theorem EAt.fz (h:EAt u E Bs lo hi md st V W f0 f1) (q:Nat):u.frozen? ⟨E,q,none⟩ = false:=by obtain ⟨_,_,_,_,_,_,_,h,-⟩:=h;exact h.fz q
end
end Go.Proofs.YtmcgnnmffeojpabGreatDoor
