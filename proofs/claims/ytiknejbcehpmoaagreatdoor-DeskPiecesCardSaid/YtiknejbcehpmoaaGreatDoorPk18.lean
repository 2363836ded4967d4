import Derived.Test.YtiknejbcehpmoaaGreatDoorPk9
import Derived.Test.YtiknejbcehpmoaaGreatDoorPk17
import Derived.Deep.DeepCutAuto
import Derived.StillTailTactics
set_option maxRecDepth 100000
set_option maxHeartbeats 8000000
namespace Go.Proofs.YtiknejbcehpmoaaGreatDoor
open Go.RowKit Go.Plan
def zhr (a:GS) (x:Out):GS :=
 ⟨a.cnt + 1,if x.hl then wrap64 (a.sum + x.l.v) else a.sum,if x.hr then insI a.right (a.right.countP (. < x.r.v)) x.r.v else a.right⟩
structure zbM (G o:Nat) (w w':World):Prop where
 cell:∀ q,q ≠ o -> w'.cell? ⟨G,q,none⟩ = w.cell? ⟨G,q,none⟩
 frz:∀ q,w'.frozen? ⟨G,q,none⟩ = w.frozen? ⟨G,q,none⟩
theorem zbM.refl {G o:Nat} (w:World):zbM G o w w:=⟨fun _ _=>rfl,fun _=>rfl⟩
theorem zbM.trans {G o:Nat} {a b c:World} (h:zbM G o a b) (k:zbM G o b c):zbM G o a c:=⟨fun q hq=>(k.cell q hq).trans (h.cell q hq),fun q=>(k.frz q).trans (h.frz q)⟩
theorem zbM.step {F:Nat -> Prop} {G o:Nat} {a b c:World} (h:zbM G o a b) (hx:ExtM F b c) (hG:G < b.heap.size) (hF:¬ F G):zbM G o a c :=
 h.trans ⟨fun q _=>hx.cell (p:=⟨G,q,none⟩) hG hF,fun q=>hx.frozen (p:=⟨G,q,none⟩) hG hF⟩
theorem zbM.set {G o:Nat} {a b:World} (h:zbM G o a b) (v:Value):zbM G o a (b.setCell ⟨G,o,none⟩ v) :=
 h.trans ⟨fun q hq=>World.cell?_setCell_other _ _ _ _ (by intro e;simp only [Addr.mk.injEq,and_true,true_and] at e;exact hq (by omega)),fun q=>World.frozen?_setCell _ _ _ _⟩
structure zgk (w w':World) (G o:Nat) (D D':Option Nat) (ents ents':List Ent):Prop where
 ext:ExtM (grpM G D ents) w w'
 foot:∀ k,grpM G D' ents' k -> grpM G D ents k \/ w.heap.size <= k
 only:zbM G o w w'
structure GMid (w wx:World) (G o:Nat) (D:Option Nat) (ents:List Ent) (x:Out) (n5:Nat) (D':Option Nat) (pre post:List Ent) (E:Ent):Prop where
 key:E.key = x.key
 is:za6 wx G o D' (pre ++ E :: post)
 oth:∀ k,k ≠ x.key -> st (pre ++ E :: post) k = st ents k
 turn:zgk w wx G o D D' ents (pre ++ E :: post)
 box:BoxO wx n5 x
 nbox:¬ grpM G D' (pre ++ E :: post) n5
theorem GMid.ent {w wx:World} {G o:Nat} {D:Option Nat} {ents:List Ent} {x:Out} {n5:Nat} {D':Option Nat} {pre post:List Ent} {E:Ent} (h:GMid w wx G o D ents x n5 D' pre post E):zdF wx E:=h.is.all E (by simp)
theorem GMid.upd {w wx w':World} {G o:Nat} {D:Option Nat} {ents:List Ent} {x:Out} {n5:Nat} {D':Option Nat} {pre post:List Ent} {E E':Ent} (h:GMid w wx G o D ents x n5 D' pre post E) (hx:ExtM (fb E) wx w') (hk:E'.key = E.key) (hS:E'.S = E.S) (ha:zdF w' E')
 (hf:∀ k,fb E' k -> fb E k \/ wx.heap.size <= k):GMid w w' G o D ents x n5 D' pre post E':=by
 have hsub:∀ k,fb E k -> grpM G D' (pre ++ E :: post) k:=fun k hk=>.inr (.inr ⟨E,by simp,hk⟩);refine ⟨hk.trans h.key,h.is.upd hx hk hS ha hf,fun k hne=>?_,⟨?_,fun k hk'=>?_,h.turn.only.step hx h.is.ltG (fun hb=>(h.is.away E (by simp) G hb).1 rfl)⟩,?_,fun hn=>?_⟩
 . rw [zlM hk k (by rw [h.key];exact hne)];exact h.oth k hne
 . refine ⟨hx.os.trans h.turn.ext.os,hx.tape.trans h.turn.ext.tape,hx.output.trans h.turn.ext.output,Nat.le_trans h.turn.ext.size hx.size,fun k hk' hn=>?_⟩;refine (hx.block k (Nat.lt_of_lt_of_le hk' h.turn.ext.size) fun hb=>?_).trans (h.turn.ext.block k hk' hn);rcases h.turn.foot k (hsub k hb) with h1 | h1
   . exact hn h1
   . omega
 . rcases zhY (e:=E) hf k hk' with h1 | h1
   . exact h.turn.foot k h1
   . exact .inr (Nat.le_trans h.turn.ext.size h1)
 . exact h.box.keep (hx.block n5 h.box.lt fun hb=>h.nbox (hsub n5 hb))
 . rcases zhY (e:=E) hf n5 hn with h1 | h1
   . exact h.nbox h1
   . have:=h.box.lt;omega
theorem GMid.draw {w wx w':World} {G o:Nat} {D:Option Nat} {ents:List Ent} {x:Out} {n5:Nat} {D':Option Nat} {pre post:List Ent} {E:Ent} (h:GMid w wx G o D ents x n5 D' pre post E) (hx:Ext wx w'):GMid w w' G o D ents x n5 D' pre post E :=
 h.upd (ExtM.mono hx (fun _ _ h=>h.elim)) rfl rfl (h.ent.keep fun k hk=>hx.block k (h.ent.lt k hk) id) (fun _ hk=>.inl hk)
theorem za6.started {w:World} {G o:Nat} (h:za6 w G o none []) (t:TypeId) :
 za6 (((w.setCell ⟨G,o,none⟩ (.map (some (w.heap.size + 1)))).alloc (.cells #[.int .i64 0,.int .i64 0,.slice none 0 0] t)).alloc (.map #[] 0)) G o (some (w.heap.size + 1)) [] /\
 ExtM (fun k=>k = G) w (((w.setCell ⟨G,o,none⟩ (.map (some (w.heap.size + 1)))).alloc (.cells #[.int .i64 0,.int .i64 0,.slice none 0 0] t)).alloc (.map #[] 0)) /\ zbM G o w (((w.setCell ⟨G,o,none⟩ (.map (some (w.heap.size + 1)))).alloc (.cells #[.int .i64 0,.int .i64 0,.slice none 0 0] t)).alloc (.map #[] 0)):=by
 have hG:=h.ltG;have c0:=h.c0;have f0:=h.f0;have hm:zav Tryz.prog 3 (Value.int .i64) (((w.setCell ⟨G,o,none⟩ (.map (some (w.heap.size + 1)))).alloc (.cells #[.int .i64 0,.int .i64 0,.slice none 0 0] t)).alloc (.map #[] 0)) ((w.setCell ⟨G,o,none⟩ (.map (some (w.heap.size + 1)))).alloc (.cells #[.int .i64 0,.int .i64 0,.slice none 0 0] t)).heap.size []:=zav.made _;have hs:((w.setCell ⟨G,o,none⟩ (.map (some (w.heap.size + 1)))).alloc (.cells #[.int .i64 0,.int .i64 0,.slice none 0 0] t)).heap.size = w.heap.size + 1:=by rw [World.size_alloc,World.size_setCell]
 rw [hs] at hm;refine ⟨⟨by go_simp,?_,.inr ⟨_,rfl,by omega,hm⟩,by simp,.nil,by simp,by simp⟩,((ExtM.setCell (M:=fun k=>k = G) (ExtM.refl w) (p:=⟨G,o,none⟩) (.inr rfl) _).alloc _).alloc _,((zbM.refl w).set _).step (((ExtM.refl _).alloc _).alloc _:Ext _ _) (by rw [World.size_setCell];exact hG) (fun h=>h)⟩;have q1:w.heap.size + 1 ≠ G:=by omega
 have x1:Ext (w.setCell ⟨G,o,none⟩ (.map (some (w.heap.size + 1)))) (((w.setCell ⟨G,o,none⟩ (.map (some (w.heap.size + 1)))).alloc (.cells #[.int .i64 0,.int .i64 0,.slice none 0 0] t)).alloc (.map #[] 0)):=((ExtM.refl _).alloc _).alloc _;rw [x1.rules.2.1 G o (by rw [World.size_setCell];exact hG)];go_simp
theorem AllC.mk' (w:World) (t:TypeId):AllC (w.alloc (.cells #[.int .i64 0,.int .i64 0,.slice none 0 0] t)) w.heap.size 0 0 (.slice none 0 0):=by
 constructor <;> first | go_simp | (rw [Go.RowKit.frozen?_alloc_cells];simp [World.frozen?])
def zdb (w w':World) (G o:Nat) (D:Option Nat) (ents:List Ent) (key:Int) (b:Option GS):Prop :=
 ∃ D' ents',za6 w' G o D' ents' /\ zgk w w' G o D D' ents ents' /\ ∀ k,st ents' k = if k = key then b else st ents k
theorem zoU (w:World) (x:Int):(w.alloc (.cells #[.int .i64 x] 3)).rowIs w.heap.size 3 1 (fun _=>.int .i64 x) :=
 ⟨_,heap_alloc_new _ _,rfl,fun j hj=>by obtain rfl:j = 0:=(by omega);rfl⟩
theorem zmx (v:Value) (xs:List Int) (i nb:Nat) (x:Int) (w:World) (h:IRow w v xs) (hi:i <= xs.length) (hb:w.rowIs nb 3 1 (fun _=>.int .i64 x)) (hne:v.ownBlock ≠ some nb) (hl:xs.length < 1000000000) :
 Calls Tryz.prog 235 #[v,.int .i64 (i:Int),.slice (some ⟨nb,0,none⟩) 1 1] w fun e w'=>∃ p n cap,e = .returned (.slice p n cap) /\ ExtM (rowM v) w w' /\ IRow w' (.slice p n cap) (insI xs i x) /\ ((Value.slice p n cap).ownBlock = v.ownBlock \/ ∃ k,(Value.slice p n cap).ownBlock = some k /\ w.heap.size <= k) :=
 (zmi v xs i nb x w h hi hb hne hl).mono fun e w' ⟨v',he,hx,hr,ho⟩=>by
   obtain ⟨p,cap,rfl⟩:=hr.len;exact ⟨p,_,cap,he,hx,hr,ho⟩
theorem zmh (v:Value) (xs:List Int) (i:Nat) (w:World) (h:IRow w v xs) (hi:i < xs.length) :
 Calls Tryz.prog 255 #[v,.int .i64 (i:Int),.int .i64 ((i:Int) + 1)] w fun e w'=>∃ p n cap,e = .returned (.slice p n cap) /\ ExtM (rowM v) w w' /\ IRow w' (.slice p n cap) (xs.eraseIdx i) /\ (Value.slice p n cap).ownBlock = v.ownBlock :=
 (zmm v xs i w h hi).mono fun e w' ⟨v',he,hx,hr,ho⟩=>by
   obtain ⟨p,cap,rfl⟩:=hr.len;exact ⟨p,_,cap,he,hx,hr,ho⟩
theorem zcX (x:Int):∀ (xs:List Int),xs.Pairwise (. <= ·) -> (insI xs (xs.countP (. < x)) x).Pairwise (. <= ·)
 | [],_=>by simp [insI]
 | y :: ys,h=>by
   obtain ⟨h1,h2⟩:=List.pairwise_cons.1 h;by_cases hy:y < x
   . have e:(y :: ys).countP (. < x) = ys.countP (. < x) + 1:=by simp [hy]
     have ih:=zcX x ys h2;rw [e];have e2:insI (y :: ys) (ys.countP (. < x) + 1) x = y :: insI ys (ys.countP (. < x)) x:=by simp [insI]
     rw [e2,List.pairwise_cons];refine ⟨fun z hz=>?_,ih⟩;simp only [insI,List.mem_append,List.mem_cons] at hz;rcases hz with hz | rfl | hz
     . exact h1 z (List.mem_of_mem_take hz)
     . omega
     . exact h1 z (List.mem_of_mem_drop hz)
   . have e:(y :: ys).countP (. < x) = 0:=by
      rw [List.countP_eq_zero];intro z hz;rcases List.mem_cons.1 hz with rfl | hz
      . simpa using hy
      . have:=h1 z hz;simp;omega
     rw [e];have e2:insI (y :: ys) 0 x = x :: y :: ys:=by simp [insI]
     rw [e2,List.pairwise_cons];refine ⟨fun z hz=>?_,h⟩;rcases List.mem_cons.1 hz with rfl | hz
     . omega
     . have:=h1 z hz;omega
theorem GMid.post {w w':World} {G o:Nat} {D:Option Nat} {ents:List Ent} {x:Out} {n5:Nat} {D':Option Nat} {pre post:List Ent} {E:Ent} (h:GMid w w' G o D ents x n5 D' pre post E):zdb w w' G o D ents x.key (some E.a):=by
 refine ⟨D',_,h.is,h.turn,fun k=>?_⟩;by_cases hk:k = x.key
 . subst hk;rw [if_pos rfl,<- h.key];exact zoW h.is.nodup E rfl
 . rw [if_neg hk];exact h.oth k hk
theorem zmv (G o:Nat) (D:Option Nat) (ents:List Ent) (x:Out) (w:World) (h:za6 w G o D ents) (hx:x.ok) (hb:∀ a,st ents x.key = some a -> 0 <= a.cnt /\ a.cnt < 1000000000 /\ a.right.length < 1000000000) :
 Calls Tryz.prog 208 #[.pointer (some ⟨G,o,none⟩),encC x false] w fun e w'=>e = .returned .nilIface /\ zdb w w' G o D ents x.key (some (zhr ((st ents x.key).getD ⟨0,0,[]⟩) x)):=by
 have hG:=h.ltG;have c0:=h.c0;have f0:=h.f0;unfold encC;go_enter Tryz.func208,Tryz.ntmps208;go_wp2_with fail;have bc:=BoxC.mk' w x false 96;have x1:Ext w (w.alloc (.cells #[.int .i64 x.key,.int .i64 x.l.k,.int .i64 x.l.t,.int .i64 x.l.v,.int .i64 x.r.k,.int .i64 x.r.t,.int .i64 x.r.v,.bool x.hl,.bool x.hr,.bool false] 96)):=(ExtM.refl _).alloc _;have z1:(w.alloc (.cells #[.int .i64 x.key,.int .i64 x.l.k,.int .i64 x.l.t,.int .i64 x.l.v,.int .i64 x.r.k,.int .i64 x.r.t,.int .i64 x.r.v,.bool x.hl,.bool x.hr,.bool false] 96)).heap.size = w.heap.size + 1:=World.size_alloc _ _;clear c0 f0;generalize w.alloc (.cells #[.int .i64 x.key,.int .i64 x.l.k,.int .i64 x.l.t,.int .i64 x.l.v,.int .i64 x.r.k,.int .i64 x.r.t,.int .i64 x.r.v,.bool x.hl,.bool x.hr,.bool false] 96) = w1 at *;have bx:=BoxO.mk' w1 x 94;rw [z1] at bx;have x2:Ext w1 (w1.alloc (.cells #[.int .i64 x.key,.int .i64 x.l.k,.int .i64 x.l.t,.int .i64 x.l.v,.int .i64 x.r.k,.int .i64 x.r.t,.int .i64 x.r.v,.bool x.hl,.bool x.hr] 94)):=(ExtM.refl _).alloc _;replace bc:=bc.of x2 id;replace x1:=ExtM.trans _ _ _ x1 x2;clear x2 z1;generalize w1.alloc (.cells #[.int .i64 x.key,.int .i64 x.l.k,.int .i64 x.l.t,.int .i64 x.l.v,.int .i64 x.r.k,.int .i64 x.r.t,.int .i64 x.r.v,.bool x.hl,.bool x.hr] 94) = w2 at *;have h2:=h.of x1 (fun _ _=>id);have hGn:¬ G = w.heap.size:=by omega
 obtain ⟨pp,hpv⟩:∃ pp:Option Addr,pp = (ents.find? (fun e=>decide (e.key = x.key))).map fun e=>⟨e.S,0,none⟩:=⟨_,rfl⟩
 have hlk:∀ (u:World),Ext w2 u -> (Instr.lookup 116 (.map D) (.int .i64 x.key) false).run Tryz.prog u = .ok (.pointer pp) u:=by
  intro u hu;rcases h2.mp with ⟨rfl,rfl⟩ | ⟨d,rfl,hdG,hm⟩
  . rw [hpv];obtain ⟨l,hl⟩:=keyI x.key hx.1;have hf:(Instr.findKey 3 (.int .i64 x.key) []).run Tryz.prog u = .ok none u:=by
     rcases zcn.find u hl [] (by simp) with ⟨h,-⟩ | ⟨j,e,-,h,-⟩
     . exact h
     . simp at h
    simp [Instr.lookup,run_underlying Tryz.underlying116,zcn.check u _ hl,hf,Result.andThen]
  . have:=(hm.of hu id).run_look false zcn zcB Tryz.underlying116 zht x.key (keyI _ hx.1)
    rw [zf1] at this;rw [hpv];cases hfd:ents.find? (fun e=>decide (e.key = x.key)) <;> rw [hfd] at this <;> simpa using this
 have hlq:=fun p=>hlk (Plan.ext Ext w2.drew p) (ExtM.trans _ _ _ (ExtM.drew (ExtM.refl w2)) (zb7 ExtM.refl w2.drew p));have hnl:w.heap.size < w2.heap.size:=zac bc.e0;have hnl1:w.heap.size + 1 < w2.heap.size:=bx.lt;have hG2:=h2.ltG;have c0:=h2.c0;obtain ⟨e0,e1,e2,e3,e4,e5,e6,e7,e8⟩:=id bx;have HPV:=Lib.hid hpv;clear hpv;refine Plan.b0 Plan.Ext 8 ?_;refine Plan.qs 8 [0,1,2,3,4,5,6,7] ?_;iterate 8 go_big_quiet_step (fail)
 refine Plan.dn ?_;have xd:Ext w2 w2.drew:=(ExtM.refl _).drew;replace h2:=h2.of xd (fun _ _=>id);replace bx:=bx.keep (w':=w2.drew) rfl;replace bc:=bc.of xd id;replace x1:=ExtM.trans _ _ _ x1 xd;clear hlq hlk hnl hnl1 hG2 c0 e0 e1 e2 e3 e4 e5 e6 e7 e8 xd;generalize w2.drew = w3 at *;have e9:=bc.e9;generalize Value.agg #[.int .i64 x.key,.int .i64 x.l.k,.int .i64 x.l.t,.int .i64 x.l.v,.int .i64 x.r.k,.int .i64 x.r.t,.int .i64 x.r.v,.bool x.hl,.bool x.hr,.bool false] = V1;generalize Value.agg #[.int .i64 x.key,.int .i64 x.l.k,.int .i64 x.l.t,.int .i64 x.l.v,.int .i64 x.r.k,.int .i64 x.r.t,.int .i64 x.r.v,.bool x.hl,.bool x.hr] = V2;go_upto_if 25 with fail;go_cut [6] (fun s6 wx=>∃ D' pre post E,s6 = .pointer (some ⟨E.S,0,none⟩) /\ GMid w wx G o D ents x (w.heap.size + 1) D' pre post E /\ E.a = (st ents x.key).getD ⟨0,0,[]⟩)
 case first =>
  clear hb e9;cases hfd:ents.find? (fun e=>decide (e.key = x.key)) with
  | some E =>
    rw [hfd] at HPV;have hpe:pp = some ⟨E.S,0,none⟩:=HPV.out;clear HPV;subst hpe;go_wp2_with fail;go_meet
    case rel =>
     obtain ⟨pre,post,rfl,hk⟩:=zio hfd;refine ⟨D,pre,post,E,rfl,⟨hk,h2,fun _ _=>rfl,⟨ExtM.mono x1 (fun _ _ h=>h.elim),fun k hk=>.inl hk,(zbM.refl w).step x1 hG (fun h=>h)⟩,bx,fun hn=>?_⟩,?_⟩
     . have:=h.foot _ hn;omega
     . have:st (pre ++ E :: post) x.key = some E.a:=by unfold st;rw [hfd];rfl
       rw [this];rfl
  | none =>
    rw [hfd] at HPV;have hpe:pp = none:=HPV.out;clear HPV;subst hpe;have c0:=h2.c0;have f0:=h2.f0;have hG3:=h2.ltG;have hn8:=bx.lt;cases D with
    | some d =>
      have hne:=fun w=>run_eql_map_nil (P:=Tryz.prog) w 116 3 274 (some d) Tryz.underlying116;go_wp2_with fail;have hu:za6 (w3.alloc (.cells #[.int .i64 0,.int .i64 0,.slice none 0 0] 276)) G o (some d) ents:=h2.of ((ExtM.refl _).alloc _:Ext _ _) (fun _ _=>id);have hS:AllC (w3.alloc (.cells #[.int .i64 0,.int .i64 0,.slice none 0 0] 276)) w3.heap.size 0 0 (.slice none 0 0):=AllC.mk' w3 _;have bu:=bx.keep (w':=w3.alloc (.cells #[.int .i64 0,.int .i64 0,.slice none 0 0] 276)) (zah bx.lt);have xu:ExtM (grpM G (some d) ents) w (w3.alloc (.cells #[.int .i64 0,.int .i64 0,.slice none 0 0] 276)):=ExtM.mono (x1.alloc _) (fun _ _ h=>h.elim);have hfoot:∀ k,grpM G (some d) ents k -> grpM G (some d) ents k \/ w.heap.size <= k:=fun k=>.inl;have hou:zbM G o w (w3.alloc (.cells #[.int .i64 0,.int .i64 0,.slice none 0 0] 276)):=(zbM.refl w).step (x1.alloc _) hG (fun h=>h);have hSn:¬ grpM G (some d) ents w3.heap.size:=fun hk=>by have:=h2.foot _ hk;omega
      have hnb:¬ grpM G (some d) ents (w.heap.size + 1):=fun hk=>by have:=h.foot _ hk;omega
      have hw3:=x1.size;have hnS:¬ w.heap.size + 1 = w3.heap.size:=by omega
      clear h h2 bx bc x1 c0 f0 hG3;generalize w3.alloc (.cells #[.int .i64 0,.int .i64 0,.slice none 0 0] 276) = u at *;generalize w3.heap.size = S at *;have hGS:G < u.heap.size:=hu.ltG;have hdn:d ≠ G:=by
       rcases hu.mp with ⟨h1,-⟩ | ⟨d',h1,h2,-⟩
       . cases h1
       . obtain rfl:=Option.some.inj h1;exact h2
      have hGd:¬ G = d:=fun e=>hdn e.symm;have hm:zav Tryz.prog 3 (Value.int .i64) u d (prs ents):=by
       rcases hu.mp with ⟨h1,-⟩ | ⟨d',h1,h2,h3⟩
       . cases h1
       . obtain rfl:=Option.some.inj h1;exact h3
      obtain ⟨w5,hupd,x5,z5,hm5⟩:=(hm.of (ExtM.drew (ExtM.refl u):Ext u u.drew) id).run_update zcn zcB Tryz.underlying116 x.key (keyI _ hx.1) (.pointer (some ⟨S,0,none⟩));have hnd:¬ w.heap.size + 1 = d:=fun e=>hnb (.inr (.inl (by rw [e])));have hnu:=bu.lt;have c0:=hu.c0;have f0:=hu.f0;obtain ⟨e0,e1,e2,e3,e4,e5,e6,e7,e8⟩:=id bu;refine Plan.b0 (Plan.ExtB d) 8 ?_;refine Plan.qs 7 [0,1,2,3,4,5,6] ?_;iterate 7 go_big_quiet_step (fail)
      refine Plan.o1 7 fun K hK=>?_;go_wp2_with (fail);refine hK _ _ (x5) ?_;clear hK K;refine Plan.dn ?_;clear e0 e1 e2 e3 e4 e5 e6 e7 e8 c0 f0;go_wp2_with fail;go_meet
      case rel =>
       have y5:ExtB d u w5:=ExtB.trans _ _ _ (ExtB.of_ext ((ExtM.refl u).drew)) x5;have hab:=List.find?_eq_none.1 hfd;have hno:∀ f ∈ ents,f.key ≠ x.key:=fun f hf=>by simpa using hab f hf
       have hE:=hu.push (e:=⟨x.key,S,.slice none 0 0,⟨0,0,[]⟩⟩) ⟨hS,IRow.nil u,.nil,by simp [Value.ownBlock]⟩ hx.1 hno (fun k hk=>by
        rcases hk with rfl | hk
        . exact hSn
        . cases hk) y5 hm5
       refine ⟨some d,ents,[],_,rfl,⟨rfl,hE,fun k hk=>?_,⟨?_,fun k hk=>?_,hou.step y5 hGS hGd⟩,bu.keep (y5.block _ bu.lt hnd),fun hn=>?_⟩,?_⟩
       . rw [zkx hno,if_neg hk]
       . exact ⟨y5.os.trans xu.os,y5.tape.trans xu.tape,y5.output.trans xu.output,Nat.le_trans xu.size y5.size,fun k hk hn=>(y5.block k (Nat.lt_of_lt_of_le hk xu.size) (fun e=>by
          have e':k = d:=e;rcases hfoot d (.inr (.inl rfl)) with h1 | h1
          . exact hn (e' ▸ h1)
          . omega)).trans (xu.block k hk hn)⟩
       . rcases hk with hk | hk | ⟨e,he,hk⟩
         . exact hfoot k (.inl hk)
         . exact hfoot k (.inr (.inl hk))
         . rcases List.mem_append.1 he with he | he
           . exact hfoot k (.inr (.inr ⟨e,he,hk⟩))
           . obtain rfl:=List.mem_singleton.1 he;rcases hk with rfl | hk
             . exact .inr hw3
             . cases hk
       . rcases hn with hk | hk | ⟨e,he,hk⟩
         . exact hnb (.inl hk)
         . exact hnb (.inr (.inl hk))
         . rcases List.mem_append.1 he with he | he
           . exact hnb (.inr (.inr ⟨e,he,hk⟩))
           . obtain rfl:=List.mem_singleton.1 he;rcases hk with hk | hk
             . have hk':w.heap.size + 1 = S:=hk;exact hnS hk'
             . cases hk
       . rw [zhG.2 hno];rfl
    | none =>
      have hne:=fun w=>run_eql_map_nil (P:=Tryz.prog) w 116 3 274 none Tryz.underlying116;have hmm:=@run_makeMap Tryz.prog;have he:ents = []:=by
       rcases h2.mp with ⟨-,h⟩ | ⟨d,h1,-⟩
       . exact h
       . cases h1
      have hE:=Lib.hid he;clear he;go_wp2_with fail;have he:=hE.out;have hu0:=za6.started (he ▸ h2:za6 w3 G o none []) 276;have hS:AllC (((w3.setCell ⟨G,o,none⟩ (.map (some (w3.heap.size + 1)))).alloc (.cells #[.int .i64 0,.int .i64 0,.slice none 0 0] 276)).alloc (.map #[] 0)) w3.heap.size 0 0 (.slice none 0 0):=by
       have:=AllC.mk' (w3.setCell ⟨G,o,none⟩ (.map (some (w3.heap.size + 1)))) 276
       rw [World.size_setCell] at this;exact this.keep (zah this.lt)
      obtain ⟨d,hd⟩:∃ d,w3.heap.size + 1 = d:=⟨_,rfl⟩
      rw [hd] at hS hu0 ⊢;rw [<- he] at hu0;obtain ⟨hu,xs,hos⟩:=hu0;have hou:=((zbM.refl (G:=G) (o:=o) w).step x1 hG (fun h=>h)).trans hos;have hGn8:¬ w.heap.size + 1 = G:=by omega
      have bu:=bx.keep (xs.block _ bx.lt hGn8);have xu:ExtM (grpM G none ents) w (((w3.setCell ⟨G,o,none⟩ (.map (some d))).alloc (.cells #[.int .i64 0,.int .i64 0,.slice none 0 0] 276)).alloc (.map #[] 0)) :=
       ExtM.trans _ _ _ (ExtM.mono x1 (fun _ _ h=>h.elim)) (ExtM.mono xs (fun k _ h=>.inl h))
      have hw3:=x1.size;have hfoot:∀ k,grpM G (some d) ents k -> grpM G none ents k \/ w.heap.size <= k:=fun k hk=>by
       rcases hk with hk | hk | ⟨e,h1,-⟩
       . exact .inl (.inl hk)
       . have:=Option.some.inj hk;omega
       . rw [he] at h1;cases h1
      have hSn:¬ grpM G (some d) ents w3.heap.size:=fun hk=>by
       rcases hk with hk | hk | ⟨e,h1,-⟩
       . omega
       . have:=Option.some.inj hk;omega
       . rw [he] at h1;cases h1
      have hnb:¬ grpM G (some d) ents (w.heap.size + 1):=fun hk=>by
       rcases hk with hk | hk | ⟨e,h1,-⟩
       . omega
       . have:=Option.some.inj hk;omega
       . rw [he] at h1;cases h1
      have hnS:¬ w.heap.size + 1 = w3.heap.size:=by omega
      clear h h2 bx bc x1 c0 f0 hG3 xs hd hmm he hE hn8 hos;generalize ((w3.setCell ⟨G,o,none⟩ (.map (some d))).alloc (.cells #[.int .i64 0,.int .i64 0,.slice none 0 0] 276)).alloc (.map #[] 0) = u at *;generalize w3.heap.size = S at *;have hGS:G < u.heap.size:=hu.ltG;have hdn:d ≠ G:=by
       rcases hu.mp with ⟨h1,-⟩ | ⟨d',h1,h2,-⟩
       . cases h1
       . obtain rfl:=Option.some.inj h1;exact h2
      have hGd:¬ G = d:=fun e=>hdn e.symm;have hm:zav Tryz.prog 3 (Value.int .i64) u d (prs ents):=by
       rcases hu.mp with ⟨h1,-⟩ | ⟨d',h1,h2,h3⟩
       . cases h1
       . obtain rfl:=Option.some.inj h1;exact h3
      obtain ⟨w5,hupd,x5,z5,hm5⟩:=(hm.of (ExtM.drew (ExtM.refl u):Ext u u.drew) id).run_update zcn zcB Tryz.underlying116 x.key (keyI _ hx.1) (.pointer (some ⟨S,0,none⟩));have hnd:¬ w.heap.size + 1 = d:=fun e=>hnb (.inr (.inl (by rw [e])));have hnu:=bu.lt;have c0:=hu.c0;have f0:=hu.f0;obtain ⟨e0,e1,e2,e3,e4,e5,e6,e7,e8⟩:=id bu;refine Plan.b0 (Plan.ExtB d) 8 ?_;refine Plan.qs 7 [0,1,2,3,4,5,6] ?_;iterate 7 go_big_quiet_step (fail)
      refine Plan.o1 7 fun K hK=>?_;go_wp2_with (fail);refine hK _ _ (x5) ?_;clear hK K;refine Plan.dn ?_;clear e0 e1 e2 e3 e4 e5 e6 e7 e8 c0 f0;go_wp2_with fail;go_meet
      case rel =>
       have y5:ExtB d u w5:=ExtB.trans _ _ _ (ExtB.of_ext ((ExtM.refl u).drew)) x5;have hab:=List.find?_eq_none.1 hfd;have hno:∀ f ∈ ents,f.key ≠ x.key:=fun f hf=>by simpa using hab f hf
       have hE:=hu.push (e:=⟨x.key,S,.slice none 0 0,⟨0,0,[]⟩⟩) ⟨hS,IRow.nil u,.nil,by simp [Value.ownBlock]⟩ hx.1 hno (fun k hk=>by
        rcases hk with rfl | hk
        . exact hSn
        . cases hk) y5 hm5
       refine ⟨some d,ents,[],_,rfl,⟨rfl,hE,fun k hk=>?_,⟨?_,fun k hk=>?_,hou.step y5 hGS hGd⟩,bu.keep (y5.block _ bu.lt hnd),fun hn=>?_⟩,?_⟩
       . rw [zkx hno,if_neg hk]
       . exact ⟨y5.os.trans xu.os,y5.tape.trans xu.tape,y5.output.trans xu.output,Nat.le_trans xu.size y5.size,fun k hk hn=>(y5.block k (Nat.lt_of_lt_of_le hk xu.size) (fun e=>by
          have e':k = d:=e;rcases hfoot d (.inr (.inl rfl)) with h1 | h1
          . exact hn (e' ▸ h1)
          . omega)).trans (xu.block k hk hn)⟩
       . rcases hk with hk | hk | ⟨e,he,hk⟩
         . exact hfoot k (.inl hk)
         . exact hfoot k (.inr (.inl hk))
         . rcases List.mem_append.1 he with he | he
           . exact hfoot k (.inr (.inr ⟨e,he,hk⟩))
           . obtain rfl:=List.mem_singleton.1 he;rcases hk with rfl | hk
             . exact .inr hw3
             . cases hk
       . rcases hn with hk | hk | ⟨e,he,hk⟩
         . exact hnb (.inl hk)
         . exact hnb (.inr (.inl hk))
         . rcases List.mem_append.1 he with he | he
           . exact hnb (.inr (.inr ⟨e,he,hk⟩))
           . obtain rfl:=List.mem_singleton.1 he;rcases hk with hk | hk
             . have hk':w.heap.size + 1 = S:=hk;exact hnS hk'
             . cases hk
       . rw [zhG.2 hno];rfl
 case rest =>
  obtain ⟨D',pre,post,E,rfl,hM,hEa⟩:=hcut;clear h2 bx bc x1 e9 HPV;have hb1:0 <= E.a.cnt /\ E.a.cnt < 1000000000 /\ E.a.right.length < 1000000000:=by
   rw [hEa];cases hs:st ents x.key with
   | none=>exact ⟨by decide,by decide,by decide⟩
   | some a=>exact hb a hs
  obtain ⟨hb2,hb3,hb4⟩:=hb1;have HEA:=Lib.hid hEa;clear hEa hb;have hE:=hM.ent;have hSn:¬ w.heap.size + 1 = E.S:=fun e=>hM.nbox (by rw [e];exact .inr (.inr ⟨E,by simp,.inl rfl⟩));obtain ⟨c0,c1,c2,f0,f1,f2⟩:=hE.cells;obtain ⟨e0,e1,e2,e3,e4,e5,e6,e7,e8⟩:=id hM.box;go_upto_if 52 with fail;have hM1:GMid w (wc.setCell ⟨E.S,0,none⟩ (.int .i64 (E.a.cnt + 1))) G o D ents x (w.heap.size + 1) D' pre post { E with a:=⟨E.a.cnt + 1,E.a.sum,E.a.right⟩ } :=
   hM.upd (E':={ E with a:=⟨E.a.cnt + 1,E.a.sum,E.a.right⟩ }) (ExtM.setCell (ExtM.refl _) (.inr (.inl rfl)) _) rfl rfl
    ⟨hE.cells.set0 _,hE.row.keep (fun k hk=>Below.heap_setCell _ _ _ _ (fun e=>hE.own (by rw [hk,e]))),hE.srt,hE.own⟩ (fun _ hk=>.inl hk)
  have hlw:wc.heap.size = (wc.setCell ⟨E.S,0,none⟩ (.int .i64 (E.a.cnt + 1))).heap.size:=by simp
  clear c0 c1 c2 f0 f1 f2 e0 e1 e2 e3 e4 e5 e6 e7 e8 hM hE;generalize wc.setCell ⟨E.S,0,none⟩ (.int .i64 (E.a.cnt + 1)) = w4 at *;clear hlw;go_cut [] (fun wx=>GMid w wx G o D ents x (w.heap.size + 1) D' pre post { E with a:=⟨E.a.cnt + 1,if x.hl then wrap64 (E.a.sum + x.l.v) else E.a.sum,E.a.right⟩ })
  case first =>
   have hE:=hM1.ent;have hlt:=hE.cells.lt;obtain ⟨c0,c1,c2,f0,f1,f2⟩:=hE.cells;have hlx:=hM1.box.lt;obtain ⟨e0,e1,e2,e3,e4,e5,e6,e7,e8⟩:=id hM1.box;go_wp2_with fail
   . rename_i hhl;rw [hhl] at e7;go_still_tail 10,(by kernel_rfl)
     change wpList _ _ _ _ _ w4.drew;go_wp2_with fail;go_meet
     case rel =>
      have xs:ExtM (fb { E with a:=⟨E.a.cnt + 1,E.a.sum,E.a.right⟩ }) w4 (w4.setCell ⟨E.S,1,none⟩ (.int .i64 (wrap64 (E.a.sum + x.l.v)))).drew:=(ExtM.setCell (ExtM.refl _) (.inr (.inl rfl)) _).drew;rw [if_pos hhl];exact hM1.upd (E':={ E with a:=⟨E.a.cnt + 1,wrap64 (E.a.sum + x.l.v),E.a.right⟩ }) xs rfl rfl
       ⟨(hE.cells.set1 _).keep rfl,hE.row.keep (fun k hk=>Below.heap_setCell _ _ _ _ (fun e=>hE.own (by rw [hk,e]))),hE.srt,hE.own⟩ (fun _ hk=>.inl hk)
   . rename_i hhl;go_meet
     case rel =>
      rw [if_neg (by rw [hhl];decide)];exact hM1
  case rest =>
   generalize hsum:(if x.hl then wrap64 (E.a.sum + x.l.v) else E.a.sum) = sm at *;have HSUM:=Lib.hid hsum;clear hsum hM1;have hM:=hcut;clear hcut;have hE:=hM.ent;have hlt:=hE.cells.lt;obtain ⟨c0,c1,c2,f0,f1,f2⟩:=hE.cells;have hlx:=hM.box.lt;obtain ⟨e0,e1,e2,e3,e4,e5,e6,e7,e8⟩:=id hM.box;go_wp2_with fail
   . rename_i hhr;have hrow:=hE.row.keep (w':=wc.drew) (fun _ _=>rfl);refine Plan.b0 Plan.Ext 13 ?_;refine Plan.qs 7 [0,1,2,3,4,5,6] ?_;iterate 7 go_big_quiet_step (fail)
     refine Plan.o1 7 fun K hK=>?_;go_wp2_with (fail);refine (zhR E.v E.a.right x.r.v _ hrow hE.srt (by omega)).mono ?_;rintro e w1 ⟨rfl,h1⟩;have H1:=ExtM.trans _ _ _ (ExtM.refl _).drew (Grw.ext h1);obtain ⟨hc1,hf1,-⟩:=Ext.rules H1;have hs1_0:E.S < w1.heap.size:=by have:=H1.size;(try simp at this);omega
     have hs1_1:(w.heap.size+1) < w1.heap.size:=by have:=H1.size;(try simp at this);omega
     go_wp2_with (fail);refine hK _ _ (Grw.ext h1) ?_;clear hK K;refine Plan.qs 5 [8,9,10,11,12] ?_;iterate 5 go_big_quiet_step (fail)
     refine Plan.dn ?_;have hM2:=hM.draw H1;clear hc1 hf1 hs1_0 hs1_1 c0 c1 c2 f0 f1 f2 e0 e1 e2 e3 e4 e5 e6 e7 e8 hlt hlx hrow hE hM H1 h1;generalize hk:E.a.right.countP (. < x.r.v) = k at *;have hkl:k <= E.a.right.length:=hk ▸ List.countP_le_length;have HK:=Lib.hid hk;clear hk;have hE:=hM2.ent;have hlt:=hE.cells.lt;obtain ⟨c0,c1,c2,f0,f1,f2⟩:=hE.cells;have hlx:=hM2.box.lt;obtain ⟨e0,e1,e2,e3,e4,e5,e6,e7,e8⟩:=id hM2.box;go_wp2_with fail;have hne:¬ E.v.ownBlock = some E.S:=hE.own;have hnx:¬ E.v.ownBlock = some (w.heap.size + 1):=fun e=>hM2.nbox (.inr (.inr ⟨⟨E.key,E.S,E.v,⟨E.a.cnt + 1,sm,E.a.right⟩⟩,List.mem_append_right _ List.mem_cons_self,.inr e⟩));have hnb:E.v.ownBlock ≠ some w1.heap.size:=fun e=>by have:=hE.lt _ (.inr e);omega
     have hrow:=(hE.row.keep (w':=w1.drew) (fun _ _=>rfl)).keep (w':=w1.drew.alloc (.cells #[.int .i64 x.r.v] 3)) (fun k hk=>zah (hE.lt k (.inr hk)));have hbx:(w1.drew.alloc (.cells #[.int .i64 x.r.v] 3)).rowIs w1.heap.size 3 1 (fun _=>.int .i64 x.r.v):=zoU w1.drew x.r.v;refine Plan.bT (Plan.ExtR E.v.ownBlock) [13] 14 ?_;refine Plan.qs 9 [0,1,2,3,4,5,6,7,8] ?_;iterate 9 go_big_quiet_step (fail)
     refine Plan.o1 9 fun K hK=>?_;go_wp2_with (fail);refine hK _ _ ((ExtM.refl _).alloc _) ?_;clear hK K;refine Plan.o1 10 fun K hK=>?_;go_wp2_with (fail);refine (zmx E.v E.a.right k w1.heap.size x.r.v _ hrow hkl hbx hnb (by omega)).mono ?_;rintro e w7 ⟨p,n,cap,rfl,h7,hrow7,hown7⟩;have H7:=ExtR.trans _ _ _ ((ExtR.refl _).drew.alloc _) h7;obtain ⟨hc7,hf7,-⟩:=ExtR.rules H7;have hs7_0:E.S < w7.heap.size:=by have:=H7.size;(try simp at this);omega
     have hs7_1:(w.heap.size+1) < w7.heap.size:=by have:=H7.size;(try simp at this);omega
     go_wp2_with (fail);refine hK _ _ h7 ?_;clear hK K;refine Plan.o1 11 fun K hK=>?_;go_wp2_with (fail);refine hK _ _ (ExtM.refl _) ?_;clear hK K;refine Plan.qs 1 [12] ?_;go_big_quiet_step (fail);refine Plan.ol 13 fun K hK=>?_;go_wp2_with (fail);refine Plan.dn ?_;clear hc7 hf7 hs7_0 hs7_1;go_wp2_with fail;go_ret;refine ⟨rfl,?_⟩;have xs:ExtM (fb ⟨E.key,E.S,E.v,⟨E.a.cnt + 1,sm,E.a.right⟩⟩) w1 (w7.setCell ⟨E.S,2,none⟩ (.slice p n cap)) :=
      ExtM.setCell (ExtM.mono H7 (fun _ _ h=>.inr h)) (.inr (.inl rfl)) _
     have hsz:=H7.size;have hC:=hE.cells.keep (w':=w7) (H7.block _ hlt hne);have hoS:(Value.slice p n cap).ownBlock ≠ some E.S:=fun e=>by
      rcases hown7 with h | ⟨k,h,hk⟩
      . exact hne (h ▸ e)
      . rw [h] at e
        have:=Option.some.inj e
        simp at hk;omega
     have hM3:=hM2.upd (E':=⟨E.key,E.S,.slice p n cap,⟨E.a.cnt + 1,sm,insI E.a.right k x.r.v⟩⟩) xs rfl rfl
      ⟨hC.set2 _,hrow7.keep (fun k hk=>Below.heap_setCell _ _ _ _ (fun e=>hoS (by rw [hk,e]))),by rw [<- HK.out];exact zcX _ _ hE.srt,hoS⟩ (fun k hk=>by
       rcases hk with rfl | hk
       . exact .inl (.inl rfl)
       . rcases hown7 with h | ⟨k',h,hk'⟩
         . exact .inl (.inr (h ▸ hk))
         . have hk2:(Value.slice p n cap).ownBlock = some k:=hk;rw [h] at hk2
           have:=Option.some.inj hk2
           simp at hk'
           exact .inr (by omega))
     have:=hM3.post
     rw [show zhr ((st ents x.key).getD ⟨0,0,[]⟩) x = ⟨E.a.cnt + 1,sm,insI E.a.right k x.r.v⟩ from by
      rw [<- HEA.out];unfold zhr;rw [HSUM.out,if_pos (by assumption),HK.out]]
     exact this
   . rename_i hhr;go_ret;refine ⟨rfl,?_⟩
     have:=hM.post
     rw [show zhr ((st ents x.key).getD ⟨0,0,[]⟩) x = ⟨E.a.cnt + 1,sm,E.a.right⟩ from by
      rw [<- HEA.out];unfold zhr;rw [HSUM.out,if_neg (by rw [hhr];decide)]]
     exact this
end Go.Proofs.YtiknejbcehpmoaaGreatDoor
