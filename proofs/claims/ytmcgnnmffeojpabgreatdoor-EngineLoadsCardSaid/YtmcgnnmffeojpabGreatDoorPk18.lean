import Derived.Test.YtmcgnnmffeojpabGreatDoorPk10
import Derived.Test.YtmcgnnmffeojpabGreatDoorPk16
import Derived.Test.YtmcgnnmffeojpabGreatDoorPk17
import Derived.Deep.DeepCutAuto
import Derived.StillTailTactics
set_option maxRecDepth 100000
set_option maxHeartbeats 8000000
namespace Go.Proofs.YtmcgnnmffeojpabGreatDoor
open Go.RowKit Go.Plan
def zhr (a:GS) (x:Out):GS :=
 ⟨a.cnt + 1,if x.hl then wrap64 (a.sum + x.l.v) else a.sum,if x.hr then insI a.right (a.right.countP (. < x.r.v)) x.r.v else a.right⟩
structure zbM (G o:Nat) (w w':World):Prop where
 cell:∀ q,q ≠ o -> w'.cell? ⟨G,q,none⟩ = w.cell? ⟨G,q,none⟩
 frz:∀ q,w'.frozen? ⟨G,q,none⟩ = w.frozen? ⟨G,q,none⟩
theorem zbM.refl {G o:Nat} (w:World):zbM G o w w:=⟨fun _ _=>rfl,fun _=>rfl⟩
theorem zbM.trans {G o:Nat} {a b c:World} (h:zbM G o a b) (k:zbM G o b c):zbM G o a c:=⟨fun q hq=>(k.cell q hq).trans (h.cell q hq),fun q=>(k.frz q).trans (h.frz q)⟩
theorem zbM.step {F:Nat -> Prop} {G o:Nat} {a b c:World} (h:zbM G o a b) (hx:ExtM F b c) (hG:G < b.heap.size) (hF:¬ F G):zbM G o a c :=
 h.trans ⟨fun q _=>hx.cell (p:=⟨G,q,none⟩) hG hF,fun q=>hx.frozen (p:=⟨G,q,none⟩) hG hF⟩
theorem zbM.set {G o:Nat} {a b:World} (h:zbM G o a b) (v:Value):zbM G o a (b.setCell ⟨G,o,none⟩ v) :=
 h.trans ⟨fun q hq=>World.cell?_setCell_other _ _ _ _ (by intro e;simp only [Addr.mk.injEq,and_true,true_and] at e;exact hq (by omega)),fun q=>World.frozen?_setCell _ _ _ _⟩
structure zgk (w w':World) (G o:Nat) (D D':Option Nat) (ents ents':List Ent):Prop where
 ext:ExtM (grpM G D ents) w w'
 foot:∀ k,grpM G D' ents' k -> grpM G D ents k \/ w.heap.size <= k
 only:zbM G o w w'
structure GMid (w wx:World) (G o:Nat) (D:Option Nat) (ents:List Ent) (x:Out) (n5:Nat) (D':Option Nat) (pre post:List Ent) (E:Ent):Prop where
 key:E.key = x.key
 is:za6 wx G o D' (pre ++ E :: post)
 oth:∀ k,k ≠ x.key -> st (pre ++ E :: post) k = st ents k
 turn:zgk w wx G o D D' ents (pre ++ E :: post)
 box:BoxO wx n5 x
 nbox:¬ grpM G D' (pre ++ E :: post) n5
theorem GMid.ent {w wx:World} {G o:Nat} {D:Option Nat} {ents:List Ent} {x:Out} {n5:Nat} {D':Option Nat} {pre post:List Ent} {E:Ent} (h:GMid w wx G o D ents x n5 D' pre post E):zdF wx E:=h.is.all E (by simp)
theorem GMid.upd {w wx w':World} {G o:Nat} {D:Option Nat} {ents:List Ent} {x:Out} {n5:Nat} {D':Option Nat} {pre post:List Ent} {E E':Ent} (h:GMid w wx G o D ents x n5 D' pre post E) (hx:ExtM (fb E) wx w') (hk:E'.key = E.key) (hS:E'.S = E.S) (ha:zdF w' E')
 (hf:∀ k,fb E' k -> fb E k \/ wx.heap.size <= k):GMid w w' G o D ents x n5 D' pre post E':=by
 have hsub:∀ k,fb E k -> grpM G D' (pre ++ E :: post) k:=fun k hk=>.inr (.inr ⟨E,by simp,hk⟩);refine ⟨hk.trans h.key,h.is.upd hx hk hS ha hf,fun k hne=>?_,⟨?_,fun k hk'=>?_,h.turn.only.step hx h.is.ltG (fun hb=>(h.is.away E (by simp) G hb).1 rfl)⟩,?_,fun hn=>?_⟩
 . rw [zlM hk k (by rw [h.key];exact hne)];exact h.oth k hne
 . refine ⟨hx.os.trans h.turn.ext.os,hx.tape.trans h.turn.ext.tape,hx.output.trans h.turn.ext.output,Nat.le_trans h.turn.ext.size hx.size,fun k hk' hn=>?_⟩;refine (hx.block k (Nat.lt_of_lt_of_le hk' h.turn.ext.size) fun hb=>?_).trans (h.turn.ext.block k hk' hn);rcases h.turn.foot k (hsub k hb) with h1 | h1
   . exact hn h1
   . omega
 . rcases zhY (e:=E) hf k hk' with h1 | h1
   . exact h.turn.foot k h1
   . exact .inr (Nat.le_trans h.turn.ext.size h1)
 . exact h.box.keep (hx.block n5 h.box.lt fun hb=>h.nbox (hsub n5 hb))
 . rcases zhY (e:=E) hf n5 hn with h1 | h1
   . exact h.nbox h1
   . have:=h.box.lt;omega
theorem GMid.draw {w wx w':World} {G o:Nat} {D:Option Nat} {ents:List Ent} {x:Out} {n5:Nat} {D':Option Nat} {pre post:List Ent} {E:Ent} (h:GMid w wx G o D ents x n5 D' pre post E) (hx:Ext wx w'):GMid w w' G o D ents x n5 D' pre post E :=
 h.upd (ExtM.mono hx (fun _ _ h=>h.elim)) rfl rfl (h.ent.keep fun k hk=>hx.block k (h.ent.lt k hk) id) (fun _ hk=>.inl hk)
theorem za6.started {w:World} {G o:Nat} (h:za6 w G o none []) (t:TypeId) :
 za6 (((w.setCell ⟨G,o,none⟩ (.map (some (w.heap.size + 1)))).alloc (.cells #[.int .i64 0,.int .i64 0,.slice none 0 0] t)).alloc (.map #[] 0)) G o (some (w.heap.size + 1)) [] /\
 ExtM (fun k=>k = G) w (((w.setCell ⟨G,o,none⟩ (.map (some (w.heap.size + 1)))).alloc (.cells #[.int .i64 0,.int .i64 0,.slice none 0 0] t)).alloc (.map #[] 0)) /\ zbM G o w (((w.setCell ⟨G,o,none⟩ (.map (some (w.heap.size + 1)))).alloc (.cells #[.int .i64 0,.int .i64 0,.slice none 0 0] t)).alloc (.map #[] 0)):=by
 have hG:=h.ltG;have c0:=h.c0;have f0:=h.f0;have hm:zav Tryz.prog 3 (Value.int .i64) (((w.setCell ⟨G,o,none⟩ (.map (some (w.heap.size + 1)))).alloc (.cells #[.int .i64 0,.int .i64 0,.slice none 0 0] t)).alloc (.map #[] 0)) ((w.setCell ⟨G,o,none⟩ (.map (some (w.heap.size + 1)))).alloc (.cells #[.int .i64 0,.int .i64 0,.slice none 0 0] t)).heap.size []:=zav.made _;have hs:((w.setCell ⟨G,o,none⟩ (.map (some (w.heap.size + 1)))).alloc (.cells #[.int .i64 0,.int .i64 0,.slice none 0 0] t)).heap.size = w.heap.size + 1:=by rw [World.size_alloc,World.size_setCell]
 rw [hs] at hm;refine ⟨⟨by go_simp,?_,.inr ⟨_,rfl,by omega,hm⟩,by simp,.nil,by simp,by simp⟩,((ExtM.setCell (M:=fun k=>k = G) (ExtM.refl w) (p:=⟨G,o,none⟩) (.inr rfl) _).alloc _).alloc _,((zbM.refl w).set _).step (((ExtM.refl _).alloc _).alloc _:Ext _ _) (by rw [World.size_setCell];exact hG) (fun h=>h)⟩;have q1:w.heap.size + 1 ≠ G:=by omega
 have x1:Ext (w.setCell ⟨G,o,none⟩ (.map (some (w.heap.size + 1)))) (((w.setCell ⟨G,o,none⟩ (.map (some (w.heap.size + 1)))).alloc (.cells #[.int .i64 0,.int .i64 0,.slice none 0 0] t)).alloc (.map #[] 0)):=((ExtM.refl _).alloc _).alloc _;rw [x1.rules.2.1 G o (by rw [World.size_setCell];exact hG)];go_simp
theorem AllC.mk' (w:World) (t:TypeId):AllC (w.alloc (.cells #[.int .i64 0,.int .i64 0,.slice none 0 0] t)) w.heap.size 0 0 (.slice none 0 0):=by
 constructor <;> first | go_simp | (rw [Go.RowKit.frozen?_alloc_cells];simp [World.frozen?])
def zdb (w w':World) (G o:Nat) (D:Option Nat) (ents:List Ent) (key:Int) (b:Option GS):Prop :=
 ∃ D' ents',za6 w' G o D' ents' /\ zgk w w' G o D D' ents ents' /\ ∀ k,st ents' k = if k = key then b else st ents k
theorem zoU (w:World) (x:Int):(w.alloc (.cells #[.int .i64 x] 3)).rowIs w.heap.size 3 1 (fun _=>.int .i64 x) :=
 ⟨_,heap_alloc_new _ _,rfl,fun j hj=>by obtain rfl:j = 0:=(by omega);rfl⟩
theorem zmx (v:Value) (xs:List Int) (i nb:Nat) (x:Int) (w:World) (h:IRow w v xs) (hi:i <= xs.length) (hb:w.rowIs nb 3 1 (fun _=>.int .i64 x)) (hne:v.ownBlock ≠ some nb) (hl:xs.length < 1000000000) :
 Calls Tryz.prog 136 #[v,.int .i64 (i:Int),.slice (some ⟨nb,0,none⟩) 1 1] w fun e w'=>∃ p n cap,e = .returned (.slice p n cap) /\ ExtM (rowM v) w w' /\ IRow w' (.slice p n cap) (insI xs i x) /\ ((Value.slice p n cap).ownBlock = v.ownBlock \/ ∃ k,(Value.slice p n cap).ownBlock = some k /\ w.heap.size <= k) :=
 (zmi v xs i nb x w h hi hb hne hl).mono fun e w' ⟨v',he,hx,hr,ho⟩=>by
   obtain ⟨p,cap,rfl⟩:=hr.len;exact ⟨p,_,cap,he,hx,hr,ho⟩
theorem zmh (v:Value) (xs:List Int) (i:Nat) (w:World) (h:IRow w v xs) (hi:i < xs.length) :
 Calls Tryz.prog 180 #[v,.int .i64 (i:Int),.int .i64 ((i:Int) + 1)] w fun e w'=>∃ p n cap,e = .returned (.slice p n cap) /\ ExtM (rowM v) w w' /\ IRow w' (.slice p n cap) (xs.eraseIdx i) /\ (Value.slice p n cap).ownBlock = v.ownBlock :=
 (zmm v xs i w h hi).mono fun e w' ⟨v',he,hx,hr,ho⟩=>by
   obtain ⟨p,cap,rfl⟩:=hr.len;exact ⟨p,_,cap,he,hx,hr,ho⟩
theorem zcX (x:Int):∀ (xs:List Int),xs.Pairwise (. <= ·) -> (insI xs (xs.countP (. < x)) x).Pairwise (. <= ·)
 | [],_=>by simp [insI]
 | y :: ys,h=>by
   obtain ⟨h1,h2⟩:=List.pairwise_cons.1 h;by_cases hy:y < x
   . have e:(y :: ys).countP (. < x) = ys.countP (. < x) + 1:=by simp [hy]
     have ih:=zcX x ys h2;rw [e];have e2:insI (y :: ys) (ys.countP (. < x) + 1) x = y :: insI ys (ys.countP (. < x)) x:=by simp [insI]
     rw [e2,List.pairwise_cons];refine ⟨fun z hz=>?_,ih⟩;simp only [insI,List.mem_append,List.mem_cons] at hz;rcases hz with hz | rfl | hz
     . exact h1 z (List.mem_of_mem_take hz)
     . omega
     . exact h1 z (List.mem_of_mem_drop hz)
   . have e:(y :: ys).countP (. < x) = 0:=by
      rw [List.countP_eq_zero];intro z hz;rcases List.mem_cons.1 hz with rfl | hz
      . simpa using hy
      . have:=h1 z hz;simp;omega
     rw [e];have e2:insI (y :: ys) 0 x = x :: y :: ys:=by simp [insI]
     rw [e2,List.pairwise_cons];refine ⟨fun z hz=>?_,h⟩;rcases List.mem_cons.1 hz with rfl | hz
     . omega
     . have:=h1 z hz;omega
theorem GMid.post {w w':World} {G o:Nat} {D:Option Nat} {ents:List Ent} {x:Out} {n5:Nat} {D':Option Nat} {pre post:List Ent} {E:Ent} (h:GMid w w' G o D ents x n5 D' pre post E):zdb w w' G o D ents x.key (some E.a):=by
 refine ⟨D',_,h.is,h.turn,fun k=>?_⟩;by_cases hk:k = x.key
 . subst hk;rw [if_pos rfl,<- h.key];exact zoW h.is.nodup E rfl
 . rw [if_neg hk];exact h.oth k hk
theorem zmv (G o:Nat) (D:Option Nat) (ents:List Ent) (x:Out) (w:World) (h:za6 w G o D ents) (hx:x.ok) (hb:∀ a,st ents x.key = some a -> 0 <= a.cnt /\ a.cnt < 1000000000 /\ a.right.length < 1000000000) :
 Calls Tryz.prog 97 #[.pointer (some ⟨G,o,none⟩),encC x false] w fun e w'=>e = .returned .nilIface /\ zdb w w' G o D ents x.key (some (zhr ((st ents x.key).getD ⟨0,0,[]⟩) x)):=by
 have hG:=h.ltG;have c0:=h.c0;have f0:=h.f0;unfold encC;go_enter Tryz.func97,Tryz.ntmps97;go_wp2_with fail;have bc:=BoxC.mk' w x false 92;have x1:Ext w (w.alloc (.cells #[.int .i64 x.key,.int .i64 x.l.k,.int .i64 x.l.t,.int .i64 x.l.v,.int .i64 x.r.k,.int .i64 x.r.t,.int .i64 x.r.v,.bool x.hl,.bool x.hr,.bool false] 92)):=(ExtM.refl _).alloc _;have z1:(w.alloc (.cells #[.int .i64 x.key,.int .i64 x.l.k,.int .i64 x.l.t,.int .i64 x.l.v,.int .i64 x.r.k,.int .i64 x.r.t,.int .i64 x.r.v,.bool x.hl,.bool x.hr,.bool false] 92)).heap.size = w.heap.size + 1:=World.size_alloc _ _;clear c0 f0;generalize w.alloc (.cells #[.int .i64 x.key,.int .i64 x.l.k,.int .i64 x.l.t,.int .i64 x.l.v,.int .i64 x.r.k,.int .i64 x.r.t,.int .i64 x.r.v,.bool x.hl,.bool x.hr,.bool false] 92) = w1 at *;have bx:=BoxO.mk' w1 x 86;rw [z1] at bx;have x2:Ext w1 (w1.alloc (.cells #[.int .i64 x.key,.int .i64 x.l.k,.int .i64 x.l.t,.int .i64 x.l.v,.int .i64 x.r.k,.int .i64 x.r.t,.int .i64 x.r.v,.bool x.hl,.bool x.hr] 86)):=(ExtM.refl _).alloc _;replace bc:=bc.of x2 id;replace x1:=ExtM.trans _ _ _ x1 x2;clear x2 z1;generalize w1.alloc (.cells #[.int .i64 x.key,.int .i64 x.l.k,.int .i64 x.l.t,.int .i64 x.l.v,.int .i64 x.r.k,.int .i64 x.r.t,.int .i64 x.r.v,.bool x.hl,.bool x.hr] 86) = w2 at *;have h2:=h.of x1 (fun _ _=>id);have hGn:¬ G = w.heap.size:=by omega
 obtain ⟨pp,hpv⟩:∃ pp:Option Addr,pp = (ents.find? (fun e=>decide (e.key = x.key))).map fun e=>⟨e.S,0,none⟩:=⟨_,rfl⟩
 have hlk:∀ (u:World),Ext w2 u -> (Instr.lookup 105 (.map D) (.int .i64 x.key) false).run Tryz.prog u = .ok (.pointer pp) u:=by
  intro u hu;rcases h2.mp with ⟨rfl,rfl⟩ | ⟨d,rfl,hdG,hm⟩
  . rw [hpv];obtain ⟨l,hl⟩:=keyI x.key hx.1;have hf:(Instr.findKey 3 (.int .i64 x.key) []).run Tryz.prog u = .ok none u:=by
     rcases zcn.find u hl [] (by simp) with ⟨h,-⟩ | ⟨j,e,-,h,-⟩
     . exact h
     . simp at h
    simp [Instr.lookup,run_underlying Tryz.underlying105,zcn.check u _ hl,hf,Result.andThen]
  . have:=(hm.of hu id).run_look false zcn zcB Tryz.underlying105 zht x.key (keyI _ hx.1)
    rw [zf1] at this;rw [hpv];cases hfd:ents.find? (fun e=>decide (e.key = x.key)) <;> rw [hfd] at this <;> simpa using this
 have hlq:=fun p=>hlk (Plan.ext Ext w2.drew p) (ExtM.trans _ _ _ (ExtM.drew (ExtM.refl w2)) (zb7 ExtM.refl w2.drew p));have hnl:w.heap.size < w2.heap.size:=zac bc.e0;have hnl1:w.heap.size + 1 < w2.heap.size:=bx.lt;have hG2:=h2.ltG;have c0:=h2.c0;obtain ⟨e0,e1,e2,e3,e4,e5,e6,e7,e8⟩:=id bx;have HPV:=Lib.hid hpv;clear hpv;refine Plan.b0 Plan.Ext 8 ?_;refine Plan.qs 8 [0,1,2,3,4,5,6,7] ?_;iterate 8 go_big_quiet_step (fail)
 refine Plan.dn ?_;have xd:Ext w2 w2.drew:=(ExtM.refl _).drew;replace h2:=h2.of xd (fun _ _=>id);replace bx:=bx.keep (w':=w2.drew) rfl;replace bc:=bc.of xd id;replace x1:=ExtM.trans _ _ _ x1 xd;clear hlq hlk hnl hnl1 hG2 c0 e0 e1 e2 e3 e4 e5 e6 e7 e8 xd;generalize w2.drew = w3 at *;have e9:=bc.e9;generalize Value.agg #[.int .i64 x.key,.int .i64 x.l.k,.int .i64 x.l.t,.int .i64 x.l.v,.int .i64 x.r.k,.int .i64 x.r.t,.int .i64 x.r.v,.bool x.hl,.bool x.hr,.bool false] = V1;generalize Value.agg #[.int .i64 x.key,.int .i64 x.l.k,.int .i64 x.l.t,.int .i64 x.l.v,.int .i64 x.r.k,.int .i64 x.r.t,.int .i64 x.r.v,.bool x.hl,.bool x.hr] = V2;go_upto_if 25 with fail;go_cut [6] (fun s6 wx=>∃ D' pre post E,s6 = .pointer (some ⟨E.S,0,none⟩) /\ GMid w wx G o D ents x (w.heap.size + 1) D' pre post E /\ E.a = (st ents x.key).getD ⟨0,0,[]⟩)
 case first =>
  clear hb e9;cases hfd:ents.find? (fun e=>decide (e.key = x.key)) with
  | some E =>
    rw [hfd] at HPV;have hpe:pp = some ⟨E.S,0,none⟩:=HPV.out;clear HPV;subst hpe;go_wp2_with fail;go_meet
    case rel =>
     obtain ⟨pre,post,rfl,hk⟩:=zio hfd;refine ⟨D,pre,post,E,rfl,⟨hk,h2,fun _ _=>rfl,⟨ExtM.mono x1 (fun _ _ h=>h.elim),fun k hk=>.inl hk,(zbM.refl w).step x1 hG (fun h=>h)⟩,bx,fun hn=>?_⟩,?_⟩
     . have:=h.foot _ hn;omega
     . have:st (pre ++ E :: post) x.key = some E.a:=by unfold st;rw [hfd];rfl
       rw [this];rfl
  | none =>
    rw [hfd] at HPV;have hpe:pp = none:=HPV.out;clear HPV;subst hpe;have c0:=h2.c0;have f0:=h2.f0;have hG3:=h2.ltG;have hn8:=bx.lt;cases D with
    | some d =>
      have hne:=fun w=>run_eql_map_nil (P:=Tryz.prog) w 105 3 224 (some d) Tryz.underlying105;go_wp2_with fail;have hu:za6 (w3.alloc (.cells #[.int .i64 0,.int .i64 0,.slice none 0 0] 227)) G o (some d) ents:=h2.of ((ExtM.refl _).alloc _:Ext _ _) (fun _ _=>id);have hS:AllC (w3.alloc (.cells #[.int .i64 0,.int .i64 0,.slice none 0 0] 227)) w3.heap.size 0 0 (.slice none 0 0):=AllC.mk' w3 _;have bu:=bx.keep (w':=w3.alloc (.cells #[.int .i64 0,.int .i64 0,.slice none 0 0] 227)) (zah bx.lt);have xu:ExtM (grpM G (some d) ents) w (w3.alloc (.cells #[.int .i64 0,.int .i64 0,.slice none 0 0] 227)):=ExtM.mono (x1.alloc _) (fun _ _ h=>h.elim);have hfoot:∀ k,grpM G (some d) ents k -> grpM G (some d) ents k \/ w.heap.size <= k:=fun k=>.inl;have hou:zbM G o w (w3.alloc (.cells #[.int .i64 0,.int .i64 0,.slice none 0 0] 227)):=(zbM.refl w).step (x1.alloc _) hG (fun h=>h);have hSn:¬ grpM G (some d) ents w3.heap.size:=fun hk=>by have:=h2.foot _ hk;omega
      have hnb:¬ grpM G (some d) ents (w.heap.size + 1):=fun hk=>by have:=h.foot _ hk;omega
      have hw3:=x1.size;have hnS:¬ w.heap.size + 1 = w3.heap.size:=by omega
      clear h h2 bx bc x1 c0 f0 hG3;generalize w3.alloc (.cells #[.int .i64 0,.int .i64 0,.slice none 0 0] 227) = u at *;generalize w3.heap.size = S at *;have hGS:G < u.heap.size:=hu.ltG;have hdn:d ≠ G:=by
       rcases hu.mp with ⟨h1,-⟩ | ⟨d',h1,h2,-⟩
       . cases h1
       . obtain rfl:=Option.some.inj h1;exact h2
      have hGd:¬ G = d:=fun e=>hdn e.symm;have hm:zav Tryz.prog 3 (Value.int .i64) u d (prs ents):=by
       rcases hu.mp with ⟨h1,-⟩ | ⟨d',h1,h2,h3⟩
       . cases h1
       . obtain rfl:=Option.some.inj h1;exact h3
      obtain ⟨w5,hupd,x5,z5,hm5⟩:=(hm.of (ExtM.drew (ExtM.refl u):Ext u u.drew) id).run_update zcn zcB Tryz.underlying105 x.key (keyI _ hx.1) (.pointer (some ⟨S,0,none⟩));have hnd:¬ w.heap.size + 1 = d:=fun e=>hnb (.inr (.inl (by rw [e])));have hnu:=bu.lt;have c0:=hu.c0;have f0:=hu.f0;obtain ⟨e0,e1,e2,e3,e4,e5,e6,e7,e8⟩:=id bu;refine Plan.b0 (Plan.ExtB d) 8 ?_;refine Plan.qs 7 [0,1,2,3,4,5,6] ?_;iterate 7 go_big_quiet_step (fail)
      refine Plan.o1 7 fun K hK=>?_;go_wp2_with (fail);refine hK _ _ (x5) ?_;clear hK K;refine Plan.dn ?_;clear e0 e1 e2 e3 e4 e5 e6 e7 e8 c0 f0;go_wp2_with fail;go_meet
      case rel =>
       have y5:ExtB d u w5:=ExtB.trans _ _ _ (ExtB.of_ext ((ExtM.refl u).drew)) x5;have hab:=List.find?_eq_none.1 hfd;have hno:∀ f ∈ ents,f.key ≠ x.key:=fun f hf=>by simpa using hab f hf
       have hE:=hu.push (e:=⟨x.key,S,.slice none 0 0,⟨0,0,[]⟩⟩) ⟨hS,IRow.nil u,.nil,by simp [Value.ownBlock]⟩ hx.1 hno (fun k hk=>by
        rcases hk with rfl | hk
        . exact hSn
        . cases hk) y5 hm5
       refine ⟨some d,ents,[],_,rfl,⟨rfl,hE,fun k hk=>?_,⟨?_,fun k hk=>?_,hou.step y5 hGS hGd⟩,bu.keep (y5.block _ bu.lt hnd),fun hn=>?_⟩,?_⟩
       . rw [zkx hno,if_neg hk]
       . exact ⟨y5.os.trans xu.os,y5.tape.trans xu.tape,y5.output.trans xu.output,Nat.le_trans xu.size y5.size,fun k hk hn=>(y5.block k (Nat.lt_of_lt_of_le hk xu.size) (fun e=>by
          have e':k = d:=e;rcases hfoot d (.inr (.inl rfl)) with h1 | h1
          . exact hn (e' ▸ h1)
          . omega)).trans (xu.block k hk hn)⟩
       . rcases hk with hk | hk | ⟨e,he,hk⟩
         . exact hfoot k (.inl hk)
         . exact hfoot k (.inr (.inl hk))
         . rcases List.mem_append.1 he with he | he
           . exact hfoot k (.inr (.inr ⟨e,he,hk⟩))
           . obtain rfl:=List.mem_singleton.1 he;rcases hk with rfl | hk
             . exact .inr hw3
             . cases hk
       . rcases hn with hk | hk | ⟨e,he,hk⟩
         . exact hnb (.inl hk)
         . exact hnb (.inr (.inl hk))
         . rcases List.mem_append.1 he with he | he
           . exact hnb (.inr (.inr ⟨e,he,hk⟩))
           . obtain rfl:=List.mem_singleton.1 he;rcases hk with hk | hk
             . have hk':w.heap.size + 1 = S:=hk;exact hnS hk'
             . cases hk
       . rw [zhG.2 hno];rfl
    | none =>
      have hne:=fun w=>run_eql_map_nil (P:=Tryz.prog) w 105 3 224 none Tryz.underlying105;have hmm:=@run_makeMap Tryz.prog;have he:ents = []:=by
       rcases h2.mp with ⟨-,h⟩ | ⟨d,h1,-⟩
       . exact h
       . cases h1
      have hE:=Lib.hid he;clear he;go_wp2_with fail;have he:=hE.out;have hu0:=za6.started (he ▸ h2:za6 w3 G o none []) 227;have hS:AllC (((w3.setCell ⟨G,o,none⟩ (.map (some (w3.heap.size + 1)))).alloc (.cells #[.int .i64 0,.int .i64 0,.slice none 0 0] 227)).alloc (.map #[] 0)) w3.heap.size 0 0 (.slice none 0 0):=by
       have:=AllC.mk' (w3.setCell ⟨G,o,none⟩ (.map (some (w3.heap.size + 1)))) 227
       rw [World.size_setCell] at this;exact this.keep (zah this.lt)
      obtain ⟨d,hd⟩:∃ d,w3.heap.size + 1 = d:=⟨_,rfl⟩
      rw [hd] at hS hu0 ⊢;rw [<- he] at hu0;obtain ⟨hu,xs,hos⟩:=hu0;have hou:=((zbM.refl (G:=G) (o:=o) w).step x1 hG (fun h=>h)).trans hos;have hGn8:¬ w.heap.size + 1 = G:=by omega
      have bu:=bx.keep (xs.block _ bx.lt hGn8);have xu:ExtM (grpM G none ents) w (((w3.setCell ⟨G,o,none⟩ (.map (some d))).alloc (.cells #[.int .i64 0,.int .i64 0,.slice none 0 0] 227)).alloc (.map #[] 0)) :=
       ExtM.trans _ _ _ (ExtM.mono x1 (fun _ _ h=>h.elim)) (ExtM.mono xs (fun k _ h=>.inl h))
      have hw3:=x1.size;have hfoot:∀ k,grpM G (some d) ents k -> grpM G none ents k \/ w.heap.size <= k:=fun k hk=>by
       rcases hk with hk | hk | ⟨e,h1,-⟩
       . exact .inl (.inl hk)
       . have:=Option.some.inj hk;omega
       . rw [he] at h1;cases h1
      have hSn:¬ grpM G (some d) ents w3.heap.size:=fun hk=>by
       rcases hk with hk | hk | ⟨e,h1,-⟩
       . omega
       . have:=Option.some.inj hk;omega
       . rw [he] at h1;cases h1
      have hnb:¬ grpM G (some d) ents (w.heap.size + 1):=fun hk=>by
       rcases hk with hk | hk | ⟨e,h1,-⟩
       . omega
       . have:=Option.some.inj hk;omega
       . rw [he] at h1;cases h1
      have hnS:¬ w.heap.size + 1 = w3.heap.size:=by omega
      clear h h2 bx bc x1 c0 f0 hG3 xs hd hmm he hE hn8 hos;generalize ((w3.setCell ⟨G,o,none⟩ (.map (some d))).alloc (.cells #[.int .i64 0,.int .i64 0,.slice none 0 0] 227)).alloc (.map #[] 0) = u at *;generalize w3.heap.size = S at *;have hGS:G < u.heap.size:=hu.ltG;have hdn:d ≠ G:=by
       rcases hu.mp with ⟨h1,-⟩ | ⟨d',h1,h2,-⟩
       . cases h1
       . obtain rfl:=Option.some.inj h1;exact h2
      have hGd:¬ G = d:=fun e=>hdn e.symm;have hm:zav Tryz.prog 3 (Value.int .i64) u d (prs ents):=by
       rcases hu.mp with ⟨h1,-⟩ | ⟨d',h1,h2,h3⟩
       . cases h1
       . obtain rfl:=Option.some.inj h1;exact h3
      obtain ⟨w5,hupd,x5,z5,hm5⟩:=(hm.of (ExtM.drew (ExtM.refl u):Ext u u.drew) id).run_update zcn zcB Tryz.underlying105 x.key (keyI _ hx.1) (.pointer (some ⟨S,0,none⟩));have hnd:¬ w.heap.size + 1 = d:=fun e=>hnb (.inr (.inl (by rw [e])));have hnu:=bu.lt;have c0:=hu.c0;have f0:=hu.f0;obtain ⟨e0,e1,e2,e3,e4,e5,e6,e7,e8⟩:=id bu;refine Plan.b0 (Plan.ExtB d) 8 ?_;refine Plan.qs 7 [0,1,2,3,4,5,6] ?_;iterate 7 go_big_quiet_step (fail)
      refine Plan.o1 7 fun K hK=>?_;go_wp2_with (fail);refine hK _ _ (x5) ?_;clear hK K;refine Plan.dn ?_;clear e0 e1 e2 e3 e4 e5 e6 e7 e8 c0 f0;go_wp2_with fail;go_meet
      case rel =>
       have y5:ExtB d u w5:=ExtB.trans _ _ _ (ExtB.of_ext ((ExtM.refl u).drew)) x5;have hab:=List.find?_eq_none.1 hfd;have hno:∀ f ∈ ents,f.key ≠ x.key:=fun f hf=>by simpa using hab f hf
       have hE:=hu.push (e:=⟨x.key,S,.slice none 0 0,⟨0,0,[]⟩⟩) ⟨hS,IRow.nil u,.nil,by simp [Value.ownBlock]⟩ hx.1 hno (fun k hk=>by
        rcases hk with rfl | hk
        . exact hSn
        . cases hk) y5 hm5
       refine ⟨some d,ents,[],_,rfl,⟨rfl,hE,fun k hk=>?_,⟨?_,fun k hk=>?_,hou.step y5 hGS hGd⟩,bu.keep (y5.block _ bu.lt hnd),fun hn=>?_⟩,?_⟩
       . rw [zkx hno,if_neg hk]
       . exact ⟨y5.os.trans xu.os,y5.tape.trans xu.tape,y5.output.trans xu.output,Nat.le_trans xu.size y5.size,fun k hk hn=>(y5.block k (Nat.lt_of_lt_of_le hk xu.size) (fun e=>by
          have e':k = d:=e;rcases hfoot d (.inr (.inl rfl)) with h1 | h1
          . exact hn (e' ▸ h1)
          . omega)).trans (xu.block k hk hn)⟩
       . rcases hk with hk | hk | ⟨e,he,hk⟩
         . exact hfoot k (.inl hk)
         . exact hfoot k (.inr (.inl hk))
         . rcases List.mem_append.1 he with he | he
           . exact hfoot k (.inr (.inr ⟨e,he,hk⟩))
           . obtain rfl:=List.mem_singleton.1 he;rcases hk with rfl | hk
             . exact .inr hw3
             . cases hk
       . rcases hn with hk | hk | ⟨e,he,hk⟩
         . exact hnb (.inl hk)
         . exact hnb (.inr (.inl hk))
         . rcases List.mem_append.1 he with he | he
           . exact hnb (.inr (.inr ⟨e,he,hk⟩))
           . obtain rfl:=List.mem_singleton.1 he;rcases hk with hk | hk
             . have hk':w.heap.size + 1 = S:=hk;exact hnS hk'
             . cases hk
       . rw [zhG.2 hno];rfl
 case rest =>
  obtain ⟨D',pre,post,E,rfl,hM,hEa⟩:=hcut;clear h2 bx bc x1 e9 HPV;have hb1:0 <= E.a.cnt /\ E.a.cnt < 1000000000 /\ E.a.right.length < 1000000000:=by
   rw [hEa];cases hs:st ents x.key with
   | none=>exact ⟨by decide,by decide,by decide⟩
   | some a=>exact hb a hs
  obtain ⟨hb2,hb3,hb4⟩:=hb1;have HEA:=Lib.hid hEa;clear hEa hb;have hE:=hM.ent;have hSn:¬ w.heap.size + 1 = E.S:=fun e=>hM.nbox (by rw [e];exact .inr (.inr ⟨E,by simp,.inl rfl⟩));obtain ⟨c0,c1,c2,f0,f1,f2⟩:=hE.cells;obtain ⟨e0,e1,e2,e3,e4,e5,e6,e7,e8⟩:=id hM.box;go_upto_if 52 with fail;have hM1:GMid w (wc.setCell ⟨E.S,0,none⟩ (.int .i64 (E.a.cnt + 1))) G o D ents x (w.heap.size + 1) D' pre post { E with a:=⟨E.a.cnt + 1,E.a.sum,E.a.right⟩ } :=
   hM.upd (E':={ E with a:=⟨E.a.cnt + 1,E.a.sum,E.a.right⟩ }) (ExtM.setCell (ExtM.refl _) (.inr (.inl rfl)) _) rfl rfl
    ⟨hE.cells.set0 _,hE.row.keep (fun k hk=>Below.heap_setCell _ _ _ _ (fun e=>hE.own (by rw [hk,e]))),hE.srt,hE.own⟩ (fun _ hk=>.inl hk)
  have hlw:wc.heap.size = (wc.setCell ⟨E.S,0,none⟩ (.int .i64 (E.a.cnt + 1))).heap.size:=by simp
  clear c0 c1 c2 f0 f1 f2 e0 e1 e2 e3 e4 e5 e6 e7 e8 hM hE;generalize wc.setCell ⟨E.S,0,none⟩ (.int .i64 (E.a.cnt + 1)) = w4 at *;clear hlw;go_cut [] (fun wx=>GMid w wx G o D ents x (w.heap.size + 1) D' pre post { E with a:=⟨E.a.cnt + 1,if x.hl then wrap64 (E.a.sum + x.l.v) else E.a.sum,E.a.right⟩ })
  case first =>
   have hE:=hM1.ent;have hlt:=hE.cells.lt;obtain ⟨c0,c1,c2,f0,f1,f2⟩:=hE.cells;have hlx:=hM1.box.lt;obtain ⟨e0,e1,e2,e3,e4,e5,e6,e7,e8⟩:=id hM1.box;go_wp2_with fail
   . rename_i hhl;rw [hhl] at e7;go_still_tail 10,(by kernel_rfl)
     change wpList _ _ _ _ _ w4.drew;go_wp2_with fail;go_meet
     case rel =>
      have xs:ExtM (fb { E with a:=⟨E.a.cnt + 1,E.a.sum,E.a.right⟩ }) w4 (w4.setCell ⟨E.S,1,none⟩ (.int .i64 (wrap64 (E.a.sum + x.l.v)))).drew:=(ExtM.setCell (ExtM.refl _) (.inr (.inl rfl)) _).drew;rw [if_pos hhl];exact hM1.upd (E':={ E with a:=⟨E.a.cnt + 1,wrap64 (E.a.sum + x.l.v),E.a.right⟩ }) xs rfl rfl
       ⟨(hE.cells.set1 _).keep rfl,hE.row.keep (fun k hk=>Below.heap_setCell _ _ _ _ (fun e=>hE.own (by rw [hk,e]))),hE.srt,hE.own⟩ (fun _ hk=>.inl hk)
   . rename_i hhl;go_meet
     case rel =>
      rw [if_neg (by rw [hhl];decide)];exact hM1
  case rest =>
   generalize hsum:(if x.hl then wrap64 (E.a.sum + x.l.v) else E.a.sum) = sm at *;have HSUM:=Lib.hid hsum;clear hsum hM1;have hM:=hcut;clear hcut;have hE:=hM.ent;have hlt:=hE.cells.lt;obtain ⟨c0,c1,c2,f0,f1,f2⟩:=hE.cells;have hlx:=hM.box.lt;obtain ⟨e0,e1,e2,e3,e4,e5,e6,e7,e8⟩:=id hM.box;go_wp2_with fail
   . rename_i hhr;have hrow:=hE.row.keep (w':=wc.drew) (fun _ _=>rfl);refine Plan.b0 Plan.Ext 13 ?_;refine Plan.qs 7 [0,1,2,3,4,5,6] ?_;iterate 7 go_big_quiet_step (fail)
     refine Plan.o1 7 fun K hK=>?_;go_wp2_with (fail);refine (zhR E.v E.a.right x.r.v _ hrow hE.srt (by omega)).mono ?_;rintro e w1 ⟨rfl,h1⟩;have H1:=ExtM.trans _ _ _ (ExtM.refl _).drew (Grw.ext h1);obtain ⟨hc1,hf1,-⟩:=Ext.rules H1;have hs1_0:E.S < w1.heap.size:=by have:=H1.size;(try simp at this);omega
     have hs1_1:(w.heap.size+1) < w1.heap.size:=by have:=H1.size;(try simp at this);omega
     go_wp2_with (fail);refine hK _ _ (Grw.ext h1) ?_;clear hK K;refine Plan.qs 5 [8,9,10,11,12] ?_;iterate 5 go_big_quiet_step (fail)
     refine Plan.dn ?_;have hM2:=hM.draw H1;clear hc1 hf1 hs1_0 hs1_1 c0 c1 c2 f0 f1 f2 e0 e1 e2 e3 e4 e5 e6 e7 e8 hlt hlx hrow hE hM H1 h1;generalize hk:E.a.right.countP (. < x.r.v) = k at *;have hkl:k <= E.a.right.length:=hk ▸ List.countP_le_length;have HK:=Lib.hid hk;clear hk;have hE:=hM2.ent;have hlt:=hE.cells.lt;obtain ⟨c0,c1,c2,f0,f1,f2⟩:=hE.cells;have hlx:=hM2.box.lt;obtain ⟨e0,e1,e2,e3,e4,e5,e6,e7,e8⟩:=id hM2.box;go_wp2_with fail;have hne:¬ E.v.ownBlock = some E.S:=hE.own;have hnx:¬ E.v.ownBlock = some (w.heap.size + 1):=fun e=>hM2.nbox (.inr (.inr ⟨⟨E.key,E.S,E.v,⟨E.a.cnt + 1,sm,E.a.right⟩⟩,List.mem_append_right _ List.mem_cons_self,.inr e⟩));have hnb:E.v.ownBlock ≠ some w1.heap.size:=fun e=>by have:=hE.lt _ (.inr e);omega
     have hrow:=(hE.row.keep (w':=w1.drew) (fun _ _=>rfl)).keep (w':=w1.drew.alloc (.cells #[.int .i64 x.r.v] 3)) (fun k hk=>zah (hE.lt k (.inr hk)));have hbx:(w1.drew.alloc (.cells #[.int .i64 x.r.v] 3)).rowIs w1.heap.size 3 1 (fun _=>.int .i64 x.r.v):=zoU w1.drew x.r.v;refine Plan.bT (Plan.ExtR E.v.ownBlock) [13] 14 ?_;refine Plan.qs 9 [0,1,2,3,4,5,6,7,8] ?_;iterate 9 go_big_quiet_step (fail)
     refine Plan.o1 9 fun K hK=>?_;go_wp2_with (fail);refine hK _ _ ((ExtM.refl _).alloc _) ?_;clear hK K;refine Plan.o1 10 fun K hK=>?_;go_wp2_with (fail);refine (zmx E.v E.a.right k w1.heap.size x.r.v _ hrow hkl hbx hnb (by omega)).mono ?_;rintro e w7 ⟨p,n,cap,rfl,h7,hrow7,hown7⟩;have H7:=ExtR.trans _ _ _ ((ExtR.refl _).drew.alloc _) h7;obtain ⟨hc7,hf7,-⟩:=ExtR.rules H7;have hs7_0:E.S < w7.heap.size:=by have:=H7.size;(try simp at this);omega
     have hs7_1:(w.heap.size+1) < w7.heap.size:=by have:=H7.size;(try simp at this);omega
     go_wp2_with (fail);refine hK _ _ h7 ?_;clear hK K;refine Plan.o1 11 fun K hK=>?_;go_wp2_with (fail);refine hK _ _ (ExtM.refl _) ?_;clear hK K;refine Plan.qs 1 [12] ?_;go_big_quiet_step (fail);refine Plan.ol 13 fun K hK=>?_;go_wp2_with (fail);refine Plan.dn ?_;clear hc7 hf7 hs7_0 hs7_1;go_wp2_with fail;go_ret;refine ⟨rfl,?_⟩;have xs:ExtM (fb ⟨E.key,E.S,E.v,⟨E.a.cnt + 1,sm,E.a.right⟩⟩) w1 (w7.setCell ⟨E.S,2,none⟩ (.slice p n cap)) :=
      ExtM.setCell (ExtM.mono H7 (fun _ _ h=>.inr h)) (.inr (.inl rfl)) _
     have hsz:=H7.size;have hC:=hE.cells.keep (w':=w7) (H7.block _ hlt hne);have hoS:(Value.slice p n cap).ownBlock ≠ some E.S:=fun e=>by
      rcases hown7 with h | ⟨k,h,hk⟩
      . exact hne (h ▸ e)
      . rw [h] at e
        have:=Option.some.inj e
        simp at hk;omega
     have hM3:=hM2.upd (E':=⟨E.key,E.S,.slice p n cap,⟨E.a.cnt + 1,sm,insI E.a.right k x.r.v⟩⟩) xs rfl rfl
      ⟨hC.set2 _,hrow7.keep (fun k hk=>Below.heap_setCell _ _ _ _ (fun e=>hoS (by rw [hk,e]))),by rw [<- HK.out];exact zcX _ _ hE.srt,hoS⟩ (fun k hk=>by
       rcases hk with rfl | hk
       . exact .inl (.inl rfl)
       . rcases hown7 with h | ⟨k',h,hk'⟩
         . exact .inl (.inr (h ▸ hk))
         . have hk2:(Value.slice p n cap).ownBlock = some k:=hk;rw [h] at hk2
           have:=Option.some.inj hk2
           simp at hk'
           exact .inr (by omega))
     have:=hM3.post
     rw [show zhr ((st ents x.key).getD ⟨0,0,[]⟩) x = ⟨E.a.cnt + 1,sm,insI E.a.right k x.r.v⟩ from by
      rw [<- HEA.out];unfold zhr;rw [HSUM.out,if_pos (by assumption),HK.out]]
     exact this
   . rename_i hhr;go_ret;refine ⟨rfl,?_⟩
     have:=hM.post
     rw [show zhr ((st ents x.key).getD ⟨0,0,[]⟩) x = ⟨E.a.cnt + 1,sm,E.a.right⟩ from by
      rw [<- HEA.out];unfold zhr;rw [HSUM.out,if_neg (by rw [hhr];decide)]]
     exact this
def ziI (a:GS) (x:Out):GS :=
 ⟨a.cnt - 1,if x.hl then wrap64 (a.sum - x.l.v) else a.sum,if x.hr then a.right.eraseIdx (a.right.countP (. < x.r.v)) else a.right⟩
def zjv (a:GS) (x:Out):Option GS:=if a.cnt - 1 = 0 then none else some (ziI a x)
theorem zdb.base {w w3 w':World} {G o:Nat} {D:Option Nat} {ents:List Ent} {key:Int} {b:Option GS} (hG:G < w.heap.size) (x1:Ext w w3) (h:zdb w3 w' G o D ents key b):zdb w w' G o D ents key b:=by
 obtain ⟨D',ents',h1,h2,h3⟩:=h;have hs:=x1.size;refine ⟨D',ents',h1,⟨ExtM.trans _ _ _ (ExtM.mono x1 (fun _ _ h=>h.elim)) h2.ext,fun k hk=>?_,((zbM.refl w).step x1 hG (fun h=>h)).trans h2.only⟩,h3⟩;rcases h2.foot k hk with h | h
 . exact .inl h
 . exact .inr (by omega)
theorem zcw {xs:List Int} (h:xs.Pairwise (. <= ·)) (i:Nat):(xs.eraseIdx i).Pairwise (. <= ·):=h.sublist (List.eraseIdx_sublist xs i)
theorem zcm (x:Int):∀ (xs:List Int),xs.Pairwise (. <= ·) -> x ∈ xs -> xs.countP (. < x) < xs.length /\ xs[xs.countP (. < x)]? = some x
 | [],_,h=>by cases h
 | y :: ys,hs,h=>by
   obtain ⟨h1,h2⟩:=List.pairwise_cons.1 hs;by_cases hy:y < x
   . have hm:x ∈ ys:=by
      rcases List.mem_cons.1 h with rfl | h
      . omega
      . exact h
     obtain ⟨i1,i2⟩:=zcm x ys h2 hm;have e:(y :: ys).countP (. < x) = ys.countP (. < x) + 1:=by simp [hy]
     rw [e];exact ⟨by simp;omega,by simpa using i2⟩
   . have e:(y :: ys).countP (. < x) = 0:=by
      rw [List.countP_eq_zero];intro z hz;rcases List.mem_cons.1 hz with rfl | hz
      . simpa using hy
      . have:=h1 z hz;simp;omega
     rw [e];refine ⟨by simp,?_⟩;rcases List.mem_cons.1 h with rfl | h
     . rfl
     . have:=h1 x h
       have:y = x:=by omega
       simp [this]
theorem zqQ (G o:Nat) (x:Out) (w:World) :
 Calls Tryz.prog 134 #[.pointer (some ⟨G,o,none⟩),encO x,.pointer none] w fun e w'=>e = .returned (.iface 24 (.int .i64 8)) /\ Ext w w':=by
 unfold encO;go_enter Tryz.func134,Tryz.ntmps134;go_wp2_with fail;go_ret;exact ⟨rfl,(ExtM.refl _).alloc _⟩
theorem zkR (G o:Nat) (d:Nat) (pre post:List Ent) (E:Ent) (x:Out) (w:World) (h:za6 w G o (some d) (pre ++ E :: post)) (hx:x.ok) (hk:E.key = x.key) (hb1:0 <= E.a.cnt) (hb2:E.a.cnt < 1000000000) (hb3:E.a.right.length < 1000000000)
 (hin:x.hr = true -> x.r.v ∈ E.a.right) :
 Calls Tryz.prog 134 #[.pointer (some ⟨G,o,none⟩),encO x,.pointer (some ⟨E.S,0,none⟩)] w fun e w'=>e = .returned .nilIface /\ zdb w w' G o (some d) (pre ++ E :: post) x.key (zjv E.a x):=by
 unfold encO;go_enter Tryz.func134,Tryz.ntmps134;go_upto_if 13 with fail;have bx:=BoxO.mk' w x 86;have x1:Ext w (w.alloc (.cells #[.int .i64 x.key,.int .i64 x.l.k,.int .i64 x.l.t,.int .i64 x.l.v,.int .i64 x.r.k,.int .i64 x.r.t,.int .i64 x.r.v,.bool x.hl,.bool x.hr] 86)):=(ExtM.refl _).alloc _;have h1:=h.of x1 (fun _ _=>id);generalize w.alloc (.cells #[.int .i64 x.key,.int .i64 x.l.k,.int .i64 x.l.t,.int .i64 x.l.v,.int .i64 x.r.k,.int .i64 x.r.t,.int .i64 x.r.v,.bool x.hl,.bool x.hr] 86) = w1 at *;generalize Value.agg #[.int .i64 x.key,.int .i64 x.l.k,.int .i64 x.l.t,.int .i64 x.l.v,.int .i64 x.r.k,.int .i64 x.r.t,.int .i64 x.r.v,.bool x.hl,.bool x.hr] = V1;have hM:GMid w w1 G o (some d) (pre ++ E :: post) x w.heap.size (some d) pre post E:=⟨hk,h1,fun _ _=>rfl,⟨ExtM.mono x1 (fun _ _ h=>h.elim),fun k hk=>.inl hk,(zbM.refl w).step x1 h.ltG (fun h=>h)⟩,bx,fun hn=>by have:=h.foot _ hn;omega⟩
 clear h h1 bx x1;go_cut [] (fun wx=>∃ v rt,GMid w wx G o (some d) (pre ++ E :: post) x w.heap.size (some d) pre post ⟨E.key,E.S,v,⟨E.a.cnt,E.a.sum,rt⟩⟩ /\ rt = if x.hr then E.a.right.eraseIdx (E.a.right.countP (. < x.r.v)) else E.a.right)
 case first =>
  have hE:=hM.ent;have hlt:=hE.cells.lt;obtain ⟨c0,c1,c2,f0,f1,f2⟩:=hE.cells;have hlx:=hM.box.lt;obtain ⟨e0,e1,e2,e3,e4,e5,e6,e7,e8⟩:=id hM.box;go_wp2_with fail
  . have hhr:x.hr = true:=by assumption
    have hmem:=hin hhr;have hrow:=hE.row.keep (w':=w1.drew) (fun _ _=>rfl);refine Plan.b0 Plan.Ext 13 ?_;refine Plan.qs 7 [0,1,2,3,4,5,6] ?_;iterate 7 go_big_quiet_step (fail)
    refine Plan.o1 7 fun K hK=>?_;go_wp2_with (fail);refine (zhR E.v E.a.right x.r.v _ hrow hE.srt (by omega)).mono ?_;rintro e w5 ⟨rfl,h5⟩;have H5:=ExtM.trans _ _ _ (ExtM.refl _).drew (Grw.ext h5);obtain ⟨hc5,hf5,-⟩:=Ext.rules H5;have hs5_0:E.S < w5.heap.size:=by have:=H5.size;(try simp at this);omega
    have hs5_1:w.heap.size < w5.heap.size:=by have:=H5.size;(try simp at this);omega
    go_wp2_with (fail);refine hK _ _ (Grw.ext h5) ?_;clear hK K;refine Plan.qs 5 [8,9,10,11,12] ?_;iterate 5 go_big_quiet_step (fail)
    refine Plan.dn ?_;have hM5:=hM.draw H5;clear hc5 hf5 hs5_0 hs5_1 H5 h5 hrow hM;clear c0 c1 c2 f0 f1 f2 e0 e1 e2 e3 e4 e5 e6 e7 e8 hlt hlx hE;obtain ⟨hkl,hke⟩:=zcm x.r.v _ hM5.ent.srt hmem;clear hke;generalize hkk:E.a.right.countP (. < x.r.v) = k at *;have HK:=Lib.hid hkk;clear hkk;have hE:=hM5.ent;have hlt:=hE.cells.lt;obtain ⟨c0,c1,c2,f0,f1,f2⟩:=hE.cells;have hlx:=hM5.box.lt;obtain ⟨e0,e1,e2,e3,e4,e5,e6,e7,e8⟩:=id hM5.box;have hne:¬ E.v.ownBlock = some E.S:=hE.own;have hrow:=hE.row;go_wp2_with fail;refine (zmh E.v E.a.right k _ hrow hkl).mono ?_;rintro e w7 ⟨p,n,cap,rfl,h7,hrow7,hown7⟩;have hC:=hE.cells.keep (w':=w7) (h7.block _ hlt hne);have hoS:(Value.slice p n cap).ownBlock ≠ some E.S:=fun e=>hne (hown7 ▸ e);clear c0 c1 c2 f0 f1 f2 e0 e1 e2 e3 e4 e5 e6 e7 e8 hlt hlx hE;obtain ⟨c0,c1,c2,f0,f1,f2⟩:=id hC;go_wp2_with fail;go_meet
    case rel =>
     have xs:ExtM (fb E) w5 (w7.setCell ⟨E.S,2,none⟩ (.slice p n cap)) :=
      ExtM.setCell (ExtM.mono h7 (fun _ _ h=>.inr h)) (.inr (.inl rfl)) _
     have hM7:=hM5.upd (E':=⟨E.key,E.S,.slice p n cap,⟨E.a.cnt,E.a.sum,E.a.right.eraseIdx k⟩⟩) xs rfl rfl
      ⟨hC.set2 _,hrow7.keep (fun k hk=>Below.heap_setCell _ _ _ _ (fun e=>hoS (by rw [hk,e]))),zcw hM5.ent.srt _,hoS⟩ (fun k hk=>by
       rcases hk with rfl | hk
       . exact .inl (.inl rfl)
       . exact .inl (.inr (hown7 ▸ hk)))
     exact ⟨_,_,hM7,by rw [if_pos hhr]⟩
  . have hhr:x.hr = false:=by assumption
    go_meet
    case rel=>exact ⟨E.v,E.a.right,hM,by rw [if_neg (by rw [hhr];decide)]⟩
 case rest =>
  clear hM;obtain ⟨v,rt,hM,hrt⟩:=hcut;have HRT:=Lib.hid hrt;clear hrt;have hE:=hM.ent;have hlt:=hE.cells.lt;obtain ⟨c0,c1,c2,f0,f1,f2⟩:=hE.cells;have hlx:=hM.box.lt;obtain ⟨e0,e1,e2,e3,e4,e5,e6,e7,e8⟩:=id hM.box;go_upto_if 47 with fail;have hM1:GMid w (wc.setCell ⟨E.S,0,none⟩ (.int .i64 (E.a.cnt - 1))) G o (some d) (pre ++ E :: post) x w.heap.size (some d) pre post ⟨E.key,E.S,v,⟨E.a.cnt - 1,E.a.sum,rt⟩⟩ :=
   hM.upd (E':=⟨E.key,E.S,v,⟨E.a.cnt - 1,E.a.sum,rt⟩⟩) (ExtM.setCell (ExtM.refl _) (.inr (.inl rfl)) _) rfl rfl
    ⟨hE.cells.set0 _,hE.row.keep (fun k hk=>Below.heap_setCell _ _ _ _ (fun e=>hE.own (by rw [hk,e]))),hE.srt,hE.own⟩ (fun _ hk=>.inl hk)
  clear hM;clear c0 c1 c2 f0 f1 f2 e0 e1 e2 e3 e4 e5 e6 e7 e8 hlt hlx hE;generalize wc.setCell ⟨E.S,0,none⟩ (.int .i64 (E.a.cnt - 1)) = w4 at *;go_cut [] (fun wx=>GMid w wx G o (some d) (pre ++ E :: post) x w.heap.size (some d) pre post ⟨E.key,E.S,v,⟨E.a.cnt - 1,if x.hl then wrap64 (E.a.sum - x.l.v) else E.a.sum,rt⟩⟩)
  case first =>
   have hE:=hM1.ent;have hlt:=hE.cells.lt;obtain ⟨c0,c1,c2,f0,f1,f2⟩:=hE.cells;have hlx:=hM1.box.lt;obtain ⟨e0,e1,e2,e3,e4,e5,e6,e7,e8⟩:=id hM1.box;go_wp2_with fail
   . have hhl:x.hl = true:=by assumption
     rw [hhl] at e7;go_still_tail 10,(by kernel_rfl)
     change wpList _ _ _ _ _ w4.drew;go_wp2_with fail;go_meet
     case rel =>
      have xs:ExtM (fb ⟨E.key,E.S,v,⟨E.a.cnt - 1,E.a.sum,rt⟩⟩) w4 (w4.setCell ⟨E.S,1,none⟩ (.int .i64 (wrap64 (E.a.sum - x.l.v)))).drew:=(ExtM.setCell (ExtM.refl _) (.inr (.inl rfl)) _).drew;rw [if_pos hhl];exact hM1.upd (E':=⟨E.key,E.S,v,⟨E.a.cnt - 1,wrap64 (E.a.sum - x.l.v),rt⟩⟩) xs rfl rfl
       ⟨(hE.cells.set1 _).keep rfl,hE.row.keep (fun k hk=>Below.heap_setCell _ _ _ _ (fun e=>hE.own (by rw [hk,e]))),hE.srt,hE.own⟩ (fun _ hk=>.inl hk)
   . have hhl:x.hl = false:=by assumption
     go_meet
     case rel =>
      rw [if_neg (by rw [hhl];decide)];exact hM1
  case rest =>
   generalize hsum:(if x.hl then wrap64 (E.a.sum - x.l.v) else E.a.sum) = sm at *;have HSUM:=Lib.hid hsum;clear hsum hM1;have hM:=hcut;clear hcut;have hE:=hM.ent;have hlt:=hE.cells.lt;obtain ⟨c0,c1,c2,f0,f1,f2⟩:=hE.cells;have hlx:=hM.box.lt;obtain ⟨e0,e1,e2,e3,e4,e5,e6,e7,e8⟩:=id hM.box;go_wp2_with fail
   . have hz:(E.a.cnt - 1 == 0) = true:=by assumption
     have hz:E.a.cnt - 1 = 0:=by simpa using hz
     have HZ:=Lib.hid hz;clear hz;have hGd:¬ G = d:=by
      rcases hM.is.mp with ⟨h1,-⟩ | ⟨d',h1,h2,-⟩
      . cases h1
      . obtain rfl:=Option.some.inj h1;exact fun e=>h2 e.symm
     have hm:zav Tryz.prog 3 (Value.int .i64) wc d (prs (pre ++ ⟨E.key,E.S,v,⟨E.a.cnt - 1,sm,rt⟩⟩ :: post)):=by
      rcases hM.is.mp with ⟨h1,-⟩ | ⟨d',h1,h2,h3⟩
      . cases h1
      . obtain rfl:=Option.some.inj h1;exact h3
     obtain ⟨w9,hdel,x9,-,hm9⟩:=(hm.of (ExtM.drew (ExtM.refl wc):Ext wc wc.drew) id).run_delete zcn zcB Tryz.underlying105 x.key (keyI _ hx.1);have hnd:¬ w.heap.size = d:=fun e=>hM.nbox (.inr (.inl (by rw [e])));have hGc:=hM.is.ltG;have q0:=hM.is.c0;have q1:=hM.is.f0;refine Plan.b0 (Plan.ExtB d) 7 ?_;refine Plan.qs 6 [0,1,2,3,4,5] ?_;iterate 6 go_big_quiet_step (fail)
     refine Plan.o1 6 fun K hK=>?_;go_wp2_with (fail);refine hK _ _ (x9) ?_;clear hK K;refine Plan.dn ?_;clear c0 c1 c2 f0 f1 f2 e0 e1 e2 e3 e4 e5 e6 e7 e8 hlt hlx hE;clear q0 q1;go_wp2_with fail;go_ret;refine ⟨rfl,?_⟩;have y9:ExtB d wc w9:=ExtB.trans _ _ _ (ExtB.of_ext ((ExtM.refl wc).drew)) x9;have hpop:=hM.is.pop y9 hm9;unfold zjv;rw [if_pos HZ.out];refine ⟨some d,_,hpop,⟨?_,fun k hk=>?_,hM.turn.only.step y9 hGc hGd⟩,fun k=>?_⟩
     . have xu:=hM.turn.ext
       exact ⟨y9.os.trans xu.os,y9.tape.trans xu.tape,y9.output.trans xu.output,Nat.le_trans xu.size y9.size,fun k hk hn=>(y9.block k (Nat.lt_of_lt_of_le hk xu.size) (fun e=>by
        have e':k = d:=e
        exact hn (.inr (.inl (by rw [e']))))).trans (xu.block k hk hn)⟩
     . refine hM.turn.foot k ?_;rcases hk with hk | hk | ⟨f,hf,hk⟩
       . exact .inl hk
       . exact .inr (.inl hk)
       . exact .inr (.inr ⟨f,(List.mem_filter.1 hf).1,hk⟩)
     . rw [zpj];by_cases hkk:k = x.key
       . rw [if_pos hkk,if_pos hkk]
       . rw [if_neg hkk,if_neg hkk];exact hM.oth k hkk
   . have hz:(E.a.cnt - 1 == 0) = false:=by assumption
     have hz:¬ E.a.cnt - 1 = 0:=by simpa using hz
     go_ret;refine ⟨rfl,?_⟩
     have:=hM.post
     unfold zjv;rw [if_neg hz,show ziI E.a x = ⟨E.a.cnt - 1,sm,rt⟩ from by unfold ziI;rw [HSUM.out,HRT.out]];exact this
theorem zrt (G o:Nat) (D:Option Nat) (pre post:List Ent) (E:Ent) (x:Out) (w:World) (h:za6 w G o D (pre ++ E :: post)) (hb3:E.a.right.length < 1000000000)
 (hr:x.hr = true) (hin:¬ x.r.v ∈ E.a.right) :
 Calls Tryz.prog 134 #[.pointer (some ⟨G,o,none⟩),encO x,.pointer (some ⟨E.S,0,none⟩)] w fun e w'=>e = .returned (.iface 24 (.int .i64 8)) /\ Ext w w':=by
 have HR:=Lib.hid hr;clear hr;unfold encO;go_enter Tryz.func134,Tryz.ntmps134;go_upto_if 13 with fail;have bx:=BoxO.mk' w x 86;have x1:Ext w (w.alloc (.cells #[.int .i64 x.key,.int .i64 x.l.k,.int .i64 x.l.t,.int .i64 x.l.v,.int .i64 x.r.k,.int .i64 x.r.t,.int .i64 x.r.v,.bool x.hl,.bool x.hr] 86)):=(ExtM.refl _).alloc _;have h1:=h.of x1 (fun _ _=>id);generalize w.alloc (.cells #[.int .i64 x.key,.int .i64 x.l.k,.int .i64 x.l.t,.int .i64 x.l.v,.int .i64 x.r.k,.int .i64 x.r.t,.int .i64 x.r.v,.bool x.hl,.bool x.hr] 86) = w1 at *;generalize Value.agg #[.int .i64 x.key,.int .i64 x.l.k,.int .i64 x.l.t,.int .i64 x.l.v,.int .i64 x.r.k,.int .i64 x.r.t,.int .i64 x.r.v,.bool x.hl,.bool x.hr] = V1;have hE:=h1.all E (by simp);have hlt:=hE.cells.lt;obtain ⟨c0,c1,c2,f0,f1,f2⟩:=hE.cells;have hlx:=bx.lt;obtain ⟨e0,e1,e2,e3,e4,e5,e6,e7,e8⟩:=id bx;go_wp2_with fail
 . have hrow:=hE.row.keep (w':=w1.drew) (fun _ _=>rfl);refine Plan.b0 Plan.Ext 13 ?_;refine Plan.qs 7 [0,1,2,3,4,5,6] ?_;iterate 7 go_big_quiet_step (fail)
   refine Plan.o1 7 fun K hK=>?_;go_wp2_with (fail);refine (zhR E.v E.a.right x.r.v _ hrow hE.srt (by omega)).mono ?_;rintro e w5 ⟨rfl,h5⟩;have H5:=ExtM.trans _ _ _ (ExtM.refl _).drew (Grw.ext h5);obtain ⟨hc5,hf5,-⟩:=Ext.rules H5;have hs5_0:E.S < w5.heap.size:=by have:=H5.size;(try simp at this);omega
   have hs5_1:w.heap.size < w5.heap.size:=by have:=H5.size;(try simp at this);omega
   go_wp2_with (fail);refine hK _ _ (Grw.ext h5) ?_;clear hK K;refine Plan.qs 5 [8,9,10,11,12] ?_;iterate 5 go_big_quiet_step (fail)
   refine Plan.dn ?_;go_wp2_with fail;go_ret;exact ⟨rfl,ExtM.trans _ _ _ x1 H5⟩
 all_goals
  have hhr:x.hr = false:=by assumption
  rw [HR.out] at hhr;cases hhr
theorem zkd (G o:Nat) (D:Option Nat) (ents:List Ent) (x:Out) (w:World) (h:za6 w G o D ents) (hx:x.ok) (a:GS) (ha:st ents x.key = some a) (hb1:0 <= a.cnt) (hb2:a.cnt < 1000000000) (hb3:a.right.length < 1000000000)
 (hin:x.hr = true -> x.r.v ∈ a.right) :
 Calls Tryz.prog 97 #[.pointer (some ⟨G,o,none⟩),encC x true] w fun e w'=>e = .returned .nilIface /\ zdb w w' G o D ents x.key (zjv a x):=by
 have HA:=Lib.hid ha;clear ha;have hG:=h.ltG;have c0:=h.c0;have f0:=h.f0;unfold encC;go_enter Tryz.func97,Tryz.ntmps97;go_wp2_with fail;have bc:=BoxC.mk' w x true 92;have x1:Ext w (w.alloc (.cells #[.int .i64 x.key,.int .i64 x.l.k,.int .i64 x.l.t,.int .i64 x.l.v,.int .i64 x.r.k,.int .i64 x.r.t,.int .i64 x.r.v,.bool x.hl,.bool x.hr,.bool true] 92)):=(ExtM.refl _).alloc _;have z1:(w.alloc (.cells #[.int .i64 x.key,.int .i64 x.l.k,.int .i64 x.l.t,.int .i64 x.l.v,.int .i64 x.r.k,.int .i64 x.r.t,.int .i64 x.r.v,.bool x.hl,.bool x.hr,.bool true] 92)).heap.size = w.heap.size + 1:=World.size_alloc _ _;clear c0 f0;generalize w.alloc (.cells #[.int .i64 x.key,.int .i64 x.l.k,.int .i64 x.l.t,.int .i64 x.l.v,.int .i64 x.r.k,.int .i64 x.r.t,.int .i64 x.r.v,.bool x.hl,.bool x.hr,.bool true] 92) = w1 at *;have bx:=BoxO.mk' w1 x 86;rw [z1] at bx;have x2:Ext w1 (w1.alloc (.cells #[.int .i64 x.key,.int .i64 x.l.k,.int .i64 x.l.t,.int .i64 x.l.v,.int .i64 x.r.k,.int .i64 x.r.t,.int .i64 x.r.v,.bool x.hl,.bool x.hr] 86)):=(ExtM.refl _).alloc _;replace bc:=bc.of x2 id;replace x1:=ExtM.trans _ _ _ x1 x2;clear x2 z1;generalize w1.alloc (.cells #[.int .i64 x.key,.int .i64 x.l.k,.int .i64 x.l.t,.int .i64 x.l.v,.int .i64 x.r.k,.int .i64 x.r.t,.int .i64 x.r.v,.bool x.hl,.bool x.hr] 86) = w2 at *;have h2:=h.of x1 (fun _ _=>id);have hGn:¬ G = w.heap.size:=by omega
 obtain ⟨pp,hpv⟩:∃ pp:Option Addr,pp = (ents.find? (fun e=>decide (e.key = x.key))).map fun e=>⟨e.S,0,none⟩:=⟨_,rfl⟩
 have hlk:∀ (u:World),Ext w2 u -> (Instr.lookup 105 (.map D) (.int .i64 x.key) false).run Tryz.prog u = .ok (.pointer pp) u:=by
  intro u hu;rcases h2.mp with ⟨rfl,rfl⟩ | ⟨d,rfl,hdG,hm⟩
  . rw [hpv];obtain ⟨l,hl⟩:=keyI x.key hx.1;have hf:(Instr.findKey 3 (.int .i64 x.key) []).run Tryz.prog u = .ok none u:=by
     rcases zcn.find u hl [] (by simp) with ⟨h,-⟩ | ⟨j,e,-,h,-⟩
     . exact h
     . simp at h
    simp [Instr.lookup,run_underlying Tryz.underlying105,zcn.check u _ hl,hf,Result.andThen]
  . have:=(hm.of hu id).run_look false zcn zcB Tryz.underlying105 zht x.key (keyI _ hx.1)
    rw [zf1] at this;rw [hpv];cases hfd:ents.find? (fun e=>decide (e.key = x.key)) <;> rw [hfd] at this <;> simpa using this
 have hlq:=fun p=>hlk (Plan.ext Ext w2.drew p) (ExtM.trans _ _ _ (ExtM.drew (ExtM.refl w2)) (zb7 ExtM.refl w2.drew p));have hnl:w.heap.size < w2.heap.size:=zac bc.e0;have hnl1:w.heap.size + 1 < w2.heap.size:=bx.lt;have hG2:=h2.ltG;have c0:=h2.c0;obtain ⟨e0,e1,e2,e3,e4,e5,e6,e7,e8⟩:=id bx;have HPV:=Lib.hid hpv;clear hpv;refine Plan.b0 Plan.Ext 8 ?_;refine Plan.qs 8 [0,1,2,3,4,5,6,7] ?_;iterate 8 go_big_quiet_step (fail)
 refine Plan.dn ?_;have xd:Ext w2 w2.drew:=(ExtM.refl _).drew;replace h2:=h2.of xd (fun _ _=>id);replace bx:=bx.keep (w':=w2.drew) rfl;replace bc:=bc.of xd id;replace x1:=ExtM.trans _ _ _ x1 xd;clear hlq hlk hnl hnl1 hG2 c0 e0 e1 e2 e3 e4 e5 e6 e7 e8 xd;generalize w2.drew = w3 at *;have ha:=HA.out;clear HA;obtain ⟨d,rfl⟩:∃ d,D = some d:=by
  rcases h.mp with ⟨-,rfl⟩ | ⟨d,h1,-⟩
  . cases ha
  . exact ⟨d,h1⟩
 obtain ⟨E,hfd,rfl⟩:=Option.map_eq_some_iff.1 ha;clear ha;rw [hfd] at HPV;have hpe:pp = some ⟨E.S,0,none⟩:=HPV.out;clear HPV;subst hpe;obtain ⟨pre,post,rfl,hk⟩:=zio hfd;have e9:=bc.e9;obtain ⟨e0,e1,e2,e3,e4,e5,e6,e7,e8⟩:=id bx;have hnl:w.heap.size < w3.heap.size:=zac bc.e0;have hnl1:w.heap.size + 1 < w3.heap.size:=bx.lt;go_wp2_with fail;refine (zkR G o d pre post E x _ h2 hx hk hb1 hb2 hb3 hin).mono ?_;rintro e w' ⟨rfl,hp⟩;go_wp2_with fail;go_ret;exact ⟨rfl,hp.base h.ltG x1⟩
theorem zrh (G o:Nat) (D:Option Nat) (ents:List Ent) (x:Out) (w:World) (h:za6 w G o D ents) (hx:x.ok) (ha:∀ a,st ents x.key = some a -> a.right.length < 1000000000 /\ x.hr = true /\ ¬ x.r.v ∈ a.right) :
 Calls Tryz.prog 97 #[.pointer (some ⟨G,o,none⟩),encC x true] w fun e w'=>e = .returned (.iface 24 (.int .i64 8)) /\ Ext w w':=by
 have HA:=Lib.hid ha;clear ha;have hG:=h.ltG;have c0:=h.c0;have f0:=h.f0;unfold encC;go_enter Tryz.func97,Tryz.ntmps97;go_wp2_with fail;have bc:=BoxC.mk' w x true 92;have x1:Ext w (w.alloc (.cells #[.int .i64 x.key,.int .i64 x.l.k,.int .i64 x.l.t,.int .i64 x.l.v,.int .i64 x.r.k,.int .i64 x.r.t,.int .i64 x.r.v,.bool x.hl,.bool x.hr,.bool true] 92)):=(ExtM.refl _).alloc _;have z1:(w.alloc (.cells #[.int .i64 x.key,.int .i64 x.l.k,.int .i64 x.l.t,.int .i64 x.l.v,.int .i64 x.r.k,.int .i64 x.r.t,.int .i64 x.r.v,.bool x.hl,.bool x.hr,.bool true] 92)).heap.size = w.heap.size + 1:=World.size_alloc _ _;clear c0 f0;generalize w.alloc (.cells #[.int .i64 x.key,.int .i64 x.l.k,.int .i64 x.l.t,.int .i64 x.l.v,.int .i64 x.r.k,.int .i64 x.r.t,.int .i64 x.r.v,.bool x.hl,.bool x.hr,.bool true] 92) = w1 at *;have bx:=BoxO.mk' w1 x 86;rw [z1] at bx;have x2:Ext w1 (w1.alloc (.cells #[.int .i64 x.key,.int .i64 x.l.k,.int .i64 x.l.t,.int .i64 x.l.v,.int .i64 x.r.k,.int .i64 x.r.t,.int .i64 x.r.v,.bool x.hl,.bool x.hr] 86)):=(ExtM.refl _).alloc _;replace bc:=bc.of x2 id;replace x1:=ExtM.trans _ _ _ x1 x2;clear x2 z1;generalize w1.alloc (.cells #[.int .i64 x.key,.int .i64 x.l.k,.int .i64 x.l.t,.int .i64 x.l.v,.int .i64 x.r.k,.int .i64 x.r.t,.int .i64 x.r.v,.bool x.hl,.bool x.hr] 86) = w2 at *;have h2:=h.of x1 (fun _ _=>id);have hGn:¬ G = w.heap.size:=by omega
 obtain ⟨pp,hpv⟩:∃ pp:Option Addr,pp = (ents.find? (fun e=>decide (e.key = x.key))).map fun e=>⟨e.S,0,none⟩:=⟨_,rfl⟩
 have hlk:∀ (u:World),Ext w2 u -> (Instr.lookup 105 (.map D) (.int .i64 x.key) false).run Tryz.prog u = .ok (.pointer pp) u:=by
  intro u hu;rcases h2.mp with ⟨rfl,rfl⟩ | ⟨d,rfl,hdG,hm⟩
  . rw [hpv];obtain ⟨l,hl⟩:=keyI x.key hx.1;have hf:(Instr.findKey 3 (.int .i64 x.key) []).run Tryz.prog u = .ok none u:=by
     rcases zcn.find u hl [] (by simp) with ⟨h,-⟩ | ⟨j,e,-,h,-⟩
     . exact h
     . simp at h
    simp [Instr.lookup,run_underlying Tryz.underlying105,zcn.check u _ hl,hf,Result.andThen]
  . have:=(hm.of hu id).run_look false zcn zcB Tryz.underlying105 zht x.key (keyI _ hx.1)
    rw [zf1] at this;rw [hpv];cases hfd:ents.find? (fun e=>decide (e.key = x.key)) <;> rw [hfd] at this <;> simpa using this
 have hlq:=fun p=>hlk (Plan.ext Ext w2.drew p) (ExtM.trans _ _ _ (ExtM.drew (ExtM.refl w2)) (zb7 ExtM.refl w2.drew p));have hnl:w.heap.size < w2.heap.size:=zac bc.e0;have hnl1:w.heap.size + 1 < w2.heap.size:=bx.lt;have hG2:=h2.ltG;have c0:=h2.c0;obtain ⟨e0,e1,e2,e3,e4,e5,e6,e7,e8⟩:=id bx;have HPV:=Lib.hid hpv;clear hpv;refine Plan.b0 Plan.Ext 8 ?_;refine Plan.qs 8 [0,1,2,3,4,5,6,7] ?_;iterate 8 go_big_quiet_step (fail)
 refine Plan.dn ?_;have xd:Ext w2 w2.drew:=(ExtM.refl _).drew;replace h2:=h2.of xd (fun _ _=>id);replace bx:=bx.keep (w':=w2.drew) rfl;replace bc:=bc.of xd id;replace x1:=ExtM.trans _ _ _ x1 xd;clear hlq hlk hnl hnl1 hG2 c0 e0 e1 e2 e3 e4 e5 e6 e7 e8 xd;generalize w2.drew = w3 at *;have ha:=HA.out;clear HA;have e9:=bc.e9;obtain ⟨e0,e1,e2,e3,e4,e5,e6,e7,e8⟩:=id bx;have hnl:w.heap.size < w3.heap.size:=zac bc.e0;have hnl1:w.heap.size + 1 < w3.heap.size:=bx.lt;cases hfd:ents.find? (fun e=>decide (e.key = x.key)) with
 | none =>
   rw [hfd] at HPV;have hpe:pp = none:=HPV.out;clear HPV;subst hpe;go_wp2_with fail;refine (zqQ G o x _).mono ?_;rintro e w' ⟨rfl,hp⟩;go_wp2_with fail;go_ret;exact ⟨rfl,ExtM.trans _ _ _ x1 hp⟩
 | some E =>
   rw [hfd] at HPV;have hpe:pp = some ⟨E.S,0,none⟩:=HPV.out;clear HPV;subst hpe;obtain ⟨h3,h4,h5⟩:=ha E.a (by unfold st;rw [hfd];rfl);have H4:=Lib.hid h4;clear h4 ha;obtain ⟨pre,post,rfl,hk⟩:=zio hfd;go_wp2_with fail;refine (zrt G o D pre post E x _ h2 h3 H4.out h5).mono ?_;rintro e w' ⟨rfl,hp⟩;go_wp2_with fail;go_ret;exact ⟨rfl,ExtM.trans _ _ _ x1 hp⟩
theorem IRow.at {w:World} {v:Value} {xs:List Int} (h:IRow w v xs) (h0:0 < xs.length):∃ g cap,v = .slice (some ⟨g,0,none⟩) xs.length cap /\ xs.length <= cap /\ g < w.heap.size /\ ∀ j,j < xs.length -> w.cell? ⟨g,j,none⟩ = some (.int .i64 (xs.getD j 0)):=by
 rcases h with ⟨rfl,rfl⟩ | ⟨g,cap,f,rfl,h1,h2,h3,h4,h5⟩
 . simp at h0
 . exact ⟨g,cap,rfl,h2,h1.lt,fun j hj=>by rw [h1.cell (by omega),h5 j hj]⟩
structure BoxG (w:World) (n:Nat) (k c s l m:Int) (b:Bool):Prop where
 e0:w.cell? ⟨n,0,none⟩ = some (.int .i64 k)
 e1:w.cell? ⟨n,1,none⟩ = some (.int .i64 c)
 e2:w.cell? ⟨n,2,none⟩ = some (.int .i64 s)
 e3:w.cell? ⟨n,3,none⟩ = some (.int .i64 l)
 e4:w.cell? ⟨n,4,none⟩ = some (.int .i64 m)
 e5:w.cell? ⟨n,5,none⟩ = some (.bool b)
 f0:w.frozen? ⟨n,0,none⟩ = false
 f1:w.frozen? ⟨n,1,none⟩ = false
 f2:w.frozen? ⟨n,2,none⟩ = false
 f3:w.frozen? ⟨n,3,none⟩ = false
 f4:w.frozen? ⟨n,4,none⟩ = false
 f5:w.frozen? ⟨n,5,none⟩ = false
theorem BoxG.keep {w w':World} {n:Nat} {k c s l m:Int} {b:Bool} (h:BoxG w n k c s l m b) (hb:w'.heap[n]? = w.heap[n]?):BoxG w' n k c s l m b:=by
 have r:∀ i,w'.cell? ⟨n,i,none⟩ = w.cell? ⟨n,i,none⟩:=fun i=>World.cell?_of_block (w:=w) (w':=w') (a:=⟨n,i,none⟩) hb;have q:∀ i,w'.frozen? ⟨n,i,none⟩ = w.frozen? ⟨n,i,none⟩:=fun i=>World.frozen?_of_block (w:=w) (w':=w') (a:=⟨n,i,none⟩) hb;exact ⟨(r 0).trans h.e0,(r 1).trans h.e1,(r 2).trans h.e2,(r 3).trans h.e3,(r 4).trans h.e4,(r 5).trans h.e5,(q 0).trans h.f0,(q 1).trans h.f1,(q 2).trans h.f2,(q 3).trans h.f3,(q 4).trans h.f4,(q 5).trans h.f5⟩
theorem BoxG.lt {w:World} {n:Nat} {k c s l m:Int} {b:Bool} (h:BoxG w n k c s l m b):n < w.heap.size:=zac h.e0
open Go.RowKit Go.Plan Go.Shelf
structure GRow where
 key:Int
 cnt:Int
 sum:Int
 least:Int
 most:Int
 some:Bool
def GRow.cells (r:GRow):List Value:=[.int .i64 r.key,.int .i64 r.cnt,.int .i64 r.sum,.int .i64 r.least,.int .i64 r.most,.bool r.some]
structure zd5 (w:World) (b a:Nat) (x:GRow):Prop where
 e0:w.cell? ⟨b,a,none⟩ = some (.int .i64 x.key)
 e1:w.cell? ⟨b,a + 1,none⟩ = some (.int .i64 x.cnt)
 e2:w.cell? ⟨b,a + 2,none⟩ = some (.int .i64 x.sum)
 e3:w.cell? ⟨b,a + 3,none⟩ = some (.int .i64 x.least)
 e4:w.cell? ⟨b,a + 4,none⟩ = some (.int .i64 x.most)
 e5:w.cell? ⟨b,a + 5,none⟩ = some (.bool x.some)
theorem zd5.of {w w':World} {b a:Nat} {x:GRow} (h:zd5 w b a x) (hx:Ext w w'):zd5 w' b a x:=by
 have hl:b < w.heap.size:=zac h.e0;have r:∀ i,w'.cell? ⟨b,i,none⟩ = w.cell? ⟨b,i,none⟩:=fun i=>hx.cell (p:=⟨b,i,none⟩) hl id;exact ⟨(r _).trans h.e0,(r _).trans h.e1,(r _).trans h.e2,(r _).trans h.e3,(r _).trans h.e4,(r _).trans h.e5⟩
theorem zd5.lt {w:World} {b a:Nat} {x:GRow} (h:zd5 w b a x):b < w.heap.size:=zac h.e0
def zcG (w:World) (p:Option Addr) (l:List GRow):Prop:=l = [] \/ ∃ b,p = some ⟨b,0,none⟩ /\ ∀ i (hi:i < l.length),zd5 w b (i * 6) (l[i]'hi)
theorem zcG.of {w w':World} {p:Option Addr} {l:List GRow} (h:zcG w p l) (hx:Ext w w'):zcG w' p l:=by
 rcases h with h | ⟨b,h1,h2⟩
 . exact .inl h
 . exact .inr ⟨b,h1,fun i hi=>(h2 i hi).of hx⟩
theorem zj0 (l:List GRow) (i c:Nat) (hi:i < l.length) (hc:c < 6):(l.flatMap GRow.cells)[i * 6 + c]? = (l[i]'hi).cells[c]?:=by
 induction l generalizing i with
 | nil=>simp at hi
 | cons x r ih =>
   rw [List.flatMap_cons];have hx:x.cells.length = 6:=rfl;cases i with
   | zero=>rw [List.getElem?_append_left (by rw [hx];omega)];simp
   | succ i =>
     rw [List.getElem?_append_right (by rw [hx];omega),hx]
     have:=ih i (by simpa using hi)
     rw [show (i + 1) * 6 + c - 6 = i * 6 + c by omega,this];simp
theorem zcG.own {w:World} {base n:Nat} {e:TypeId} {v:Value} {l:List GRow} (h:w.ownsRow base e 6 v n (l.flatMap GRow.cells)) (hn:n = l.length):∃ p cap,v = .slice p l.length cap /\ zcG w p l:=by
 subst hn;obtain ⟨hl,hr⟩:=h;rcases hr with ⟨rfl,h0⟩ | ⟨g,cap,cur,rfl,hbase,hb,h1,h2,h3,h4⟩
 . exact ⟨none,0,by rw [h0],.inl (List.eq_nil_of_length_eq_zero h0)⟩
 . refine ⟨_,cap,rfl,.inr ⟨g,rfl,fun i hi=>?_⟩⟩;have r:∀ c,c < 6 -> w.cell? ⟨g,i * 6 + c,none⟩ = (l[i]'hi).cells[c]?:=fun c hc=>by
    have e1:=zj0 l i c hi hc;rw [<- h4,List.getElem?_take_of_lt (by omega),Array.getElem?_toList] at e1;simpa [World.cell?,hb] using e1
   exact ⟨r 0 (by omega),r 1 (by omega),r 2 (by omega),r 3 (by omega),r 4 (by omega),r 5 (by omega)⟩
def zqc (l:List Out) (k:Int):List Out:=l.filter fun x=>decide (x.key = k)
def lsum:List Out -> Int
 | []=>0
 | x :: m=>(if x.hl then x.l.v else 0) + lsum m
theorem zg8 {m m':List Out} (h:m.Perm m'):lsum m = lsum m':=by
 induction h with
 | nil=>rfl
 | cons x _ ih=>simp only [lsum,ih]
 | swap x y l=>simp only [lsum];omega
 | trans _ _ h1 h2=>exact h1.trans h2
structure RepA (a:GS) (m:List Out):Prop where
 cnt:a.cnt = m.length
 sum:a.sum = wrap64 (lsum m)
 perm:a.right.Perm ((m.filter (·.hr)).map (·.r.v))
 srt:a.right.Pairwise (. <= ·)
def Rep (o:Option GS) (m:List Out):Prop :=
 match o with
 | none=>m = []
 | some a=>m ≠ [] /\ RepA a m
def za7 (ents:List Ent) (l:List Out):Prop:=∀ k,Rep (st ents k) (zqc l k)
theorem RepA.nil:RepA ⟨0,0,[]⟩ []:=⟨rfl,by show (0:Int) = wrap64 0;unfold wrap64;decide,.nil,.nil⟩
theorem RepA.of_perm {a:GS} {m m':List Out} (h:RepA a m) (hp:m.Perm m'):RepA a m' :=
 ⟨by rw [h.cnt,hp.length_eq],by rw [h.sum,zg8 hp],h.perm.trans ((hp.filter _).map _),h.srt⟩
theorem Rep.of_perm {o:Option GS} {m m':List Out} (h:Rep o m) (hp:m.Perm m'):Rep o m':=by
 cases o with
 | none=>obtain rfl:=(h:m = []);exact hp.nil_eq.symm
 | some a=>exact ⟨fun e=>h.1 (by rw [e] at hp;exact hp.eq_nil),h.2.of_perm hp⟩
theorem zkD (xs:List Int) (i:Nat) (x:Int):(insI xs i x).Perm (x :: xs):=by
 unfold insI
 have:=(List.perm_middle (a:=x) (l₁:=xs.take i) (l₂:=xs.drop i))
 rwa [List.take_append_drop] at this
theorem zfD {xs:List Int} {i:Nat} {x:Int} (h:xs[i]? = some x):xs.Perm (x :: xs.eraseIdx i):=by
 obtain ⟨hi,rfl⟩:=List.getElem?_eq_some_iff.1 h;rw [List.eraseIdx_eq_take_drop_succ];have e:=List.take_append_drop i xs;rw [List.drop_eq_getElem_cons hi] at e;exact (by rw [e]:xs.Perm (xs.take i ++ xs[i] :: xs.drop (i + 1))).trans List.perm_middle
theorem zm9 {a:GS} {m:List Out} (x:Out) (h:RepA a m):RepA (zhr a x) (x :: m) where
 cnt:=by show a.cnt + 1 = _;rw [h.cnt];simp
 sum:=by
  show (if x.hl then wrap64 (a.sum + x.l.v) else a.sum) = _;by_cases hl:x.hl = true
  . rw [if_pos hl,h.sum];simp only [lsum,if_pos hl];unfold wrap64;omega
  . rw [if_neg hl,h.sum];simp only [lsum,if_neg hl,Int.zero_add]
 perm:=by
  show (if x.hr then insI a.right (a.right.countP (. < x.r.v)) x.r.v else a.right).Perm _;by_cases hr:x.hr = true
  . rw [if_pos hr,List.filter_cons_of_pos hr,List.map_cons];exact (zkD _ _ _).trans (h.perm.cons _)
  . rw [if_neg hr,List.filter_cons_of_neg hr];exact h.perm
 srt:=by
  show (if x.hr then insI a.right (a.right.countP (. < x.r.v)) x.r.v else a.right).Pairwise (. <= ·);by_cases hr:x.hr = true
  . rw [if_pos hr];exact zcX _ _ h.srt
  . rw [if_neg hr];exact h.srt
theorem zly {a:GS} {m m':List Out} {x:Out} (h:RepA a m) (hp:m.Perm (x :: m')):RepA (ziI a x) m':=by
 have h:=h.of_perm hp;refine ⟨?_,?_,?_,?_⟩
 . show a.cnt - 1 = _;rw [h.cnt];simp
 . show (if x.hl then wrap64 (a.sum - x.l.v) else a.sum) = _;have hs:=h.sum;by_cases hl:x.hl = true
   . simp only [lsum,if_pos hl] at hs;rw [if_pos hl,hs];unfold wrap64;omega
   . simp only [lsum,if_neg hl,Int.zero_add] at hs;rw [if_neg hl,hs]
 . show (if x.hr then a.right.eraseIdx (a.right.countP (. < x.r.v)) else a.right).Perm _;have hq:=h.perm;by_cases hr:x.hr = true
   . rw [List.filter_cons_of_pos hr,List.map_cons] at hq;rw [if_pos hr];have hmem:x.r.v ∈ a.right:=hq.mem_iff.2 List.mem_cons_self;exact List.Perm.cons_inv ((zfD (zcm _ _ h.srt hmem).2).symm.trans hq)
   . rw [List.filter_cons_of_neg hr] at hq;rw [if_neg hr];exact hq
 . show (if x.hr then a.right.eraseIdx (a.right.countP (. < x.r.v)) else a.right).Pairwise (. <= ·);by_cases hr:x.hr = true
   . rw [if_pos hr];exact zcw h.srt _
   . rw [if_neg hr];exact h.srt
theorem ofKey_cons (x:Out) (l:List Out) (k:Int):zqc (x :: l) k = if k = x.key then x :: zqc l k else zqc l k:=by
 unfold zqc;by_cases h:k = x.key
 . rw [if_pos h,List.filter_cons_of_pos (by simp [h])]
 . rw [if_neg h,List.filter_cons_of_neg (by simp;exact fun e=>h e.symm)]
theorem za7.of_perm {ents:List Ent} {l l':List Out} (h:za7 ents l) (hp:l.Perm l'):za7 ents l':=fun k=>(h k).of_perm (hp.filter _)
theorem za7.nil:za7 [] []:=fun _k=>rfl
theorem za7.add {ents ents':List Ent} {l:List Out} {x:Out} (h:za7 ents l) (hs:∀ k,st ents' k = if k = x.key then some (zhr ((st ents x.key).getD ⟨0,0,[]⟩) x) else st ents k):za7 ents' (x :: l):=by
 intro k;rw [hs k,ofKey_cons];by_cases hk:k = x.key
 . rw [if_pos hk,if_pos hk];refine ⟨by simp,zm9 x ?_⟩
   have:=h x.key
   subst hk;cases ho:st ents x.key with
   | none=>rw [ho] at this;rw [(this:_ = [])];exact RepA.nil
   | some a=>rw [ho] at this;exact this.2
 . rw [if_neg hk,if_neg hk];exact h k
theorem za7.less {ents ents':List Ent} {l l':List Out} {x:Out} {a:GS} (h:za7 ents l) (hp:l.Perm (x :: l')) (ha:st ents x.key = some a) (hs:∀ k,st ents' k = if k = x.key then zjv a x else st ents k):za7 ents' l':=by
 intro k;have h':=h.of_perm hp k;rw [ofKey_cons] at h';rw [hs k];by_cases hk:k = x.key
 . rw [if_pos hk] at h' ⊢;subst hk;rw [ha] at h';have hr:=zly h'.2 (List.Perm.refl _);have hc:=h'.2.cnt;unfold zjv;by_cases hz:a.cnt - 1 = 0
   . rw [if_pos hz];rw [List.length_cons] at hc;exact List.eq_nil_of_length_eq_zero (by omega)
   . rw [if_neg hz];refine ⟨fun e=>?_,hr⟩;rw [e] at hc;simp at hc;omega
 . rw [if_neg hk] at h' ⊢;exact h'
theorem za7.mem {ents:List Ent} {l:List Out} (h:za7 ents l) {x:Out} (hx:x ∈ l):∃ a,st ents x.key = some a /\ (x.hr = true -> x.r.v ∈ a.right):=by
 have h1:=h x.key;have hm:x ∈ zqc l x.key:=List.mem_filter.2 ⟨hx,by simp⟩;cases ho:st ents x.key with
 | none=>rw [ho] at h1;rw [(h1:_ = [])] at hm;cases hm
 | some a =>
   rw [ho] at h1;refine ⟨a,rfl,fun hr=>?_⟩;exact h1.2.perm.mem_iff.2 (List.mem_map.2 ⟨x,List.mem_filter.2 ⟨hm,hr⟩,rfl⟩)
theorem za7.bound {ents:List Ent} {l:List Out} (h:za7 ents l) {k:Int} {a:GS} (ha:st ents k = some a):0 <= a.cnt /\ a.cnt <= l.length /\ a.right.length <= l.length:=by
 have h1:=h k;rw [ha] at h1;have hc:=h1.2.cnt;have hp:=h1.2.perm.length_eq;have hl:(zqc l k).length <= l.length:=List.length_filter_le _ _;have hf:((zqc l k).filter (·.hr)).length <= (zqc l k).length:=List.length_filter_le _ _;rw [List.length_map] at hp;omega
theorem zo6 (G o:Nat) (D:Option Nat) (ents:List Ent) (l:List Out) (x:Out) (w:World) (h:za6 w G o D ents) (hr:za7 ents l) (hx:x.ok) (hl:l.length < 1000000) :
 Calls Tryz.prog 97 #[.pointer (some ⟨G,o,none⟩),encC x false] w fun e w'=>e = .returned .nilIface /\ ∃ D' ents',za6 w' G o D' ents' /\ za7 ents' (x :: l) /\ zgk w w' G o D D' ents ents' :=
 (zmv G o D ents x w h hx (fun a ha=>by have:=hr.bound ha;omega)).mono fun e w' ⟨he,D',ents',h1,h2,h3⟩=>⟨he,D',ents',h1,hr.add h3,h2⟩
theorem zof (G o:Nat) (D:Option Nat) (ents:List Ent) (l:List Out) (x:Out) (w:World) (h:za6 w G o D ents) (hr:za7 ents l) (hx:x ∈ l) (hok:x.ok) (hl:l.length < 1000000) :
 Calls Tryz.prog 97 #[.pointer (some ⟨G,o,none⟩),encC x true] w fun e w'=>e = .returned .nilIface /\ ∃ D' ents',za6 w' G o D' ents' /\ za7 ents' (l.erase x) /\ zgk w w' G o D D' ents ents':=by
 obtain ⟨a,ha,hin⟩:=hr.mem hx;have hb:=hr.bound ha;exact (zkd G o D ents x w h hok a ha (by omega) (by omega) (by omega) hin).mono fun e w' ⟨he,D',ents',h1,h2,h3⟩=>⟨he,D',ents',h1,hr.less (List.perm_cons_erase hx) ha h3,h2⟩
structure TwoG (w wr:World) (A:Nat) (p q:List Out):Prop where
 ex:∃ DA eA DB eB,za6 wr A 0 DA eA /\ za7 eA p /\ za6 wr (A + 1) 0 DB eB /\ za7 eB q /\ (∀ k,grpM A DA eA k -> A <= k) /\ (∀ k,grpM (A + 1) DB eB k -> A <= k) /\ ∀ k,grpM A DA eA k -> ¬ grpM (A + 1) DB eB k
 ext:Ext w wr
 low:w.heap.size <= A
theorem TwoG.of {w wr w':World} {A:Nat} {p q:List Out} (h:TwoG w wr A p q) (hx:Ext wr w'):TwoG w w' A p q:=by
 obtain ⟨⟨DA,eA,DB,eB,h1,h2,h3,h4,h5⟩,h6,h7⟩:=h;exact ⟨⟨DA,eA,DB,eB,h1.of hx (fun _ _=>id),h2,h3.of hx (fun _ _=>id),h4,h5⟩,ExtM.trans _ _ _ h6 hx,h7⟩
theorem TwoG.size {w wr:World} {A:Nat} {p q:List Out} (h:TwoG w wr A p q):A + 1 < wr.heap.size:=by
 obtain ⟨⟨DA,eA,DB,eB,h1,h2,h3,h4,h5⟩,h6,h7⟩:=h;exact h3.ltG
end Go.Proofs.YtmcgnnmffeojpabGreatDoor
