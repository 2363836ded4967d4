import Derived.Test.YtiknejbcehpmoaaGreatDoorPk18
import Derived.Test.YtiknejbcehpmoaaGreatDoorPk19
import Derived.Maps.Range
set_option maxRecDepth 100000
set_option maxHeartbeats 8000000
namespace Go.Proofs.YtiknejbcehpmoaaGreatDoor
open Go.RowKit Go.Plan
def ziI (a:GS) (x:Out):GS :=
 ⟨a.cnt - 1,if x.hl then wrap64 (a.sum - x.l.v) else a.sum,if x.hr then a.right.eraseIdx (a.right.countP (. < x.r.v)) else a.right⟩
def zjv (a:GS) (x:Out):Option GS:=if a.cnt - 1 = 0 then none else some (ziI a x)
theorem zdb.base {w w3 w':World} {G o:Nat} {D:Option Nat} {ents:List Ent} {key:Int} {b:Option GS} (hG:G < w.heap.size) (x1:Ext w w3) (h:zdb w3 w' G o D ents key b):zdb w w' G o D ents key b:=by
 obtain ⟨D',ents',h1,h2,h3⟩:=h;have hs:=x1.size;refine ⟨D',ents',h1,⟨ExtM.trans _ _ _ (ExtM.mono x1 (fun _ _ h=>h.elim)) h2.ext,fun k hk=>?_,((zbM.refl w).step x1 hG (fun h=>h)).trans h2.only⟩,h3⟩;rcases h2.foot k hk with h | h
 . exact .inl h
 . exact .inr (by omega)
theorem zcw {xs:List Int} (h:xs.Pairwise (. <= ·)) (i:Nat):(xs.eraseIdx i).Pairwise (. <= ·):=h.sublist (List.eraseIdx_sublist xs i)
theorem zcm (x:Int):∀ (xs:List Int),xs.Pairwise (. <= ·) -> x ∈ xs -> xs.countP (. < x) < xs.length /\ xs[xs.countP (. < x)]? = some x
 | [],_,h=>by cases h
 | y :: ys,hs,h=>by
   obtain ⟨h1,h2⟩:=List.pairwise_cons.1 hs;by_cases hy:y < x
   . have hm:x ∈ ys:=by
      rcases List.mem_cons.1 h with rfl | h
      . omega
      . exact h
     obtain ⟨i1,i2⟩:=zcm x ys h2 hm;have e:(y :: ys).countP (. < x) = ys.countP (. < x) + 1:=by simp [hy]
     rw [e];exact ⟨by simp;omega,by simpa using i2⟩
   . have e:(y :: ys).countP (. < x) = 0:=by
      rw [List.countP_eq_zero];intro z hz;rcases List.mem_cons.1 hz with rfl | hz
      . simpa using hy
      . have:=h1 z hz;simp;omega
     rw [e];refine ⟨by simp,?_⟩;rcases List.mem_cons.1 h with rfl | h
     . rfl
     . have:=h1 x h
       have:y = x:=by omega
       simp [this]
theorem zkR (G o:Nat) (d:Nat) (pre post:List Ent) (E:Ent) (x:Out) (w:World) (h:za6 w G o (some d) (pre ++ E :: post)) (hx:x.ok) (hk:E.key = x.key) (hb1:0 <= E.a.cnt) (hb2:E.a.cnt < 1000000000) (hb3:E.a.right.length < 1000000000)
 (hin:x.hr = true -> x.r.v ∈ E.a.right) :
 Calls Tryz.prog 233 #[.pointer (some ⟨G,o,none⟩),encO x,.pointer (some ⟨E.S,0,none⟩)] w fun e w'=>e = .returned .nilIface /\ zdb w w' G o (some d) (pre ++ E :: post) x.key (zjv E.a x):=by
 unfold encO;go_enter Tryz.func233,Tryz.ntmps233;go_upto_if 13 with fail;have bx:=BoxO.mk' w x 94;have x1:Ext w (w.alloc (.cells #[.int .i64 x.key,.int .i64 x.l.k,.int .i64 x.l.t,.int .i64 x.l.v,.int .i64 x.r.k,.int .i64 x.r.t,.int .i64 x.r.v,.bool x.hl,.bool x.hr] 94)):=(ExtM.refl _).alloc _;have h1:=h.of x1 (fun _ _=>id);generalize w.alloc (.cells #[.int .i64 x.key,.int .i64 x.l.k,.int .i64 x.l.t,.int .i64 x.l.v,.int .i64 x.r.k,.int .i64 x.r.t,.int .i64 x.r.v,.bool x.hl,.bool x.hr] 94) = w1 at *;generalize Value.agg #[.int .i64 x.key,.int .i64 x.l.k,.int .i64 x.l.t,.int .i64 x.l.v,.int .i64 x.r.k,.int .i64 x.r.t,.int .i64 x.r.v,.bool x.hl,.bool x.hr] = V1;have hM:GMid w w1 G o (some d) (pre ++ E :: post) x w.heap.size (some d) pre post E:=⟨hk,h1,fun _ _=>rfl,⟨ExtM.mono x1 (fun _ _ h=>h.elim),fun k hk=>.inl hk,(zbM.refl w).step x1 h.ltG (fun h=>h)⟩,bx,fun hn=>by have:=h.foot _ hn;omega⟩
 clear h h1 bx x1;go_cut [] (fun wx=>∃ v rt,GMid w wx G o (some d) (pre ++ E :: post) x w.heap.size (some d) pre post ⟨E.key,E.S,v,⟨E.a.cnt,E.a.sum,rt⟩⟩ /\ rt = if x.hr then E.a.right.eraseIdx (E.a.right.countP (. < x.r.v)) else E.a.right)
 case first =>
  have hE:=hM.ent;have hlt:=hE.cells.lt;obtain ⟨c0,c1,c2,f0,f1,f2⟩:=hE.cells;have hlx:=hM.box.lt;obtain ⟨e0,e1,e2,e3,e4,e5,e6,e7,e8⟩:=id hM.box;go_wp2_with fail
  . have hhr:x.hr = true:=by assumption
    have hmem:=hin hhr;have hrow:=hE.row.keep (w':=w1.drew) (fun _ _=>rfl);refine Plan.b0 Plan.Ext 13 ?_;refine Plan.qs 7 [0,1,2,3,4,5,6] ?_;iterate 7 go_big_quiet_step (fail)
    refine Plan.o1 7 fun K hK=>?_;go_wp2_with (fail);refine (zhR E.v E.a.right x.r.v _ hrow hE.srt (by omega)).mono ?_;rintro e w5 ⟨rfl,h5⟩;have H5:=ExtM.trans _ _ _ (ExtM.refl _).drew (Grw.ext h5);obtain ⟨hc5,hf5,-⟩:=Ext.rules H5;have hs5_0:E.S < w5.heap.size:=by have:=H5.size;(try simp at this);omega
    have hs5_1:w.heap.size < w5.heap.size:=by have:=H5.size;(try simp at this);omega
    go_wp2_with (fail);refine hK _ _ (Grw.ext h5) ?_;clear hK K;refine Plan.qs 5 [8,9,10,11,12] ?_;iterate 5 go_big_quiet_step (fail)
    refine Plan.dn ?_;have hM5:=hM.draw H5;clear hc5 hf5 hs5_0 hs5_1 H5 h5 hrow hM;clear c0 c1 c2 f0 f1 f2 e0 e1 e2 e3 e4 e5 e6 e7 e8 hlt hlx hE;obtain ⟨hkl,hke⟩:=zcm x.r.v _ hM5.ent.srt hmem;clear hke;generalize hkk:E.a.right.countP (. < x.r.v) = k at *;have HK:=Lib.hid hkk;clear hkk;have hE:=hM5.ent;have hlt:=hE.cells.lt;obtain ⟨c0,c1,c2,f0,f1,f2⟩:=hE.cells;have hlx:=hM5.box.lt;obtain ⟨e0,e1,e2,e3,e4,e5,e6,e7,e8⟩:=id hM5.box;have hne:¬ E.v.ownBlock = some E.S:=hE.own;have hrow:=hE.row;go_wp2_with fail;refine (zmh E.v E.a.right k _ hrow hkl).mono ?_;rintro e w7 ⟨p,n,cap,rfl,h7,hrow7,hown7⟩;have hC:=hE.cells.keep (w':=w7) (h7.block _ hlt hne);have hoS:(Value.slice p n cap).ownBlock ≠ some E.S:=fun e=>hne (hown7 ▸ e);clear c0 c1 c2 f0 f1 f2 e0 e1 e2 e3 e4 e5 e6 e7 e8 hlt hlx hE;obtain ⟨c0,c1,c2,f0,f1,f2⟩:=id hC;go_wp2_with fail;go_meet
    case rel =>
     have xs:ExtM (fb E) w5 (w7.setCell ⟨E.S,2,none⟩ (.slice p n cap)) :=
      ExtM.setCell (ExtM.mono h7 (fun _ _ h=>.inr h)) (.inr (.inl rfl)) _
     have hM7:=hM5.upd (E':=⟨E.key,E.S,.slice p n cap,⟨E.a.cnt,E.a.sum,E.a.right.eraseIdx k⟩⟩) xs rfl rfl
      ⟨hC.set2 _,hrow7.keep (fun k hk=>Below.heap_setCell _ _ _ _ (fun e=>hoS (by rw [hk,e]))),zcw hM5.ent.srt _,hoS⟩ (fun k hk=>by
       rcases hk with rfl | hk
       . exact .inl (.inl rfl)
       . exact .inl (.inr (hown7 ▸ hk)))
     exact ⟨_,_,hM7,by rw [if_pos hhr]⟩
  . have hhr:x.hr = false:=by assumption
    go_meet
    case rel=>exact ⟨E.v,E.a.right,hM,by rw [if_neg (by rw [hhr];decide)]⟩
 case rest =>
  clear hM;obtain ⟨v,rt,hM,hrt⟩:=hcut;have HRT:=Lib.hid hrt;clear hrt;have hE:=hM.ent;have hlt:=hE.cells.lt;obtain ⟨c0,c1,c2,f0,f1,f2⟩:=hE.cells;have hlx:=hM.box.lt;obtain ⟨e0,e1,e2,e3,e4,e5,e6,e7,e8⟩:=id hM.box;go_upto_if 47 with fail;have hM1:GMid w (wc.setCell ⟨E.S,0,none⟩ (.int .i64 (E.a.cnt - 1))) G o (some d) (pre ++ E :: post) x w.heap.size (some d) pre post ⟨E.key,E.S,v,⟨E.a.cnt - 1,E.a.sum,rt⟩⟩ :=
   hM.upd (E':=⟨E.key,E.S,v,⟨E.a.cnt - 1,E.a.sum,rt⟩⟩) (ExtM.setCell (ExtM.refl _) (.inr (.inl rfl)) _) rfl rfl
    ⟨hE.cells.set0 _,hE.row.keep (fun k hk=>Below.heap_setCell _ _ _ _ (fun e=>hE.own (by rw [hk,e]))),hE.srt,hE.own⟩ (fun _ hk=>.inl hk)
  clear hM;clear c0 c1 c2 f0 f1 f2 e0 e1 e2 e3 e4 e5 e6 e7 e8 hlt hlx hE;generalize wc.setCell ⟨E.S,0,none⟩ (.int .i64 (E.a.cnt - 1)) = w4 at *;go_cut [] (fun wx=>GMid w wx G o (some d) (pre ++ E :: post) x w.heap.size (some d) pre post ⟨E.key,E.S,v,⟨E.a.cnt - 1,if x.hl then wrap64 (E.a.sum - x.l.v) else E.a.sum,rt⟩⟩)
  case first =>
   have hE:=hM1.ent;have hlt:=hE.cells.lt;obtain ⟨c0,c1,c2,f0,f1,f2⟩:=hE.cells;have hlx:=hM1.box.lt;obtain ⟨e0,e1,e2,e3,e4,e5,e6,e7,e8⟩:=id hM1.box;go_wp2_with fail
   . have hhl:x.hl = true:=by assumption
     rw [hhl] at e7;go_still_tail 10,(by kernel_rfl)
     change wpList _ _ _ _ _ w4.drew;go_wp2_with fail;go_meet
     case rel =>
      have xs:ExtM (fb ⟨E.key,E.S,v,⟨E.a.cnt - 1,E.a.sum,rt⟩⟩) w4 (w4.setCell ⟨E.S,1,none⟩ (.int .i64 (wrap64 (E.a.sum - x.l.v)))).drew:=(ExtM.setCell (ExtM.refl _) (.inr (.inl rfl)) _).drew;rw [if_pos hhl];exact hM1.upd (E':=⟨E.key,E.S,v,⟨E.a.cnt - 1,wrap64 (E.a.sum - x.l.v),rt⟩⟩) xs rfl rfl
       ⟨(hE.cells.set1 _).keep rfl,hE.row.keep (fun k hk=>Below.heap_setCell _ _ _ _ (fun e=>hE.own (by rw [hk,e]))),hE.srt,hE.own⟩ (fun _ hk=>.inl hk)
   . have hhl:x.hl = false:=by assumption
     go_meet
     case rel =>
      rw [if_neg (by rw [hhl];decide)];exact hM1
  case rest =>
   generalize hsum:(if x.hl then wrap64 (E.a.sum - x.l.v) else E.a.sum) = sm at *;have HSUM:=Lib.hid hsum;clear hsum hM1;have hM:=hcut;clear hcut;have hE:=hM.ent;have hlt:=hE.cells.lt;obtain ⟨c0,c1,c2,f0,f1,f2⟩:=hE.cells;have hlx:=hM.box.lt;obtain ⟨e0,e1,e2,e3,e4,e5,e6,e7,e8⟩:=id hM.box;go_wp2_with fail
   . have hz:(E.a.cnt - 1 == 0) = true:=by assumption
     have hz:E.a.cnt - 1 = 0:=by simpa using hz
     have HZ:=Lib.hid hz;clear hz;have hGd:¬ G = d:=by
      rcases hM.is.mp with ⟨h1,-⟩ | ⟨d',h1,h2,-⟩
      . cases h1
      . obtain rfl:=Option.some.inj h1;exact fun e=>h2 e.symm
     have hm:zav Tryz.prog 3 (Value.int .i64) wc d (prs (pre ++ ⟨E.key,E.S,v,⟨E.a.cnt - 1,sm,rt⟩⟩ :: post)):=by
      rcases hM.is.mp with ⟨h1,-⟩ | ⟨d',h1,h2,h3⟩
      . cases h1
      . obtain rfl:=Option.some.inj h1;exact h3
     obtain ⟨w9,hdel,x9,-,hm9⟩:=(hm.of (ExtM.drew (ExtM.refl wc):Ext wc wc.drew) id).run_delete zcn zcB Tryz.underlying116 x.key (keyI _ hx.1);have hnd:¬ w.heap.size = d:=fun e=>hM.nbox (.inr (.inl (by rw [e])));have hGc:=hM.is.ltG;have q0:=hM.is.c0;have q1:=hM.is.f0;refine Plan.b0 (Plan.ExtB d) 7 ?_;refine Plan.qs 6 [0,1,2,3,4,5] ?_;iterate 6 go_big_quiet_step (fail)
     refine Plan.o1 6 fun K hK=>?_;go_wp2_with (fail);refine hK _ _ (x9) ?_;clear hK K;refine Plan.dn ?_;clear c0 c1 c2 f0 f1 f2 e0 e1 e2 e3 e4 e5 e6 e7 e8 hlt hlx hE;clear q0 q1;go_wp2_with fail;go_ret;refine ⟨rfl,?_⟩;have y9:ExtB d wc w9:=ExtB.trans _ _ _ (ExtB.of_ext ((ExtM.refl wc).drew)) x9;have hpop:=hM.is.pop y9 hm9;unfold zjv;rw [if_pos HZ.out];refine ⟨some d,_,hpop,⟨?_,fun k hk=>?_,hM.turn.only.step y9 hGc hGd⟩,fun k=>?_⟩
     . have xu:=hM.turn.ext
       exact ⟨y9.os.trans xu.os,y9.tape.trans xu.tape,y9.output.trans xu.output,Nat.le_trans xu.size y9.size,fun k hk hn=>(y9.block k (Nat.lt_of_lt_of_le hk xu.size) (fun e=>by
        have e':k = d:=e
        exact hn (.inr (.inl (by rw [e']))))).trans (xu.block k hk hn)⟩
     . refine hM.turn.foot k ?_;rcases hk with hk | hk | ⟨f,hf,hk⟩
       . exact .inl hk
       . exact .inr (.inl hk)
       . exact .inr (.inr ⟨f,(List.mem_filter.1 hf).1,hk⟩)
     . rw [zpj];by_cases hkk:k = x.key
       . rw [if_pos hkk,if_pos hkk]
       . rw [if_neg hkk,if_neg hkk];exact hM.oth k hkk
   . have hz:(E.a.cnt - 1 == 0) = false:=by assumption
     have hz:¬ E.a.cnt - 1 = 0:=by simpa using hz
     go_ret;refine ⟨rfl,?_⟩
     have:=hM.post
     unfold zjv;rw [if_neg hz,show ziI E.a x = ⟨E.a.cnt - 1,sm,rt⟩ from by unfold ziI;rw [HSUM.out,HRT.out]];exact this
theorem zkd (G o:Nat) (D:Option Nat) (ents:List Ent) (x:Out) (w:World) (h:za6 w G o D ents) (hx:x.ok) (a:GS) (ha:st ents x.key = some a) (hb1:0 <= a.cnt) (hb2:a.cnt < 1000000000) (hb3:a.right.length < 1000000000)
 (hin:x.hr = true -> x.r.v ∈ a.right) :
 Calls Tryz.prog 208 #[.pointer (some ⟨G,o,none⟩),encC x true] w fun e w'=>e = .returned .nilIface /\ zdb w w' G o D ents x.key (zjv a x):=by
 have HA:=Lib.hid ha;clear ha;have hG:=h.ltG;have c0:=h.c0;have f0:=h.f0;unfold encC;go_enter Tryz.func208,Tryz.ntmps208;go_wp2_with fail;have bc:=BoxC.mk' w x true 96;have x1:Ext w (w.alloc (.cells #[.int .i64 x.key,.int .i64 x.l.k,.int .i64 x.l.t,.int .i64 x.l.v,.int .i64 x.r.k,.int .i64 x.r.t,.int .i64 x.r.v,.bool x.hl,.bool x.hr,.bool true] 96)):=(ExtM.refl _).alloc _;have z1:(w.alloc (.cells #[.int .i64 x.key,.int .i64 x.l.k,.int .i64 x.l.t,.int .i64 x.l.v,.int .i64 x.r.k,.int .i64 x.r.t,.int .i64 x.r.v,.bool x.hl,.bool x.hr,.bool true] 96)).heap.size = w.heap.size + 1:=World.size_alloc _ _;clear c0 f0;generalize w.alloc (.cells #[.int .i64 x.key,.int .i64 x.l.k,.int .i64 x.l.t,.int .i64 x.l.v,.int .i64 x.r.k,.int .i64 x.r.t,.int .i64 x.r.v,.bool x.hl,.bool x.hr,.bool true] 96) = w1 at *;have bx:=BoxO.mk' w1 x 94;rw [z1] at bx;have x2:Ext w1 (w1.alloc (.cells #[.int .i64 x.key,.int .i64 x.l.k,.int .i64 x.l.t,.int .i64 x.l.v,.int .i64 x.r.k,.int .i64 x.r.t,.int .i64 x.r.v,.bool x.hl,.bool x.hr] 94)):=(ExtM.refl _).alloc _;replace bc:=bc.of x2 id;replace x1:=ExtM.trans _ _ _ x1 x2;clear x2 z1;generalize w1.alloc (.cells #[.int .i64 x.key,.int .i64 x.l.k,.int .i64 x.l.t,.int .i64 x.l.v,.int .i64 x.r.k,.int .i64 x.r.t,.int .i64 x.r.v,.bool x.hl,.bool x.hr] 94) = w2 at *;have h2:=h.of x1 (fun _ _=>id);have hGn:¬ G = w.heap.size:=by omega
 obtain ⟨pp,hpv⟩:∃ pp:Option Addr,pp = (ents.find? (fun e=>decide (e.key = x.key))).map fun e=>⟨e.S,0,none⟩:=⟨_,rfl⟩
 have hlk:∀ (u:World),Ext w2 u -> (Instr.lookup 116 (.map D) (.int .i64 x.key) false).run Tryz.prog u = .ok (.pointer pp) u:=by
  intro u hu;rcases h2.mp with ⟨rfl,rfl⟩ | ⟨d,rfl,hdG,hm⟩
  . rw [hpv];obtain ⟨l,hl⟩:=keyI x.key hx.1;have hf:(Instr.findKey 3 (.int .i64 x.key) []).run Tryz.prog u = .ok none u:=by
     rcases zcn.find u hl [] (by simp) with ⟨h,-⟩ | ⟨j,e,-,h,-⟩
     . exact h
     . simp at h
    simp [Instr.lookup,run_underlying Tryz.underlying116,zcn.check u _ hl,hf,Result.andThen]
  . have:=(hm.of hu id).run_look false zcn zcB Tryz.underlying116 zht x.key (keyI _ hx.1)
    rw [zf1] at this;rw [hpv];cases hfd:ents.find? (fun e=>decide (e.key = x.key)) <;> rw [hfd] at this <;> simpa using this
 have hlq:=fun p=>hlk (Plan.ext Ext w2.drew p) (ExtM.trans _ _ _ (ExtM.drew (ExtM.refl w2)) (zb7 ExtM.refl w2.drew p));have hnl:w.heap.size < w2.heap.size:=zac bc.e0;have hnl1:w.heap.size + 1 < w2.heap.size:=bx.lt;have hG2:=h2.ltG;have c0:=h2.c0;obtain ⟨e0,e1,e2,e3,e4,e5,e6,e7,e8⟩:=id bx;have HPV:=Lib.hid hpv;clear hpv;refine Plan.b0 Plan.Ext 8 ?_;refine Plan.qs 8 [0,1,2,3,4,5,6,7] ?_;iterate 8 go_big_quiet_step (fail)
 refine Plan.dn ?_;have xd:Ext w2 w2.drew:=(ExtM.refl _).drew;replace h2:=h2.of xd (fun _ _=>id);replace bx:=bx.keep (w':=w2.drew) rfl;replace bc:=bc.of xd id;replace x1:=ExtM.trans _ _ _ x1 xd;clear hlq hlk hnl hnl1 hG2 c0 e0 e1 e2 e3 e4 e5 e6 e7 e8 xd;generalize w2.drew = w3 at *;have ha:=HA.out;clear HA;obtain ⟨d,rfl⟩:∃ d,D = some d:=by
  rcases h.mp with ⟨-,rfl⟩ | ⟨d,h1,-⟩
  . cases ha
  . exact ⟨d,h1⟩
 obtain ⟨E,hfd,rfl⟩:=Option.map_eq_some_iff.1 ha;clear ha;rw [hfd] at HPV;have hpe:pp = some ⟨E.S,0,none⟩:=HPV.out;clear HPV;subst hpe;obtain ⟨pre,post,rfl,hk⟩:=zio hfd;have e9:=bc.e9;obtain ⟨e0,e1,e2,e3,e4,e5,e6,e7,e8⟩:=id bx;have hnl:w.heap.size < w3.heap.size:=zac bc.e0;have hnl1:w.heap.size + 1 < w3.heap.size:=bx.lt;go_wp2_with fail;refine (zkR G o d pre post E x _ h2 hx hk hb1 hb2 hb3 hin).mono ?_;rintro e w' ⟨rfl,hp⟩;go_wp2_with fail;go_ret;exact ⟨rfl,hp.base h.ltG x1⟩
def grpV (key cnt sum least most:Int) (some:Bool):Value:=.agg #[.int .i64 key,.int .i64 cnt,.int .i64 sum,.int .i64 least,.int .i64 most,.bool some]
def zjq (key:Int) (a:GS):Value:=grpV key a.cnt a.sum (a.right.getD 0 0) (a.right.getD (a.right.length - 1) 0) (decide (0 < a.right.length))
theorem zoq {w:World} {G o:Nat} {D:Option Nat} {ents:List Ent} (h:za6 w G o D ents) {key:Int} (hk:I64 key) (u:World) (hu:Ext w u) :
 (Instr.lookup 116 (.map D) (.int .i64 key) false).run Tryz.prog u = .ok (.pointer ((ents.find? (fun e=>decide (e.key = key))).map fun e=>⟨e.S,0,none⟩)) u:=by
 rcases h.mp with ⟨rfl,rfl⟩ | ⟨d,rfl,hdG,hm⟩
 . obtain ⟨l,hl⟩:=keyI key hk;have hf:(Instr.findKey 3 (.int .i64 key) []).run Tryz.prog u = .ok none u:=by
    rcases zcn.find u hl [] (by simp) with ⟨h,-⟩ | ⟨j,e,-,h,-⟩
    . exact h
    . simp at h
   simp [Instr.lookup,run_underlying Tryz.underlying116,zcn.check u _ hl,hf,Result.andThen]
 . have:=(hm.of hu id).run_look false zcn zcB Tryz.underlying116 zht key (keyI _ hk)
   rw [zf1] at this;cases hfd:ents.find? (fun e=>decide (e.key = key)) <;> rw [hfd] at this <;> simpa using this
theorem IRow.at {w:World} {v:Value} {xs:List Int} (h:IRow w v xs) (h0:0 < xs.length):∃ g cap,v = .slice (some ⟨g,0,none⟩) xs.length cap /\ xs.length <= cap /\ g < w.heap.size /\ ∀ j,j < xs.length -> w.cell? ⟨g,j,none⟩ = some (.int .i64 (xs.getD j 0)):=by
 rcases h with ⟨rfl,rfl⟩ | ⟨g,cap,f,rfl,h1,h2,h3,h4,h5⟩
 . simp at h0
 . exact ⟨g,cap,rfl,h2,h1.lt,fun j hj=>by rw [h1.cell (by omega),h5 j hj]⟩
structure BoxG (w:World) (n:Nat) (k c s l m:Int) (b:Bool):Prop where
 e0:w.cell? ⟨n,0,none⟩ = some (.int .i64 k)
 e1:w.cell? ⟨n,1,none⟩ = some (.int .i64 c)
 e2:w.cell? ⟨n,2,none⟩ = some (.int .i64 s)
 e3:w.cell? ⟨n,3,none⟩ = some (.int .i64 l)
 e4:w.cell? ⟨n,4,none⟩ = some (.int .i64 m)
 e5:w.cell? ⟨n,5,none⟩ = some (.bool b)
 f0:w.frozen? ⟨n,0,none⟩ = false
 f1:w.frozen? ⟨n,1,none⟩ = false
 f2:w.frozen? ⟨n,2,none⟩ = false
 f3:w.frozen? ⟨n,3,none⟩ = false
 f4:w.frozen? ⟨n,4,none⟩ = false
 f5:w.frozen? ⟨n,5,none⟩ = false
theorem BoxG.mk' (w:World) (k c s l m:Int) (b:Bool) (t:TypeId):BoxG (w.alloc (.cells #[.int .i64 k,.int .i64 c,.int .i64 s,.int .i64 l,.int .i64 m,.bool b] t)) w.heap.size k c s l m b:=by
 constructor <;> first | go_simp | (rw [Go.RowKit.frozen?_alloc_cells];simp [World.frozen?])
theorem BoxG.keep {w w':World} {n:Nat} {k c s l m:Int} {b:Bool} (h:BoxG w n k c s l m b) (hb:w'.heap[n]? = w.heap[n]?):BoxG w' n k c s l m b:=by
 have r:∀ i,w'.cell? ⟨n,i,none⟩ = w.cell? ⟨n,i,none⟩:=fun i=>World.cell?_of_block (w:=w) (w':=w') (a:=⟨n,i,none⟩) hb;have q:∀ i,w'.frozen? ⟨n,i,none⟩ = w.frozen? ⟨n,i,none⟩:=fun i=>World.frozen?_of_block (w:=w) (w':=w') (a:=⟨n,i,none⟩) hb;exact ⟨(r 0).trans h.e0,(r 1).trans h.e1,(r 2).trans h.e2,(r 3).trans h.e3,(r 4).trans h.e4,(r 5).trans h.e5,(q 0).trans h.f0,(q 1).trans h.f1,(q 2).trans h.f2,(q 3).trans h.f3,(q 4).trans h.f4,(q 5).trans h.f5⟩
theorem BoxG.lt {w:World} {n:Nat} {k c s l m:Int} {b:Bool} (h:BoxG w n k c s l m b):n < w.heap.size:=zac h.e0
theorem zhF (G o:Nat) (D:Option Nat) (ents:List Ent) (key:Int) (a:GS) (w:World) (h:za6 w G o D ents) (hk:I64 key) (ha:st ents key = some a) (hl:a.right.length < 1000000000) :
 Calls Tryz.prog 172 #[.pointer (some ⟨G,o,none⟩),.int .i64 key] w fun e w'=>e = .returned (.tuple #[zjq key a,.nilIface]) /\ Ext w w':=by
 have hG:=h.ltG;have c0:=h.c0;have f0:=h.f0;obtain ⟨E,hfd,rfl⟩:=Option.map_eq_some_iff.1 ha;clear ha;have hE:=h.all E (List.mem_of_find?_eq_some hfd);have hE0:=hE;have hlk:∀ (u:World),Ext w u -> (Instr.lookup 116 (.map D) (.int .i64 key) false).run Tryz.prog u = .ok (.pointer (some ⟨E.S,0,none⟩)) u:=fun u hu=>by
  rw [zoq h hk u hu,hfd];rfl
 clear hfd h;have hlq:=hlk (w.alloc (.cells #[.int .i64 0,.int .i64 0,.int .i64 0,.int .i64 0,.int .i64 0,.bool false] 108)) ((ExtM.refl _).alloc _);clear hlk;go_enter Tryz.func172,Tryz.ntmps172;go_wp2_with fail;have bN:=BoxG.mk' w 0 0 0 0 0 false 108;have x1:Ext w (w.alloc (.cells #[.int .i64 0,.int .i64 0,.int .i64 0,.int .i64 0,.int .i64 0,.bool false] 108)):=(ExtM.refl _).alloc _;replace hE:=hE.keep (w':=w.alloc (.cells #[.int .i64 0,.int .i64 0,.int .i64 0,.int .i64 0,.int .i64 0,.bool false] 108)) (fun k hk=>zah (hE.lt k hk));have hSN:¬ E.S = w.heap.size:=fun e=>by have:=hE0.lt _ (.inl rfl:fb E E.S);omega
 clear hlq c0 f0;generalize w.alloc (.cells #[.int .i64 0,.int .i64 0,.int .i64 0,.int .i64 0,.int .i64 0,.bool false] 108) = w1 at *;have hlt:=hE.cells.lt;obtain ⟨c0,c1,c2,f0,f1,f2⟩:=hE.cells;refine Plan.bT Plan.Ext [11] 12 ?_;refine Plan.qs 10 [0,1,2,3,4,5,6,7,8,9] ?_;iterate 10 go_big_quiet_step (fail)
 refine Plan.o1 10 fun K hK=>?_;go_wp2_with (fail);refine hK _ _ ((ExtM.refl _).alloc _) ?_;clear hK K;refine Plan.ol 11 fun K hK=>?_;go_wp2_with (fail);refine Plan.dn ?_;clear c0 c1 c2 f0 f1 f2;have bM:BoxG ((w1.alloc (.cells #[.int .i64 key,.int .i64 E.a.cnt,.int .i64 E.a.sum,.int .i64 0,.int .i64 0,.bool false] 108)).drew) w1.heap.size key E.a.cnt E.a.sum 0 0 false:=(BoxG.mk' w1 key E.a.cnt E.a.sum 0 0 false 108).keep rfl;have x2:Ext w1 (w1.alloc (.cells #[.int .i64 key,.int .i64 E.a.cnt,.int .i64 E.a.sum,.int .i64 0,.int .i64 0,.bool false] 108)).drew:=((ExtM.refl _).alloc _).drew;have hSM:¬ E.S = w1.heap.size:=by omega
 have hMw:w.heap.size <= w1.heap.size:=x1.size;have hNM:¬ w.heap.size = w1.heap.size:=by have:=bN.lt;omega
 have hRN:¬ E.v.ownBlock = some w.heap.size:=fun e=>by have:=hE0.lt _ (.inr e);omega
 have hRM:¬ E.v.ownBlock = some w1.heap.size:=fun e=>by have:=hE.lt _ (.inr e);omega
 replace hE:=hE.keep (fun k hk=>x2.block k (hE.lt k hk) id);replace bN:=bN.keep (x2.block _ bN.lt id);replace x1:=ExtM.trans _ _ _ x1 x2;clear x2 hlt;generalize (w1.alloc (.cells #[.int .i64 key,.int .i64 E.a.cnt,.int .i64 E.a.sum,.int .i64 0,.int .i64 0,.bool false] 108)).drew = w2 at *;generalize w1.heap.size = M at *;have hlt:=hE.cells.lt;obtain ⟨c0,c1,c2,f0,f1,f2⟩:=hE.cells;obtain ⟨e0,e1,e2,e3,e4,e5,m0,m1,m2,m3,m4,m5⟩:=id bM;obtain ⟨g0,g1,g2,g3,g4,g5,n0,n1,n2,n3,n4,n5⟩:=id bN;have hMl:=bM.lt;have hNl:=bN.lt;rcases Nat.eq_zero_or_pos E.a.right.length with hz | hz
 . obtain ⟨p,cap,hv⟩:=hE.row.len;rw [hv,hz] at c2;have HZ:=Lib.hid hz;clear hv hz;go_wp2_with fail;have he:zjq key E.a = grpV key E.a.cnt E.a.sum 0 0 false:=by
    have hnil:E.a.right = []:=List.eq_nil_of_length_eq_zero HZ.out;unfold zjq;rw [hnil];rfl
   rw [he]
   exact bodyPost_ret (v:=.tuple #[grpV key E.a.cnt E.a.sum 0 0 false,.nilIface]) (by simp [grpV,results,Tryz.results172,go_sem,g0,g1,g2,g3,g4,g5]) rfl ⟨rfl,by
    iterate 6 (refine ExtM.setCell ?_ (.inl (Nat.le_refl _)) _)
    exact x1⟩
 . obtain ⟨g,cap,hv,hcap,hg,hcell⟩:=hE.row.at hz;have r0:=hcell 0 hz;have rl:=hcell (E.a.right.length - 1) (by omega);have hgM:¬ g = M:=fun e=>hRM (by rw [hv,e];rfl);have hgN:¬ g = w.heap.size:=fun e=>hRN (by rw [hv,e];rfl);rw [hv] at c2;clear hv hcell hRN hRM;have hz1:(0:Int) < E.a.right.length:=by omega
   have he:zjq key E.a = grpV key E.a.cnt E.a.sum (E.a.right.getD 0 0) (E.a.right.getD (E.a.right.length - 1) 0) true:=by
    unfold zjq;rw [decide_eq_true hz]
   generalize E.a.right.getD 0 0 = lo at *;generalize E.a.right.getD (E.a.right.length - 1) 0 = hi at *;have HEE:=Lib.hid he;clear he;go_wp2_with fail;refine Plan.b0 (Plan.ExtB M) 20 ?_;refine Plan.qs 12 [0,1,2,3,4,5,6,7,8,9,10,11] ?_;iterate 12 go_big_quiet_step (fail)
   refine Plan.qs 3 [12,13,14] ?_;iterate 3 go_big_quiet_step (fail)
   refine Plan.o1 15 fun K hK=>?_;go_wp2_with (fail);refine hK _ _ (ExtB.set 3 _) ?_;clear hK K;refine Plan.qs 1 [16] ?_;go_big_quiet_step (fail);refine Plan.o1 17 fun K hK=>?_;go_wp2_with (fail);refine hK _ _ (ExtB.set 4 _) ?_;clear hK K;refine Plan.qs 1 [18] ?_;go_big_quiet_step (fail);refine Plan.o1 19 fun K hK=>?_;go_wp2_with (fail);refine hK _ _ (ExtB.set 5 _) ?_;clear hK K;refine Plan.dn ?_;go_wp2_with fail;rw [HEE.out]
   exact bodyPost_ret (v:=.tuple #[grpV key E.a.cnt E.a.sum lo hi true,.nilIface]) (by simp [grpV,results,Tryz.results172,go_sem,g0,g1,g2,g3,g4,g5]) rfl ⟨rfl,by
    refine ExtM.drew ?_
    iterate 6 (refine ExtM.setCell ?_ (.inl (Nat.le_refl _)) _)
    iterate 3 (refine ExtM.setCell ?_ (.inl hMw) _)
    exact x1⟩
open Go.RowKit Go.Plan Go.Shelf
structure GRow where
 key:Int
 cnt:Int
 sum:Int
 least:Int
 most:Int
 some:Bool
def GRow.cells (r:GRow):List Value:=[.int .i64 r.key,.int .i64 r.cnt,.int .i64 r.sum,.int .i64 r.least,.int .i64 r.most,.bool r.some]
theorem ziV (x:GRow):∀ v ∈ x.cells,v.oneCell' = true:=by
 intro v hv;simp only [GRow.cells,List.mem_cons,List.not_mem_nil,or_false] at hv;rcases hv with rfl | rfl | rfl | rfl | rfl | rfl <;> rfl
def zd3 (key:Int) (a:GS):GRow:=⟨key,a.cnt,a.sum,a.right.getD 0 0,a.right.getD (a.right.length - 1) 0,decide (0 < a.right.length)⟩
theorem zjY (key:Int) (a:GS):zjq key a = .agg #[.int .i64 (zd3 key a).key,.int .i64 (zd3 key a).cnt,.int .i64 (zd3 key a).sum,.int .i64 (zd3 key a).least,.int .i64 (zd3 key a).most,.bool (zd3 key a).some]:=rfl
def allG (ents:List Ent):List GRow:=(zbO (ents.map (·.key))).map fun k=>zd3 k ((st ents k).getD ⟨0,0,[]⟩)
structure zd5 (w:World) (b a:Nat) (x:GRow):Prop where
 e0:w.cell? ⟨b,a,none⟩ = some (.int .i64 x.key)
 e1:w.cell? ⟨b,a + 1,none⟩ = some (.int .i64 x.cnt)
 e2:w.cell? ⟨b,a + 2,none⟩ = some (.int .i64 x.sum)
 e3:w.cell? ⟨b,a + 3,none⟩ = some (.int .i64 x.least)
 e4:w.cell? ⟨b,a + 4,none⟩ = some (.int .i64 x.most)
 e5:w.cell? ⟨b,a + 5,none⟩ = some (.bool x.some)
theorem zd5.of {w w':World} {b a:Nat} {x:GRow} (h:zd5 w b a x) (hx:Ext w w'):zd5 w' b a x:=by
 have hl:b < w.heap.size:=zac h.e0;have r:∀ i,w'.cell? ⟨b,i,none⟩ = w.cell? ⟨b,i,none⟩:=fun i=>hx.cell (p:=⟨b,i,none⟩) hl id;exact ⟨(r _).trans h.e0,(r _).trans h.e1,(r _).trans h.e2,(r _).trans h.e3,(r _).trans h.e4,(r _).trans h.e5⟩
theorem zd5.lt {w:World} {b a:Nat} {x:GRow} (h:zd5 w b a x):b < w.heap.size:=zac h.e0
def zcG (w:World) (p:Option Addr) (l:List GRow):Prop:=l = [] \/ ∃ b,p = some ⟨b,0,none⟩ /\ ∀ i (hi:i < l.length),zd5 w b (i * 6) (l[i]'hi)
theorem zcG.of {w w':World} {p:Option Addr} {l:List GRow} (h:zcG w p l) (hx:Ext w w'):zcG w' p l:=by
 rcases h with h | ⟨b,h1,h2⟩
 . exact .inl h
 . exact .inr ⟨b,h1,fun i hi=>(h2 i hi).of hx⟩
theorem zj0 (l:List GRow) (i c:Nat) (hi:i < l.length) (hc:c < 6):(l.flatMap GRow.cells)[i * 6 + c]? = (l[i]'hi).cells[c]?:=by
 induction l generalizing i with
 | nil=>simp at hi
 | cons x r ih =>
   rw [List.flatMap_cons];have hx:x.cells.length = 6:=rfl;cases i with
   | zero=>rw [List.getElem?_append_left (by rw [hx];omega)];simp
   | succ i =>
     rw [List.getElem?_append_right (by rw [hx];omega),hx]
     have:=ih i (by simpa using hi)
     rw [show (i + 1) * 6 + c - 6 = i * 6 + c by omega,this];simp
theorem zcG.own {w:World} {base n:Nat} {e:TypeId} {v:Value} {l:List GRow} (h:w.ownsRow base e 6 v n (l.flatMap GRow.cells)) (hn:n = l.length):∃ p cap,v = .slice p l.length cap /\ zcG w p l:=by
 subst hn;obtain ⟨hl,hr⟩:=h;rcases hr with ⟨rfl,h0⟩ | ⟨g,cap,cur,rfl,hbase,hb,h1,h2,h3,h4⟩
 . exact ⟨none,0,by rw [h0],.inl (List.eq_nil_of_length_eq_zero h0)⟩
 . refine ⟨_,cap,rfl,.inr ⟨g,rfl,fun i hi=>?_⟩⟩;have r:∀ c,c < 6 -> w.cell? ⟨g,i * 6 + c,none⟩ = (l[i]'hi).cells[c]?:=fun c hc=>by
    have e1:=zj0 l i c hi hc;rw [<- h4,List.getElem?_take_of_lt (by omega),Array.getElem?_toList] at e1;simpa [World.cell?,hb] using e1
   exact ⟨r 0 (by omega),r 1 (by omega),r 2 (by omega),r 3 (by omega),r 4 (by omega),r 5 (by omega)⟩
theorem znD:(Tryz.prog.info? 108).map (fun i=>(i.zero,i.size,i.bytes)) = some (some (grpV 0 0 0 0 0 false),6,48):=by kernel_rfl
theorem zei (W:World) (base nb c:Nat) (v:Value) (acc:List GRow) (x:GRow) (ty:TypeId) (hown:W.ownsRow base 108 6 v acc.length (acc.flatMap GRow.cells))
 (hx:zd5 W nb 0 x) (hl:acc.length < 1000000000) (hb:base <= W.heap.size) :
 ∃ v' w',(Builtin.append_ #[105,105] ty #[v,.slice (some ⟨nb,0,none⟩) 1 c]).run Tryz.prog W = .ok v' w' /\ w'.ownsRow base 108 6 v' (acc ++ [x]).length ((acc ++ [x]).flatMap GRow.cells) /\ W.grownBy w' v.ownBlock /\
   (v'.ownBlock = v.ownBlock \/ v'.ownBlock = some W.heap.size):=by
 obtain ⟨i0,hi,hz0,hz1,hz2⟩:=info_parts znD;obtain ⟨v',w',h1,h2,h3,-,h5⟩:=run_append_own_at (P:=Tryz.prog) W base 105 ty 108 i0 (grpV 0 0 0 0 0 false) 6 48 Tryz.underlying105 hi hz0 hz1 hz2 rfl (by decide) v acc.length _ hown ⟨nb,0,none⟩ 1 c x.cells rfl
  (fun j u hj=>by
    have hj':j < 6:=(List.getElem?_eq_some_iff.1 hj).1;have e1:(⟨nb,0,none⟩:Addr).add j = ⟨nb,j,none⟩:=by unfold Addr.add;split <;> simp_all
    rw [e1,<- hj];match j,hj' with
    | 0,_=>exact hx.e0
    | 1,_=>exact hx.e1
    | 2,_=>exact hx.e2
    | 3,_=>exact hx.e3
    | 4,_=>exact hx.e4
    | 5,_=>exact hx.e5) (ziV x) (by unfold maxLen;omega) (by omega) hb
 refine ⟨v',w',h1,?_,h3,h5⟩;rw [List.flatMap_append,List.length_append];simpa using h2
theorem zd5.mk' (w:World) (x:GRow) (t:TypeId):zd5 (w.alloc (.cells #[.int .i64 x.key,.int .i64 x.cnt,.int .i64 x.sum,.int .i64 x.least,.int .i64 x.most,.bool x.some] t)) w.heap.size 0 x:=by
 constructor <;> go_simp
def zgd (w:World) (l:List GRow) (e:Ending) (w':World):Prop:=∃ p cap,e = .returned (.slice p l.length cap) /\ Ext w w' /\ zcG w' p l
theorem zfa {w:World} {D R:Nat} {m left:List (Int × Value)} (h:zaW Tryz.prog 3 (Value.int .i64) w D R m left):w.rangeLeft D R = left.length:=by
 obtain ⟨es,clock,seen,h1,h2,h3,h4,h5⟩:=h.ex
 have:=congrArg List.length h5
 simp only [List.length_map,Array.length_toList] at this;simp only [World.rangeLeft,h1,h4];rw [<- this]
theorem zmY {w w1 w2:World} {N:Nat} (hN:w.heap.size = N) (h:Ext w w1) (hb:ExtB N w1 w2):Ext w w2 :=
 ⟨hb.os.trans h.os,hb.tape.trans h.tape,hb.output.trans h.output,Nat.le_trans h.size hb.size,fun k hk hn=>(hb.block k (Nat.lt_of_lt_of_le hk h.size) (fun e=>by have e':k = N:=e;omega)).trans (h.block k hk hn)⟩
theorem zoY {ents:List Ent} {k:Int} (h:k ∈ ents.map (·.key)):∃ E ∈ ents,E.key = k /\ st ents k = some E.a:=by
 unfold st;cases hf:ents.find? (fun e=>decide (e.key = k)) with
 | none =>
   obtain ⟨e,he,hk⟩:=List.mem_map.1 h
   have:=List.find?_eq_none.1 hf e he
   simp at this;exact absurd hk this
 | some E=>exact ⟨E,List.mem_of_find?_eq_some hf,by simpa using List.find?_some hf,rfl⟩
def Told (w wr:World) (p:Option Addr) (ks:List Int) (rows:List GRow) (M:Nat) (j:Nat) (v:Value):Prop :=
 Ext w wr /\ zec wr p ks /\ wr.ownsRow M 108 6 v (rows.take j).length ((rows.take j).flatMap GRow.cells) /\ M <= wr.heap.size /\ w.heap.size <= M /\ ∀ g,p = some ⟨g,0,none⟩ -> ks = [] \/ g < M
theorem zmF (G o d:Nat) (ents:List Ent) (w:World) (h:za6 w G o (some d) ents) (hl:ents.length < 1000000) (hr:∀ e ∈ ents,e.a.right.length < 1000000000) :
 Calls Tryz.prog 130 #[.pointer (some ⟨G,o,none⟩)] w (zgd w (allG ents)):=by
 have hm:zav Tryz.prog 3 (Value.int .i64) w d (prs ents):=by
  rcases h.mp with ⟨h1,-⟩ | ⟨d',h1,h2,h3⟩
  . cases h1
  . obtain rfl:=Option.some.inj h1;exact h3
 have hG:=h.ltG;have hdw:=hm.lt;have c0:=h.c0;have f0:=h.f0;obtain ⟨ob,hrun,hrg⟩:=hm.run_range Tryz.underlying116;go_enter Tryz.func130,Tryz.ntmps130;go_wp2_with fail;have x0:Ext w (w.alloc ob):=(ExtM.refl _).alloc _;have z0:w.heap.size < (w.alloc ob).heap.size:=by rw [World.size_alloc];omega
 clear hrun c0 f0;generalize w.alloc ob = w0 at *;obtain ⟨N,hN⟩:∃ N,w.heap.size = N:=⟨_,rfl⟩
 rw [hN] at hrg z0 ⊢;have HN:=Lib.hid hN;clear hN;go_loopw [3] (fun v wr=>∃ (left:List (Int × Value)) (acc:List Int),zaW Tryz.prog 3 (Value.int .i64) wr d N (prs ents) left /\ wr.ownsRow (N + 1) 3 1 v acc.length (acc.map (Value.int .i64)) /\ (acc ++ left.map (·.1)).Perm (ents.map (·.key)) /\ Ext w wr) (fun _ wr=>wr.rangeLeft d N)
 case atStart=>exact ⟨prs ents,[],hrg,⟨rfl,.inl ⟨rfl,rfl⟩⟩,by simp [prs,List.map_map,Function.comp_def],x0⟩
 case round =>
  clear hrg x0 z0;obtain ⟨left,acc,hrg,hown,hp,hx⟩:=hrel;have hal:acc.length <= ents.length:=by
   have h1:=hp.length_eq;rw [List.length_append,List.length_map,List.length_map] at h1;omega
  rcases hrg.run_next 0 with ⟨rfl,hn⟩ | ⟨p,left',w1,hpm,hn,x1,z1,hrg1,hen⟩
  . have hp2:acc.Perm (ents.map (·.key)):=by simpa using hp
    go_wp2_with fail;refine (zle (N + 1) u3 acc wr hown (by omega)).mono ?_;rintro e w2 ⟨rfl,xr,p,cap,rfl,hks⟩;have hN:=HN.out
    have hx2:Ext w w2:=⟨xr.os.trans hx.os,xr.tape.trans hx.tape,xr.output.trans hx.output,Nat.le_trans hx.size xr.size,fun k hk _=>(xr.block k (Nat.lt_of_lt_of_le hk hx.size) (fun e=>by
     rcases hown.2 with ⟨h1,-⟩ | ⟨g,cap',cur,h1,hbase,-⟩
     . rw [h1] at e;cases e
     . rw [h1] at e
       have:=Option.some.inj e
       simp at this
       omega)).trans (hx.block k hk id)⟩
    have hkl:(zbO acc).length = acc.length:=zbj acc;obtain ⟨ks,hke⟩:∃ ks,zbO acc = ks:=⟨_,rfl⟩
    have hke2:zbO (ents.map (·.key)) = ks:=by rw [<- hke];exact zfE hp2.symm
    have hmem:∀ k ∈ ks,k ∈ ents.map (·.key):=fun k hk=>hp2.mem_iff.1 ((zaM acc).mem_iff.1 (hke ▸ hk));rw [hke] at hks hkl;obtain ⟨rows,hrw⟩:∃ rows,allG ents = rows:=⟨_,rfl⟩
    have hrows:rows = ks.map fun k=>zd3 k ((st ents k).getD ⟨0,0,[]⟩):=by rw [<- hrw];unfold allG;rw [hke2]
    have hrl:rows.length = acc.length:=by rw [hrows,List.length_map,hkl]
    have HROW:=Lib.hid hrows;have HRW:=Lib.hid hrw
    have hT:Told w w2 p ks rows w2.heap.size 0 (.slice none 0 0):=⟨hx2,hks,⟨by simp,.inl ⟨rfl,by simp⟩⟩,Nat.le_refl _,hx2.size,fun g hg=>by
     rcases hks with h | ⟨g',h1,h2,-⟩
     . exact .inl h
     . rw [h1] at hg
       have:=congrArg Addr.block (Option.some.inj hg)
       exact .inr (by have h3:g' = g:=this;omega)⟩
    have HKL:=Lib.hid hkl;have HRL:=Lib.hid hrl;clear hke hke2 hrows hrw hkl hrl hks hx2 xr hx hown hn hrg hp hp2 hN hm;generalize w2.heap.size = M at *;generalize acc.length = n at *;go_wp2_with fail;go_loopw [5,27] (fun v i wr=>∃ j:Nat,j <= n /\ i = .int .i64 j /\ Told w wr p ks rows M j v) (fun _ i _=>n - (intOf i).toNat)
    case atStart=>exact ⟨0,Nat.zero_le _,rfl,hT⟩
    case round =>
     clear hT;obtain ⟨j,hj,rfl,hT⟩:=hrel;by_cases hjl:j < n
     . have hd:decide ((j:Int) < n) = true:=by simp;omega
       have hT0:=hT;obtain ⟨hx,hks,hown,hMs,hMw,hpM⟩:=hT;have hkl:=HKL.out;rcases hks with hks | ⟨g,rfl,hg,hcell⟩
       . rw [hks] at hkl;simp at hkl;omega
       have hcj:=hcell j (by omega);have hkm:ks.getD j 0 ∈ ks:=by
        have:j < ks.length:=by omega
        simp [List.getD,this]
       obtain ⟨E,hE,hEk,hst⟩:=zoY (hmem _ hkm);have hko:I64 (ks.getD j 0):=hEk ▸ h.ok E hE;have hrj:rows[j]? = some (zd3 (ks.getD j 0) E.a):=by
        have hj':j < ks.length:=by omega
        rw [HROW.out,List.getElem?_map,List.getElem?_eq_getElem hj'];have:ks.getD j 0 = ks[j]:=by simp [List.getD,hj']
        rw [this] at hst ⊢;simp [hst]
       have HRJ:=Lib.hid hrj;have HST:=Lib.hid hst;have HCE:=Lib.hid hcell;clear hrj hst hcell hkl hkm hEk;generalize ks.getD j 0 = key at *;go_wp2_with fail;refine (zhF G o (some d) ents key E.a wr (h.of hx (fun _ _=>id)) hko HST.out (hr E hE)).mono ?_;rintro e w5 ⟨rfl,x5⟩;rw [zjY];clear hcj hT0;generalize zd3 key E.a = r at *
       have hown5:=hown.kept (row:=none) (w':=w5) ⟨x5.os,x5.tape,x5.output,x5.size,fun k hk hne=>x5.block k hk id⟩ (by
        by_cases h:u5.ownBlock = none
        . exact .inl h
        . exact .inr h)
       have hel:zd5 ((w5.alloc (.cells #[.int .i64 r.key,.int .i64 r.cnt,.int .i64 r.sum,.int .i64 r.least,.int .i64 r.most,.bool r.some] 108)).alloc (.cells #[.int .i64 r.key,.int .i64 r.cnt,.int .i64 r.sum,.int .i64 r.least,.int .i64 r.most,.bool r.some] 108)) (w5.heap.size + 1) 0 r:=by
        have:=zd5.mk' (w5.alloc (.cells #[.int .i64 r.key,.int .i64 r.cnt,.int .i64 r.sum,.int .i64 r.least,.int .i64 r.most,.bool r.some] 108)) r 108
        rwa [World.size_alloc] at this
       have hj2:(rows.take j).length = j:=by rw [List.length_take];have:=HRL.out;omega
       obtain ⟨v',w',happ,hown',hgr,hloc⟩:=zei ((w5.alloc (.cells #[.int .i64 r.key,.int .i64 r.cnt,.int .i64 r.sum,.int .i64 r.least,.int .i64 r.most,.bool r.some] 108)).alloc (.cells #[.int .i64 r.key,.int .i64 r.cnt,.int .i64 r.sum,.int .i64 r.least,.int .i64 r.most,.bool r.some] 108)) M (w5.heap.size + 1) 1 u5 (rows.take j) r 105 ((hown5.alloc _).alloc _) hel (by omega) (by rw [World.size_alloc,World.size_alloc];have:=x5.size;omega);have hT':Told w w' (some ⟨g,0,none⟩) ks rows M (j + 1) v':=by
        have hown0:∀ k,some k = u5.ownBlock -> M <= k:=fun k hk=>by
         rcases hown.2 with ⟨rfl,h0⟩ | ⟨g,cap,cur,rfl,hbase,-⟩
         . cases hk
         . have:=Option.some.inj hk
           simp at this;omega
        have hkeep:∀ k,k < w5.heap.size -> k < M -> w'.heap[k]? = w5.heap[k]?:=fun k hk hM=>by
         rw [hgr.block k (by rw [World.size_alloc,World.size_alloc];omega) (fun e=>by have:=hown0 k e;omega),zah (by rw [World.size_alloc];omega),zah hk]
        have hsz:=hgr.size;rw [World.size_alloc,World.size_alloc] at hsz;have hx5:Ext w w5:=ExtM.trans _ _ _ hx x5;have hs5:=x5.size;have hgM:g < M:=by
         rcases hpM g rfl with h | h
         . have:=HKL.out;rw [h] at this;simp at this;omega
         . exact h
        refine ⟨⟨hgr.os.trans hx5.os,hgr.tape.trans hx5.tape,hgr.output.trans hx5.output,by have:=hx5.size;omega,fun k hk _=>(hkeep k (Nat.lt_of_lt_of_le hk hx5.size) (by omega)).trans (hx5.block k hk id)⟩,.inr ⟨g,rfl,by omega,fun i hi=>?_⟩,?_,by omega,hMw,hpM⟩
        . have q:∀ o,w'.cell? ⟨g,o,none⟩ = w5.cell? ⟨g,o,none⟩:=fun o=>World.cell?_of_block (w:=w5) (w':=w') (a:=⟨g,o,none⟩) (hkeep g (by omega) hgM);rw [q,x5.cell (p:=⟨g,i,none⟩) hg id];exact HCE.out i hi
        . have e1:rows.take (j + 1) = rows.take j ++ [r]:=by
           obtain ⟨hj',hr'⟩:=List.getElem?_eq_some_iff.1 HRJ.out;rw [List.take_succ_eq_append_getElem hj',hr']
          rw [e1];exact hown'
       clear hown5 hel hj2 hown' hgr hloc hown hx hpM hMw;go_wp2_with (at_builtin;refine wpList_append_run happ rfl rfl _ _ rfl rfl rfl ?_;clear happ);go_roundw
       case rel=>exact ⟨j + 1,by omega,by go_num,hT'⟩
       case measure=>simp [intOf];omega
     . obtain rfl:j = n:=by omega
       have hd:decide ((j:Int) < j) = false:=by simp
       have hT0:=hT;obtain ⟨hx,hks,hown,hMs,hMw,hpM⟩:=hT;clear hT0;have hrl:=HRL.out;rw [<- hrl,List.take_length] at hown;obtain ⟨p',cap',rfl,hG'⟩:=zcG.own hown rfl;clear hrl hown;go_wp2_with fail;go_ret;rw [HRW.out];exact ⟨p',cap',rfl,hx,hG'⟩
  . have hN:=HN.out;have hown1:w1.ownsRow (N + 1) 3 1 u3 acc.length (acc.map (Value.int .i64)):=by
     refine hown.kept (row:=some N) ⟨x1.os,x1.tape,x1.output,x1.size,fun k hk hne=>x1.block k hk (fun e=>hne (by rw [e]))⟩ (.inr fun e=>?_);rcases hown.2 with ⟨rfl,h0⟩ | ⟨g,cap,cur,rfl,hbase,-⟩
     . cases e
     . simp [Value.ownBlock] at e;omega
    have hx1:Ext w w1:=zmY hN hx x1;have HL:=Lib.hid (zfa hrg);have hll:left'.length < left.length:=by have:=hpm.length_eq;simp at this;omega
    have hRl:=hrg1.ltR;have hDl:=hrg1.ltD;obtain ⟨v',w',happ,hown',hgr,hloc⟩:=zed (w1.alloc (.cells #[.int .i64 p.1] 3)) (N + 1) w1.heap.size 1 u3 acc p.1 56 (hown1.alloc _) (by go_simp) (by omega) (by rw [World.size_alloc];omega);have hvN:∀ k,k <= N -> some k ≠ u3.ownBlock:=by
     intro k hk e;rcases hown.2 with ⟨rfl,h0⟩ | ⟨g,cap,cur,rfl,hbase,-⟩
     . cases e
     . simp [Value.ownBlock] at e;omega
    have hkeep:∀ k,k < w1.heap.size -> some k ≠ u3.ownBlock -> w'.heap[k]? = w1.heap[k]?:=fun k hk hne=>(hgr.block k (by rw [World.size_alloc];omega) hne).trans (zah hk);have hrg':=hrg1.keep (hkeep d hDl (hvN d (by omega))) (hkeep N hRl (hvN N (by omega)));have hx':Ext w w':=⟨hgr.os.trans hx1.os,hgr.tape.trans hx1.tape,hgr.output.trans hx1.output,Nat.le_trans hx1.size (by have:=hgr.size;rw [World.size_alloc] at this;omega),fun k hk _=>(hkeep k (Nat.lt_of_lt_of_le hk hx1.size) (hvN k (by omega))).trans (hx1.block k hk id)⟩
    have hp':((acc ++ [p.1]) ++ left'.map (·.1)).Perm (ents.map (·.key)):=by
     refine List.Perm.trans ?_ hp;rw [List.append_assoc];exact List.Perm.append_left acc (by simpa using (hpm.map (·.1)).symm)
    clear hN hown hown1 hx hx1 hgr hloc hkeep hvN hrg x1 z1 hp hpm hal hRl hDl;go_wp2_with (at_builtin;refine wpList_append_run happ rfl rfl _ _ rfl rfl rfl ?_;clear happ);go_roundw
    case rel=>exact ⟨left',acc ++ [p.1],hrg',hown',hp',hx'⟩
    case measure=>rw [zfa hrg',HL.out];exact hll
theorem zhi (w:World):(Instr.range 116 (.map none)).run Tryz.prog w = .ok (.pointer (some ⟨w.heap.size,0,none⟩)) (w.alloc (.mapIter none 0 #[] 0)):=by
 simp [Instr.range,run_underlying Tryz.underlying116,newObj,Sem.run,Result.andThen]
theorem zjz (w:World) (ty:TypeId):(Instr.next (.pointer (some ⟨w.heap.size,0,none⟩)) false ty).run Tryz.prog (w.alloc (.mapIter none 0 #[] 0)) = .ok (.tuple #[.bool false]) (w.alloc (.mapIter none 0 #[] 0)):=by
 have h:(w.alloc (.mapIter none 0 #[] 0)).heap[w.heap.size]? = some (.mapIter none 0 #[] 0):=heap_alloc_new _ _;simp only [Instr.next,getObj,Sem.run_bind,Sem.run,h,Result.andThen];rfl
theorem zk4 (G o:Nat) (w:World) (h:za6 w G o none []) :
 Calls Tryz.prog 130 #[.pointer (some ⟨G,o,none⟩)] w (zgd w []):=by
 have c0:=h.c0;have f0:=h.f0;have hrun:=zhi;have hn:=zjz w;clear h;go_enter Tryz.func130,Tryz.ntmps130;go_wp2_with fail;refine wp_loop_once ?_;go_wp2_with fail;refine (Any.slices_Sort_int_none Tryz.shSortI none 0 _).mono ?_;rintro e w' ⟨rfl,rfl⟩;go_wp2_with fail;refine wp_loop_once ?_;go_wp2_with fail;go_ret;exact ⟨none,0,rfl,(ExtM.refl _).alloc _,.inl rfl⟩
theorem zoE (G o:Nat) (D:Option Nat) (ents:List Ent) (w:World) (h:za6 w G o D ents) (hl:ents.length < 1000000) (hr:∀ e ∈ ents,e.a.right.length < 1000000000) :
 Calls Tryz.prog 130 #[.pointer (some ⟨G,o,none⟩)] w (zgd w (allG ents)):=by
 cases D with
 | some d=>exact zmF G o d ents w h hl hr
 | none =>
   obtain rfl:ents = []:=by
    rcases h.mp with ⟨-,h⟩ | ⟨d,h1,-⟩
    . exact h
    . cases h1
   have:allG [] = []:=List.eq_nil_of_length_eq_zero (by unfold allG;rw [List.length_map,zbj];rfl);rw [this];exact zk4 G o w h
def zqc (l:List Out) (k:Int):List Out:=l.filter fun x=>decide (x.key = k)
def lsum:List Out -> Int
 | []=>0
 | x :: m=>(if x.hl then x.l.v else 0) + lsum m
theorem zg8 {m m':List Out} (h:m.Perm m'):lsum m = lsum m':=by
 induction h with
 | nil=>rfl
 | cons x _ ih=>simp only [lsum,ih]
 | swap x y l=>simp only [lsum];omega
 | trans _ _ h1 h2=>exact h1.trans h2
structure RepA (a:GS) (m:List Out):Prop where
 cnt:a.cnt = m.length
 sum:a.sum = wrap64 (lsum m)
 perm:a.right.Perm ((m.filter (·.hr)).map (·.r.v))
 srt:a.right.Pairwise (. <= ·)
def Rep (o:Option GS) (m:List Out):Prop :=
 match o with
 | none=>m = []
 | some a=>m ≠ [] /\ RepA a m
def za7 (ents:List Ent) (l:List Out):Prop:=∀ k,Rep (st ents k) (zqc l k)
theorem RepA.nil:RepA ⟨0,0,[]⟩ []:=⟨rfl,by show (0:Int) = wrap64 0;unfold wrap64;decide,.nil,.nil⟩
theorem RepA.of_perm {a:GS} {m m':List Out} (h:RepA a m) (hp:m.Perm m'):RepA a m' :=
 ⟨by rw [h.cnt,hp.length_eq],by rw [h.sum,zg8 hp],h.perm.trans ((hp.filter _).map _),h.srt⟩
theorem Rep.of_perm {o:Option GS} {m m':List Out} (h:Rep o m) (hp:m.Perm m'):Rep o m':=by
 cases o with
 | none=>obtain rfl:=(h:m = []);exact hp.nil_eq.symm
 | some a=>exact ⟨fun e=>h.1 (by rw [e] at hp;exact hp.eq_nil),h.2.of_perm hp⟩
theorem RepA.eq {a b:GS} {m:List Out} (h:RepA a m) (k:RepA b m):a = b:=by
 obtain ⟨a1,a2,a3⟩:=a;obtain ⟨b1,b2,b3⟩:=b;have e1:a1 = b1:=h.cnt.trans k.cnt.symm;have e2:a2 = b2:=h.sum.trans k.sum.symm;have e3:a3 = b3:=zbN (h.perm.trans k.perm.symm) h.srt k.srt;rw [e1,e2,e3]
theorem zkD (xs:List Int) (i:Nat) (x:Int):(insI xs i x).Perm (x :: xs):=by
 unfold insI
 have:=(List.perm_middle (a:=x) (l₁:=xs.take i) (l₂:=xs.drop i))
 rwa [List.take_append_drop] at this
theorem zfD {xs:List Int} {i:Nat} {x:Int} (h:xs[i]? = some x):xs.Perm (x :: xs.eraseIdx i):=by
 obtain ⟨hi,rfl⟩:=List.getElem?_eq_some_iff.1 h;rw [List.eraseIdx_eq_take_drop_succ];have e:=List.take_append_drop i xs;rw [List.drop_eq_getElem_cons hi] at e;exact (by rw [e]:xs.Perm (xs.take i ++ xs[i] :: xs.drop (i + 1))).trans List.perm_middle
theorem zm9 {a:GS} {m:List Out} (x:Out) (h:RepA a m):RepA (zhr a x) (x :: m) where
 cnt:=by show a.cnt + 1 = _;rw [h.cnt];simp
 sum:=by
  show (if x.hl then wrap64 (a.sum + x.l.v) else a.sum) = _;by_cases hl:x.hl = true
  . rw [if_pos hl,h.sum];simp only [lsum,if_pos hl];unfold wrap64;omega
  . rw [if_neg hl,h.sum];simp only [lsum,if_neg hl,Int.zero_add]
 perm:=by
  show (if x.hr then insI a.right (a.right.countP (. < x.r.v)) x.r.v else a.right).Perm _;by_cases hr:x.hr = true
  . rw [if_pos hr,List.filter_cons_of_pos hr,List.map_cons];exact (zkD _ _ _).trans (h.perm.cons _)
  . rw [if_neg hr,List.filter_cons_of_neg hr];exact h.perm
 srt:=by
  show (if x.hr then insI a.right (a.right.countP (. < x.r.v)) x.r.v else a.right).Pairwise (. <= ·);by_cases hr:x.hr = true
  . rw [if_pos hr];exact zcX _ _ h.srt
  . rw [if_neg hr];exact h.srt
theorem zly {a:GS} {m m':List Out} {x:Out} (h:RepA a m) (hp:m.Perm (x :: m')):RepA (ziI a x) m':=by
 have h:=h.of_perm hp;refine ⟨?_,?_,?_,?_⟩
 . show a.cnt - 1 = _;rw [h.cnt];simp
 . show (if x.hl then wrap64 (a.sum - x.l.v) else a.sum) = _;have hs:=h.sum;by_cases hl:x.hl = true
   . simp only [lsum,if_pos hl] at hs;rw [if_pos hl,hs];unfold wrap64;omega
   . simp only [lsum,if_neg hl,Int.zero_add] at hs;rw [if_neg hl,hs]
 . show (if x.hr then a.right.eraseIdx (a.right.countP (. < x.r.v)) else a.right).Perm _;have hq:=h.perm;by_cases hr:x.hr = true
   . rw [List.filter_cons_of_pos hr,List.map_cons] at hq;rw [if_pos hr];have hmem:x.r.v ∈ a.right:=hq.mem_iff.2 List.mem_cons_self;exact List.Perm.cons_inv ((zfD (zcm _ _ h.srt hmem).2).symm.trans hq)
   . rw [List.filter_cons_of_neg hr] at hq;rw [if_neg hr];exact hq
 . show (if x.hr then a.right.eraseIdx (a.right.countP (. < x.r.v)) else a.right).Pairwise (. <= ·);by_cases hr:x.hr = true
   . rw [if_pos hr];exact zcw h.srt _
   . rw [if_neg hr];exact h.srt
theorem ofKey_cons (x:Out) (l:List Out) (k:Int):zqc (x :: l) k = if k = x.key then x :: zqc l k else zqc l k:=by
 unfold zqc;by_cases h:k = x.key
 . rw [if_pos h,List.filter_cons_of_pos (by simp [h])]
 . rw [if_neg h,List.filter_cons_of_neg (by simp;exact fun e=>h e.symm)]
theorem za7.of_perm {ents:List Ent} {l l':List Out} (h:za7 ents l) (hp:l.Perm l'):za7 ents l':=fun k=>(h k).of_perm (hp.filter _)
theorem za7.nil:za7 [] []:=fun _k=>rfl
theorem za7.add {ents ents':List Ent} {l:List Out} {x:Out} (h:za7 ents l) (hs:∀ k,st ents' k = if k = x.key then some (zhr ((st ents x.key).getD ⟨0,0,[]⟩) x) else st ents k):za7 ents' (x :: l):=by
 intro k;rw [hs k,ofKey_cons];by_cases hk:k = x.key
 . rw [if_pos hk,if_pos hk];refine ⟨by simp,zm9 x ?_⟩
   have:=h x.key
   subst hk;cases ho:st ents x.key with
   | none=>rw [ho] at this;rw [(this:_ = [])];exact RepA.nil
   | some a=>rw [ho] at this;exact this.2
 . rw [if_neg hk,if_neg hk];exact h k
theorem za7.less {ents ents':List Ent} {l l':List Out} {x:Out} {a:GS} (h:za7 ents l) (hp:l.Perm (x :: l')) (ha:st ents x.key = some a) (hs:∀ k,st ents' k = if k = x.key then zjv a x else st ents k):za7 ents' l':=by
 intro k;have h':=h.of_perm hp k;rw [ofKey_cons] at h';rw [hs k];by_cases hk:k = x.key
 . rw [if_pos hk] at h' ⊢;subst hk;rw [ha] at h';have hr:=zly h'.2 (List.Perm.refl _);have hc:=h'.2.cnt;unfold zjv;by_cases hz:a.cnt - 1 = 0
   . rw [if_pos hz];rw [List.length_cons] at hc;exact List.eq_nil_of_length_eq_zero (by omega)
   . rw [if_neg hz];refine ⟨fun e=>?_,hr⟩;rw [e] at hc;simp at hc;omega
 . rw [if_neg hk] at h' ⊢;exact h'
theorem za7.mem {ents:List Ent} {l:List Out} (h:za7 ents l) {x:Out} (hx:x ∈ l):∃ a,st ents x.key = some a /\ (x.hr = true -> x.r.v ∈ a.right):=by
 have h1:=h x.key;have hm:x ∈ zqc l x.key:=List.mem_filter.2 ⟨hx,by simp⟩;cases ho:st ents x.key with
 | none=>rw [ho] at h1;rw [(h1:_ = [])] at hm;cases hm
 | some a =>
   rw [ho] at h1;refine ⟨a,rfl,fun hr=>?_⟩;exact h1.2.perm.mem_iff.2 (List.mem_map.2 ⟨x,List.mem_filter.2 ⟨hm,hr⟩,rfl⟩)
theorem za7.bound {ents:List Ent} {l:List Out} (h:za7 ents l) {k:Int} {a:GS} (ha:st ents k = some a):0 <= a.cnt /\ a.cnt <= l.length /\ a.right.length <= l.length:=by
 have h1:=h k;rw [ha] at h1;have hc:=h1.2.cnt;have hp:=h1.2.perm.length_eq;have hl:(zqc l k).length <= l.length:=List.length_filter_le _ _;have hf:((zqc l k).filter (·.hr)).length <= (zqc l k).length:=List.length_filter_le _ _;rw [List.length_map] at hp;omega
theorem zfB:∀ {xs ys:List Int},xs.Nodup -> (∀ x ∈ xs,x ∈ ys) -> xs.length <= ys.length
 | [],_,_,_=>Nat.zero_le _
 | x :: xs,ys,hn,hs=>by
   obtain ⟨h1,h2⟩:=List.nodup_cons.1 hn;have hx:=hs x List.mem_cons_self
   have:=zfB (ys:=ys.erase x) h2 (fun y hy=>(List.mem_erase_of_ne (fun e=>h1 (by rw [<- e];exact hy))).2 (hs y (List.mem_cons_of_mem _ hy)))
   rw [List.length_erase_of_mem hx] at this
   have:=List.length_pos_of_mem hx
   simp;omega
theorem zfm {ents:List Ent} {k:Int}:k ∈ ents.map (·.key) ↔ st ents k ≠ none:=by
 rw [ne_eq,zhG];constructor
 . intro h1 h2;obtain ⟨e,he,hk⟩:=List.mem_map.1 h1;exact h2 e he hk
 . intro h1;simp only [Classical.not_forall] at h1;obtain ⟨e,he,hk⟩:=h1;exact List.mem_map.2 ⟨e,he,by simpa using hk⟩
theorem za7.few {ents:List Ent} {l:List Out} (h:za7 ents l) (hn:(ents.map (·.key)).Nodup):ents.length <= l.length:=by
 have:=zfB (ys:=l.map (·.key)) hn (fun k hk=>by
  have h1:=zfm.1 hk;have h2:=h k;cases ho:st ents k with
  | none=>exact absurd ho h1
  | some a =>
    rw [ho] at h2;obtain ⟨x,hx⟩:=List.exists_mem_of_ne_nil _ h2.1;obtain ⟨hx1,hx2⟩:=List.mem_filter.1 hx
    exact List.mem_map.2 ⟨x,hx1,by simpa using hx2⟩)
 simpa using this
theorem zkf {w:World} {G o:Nat} {D:Option Nat} {ents:List Ent} {l:List Out} (hg:za6 w G o D ents) (h:za7 ents l) (e:Ent) (he:e ∈ ents):e.a.right.length <= l.length:=by
 obtain ⟨pre,post,rfl⟩:=List.append_of_mem he;exact (h.bound (zoW hg.nodup e rfl)).2.2
end Go.Proofs.YtiknejbcehpmoaaGreatDoor
