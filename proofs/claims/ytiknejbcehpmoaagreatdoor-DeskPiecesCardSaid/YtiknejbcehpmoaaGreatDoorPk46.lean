import Derived.Test.YtiknejbcehpmoaaGreatDoorPk45
set_option maxRecDepth 100000
set_option maxHeartbeats 8000000
namespace Go.Proofs.YtiknejbcehpmoaaGreatDoor
open Go.RowKit Go.Plan
theorem DkIn.eok {u:World} {D:Nat} {Fs:Nat -> Prop} {x:LSt} {n:Nat} {a:Option Addr} {ws:List ByteArray} (h:DkIn u D Fs x n a ws):EOk x.e:=by
 obtain ⟨E,Bs,c0,hE,-⟩:=h.d.eup;have hg:=h.ok.g;exact hg.ok.eok2 (by have:=h.hn;omega) (by rw [hg.g.a];exact hg.g.la) (by rw [hg.g.b];exact hg.g.lb) h.ok.c hE
theorem zun (u:World) (D:Nat) (Fs:Nat -> Prop) (x:LSt) (n:Nat) (a:Option Addr) (ws:List ByteArray) (cap:Nat) (h:DkIn u D Fs x n a ws) :
 Calls Tryz.prog 61 #[.pointer (some ⟨D,0,none⟩),.slice a ws.length cap] u (AnsV u D Fs x zsx 0 ws):=by
 rcases hq:argsO 0 (zsf ws) with - | ns
 . have hn0:=(h.nums cap 0 (by decide)).mono (R':=fun e w'=>e = zsi 3 /\ Ext u w') (fun e w' hh=>by unfold zsm at hh;rw [hq] at hh;exact ⟨hh.2,hh.1⟩);have hfin:=fun w' (hx:Ext u w')=>AnsV.bad (nm:=zsx) hq h.d hx;clear h;go_enter Tryz.func61,Tryz.ntmps61;go_wp2_with (go_at_call 18;refine hn0.mono ?_;rintro e w1 ⟨rfl,hx1⟩);exact ⟨rfl,hfin _ hx1⟩
 have hn0:=(h.nums cap 0 (by decide)).mono (R':=fun e w'=>∃ vo,e = .returned vo /\ Ext u w') (fun e w' hh=>by
  unfold zsm at hh;rw [hq] at hh;obtain ⟨h1,vo,h2,h3⟩:=hh
  exact ⟨vo,h2,h1⟩)
 obtain rfl:=zsj hq;obtain ⟨E,Bs,c0,hE,-⟩:=h.d.eup;have ht:=h.lib.t;have hL:=h.lib.l;have heok:=h.eok;have hsok:=heok.sok (h.ok.g.ok.lV9 h.hn);have hsv:∀ w,Ext u w -> Calls Tryz.prog 94 #[.pointer (some ⟨E,0,none⟩)] w fun e w'=>e = zeX x.e /\ Ext w w':=fun w hx=>zk9 (hE.ext hx) x.e rfl hsok (TabP.ext ht hx);have lD:=zac c0;by_cases hbig:60000 < (savedT x.e).length
 . skip;have hfin:=fun w' (hx:Ext u w')=>AnsV.err (nm:=zsx) hq ((zsz (by decide) x).trans (show _ = ((4:Int),([]:List UInt8),x) from if_pos hbig)) (by decide) (DkUp.same h.d hx);rw [show zeX x.e = .returned (.tuple #[.string ByteArray.empty,errV 4]) from if_pos hbig] at hsv;have er4:errV 4 = .iface 47 (.int .i64 4):=rfl;rw [er4] at hsv;clear h hE heok hsok hbig;go_enter Tryz.func61,Tryz.ntmps61
   go_wp2_with (first
    | (go_at_call 18;refine hn0.mono ?_;rintro e w1 ⟨vo,rfl,hx1⟩;have c1:=(hx1.cell (p:=⟨D,0,none⟩) lD id).trans c0;have lD1:=zac c1)
    | (go_at_call 94;refine (hsv _ hx1).mono ?_;rintro e w2 ⟨rfl,hx2⟩)
    | (go_at_call 20;refine (zs2 4 _ (hL.of (ExtM.trans _ _ _ hx1 hx2))).mono ?_;rintro e w3 ⟨rfl,hx3⟩))
   exact ⟨rfl,hfin _ (ExtM.trans _ _ _ (ExtM.trans _ _ _ hx1 hx2) hx3)⟩
 . have hfin:=fun w' (hx:Ext u w')=>AnsV.good (nm:=zsx) hq ((zsz (by decide) x).trans (show _ = ((0:Int),wordsB [((savedT x.e).length:Nat)],x) from if_neg hbig)) (DkUp.same h.d hx);rw [show zeX x.e = .returned (.tuple #[.string ⟨(savedT x.e).toArray⟩,.nilIface]) from if_neg hbig] at hsv;have hwb:wordsB [((savedT x.e).length:Int)] = Lib.itoa ((savedT x.e).length:Int):=by rw [zhn];simp
   rw [hwb] at hfin;clear h hE heok hsok hwb;generalize savedT x.e = T at *;have hit:∀ w,Ext u w -> Calls Tryz.prog 25 #[.int .i64 (T.length:Nat)] w fun e w'=>e = .returned (.string ⟨(Lib.itoa (T.length:Nat)).toArray⟩) /\ Ext w w':=fun w hx=>zno _ w (by omega) (by omega) (TabP.ext ht hx);clear hbig;go_enter Tryz.func61,Tryz.ntmps61
   go_wp2_with (first
    | (go_at_call 18;refine hn0.mono ?_;rintro e w1 ⟨vo,rfl,hx1⟩;have c1:=(hx1.cell (p:=⟨D,0,none⟩) lD id).trans c0;have lD1:=zac c1)
    | (go_at_call 94;refine (hsv _ hx1).mono ?_;rintro e w2 ⟨rfl,hx2⟩)
    | (go_at_call 20;refine (zs8 _).mono ?_;rintro e w3 ⟨rfl,rfl⟩)
    | (go_at_call 25;refine (hit _ (ExtM.trans _ _ _ hx1 hx2)).mono ?_;rintro e w4 ⟨rfl,hx4⟩))
   go_ret;exact hfin _ (ExtM.trans _ _ _ (ExtM.trans _ _ _ hx1 hx2) hx4)
theorem ztP (u:World) (D:Nat) (Fs:Nat -> Prop) (x:LSt) (n:Nat) (a:Option Addr) (ws:List ByteArray) (cap:Nat) (h:DkIn u D Fs x n a ws) :
 Calls Tryz.prog 59 #[.pointer (some ⟨D,0,none⟩),.slice a ws.length cap] u (AnsV u D Fs x zsh 0 ws):=by
 rcases hq:argsO 0 (zsf ws) with - | ns
 . have hn0:=(h.nums cap 0 (by decide)).mono (R':=fun e w'=>e = zsi 3 /\ Ext u w') (fun e w' hh=>by unfold zsm at hh;rw [hq] at hh;exact ⟨hh.2,hh.1⟩);have hfin:=fun w' (hx:Ext u w')=>AnsV.bad (nm:=zsh) hq h.d hx;clear h;go_enter Tryz.func59,Tryz.ntmps59;go_wp2_with (go_at_call 18;refine hn0.mono ?_;rintro e w1 ⟨rfl,hx1⟩);exact ⟨rfl,hfin _ hx1⟩
 have hn0:=(h.nums cap 0 (by decide)).mono (R':=fun e w'=>∃ vo,e = .returned vo /\ Ext u w') (fun e w' hh=>by
  unfold zsm at hh;rw [hq] at hh;obtain ⟨h1,vo,h2,h3⟩:=hh
  exact ⟨vo,h2,h1⟩)
 obtain rfl:=zsj hq;obtain ⟨E,Bs,c0,hE,-⟩:=h.d.eup;have ht:=h.lib.t;have hL:=h.lib.l;have heok:=h.eok;have hsok:=heok.sok (h.ok.g.ok.lV9 h.hn);have hsv:∀ w,Ext u w -> Calls Tryz.prog 94 #[.pointer (some ⟨E,0,none⟩)] w fun e w'=>e = zeX x.e /\ Ext w w':=fun w hx=>zk9 (hE.ext hx) x.e rfl hsok (TabP.ext ht hx);have lD:=zac c0;by_cases hbig:60000 < (savedT x.e).length
 . skip;have hfin:=fun w' (hx:Ext u w')=>AnsV.err (nm:=zsh) hq ((zsz (by decide) x).trans (show _ = ((4:Int),([]:List UInt8),x) from if_pos hbig)) (by decide) (DkUp.same h.d hx);rw [show zeX x.e = .returned (.tuple #[.string ByteArray.empty,errV 4]) from if_pos hbig] at hsv;have er4:errV 4 = .iface 47 (.int .i64 4):=rfl;rw [er4] at hsv;clear h hE heok hsok hbig;go_enter Tryz.func59,Tryz.ntmps59
   go_wp2_with (first
    | (go_at_call 18;refine hn0.mono ?_;rintro e w1 ⟨vo,rfl,hx1⟩;have c1:=(hx1.cell (p:=⟨D,0,none⟩) lD id).trans c0;have lD1:=zac c1)
    | (go_at_call 94;refine (hsv _ hx1).mono ?_;rintro e w2 ⟨rfl,hx2⟩)
    | (go_at_call 20;refine (zs2 4 _ (hL.of (ExtM.trans _ _ _ hx1 hx2))).mono ?_;rintro e w3 ⟨rfl,hx3⟩))
   exact ⟨rfl,hfin _ (ExtM.trans _ _ _ (ExtM.trans _ _ _ hx1 hx2) hx3)⟩
 . have hd:=(zsz (b:=zsh) (by decide) x).trans (show _ = ((0:Int),zsh,x.again) from if_neg hbig);have hls:=ziT x.e heok (by omega);have hlib:=h.lib;have hload:∀ w,Ext u w -> Calls Tryz.prog 95 #[.string ⟨(savedT x.e).toArray⟩] w fun e u'=>∃ E' Bs',e = .returned (.tuple #[.pointer (some ⟨E',0,none⟩),.nilIface]) /\ Ext w u' /\ EAt u' E' Bs' x.e.lo x.e.hi x.e.md x.e.st (sortO x.e.V).reverse (sortO x.e.V).reverse x.e.f0 x.e.f1 /\ ∀ k,Bs' k -> w.heap.size <= k:=fun w hx=>by
    have hl:=hlib.ext hx;have hsz:(ByteArray.mk (savedT x.e).toArray).size <= 60000:=by rw [<- zbA];show (savedT x.e).length <= 60000;omega
    refine (zpa ⟨(savedT x.e).toArray⟩ (by omega) hl.m hl.e hl.t hl.l (fun hn=>?_)).mono ?_
    . have h9:zfM (savedT x.e) = none:=hn;rw [hls] at h9;cases h9
    . intro e u' hv;unfold LoadV at hv;have h9:zfM (ByteArray.mk (savedT x.e).toArray).data.toList = _:=hls;rw [h9] at hv;obtain ⟨q1,E',Bs',q2,q3,q4⟩:=hv;exact ⟨E',Bs',q2,q1,q3,q4⟩
   have hput:=fun (w':World) (E':Nat) (Bs':Nat -> Prop) (hx:Ext u w') (hE':EAt w' E' Bs' x.e.lo x.e.hi x.e.md x.e.st (sortO x.e.V).reverse (sortO x.e.V).reverse x.e.f0 x.e.f1) (hB:∀ k,Bs' k -> u.heap.size <= k)=>AnsV.good (nm:=zsh) hq hd (h.d.put (y:=x.again) hx hE' hB);obtain ⟨E0,Bs0,c9,f9,-⟩:=id h.d;have HP:=Lib.hid hput;rw [show zeX x.e = .returned (.tuple #[.string ⟨(savedT x.e).toArray⟩,.nilIface]) from if_neg hbig] at hsv;clear h hE heok hsok hd hls hput hbig c9;generalize savedT x.e = T at *;go_enter Tryz.func59,Tryz.ntmps59
   go_wp2_with (first
    | (go_at_call 18;refine hn0.mono ?_;rintro e w1 ⟨vo,rfl,hx1⟩;have c1:=(hx1.cell (p:=⟨D,0,none⟩) lD id).trans c0;have lD1:=zac c1)
    | (go_at_call 94;refine (hsv _ hx1).mono ?_;rintro e w2 ⟨rfl,hx2⟩)
    | (go_at_call 20;refine (zs8 _).mono ?_;rintro e w3 ⟨rfl,rfl⟩)
    | (go_at_call 95;refine (hload _ (ExtM.trans _ _ _ hx1 hx2)).mono ?_;rintro e w4 ⟨E',Bs',rfl,hx4,hE4,hB4⟩;refine Hid.out ?_))
   refine Lib.hid ?_;have hX4:Ext u w4:=ExtM.trans _ _ _ (ExtM.trans _ _ _ hx1 hx2) hx4;have HF:=Lib.hid (HP.out w4 E' Bs' hX4 hE4 (fun k hk=>by have:=hB4 k hk;have:=hx1.size;have:=hx2.size;omega));have c4:=(hX4.cell (p:=⟨D,0,none⟩) lD id).trans c0;have f4:=(hX4.frozen (p:=⟨D,0,none⟩) lD id).trans f9;have lD4:=zac c4;clear hx1 hx2 hx4 hX4 hE4 hB4 c0 c1 lD lD1 f9 hload hsv hn0;go_wp2_with (go_at_call 20;refine (zs8 _).mono ?_;rintro e w3 ⟨rfl,rfl⟩);go_ret;exact HF.out
theorem IR.atK {w:World} {C:Nat} {v:Value} {m:List Int} (h:IR w C v m) (h7:1 <= m.length):∃ g cap,v = .slice (some ⟨g,0,none⟩) m.length cap /\ (C <= g /\ g < w.heap.size) /\ ∀ q,q < m.length -> w.cell? ⟨g,q,none⟩ = some (.int .i64 (nAt m q)):=by
 have hl:=zaf h;obtain ⟨p,cap,rfl,hc⟩:=zaa h;cases p with
 | none =>
   rcases h.2 with ⟨he,h0⟩ | ⟨g,cap',cur,he,-⟩
   . omega
   . cases he
 | some a =>
   have ha:a = ⟨a.block,0,none⟩:=by
    rcases h.2 with ⟨he,h0⟩ | ⟨g,cap',cur,he,-⟩
    . cases he
    . simp only [Value.slice.injEq,Option.some.injEq] at he;rw [he.1]
   rw [ha] at h hl ⊢;obtain ⟨h1,h2⟩:=hl a.block rfl;refine ⟨a.block,cap,rfl,⟨h1,h2⟩,fun q hq=>?_⟩;rw [World.ownsRow.cellAt h q (by omega),List.getElem?_map,List.getElem?_eq_getElem hq];unfold nAt;rw [List.getD_eq_getElem?_getD,List.getElem?_eq_getElem hq];rfl
theorem zud {u:World} {E:Nat} {Bs:Nat -> Prop} {lo hi md:Int} {st:JSt} {V W:List Out} {f0 f1:Int} (h:EAt u E Bs lo hi md st V W f0 f1) (hp:zay lo hi) (la:st.a.length <= 300) (lb:st.b.length <= 300) (s t:Int) :
 Calls Tryz.prog 92 #[.pointer (some ⟨E,0,none⟩),.int .i64 s,.int .i64 t] u fun e u'=>e = .returned (errV (moveI s t st.x st.y)) /\ EUp u u' E Bs lo hi md (mvJ lo hi s t st) V W f0 f1:=by
 unfold mvJ;by_cases h0:s = 0
 . subst h0;simp only [if_true];exact (zm8 h hp t (by omega)).mono fun e u' hh=>⟨hh.1,hh.2⟩
 by_cases h1:s = 1
 . subst h1;simp only [if_neg h0];exact (zlH h hp t (by omega)).mono fun e u' hh=>⟨hh.1,hh.2⟩
 . have hm:moveI s t st.x st.y = 1:=by unfold moveI;rw [if_pos ⟨h0,h1⟩]
   rw [hm,if_neg (by decide)];exact (zn4 h s t ⟨h0,h1⟩).mono fun e u' hh=>⟨hh.1,EUp.same h hh.2⟩
def zsD (R:List PanicEntry -> World -> Prop) (Q:Exit -> Act -> World -> Prop):Exit -> Act -> World -> Prop
 | .panic c,a,w=>a.defers = [] /\ R c w
 | e,a,w=>Q e a w
section
variable {P:Program} {ops:Array Oper} {Q:Exit -> Act -> World -> Prop} {E:World -> World -> Prop} {T:List Nat} {R:List PanicEntry -> World -> Prop}
theorem ztA (a:Act) (d:Option Tmp) (v:Value):(a.put d v).defers = a.defers:=by cases d <;> rfl
theorem zsy {L:List Oper} [hr:Std.Refl E] [ht:Trans E E E] (i:Nat) {o:Oper} {fuel:Nat} {done:List Nat} {a:Act} {w:World} (hi:Plan.nth L i = some o)
 (hb:(Region.noSelect L.toArray && Plan.zcQ L.toArray T [i] done) = true) (h:wpQuiet P L.toArray (fun w'=>∃ p,w' = Plan.ext E w p) (fun a'=>Plan.Left P L.toArray (zsD R Q) E T fuel (done ++ [i]) a' w) [o] a):Plan.Left P L.toArray (zsD R Q) E T (fuel + 1) done a w:=by
 simp only [Bool.and_eq_true] at hb;have hi:=Plan.zcy hi;obtain ⟨hs,hb⟩:=hb;simp only [Plan.zcQ,Bool.and_eq_true,hi,Option.map_some,Option.getD_some] at hb;obtain ⟨⟨⟨⟨hf,hrd⟩,hc⟩,hT⟩,-⟩:=hb;have hq:qOp P L.toArray (fun w'=>∃ p,w' = Plan.ext E w p) i (fun a'=>Plan.Left P L.toArray (zsD R Q) E T fuel (done ++ [i]) a' w) a:=by
  unfold qOp;simp only [hi];simpa [wpQuiet] using h
 obtain ⟨v,hy,hK⟩:=yieldsIn_of_qOp hi hq;unfold Plan.Left at *;rw [<- Plan.zch] at hK;exact Plan.zgo hr.refl (fun _ _ _=>ht.trans) hi (Region.noSelect_spec hs) (fun c a w h=>⟨(ztA a _ _).symm.trans h.1,h.2⟩) (fun t ht=>List.all_eq_true.1 hT t ht) fuel _ a w (Region.free_spec hi hf) (by simpa using hrd) (Plan.zdZ hc hy) hK
theorem zuB {id:Nat} {a:Act} {w:World} (R:List PanicEntry -> World -> Prop) (hR:∀ c a w,a.defers = [] -> R c w -> Q (.panic c) a w) (E:World -> World -> Prop) (n:Nat) (hn:ops.size = n) (hm:P.follows .mixedOrders = true) (h:Plan.Left P ops (zsD R Q) E [] n [] a w.drew):(Code.region id ops true).wp P Q a w:=by
 subst hn;refine Code.wp_mono (Q:=zsD R Q) ?_ (wp_region_any hm (Plan.zeH _ _ _ _ h));intro e a w h;cases e <;> first | exact h | exact hR _ _ _ h.1 h.2
end
theorem zu4 (u:World) (D:Nat) (Fs:Nat -> Prop) (x:LSt) (n:Nat) (a:Option Addr) (ws:List ByteArray) (cap:Nat) (h:DkIn u D Fs x n a ws) :
 Calls Tryz.prog 57 #[.pointer (some ⟨D,0,none⟩),.slice a ws.length cap] u (AnsV u D Fs x zsw 2 ws):=by
 rcases hq:argsO 2 (zsf ws) with - | ns
 . have hn0:=(h.nums cap 2 (by decide)).mono (R':=fun e w'=>e = zsi 3 /\ Ext u w') (fun e w' hh=>by unfold zsm at hh;rw [hq] at hh;exact ⟨hh.2,hh.1⟩);have hfin:=fun w' (hx:Ext u w')=>AnsV.bad (nm:=zsw) hq h.d hx;clear h;go_enter Tryz.func57,Tryz.ntmps57;go_wp2_with (go_at_call 18;refine hn0.mono ?_;rintro e w1 ⟨rfl,hx1⟩);exact ⟨rfl,hfin _ hx1⟩
 have hn0:=(h.nums cap 2 (by decide)).mono (R':=fun e w'=>∃ g cp,e = .returned (.slice (some ⟨g,0,none⟩) 2 cp) /\ (u.heap.size <= g /\ g < w'.heap.size) /\ (∀ q,q < 2 -> w'.cell? ⟨g,q,none⟩ = some (.int .i64 (nAt ns q))) /\ Ext u w') (fun e w' hh=>by
  unfold zsm at hh;rw [hq] at hh;obtain ⟨h1,vo,h2,h3⟩:=hh;obtain ⟨g,cp,rfl,h4,h5⟩:=h3.atK (by rw [(zsl hq).1];decide);rw [(zsl hq).1] at h2 h5
  exact ⟨g,cp,h2,h4,h5,h1⟩)
 have hd:doX x zsw ns = (moveI (nAt ns 0) (nAt ns 1) x.e.st.x x.e.st.y,zsw,x.move (nAt ns 0) (nAt ns 1)):=by unfold doX;rw [if_neg (by decide),if_neg (by decide),if_neg (by decide),if_pos rfl]
 obtain ⟨E,Bs,c0,hE,⟨hBF,hnD⟩,hup⟩:=h.d.eup;have hlt:=hE.lt;have hL:=h.lib.l;have hg:=h.ok.g.g;have hmv:∀ w,Ext u w -> Calls Tryz.prog 92 #[.pointer (some ⟨E,0,none⟩),.int .i64 (nAt ns 0),.int .i64 (nAt ns 1)] w fun e w'=>e = .returned (errV (moveI (nAt ns 0) (nAt ns 1) x.e.st.x x.e.st.y)) /\ ExtM Bs w w' /\ DkUp u w' D Fs (x.move (nAt ns 0) (nAt ns 1)):=fun w hx =>
  (zud (hE.ext hx) (zgW h.ok.c) (by rw [hg.a];exact hg.la) (by rw [hg.b];exact hg.lb) (nAt ns 0) (nAt ns 1)).mono fun e w' hh=>⟨hh.1,hh.2.1,hup w w' (x.move (nAt ns 0) (nAt ns 1)) rfl rfl rfl hx hh.2⟩
 have hz:=h.hz.e;have hgood:=fun w' (h0:moveI (nAt ns 0) (nAt ns 1) x.e.st.x x.e.st.y = 0) (hu:DkUp u w' D Fs (x.move (nAt ns 0) (nAt ns 1)))=>AnsV.good (nm:=zsw) hq (by rw [hd,h0]) hu;have herr:=fun w' (h0:moveI (nAt ns 0) (nAt ns 1) x.e.st.x x.e.st.y ≠ 0) (hu:DkUp u w' D Fs (x.move (nAt ns 0) (nAt ns 1)))=>AnsV.err (nm:=zsw) hq hd h0 hu;clear h hE hup hg hd;generalize moveI (nAt ns 0) (nAt ns 1) x.e.st.x x.e.st.y = c at *;generalize x.move (nAt ns 0) (nAt ns 1) = y at *;have lD:=zac c0;have hmu:∀ w w':World,Ext u w -> DkUp u w' D Fs y -> Laid w':=fun w w' _ hu=>by
  have hx:=hu.1;have hl:=zaG hL;exact hL.ofM (hx.mono fun k hk e=>e) (fun e=>hz e)
 by_cases hc:c = 0
 . subst hc;have hgd:=fun w'=>hgood w' rfl;clear hgood;rw [show errV 0 = .nilIface from rfl] at hmv;clear herr;go_enter Tryz.func57,Tryz.ntmps57;go_wp2_with (go_at_call 18;refine hn0.mono ?_;rintro e w1 ⟨g,cp,rfl,⟨hug,lg⟩,hns,hx1⟩;refine Hid.out ?_);refine Lib.hid ?_;have c1:=(hx1.cell (p:=⟨D,0,none⟩) lD id).trans c0;have lD1:=zac c1;have n0:=hns 0 (by decide);have n1:=hns 1 (by decide);simp only at lD1;clear hns hn0 c0 lD;go_upto_region 2 with fail;have hng:¬ Bs g:=fun e=>by have:=hlt g e;omega
   refine Plan.b0 (Plan.ExtL D g) 12 ?_;refine Plan.qs 10 [0,1,2,3,4,5,6,7,8,9] ?_;iterate 10 go_big_quiet_step (fail)
   refine Plan.o1 10 fun K hK=>?_;go_wp2_with (fail);refine (hmv _ (ExtM.trans _ _ _ hx1 (ExtM.refl _).drew)).mono ?_;rintro e w8 ⟨rfl,h8,hu8⟩;have H8:=ExtL.trans _ _ _ (ExtL.refl _).drew (ExtL.of_M hnD hng h8);obtain ⟨hc8,hf8,-⟩:=ExtL.rules H8;have hs8_0:D < w8.heap.size:=by have:=H8.size;(try simp at this);omega
   have hs8_1:g < w8.heap.size:=by have:=H8.size;(try simp at this);omega
   go_wp2_with (fail);refine hK _ _ (ExtL.of_M hnD hng h8) ?_;clear hK K;have hLm:=hmu _ _ hx1 hu8;have HU:=Lib.hid hu8;clear hu8 hmv c1 n0 n1 lD1 lg;refine Plan.o1 11 fun K hK=>?_;go_wp2_with (fail);refine (zs8 _).mono ?_;rintro e w9 ⟨rfl,rfl⟩;go_wp2_with (fail);refine hK _ _ (ExtL.refl _) ?_;clear hK K;refine Plan.dn ?_;go_wp2_with fail;go_ret;exact hgd _ HU.out
 . have herr:=fun w'=>herr w' hc;have er:errV c = .iface 47 (.int .i64 c):=if_neg hc;rw [er] at hmv;clear hgood er;go_enter Tryz.func57,Tryz.ntmps57;go_wp2_with (go_at_call 18;refine hn0.mono ?_;rintro e w1 ⟨g,cp,rfl,⟨hug,lg⟩,hns,hx1⟩;refine Hid.out ?_);refine Lib.hid ?_;have c1:=(hx1.cell (p:=⟨D,0,none⟩) lD id).trans c0;have lD1:=zac c1;have n0:=hns 0 (by decide);have n1:=hns 1 (by decide);simp only at lD1;clear hns hn0 c0 lD;go_upto_region 2 with fail;have hng:¬ Bs g:=fun e=>by have:=hlt g e;omega
   refine zuB (fun c w=>(AnsV u D Fs x zsw 2 ws) (.panicked c) w) (fun _ _ _ h1 h2=>⟨h1,h2⟩) (Plan.ExtL D g) 12 rfl (by kernel_rfl) ?_;refine zsy 0 (by rfl) (by kernel_rfl) ?_;go_big_quiet_step (fail);refine wpQuiet_nil ?_;refine zsy 1 (by rfl) (by kernel_rfl) ?_;go_big_quiet_step (fail);refine wpQuiet_nil ?_;refine zsy 2 (by rfl) (by kernel_rfl) ?_;go_big_quiet_step (fail);refine wpQuiet_nil ?_;refine zsy 3 (by rfl) (by kernel_rfl) ?_;go_big_quiet_step (fail);refine wpQuiet_nil ?_;refine zsy 4 (by rfl) (by kernel_rfl) ?_;go_big_quiet_step (fail);refine wpQuiet_nil ?_;refine zsy 5 (by rfl) (by kernel_rfl) ?_;go_big_quiet_step (fail);refine wpQuiet_nil ?_;refine zsy 6 (by rfl) (by kernel_rfl) ?_;go_big_quiet_step (fail);refine wpQuiet_nil ?_;refine zsy 7 (by rfl) (by kernel_rfl) ?_;go_big_quiet_step (fail);refine wpQuiet_nil ?_;refine zsy 8 (by rfl) (by kernel_rfl) ?_;go_big_quiet_step (fail);refine wpQuiet_nil ?_;refine zsy 9 (by rfl) (by kernel_rfl) ?_;go_big_quiet_step (fail);refine wpQuiet_nil ?_;refine Plan.o1 10 fun K hK=>?_;go_wp2_with (fail);refine (hmv _ (ExtM.trans _ _ _ hx1 (ExtM.refl _).drew)).mono ?_;rintro e w8 ⟨rfl,h8,hu8⟩;have H8:=ExtL.trans _ _ _ (ExtL.refl _).drew (ExtL.of_M hnD hng h8);obtain ⟨hc8,hf8,-⟩:=ExtL.rules H8;have hs8_0:D < w8.heap.size:=by have:=H8.size;(try simp at this);omega
   have hs8_1:g < w8.heap.size:=by have:=H8.size;(try simp at this);omega
   go_wp2_with (fail);refine hK _ _ (ExtL.of_M hnD hng h8) ?_;clear hK K;have hLm:=hmu _ _ hx1 hu8;have HU:=Lib.hid hu8;clear hu8 hmv c1 n0 n1 lD1 lg;refine Plan.o1 11 fun K hK=>?_;go_wp2_with (fail);refine (zs2 c _ hLm).mono ?_;rintro e w9 ⟨rfl,hx9⟩;exact ⟨rfl,herr _ (HU.out.after hx9)⟩
theorem zu2 (u:World) (D:Nat) (Fs:Nat -> Prop) (x:LSt) (n:Nat) (a:Option Addr) (ws:List ByteArray) (cap:Nat) (h:DkIn u D Fs x n a ws) :
 Calls Tryz.prog 7 #[.pointer (some ⟨D,0,none⟩),.slice a ws.length cap] u (AnsV u D Fs x zc2 3 ws):=by
 rcases hq:argsO 3 (zsf ws) with - | ns
 . have hn0:=(h.nums cap 3 (by decide)).mono (R':=fun e w'=>e = zsi 3 /\ Ext u w') (fun e w' hh=>by unfold zsm at hh;rw [hq] at hh;exact ⟨hh.2,hh.1⟩);have hfin:=fun w' (hx:Ext u w')=>AnsV.bad (nm:=zc2) hq h.d hx;clear h;go_enter Tryz.func7,Tryz.ntmps7;go_wp2_with (go_at_call 18;refine hn0.mono ?_;rintro e w1 ⟨rfl,hx1⟩);exact ⟨rfl,hfin _ hx1⟩
 have hn0:=(h.nums cap 3 (by decide)).mono (R':=fun e w'=>∃ g cp,e = .returned (.slice (some ⟨g,0,none⟩) 3 cp) /\ (u.heap.size <= g /\ g < w'.heap.size) /\ (∀ q,q < 3 -> w'.cell? ⟨g,q,none⟩ = some (.int .i64 (nAt ns q))) /\ Ext u w') (fun e w' hh=>by
  unfold zsm at hh;rw [hq] at hh;obtain ⟨h1,vo,h2,h3⟩:=hh;obtain ⟨g,cp,rfl,h4,h5⟩:=h3.atK (by rw [(zsl hq).1];decide);rw [(zsl hq).1] at h2 h5
  exact ⟨g,cp,h2,h4,h5,h1⟩)
 have hL:=h.lib.l;obtain ⟨E0,Bs0,c9,f9,-⟩:=id h.d;have lD:=zac c9;by_cases hc:checkI (nAt ns 0) (nAt ns 1) (nAt ns 2) = 0
 . have hd:doX x zc2 ns = ((0:Int),zc2,LSt.new (nAt ns 0) (nAt ns 1) (nAt ns 2)):=by unfold doX;rw [if_pos rfl,if_pos hc]
   have hput:=fun (w':World) (E':Nat) (Bs':Nat -> Prop) (hx:Ext u w') (hE':EAt w' E' Bs' (nAt ns 0) (nAt ns 1) (nAt ns 2) ⟨[],[],-1099511627777,-1099511627777,0⟩ [] [] 0 0) (hB:∀ k,Bs' k -> u.heap.size <= k)=>AnsV.good (nm:=zc2) hq hd (h.d.put (y:=LSt.new (nAt ns 0) (nAt ns 1) (nAt ns 2)) hx hE' hB);have HP:=Lib.hid hput;have hnw:=fun w=>znc (nAt ns 0) (nAt ns 1) (nAt ns 2) w hc;clear h hput hd hc;go_enter Tryz.func7,Tryz.ntmps7;go_wp2_with (go_at_call 18;refine hn0.mono ?_;rintro e w1 ⟨g,cp,rfl,⟨hug,lg⟩,hns,hx1⟩;refine Hid.out ?_);refine Lib.hid ?_;have n0:=hns 0 (by decide);have n1:=hns 1 (by decide);have n2:=hns 2 (by decide);clear hns hn0;go_upto_region 2 with fail;refine Plan.b0 Plan.Ext 16 ?_;refine Plan.qs 10 [0,1,2,3,4,5,6,7,8,9] ?_;iterate 10 go_big_quiet_step (fail)
   refine Plan.o1 10 fun K hK=>?_;go_wp2_with (fail);refine (hnw _).mono ?_;rintro e w4 ⟨E',Bs',rfl,h4,hB4,hE4⟩;have H4:=ExtM.trans _ _ _ (ExtM.refl _).drew h4;obtain ⟨hc4,hf4,-⟩:=Ext.rules H4;have hs4_0:g < w4.heap.size:=by have:=H4.size;(try simp at this);omega
   go_wp2_with (fail);refine hK _ _ h4 ?_;clear hK K;refine Plan.qs 5 [11,12,13,14,15] ?_;iterate 5 go_big_quiet_step (fail)
   refine Plan.dn ?_;have hX4:Ext u w4:=ExtM.trans _ _ _ (ExtM.trans _ _ _ hx1 (ExtM.refl _).drew) h4;have hs1:=hx1.size;clear n0 n1 n2 lg hx1 hnw;have HF:=Lib.hid (HP.out w4 E' Bs' hX4 hE4 (fun k hk=>Nat.le_trans hs1 (hB4 k hk)));have c4:=(hX4.cell (p:=⟨D,0,none⟩) lD id).trans c9;have f4:=(hX4.frozen (p:=⟨D,0,none⟩) lD id).trans f9;have lD4:=zac c4;clear hE4 hB4 hX4 c9 f9 lD hs1 h4;go_wp2_with (go_at_call 20;refine (zs8 _).mono ?_;rintro e w9 ⟨rfl,rfl⟩);go_ret;exact HF.out
 . have hd:doX x zc2 ns = (checkI (nAt ns 0) (nAt ns 1) (nAt ns 2),([]:List UInt8),x):=by unfold doX;rw [if_pos rfl,if_neg hc]
   have hfin:=fun w' (hx:Ext u w')=>AnsV.err (nm:=zc2) hq hd hc (DkUp.same h.d hx);have hnw:=fun w=>zmT (nAt ns 0) (nAt ns 1) (nAt ns 2) w hc;rw [show errV (checkI (nAt ns 0) (nAt ns 1) (nAt ns 2)) = .iface 47 (.int .i64 (checkI (nAt ns 0) (nAt ns 1) (nAt ns 2))) from if_neg hc] at hnw;clear h hd hc;generalize checkI (nAt ns 0) (nAt ns 1) (nAt ns 2) = c at *;go_enter Tryz.func7,Tryz.ntmps7;go_wp2_with (go_at_call 18;refine hn0.mono ?_;rintro e w1 ⟨g,cp,rfl,⟨hug,lg⟩,hns,hx1⟩;refine Hid.out ?_);refine Lib.hid ?_;have n0:=hns 0 (by decide);have n1:=hns 1 (by decide);have n2:=hns 2 (by decide);clear hns hn0;go_upto_region 2 with fail;refine Plan.b0 Plan.Ext 16 ?_;refine Plan.qs 10 [0,1,2,3,4,5,6,7,8,9] ?_;iterate 10 go_big_quiet_step (fail)
   refine Plan.o1 10 fun K hK=>?_;go_wp2_with (fail);refine (hnw _).mono ?_;rintro e w4 ⟨rfl,h4⟩;have H4:=ExtM.trans _ _ _ (ExtM.refl _).drew h4;obtain ⟨hc4,hf4,-⟩:=Ext.rules H4;have hs4_0:g < w4.heap.size:=by have:=H4.size;(try simp at this);omega
   go_wp2_with (fail);refine hK _ _ h4 ?_;clear hK K;refine Plan.qs 5 [11,12,13,14,15] ?_;iterate 5 go_big_quiet_step (fail)
   refine Plan.dn ?_;have hX4:Ext u w4:=ExtM.trans _ _ _ (ExtM.trans _ _ _ hx1 (ExtM.refl _).drew) h4;have hs1:=hx1.size;clear n0 n1 n2 lg hx1 hnw;have hLm:=hL.of hX4;clear h4;go_wp2_with (go_at_call 20;refine (zs2 c _ hLm).mono ?_;rintro e w9 ⟨rfl,hx9⟩);exact ⟨rfl,hfin _ (ExtM.trans _ _ _ hX4 hx9)⟩
def sgnT (c:Out × Bool):List UInt8:=(if c.2 then [45] else [43]) ++ outT c.1
theorem zt9 (cs:List (Out × Bool)):fedT cs = Lib.join (wFed :: cs.map sgnT) [44,32]:=by
 unfold fedT;rw [Lib.join_cons];congr 1;unfold Lib.joinTail;rw [List.map_map,List.flatMap_def];congr 1
theorem Out.ok.o64 {x:Out} (h:x.ok):zte x:=by
 obtain ⟨h1,⟨h2,h3,h4⟩,h5,h6,h7⟩:=h;exact ⟨h1,h3,h4,h6,h7⟩
theorem ztc (c:Out × Bool) (h:zte c.1):(sgnT c).length <= 114:=by
 have:=zsF c.1 h
 unfold sgnT;rw [List.length_append];split <;> simp only [List.length_cons,List.length_nil] <;> omega
theorem ztZ {u:World} {D:Nat} {Fs:Nat -> Prop} {x:LSt} {n:Nat} {a:Option Addr} {ws:List ByteArray} (h:DkIn u D Fs x n a ws) {E:Nat} {Bs:Nat -> Prop} (hE:EAt u E Bs x.e.lo x.e.hi x.e.md x.e.st x.e.V x.e.V x.e.f0 x.e.f1) (hBF:∀ k,Bs k -> Fs k) (s:Int) (hs:s = 0 \/ s = 1) (rk rt rv:Int) (w:World) (hx:Ext u w) :
 Calls Tryz.prog 133 #[.pointer (some ⟨E,0,none⟩),.int .i64 s,.agg #[.int .i64 rk,.int .i64 rt,.int .i64 rv]] w fun e w'=>∃ vo,e = .returned (.tuple #[vo,errV (zdO x.e.lo x.e.hi s ⟨rk,rt,rv⟩ x.e.st)]) /\ CRow w' w.heap.size vo (zcR x.e.lo x.e.hi x.e.md s ⟨rk,rt,rv⟩ x.e.st) /\
  EUp w w' E Bs x.e.lo x.e.hi x.e.md (x.feed s ⟨rk,rt,rv⟩).e.st (x.feed s ⟨rk,rt,rv⟩).e.V (x.feed s ⟨rk,rt,rv⟩).e.V (x.feed s ⟨rk,rt,rv⟩).e.f0 (x.feed s ⟨rk,rt,rv⟩).e.f1:=by
 have hg:=h.ok.g;have hv:=hg.valid h.hn s ⟨rk,rt,rv⟩;have hp:=zgW h.ok.c;have hla:x.e.st.a.length <= 300:=by rw [hg.g.a];exact hg.g.la
 have hlb:x.e.st.b.length <= 300:=by rw [hg.g.b];exact hg.g.lb
 have hlV:x.e.V.length < 900000:=by
  have h1:=hg.ok.lV;have h2:=h.hn;have:n * n <= 600 * 600:=Nat.mul_le_mul (by omega) (by omega);omega
 have hL:=h.lib.l.of hx;have hz:¬ Bs 0:=fun e=>h.hz.e (hBF _ e);unfold LSt.feed;rcases hs with rfl | rfl
 . simp only [zdO,zcR,zgm,sfV,sf0,sf1,if_true,show ¬ (0:Int) = 1 by decide,if_false] at hv ⊢;exact zmf (hE.ext hx) hp hla hlb hL hz rk rt rv hv hlV
 . simp only [zdO,zcR,zgm,sfV,sf0,sf1,if_true,show ¬ (1:Int) = 0 by decide,if_false] at hv ⊢;exact zmp (hE.ext hx) hp hla hlb hL hz rk rt rv hv hlV
theorem ztQ {x:LSt} (ga:∀ g ∈ x.e.st.a,za0 g.r) (gb:∀ g ∈ x.e.st.b,za0 g.r) (la:x.e.st.a.length <= 300) (lb:x.e.st.b.length <= 300) (s:Int) (hs:s = 0 \/ s = 1) (r:Row):(∀ c ∈ zcR x.e.lo x.e.hi x.e.md s r x.e.st,zte c.1) /\ (zcR x.e.lo x.e.hi x.e.md s r x.e.st).length <= 601:=by
 have hA:∀ g ∈ x.e.st.a,g.r.ok:=fun g hg=>by
  obtain ⟨h1,h2,h3⟩:=(ga g hg).i64;refine ⟨?_,?_,?_⟩ <;> constructor <;> omega
 have hB:∀ g ∈ x.e.st.b,g.r.ok:=fun g hg=>by
  obtain ⟨h1,h2,h3⟩:=(gb g hg).i64;refine ⟨?_,?_,?_⟩ <;> constructor <;> omega
 unfold zcR;rcases hs with rfl | rfl
 . rw [if_pos rfl];exact ⟨fun c hc=>(zi8 hA hB c hc).o64,zgU _ _ _ _ _ _ la lb⟩
 . rw [if_neg (by decide),if_pos rfl];exact ⟨fun c hc=>(zi8 hA hB c hc).o64,zgU _ _ _ _ _ _ la lb⟩
theorem DOk.rows {x:LSt} {n:Nat} (h:DOk x n):(∀ g ∈ x.e.st.a,za0 g.r) /\ (∀ g ∈ x.e.st.b,za0 g.r):=by
 obtain ⟨L,R,h1,h2,h3,h4,h5⟩:=h.g.ok.inv;refine ⟨fun g hg=>?_,fun g hg=>?_⟩
 . obtain ⟨D,hp,-⟩:=h1.a.all;exact h4 _ (hp.mem_iff.2 (List.mem_append_left _ (List.mem_map.2 ⟨g,hg,rfl⟩)))
 . obtain ⟨D,hp,-⟩:=h1.b.all;exact h5 _ (hp.mem_iff.2 (List.mem_append_left _ (List.mem_map.2 ⟨g,hg,rfl⟩)))
theorem zt3 {x:LSt} {n:Nat} (h:DOk x n) (s:Int) (hs:s = 0 \/ s = 1) (r:Row):(∀ c ∈ zcR x.e.lo x.e.hi x.e.md s r x.e.st,zte c.1) /\ (zcR x.e.lo x.e.hi x.e.md s r x.e.st).length <= 601 :=
 ztQ h.rows.1 h.rows.2 (by rw [h.g.g.a];exact h.g.g.la) (by rw [h.g.g.b];exact h.g.g.lb) s hs r
theorem AnsV.cases {u u':World} {D:Nat} {Fs:Nat -> Prop} {x:LSt} {nm:List UInt8} {k:Nat} {ws:List ByteArray} {e:Ending} (h:AnsV u D Fs x nm k ws e u'):(∃ t,e = .returned (.string t)) \/ ∃ c,e = zsi c:=by
 unfold AnsV at h;split at h
 . exact .inr ⟨3,h.1⟩
 . have h1:=h.1;split at h1
   . exact .inl ⟨_,h1⟩
   . exact .inr ⟨_,h1⟩
theorem ztW (s:Int) (hs:s = 0 \/ s = 1) (nm:List UInt8) (u:World) (D:Nat) (Fs:Nat -> Prop) (x:LSt) (n:Nat) (a:Option Addr) (ws:List ByteArray) (cap:Nat) (hnm:∀ ns,doX x nm ns = ztd x s ⟨nAt ns 0,nAt ns 1,nAt ns 2⟩) (h:DkIn u D Fs x n a ws) :
 Calls Tryz.prog 91 #[.pointer (some ⟨D,0,none⟩),.int .i64 s,.slice a ws.length cap] u (AnsV u D Fs x nm 3 ws):=by
 rcases hq:argsO 3 (zsf ws) with - | ns
 . have hn0:=(h.nums cap 3 (by decide)).mono (R':=fun e w'=>e = zsi 3 /\ Ext u w') (fun e w' hh=>by unfold zsm at hh;rw [hq] at hh;exact ⟨hh.2,hh.1⟩);have hfin:=fun w' (hx:Ext u w')=>AnsV.bad (nm:=nm) hq h.d hx;clear h;go_enter Tryz.func91,Tryz.ntmps91;go_wp2_with (go_at_call 18;refine hn0.mono ?_;rintro e w1 ⟨rfl,hx1⟩);exact ⟨rfl,hfin _ hx1⟩
 have hn0:=(h.nums cap 3 (by decide)).mono (R':=fun e w'=>∃ g cp,e = .returned (.slice (some ⟨g,0,none⟩) 3 cp) /\ (u.heap.size <= g /\ g < w'.heap.size) /\ (∀ q,q < 3 -> w'.cell? ⟨g,q,none⟩ = some (.int .i64 (nAt ns q))) /\ Ext u w') (fun e w' hh=>by
  unfold zsm at hh;rw [hq] at hh;obtain ⟨h1,vo,h2,h3⟩:=hh;obtain ⟨g,cp,rfl,h4,h5⟩:=h3.atK (by rw [(zsl hq).1];decide);rw [(zsl hq).1] at h2 h5
  exact ⟨g,cp,h2,h4,h5,h1⟩)
 have hd:=hnm ns;obtain ⟨E,Bs,c0,hE,⟨hBF,hnD⟩,hup⟩:=h.d.eup;have hfd:=fun w hx=>ztZ h hE hBF s hs (nAt ns 0) (nAt ns 1) (nAt ns 2) w hx;have hlt:=hE.lt;obtain ⟨hcs,hcl⟩:=zt3 h.ok s hs ⟨nAt ns 0,nAt ns 1,nAt ns 2⟩;have hu2:=fun (w w':World) (hx:Ext u w) hu=>hup w w' (x.feed s ⟨nAt ns 0,nAt ns 1,nAt ns 2⟩) rfl rfl rfl hx hu;have hlib:∀ w',DkUp u w' D Fs (x.feed s ⟨nAt ns 0,nAt ns 1,nAt ns 2⟩) -> Lib4 w':=fun w' hu=>h.lib.keepM hu.1 h.hz;have hgood:=fun w' (h0:zdO x.e.lo x.e.hi s ⟨nAt ns 0,nAt ns 1,nAt ns 2⟩ x.e.st = 0) (hu:DkUp u w' D Fs (x.feed s ⟨nAt ns 0,nAt ns 1,nAt ns 2⟩))=>AnsV.good (nm:=nm) hq (show doX x nm ns = (0,fedT (zcR x.e.lo x.e.hi x.e.md s ⟨nAt ns 0,nAt ns 1,nAt ns 2⟩ x.e.st),x.feed s ⟨nAt ns 0,nAt ns 1,nAt ns 2⟩) by rw [hd];unfold ztd;rw [h0]) hu;have herr:=fun w' (h0:zdO x.e.lo x.e.hi s ⟨nAt ns 0,nAt ns 1,nAt ns 2⟩ x.e.st ≠ 0) (hu:DkUp u w' D Fs (x.feed s ⟨nAt ns 0,nAt ns 1,nAt ns 2⟩))=>AnsV.err (nm:=nm) hq (hd.trans rfl) h0 hu;clear h hE hup hd hnm;have hfd2:∀ w,Ext u w -> Calls Tryz.prog 133 #[.pointer (some ⟨E,0,none⟩),.int .i64 s,.agg #[.int .i64 (nAt ns 0),.int .i64 (nAt ns 1),.int .i64 (nAt ns 2)]] w fun e w'=>∃ vo,e = .returned (.tuple #[vo,errV (zdO x.e.lo x.e.hi s ⟨nAt ns 0,nAt ns 1,nAt ns 2⟩ x.e.st)]) /\ CRow w' w.heap.size vo (zcR x.e.lo x.e.hi x.e.md s ⟨nAt ns 0,nAt ns 1,nAt ns 2⟩ x.e.st) /\
  ExtM Bs w w' /\ DkUp u w' D Fs (x.feed s ⟨nAt ns 0,nAt ns 1,nAt ns 2⟩):=fun w hx=>(hfd w hx).mono fun e w' hh=>by
  obtain ⟨vo,h1,h2,h3⟩:=hh;exact ⟨vo,h1,h2,h3.1,hu2 w w' hx h3⟩
 clear hfd hu2 hs;generalize zdO x.e.lo x.e.hi s ⟨nAt ns 0,nAt ns 1,nAt ns 2⟩ x.e.st = c at *;generalize zcR x.e.lo x.e.hi x.e.md s ⟨nAt ns 0,nAt ns 1,nAt ns 2⟩ x.e.st = cs at *;generalize x.feed s ⟨nAt ns 0,nAt ns 1,nAt ns 2⟩ = y at *;have lD:=zac c0;by_cases hc:c = 0
 . subst hc;have hgd:=fun w'=>hgood w' rfl;rw [show errV 0 = .nilIface from rfl] at hfd2;clear hgood herr;go_enter Tryz.func91,Tryz.ntmps91;go_wp2_with (go_at_call 18;refine hn0.mono ?_;rintro e w1 ⟨g,cp,rfl,⟨hug,lg⟩,hns,hx1⟩;refine Hid.out ?_);refine Lib.hid ?_;have c1:=(hx1.cell (p:=⟨D,0,none⟩) lD id).trans c0;have lD1:=zac c1;have n0:=hns 0 (by decide);have n1:=hns 1 (by decide);have n2:=hns 2 (by decide);simp only at lD1;clear hns hn0 c0 lD;go_upto_region 2 with fail;have hng:¬ Bs g:=fun e=>by have:=hlt g e;omega
   refine Plan.b0 (Plan.ExtL D g) 21 ?_;refine Plan.qs 12 [0,1,2,3,4,5,6,7,8,9,10,11] ?_;iterate 12 go_big_quiet_step (fail)
   refine Plan.qs 3 [12,13,14] ?_;iterate 3 go_big_quiet_step (fail)
   refine Plan.o1 15 fun K hK=>?_;go_wp2_with (fail);refine (hfd2 _ (ExtM.trans _ _ _ hx1 (ExtM.refl _).drew)).mono ?_;rintro e w3 ⟨vo,rfl,hrow,h3,hu3⟩;have H3:=ExtL.trans _ _ _ (ExtL.refl _).drew (ExtL.of_M hnD hng h3);obtain ⟨hc3,hf3,-⟩:=ExtL.rules H3;have hs3_0:D < w3.heap.size:=by have:=H3.size;(try simp at this);omega
   have hs3_1:g < w3.heap.size:=by have:=H3.size;(try simp at this);omega
   go_wp2_with (fail);refine hK _ _ (ExtL.of_M hnD hng h3) ?_;clear hK K;refine Plan.qs 5 [16,17,18,19,20] ?_;iterate 5 go_big_quiet_step (fail)
   refine Plan.dn ?_;have HU:=Lib.hid hu3;clear hu3 hfd2 c1 n0 n1 n2 lD1 lg hug hx1 h3 H3;go_wp2_with (go_at_call 20;refine (zs8 _).mono ?_;rintro e w9 ⟨rfl,rfl⟩;refine Hid.out ?_);refine Lib.hid ?_;rw [zt9] at hgd;have hlb3:=hlib w3 HU.out;have ht3:=hlb3.t;clear hlib hlb3;obtain ⟨pvo,cvo,rfl,-⟩:=zaa hrow;go_wp2_with fail;have hx3:Ext w3 (w3.alloc (.cells #[.string ⟨#[102,101,100]⟩] 9)):=(ExtM.refl _).alloc _;have hS3:SR (w3.alloc (.cells #[.string ⟨#[102,101,100]⟩] 9)) w3.heap.size (.slice (some ⟨w3.heap.size,0,none⟩) 1 1) (strs [wFed]):=⟨rfl,.inr ⟨w3.heap.size,1,#[.string ⟨#[102,101,100]⟩],rfl,Nat.le_refl _,heap_alloc_new _ _,Nat.le_refl _,by unfold maxLen;decide,rfl,rfl⟩⟩
   generalize w3.alloc (.cells #[.string ⟨#[102,101,100]⟩] 9) = w4 at *;go_loopg [10,40] (cs.length + 1) (fun kx s10 s40 wr=>∃ j:Nat,s40 = .int .i64 j /\ j <= cs.length /\ cs.length - j <= kx /\ SR wr w3.heap.size s10 (strs (wFed :: (cs.take j).map sgnT)) /\ Ext w3 wr)
   case atStart=>exact ⟨0,rfl,by omega,by omega,hS3,hx3⟩
   case round =>
    obtain ⟨j,rfl,hj,hgk,hS,hx⟩:=hrel;by_cases hjl:j < cs.length
    . obtain ⟨g0,cp0,hvo,lg0,hcell⟩:=zcd (CRow.of hrow hx) j cs[j] (List.getElem?_eq_getElem hjl);simp only [Value.slice.injEq] at hvo;obtain ⟨rfl,-,rfl⟩:=hvo;have h64:=hcs _ (List.getElem_mem hjl);have HT:=Lib.hid (List.take_succ_eq_append_getElem hjl);have htr:=TabP.ext ht3 hx;have hlx:=ztc _ h64;generalize cs[j] = y0 at *;have e0:=hcell 0 _ rfl;have e1:=hcell 1 _ rfl;have e2:=hcell 2 _ rfl;have e3:=hcell 3 _ rfl;have e4:=hcell 4 _ rfl;have e5:=hcell 5 _ rfl;have e6:=hcell 6 _ rfl;have e7:=hcell 7 _ rfl;have e8:=hcell 8 _ rfl;have e9:=hcell 9 _ rfl;clear hcell;rw [Nat.add_zero] at e0;have hoc:=fun w hx=>zur y0.1 w h64 (TabP.ext htr hx);have hot:=zsF y0.1 h64;have hxb:Ext wr (wr.alloc (.cells #[.int .i64 y0.1.key,.int .i64 y0.1.l.k,.int .i64 y0.1.l.t,.int .i64 y0.1.l.v,.int .i64 y0.1.r.k,.int .i64 y0.1.r.t,.int .i64 y0.1.r.v,.bool y0.1.hl,.bool y0.1.hr,.bool y0.2] 96)):=(ExtM.refl _).alloc _;have hoc0:=hoc _ hxb;clear hoc;cases hsg:y0.2 with
      | false =>
        rw [hsg] at e9 hxb hoc0;have hT9:(⟨#[43]⟩:ByteArray) ++ ⟨(outT y0.1).toArray⟩ = ⟨(sgnT y0).toArray⟩:=by unfold sgnT;rw [hsg];simp only [ByteArray.mk_append_mk];simp
        clear hsg;generalize hT8:sgnT y0 = T9 at *;have HT9:Hid (T9 = sgnT y0):=Lib.hid hT8.symm;clear hT8;go_wp2_with (go_at_call 97;refine hoc0.mono ?_;rintro e w5 ⟨rfl,hx5⟩;refine Hid.out ?_);refine Lib.hid ?_;have hX5:Ext wr w5:=ExtM.trans _ _ _ hxb hx5;have hS5:=zag hS hX5 (fun _ _ h=>h);have hxu:Ext w3 w5:=ExtM.trans _ _ _ hx hX5;have hsz:w3.heap.size <= w5.heap.size:=hxu.size;obtain ⟨v',w',happ,hir',hxr,hloc⟩:=zh2 (w5.alloc (.cells #[.string ⟨T9.toArray⟩] 9)) w3.heap.size w5.heap.size 1 u10 (strs (wFed :: (cs.take j).map sgnT)) ⟨T9.toArray⟩ 30 (zag hS5 ((ExtM.refl _).alloc _:Ext w5 _) (fun _ _ h=>h))
         (by go_simp) (by unfold strs;rw [List.length_map,List.length_cons,List.length_map,List.length_take];omega) (by rw [World.size_alloc];omega)
        have hxf:Ext w3 w':=(ExtM.trans _ _ _ hxu ((ExtM.refl w5).alloc _):Ext w3 _).fresh' hxr (fun k hk e=>by have:=(zaf hS k e).1;omega);obtain ⟨pv,cv,hpv,-⟩:=zaa hS5;have hsl:(strs (wFed :: (cs.take j).map sgnT)).length = j + 1:=by unfold strs;rw [List.length_map,List.length_cons,List.length_map,List.length_take];omega
        rw [hsl] at hpv;have HN:=Lib.hid (⟨hir',hxf⟩:_ /\ _);subst hpv;clear hir' hxf hxr hloc hS5 hS hx hX5 hxu hsl e0 e1 e2 e3 e4 e5 e6 e7 e8 e9 hxb hoc0 hx5;go_wp2_with (at_builtin;refine wpList_append_run happ rfl rfl _ _ rfl rfl rfl ?_;clear happ);go_roundg (cs.length - (j + 1))
        case measure=>omega
        case rel =>
         obtain ⟨r1,r2⟩:=HN.out;refine ⟨j + 1,by go_num,by omega,Nat.le_refl _,?_,r2⟩;rw [HT.out,List.map_append,List.map_singleton,<- HT9.out];unfold strs at r1 ⊢;rw [<- List.cons_append,List.map_append];exact r1
      | true =>
        rw [hsg] at e9 hxb hoc0;have hT9:(⟨#[45]⟩:ByteArray) ++ ⟨(outT y0.1).toArray⟩ = ⟨(sgnT y0).toArray⟩:=by unfold sgnT;rw [hsg];simp only [ByteArray.mk_append_mk];simp
        clear hsg;generalize hT8:sgnT y0 = T9 at *;have HT9:Hid (T9 = sgnT y0):=Lib.hid hT8.symm;clear hT8;go_wp2_with (go_at_call 97;refine hoc0.mono ?_;rintro e w5 ⟨rfl,hx5⟩;refine Hid.out ?_);refine Lib.hid ?_;have hX5:Ext wr w5:=ExtM.trans _ _ _ hxb hx5;have hS5:=zag hS hX5 (fun _ _ h=>h);have hxu:Ext w3 w5:=ExtM.trans _ _ _ hx hX5;have hsz:w3.heap.size <= w5.heap.size:=hxu.size;obtain ⟨v',w',happ,hir',hxr,hloc⟩:=zh2 (w5.alloc (.cells #[.string ⟨T9.toArray⟩] 9)) w3.heap.size w5.heap.size 1 u10 (strs (wFed :: (cs.take j).map sgnT)) ⟨T9.toArray⟩ 30 (zag hS5 ((ExtM.refl _).alloc _:Ext w5 _) (fun _ _ h=>h))
         (by go_simp) (by unfold strs;rw [List.length_map,List.length_cons,List.length_map,List.length_take];omega) (by rw [World.size_alloc];omega)
        have hxf:Ext w3 w':=(ExtM.trans _ _ _ hxu ((ExtM.refl w5).alloc _):Ext w3 _).fresh' hxr (fun k hk e=>by have:=(zaf hS k e).1;omega);obtain ⟨pv,cv,hpv,-⟩:=zaa hS5;have hsl:(strs (wFed :: (cs.take j).map sgnT)).length = j + 1:=by unfold strs;rw [List.length_map,List.length_cons,List.length_map,List.length_take];omega
        rw [hsl] at hpv;have HN:=Lib.hid (⟨hir',hxf⟩:_ /\ _);subst hpv;clear hir' hxf hxr hloc hS5 hS hx hX5 hxu hsl e0 e1 e2 e3 e4 e5 e6 e7 e8 e9 hxb hoc0 hx5;go_wp2_with (at_builtin;refine wpList_append_run happ rfl rfl _ _ rfl rfl rfl ?_;clear happ);go_roundg (cs.length - (j + 1))
        case measure=>omega
        case rel =>
         obtain ⟨r1,r2⟩:=HN.out;refine ⟨j + 1,by go_num,by omega,Nat.le_refl _,?_,r2⟩;rw [HT.out,List.map_append,List.map_singleton,<- HT9.out];unfold strs at r1 ⊢;rw [<- List.cons_append,List.map_append];exact r1
    . obtain rfl:j = cs.length:=by omega
      have hz:decide (cs.length < cs.length) = false:=by simp
      have hz2:decide ((cs.length:Int) < cs.length) = false:=by simp
      rw [List.take_length] at hS
      have hjl:=zsu [44,32] 114 (wFed :: cs.map sgnT) (fun l hl=>by
       rcases List.mem_cons.1 hl with rfl | hl
       . decide
       . obtain ⟨y,hy,rfl⟩:=List.mem_map.1 hl
         exact ztc y (hcs y hy))
      rw [List.length_cons,List.length_map] at hjl
      obtain ⟨a5,c5,rfl,hJ⟩:=ztv (wFed :: cs.map sgnT) ⟨#[44,32]⟩ _ _ wr hS (by rw [List.length_cons,List.length_map];omega) (by
       show (Lib.join (wFed :: cs.map sgnT) [44,32]).length <= _;have e:([44,32]:List UInt8).length = 2:=rfl;rw [e] at hjl
       omega)
      rw [List.length_cons,List.length_map] at hJ ⊢;have hJ:Calls Tryz.prog 39 #[.slice a5 (cs.length + 1) c5,.string ⟨#[44,32]⟩] wr fun e w'=>e = .returned (.string ⟨(Lib.join (wFed :: cs.map sgnT) [44,32]).toArray⟩) /\ Ext wr w':=hJ;clear hS hcs hjl ht3 hrow;generalize Lib.join (wFed :: cs.map sgnT) [44,32] = T at *;go_wp2_with (go_at_call 39;refine hJ.mono ?_;rintro e w5 ⟨rfl,hx5⟩);go_ret;exact hgd _ (HU.out.after (ExtM.trans _ _ _ hx hx5))
 . have hgd:=fun w'=>herr w' hc;rw [show errV c = .iface 47 (.int .i64 c) from if_neg hc] at hfd2;clear hgood herr;go_enter Tryz.func91,Tryz.ntmps91;go_wp2_with (go_at_call 18;refine hn0.mono ?_;rintro e w1 ⟨g,cp,rfl,⟨hug,lg⟩,hns,hx1⟩;refine Hid.out ?_);refine Lib.hid ?_;have c1:=(hx1.cell (p:=⟨D,0,none⟩) lD id).trans c0;have lD1:=zac c1;have n0:=hns 0 (by decide);have n1:=hns 1 (by decide);have n2:=hns 2 (by decide);simp only at lD1;clear hns hn0 c0 lD;go_upto_region 2 with fail;have hng:¬ Bs g:=fun e=>by have:=hlt g e;omega
   refine Plan.b0 (Plan.ExtL D g) 21 ?_;refine Plan.qs 12 [0,1,2,3,4,5,6,7,8,9,10,11] ?_;iterate 12 go_big_quiet_step (fail)
   refine Plan.qs 3 [12,13,14] ?_;iterate 3 go_big_quiet_step (fail)
   refine Plan.o1 15 fun K hK=>?_;go_wp2_with (fail);refine (hfd2 _ (ExtM.trans _ _ _ hx1 (ExtM.refl _).drew)).mono ?_;rintro e w3 ⟨vo,rfl,hrow,h3,hu3⟩;have H3:=ExtL.trans _ _ _ (ExtL.refl _).drew (ExtL.of_M hnD hng h3);obtain ⟨hc3,hf3,-⟩:=ExtL.rules H3;have hs3_0:D < w3.heap.size:=by have:=H3.size;(try simp at this);omega
   have hs3_1:g < w3.heap.size:=by have:=H3.size;(try simp at this);omega
   go_wp2_with (fail);refine hK _ _ (ExtL.of_M hnD hng h3) ?_;clear hK K;refine Plan.qs 5 [16,17,18,19,20] ?_;iterate 5 go_big_quiet_step (fail)
   refine Plan.dn ?_;have HU:=Lib.hid hu3;clear hu3 hfd2 c1 n0 n1 n2 lD1 lg hug hx1 h3 H3;have hL3:=(hlib w3 HU.out).l;clear hrow hlib;go_wp2_with (go_at_call 20;refine (zs2 c _ hL3).mono ?_;rintro e w9 ⟨rfl,hx9⟩);exact ⟨rfl,hgd _ (HU.out.after hx9)⟩
end Go.Proofs.YtiknejbcehpmoaaGreatDoor
