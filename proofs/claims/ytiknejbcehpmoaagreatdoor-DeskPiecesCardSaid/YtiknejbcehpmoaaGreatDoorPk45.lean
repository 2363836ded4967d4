import Derived.Test.YtiknejbcehpmoaaGreatDoorPk44
set_option maxRecDepth 100000
set_option maxHeartbeats 8000000
namespace Go.Proofs.YtiknejbcehpmoaaGreatDoor
open Go.RowKit Go.Plan
theorem zsz {b:List UInt8} (h:b ≠ zc2 /\ b ≠ zsr /\ b ≠ zsn /\ b ≠ zsw) (x:LSt):doX x b [] =
 (if b = zbW then (0,wordsB [x.e.st.x,x.e.st.y],x) else if b = zsC then (0,wordsB [(x.e.st.a.length:Nat),(x.e.st.b.length:Nat)],x)
 else if b = wFed then (0,wordsB [x.e.f0,x.e.f1],x) else if b = zsG then (0,wordsB [x.e.st.late],x) else if b = zsH then (0,ztU x.e.V,x) else if b = zso then (0,ztK x.l,x)
 else if b = zsx then (if 60000 < (savedT x.e).length then (4,[],x) else (0,wordsB [((savedT x.e).length:Nat)],x))
 else if b = zsh then (if 60000 < (savedT x.e).length then (4,[],x) else (0,zsh,x.again)) else (0,zuu,x)):=by
 unfold doX;rw [if_neg h.1,if_neg h.2.1,if_neg h.2.2.1,if_neg h.2.2.2]
theorem DOk.i64 {x:LSt} {n:Nat} (h:DOk x n) (hn:n < 600):((-9223372036854775808 <= x.e.f0 /\ x.e.f0 <= 9223372036854775807) /\ -9223372036854775808 <= x.e.f1 /\ x.e.f1 <= 9223372036854775807) /\
 ((-9223372036854775808 <= x.e.st.x /\ x.e.st.x <= 9223372036854775807) /\ -9223372036854775808 <= x.e.st.y /\ x.e.st.y <= 9223372036854775807) /\ ((-9223372036854775808 <= ((x.e.st.a.length:Nat):Int) /\ ((x.e.st.a.length:Nat):Int) <= 9223372036854775807) /\ -9223372036854775808 <= ((x.e.st.b.length:Nat):Int) /\ ((x.e.st.b.length:Nat):Int) <= 9223372036854775807) /\
 -9223372036854775808 <= x.e.st.late /\ x.e.st.late <= 9223372036854775807:=by
 have h0:=h.g.ok.f0;have h1:=h.g.ok.f1;have h2:=h.g.ok.mx;have h3:=h.g.ok.my;have h4:=h.g.ok.la;have h5:=h.g.ok.lb;have h6:=h.g.ok.late;omega
theorem zuC (u:World) (D:Nat) (Fs:Nat -> Prop) (x:LSt) (n:Nat) (a:Option Addr) (ws:List ByteArray) (cap:Nat) (h:DkIn u D Fs x n a ws) :
 Calls Tryz.prog 51 #[.pointer (some ⟨D,0,none⟩),.slice a ws.length cap] u (AnsV u D Fs x wFed 0 ws):=by
 rcases hq:argsO 0 (zsf ws) with - | n
 . have hn0:=(h.nums cap 0 (by decide)).mono (R':=fun e w'=>e = zsi 3 /\ Ext u w') (fun e w' hh=>by unfold zsm at hh;rw [hq] at hh;exact ⟨hh.2,hh.1⟩);have hfin:=fun w' (hx:Ext u w')=>AnsV.bad (nm:=wFed) hq h.d hx;clear h;go_enter Tryz.func51,Tryz.ntmps51;go_wp2_with (go_at_call 18;refine hn0.mono ?_;rintro e w1 ⟨rfl,hx1⟩);exact ⟨rfl,hfin _ hx1⟩
 obtain rfl:=zsj hq
 have hn0:=(h.nums cap 0 (by decide)).mono (R':=fun e w'=>∃ vo,e = .returned vo /\ Ext u w') (fun e w' hh=>by
  unfold zsm at hh;rw [hq] at hh;obtain ⟨h1,vo,h2,h3⟩:=hh
  exact ⟨vo,h2,h1⟩)
 have hfin:=fun w' (hx:Ext u w')=>AnsV.good (nm:=wFed) hq ((zsz (by decide) x).trans rfl) (DkUp.same h.d hx);have h64:(-9223372036854775808 <= x.e.f0 /\ x.e.f0 <= 9223372036854775807) /\ -9223372036854775808 <= x.e.f1 /\ x.e.f1 <= 9223372036854775807:=(h.ok.i64 h.hn).1;obtain ⟨E,Bs,c0,hE,-⟩:=h.d.eup;have ht:=h.lib.t;have hf0:∀ w,Ext u w -> Calls Tryz.prog 87 #[.pointer (some ⟨E,0,none⟩),.int .i64 0] w fun e w'=>e = .returned (.int .i64 x.e.f0) /\ Ext w w':=fun w hx=>zoZ (hE.ext hx);have hf1:∀ w,Ext u w -> Calls Tryz.prog 87 #[.pointer (some ⟨E,0,none⟩),.int .i64 1] w fun e w'=>e = .returned (.int .i64 x.e.f1) /\ Ext w w':=fun w hx=>zoy (hE.ext hx);clear h hE;generalize x.e.f0 = p0 at *;generalize x.e.f1 = p1 at *;have hjn:∀ w,Ext u w -> Calls Tryz.prog 86 #[.slice (some ⟨w.heap.size,0,none⟩) 2 2] (w.alloc (.cells #[.int .i64 p0,.int .i64 p1] 3)) fun e w'=>e = .returned (.string ⟨(wordsB [p0,p1]).toArray⟩) /\ Ext (w.alloc (.cells #[.int .i64 p0,.int .i64 p1] 3)) w':=fun w hx=>zsP p0 p1 w (TabP.ext ht hx) h64.1 h64.2;clear h64;generalize wordsB [p0,p1] = W9 at *;have lD:=zac c0;go_enter Tryz.func51,Tryz.ntmps51;go_wp2_with (go_at_call 18;refine hn0.mono ?_;rintro e w1 ⟨vo,rfl,hx1⟩;refine Hid.out ?_);refine Lib.hid ?_;have c1:=(hx1.cell (p:=⟨D,0,none⟩) lD id).trans c0;have lD1:=zac c1;clear hn0 c0 lD;go_upto_region 2 with fail;refine Plan.b0 Plan.Ext 13 ?_;refine Plan.qs 8 [0,1,2,3,5,6,7,8] ?_;iterate 8 go_big_quiet_step (fail)
 refine Plan.o1 4 fun K hK=>?_;go_wp2_with (fail);refine (hf0 _ (ExtM.trans _ _ _ hx1 (ExtM.refl _).drew)).mono ?_;rintro e w2 ⟨rfl,h2⟩;have H2:=ExtM.trans _ _ _ (ExtM.refl _).drew h2;go_wp2_with (fail);refine hK _ _ h2 ?_;clear hK K;refine Plan.o1 9 fun K hK=>?_;go_wp2_with (fail);refine (hf1 _ (ExtM.trans _ _ _ hx1 H2)).mono ?_;rintro e w3 ⟨rfl,h3⟩;have H3:=ExtM.trans _ _ _ H2 h3;go_wp2_with (fail);refine hK _ _ h3 ?_;clear hK K;refine Plan.o1 10 fun K hK=>?_;go_wp2_with (fail);refine hK _ _ ((ExtM.refl _).alloc _) ?_;clear hK K;refine Plan.o1 11 fun K hK=>?_;go_wp2_with (fail);refine (hjn _ (ExtM.trans _ _ _ hx1 H3)).mono ?_;rintro e w4 ⟨rfl,h4⟩;have H4:=ExtM.trans _ _ _ (H3.alloc _) h4;obtain ⟨hc4,hf4,-⟩:=Ext.rules H4;have hs4_0:D < w4.heap.size:=by have:=H4.size;(try simp at this);omega
 go_wp2_with (fail);refine hK _ _ h4 ?_;clear hK K;refine Plan.qs 1 [12] ?_;go_big_quiet_step (fail);refine Plan.dn ?_;go_wp2_with fail;go_ret;exact hfin _ (ExtM.trans _ _ _ hx1 H4)
theorem zui (u:World) (D:Nat) (Fs:Nat -> Prop) (x:LSt) (n:Nat) (a:Option Addr) (ws:List ByteArray) (cap:Nat) (h:DkIn u D Fs x n a ws) :
 Calls Tryz.prog 58 #[.pointer (some ⟨D,0,none⟩),.slice a ws.length cap] u (AnsV u D Fs x zbW 0 ws):=by
 rcases hq:argsO 0 (zsf ws) with - | n
 . have hn0:=(h.nums cap 0 (by decide)).mono (R':=fun e w'=>e = zsi 3 /\ Ext u w') (fun e w' hh=>by unfold zsm at hh;rw [hq] at hh;exact ⟨hh.2,hh.1⟩);have hfin:=fun w' (hx:Ext u w')=>AnsV.bad (nm:=zbW) hq h.d hx;clear h;go_enter Tryz.func58,Tryz.ntmps58;go_wp2_with (go_at_call 18;refine hn0.mono ?_;rintro e w1 ⟨rfl,hx1⟩);exact ⟨rfl,hfin _ hx1⟩
 obtain rfl:=zsj hq
 have hn0:=(h.nums cap 0 (by decide)).mono (R':=fun e w'=>∃ vo,e = .returned vo /\ Ext u w') (fun e w' hh=>by
  unfold zsm at hh;rw [hq] at hh;obtain ⟨h1,vo,h2,h3⟩:=hh
  exact ⟨vo,h2,h1⟩)
 have hfin:=fun w' (hx:Ext u w')=>AnsV.good (nm:=zbW) hq ((zsz (by decide) x).trans rfl) (DkUp.same h.d hx);have h64:(-9223372036854775808 <= x.e.st.x /\ x.e.st.x <= 9223372036854775807) /\ -9223372036854775808 <= x.e.st.y /\ x.e.st.y <= 9223372036854775807:=(h.ok.i64 h.hn).2.1;obtain ⟨E,Bs,c0,hE,-⟩:=h.d.eup;have ht:=h.lib.t;have hf0:∀ w,Ext u w -> Calls Tryz.prog 93 #[.pointer (some ⟨E,0,none⟩),.int .i64 0] w fun e w'=>e = .returned (.int .i64 x.e.st.x) /\ Ext w w':=fun w hx=>znt 0 (hE.ext hx) _ rfl;have hf1:∀ w,Ext u w -> Calls Tryz.prog 93 #[.pointer (some ⟨E,0,none⟩),.int .i64 1] w fun e w'=>e = .returned (.int .i64 x.e.st.y) /\ Ext w w':=fun w hx=>znt 1 (hE.ext hx) _ rfl;clear h hE;generalize x.e.st.x = p0 at *;generalize x.e.st.y = p1 at *;have hjn:∀ w,Ext u w -> Calls Tryz.prog 86 #[.slice (some ⟨w.heap.size,0,none⟩) 2 2] (w.alloc (.cells #[.int .i64 p0,.int .i64 p1] 3)) fun e w'=>e = .returned (.string ⟨(wordsB [p0,p1]).toArray⟩) /\ Ext (w.alloc (.cells #[.int .i64 p0,.int .i64 p1] 3)) w':=fun w hx=>zsP p0 p1 w (TabP.ext ht hx) h64.1 h64.2;clear h64;generalize wordsB [p0,p1] = W9 at *;have lD:=zac c0;go_enter Tryz.func58,Tryz.ntmps58;go_wp2_with (go_at_call 18;refine hn0.mono ?_;rintro e w1 ⟨vo,rfl,hx1⟩;refine Hid.out ?_);refine Lib.hid ?_;have c1:=(hx1.cell (p:=⟨D,0,none⟩) lD id).trans c0;have lD1:=zac c1;clear hn0 c0 lD;go_upto_region 2 with fail;refine Plan.b0 Plan.Ext 13 ?_;refine Plan.qs 8 [0,1,2,3,5,6,7,8] ?_;iterate 8 go_big_quiet_step (fail)
 refine Plan.o1 4 fun K hK=>?_;go_wp2_with (fail);refine (hf0 _ (ExtM.trans _ _ _ hx1 (ExtM.refl _).drew)).mono ?_;rintro e w2 ⟨rfl,h2⟩;have H2:=ExtM.trans _ _ _ (ExtM.refl _).drew h2;go_wp2_with (fail);refine hK _ _ h2 ?_;clear hK K;refine Plan.o1 9 fun K hK=>?_;go_wp2_with (fail);refine (hf1 _ (ExtM.trans _ _ _ hx1 H2)).mono ?_;rintro e w3 ⟨rfl,h3⟩;have H3:=ExtM.trans _ _ _ H2 h3;go_wp2_with (fail);refine hK _ _ h3 ?_;clear hK K;refine Plan.o1 10 fun K hK=>?_;go_wp2_with (fail);refine hK _ _ ((ExtM.refl _).alloc _) ?_;clear hK K;refine Plan.o1 11 fun K hK=>?_;go_wp2_with (fail);refine (hjn _ (ExtM.trans _ _ _ hx1 H3)).mono ?_;rintro e w4 ⟨rfl,h4⟩;have H4:=ExtM.trans _ _ _ (H3.alloc _) h4;obtain ⟨hc4,hf4,-⟩:=Ext.rules H4;have hs4_0:D < w4.heap.size:=by have:=H4.size;(try simp at this);omega
 go_wp2_with (fail);refine hK _ _ h4 ?_;clear hK K;refine Plan.qs 1 [12] ?_;go_big_quiet_step (fail);refine Plan.dn ?_;go_wp2_with fail;go_ret;exact hfin _ (ExtM.trans _ _ _ hx1 H4)
theorem zuz (u:World) (D:Nat) (Fs:Nat -> Prop) (x:LSt) (n:Nat) (a:Option Addr) (ws:List ByteArray) (cap:Nat) (h:DkIn u D Fs x n a ws) :
 Calls Tryz.prog 53 #[.pointer (some ⟨D,0,none⟩),.slice a ws.length cap] u (AnsV u D Fs x zsC 0 ws):=by
 rcases hq:argsO 0 (zsf ws) with - | n
 . have hn0:=(h.nums cap 0 (by decide)).mono (R':=fun e w'=>e = zsi 3 /\ Ext u w') (fun e w' hh=>by unfold zsm at hh;rw [hq] at hh;exact ⟨hh.2,hh.1⟩);have hfin:=fun w' (hx:Ext u w')=>AnsV.bad (nm:=zsC) hq h.d hx;clear h;go_enter Tryz.func53,Tryz.ntmps53;go_wp2_with (go_at_call 18;refine hn0.mono ?_;rintro e w1 ⟨rfl,hx1⟩);exact ⟨rfl,hfin _ hx1⟩
 obtain rfl:=zsj hq
 have hn0:=(h.nums cap 0 (by decide)).mono (R':=fun e w'=>∃ vo,e = .returned vo /\ Ext u w') (fun e w' hh=>by
  unfold zsm at hh;rw [hq] at hh;obtain ⟨h1,vo,h2,h3⟩:=hh
  exact ⟨vo,h2,h1⟩)
 have hfin:=fun w' (hx:Ext u w')=>AnsV.good (nm:=zsC) hq ((zsz (by decide) x).trans rfl) (DkUp.same h.d hx);have h64:(-9223372036854775808 <= ((x.e.st.a.length:Nat):Int) /\ ((x.e.st.a.length:Nat):Int) <= 9223372036854775807) /\ -9223372036854775808 <= ((x.e.st.b.length:Nat):Int) /\ ((x.e.st.b.length:Nat):Int) <= 9223372036854775807:=(h.ok.i64 h.hn).2.2.1;obtain ⟨E,Bs,c0,hE,-⟩:=h.d.eup;have ht:=h.lib.t;have hf0:∀ w,Ext u w -> Calls Tryz.prog 89 #[.pointer (some ⟨E,0,none⟩),.int .i64 0] w fun e w'=>e = .returned (.int .i64 ((x.e.st.a.length:Nat):Int)) /\ Ext w w':=fun w hx=>zni 0 (by decide) (hE.ext hx) _ rfl;have hf1:∀ w,Ext u w -> Calls Tryz.prog 89 #[.pointer (some ⟨E,0,none⟩),.int .i64 1] w fun e w'=>e = .returned (.int .i64 ((x.e.st.b.length:Nat):Int)) /\ Ext w w':=fun w hx=>zni 1 (by decide) (hE.ext hx) _ rfl;clear h hE;generalize ((x.e.st.a.length:Nat):Int) = p0 at *;generalize ((x.e.st.b.length:Nat):Int) = p1 at *;have hjn:∀ w,Ext u w -> Calls Tryz.prog 86 #[.slice (some ⟨w.heap.size,0,none⟩) 2 2] (w.alloc (.cells #[.int .i64 p0,.int .i64 p1] 3)) fun e w'=>e = .returned (.string ⟨(wordsB [p0,p1]).toArray⟩) /\ Ext (w.alloc (.cells #[.int .i64 p0,.int .i64 p1] 3)) w':=fun w hx=>zsP p0 p1 w (TabP.ext ht hx) h64.1 h64.2;clear h64;generalize wordsB [p0,p1] = W9 at *;have lD:=zac c0;go_enter Tryz.func53,Tryz.ntmps53;go_wp2_with (go_at_call 18;refine hn0.mono ?_;rintro e w1 ⟨vo,rfl,hx1⟩;refine Hid.out ?_);refine Lib.hid ?_;have c1:=(hx1.cell (p:=⟨D,0,none⟩) lD id).trans c0;have lD1:=zac c1;clear hn0 c0 lD;go_upto_region 2 with fail;refine Plan.b0 Plan.Ext 13 ?_;refine Plan.qs 8 [0,1,2,3,5,6,7,8] ?_;iterate 8 go_big_quiet_step (fail)
 refine Plan.o1 4 fun K hK=>?_;go_wp2_with (fail);refine (hf0 _ (ExtM.trans _ _ _ hx1 (ExtM.refl _).drew)).mono ?_;rintro e w2 ⟨rfl,h2⟩;have H2:=ExtM.trans _ _ _ (ExtM.refl _).drew h2;go_wp2_with (fail);refine hK _ _ h2 ?_;clear hK K;refine Plan.o1 9 fun K hK=>?_;go_wp2_with (fail);refine (hf1 _ (ExtM.trans _ _ _ hx1 H2)).mono ?_;rintro e w3 ⟨rfl,h3⟩;have H3:=ExtM.trans _ _ _ H2 h3;go_wp2_with (fail);refine hK _ _ h3 ?_;clear hK K;refine Plan.o1 10 fun K hK=>?_;go_wp2_with (fail);refine hK _ _ ((ExtM.refl _).alloc _) ?_;clear hK K;refine Plan.o1 11 fun K hK=>?_;go_wp2_with (fail);refine (hjn _ (ExtM.trans _ _ _ hx1 H3)).mono ?_;rintro e w4 ⟨rfl,h4⟩;have H4:=ExtM.trans _ _ _ (H3.alloc _) h4;obtain ⟨hc4,hf4,-⟩:=Ext.rules H4;have hs4_0:D < w4.heap.size:=by have:=H4.size;(try simp at this);omega
 go_wp2_with (fail);refine hK _ _ h4 ?_;clear hK K;refine Plan.qs 1 [12] ?_;go_big_quiet_step (fail);refine Plan.dn ?_;go_wp2_with fail;go_ret;exact hfin _ (ExtM.trans _ _ _ hx1 H4)
theorem zux (u:World) (D:Nat) (Fs:Nat -> Prop) (x:LSt) (n:Nat) (a:Option Addr) (ws:List ByteArray) (cap:Nat) (h:DkIn u D Fs x n a ws) :
 Calls Tryz.prog 55 #[.pointer (some ⟨D,0,none⟩),.slice a ws.length cap] u (AnsV u D Fs x zsG 0 ws):=by
 rcases hq:argsO 0 (zsf ws) with - | n
 . have hn0:=(h.nums cap 0 (by decide)).mono (R':=fun e w'=>e = zsi 3 /\ Ext u w') (fun e w' hh=>by unfold zsm at hh;rw [hq] at hh;exact ⟨hh.2,hh.1⟩);have hfin:=fun w' (hx:Ext u w')=>AnsV.bad (nm:=zsG) hq h.d hx;clear h;go_enter Tryz.func55,Tryz.ntmps55;go_wp2_with (go_at_call 18;refine hn0.mono ?_;rintro e w1 ⟨rfl,hx1⟩);exact ⟨rfl,hfin _ hx1⟩
 obtain rfl:=zsj hq
 have hn0:=(h.nums cap 0 (by decide)).mono (R':=fun e w'=>∃ vo,e = .returned vo /\ Ext u w') (fun e w' hh=>by
  unfold zsm at hh;rw [hq] at hh;obtain ⟨h1,vo,h2,h3⟩:=hh
  exact ⟨vo,h2,h1⟩)
 have hfin:=fun w' (hx:Ext u w')=>AnsV.good (nm:=zsG) hq ((zsz (by decide) x).trans rfl) (DkUp.same h.d hx);have h64:=(h.ok.i64 h.hn).2.2.2;obtain ⟨E,Bs,c0,hE,-⟩:=h.d.eup;have ht:=h.lib.t;have hf0:∀ w,Ext u w -> Calls Tryz.prog 90 #[.pointer (some ⟨E,0,none⟩)] w fun e w'=>e = .returned (.int .i64 x.e.st.late) /\ Ext w w':=fun w hx=>zow (hE.ext hx);have hwb:wordsB [x.e.st.late] = Lib.itoa x.e.st.late:=by rw [zhn];simp
 rw [hwb] at hfin;clear h hE hwb;generalize x.e.st.late = p0 at *;have hit:∀ w,Ext u w -> Calls Tryz.prog 25 #[.int .i64 p0] w fun e w'=>e = .returned (.string ⟨(Lib.itoa p0).toArray⟩) /\ Ext w w':=fun w hx=>zno p0 w h64.1 h64.2 (TabP.ext ht hx);clear h64;have lD:=zac c0;go_enter Tryz.func55,Tryz.ntmps55;go_wp2_with (go_at_call 18;refine hn0.mono ?_;rintro e w1 ⟨vo,rfl,hx1⟩;refine Hid.out ?_);refine Lib.hid ?_;have c1:=(hx1.cell (p:=⟨D,0,none⟩) lD id).trans c0;have lD1:=zac c1;clear hn0 c0 lD
 go_wp2_with (first
  | (go_at_call 90;refine (hf0 _ hx1).mono ?_;rintro e w2 ⟨rfl,hx2⟩)
  | (go_at_call 25;refine (hit _ (ExtM.trans _ _ _ hx1 hx2)).mono ?_;rintro e w3 ⟨rfl,hx3⟩))
 go_ret;exact hfin _ (ExtM.trans _ _ _ hx1 (ExtM.trans _ _ _ hx2 hx3))
theorem zt0 (sep:List UInt8) (m:Nat):∀ r:List (List UInt8),(∀ x ∈ r,x.length <= m) -> (Lib.joinTail sep r).length <= r.length * (sep.length + m)
 | [],_=>Nat.zero_le _
 | x :: r,h=>by
   have ih:=zt0 sep m r (fun y hy=>h y (List.mem_cons_of_mem _ hy));have h0:=h x List.mem_cons_self;have e:Lib.joinTail sep (x :: r) = (sep ++ x) ++ Lib.joinTail sep r:=by simp [Lib.joinTail]
   rw [e,List.length_append,List.length_append,List.length_cons,Nat.succ_mul];omega
theorem zsu (sep:List UInt8) (m:Nat) (r:List (List UInt8)) (h:∀ x ∈ r,x.length <= m):(Lib.join r sep).length <= r.length * (sep.length + m):=by
 cases r with
 | nil=>exact Nat.zero_le _
 | cons x r =>
   have h0:=h x List.mem_cons_self;have h1:=zt0 sep m r (fun y hy=>h y (List.mem_cons_of_mem _ hy));rw [Lib.join_cons,List.length_append,List.length_cons,Nat.succ_mul];omega
def strs (ls:List (List UInt8)):List ByteArray:=ls.map fun l=>⟨l.toArray⟩
theorem ztF (ls:List (List UInt8)):zsf (strs ls) = ls:=by
 unfold zsf strs;rw [List.map_map];exact (List.map_congr_left fun _ _=>rfl).trans (List.map_id' ls)
theorem ztv (ls:List (List UInt8)) (sep:ByteArray) (b:Nat) (v:Value) (w:World) (h:SR w b v (strs ls)) (hl:ls.length <= 100000000) (hj:(Lib.join ls sep.data.toList).length <= 140737488355328) :
 ∃ a cap,v = .slice a ls.length cap /\ Calls Tryz.prog 39 #[.slice a ls.length cap,.string sep] w fun e w'=>e = .returned (.string ⟨(Lib.join ls sep.data.toList).toArray⟩) /\ Ext w w':=by
 obtain ⟨a,cap,rfl,hcap,hcs⟩:=h.cells;have e1:(strs ls).length = ls.length:=by unfold strs;rw [List.length_map]
 have e2:(strs ls).map (fun x:ByteArray=>x.data.toList) = ls:=ztF ls;refine ⟨a,cap,by rw [e1],?_⟩;rcases hcs with h0 | ⟨g,rfl,hg,hc⟩
 . have hn0:ls = []:=by unfold strs at h0;exact List.map_eq_nil_iff.1 h0
   subst hn0;refine (Any.strings_Join_none Tryz.shJoin zo5 a cap sep w).mono ?_;rintro e w' ⟨rfl,rfl⟩;exact ⟨rfl,ExtM.refl _⟩
 . have hq:=Any.strings_Join Tryz.shJoin zo5 g 0 cap (strs ls) sep w hc hg (by rw [e1];omega) hcap (by rw [e2];exact hj);rw [e1,e2] at hq;refine hq.mono ?_;rintro e w' ⟨rfl,hx'⟩;exact ⟨rfl,zdf hx'⟩
theorem zhl.o64 {x:Out} (h:zhl x):zte x:=by
 obtain ⟨-,h1,⟨h2,h3,h4⟩,h5,h6,h7⟩:=zir h;exact ⟨h1,h3,h4,h6,h7⟩
theorem zus (u:World) (D:Nat) (Fs:Nat -> Prop) (x:LSt) (n:Nat) (a:Option Addr) (ws:List ByteArray) (cap:Nat) (h:DkIn u D Fs x n a ws) :
 Calls Tryz.prog 62 #[.pointer (some ⟨D,0,none⟩),.slice a ws.length cap] u (AnsV u D Fs x zsH 0 ws):=by
 rcases hq:argsO 0 (zsf ws) with - | n
 . have hn0:=(h.nums cap 0 (by decide)).mono (R':=fun e w'=>e = zsi 3 /\ Ext u w') (fun e w' hh=>by unfold zsm at hh;rw [hq] at hh;exact ⟨hh.2,hh.1⟩);have hfin:=fun w' (hx:Ext u w')=>AnsV.bad (nm:=zsH) hq h.d hx;clear h;go_enter Tryz.func62,Tryz.ntmps62;go_wp2_with (go_at_call 18;refine hn0.mono ?_;rintro e w1 ⟨rfl,hx1⟩);exact ⟨rfl,hfin _ hx1⟩
 obtain rfl:=zsj hq
 have hn0:=(h.nums cap 0 (by decide)).mono (R':=fun e w'=>∃ vo,e = .returned vo /\ Ext u w') (fun e w' hh=>by
  unfold zsm at hh;rw [hq] at hh;obtain ⟨h1,vo,h2,h3⟩:=hh
  exact ⟨vo,h2,h1⟩)
 have hfin:=fun w' (hx:Ext u w')=>AnsV.good (nm:=zsH) hq ((zsz (by decide) x).trans rfl) (DkUp.same h.d hx);obtain ⟨E,Bs,c0,hE,-⟩:=h.d.eup;have ht:=h.lib.t;have hlV:=h.ok.g.ok.lV9 h.hn;have hO:∀ y ∈ sortO x.e.V,zte y:=fun y hy=>(h.ok.g.ok.outs y ((zbf _).mem_iff.1 hy)).o64;have hlen:(sortO x.e.V).length <= 900000:=by rw [zaA];exact hlV
 have hvw:∀ w,Ext u w -> Calls Tryz.prog 96 #[.pointer (some ⟨E,0,none⟩)] w fun e w'=>∃ p cap,e = .returned (.slice p (sortO x.e.V).length cap) /\ Ext w w' /\ zbq w' p (sortO x.e.V):=fun w hx =>
  (zoO (hE.ext hx) (by omega)).mono fun e w' hv=>hv.out
 have hvt:ztU x.e.V = Lib.join ((sortO x.e.V).map outT) [44,32]:=rfl;rw [hvt] at hfin;clear h hE hlV hvt;generalize sortO x.e.V = os at *;have lD:=zac c0;go_enter Tryz.func62,Tryz.ntmps62
 go_wp2_with (first
  | (go_at_call 18;refine hn0.mono ?_;rintro e w1 ⟨vo,rfl,hx1⟩;have c1:=(hx1.cell (p:=⟨D,0,none⟩) lD id).trans c0;have lD1:=zac c1)
  | (go_at_call 96;refine (hvw _ hx1).mono ?_;rintro e w2 ⟨p,cp,rfl,hx2,hov⟩;refine Hid.out ?_))
 refine Lib.hid ?_;have hX2:Ext u w2:=ExtM.trans _ _ _ hx1 hx2;clear hn0 hvw c0 c1 lD lD1 hx1 hx2;go_wp2_with fail;go_loopg [5,16] (os.length + 1) (fun kx s5 s16 wr=>∃ j:Nat,s16 = .int .i64 j /\ j <= os.length /\ os.length - j <= kx /\ SR wr w2.heap.size s5 (strs ((os.take j).map outT)) /\ Ext w2 wr)
 case atStart=>exact ⟨0,rfl,by omega,by omega,⟨rfl,.inl ⟨rfl,rfl⟩⟩,ExtM.refl _⟩
 case round =>
  obtain ⟨j,rfl,hj,hgk,hS,hx⟩:=hrel;by_cases hjl:j < os.length
  . rcases hov with ho | ⟨b,rfl,ho⟩
    . subst ho;simp at hjl
    have el:=(ho j hjl).of hx;have lb:=el.lt;have h64:=hO _ (List.getElem_mem hjl);have HT:=Lib.hid (List.take_succ_eq_append_getElem hjl);have htr:=TabP.ext ht (ExtM.trans _ _ _ hX2 hx);have hlx:=zsF _ h64;generalize os[j] = y at *;obtain ⟨e0,e1,e2,e3,e4,e5,e6,e7,e8⟩:=id el;have hoc:=fun w hx=>zur y w h64 (TabP.ext htr hx);clear el ho hO;have hxb:Ext wr (wr.alloc (.cells #[.int .i64 y.key,.int .i64 y.l.k,.int .i64 y.l.t,.int .i64 y.l.v,.int .i64 y.r.k,.int .i64 y.r.t,.int .i64 y.r.v,.bool y.hl,.bool y.hr] 94)):=(ExtM.refl _).alloc _;have hoc0:=hoc _ hxb;clear hoc;go_wp2_with (go_at_call 97;refine hoc0.mono ?_;rintro e w5 ⟨rfl,hx5⟩;refine Hid.out ?_);refine Lib.hid ?_;have hX5:Ext wr w5:=ExtM.trans _ _ _ hxb hx5;have hS5:=zag hS hX5 (fun _ _ h=>h);have hxu:Ext w2 w5:=ExtM.trans _ _ _ hx hX5;have hsz:w2.heap.size <= w5.heap.size:=hxu.size;obtain ⟨v',w',happ,hir',hxr,hloc⟩:=zh2 (w5.alloc (.cells #[.string ⟨(outT y).toArray⟩] 9)) w2.heap.size w5.heap.size 1 u5 (strs ((os.take j).map outT)) ⟨(outT y).toArray⟩ 30 (zag hS5 ((ExtM.refl _).alloc _:Ext w5 _) (fun _ _ h=>h))
     (by go_simp) (by unfold strs;rw [List.length_map,List.length_map,List.length_take];omega) (by rw [World.size_alloc];omega)
    have hxf:Ext w2 w':=(ExtM.trans _ _ _ hxu ((ExtM.refl w5).alloc _):Ext w2 _).fresh' hxr (fun k hk e=>by have:=(zaf hS k e).1;omega);obtain ⟨pv,cv,hpv,-⟩:=zaa hS5;have hsl:(strs ((os.take j).map outT)).length = j:=by unfold strs;rw [List.length_map,List.length_map,List.length_take];omega
    rw [hsl] at hpv;have HN:=Lib.hid (⟨hir',hxf⟩:_ /\ _);subst hpv;clear hir' hxf hxr hloc hS5 hS hx hX5 hxu hsl;generalize hT9:outT y = T9 at *;have HT9:=Lib.hid hT9;clear hT9;go_wp2_with (at_builtin;refine wpList_append_run happ rfl rfl _ _ rfl rfl rfl ?_;clear happ);go_roundg (os.length - (j + 1))
    case measure=>omega
    case rel =>
     obtain ⟨r1,r2⟩:=HN.out;refine ⟨j + 1,by go_num,by omega,Nat.le_refl _,?_,r2⟩;rw [HT.out,List.map_append,List.map_singleton,HT9.out];unfold strs at r1 ⊢;rw [List.map_append];exact r1
  . obtain rfl:j = os.length:=by omega
    have hz:decide (os.length < os.length) = false:=by simp
    have hz2:decide ((os.length:Int) < os.length) = false:=by simp
    rw [List.take_length] at hS
    have hjl:=zsu [44,32] 113 (os.map outT) (fun l hl=>by
     obtain ⟨y,hy,rfl⟩:=List.mem_map.1 hl
     exact zsF y (hO y hy))
    rw [List.length_map] at hjl
    obtain ⟨a5,c5,rfl,hJ⟩:=ztv (os.map outT) ⟨#[44,32]⟩ _ _ wr hS (by rw [List.length_map];omega) (by
     show (Lib.join (os.map outT) [44,32]).length <= _;have e:([44,32]:List UInt8).length = 2:=rfl;rw [e] at hjl
     omega)
    rw [List.length_map] at hJ ⊢;have hJ:Calls Tryz.prog 39 #[.slice a5 os.length c5,.string ⟨#[44,32]⟩] wr fun e w'=>e = .returned (.string ⟨(Lib.join (os.map outT) [44,32]).toArray⟩) /\ Ext wr w':=hJ;clear hS hO hjl hov ht;generalize Lib.join (os.map outT) [44,32] = T at *;go_wp2_with (go_at_call 39;refine hJ.mono ?_;rintro e w3 ⟨rfl,hx3⟩);go_ret;exact hfin _ (ExtM.trans _ _ _ hX2 (ExtM.trans _ _ _ hx hx3))
structure G64 (g:GRow):Prop where
 key:-9223372036854775808 <= g.key /\ g.key <= 9223372036854775807
 cnt:-9223372036854775808 <= g.cnt /\ g.cnt <= 9223372036854775807
 sum:-9223372036854775808 <= g.sum /\ g.sum <= 9223372036854775807
 least:-9223372036854775808 <= g.least /\ g.least <= 9223372036854775807
 most:-9223372036854775808 <= g.most /\ g.most <= 9223372036854775807
theorem zt2 {l:List Int} (h:∀ v ∈ l,-9223372036854775808 <= v /\ v <= 9223372036854775807) (i:Nat):-9223372036854775808 <= l.getD i 0 /\ l.getD i 0 <= 9223372036854775807:=by
 rw [List.getD_eq_getElem?_getD];cases hi:l[i]? with
 | none=>decide
 | some v=>exact h v (List.mem_of_getElem? hi)
theorem ztz {l:List Out} (h:∀ x ∈ l,zhl x) (hl:l.length <= 1000000):∀ g ∈ refGs l,G64 g:=by
 intro g hg;unfold refGs at hg;obtain ⟨k,hk,rfl⟩:=List.mem_map.1 hg;have hk2:=(zaM _).mem_iff.1 ((dd_mem _ _).1 hk);obtain ⟨x,hx,rfl⟩:=List.mem_map.1 hk2;have hlen:(zqc l x.key).length <= l.length:=List.length_filter_le _ _;have hr:∀ v ∈ zbO (zaY (zqc l x.key)),-9223372036854775808 <= v /\ v <= 9223372036854775807:=fun v hv=>by
  have hv:=(zaM _).mem_iff.1 hv;unfold zaY at hv;obtain ⟨y,hy,rfl⟩:=List.mem_map.1 hv;exact (h y (List.mem_filter.1 (List.mem_filter.1 hy).1).1).o64.rv
 refine ⟨(h x hx).o64.key,?_,?_,zt2 hr _,zt2 hr _⟩
 . show -9223372036854775808 <= ((zqc l x.key).length:Int) /\ _;constructor
   . omega
   . show ((zqc l x.key).length:Int) <= _;omega
 . show -9223372036854775808 <= wrap64 (lsum (zqc l x.key)) /\ wrap64 (lsum (zqc l x.key)) <= 9223372036854775807;unfold wrap64;omega
theorem ztb (g:GRow) (h:G64 g):(grpT g).length <= 114:=by
 have h1:=zsq g.key h.key;have h2:=zsk g.cnt g.sum h.cnt h.sum;have h3:=zsk g.least g.most h.least h.most;unfold grpT;simp only [List.length_append,List.length_cons,List.length_nil];split <;> simp only [List.length_cons,List.length_nil] <;> omega
theorem ztN (a b:Int) (w:World) (B:Nat) (hn:NI w (some ⟨B,0,none⟩) [a,b]) (ht:TabP w) (ha:-9223372036854775808 <= a /\ a <= 9223372036854775807) (hb:-9223372036854775808 <= b /\ b <= 9223372036854775807) :
 Calls Tryz.prog 86 #[.slice (some ⟨B,0,none⟩) 2 2] w fun e w2=>e = .returned (.string ⟨(wordsB [a,b]).toArray⟩) /\ Ext w w2 :=
 zup hn 2 ht (fun n hn=>by
  simp only [List.mem_cons,List.not_mem_nil,or_false] at hn;rcases hn with rfl | rfl
  . exact ha
  . exact hb) (by simp)
theorem ztg (l:List Out):(refGs l).length <= l.length:=by
 have hd:∀ (ks acc:List Int),(ks.foldl ddF acc).length <= acc.length + ks.length:=by
  intro ks;induction ks with
  | nil=>exact fun acc=>Nat.le_refl _
  | cons k ks ih =>
    intro acc
    have:=ih (ddF acc k)
    have h1:(ddF acc k).length <= acc.length + 1:=by unfold ddF;split <;> simp
    rw [List.foldl_cons,List.length_cons];omega
 unfold refGs;rw [List.length_map]
 have:=hd (zbO (l.map (·.key))) []
 unfold dd;rw [(zaM _).length_eq,List.length_map] at this;simpa using this
theorem ztV (u:World) (D:Nat) (Fs:Nat -> Prop) (x:LSt) (n:Nat) (a:Option Addr) (ws:List ByteArray) (cap:Nat) (h:DkIn u D Fs x n a ws) :
 Calls Tryz.prog 52 #[.pointer (some ⟨D,0,none⟩),.slice a ws.length cap] u (AnsV u D Fs x zso 0 ws):=by
 rcases hq:argsO 0 (zsf ws) with - | n
 . have hn0:=(h.nums cap 0 (by decide)).mono (R':=fun e w'=>e = zsi 3 /\ Ext u w') (fun e w' hh=>by unfold zsm at hh;rw [hq] at hh;exact ⟨hh.2,hh.1⟩);have hfin:=fun w' (hx:Ext u w')=>AnsV.bad (nm:=zso) hq h.d hx;clear h;go_enter Tryz.func52,Tryz.ntmps52;go_wp2_with (go_at_call 18;refine hn0.mono ?_;rintro e w1 ⟨rfl,hx1⟩);exact ⟨rfl,hfin _ hx1⟩
 obtain rfl:=zsj hq
 have hn0:=(h.nums cap 0 (by decide)).mono (R':=fun e w'=>∃ vo,e = .returned vo /\ Ext u w') (fun e w' hh=>by
  unfold zsm at hh;rw [hq] at hh;obtain ⟨h1,vo,h2,h3⟩:=hh
  exact ⟨vo,h2,h1⟩)
 have hfin:=fun w' (hx:Ext u w')=>AnsV.good (nm:=zso) hq ((zsz (by decide) x).trans rfl) (DkUp.same h.d hx);obtain ⟨E,Bs,c0,hE,-⟩:=h.d.eup;have ht:=h.lib.t;have hlV:=h.ok.g.ok.lV9 h.hn;have hp:=h.ok.g.p;have hO:=ztz (l:=x.l) (fun y hy=>h.ok.g.ok.outs y (hp.mem_iff.1 hy)) (by rw [hp.length_eq];omega);have hlen:(refGs x.l).length <= 900000:=by have:=ztg x.l;rw [hp.length_eq] at this;omega
 have hvw:∀ w,Ext u w -> Calls Tryz.prog 88 #[.pointer (some ⟨E,0,none⟩)] w fun e w'=>∃ p cap,e = .returned (.slice p (refGs x.l).length cap) /\ Ext w w' /\ zcG w' p (refGs x.l):=fun w hx=>by
  obtain ⟨ents,h1,h2,h3⟩:=zif (hE.ext hx) (by omega);rw [zi6 (fun k=>h1.of_perm hp.symm k) h2];exact h3
 have hvt:ztK x.l = Lib.join ((refGs x.l).map grpT) [44,32]:=rfl;rw [hvt] at hfin;clear h hE hlV hvt hp;generalize refGs x.l = os at *;have lD:=zac c0;go_enter Tryz.func52,Tryz.ntmps52
 go_wp2_with (first
  | (go_at_call 18;refine hn0.mono ?_;rintro e w1 ⟨vo,rfl,hx1⟩;have c1:=(hx1.cell (p:=⟨D,0,none⟩) lD id).trans c0;have lD1:=zac c1)
  | (go_at_call 88;refine (hvw _ hx1).mono ?_;rintro e w2 ⟨p,cp,rfl,hx2,hov⟩;refine Hid.out ?_))
 refine Lib.hid ?_;have hX2:Ext u w2:=ExtM.trans _ _ _ hx1 hx2;clear hn0 hvw c0 c1 lD lD1 hx1 hx2;go_wp2_with fail;go_loopg [5,17] (os.length + 1) (fun kx s5 s17 wr=>∃ j:Nat,s17 = .int .i64 j /\ j <= os.length /\ os.length - j <= kx /\ SR wr w2.heap.size s5 (strs ((os.take j).map grpT)) /\ Ext w2 wr)
 case atStart=>exact ⟨0,rfl,by omega,by omega,⟨rfl,.inl ⟨rfl,rfl⟩⟩,ExtM.refl _⟩
 case round =>
  obtain ⟨j,rfl,hj,hgk,hS,hx⟩:=hrel;by_cases hjl:j < os.length
  . rcases hov with ho | ⟨b,rfl,ho⟩
    . subst ho;simp at hjl
    have el:=(ho j hjl).of hx;have lb:=el.lt;have h64:=hO _ (List.getElem_mem hjl);have HT:=Lib.hid (List.take_succ_eq_append_getElem hjl);have htr:=TabP.ext ht (ExtM.trans _ _ _ hX2 hx);have hlx:=ztb _ h64;generalize os[j] = y at *;obtain ⟨e0,e1,e2,e3,e4,e5⟩:=id el;have hii:=zsq y.key h64.key;have hw1:=zsk y.cnt y.sum h64.cnt h64.sum;have hw2:=zsk y.least y.most h64.least h64.most;have hit:∀ w,Ext wr w -> Calls Tryz.prog 25 #[.int .i64 y.key] w fun e w'=>e = .returned (.string ⟨(Lib.itoa y.key).toArray⟩) /\ Ext w w':=fun w hx=>zno y.key w h64.key.1 h64.key.2 (TabP.ext htr hx);have hj1:∀ w (b:Nat),Ext wr w -> NI w (some ⟨b,0,none⟩) [y.cnt,y.sum] -> Calls Tryz.prog 86 #[.slice (some ⟨b,0,none⟩) 2 2] w fun e w2=>e = .returned (.string ⟨(wordsB [y.cnt,y.sum]).toArray⟩) /\ Ext w w2 :=
     fun w b h1 h2=>ztN y.cnt y.sum w b h2 (TabP.ext htr h1) h64.cnt h64.sum
    have hj2:∀ w (b:Nat),Ext wr w -> NI w (some ⟨b,0,none⟩) [y.least,y.most] -> Calls Tryz.prog 86 #[.slice (some ⟨b,0,none⟩) 2 2] w fun e w2=>e = .returned (.string ⟨(wordsB [y.least,y.most]).toArray⟩) /\ Ext w w2 :=
     fun w b h1 h2=>ztN y.least y.most w b h2 (TabP.ext htr h1) h64.least h64.most
    have hT0:(⟨(Lib.itoa y.key).toArray⟩:ByteArray) ++ ⟨#[58,32]⟩ ++ ⟨(wordsB [y.cnt,y.sum]).toArray⟩ = ⟨(Lib.itoa y.key ++ [58,32] ++ wordsB [y.cnt,y.sum]).toArray⟩:=by simp only [ByteArray.mk_append_mk]
    obtain ⟨T8,hT8⟩:∃ T8,T8 = Lib.itoa y.key ++ [58,32] ++ wordsB [y.cnt,y.sum]:=⟨_,rfl⟩
    have hl8:T8.length <= 68:=by rw [hT8];simp only [List.length_append,List.length_cons,List.length_nil];omega
    rw [<- hT8] at hT0;have hgt:grpT y = T8 ++ (if y.some then 32 :: wordsB [y.least,y.most] else []):=by rw [hT8];rfl
    have HGT:=Lib.hid hgt;have hwl:(wordsB [y.least,y.most]).length <= 44:=hw2;clear el ho hO hT8 h64 hgt hw2 hlx;generalize Lib.itoa y.key = W0 at *;generalize wordsB [y.cnt,y.sum] = W1 at *;generalize hW2:wordsB [y.least,y.most] = W2 at *;have HW2:=Lib.hid hW2;clear hW2;go_upto_region 6 with fail;have hxb:Ext wr (wr.alloc (.cells #[.int .i64 y.key,.int .i64 y.cnt,.int .i64 y.sum,.int .i64 y.least,.int .i64 y.most,.bool y.some] 108)):=(ExtM.refl _).alloc _;have g0:(wr.alloc (.cells #[.int .i64 y.key,.int .i64 y.cnt,.int .i64 y.sum,.int .i64 y.least,.int .i64 y.most,.bool y.some] 108)).cell? ⟨wr.heap.size,0,none⟩ = some (.int .i64 y.key):=by go_simp
    have g1:(wr.alloc (.cells #[.int .i64 y.key,.int .i64 y.cnt,.int .i64 y.sum,.int .i64 y.least,.int .i64 y.most,.bool y.some] 108)).cell? ⟨wr.heap.size,1,none⟩ = some (.int .i64 y.cnt):=by go_simp
    have g2:(wr.alloc (.cells #[.int .i64 y.key,.int .i64 y.cnt,.int .i64 y.sum,.int .i64 y.least,.int .i64 y.most,.bool y.some] 108)).cell? ⟨wr.heap.size,2,none⟩ = some (.int .i64 y.sum):=by go_simp
    have g3:(wr.alloc (.cells #[.int .i64 y.key,.int .i64 y.cnt,.int .i64 y.sum,.int .i64 y.least,.int .i64 y.most,.bool y.some] 108)).cell? ⟨wr.heap.size,3,none⟩ = some (.int .i64 y.least):=by go_simp
    have g4:(wr.alloc (.cells #[.int .i64 y.key,.int .i64 y.cnt,.int .i64 y.sum,.int .i64 y.least,.int .i64 y.most,.bool y.some] 108)).cell? ⟨wr.heap.size,4,none⟩ = some (.int .i64 y.most):=by go_simp
    have g5:(wr.alloc (.cells #[.int .i64 y.key,.int .i64 y.cnt,.int .i64 y.sum,.int .i64 y.least,.int .i64 y.most,.bool y.some] 108)).cell? ⟨wr.heap.size,5,none⟩ = some (.bool y.some):=by go_simp
    have lg:wr.heap.size < (wr.alloc (.cells #[.int .i64 y.key,.int .i64 y.cnt,.int .i64 y.sum,.int .i64 y.least,.int .i64 y.most,.bool y.some] 108)).heap.size:=by rw [World.size_alloc];omega
    obtain ⟨wg,hwg⟩:∃ wg,wg = wr.alloc (.cells #[.int .i64 y.key,.int .i64 y.cnt,.int .i64 y.sum,.int .i64 y.least,.int .i64 y.most,.bool y.some] 108):=⟨_,rfl⟩
    obtain ⟨B6,hB6⟩:∃ B6,B6 = wr.heap.size:=⟨_,rfl⟩
    rw [<- hwg] at hxb g0 g1 g2 g3 g4 g5 lg ⊢;rw [<- hB6] at g0 g1 g2 g3 g4 g5 lg ⊢;clear hwg hB6 e0 e1 e2 e3 e4 e5 lb;refine Plan.b0 Plan.Ext 12 ?_;refine Plan.qs 6 [0,1,4,5,6,7] ?_;iterate 6 go_big_quiet_step (fail)
    refine Plan.o2 2 8 (fun K hK=>?_) fun K hK=>?_
    focus
     go_wp2_with (fail);refine (hit _ (by first | exact (ExtM.trans _ _ _ hxb (ExtM.refl _).drew) | exact (ExtM.trans _ _ _ hxb ((ExtM.refl _).drew.alloc _)))).mono ?_;rintro e w5 ⟨rfl,h5⟩;have H5:=ExtM.trans _ _ _ (ExtM.refl _).drew h5;obtain ⟨hc5,hf5,-⟩:=Ext.rules H5;have hs5_0:B6 < w5.heap.size:=by have:=H5.size;(try simp at this);omega
     go_wp2_with (fail);refine hK _ _ h5 ?_;clear hK K;refine Plan.qs 1 [3] ?_;go_big_quiet_step (fail);refine Plan.o1 8 fun K hK=>?_;go_wp2_with (fail);refine hK _ _ ((ExtM.refl _).alloc _) ?_;clear hK K;refine Plan.o1 9 fun K hK=>?_;go_wp2_with (fail);refine (hj1 _ _ (by first | exact (ExtM.trans _ _ _ hxb H5).alloc _ | exact ExtM.trans _ _ _ hxb H5) (by first | exact NI.new _ _ | exact (NI.new _ _).ext (ExtM.trans _ _ _ (ExtM.refl _).drew h5))).mono ?_;rintro e w6 ⟨rfl,h6⟩;clear hc5 hf5 hs5_0;have H6:=ExtM.trans _ _ _ (H5.alloc _) h6;obtain ⟨hc6,hf6,-⟩:=Ext.rules H6;have hs6_0:B6 < w6.heap.size:=by have:=H6.size;(try simp at this);omega
     go_wp2_with (fail);refine hK _ _ h6 ?_;clear hK K;refine Plan.qs 2 [10,11] ?_;iterate 2 go_big_quiet_step (fail)
     refine Plan.dn ?_
    rotate_left
    focus
     go_wp2_with (fail);refine hK _ _ ((ExtM.refl _).alloc _) ?_;clear hK K;refine Plan.o1 2 fun K hK=>?_;go_wp2_with (fail);refine (hit _ (by first | exact (ExtM.trans _ _ _ hxb (ExtM.refl _).drew) | exact (ExtM.trans _ _ _ hxb ((ExtM.refl _).drew.alloc _)))).mono ?_;rintro e w5 ⟨rfl,h5⟩;have H5:=ExtM.trans _ _ _ ((ExtM.refl _).drew.alloc _) h5;obtain ⟨hc5,hf5,-⟩:=Ext.rules H5;have hs5_0:B6 < w5.heap.size:=by have:=H5.size;(try simp at this);omega
     go_wp2_with (fail);refine hK _ _ h5 ?_;clear hK K;refine Plan.qs 1 [3] ?_;go_big_quiet_step (fail);refine Plan.o1 9 fun K hK=>?_;go_wp2_with (fail);refine (hj1 _ _ (by first | exact (ExtM.trans _ _ _ hxb H5).alloc _ | exact ExtM.trans _ _ _ hxb H5) (by first | exact NI.new _ _ | exact (NI.new _ _).ext (ExtM.trans _ _ _ (ExtM.refl _).drew h5))).mono ?_;rintro e w6 ⟨rfl,h6⟩;clear hc5 hf5 hs5_0;have H6:=ExtM.trans _ _ _ H5 h6;obtain ⟨hc6,hf6,-⟩:=Ext.rules H6;have hs6_0:B6 < w6.heap.size:=by have:=H6.size;(try simp at this);omega
     go_wp2_with (fail);refine hK _ _ h6 ?_;clear hK K;refine Plan.qs 2 [10,11] ?_;iterate 2 go_big_quiet_step (fail)
     refine Plan.dn ?_
    all_goals
     have hX6:Ext wr w6:=ExtM.trans _ _ _ hxb H6;have k5:=(H6.cell (p:=⟨B6,5,none⟩) lg id).trans g5;have k3:=(H6.cell (p:=⟨B6,3,none⟩) lg id).trans g3;have k4:=(H6.cell (p:=⟨B6,4,none⟩) lg id).trans g4;have l6:=Nat.lt_of_lt_of_le lg H6.size;clear g0 g1 g2 g3 g4 g5 lg h5 h6 H5 H6 hit hj1 hxb;cases hsm:y.some with
     | false =>
       rw [hsm] at k5;have hgt:=HGT.out;rw [hsm,if_neg (by decide),List.append_nil] at hgt;have HT9:Hid (T8 = grpT y):=Lib.hid hgt.symm;clear hsm hgt hj2;generalize T8 = T9 at *;go_upto_region 9 with fail;have hX5:Ext wr w6:=hX6;have hS5:=zag hS hX5 (fun _ _ h=>h);have hxu:Ext w2 w6:=ExtM.trans _ _ _ hx hX5;have hsz:w2.heap.size <= w6.heap.size:=hxu.size;obtain ⟨v',w',happ,hir',hxr,hloc⟩:=zh2 (w6.alloc (.cells #[.string ⟨T9.toArray⟩] 9)) w2.heap.size w6.heap.size 1 u5 (strs ((os.take j).map grpT)) ⟨T9.toArray⟩ 30 (zag hS5 ((ExtM.refl _).alloc _:Ext w6 _) (fun _ _ h=>h))
        (by go_simp) (by unfold strs;rw [List.length_map,List.length_map,List.length_take];omega) (by rw [World.size_alloc];omega)
       have hxf:Ext w2 w':=(ExtM.trans _ _ _ hxu ((ExtM.refl w6).alloc _):Ext w2 _).fresh' hxr (fun k hk e=>by have:=(zaf hS k e).1;omega);obtain ⟨pv,cv,hpv,-⟩:=zaa hS5;have hsl:(strs ((os.take j).map grpT)).length = j:=by unfold strs;rw [List.length_map,List.length_map,List.length_take];omega
       rw [hsl] at hpv;have HN:=Lib.hid (⟨hir',hxf⟩:_ /\ _);subst hpv;clear hir' hxf hxr hloc hS5 hS hx hX5 hxu hsl;go_wp2_with (at_builtin;refine wpList_append_run happ rfl rfl _ _ rfl rfl rfl ?_;clear happ);go_roundg (os.length - (j + 1))
       case measure=>omega
       case rel =>
        obtain ⟨r1,r2⟩:=HN.out;refine ⟨j + 1,by go_num,by omega,Nat.le_refl _,?_,r2⟩;rw [HT.out,List.map_append,List.map_singleton,<- HT9.out];unfold strs at r1 ⊢;rw [List.map_append];exact r1
     | true =>
       rw [hsm] at k5;have hgt:=HGT.out;rw [hsm,if_pos rfl] at hgt;have hT9:(⟨T8.toArray⟩:ByteArray) ++ (⟨#[32]⟩ ++ ⟨W2.toArray⟩) = ⟨(grpT y).toArray⟩:=by rw [hgt];simp only [ByteArray.mk_append_mk];rfl
       have hl9:(grpT y).length <= 114:=by rw [hgt,List.length_append,List.length_cons];omega
       generalize hT8:grpT y = T9 at *;have HT9:Hid (T9 = grpT y):=Lib.hid hT8.symm;clear hsm hgt hT8;go_wp2_with (go_at_call 86;refine (hj2 _ _ (hX6.alloc _) (NI.new _ _)).mono ?_;rintro e w7 ⟨rfl,hx7⟩;refine Hid.out ?_);refine Lib.hid ?_;have hX7:Ext wr w7:=ExtM.trans _ _ _ (hX6.alloc _) hx7;clear hj2 hx7;have hX5:Ext wr w7:=hX7;have hS5:=zag hS hX5 (fun _ _ h=>h);have hxu:Ext w2 w7:=ExtM.trans _ _ _ hx hX5;have hsz:w2.heap.size <= w7.heap.size:=hxu.size;obtain ⟨v',w',happ,hir',hxr,hloc⟩:=zh2 (w7.alloc (.cells #[.string ⟨T9.toArray⟩] 9)) w2.heap.size w7.heap.size 1 u5 (strs ((os.take j).map grpT)) ⟨T9.toArray⟩ 30 (zag hS5 ((ExtM.refl _).alloc _:Ext w7 _) (fun _ _ h=>h))
        (by go_simp) (by unfold strs;rw [List.length_map,List.length_map,List.length_take];omega) (by rw [World.size_alloc];omega)
       have hxf:Ext w2 w':=(ExtM.trans _ _ _ hxu ((ExtM.refl w7).alloc _):Ext w2 _).fresh' hxr (fun k hk e=>by have:=(zaf hS k e).1;omega);obtain ⟨pv,cv,hpv,-⟩:=zaa hS5;have hsl:(strs ((os.take j).map grpT)).length = j:=by unfold strs;rw [List.length_map,List.length_map,List.length_take];omega
       rw [hsl] at hpv;have HN:=Lib.hid (⟨hir',hxf⟩:_ /\ _);subst hpv;clear hir' hxf hxr hloc hS5 hS hx hX5 hxu hsl;go_wp2_with (at_builtin;refine wpList_append_run happ rfl rfl _ _ rfl rfl rfl ?_;clear happ);go_roundg (os.length - (j + 1))
       case measure=>omega
       case rel =>
        obtain ⟨r1,r2⟩:=HN.out;refine ⟨j + 1,by go_num,by omega,Nat.le_refl _,?_,r2⟩;rw [HT.out,List.map_append,List.map_singleton,<- HT9.out];unfold strs at r1 ⊢;rw [List.map_append];exact r1
  . obtain rfl:j = os.length:=by omega
    have hz:decide (os.length < os.length) = false:=by simp
    have hz2:decide ((os.length:Int) < os.length) = false:=by simp
    rw [List.take_length] at hS
    have hjl:=zsu [44,32] 114 (os.map grpT) (fun l hl=>by
     obtain ⟨y,hy,rfl⟩:=List.mem_map.1 hl
     exact ztb y (hO y hy))
    rw [List.length_map] at hjl
    obtain ⟨a5,c5,rfl,hJ⟩:=ztv (os.map grpT) ⟨#[44,32]⟩ _ _ wr hS (by rw [List.length_map];omega) (by
     show (Lib.join (os.map grpT) [44,32]).length <= _;have e:([44,32]:List UInt8).length = 2:=rfl;rw [e] at hjl
     omega)
    rw [List.length_map] at hJ ⊢;have hJ:Calls Tryz.prog 39 #[.slice a5 os.length c5,.string ⟨#[44,32]⟩] wr fun e w'=>e = .returned (.string ⟨(Lib.join (os.map grpT) [44,32]).toArray⟩) /\ Ext wr w':=hJ;clear hS hO hjl hov ht;generalize Lib.join (os.map grpT) [44,32] = T at *;go_wp2_with (go_at_call 39;refine hJ.mono ?_;rintro e w3 ⟨rfl,hx3⟩);go_ret;exact hfin _ (ExtM.trans _ _ _ hX2 (ExtM.trans _ _ _ hx hx3))
end Go.Proofs.YtiknejbcehpmoaaGreatDoor
