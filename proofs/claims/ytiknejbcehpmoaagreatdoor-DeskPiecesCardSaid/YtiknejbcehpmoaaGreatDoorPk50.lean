/- DeskPieces: for every two strings the law returns true. No condition but the row's own (the library's variables as the program lays them; tied; the sizes that the form itself asks for). -/
import Derived.Test.YtiknejbcehpmoaaGreatDoorPk48
import Derived.Test.YtiknejbcehpmoaaGreatDoorPk49
import Derived.Sort.CutIn
import Derived.Shelf.Vars
set_option maxRecDepth 100000
set_option maxHeartbeats 8000000
namespace Go.Proofs.YtiknejbcehpmoaaGreatDoor
open Go.RowKit Go.Plan
attribute [local go_sem] Oper.semAt_some
theorem zu1 (u:World) (D:Nat) (v0:Value) (a:Option Addr) (ws:List ByteArray) (cap:Nat) (ns:List Int) (c9:u.cell? ⟨D,0,none⟩ = some v0) (f9:u.frozen? ⟨D,0,none⟩ = false) (hl:Lib4 u) (hst:zs3 u a ws) (hsz:∀ x ∈ ws,x.size <= 100000) (hlen:ws.length <= 100000) (hq:argsO 3 (zsf ws) = some ns) (hc:checkI (nAt ns 0) (nAt ns 1) (nAt ns 2) = 0) :
 Calls Tryz.prog 7 #[.pointer (some ⟨D,0,none⟩),.slice a ws.length cap] u fun e u'=>e = .returned (.string ⟨zc2.toArray⟩) /\ ∃ Fs,DkAt u' D Fs (LSt.new (nAt ns 0) (nAt ns 1) (nAt ns 2)) /\ (∀ k,Fs k -> k = D \/ u.heap.size <= k) /\ ExtM (fun k=>k = D) u u':=by
 have hn0:=(numbers_c ws a cap 3 u hst hsz hlen (by decide) hl).mono (R':=fun e w'=>∃ g cp,e = .returned (.slice (some ⟨g,0,none⟩) 3 cp) /\ (u.heap.size <= g /\ g < w'.heap.size) /\ (∀ q,q < 3 -> w'.cell? ⟨g,q,none⟩ = some (.int .i64 (nAt ns q))) /\ Ext u w') (fun e w' hh=>by
  unfold zsm at hh;rw [hq] at hh;obtain ⟨h1,vo,h2,h3⟩:=hh;obtain ⟨g,cp,rfl,h4,h5⟩:=h3.atK (by rw [(zsl hq).1];decide);rw [(zsl hq).1] at h2 h5
  exact ⟨g,cp,h2,h4,h5,h1⟩)
 have lD:=zac c9;have hput:∀ (w':World) (E':Nat) (Bs':Nat -> Prop),Ext u w' -> EAt w' E' Bs' (nAt ns 0) (nAt ns 1) (nAt ns 2) ⟨[],[],-1099511627777,-1099511627777,0⟩ [] [] 0 0 -> (∀ k,Bs' k -> u.heap.size <= k) ->
  ∃ Fs,DkAt (w'.setCell ⟨D,0,none⟩ (.pointer (some ⟨E',0,none⟩))) D Fs (LSt.new (nAt ns 0) (nAt ns 1) (nAt ns 2)) /\ (∀ k,Fs k -> k = D \/ u.heap.size <= k) /\ ExtM (fun k=>k = D) u (w'.setCell ⟨D,0,none⟩ (.pointer (some ⟨E',0,none⟩))):=fun w' E' Bs' hx hE hB=>by
  have c1:=(hx.cell (p:=⟨D,0,none⟩) lD id).trans c9;have hs:ExtM (fun k=>k = D) w' (w'.setCell ⟨D,0,none⟩ (.pointer (some ⟨E',0,none⟩))):=ExtM.setCell (M:=fun k=>k = D) (ExtM.refl w') (p:=⟨D,0,none⟩) (.inr rfl) _;have hn:¬ Bs' D:=fun e=>by have:=hB D e;simp only at lD;omega
  exact ⟨_,⟨E',Bs',World.cell?_setCell_same _ _ _ c1,(World.frozen?_setCell _ _ _ _).trans ((hx.frozen (p:=⟨D,0,none⟩) lD id).trans f9),hE.keep hs (fun k hk e=>hn (e ▸ hk)),hn,rfl⟩,fun k hk=>hk.imp id (hB k),ExtM.trans _ _ _ (hx.mono fun _ _ h=>h.elim) hs⟩
 have HP:=Lib.hid hput;have hnw:=fun w=>znc (nAt ns 0) (nAt ns 1) (nAt ns 2) w hc;clear hput hc hl hst hsz hlen hq;go_enter Tryz.func7,Tryz.ntmps7;go_wp2_with (go_at_call 18;refine hn0.mono ?_;rintro e w1 ⟨g,cp,rfl,⟨hug,lg⟩,hns,hx1⟩;refine Hid.out ?_);refine Lib.hid ?_;have n0:=hns 0 (by decide);have n1:=hns 1 (by decide);have n2:=hns 2 (by decide);clear hns hn0;go_upto_region 2 with fail;refine Plan.b0 Plan.Ext 16 ?_;refine Plan.qs 10 [0,1,2,3,4,5,6,7,8,9] ?_;iterate 10 go_big_quiet_step (fail)
 refine Plan.o1 10 fun K hK=>?_;go_wp2_with (fail);refine (hnw _).mono ?_;rintro e w4 ⟨E',Bs',rfl,h4,hB4,hE4⟩;have H4:=ExtM.trans _ _ _ (ExtM.refl _).drew h4;obtain ⟨hc4,hf4,-⟩:=Ext.rules H4;have hs4_0:g < w4.heap.size:=by have:=H4.size;(try simp at this);omega
 go_wp2_with (fail);refine hK _ _ h4 ?_;clear hK K;refine Plan.qs 5 [11,12,13,14,15] ?_;iterate 5 go_big_quiet_step (fail)
 refine Plan.dn ?_;have hX4:Ext u w4:=ExtM.trans _ _ _ (ExtM.trans _ _ _ hx1 (ExtM.refl _).drew) h4;have hs1:=hx1.size;clear n0 n1 n2 lg hx1 hnw;have HF:=Lib.hid (HP.out w4 E' Bs' hX4 hE4 (fun k hk=>Nat.le_trans hs1 (hB4 k hk)));have c4:=(hX4.cell (p:=⟨D,0,none⟩) lD id).trans c9;have f4:=(hX4.frozen (p:=⟨D,0,none⟩) lD id).trans f9;have lD4:=zac c4;clear hE4 hB4 hX4 c9 f9 lD hs1 h4;go_wp2_with (go_at_call 20;refine (zs8 _).mono ?_;rintro e w9 ⟨rfl,rfl⟩);go_ret;exact ⟨rfl,HF.out⟩
theorem zsE {T:Nat -> Prop} {w w1 w2:World} (h:Ext w w1) (hx:ExtM T w1 w2) (hT:∀ k,T k -> w.heap.size <= k):Ext w w2 :=
 ⟨hx.os.trans h.os,hx.tape.trans h.tape,hx.output.trans h.output,Nat.le_trans h.size hx.size,fun k hk _=>(hx.block k (Nat.lt_of_lt_of_le hk h.size) (fun hf=>by have:=hT k hf;omega)).trans (h.block k hk id)⟩
structure ztm (u:World) (T:Nat -> Prop) (P D b:Nat) (ls:List (List UInt8)) (W:World) (Fs:Nat -> Prop) (v:Value):Prop where
 d:DkAt W D Fs (zs6 (LSt.new 0 10 3) ls)
 ok:DOk (zs6 (LSt.new 0 10 3) ls) (zs5 ls)
 p:W.cell? ⟨P,0,none⟩ = some (.pointer (some ⟨D,0,none⟩))
 sb:SBv u.heap.size b v (zss (LSt.new 0 10 3) ls) W
 len:(zss (LSt.new 0 10 3) ls).length <= ls.length * 200000001
 x:Ext u W
 f:∀ k,Fs k -> u.heap.size <= k /\ ¬ T k /\ k ≠ P /\ k ≠ b
 v:∀ k,v.ownBlock = some k -> u.heap.size <= k /\ ¬ T k /\ k ≠ P /\ k ≠ b /\ ¬ Fs k
theorem ztm.over {u W W':World} {T:Nat -> Prop} {P D b:Nat} {ls:List (List UInt8)} {Fs:Nat -> Prop} {v:Value} (h:ztm u T P D b ls W Fs v) (hx:ExtM T W W') (hT:∀ k,T k -> u.heap.size <= k) (hP:¬ T P) (hb:¬ T b):ztm u T P D b ls W' Fs v :=
 ⟨h.d.keep hx (fun k hk=>(h.f k hk).2.1),h.ok,(hx.cell (p:=⟨P,0,none⟩) (zac h.p) hP).trans h.p,h.sb.keep hx hb (fun k hk=>(h.v k hk).2.1),h.len,zsE h.x hx hT,h.f,h.v⟩
theorem zsQ (x:LSt) (ls:List (List UInt8)) (s:List UInt8):zss x (ls ++ [s]) = zss x ls ++ ((zsp (zs6 x ls) (zse s)).1 ++ [10]):=by
 rw [zs1];simp [zss]
theorem zs9 (s:List UInt8):∀ (ls:List (List UInt8)) (x:LSt),zs6 x (ls ++ [s]) = (zsp (zs6 x ls) (zse s)).2
 | [],_=>rfl
 | _ :: ls,_=>zs9 s ls _
theorem ztm.step {u W W1 W2:World} {T:Nat -> Prop} {P D b:Nat} {ls:List (List UInt8)} {s:List UInt8} {Fs:Nat -> Prop} {v v':Value} (h:ztm u T P D b ls W Fs v) (hT:∀ k,T k -> k < W.heap.size) (_:¬ T P) (hb:¬ T b) (hPb:P ≠ b) (hPu:u.heap.size <= P) (hn:zs5 ls < 600)
 (hu:DkUp W W1 D Fs (zsp (zs6 (LSt.new 0 10 3) ls) (zse s)).2) (hs:SBv u.heap.size b v' (zss (LSt.new 0 10 3) ls ++ ((zsp (zs6 (LSt.new 0 10 3) ls) (zse s)).1 ++ [10])) W2) (hx2:ExtM (fun k=>k = b \/ v.ownBlock = some k) W1 W2) (hv:∀ k,v'.ownBlock = some k -> v.ownBlock = some k \/ W1.heap.size <= k) :
 (∃ Fs' v',ztm u T P D b (ls ++ [s]) W2 Fs' v') /\ ExtM (fun k=>¬ T k) W W2:=by
 have hL:=zto h.ok hn (zse s);obtain ⟨hx1,Fs',hd',hF'⟩:=hu;have lP:=zac h.p;simp only at lP;obtain ⟨lb,lv⟩:=h.sb.lt;have hux:=h.x.size;have hs1:=hx1.size;have f':∀ k,Fs' k -> u.heap.size <= k /\ ¬ T k /\ k ≠ P /\ k ≠ b:=fun k hk=>by
  rcases hF' k hk with e | e
  . exact h.f k e
  . exact ⟨by omega,fun ht=>by have:=hT k ht;omega,by omega,by omega⟩
 have nv:∀ k,v.ownBlock = some k -> ¬ Fs' k:=fun k hk hf=>by
  rcases hF' k hf with e | e
  . exact (h.v k hk).2.2.2.2 e
  . have:=lv k hk;omega
 refine ⟨⟨Fs',v',⟨?_,?_,?_,?_,?_,?_,f',fun k hk=>?_⟩⟩,ExtM.trans _ _ _ (hx1.mono fun k _ hk=>(h.f k hk).2.1) (hx2.mono fun k _ hk=>?_)⟩
 . rw [zs9];exact hd'.keep hx2 (fun k hk e=>e.elim (f' k hk).2.2.2 (fun e=>nv k e hk))
 . rw [zs9,show zs5 (ls ++ [s]) = zs5 ls + ztt (zse s) by simp [zs5]];exact h.ok.line hn _
 . exact (hx2.cell (p:=⟨P,0,none⟩) (by show P < _;omega) (fun e=>e.elim hPb (fun e=>(h.v P e).2.2.1 rfl))).trans ((hx1.cell (p:=⟨P,0,none⟩) lP (fun e=>(h.f P e).2.2.1 rfl)).trans h.p)
 . rw [zsQ];exact hs
 . rw [zsQ,List.length_append,List.length_append,List.length_append,Nat.add_mul]
   have:=h.len
   simp only [List.length_cons,List.length_nil];omega
 . exact zsE (zsE h.x hx1 (fun k hk=>(h.f k hk).1)) hx2 (fun k hk=>hk.elim (fun e=>by rw [e];exact h.sb.1) (fun e=>(h.v k e).1))
 . rcases hv k hk with e | e
   . obtain ⟨a1,a2,a3,a4,-⟩:=h.v k e;exact ⟨a1,a2,a3,a4,nv k e⟩
   . exact ⟨by omega,fun ht=>by have:=hT k ht;omega,by omega,by omega,fun hf=>by have:=hd'.lt k hf;omega⟩
 . exact hk.elim (fun e=>by rw [e];exact hb) (fun e=>(h.v k e).2.1)
def ztB (n A S V k:Nat):Prop:=k = n \/ k = n + 1 \/ ItM A S V k
theorem zti (a b:List (List UInt8)):zs5 (a ++ b) = zs5 a + zs5 b:=by simp [zs5]
theorem ztw (t:List UInt8):(textL t).length <= t.length + 1:=by
 have h1:∀ l:List (List UInt8),l.length <= sumL l:=by
  intro l;induction l with
  | nil=>exact Nat.zero_le _
  | cons a l ih=>simp only [List.length_cons,sumL,List.map_cons,List.sum_cons] at ih ⊢;omega
 have h2:=zsO 10 _ (zsI t) (Nat.le_refl _);have h3:=zsR t
 have:=h1 (textL t)
 unfold textL at this ⊢;omega
theorem zuG:argsO 3 (zsf [⟨#[48]⟩,⟨#[49,48]⟩,⟨#[51]⟩]) = some [0,10,3]:=by kernel_rfl
theorem zsU (Tx:ByteArray) (u:World) (hl:Lib4 u) (hz:Tx.size <= 20000) (hc:zs5 (textL Tx.data.toList) < 600) :
 Calls Tryz.prog 5 #[.string Tx] u fun e u'=>e = .returned (.string ⟨(sessT Tx.data.toList).toArray⟩) /\ Ext u u':=by
 have h20:¬ 20000 < Tx.size:=by omega
 refine (callsIn_wide (n:=9)).1 ?_;refine callsIn_of_wp_marks Tryz.func5 rfl trivial ?_ rfl;simp only [Tryz.ntmps5,List.size_toArray,List.length_cons,List.length_nil,Nat.reduceAdd,Nat.reduceSub,Array.replicate_succ,Array.replicate_zero,List.push_toArray,List.append_toArray,List.nil_append,List.cons_append]
 gi_upto_region 4 with fail
 obtain ⟨w0,hw0⟩:∃ w0,w0 = (u.alloc (.cells #[.pointer none] 28)).alloc (.cells #[.pointer (some ⟨u.heap.size,0,none⟩)] 25):=⟨_,rfl⟩
 have hx0:Ext u w0:=by rw [hw0];exact ((ExtM.refl u).alloc _).alloc _
 have cD:w0.cell? ⟨u.heap.size,0,none⟩ = some (.pointer none):=by rw [hw0];go_simp
 have fD:w0.frozen? ⟨u.heap.size,0,none⟩ = false:=by rw [hw0];go_simp
 have cP:w0.cell? ⟨u.heap.size + 1,0,none⟩ = some (.pointer (some ⟨u.heap.size,0,none⟩)):=by rw [hw0];go_simp
 rw [<- hw0];clear hw0;have hl0:∀ w,Ext u w -> Lib4 w:=fun w hx=>hl.keepM (Fs:=fun _=>False) hx ⟨id,id,id,id,id⟩;have lD:=zac cD;have lP:=zac cP;simp only at lD lP;have ha:Ext w0 (w0.alloc (.cells #[.string ⟨#[48]⟩,.string ⟨#[49,48]⟩,.string ⟨#[51]⟩] 9)):=(ExtM.refl w0).alloc _;have hpl:=zu1 (w0.alloc (.cells #[.string ⟨#[48]⟩,.string ⟨#[49,48]⟩,.string ⟨#[51]⟩] 9)) u.heap.size (.pointer none) (some ⟨w0.heap.size,0,none⟩) [⟨#[48]⟩,⟨#[49,48]⟩,⟨#[51]⟩] 3 [0,10,3]
  ((ha.cell (p:=⟨u.heap.size,0,none⟩) lD id).trans cD) ((ha.frozen (p:=⟨u.heap.size,0,none⟩) lD id).trans fD) (hl0 _ (hx0.alloc _))
  (.inr ⟨w0.heap.size,0,rfl,by simp,fun j hj=>by
    match j,hj with
    | 0,_=>go_simp
    | 1,_=>go_simp
    | 2,_=>go_simp⟩) (by decide) (by decide) zuG (by decide)
 gi_wp2_with (refine ⟨trivial,?_⟩;gi_at_call 7;refine (callsIn_wide.2 hpl).mono ?_;rintro e w1 ⟨rfl,Fs,hd,hFs,hx1⟩;refine Hid.out ?_)
 refine Lib.hid ?_;have hX1:Ext u w1:=zsE (ExtM.trans _ _ _ hx0 ha) hx1 (fun k hk=>by have:k = u.heap.size:=hk;omega);have hd:DkAt w1 u.heap.size Fs (LSt.new 0 10 3):=hd;have cP1:w1.cell? ⟨u.heap.size + 1,0,none⟩ = some (.pointer (some ⟨u.heap.size,0,none⟩)):=(hx1.cell (p:=⟨u.heap.size + 1,0,none⟩) (by rw [World.size_alloc];show u.heap.size + 1 < _;omega) (fun e=>by have:u.heap.size + 1 = u.heap.size:=e;omega)).trans ((ha.cell (p:=⟨u.heap.size + 1,0,none⟩) lP id).trans cP);have hs1:w0.heap.size + 1 <= w1.heap.size:=by have:=hx1.size;rwa [World.size_alloc] at this
 have hFs:∀ k,Fs k -> k = u.heap.size \/ w0.heap.size + 1 <= k:=fun k hk=>(hFs k hk).imp id (fun e=>by rwa [World.size_alloc] at e);have htr:=fun w=>zu9 Tx w (by omega);obtain ⟨tr,htx⟩:∃ tr:ByteArray,tr = ⟨(zsI Tx.data.toList).toArray⟩:=⟨_,rfl⟩
 rw [<- htx] at htr;have HTX:=Lib.hid htx;clear htx;clear hpl hx0 hx1 cD fD cP;have hb1:=SBv.new w1;have hFB:∀ k,Fs k -> k < w1.heap.size:=hd.lt
 gi_upto_region 6 with fail
 have hA1:Ext w1 (w1.alloc (.cells #[.pointer none,.slice none 0 0] 34)):=(ExtM.refl w1).alloc _;have hd1:=hd.ext hA1;have lP1:=zac cP1;have cP2:=(hA1.cell (p:=⟨u.heap.size + 1,0,none⟩) lP1 id).trans cP1;have hX2:=ExtM.trans _ _ _ hX1 hA1;have hs2:(w1.alloc (.cells #[.pointer none,.slice none 0 0] 34)).heap.size = w1.heap.size + 1:=by rw [World.size_alloc]
 generalize hB:w1.heap.size = B at *;generalize w1.alloc (.cells #[.pointer none,.slice none 0 0] 34) = w2 at *
 gi_wp2_with (refine ⟨trivial,?_⟩;first
  | (gi_at_call 9;refine (callsIn_wide.2 (htr _)).mono ?_;rintro e w3 ⟨rfl,rfl⟩)
  | (gi_at_call 8;refine (callsIn_wide.2 (zuF tr _)).mono ?_;rintro e w4 ⟨A,S,V,rfl,hAS,hVS,hASV,hit,hx4⟩))
 have hxl:((textL Tx.data.toList).map (fun l=>(⟨l.toArray⟩:ByteArray))).map (fun x=>x.data.toList) = textL Tx.data.toList:=by
  rw [List.map_map];exact (List.map_congr_left (g:=id) (fun l _=>rfl)).trans (List.map_id _)
 have hxs:((textL Tx.data.toList).map (fun l=>(⟨l.toArray⟩:ByteArray))).map (fun x=>x.data.toList) = cut1 10 tr.data.toList:=by rw [hxl,HTX.out];rfl
 have htz:tr.size <= 30000:=by
  have:=zsR Tx.data.toList
  rw [zbA] at this;rw [HTX.out];show (zsI Tx.data.toList).length <= 30000;omega
 have hcnt:=ztw Tx.data.toList;rw [zbA] at hcnt;have hs4:=hx4.size;have hu0:=hX1.size;obtain ⟨hA,hS,hV⟩:=hASV;have lA:=zac hit.a;have lS:=zac hit.s;have lV:=zac hit.v;simp only at lA lS lV;have hTu:∀ k,ztB w4.heap.size A S V k -> u.heap.size <= k:=fun k hk=>by
  rcases hk with e | e | e | e | e <;> omega
 have hPT:¬ ztB w4.heap.size A S V (u.heap.size + 1):=fun hk=>by
  rcases hk with e | e | e | e | e <;> omega
 have hBT:¬ ztB w4.heap.size A S V B:=fun hk=>by
  rcases hk with e | e | e | e | e <;> omega
 have hT4:∀ k,ztB w4.heap.size A S V k -> k < w4.heap.size + 2:=fun k hk=>by
  rcases hk with e | e | e | e | e <;> omega
 have hI0:ztm u (ztB w4.heap.size A S V) (u.heap.size + 1) u.heap.size B [] w4 Fs (.slice none 0 0):=by
  refine ⟨hd1.ext hx4,DOk.new (by decide) _,(hx4.cell (p:=⟨u.heap.size + 1,0,none⟩) (zac cP2) id).trans cP2,(hb1.base (by omega)).keep hx4 id (fun _ h=>by simp [Value.ownBlock] at h),Nat.le_refl _,ExtM.trans _ _ _ hX2 hx4,fun k hk=>?_,fun k hk=>by simp [Value.ownBlock] at hk⟩;have h1:=hFB k hk;have h2:=hFs k hk;refine ⟨by omega,fun h=>?_,by omega,by omega⟩;rcases h with e | e | e | e | e <;> omega
 have HSS:=Lib.hid (show zss (LSt.new 0 10 3) (textL Tx.data.toList) = sessT Tx.data.toList by unfold sessT;rw [if_neg (by rw [zbA];omega)]);generalize textL Tx.data.toList = tl at *;refine zue rfl (by omega) (gf:=45) (lb:=#[.pointer (some ⟨A,0,none⟩),.pointer (some ⟨S,0,none⟩),.pointer (some ⟨V,0,none⟩)]) rfl trivial (enters_of Tryz.func45 (by kernel_rfl) rfl) (encs:=fun x:ByteArray=>#[.string x]) (fun _=>rfl) (tl.map (fun l=>(⟨l.toArray⟩:ByteArray))) (ItM A S V)
  (fun k hk=>by rcases hk with e | e | e <;> omega) MaxP (fun pre W=>∃ Fs v,ztm u (ztB w4.heap.size A S V) (u.heap.size + 1) u.heap.size B (pre.map (fun x=>x.data.toList)) W Fs v)
  (fun pre W h=>by obtain ⟨Fs,v,h⟩:=h;exact (hl0 W h.x).m) (fun pre W W' h hx=>by obtain ⟨Fs,v,h⟩:=h;exact ⟨Fs,v,h.over hx hTu hPT hBT⟩)
  (fun l J W1 hx hGJ hJ hY h0=>zuE (9 - 1) l A S V hAS hVS (by decide) _ tr htz hxs J W1 hGJ hJ hY h0 (hit.ext hx)) ⟨Fs,_,hI0⟩
  (fun x=>{ tmps:=#[.string Tx,undef,.string ⟨#[]⟩,.pointer (some ⟨u.heap.size + 1,0,none⟩),.pointer (some ⟨B,0,none⟩),.string x,.string Tx,.int .i64 Tx.size,.bool (decide (20000 < (Tx.size:Int))),.agg #[.pointer none],.pointer (some ⟨u.heap.size,0,none⟩),.pointer (some ⟨u.heap.size,0,none⟩),.slice (some ⟨w0.heap.size,0,none⟩) 3 3,.string ⟨zc2.toArray⟩,.string Tx,.string tr,
    .func (.func 45) #[] #[.pointer (some ⟨A,0,none⟩),.pointer (some ⟨S,0,none⟩),.pointer (some ⟨V,0,none⟩)],.string x,undef,undef,undef,undef,undef,undef],defers:=[] }) ?assign ?body ?done
 case assign =>
  intro l x W K hK
  gi_wp2
  exact hK
 case body =>
  rintro l pre x W ⟨Fs,v,hI⟩ ⟨r,hr⟩ hsz;have hr2:=congrArg (List.map (fun x:ByteArray=>x.data.toList)) hr;rw [hxl,List.map_append,List.map_cons] at hr2;have hn:zs5 (pre.map (fun x=>x.data.toList)) < 600:=by
   rw [hr2,zti] at hc;omega
  have hlen:pre.length <= 20001:=by
   rw [hr2,List.length_append,List.length_map] at hcnt;omega
  have hxz:x.size <= 100000:=by
   have h1:x.data.toList ∈ cut1 10 tr.data.toList:=by rw [<- hxs,hxl,hr2];simp
   have:=zh1 10 _ _ h1
   rw [zbA,zbA] at this;omega
  have hzW:NoG Fs:=NoG.up (Fs:=fun _=>False) (w:=u) ⟨id,id,id,id,id⟩ hl (fun k hk=>.inr (hI.f k hk).1);have hli:=zu5 x hxz W u.heap.size Fs _ _ hI.d hI.ok hn (hl0 W hI.x) hzW;have hL:=zto hI.ok hn (zse x.data.toList);have hP:=hI.p;have hst:=fun W1 W2 v'=>hI.step (W1:=W1) (W2:=W2) (v':=v') (s:=x.data.toList) (fun k hk=>Nat.lt_of_lt_of_le (hT4 k hk) hsz) hPT hBT (by omega) (by omega) hn;have hsl:=hI.len;rw [List.length_map] at hsl;obtain ⟨L,hLe⟩:∃ L,L = (zsp (zs6 (LSt.new 0 10 3) (pre.map (fun x=>x.data.toList))) (zse x.data.toList)).1:=⟨_,rfl⟩
  rw [<- hLe] at hli hL;have HST:=Lib.hid hst;have HLE:=Lib.hid hLe;have HI:=Lib.hid hI;have hcat:(⟨L.toArray⟩:ByteArray) ++ ⟨#[10]⟩ = ⟨(L ++ [10]).toArray⟩:=by
   apply ByteArray.ext;simp
  clear hst hLe hI hr hr2 hc hcnt hxl hxs
  gi_wp2_with (refine ⟨trivial,?_⟩;gi_at_call 11;refine (CallsIn.inRound l (callsIn_wide.2 hli)).mono ?_;rintro e W1 ⟨rfl,hu⟩;refine Hid.out ?_)
  refine Lib.hid ?_;have hsb1:=HI.out.sb.keep hu.1 (fun e=>(HI.out.f _ e).2.2.2 rfl) (fun k hk e=>(HI.out.v k hk).2.2.2.2 e)
  have hws:=zuL u.heap.size B v _ ⟨(L ++ [10]).toArray⟩ W1 hsb1 (by
   have e1:(ByteArray.mk (L ++ [10]).toArray).size = L.length + 1:=by rw [<- zbA];simp
   rw [e1];have:pre.length * 200000001 <= 20001 * 200000001:=Nat.mul_le_mul_right _ hlen
   omega)
  clear hli
  gi_wp2_with (refine ⟨trivial,?_⟩;gi_at_call 10;refine (CallsIn.inRound l (callsIn_wide.2 hws)).mono ?_;rintro e W2 ⟨rfl,v',hsv,hx2,hv⟩)
  have hsv:SBv u.heap.size B v' (zss (LSt.new 0 10 3) (pre.map (fun x=>x.data.toList)) ++ (L ++ [10])) W2:=hsv;rw [HLE.out] at hsv;obtain ⟨⟨Fs',v2,h1⟩,h2⟩:=HST.out W1 W2 v' hu hsv hx2 hv;refine ⟨⟨Fs',v2,h1⟩,h2.mono fun k _ hk=>⟨fun e=>hk (.inl e),fun e=>hk (.inr (.inl e)),fun e=>hk (.inr (.inr e))⟩⟩
 case done =>
  rintro W ⟨Fs,v,hI⟩ hK hsz;rw [hxl] at hI;have hbs:=bs_c u.heap.size B _ W hI.sb.sb;have hX:=hI.x;rw [HSS.out] at hbs;clear hxl hxs hcnt hc
  gi_wp2_with (refine ⟨trivial,?_⟩;gi_at_call 12;refine (callsIn_wide.2 hbs).mono ?_;rintro e W2 ⟨rfl,hx2⟩;refine Hid.out ?_)
  refine Lib.hid ?_;have hX2:Ext u W2:=BExt.ext hX rfl hx2;have hK2:W2.heap[w4.heap.size]? = some (.deferred (some [])):=hx2.2 _ _ hK (fun e=>by have:=Option.some.inj e;omega) (fun _ _ e=>by cases e)
  gi_wp2
  refine ⟨by simp,.inl ⟨_,_,rfl,run_takeDeferred hK2,?_⟩⟩;exact ⟨_,results_tmp rfl _ _ _,rfl,zsE hX2 (zs7 (M:=fun k=>k = w4.heap.size) rfl) (fun k hk=>by have:k = w4.heap.size:=hk;omega)⟩
theorem s0a:textL [108,101,102,116,32,49,32,53,32,55,10,120,10] = [[108,101,102,116,32,49,32,53,32,55],[120]]:=by decide +kernel
theorem s0b:zse [108,101,102,116,32,49,32,53,32,55] = [zsr,[49],[53],[55]]:=by decide +kernel
theorem s0c:zse [120] = [[120]]:=by decide +kernel
theorem s0d:cmdN [120] = none:=by decide +kernel
theorem s0e:cmdN zsr = some 3:=by decide +kernel
theorem s0f:zs0 [[49],[53],[55]] = some [1,5,7]:=by decide +kernel
theorem s0g:errT 3 = [101,114,114,111,114,32,51]:=by decide +kernel
theorem s0h:zdO 0 10 0 ⟨1,5,7⟩ (LSt.new 0 10 3).e.st = 0:=by decide +kernel
theorem s0i:fedT (zcR 0 10 3 0 ⟨1,5,7⟩ (LSt.new 0 10 3).e.st) = [102,101,100,44,32,43,49,58,32,53,32,55,32,45]:=by decide +kernel
theorem s0j:(zsp (LSt.new 0 10 3) [zsr,[49],[53],[55]]).1 = [102,101,100,44,32,43,49,58,32,53,32,55,32,45]:=by
 have e1:zsp (LSt.new 0 10 3) [zsr,[49],[53],[55]] = ansT (doX (LSt.new 0 10 3) zsr [1,5,7]):=by
  unfold zsp;simp only [s0e];rw [if_pos (show ([[49],[53],[55]]:List (List UInt8)).length = 3 from rfl),s0f]
 have e2:doX (LSt.new 0 10 3) zsr [1,5,7] = ztd (LSt.new 0 10 3) 0 ⟨1,5,7⟩:=by
  unfold doX;rw [if_neg (by decide),if_pos rfl];rfl
 rw [e1,e2];show (if zdO 0 10 0 ⟨1,5,7⟩ (LSt.new 0 10 3).e.st = 0 then fedT (zcR 0 10 3 0 ⟨1,5,7⟩ (LSt.new 0 10 3).e.st) else errT (zdO 0 10 0 ⟨1,5,7⟩ (LSt.new 0 10 3).e.st)) = _;rw [if_pos s0h,s0i]
theorem s0k (x:LSt):(zsp x [[120]]).1 = [101,114,114,111,114,32,51]:=by
 have e:zsp x [[120]] = (errT 3,x):=by
  unfold zsp;simp only [s0d]
 rw [e];exact s0g
theorem zuK:sessT [108,101,102,116,32,49,32,53,32,55,10,120,10] = [102,101,100,44,32,43,49,58,32,53,32,55,32,45,10,101,114,114,111,114,32,51,10]:=by
 have e:sessT [108,101,102,116,32,49,32,53,32,55,10,120,10] = zss (LSt.new 0 10 3) (textL [108,101,102,116,32,49,32,53,32,55,10,120,10]):=if_neg (by decide);rw [e,s0a];show (zsp (LSt.new 0 10 3) (zse [108,101,102,116,32,49,32,53,32,55])).1 ++ [10] ++ ((zsp (zsp (LSt.new 0 10 3) (zse [108,101,102,116,32,49,32,53,32,55])).2 (zse [120])).1 ++ [10] ++ []) = _;rw [s0b,s0c,s0j,s0k];rfl
theorem zsJ (t:List UInt8) (h:t.length <= 2100):zs5 (textL t) < 600:=by
 have:=ztY t
 omega
theorem zt8 (a b:ByteArray):(a ++ b).data.toList = a.data.toList ++ b.data.toList:=by simp
theorem zul (p r:List UInt8):(ByteArray.mk (p ++ r).toArray).extract 0 p.length = ⟨p.toArray⟩:=by
 apply ByteArray.ext;rw [ByteArray.data_extract];apply Array.ext';rw [Array.toList_extract];simp
theorem zuc (a:ByteArray):(a ++ ⟨#[10]⟩:ByteArray).data.toList = a.data.toList ++ [10]:=zt8 a ⟨#[10]⟩
theorem ztT (a b:ByteArray):(a ++ ⟨#[10]⟩ ++ b:ByteArray).data.toList = a.data.toList ++ [10] ++ b.data.toList:=by rw [zt8,zuc]
theorem ztX (a:ByteArray):(a ++ ⟨#[10]⟩:ByteArray).size = a.size + 1:=by
 rw [<- zbA,zuc,List.length_append,zbA];rfl
theorem zt6 (a b:ByteArray):(a ++ ⟨#[10]⟩ ++ b:ByteArray).size = a.size + 1 + b.size:=by
 rw [<- zbA,ztT,List.length_append,List.length_append,zbA,zbA];rfl
theorem zuw (w:World) (hl:Lib4 w):Calls Tryz.prog 5 #[.string ⟨#[108,101,102,116,32,49,32,53,32,55,10,120,10]⟩] w fun e w'=>e = .returned (.string ⟨#[102,101,100,44,32,43,49,58,32,53,32,55,32,45,10,101,114,114,111,114,32,51,10]⟩) /\ Ext w w':=by
 have:=zsU ⟨#[108,101,102,116,32,49,32,53,32,55,10,120,10]⟩ w hl (show 13 <= 20000 by decide) (zsJ _ (show 13 <= 2100 by decide))
 rw [show sessT (ByteArray.mk #[108,101,102,116,32,49,32,53,32,55,10,120,10]).data.toList = [102,101,100,44,32,43,49,58,32,53,32,55,32,45,10,101,114,114,111,114,32,51,10] from zuK] at this;exact this
theorem zuv (a:ByteArray) (h:a.size <= 2000) (w:World) (hl:Lib4 w):Calls Tryz.prog 5 #[.string (a ++ ⟨#[10]⟩)] w fun e w'=>e = .returned (.string ⟨(sessT (a.data.toList ++ [10])).toArray⟩) /\ Ext w w':=by
 have:=zsU (a ++ ⟨#[10]⟩) w hl (by rw [ztX];omega) (zsJ _ (by rw [zbA,ztX];omega))
 rwa [zuc] at this
theorem zu3 (a b:ByteArray) (h:a.size + b.size <= 2000) (r:List UInt8) (hr:sessT (a.data.toList ++ [10] ++ b.data.toList) = sessT (a.data.toList ++ [10]) ++ r) (w:World) (hl:Lib4 w):Calls Tryz.prog 5 #[.string (a ++ ⟨#[10]⟩ ++ b)] w fun e w'=>e = .returned (.string ⟨(sessT (a.data.toList ++ [10]) ++ r).toArray⟩) /\ Ext w w':=by
 have:=zsU (a ++ ⟨#[10]⟩ ++ b) w hl (by rw [zt6];omega) (zsJ _ (by rw [zbA,zt6];omega))
 rwa [ztT,hr] at this
theorem zuj (a b:ByteArray) (ha:a.size <= 140737488355328) (hb:b.size <= 140737488355328) (u:World) (hl:Lib4 u):Calls Tryz.prog 3 #[.string a,.string b] u fun e u'=>e = .returned (.bool true) /\ Ext u u':=by
 have hl0:∀ w,Ext u w -> Lib4 w:=fun w hx=>hl.keepM (Fs:=fun _=>False) hx ⟨id,id,id,id,id⟩;have hwr:wrap64 ((a.size:Int) + (b.size:Int)) = (a.size:Int) + (b.size:Int):=by unfold wrap64;omega
 by_cases h:2000 < a.size + b.size
 . have h':(2000:Int) < (a.size:Int) + (b.size:Int):=by omega
   clear hl0 hl;go_enter Tryz.func3,Tryz.ntmps3;go_wp2;go_ret;exact ⟨rfl,ExtM.refl _⟩
 have h':¬ (2000:Int) < (a.size:Int) + (b.size:Int):=by omega
 obtain ⟨r,hr⟩:=ztM a.data.toList b.data.toList (by rw [zbA,zbA];omega);have h1:=Lib.hid (fun w (hx:Ext u w)=>zuw w (hl0 w hx));have h2:=Lib.hid (fun w (hx:Ext u w)=>zuv a (by omega) w (hl0 w hx));have h3:=Lib.hid (fun w (hx:Ext u w)=>zu3 a b (by omega) r hr w (hl0 w hx));clear hr hl0 hl;generalize sessT (a.data.toList ++ [10]) = p at *;have hex:=zul p r;have hps:(ByteArray.mk p.toArray).size = p.length:=by rw [<- zbA]
 have hpr:(ByteArray.mk (p ++ r).toArray).size = p.length + r.length:=by rw [<- zbA];exact List.length_append
 go_enter Tryz.func3,Tryz.ntmps3;go_upto_region 5 with (go_at_call 5;refine (h1.out _ (ExtM.refl _)).mono ?_;rintro e w1 ⟨rfl,hx1⟩;refine Hid.out ?_)
 refine Lib.hid ?_;clear h1;go_upto_region 6 with (go_at_call 5;refine (h2.out _ hx1).mono ?_;rintro e w2 ⟨rfl,hx2⟩;refine Hid.out ?_)
 refine Lib.hid ?_;have hX2:=ExtM.trans _ _ _ hx1 hx2;clear h2 hx1 hx2;go_upto_region 7 with (go_at_call 5;refine (h3.out _ hX2).mono ?_;rintro e w3 ⟨rfl,hx3⟩;refine Hid.out ?_)
 refine Lib.hid ?_;have hX3:=ExtM.trans _ _ _ hX2 hx3;clear h3 hX2 hx3;have hle:¬ (p.length + r.length < p.length):=by omega
 go_wp2;go_ret;exact ⟨rfl,hX3⟩
open Go.ChangeShapes Go.WideShapes Go.ChangeAt Go.RowKit Go.Joins Go.Plan Go.Stop Go.Extern
theorem zom : (LST1.filter fun x => x.1 == "strconv.ErrRange") = [("strconv.ErrRange", Rows.laid_strconv_ErrRange)] := by rfl
theorem znU : (LST1.filter fun x => x.1 == "strconv.ErrSyntax") = [("strconv.ErrSyntax", Rows.laid_strconv_ErrSyntax)] := by rfl
theorem zk6 : "*" ++ "errors.errorString" = "*errors.errorString" := by decide
theorem znj (u : TypeId) (h : Tryz.prog.typeName? 3 u = some "*errors.errorString") : u = 263 :=
 typeName_ptr_named (nm := "errors.errorString") (by rw [zk6]; kernel_rfl) (by kernel_rfl) (by decide) u (by rw [zk6]; exact h)
theorem zld:Tryz.prog.cellsOf 265 = 1:=by kernel_rfl
theorem zhZ:Tryz.prog.cellsOf 9 = 1:=by kernel_rfl
theorem znK {W:World} (h:laidMetH Tryz.prog LST W):ErrP W:=by
 have h1 := (laidMetH_iff.1 h).1; rw [zdT] at h1; have h2 := h1.filter (fun x => x.1 == "strconv.ErrRange"); have h3 := h1.filter (fun x => x.1 == "strconv.ErrSyntax"); rw [zom] at h2; rw [znU] at h3; obtain ⟨a0, s0, v0, -⟩ := laid_sentinel (g := 5) (ti := 40) (tp := 263) (te := 265) (ts := 9) h2 (by kernel_rfl) (by kernel_rfl) Tryz.underlying40 znj Tryz.underlying263 Tryz.underlying265 rfl rfl Tryz.underlying9 zld zhZ; obtain ⟨a1, s1, v1, -⟩ := laid_sentinel (g := 4) (ti := 40) (tp := 263) (te := 265) (ts := 9) h3 (by kernel_rfl) (by kernel_rfl) Tryz.underlying40 znj Tryz.underlying263 Tryz.underlying265 rfl rfl Tryz.underlying9 zld zhZ; have c0 := World.var?_cell (show Tryz.prog.globalNamed "strconv.ErrRange" = some 5 by kernel_rfl) v0 0; have c1 := World.var?_cell (show Tryz.prog.globalNamed "strconv.ErrSyntax" = some 4 by kernel_rfl) v1 0; exact ⟨⟨_, _, c1⟩, _, _, c0⟩
theorem zoi {W:World} (h:W.ShapedOpen Tryz.prog):MaxP W :=
 cell_of_shapedOpen_int (P:=Tryz.prog) (g:=3) (t:=3) (zero:=#[.int .i64 0]) h (of_decide_eq_true (by kernel_rfl)) (by kernel_rfl) rfl (by kernel_rfl) (by kernel_rfl) Tryz.underlying3
theorem zj7 {W:World} (h:laidMetH Tryz.prog LST W) (hs:W.ShapedOpen Tryz.prog):Lib4 W:=⟨zit h,zoi hs,znK h,znG h⟩
end Go.Proofs.YtiknejbcehpmoaaGreatDoor
namespace Go.Proofs.YtiknejbcehpmoaaGreatDoor.deskPieces
open Go.ChangeShapes Go.WideShapes Go.ChangeAt Go.RowKit Go.Joins Go.Plan Go.Deep
theorem zsK {H:Type} {enc:TypeId × Value -> H} {W:World} {base:Nat} {held:Bool} {sp:Nat -> Bool} {s:ByteArray} {d:DataW H} {p:List MemPlace}
 (h:DataW.Trod enc Tryz.prog W base sp held 9 (.string s) d p) (hz:∀ x ∈ d.weights Tryz.prog 9,x <= reachBytes):s.size <= 140737488355328:=by
 obtain ⟨n,h⟩:=h;simp only [Value.cells] at h;obtain ⟨s',e,hd,-⟩:=DataW.trod_string Tryz.underlying9 h;obtain rfl:s = s':=by simpa using e
 obtain ⟨rfl,rfl⟩:=Prod.mk.inj hd;have h1:=hz s.data.toList.length (by simp [DataW.weights]);rw [zbA] at h1;have h2:reachBytes <= 140737488355328:=by decide
 omega
theorem contract {H:Type} {enc:TypeId × Value -> H} {W:World} {base:Nat} {held:Bool} {sp:Nat -> Bool} {r:Reach} {b0:Nat} {v0 v1:Value} {d0 d1:DataW H} {p0 p1:List MemPlace} (hg:laidMetH Tryz.prog LST W) (hs:W.ShapedOpen Tryz.prog)
 (hv0:Value.okWide Tryz.prog W r b0 9 v0) (h0:DataW.Trod enc Tryz.prog W base sp held 9 v0 d0 p0) (z0:∀ x ∈ d0.weights Tryz.prog 9,x <= reachBytes)
 (hv1:Value.okWide Tryz.prog W r b0 9 v1) (h1:DataW.Trod enc Tryz.prog W base sp held 9 v1 d1 p1) (z1:∀ x ∈ d1.weights Tryz.prog 9,x <= reachBytes) :
 Calls Tryz.prog 3 #[v0,v1] W fun e w'=>e = .returned (.bool true) /\ Ext W w':=by
 obtain ⟨s,rfl⟩:=okWide_string Tryz.underlying9 hv0;obtain ⟨t,rfl⟩:=okWide_string Tryz.underlying9 hv1;exact zuj s t (zsK h0 z0) (zsK h1 z1) W (zj7 hg hs)
theorem lifted (os:Os) (started:os.Started) (H:Type) (enc:TypeId × Value -> H) :
 ReturnsInHanded {} Tryz.checked os 3 .any (fun w args=>(Rows.deskPiecesSpec.pre enc Tryz.prog Tryz.f3 [] false w args /\ laidMetH Tryz.prog LST w) /\ sizedMet enc Tryz.prog Tryz.f3 (OpenSpec.ofChange Rows.deskPiecesSpec) false w args)
  (Rows.deskPiecesSpec.post enc Tryz.prog Tryz.f3 false true false false):=by
 refine zd0 (C:=Tryz.checked) (X:=fun w _=>laidMetH Tryz.prog LST w) (fun _ _ _ hh h=>h.of_heap hh) own started (by kernel_rfl) Tryz.func3
  (ChangeSpec.witness_shaped (enc:=enc) (C:=Tryz.checked) (os:=os) (X:=fun w _=>laidMetH Tryz.prog LST w) false (zdw os) #[.string ByteArray.empty,.string ByteArray.empty] 8 rfl
    (World.shaped_of_ZipB (by kernel_rfl) (by kernel_rfl)) (by kernel_rfl) (by kernel_rfl) (by kernel_rfl) (ze7 os _)) ?_
 intro W base args ds gs before hval0 hW _ hwt hL hSh _;have hval:∀ (j:Nat) t v,Tryz.f3.params[j]? = some t -> args[j]? = some v -> Value.okWide Tryz.prog W .any base t v:=hval0;have hW':=hW;obtain ⟨p,q,hA0,hV,rfl,hfz,hnd⟩:=hW;have hA:DataW.TrodAll enc Tryz.prog W 0 (fun _=>true) true Tryz.f3.params.toList args.toList ds p:=hA0;have hg:=zit hL;rw [Tryz.params3] at hA hval;obtain ⟨v0,vs0,d0,ds0,p0,q0,hargs,rfl,rfl,h0,r0⟩:=trodAll_cons hA;obtain ⟨v1,vs1,d1,ds1,p1,q1,rfl,rfl,rfl,h1,r1⟩:=trodAll_cons r0;obtain ⟨rfl,rfl,rfl⟩:=trodAll_nil r1;obtain rfl:args = #[v0,v1]:=by cases args;simp_all
 obtain ⟨rfl,rfl⟩:=trodVars_none hV;have hlt:=hW'.lt;simp only [List.append_nil] at hW' hlt;refine (contract hL hSh (hval 0 9 v0 rfl rfl) h0 (fun x hx=>of_decide_eq_true (List.all_eq_true.1 hwt x (DataW.weights_mem_each (j:=0) (t:=9) (by rw [Tryz.params3];rfl) rfl x hx))) (hval 1 9 v1 rfl rfl) h1 (fun x hx=>of_decide_eq_true (List.all_eq_true.1 hwt x (DataW.weights_mem_each (j:=1) (t:=9) (by rw [Tryz.params3];rfl) rfl x hx)))).mono fun e W' ⟨he,hx⟩=>?_;subst he;refine ⟨_,rfl,zmn (pv:=[]) hW' rfl hx rfl ?_ rfl⟩;have hk:=trodAll_cons_mk (zoG (by kernel_rfl) (of_decide_eq_true (by kernel_rfl)) h0 hx fun x h=>hlt x (by simp [h])) (trodAll_cons_mk (zoG (by kernel_rfl) (of_decide_eq_true (by kernel_rfl)) h1 hx fun x h=>hlt x (by simp [h])) (trodAll_mk0));simp only [List.append_nil] at hk ⊢;exact hk
theorem closed:joinedFacts Tryz.pinned.checked.prog 3 Tryz.f3 Rows.deskPiecesSpec Rows.deskPiecesRow = true:=by
 unfold joinedFacts;simp only [Bool.and_eq_true]
 repeat' apply And.intro
 all_goals as_aux_lemma=>kernel_rfl
theorem said:Rows.DeskPiecesSaid :=
 OpenClaim.holds_of_wide 3 Tryz.f3 rfl rfl rfl rfl rfl rfl rfl ⟨rfl,rfl,rfl,rfl,rfl⟩ rfl rfl rfl rfl rfl (by kernel_rfl) Tryz.func3 closed
  (of_decide_eq_true (by kernel_rfl)) (by unfold Func.isWrapper;rw [if_neg (of_decide_eq_false (by kernel_rfl))];exact ⟨rfl,rfl⟩)
  (fun os started H enc _=>lifted os started H enc)
theorem plainArgs (f : FuncId) (fn : Func) (hf : Tryz.pinned.checked.prog.funcNamed "estuary/estuarykeep.DeskPieces" = some f) (hfn : Tryz.pinned.checked.prog.funcs[f]? = some fn) :
 true = Tryz.pinned.checked.prog.looks [] /\ ∀ (j:Nat) t,fn.params[j]? = some t -> Tryz.pinned.checked.prog.wantsStandIn t = false:=by
 obtain rfl : f = 3 := Option.some.inj ((show Tryz.prog.funcNamed "estuary/estuarykeep.DeskPieces" = some 3 by kernel_rfl).symm.trans hf) |>.symm
 obtain rfl:fn = Tryz.f3:=(Option.some.inj (Tryz.func3.symm.trans hfn)).symm;refine ⟨by kernel_rfl,fun j t ht=>?_⟩;rw [Tryz.params3] at ht;have h2:t = 9:=by have h9:=Array.mem_of_getElem? ht;simp at h9;first | exact h9 | (rcases h9 with h | h | h <;> first | exact .inl h | exact .inr h)
 rcases h2 with rfl
 . exact (show Tryz.prog.wantsStandIn 9 = false by kernel_rfl)
theorem holds:Rows.DeskPiecesCardSaid :=
 Claim7.holds_tied_plain_at .later [] _ _ _ _ said (fun _ h=>by cases h) (by kernel_rfl) (fun _ h=>by cases h) deskPieces_row_tie rfl ⟨rfl,rfl⟩ (by kernel_rfl) rfl plainArgs (by kernel_rfl)
#print axioms holds
end Go.Proofs.YtiknejbcehpmoaaGreatDoor.deskPieces
