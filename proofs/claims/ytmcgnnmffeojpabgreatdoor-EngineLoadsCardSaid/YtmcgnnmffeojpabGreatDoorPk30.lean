import Derived.Test.YtmcgnnmffeojpabGreatDoorPk29
import Derived.Deep.DeepCutAuto
import Derived.Deep.CutBlock
set_option maxRecDepth 100000
set_option maxHeartbeats 8000000
namespace Go.Proofs.YtmcgnnmffeojpabGreatDoor
open Go.RowKit Go.Plan
theorem zcO {lo hi:Int} {s:Nat} {t:Int} {st st1:JSt} (h:zcY lo hi s t st = some st1):(t = -1099511627777 /\ st1 = st) \/ (t ≠ -1099511627777 /\ zpG s t st.x st.y = 0 /\ st1 = zbr lo hi s t st):=by
 unfold zcY at h;split at h
 . rename_i ht;cases h;exact .inl ⟨ht,rfl⟩
 . rename_i ht;split at h
   . rename_i hm;cases h;exact .inr ⟨ht,hm,rfl⟩
   . cases h
theorem zbX {lo hi:Int} {s:Nat} {t:Int} {st st1:JSt} (h:zcY lo hi s t st = some st1):st1.a.length <= st.a.length /\ st1.b.length <= st.b.length:=by
 rcases zcO h with ⟨-,rfl⟩ | ⟨-,-,rfl⟩
 . exact ⟨Nat.le_refl _,Nat.le_refl _⟩
 . unfold zbr;split
   . exact ⟨Nat.le_refl _,List.length_filter_le _ _⟩
   . exact ⟨List.length_filter_le _ _,Nat.le_refl _⟩
theorem zlR {u w:World} {L E:Nat} {Bs:Nat -> Prop} {lo hi md:Int} {st:JSt} {V:List Out} {f0 f1:Int} (h:EUp u w E Bs lo hi md st V V f0 f1) (hl:LdIs w L (some ⟨E,0,none⟩) false):LUp u w L E Bs lo hi md st V f0 f1:=by
 obtain ⟨h1,h2⟩:=h;exact ⟨h1.mono (fun _ _ h=>.inr h),hl,h2⟩
def zpI (lo hi:Int) (s:Nat) (t c:Int) (st:JSt) (c':Int) (st':JSt):Prop :=
 ((t = -1099511627777 \/ c ≠ 0) /\ c' = c /\ st' = st) \/ (t ≠ -1099511627777 /\ c = 0 /\ zpG s t st.x st.y = c' /\ (if c' = 0 then zbr lo hi s t st else st) = st')
theorem zpI.len {lo hi t c c':Int} {s:Nat} {st st':JSt} (h:zpI lo hi s t c st c' st'):st'.a.length <= st.a.length /\ st'.b.length <= st.b.length:=by
 rcases h with ⟨-,-,rfl⟩ | ⟨-,-,-,rfl⟩
 . exact ⟨Nat.le_refl _,Nat.le_refl _⟩
 . split
   . unfold zbr;split
     . exact ⟨Nat.le_refl _,List.length_filter_le _ _⟩
     . exact ⟨List.length_filter_le _ _,Nat.le_refl _⟩
   . exact ⟨Nat.le_refl _,Nat.le_refl _⟩
theorem zpI.of {lo hi t:Int} {s:Nat} {st st':JSt} (h:zcY lo hi s t st = some st'):zpI lo hi s t 0 st 0 st':=by
 rcases zcO h with ⟨h1,h2⟩ | ⟨h1,h2,h3⟩
 . exact .inl ⟨.inl h1,rfl,h2⟩
 . exact .inr ⟨h1,rfl,h2,by rw [if_pos rfl];exact h3.symm⟩
theorem zpI.some (lo hi t c:Int) (s:Nat) (st:JSt):∃ c' st',zpI lo hi s t c st c' st':=by
 by_cases h:t = -1099511627777 \/ c ≠ 0
 . exact ⟨c,st,.inl ⟨h,rfl,rfl⟩⟩
 . exact ⟨_,_,.inr ⟨fun e=>h (.inl e),Classical.byContradiction fun e=>h (.inr e),rfl,rfl⟩⟩
theorem zpI.ok {lo hi t c:Int} {s:Nat} {st st':JSt} (h:zpI lo hi s t c st 0 st'):c = 0 /\ zcY lo hi s t st = Option.some st':=by
 rcases h with ⟨h1,h2,h3⟩ | ⟨h1,h2,h3,h4⟩
 . subst h2;refine ⟨rfl,?_⟩;unfold zcY;rw [if_pos (h1.resolve_right (fun e=>e rfl)),h3]
 . refine ⟨h2,?_⟩;unfold zcY;rw [if_neg h1,if_pos h3,<- h4,if_pos rfl]
theorem zpY {u:World} {L E:Nat} {Bs:Nat -> Prop} {lo hi md:Int} {st st1 st2:JSt} {V:List Out} {f0 f1:Int} (hL:LdIs u L (some ⟨E,0,none⟩) false) (hE:EAt u E Bs lo hi md st V V f0 f1) (hnB:¬ Bs L) (x y:Int) (a:Option Addr) (cap:Nat) (hnum:zaq u L a [x,y]) (hgB:∀ g,a = some ⟨g,0,none⟩ -> ¬ Bs g) (hp:zay lo hi) (hla:st.a.length < 1000000) (hlb:st.b.length < 1000000)
 (d0 d1 d2:Int) (hd0:d0 = 0) (h1:zpI lo hi 0 x d0 st d1 st1) (h2:zpI lo hi 1 y d1 st1 d2 st2) (bb:Bool) (hbb:bb = decide (d2 ≠ 0)) :
 Calls Tryz.prog 40 #[.pointer (some ⟨L,0,none⟩),.int .i64 2,.string ⟨#[109,97,114,107,115]⟩,.slice a 2 cap] u fun e u'=>e = .returned (.tuple #[]) /\ LUpB u u' L E Bs lo hi md st2 V f0 f1 bb:=by
 obtain ⟨g,rfl,hgL,hgu,hgc⟩:=hnum.cells (by simp);have hgB:=hgB g rfl;have g0:=hgc 0 x rfl;have g1:=hgc 1 y rfl;clear hgc hnum;obtain ⟨w1,w2,w3,w4,r1,r2,r3,r4,hx4,hlk⟩:=zdk u;have hl:=hlk zcI (by decide);rw [zja] at hl;simp only [Option.getD_some,Option.isSome_some] at hl;unfold sRow at r4;unfold zeB at r1;unfold sFed at r2;unfold zcI at r3 hl;have hmm:=@run_makeMap Tryz.prog;have HLK:=Lib.hid hlk;have HX:=Lib.hid hx4;have HL:=Lib.hid hL;have HE:=Lib.hid hE;have H1:=Lib.hid h1;have H2:=Lib.hid h2;have HBB:=Lib.hid hbb;have HD0:=Lib.hid hd0;clear hlk hx4 hL hE h1 h2 hbb hd0;go_enter Tryz.func40,Tryz.ntmps40;go_upto_region 13 with fail;have hl4:=HL.out.keep HX.out id;have hat:=HE.out.ext HX.out;have k4:=fun o=>HX.out.cell (p:=⟨g,o,none⟩) hgu id;have y0:=(k4 _).trans g0;have y1:=(k4 _).trans g1;have lg:g < w4.heap.size:=Nat.lt_of_lt_of_le hgu HX.out.size;have hlw:=hl4.lt;clear k4 g0 g1 r1 r2 r3 r4 hl hmm;go_wp2_with fail;go_loopg [124,11] 3 (fun kx s124 s11 wr=>∃ j:Nat,s124 = .int .i64 j /\ j <= 2 /\ 2 - j <= kx /\ s11 = errV (if j = 0 then d0 else if j = 1 then d1 else d2) /\ EUp w4 wr E Bs lo hi md (if j = 0 then st else if j = 1 then st1 else st2) V V f0 f1)
 case atStart=>exact ⟨0,rfl,by omega,by omega,by rw [HD0.out];rfl,EUp.same hat (ExtM.refl _)⟩
 case round =>
  obtain ⟨j,rfl,hj,hgk,rfl,hup⟩:=hrel;have hj3:j = 0 \/ j = 1 \/ j = 2:=by omega
  clear hj;rcases hj3 with rfl | rfl | rfl
  . rw [show errV (if (0:Nat) = 0 then d0 else if (0:Nat) = 1 then d1 else d2) = errV d0 from rfl];have hup':EUp w4 wr E Bs lo hi md st V V f0 f1:=hup;have HUP:=Lib.hid hup';obtain ⟨hx9,Bs1,hat9,hB1⟩:=hup';have hl9:=hl4.keep hx9 hnB;have z0:=(hx9.cell (p:=⟨g,0,none⟩) lg hgB).trans y0;have lg9:=Nat.lt_of_lt_of_le lg hx9.size;have lE9:=hat9.lt _ hat9.mine;have lL9:=hl9.lt;have c0:=hl9.c0;have n1:∀ k,k < w4.heap.size -> ¬ Bs k -> ¬ Bs1 k:=fun k hk hn e=>(hB1 k e).elim hn (fun q=>by omega);have hnL3:¬ (Bs1 L /\ L ≠ E):=fun e=>n1 L hlw hnB e.1;have hnE3:¬ (Bs1 E /\ E ≠ E):=fun e=>e.2 rfl;have hnG3:¬ (Bs1 g /\ g ≠ E):=fun e=>n1 g lg hgB e.1;have hlen:=H1.out.len;have HLN:=Lib.hid hlen;rcases H1.out with ⟨ht,hc,hs⟩ | ⟨ht,hc,hm,hs⟩
    . have HC:=Lib.hid hc;clear hc;have HS:=Lib.hid hs;clear hs hat9 hup hlen hx9 hB1 n1 hl9;by_cases hq:(x != -1099511627777) = false
      . go_wp2_with fail;go_roundg (2 - (0 + 1))
        case measure=>omega
        case rel=>exact ⟨0 + 1,by go_num,by omega,Nat.le_refl _,congrArg errV HC.out.symm,by have:=HUP.out;rw [<- HS.out] at this;exact this⟩
      . have hq:(x != -1099511627777) = true:=by simpa using hq
        have hcn:d0 ≠ 0:=ht.resolve_left (by simpa using hq);have er:errV d0 = .iface 24 (.int .i64 d0):=if_neg hcn;have HER:=Lib.hid er;rw [er];clear er hcn ht;go_wp2_with fail;go_roundg (2 - (0 + 1))
        case measure=>omega
        case rel=>exact ⟨0 + 1,by go_num,by omega,Nat.le_refl _,HER.out.symm.trans (congrArg errV HC.out.symm),by have:=HUP.out;rw [<- HS.out] at this;exact this⟩
    . obtain ⟨P,c3,hmv⟩:=ziC hat9 hp x (by omega);have hq:(x != -1099511627777) = true:=by simp [ht]
      have hm':zpG 0 x st.x st.y = d1:=hm;rw [hm',hs] at hmv;have hmv2:∀ U,Ext wr U -> Calls Tryz.prog 49 #[.pointer (some ⟨P,0,none⟩),.int .i64 0,.int .i64 x] U fun e U'=>e = .returned (errV d1) /\ ExtM (fun k=>Bs1 k /\ k ≠ E) U U' /\ EUp U U' E Bs1 lo hi md st1 V V f0 f1:=hmv;have HX9:=Lib.hid hx9;have HB1:=Lib.hid hB1;have er:errV d0 = .nilIface:=if_pos hc;rw [er];clear hs ht hm hm' hmv hat9 hup hlen hx9 hB1 n1 hl9 er hc;go_upto_region 17 with fail;refine Plan.b0 (Plan.Ext3 L E g) 14 ?_;refine Plan.qs 12 [0,1,2,3,4,5,6,7,8,9,10,11] ?_;iterate 12 go_big_quiet_step (fail)
      refine Plan.o1 12 fun K hK=>?_;go_wp2_with (fail);refine (hmv2 _ (ExtM.refl _).drew).mono ?_;rintro e w6 ⟨rfl,h6,hup⟩;have H6:=Ext3.trans _ _ _ (Ext3.refl _).drew (Ext3.of_M hnL3 hnE3 hnG3 h6);obtain ⟨hc6,hf6,-⟩:=Ext3.rules H6;have hs6_0:L < w6.heap.size:=by have:=H6.size;(try simp at this);omega
      have hs6_1:E < w6.heap.size:=by have:=H6.size;(try simp at this);omega
      have hs6_2:g < w6.heap.size:=by have:=H6.size;(try simp at this);omega
      go_wp2_with (fail);refine hK _ _ (Ext3.of_M hnL3 hnE3 hnG3 h6) ?_;clear hK K;refine Plan.qs 1 [13] ?_;go_big_quiet_step (fail);refine Plan.dn ?_;have hupA:=EUp.trans HX9.out HB1.out (EUp.before ((ExtM.refl _).drew) hup);have HA:=Lib.hid hupA;clear hupA hup h6 H6 hmv2;go_wp2_with fail;go_roundg (2 - (0 + 1))
      case measure=>omega
      case rel=>exact ⟨0 + 1,by go_num,by omega,Nat.le_refl _,rfl,HA.out⟩
  . rw [show errV (if (1:Nat) = 0 then d0 else if (1:Nat) = 1 then d1 else d2) = errV d1 from rfl];have hup':EUp w4 wr E Bs lo hi md st1 V V f0 f1:=hup;have HUP:=Lib.hid hup';obtain ⟨hx9,Bs1,hat9,hB1⟩:=hup';have hl9:=hl4.keep hx9 hnB;have z1:=(hx9.cell (p:=⟨g,1,none⟩) lg hgB).trans y1;have lg9:=Nat.lt_of_lt_of_le lg hx9.size;have lE9:=hat9.lt _ hat9.mine;have lL9:=hl9.lt;have c0:=hl9.c0;have n1:∀ k,k < w4.heap.size -> ¬ Bs k -> ¬ Bs1 k:=fun k hk hn e=>(hB1 k e).elim hn (fun q=>by omega);have hnL3:¬ (Bs1 L /\ L ≠ E):=fun e=>n1 L hlw hnB e.1;have hnE3:¬ (Bs1 E /\ E ≠ E):=fun e=>e.2 rfl;have hnG3:¬ (Bs1 g /\ g ≠ E):=fun e=>n1 g lg hgB e.1;have hlen:=H1.out.len;have HLN:=Lib.hid hlen;rcases H2.out with ⟨ht,hc,hs⟩ | ⟨ht,hc,hm,hs⟩
    . have HC:=Lib.hid hc;clear hc;have HS:=Lib.hid hs;clear hs hat9 hup hlen hx9 hB1 n1 hl9;by_cases hq:(y != -1099511627777) = false
      . go_wp2_with fail;go_roundg (2 - (1 + 1))
        case measure=>omega
        case rel=>exact ⟨1 + 1,by go_num,by omega,Nat.le_refl _,congrArg errV HC.out.symm,by have:=HUP.out;rw [<- HS.out] at this;exact this⟩
      . have hq:(y != -1099511627777) = true:=by simpa using hq
        have hcn:d1 ≠ 0:=ht.resolve_left (by simpa using hq);have er:errV d1 = .iface 24 (.int .i64 d1):=if_neg hcn;have HER:=Lib.hid er;rw [er];clear er hcn ht;go_wp2_with fail;go_roundg (2 - (1 + 1))
        case measure=>omega
        case rel=>exact ⟨1 + 1,by go_num,by omega,Nat.le_refl _,HER.out.symm.trans (congrArg errV HC.out.symm),by have:=HUP.out;rw [<- HS.out] at this;exact this⟩
    . obtain ⟨P,c3,hmv⟩:=ziB hat9 hp y (by omega);have hq:(y != -1099511627777) = true:=by simp [ht]
      have hm':zpG 1 y st1.x st1.y = d2:=hm;rw [hm',hs] at hmv;have hmv2:∀ U,Ext wr U -> Calls Tryz.prog 49 #[.pointer (some ⟨P,0,none⟩),.int .i64 1,.int .i64 y] U fun e U'=>e = .returned (errV d2) /\ ExtM (fun k=>Bs1 k /\ k ≠ E) U U' /\ EUp U U' E Bs1 lo hi md st2 V V f0 f1:=hmv;have HX9:=Lib.hid hx9;have HB1:=Lib.hid hB1;have er:errV d1 = .nilIface:=if_pos hc;rw [er];clear hs ht hm hm' hmv hat9 hup hlen hx9 hB1 n1 hl9 er hc;go_upto_region 17 with fail;refine Plan.b0 (Plan.Ext3 L E g) 14 ?_;refine Plan.qs 12 [0,1,2,3,4,5,6,7,8,9,10,11] ?_;iterate 12 go_big_quiet_step (fail)
      refine Plan.o1 12 fun K hK=>?_;go_wp2_with (fail);refine (hmv2 _ (ExtM.refl _).drew).mono ?_;rintro e w6 ⟨rfl,h6,hup⟩;have H6:=Ext3.trans _ _ _ (Ext3.refl _).drew (Ext3.of_M hnL3 hnE3 hnG3 h6);obtain ⟨hc6,hf6,-⟩:=Ext3.rules H6;have hs6_0:L < w6.heap.size:=by have:=H6.size;(try simp at this);omega
      have hs6_1:E < w6.heap.size:=by have:=H6.size;(try simp at this);omega
      have hs6_2:g < w6.heap.size:=by have:=H6.size;(try simp at this);omega
      go_wp2_with (fail);refine hK _ _ (Ext3.of_M hnL3 hnE3 hnG3 h6) ?_;clear hK K;refine Plan.qs 1 [13] ?_;go_big_quiet_step (fail);refine Plan.dn ?_;have hupA:=EUp.trans HX9.out HB1.out (EUp.before ((ExtM.refl _).drew) hup);have HA:=Lib.hid hupA;clear hupA hup h6 H6 hmv2;go_wp2_with fail;go_roundg (2 - (1 + 1))
      case measure=>omega
      case rel=>exact ⟨1 + 1,by go_num,by omega,Nat.le_refl _,rfl,HA.out⟩
  . rw [show errV (if (2:Nat) = 0 then d0 else if (2:Nat) = 1 then d1 else d2) = errV d2 from rfl];have hl9:=hl4.keep hup.1 hnB;have hfin:=zpS HX.out (zlR hup hl9) hnB HL.out.lt bb;have c1:=hl9.c1;have cf:=hl9.f 1;have lL9:=hl9.lt;have HF:=Lib.hid hfin;clear hfin hl9 hup hat y0 y1;by_cases hc:d2 = 0
    . subst hc;have er:errV 0 = .nilIface:=rfl;rw [er];obtain rfl:bb = false:=HBB.out;go_wp2_with fail;go_end0;exact ⟨rfl,HF.out⟩
    . have er:errV d2 = .iface 24 (.int .i64 d2):=if_neg hc;rw [er];obtain rfl:bb = true:=by rw [HBB.out];simpa using hc
      clear er hc;go_wp2_with fail;go_end0;exact ⟨rfl,HF.out⟩
theorem zh8 {u:World} {L E:Nat} {Bs:Nat -> Prop} {lo hi md:Int} {st st1 st2:JSt} {V:List Out} {f0 f1:Int} (hL:LdIs u L (some ⟨E,0,none⟩) false) (hE:EAt u E Bs lo hi md st V V f0 f1) (hnB:¬ Bs L) (x y:Int) (a:Option Addr) (cap:Nat) (hnum:zaq u L a [x,y]) (hgB:∀ g,a = some ⟨g,0,none⟩ -> ¬ Bs g) (hp:zay lo hi) (hla:st.a.length < 1000000) (hlb:st.b.length < 1000000) (h1:zcY lo hi 0 x st = some st1) (h2:zcY lo hi 1 y st1 = some st2) :
 Calls Tryz.prog 40 #[.pointer (some ⟨L,0,none⟩),.int .i64 2,.string ⟨#[109,97,114,107,115]⟩,.slice a 2 cap] u fun e u'=>e = .returned (.tuple #[]) /\ LUp u u' L E Bs lo hi md st2 V f0 f1 :=
 zpY hL hE hnB x y a cap hnum hgB hp hla hlb 0 0 0 rfl (.of h1) (.of h2) false rfl
def LdC (u:World) (B C L:Nat):Option ESt -> Prop
 | none=>LdIs u L none false /\ B <= L /\ L < C
 | some e=>∃ E Bs,LdIs u L (some ⟨E,0,none⟩) false /\ EAt u E Bs e.lo e.hi e.md e.st e.V e.V e.f0 e.f1 /\ ¬ Bs L /\ (B <= L /\ L < C) /\ ∀ k,Bs k -> B <= k /\ k < C
def LdAt (u:World) (B L:Nat) (e:Option ESt):Prop:=LdC u B u.heap.size L e
theorem LdC.inn {u:World} {B C L:Nat} {e:Option ESt} (h:LdC u B C L e):(B <= L /\ L < C) /\ L < u.heap.size:=by
 cases e with
 | none=>exact ⟨h.2,h.1.lt⟩
 | some e=>obtain ⟨E,Bs,h1,-,-,h2,-⟩:=h;exact ⟨h2,h1.lt⟩
theorem LdC.keep {M:Nat -> Prop} {u u':World} {B C L:Nat} {e:Option ESt} (h:LdC u B C L e) (hx:ExtM M u u') (hM:∀ k,k < C -> ¬ M k):LdC u' B C L e:=by
 cases e with
 | none=>exact ⟨h.1.keep hx (hM L h.2.2),h.2⟩
 | some e =>
   obtain ⟨E,Bs,h1,h2,h3,h4,h5⟩:=h;exact ⟨E,Bs,h1.keep hx (hM L h4.2),h2.keep hx (fun k hk=>hM k (h5 k hk).2),h3,h4,h5⟩
theorem LdC.set {u:World} {B C L:Nat} {e:Option ESt} (h:LdC u B C L e):LdC (u.setCell ⟨L,1,none⟩ (.bool false)) B C L e:=by
 have hs:ExtM (fun k=>k = L) u (u.setCell ⟨L,1,none⟩ (.bool false)):=ExtM.setCell (M:=fun k=>k = L) (p:=⟨L,1,none⟩) (ExtM.refl _) (.inr rfl) _;cases e with
 | none=>exact ⟨h.1.set false,h.2⟩
 | some e =>
   obtain ⟨E,Bs,h1,h2,h3,h4,h5⟩:=h;exact ⟨E,Bs,h1.set false,h2.keep hs (fun k hk e=>h3 (e ▸ hk)),h3,h4,h5⟩
theorem LdAt.of_up {u u':World} {B C L E:Nat} {Bs:Nat -> Prop} {e:ESt} (h:LUp u u' L E Bs e.lo e.hi e.md e.st e.V e.f0 e.f1) (hn:¬ Bs L) (hL:B <= L) (hl:L < u.heap.size) (hB:∀ k,Bs k -> B <= k /\ k < C):LdAt u' B L (some e) /\ Plan.ExtF B u u':=by
 obtain ⟨h1,h2,Bs',h3,h4⟩:=h;refine ⟨⟨E,Bs',h2,h3,fun e=>(h4 L e).elim hn (fun q=>by omega),⟨hL,h2.lt⟩,fun k hk=>⟨(h4 k hk).elim (fun q=>(hB k q).1) (fun q=>by omega),h3.lt k hk⟩⟩,h1.mono (fun k _ hk=>?_)⟩;rcases hk with rfl | hk
 . exact hL
 . exact (hB k hk).1
theorem zo4 {u:World} {B C L:Nat} (h:LdC u B C L none) (b c d:Int) (a:Option Addr) (cap:Nat) (hnum:zaq u L a [b,c,d]) (hc:checkI b c d = 0) :
 Calls Tryz.prog 40 #[.pointer (some ⟨L,0,none⟩),.int .i64 0,.string ⟨#[112,108,97,110]⟩,.slice a 3 cap] u fun e u'=>e = .returned (.tuple #[]) /\ LdAt u' B L (some ⟨b,c,d,⟨[],[],-1099511627777,-1099511627777,0⟩,[],0,0⟩) /\ Plan.ExtF B u u':=by
 obtain ⟨hL,hB,hC⟩:=h;refine (zjn hL b c d a cap hnum hc).mono ?_;rintro e u' ⟨rfl,E,Bs,h1,h2,h3,h4⟩;have hl:=hL.lt;exact ⟨rfl,⟨E,Bs,h2,h3,fun e=>by have:=h4 L e;omega,⟨hB,h2.lt⟩,fun k hk=>⟨by have:=h4 k hk;omega,h3.lt k hk⟩⟩,h1.mono (fun k _ e=>by have e':k = L:=e;show B <= k;omega)⟩
theorem zpy {u:World} {B C L:Nat} {e:ESt} (h:LdC u B C L (some e)) (i:Int) (hi:3 <= i) (s k t q m:Int) (a:Option Addr) (cap:Nat) (hnum:zaq u L a [s,k,t,q,m]) (ha:∀ g,a = some ⟨g,0,none⟩ -> C <= g) (hp:zcF s ⟨⟨k,t,q⟩,m⟩ e.st = 0) :
 Calls Tryz.prog 40 #[.pointer (some ⟨L,0,none⟩),.int .i64 i,.string ⟨#[114,111,119]⟩,.slice a 5 cap] u fun r u'=>r = .returned (.tuple #[]) /\ LdAt u' B L (some { e with st:=putJ s.toNat ⟨⟨k,t,q⟩,m⟩ e.st }) /\ Plan.ExtF B u u':=by
 obtain ⟨E,Bs,hL,hE,hn,hB,hBs⟩:=h;have hgB:∀ g,a = some ⟨g,0,none⟩ -> ¬ Bs g:=fun g hg hb=>by have:=ha g hg;have:=hBs g hb;omega
 refine (zlu hL hE hn i hi s k t q m a cap hnum hgB hp).mono ?_;rintro r u' ⟨rfl,hup⟩;exact ⟨rfl,LdAt.of_up (e:={ e with st:=putJ s.toNat ⟨⟨k,t,q⟩,m⟩ e.st }) hup hn hB.1 hL.lt hBs⟩
theorem zpA {u:World} {B C L:Nat} {e:ESt} (h:LdC u B C L (some e)) (i:Int) (hi:3 <= i) (n:List Int) (a:Option Addr) (cap:Nat) (hnum:zaq u L a n) (ha:∀ g,a = some ⟨g,0,none⟩ -> C <= g) (hV:e.V.length < 900000) (x:Out) (hxo:outE n = some x) :
 Calls Tryz.prog 40 #[.pointer (some ⟨L,0,none⟩),.int .i64 i,.string ⟨#[111,117,116]⟩,.slice a n.length cap] u fun r u'=>r = .returned (.tuple #[]) /\ LdAt u' B L (some { e with V:=x :: e.V }) /\ Plan.ExtF B u u':=by
 obtain ⟨E,Bs,hL,hE,hn,hB,hBs⟩:=h;have hgB:∀ g,a = some ⟨g,0,none⟩ -> ¬ Bs g:=fun g hg hb=>by have:=ha g hg;have:=hBs g hb;omega
 refine (zkZ hL hE hn i hi n a cap hnum hV x hxo).mono ?_;rintro r u' ⟨rfl,hup⟩;exact ⟨rfl,LdAt.of_up (e:={ e with V:=x :: e.V }) hup hn hB.1 hL.lt hBs⟩
theorem zp6 {u:World} {B C L:Nat} {e:ESt} (h:LdC u B C L (some e)) (b c d:Int) (a:Option Addr) (cap:Nat) (hnum:zaq u L a [b,c,d]) (ha:∀ g,a = some ⟨g,0,none⟩ -> C <= g) (hb:0 <= b) (hc:0 <= c) (hd:0 <= d) :
 Calls Tryz.prog 40 #[.pointer (some ⟨L,0,none⟩),.int .i64 1,.string ⟨#[102,101,100]⟩,.slice a 3 cap] u fun r u'=>r = .returned (.tuple #[]) /\ LdAt u' B L (some { e with f0:=b,f1:=c,st:={ e.st with late:=d } }) /\ Plan.ExtF B u u':=by
 obtain ⟨E,Bs,hL,hE,hn,hB,hBs⟩:=h;have hgB:∀ g,a = some ⟨g,0,none⟩ -> ¬ Bs g:=fun g hg hb=>by have:=ha g hg;have:=hBs g hb;omega
 refine (zli hL hE hn b c d a cap hnum hgB hb hc hd).mono ?_;rintro r u' ⟨rfl,hup⟩;exact ⟨rfl,LdAt.of_up (e:={ e with f0:=b,f1:=c,st:={ e.st with late:=d } }) hup hn hB.1 hL.lt hBs⟩
theorem zn2 {u:World} {B C L:Nat} {e:ESt} (h:LdC u B C L (some e)) (x y:Int) (a:Option Addr) (cap:Nat) (hnum:zaq u L a [x,y]) (ha:∀ g,a = some ⟨g,0,none⟩ -> C <= g) (hp:zay e.lo e.hi) (hla:e.st.a.length < 1000000) (hlb:e.st.b.length < 1000000) {st1 st2:JSt} (h1:zcY e.lo e.hi 0 x e.st = some st1) (h2:zcY e.lo e.hi 1 y st1 = some st2) :
 Calls Tryz.prog 40 #[.pointer (some ⟨L,0,none⟩),.int .i64 2,.string ⟨#[109,97,114,107,115]⟩,.slice a 2 cap] u fun r u'=>r = .returned (.tuple #[]) /\ LdAt u' B L (some { e with st:=st2 }) /\ Plan.ExtF B u u':=by
 obtain ⟨E,Bs,hL,hE,hn,hB,hBs⟩:=h;have hgB:∀ g,a = some ⟨g,0,none⟩ -> ¬ Bs g:=fun g hg hb=>by have:=ha g hg;have:=hBs g hb;omega
 refine (zh8 hL hE hn x y a cap hnum hgB hp hla hlb h1 h2).mono ?_;rintro r u' ⟨rfl,hup⟩;exact ⟨rfl,LdAt.of_up (e:={ e with st:=st2 }) hup hn hB.1 hL.lt hBs⟩
def LnOk (i:Nat) (e:ESt):Prop:=zay e.lo e.hi /\ e.st.a.length <= 300 /\ e.st.b.length <= 300 /\ e.V.length <= i
theorem zhV {hs:List Hd} {x:Hd} (he:addE hs x = 0) (h:hs.length <= 300):(addL hs x).length <= 300:=by
 have hl:hs.length < 300:=by
  unfold addE at he;split at he
  . cases he
  . split at he
    . cases he
    . omega
 unfold addL;rw [if_pos he];unfold addH insH;simp;omega
theorem zdS {s:Int} {x:Hd} {st:JSt} (hp:zcF s x st = 0) (ha:st.a.length <= 300) (hb:st.b.length <= 300):(putJ s.toNat x st).a.length <= 300 /\ (putJ s.toNat x st).b.length <= 300:=by
 unfold zcF at hp;split at hp
 . rename_i h0;subst h0;exact ⟨zhV hp ha,hb⟩
 . split at hp
   . rename_i h1;subst h1;exact ⟨ha,zhV hp hb⟩
   . cases hp
inductive zfb:Nat -> List UInt8 -> List Int -> Option ESt -> ESt -> Prop
 | plan (a b c:Int) (e:Option ESt) (h:checkI a b c = 0):zfb 0 zc2 [a,b,c] e ⟨a,b,c,⟨[],[],-1099511627777,-1099511627777,0⟩,[],0,0⟩
 | fed (a b c:Int) (e:ESt) (h0:0 <= a) (h1:0 <= b) (h2:0 <= c):zfb 1 wFed [a,b,c] (some e) { e with f0:=a,f1:=b,st:={ e.st with late:=c } }
 | marks (x y:Int) (e:ESt) (st1 st2:JSt) (h1:zcY e.lo e.hi 0 x e.st = some st1) (h2:zcY e.lo e.hi 1 y st1 = some st2):zfb 2 zbW [x,y] (some e) { e with st:=st2 }
 | row (i:Nat) (hi:3 <= i) (s k t v m:Int) (e:ESt) (h:zcF s ⟨⟨k,t,v⟩,m⟩ e.st = 0):zfb i wRow [s,k,t,v,m] (some e) { e with st:=putJ s.toNat ⟨⟨k,t,v⟩,m⟩ e.st }
 | out (i:Nat) (hi:3 <= i) (n:List Int) (e:ESt) (x:Out) (h:outE n = some x):zfb i wOut n (some e) { e with V:=x :: e.V }
theorem zfF {i:Nat} {nm:List UInt8} {n:List Int} {e:Option ESt} {e':ESt} (h:zb3 i nm n e = some e'):zfb i nm n e e':=by
 unfold zb3 at h;split at h
 . rename_i hw;subst hw;split at h
   . split at h
     . rename_i hc;cases h;obtain ⟨rfl,hc⟩:=hc;exact .plan _ _ _ _ hc
     . cases h
   . cases h
 . split at h
   . cases h
   . rename_i e0;split at h
     . cases h
     . rename_i hi0;split at h
       . rename_i hw;subst hw;split at h
         . split at h
           . rename_i hc;cases h;obtain ⟨rfl,h0,h1,h2⟩:=hc;exact .fed _ _ _ _ h0 h1 h2
           . cases h
         . cases h
       . split at h
         . cases h
         . rename_i hi1;split at h
           . rename_i hw;subst hw;split at h
             . split at h
               . rename_i hi2;subst hi2;obtain ⟨st2,h1,rfl⟩:=Option.map_eq_some_iff.1 h;obtain ⟨st1,h2,h3⟩:=Option.bind_eq_some_iff.1 h1;exact .marks _ _ _ _ _ h2 h3
               . cases h
             . cases h
           . split at h
             . cases h
             . rename_i hi2;split at h
               . rename_i hw;subst hw;split at h
                 . split at h
                   . rename_i hp;cases h;exact .row _ (by omega) _ _ _ _ _ _ hp
                   . cases h
                 . cases h
               . split at h
                 . rename_i hw;subst hw;obtain ⟨x,h1,rfl⟩:=Option.map_eq_some_iff.1 h;exact .out _ (by omega) _ _ _ h1
                 . cases h
theorem ziA {i:Nat} {nm:List UInt8} {n:List Int} {e:Option ESt} {e':ESt} (h:zb3 i nm n e = some e') (ho:∀ x,e = some x -> LnOk i x):LnOk (i + 1) e':=by
 cases zfF h with
 | plan a b c e hc=>exact ⟨zgW hc,Nat.zero_le _,Nat.zero_le _,Nat.zero_le _⟩
 | fed a b c e=>obtain ⟨h1,h2,h3,h4⟩:=ho _ rfl;exact ⟨h1,h2,h3,by show e.V.length <= _;omega⟩
 | marks x y e st1 st2 m1 m2 =>
   obtain ⟨h1,h2,h3,h4⟩:=ho _ rfl;have k1:=zbX m1;have k2:=zbX m2;exact ⟨h1,by show st2.a.length <= _;omega,by show st2.b.length <= _;omega,by show e.V.length <= _;omega⟩
 | row i hi s k t v m e hp =>
   obtain ⟨h1,h2,h3,h4⟩:=ho _ rfl;exact ⟨h1,(zdS hp h2 h3).1,(zdS hp h2 h3).2,by show e.V.length <= _;omega⟩
 | out i hi n e x =>
   obtain ⟨h1,h2,h3,h4⟩:=ho _ rfl;exact ⟨h1,h2,h3,by show (x :: e.V).length <= _;rw [List.length_cons];omega⟩
theorem zpl {u:World} {B C L:Nat} {e:Option ESt} {e':ESt} (h:LdC u B C L e) (i:Nat) (hi:i < 800000) (s:ByteArray) (n:List Int) (a:Option Addr) (cap:Nat) (hnum:zaq u L a n) (ha:∀ g,a = some ⟨g,0,none⟩ -> C <= g)
 (ho:∀ x,e = some x -> LnOk i x) (h0:i = 0 -> e = none) (hl:zb3 i s.data.toList n e = some e') :
 Calls Tryz.prog 40 #[.pointer (some ⟨L,0,none⟩),.int .i64 i,.string s,.slice a n.length cap] u fun r u'=>r = .returned (.tuple #[]) /\ LdAt u' B L (some e') /\ Plan.ExtF B u u':=by
 obtain ⟨⟨l⟩⟩:=s;have hl:zb3 i l n e = some e':=hl;cases zfF hl with
 | plan b c d e hc=>obtain rfl:=h0 rfl;exact zo4 h b c d a cap hnum hc
 | fed b c d e q0 q1 q2=>exact zp6 h b c d a cap hnum ha q0 q1 q2
 | marks x y e st1 st2 m1 m2 =>
   obtain ⟨h1,h2,h3,h4⟩:=ho _ rfl;exact zn2 h x y a cap hnum ha h1 (by omega) (by omega) m1 m2
 | row i hi3 s k t v m e hp=>exact zpy h i (by omega) s k t v m a cap hnum ha hp
 | out i hi3 n e x hx =>
   obtain ⟨h1,h2,h3,h4⟩:=ho _ rfl;exact zpA h i (by omega) n a cap hnum ha (by omega) x hx
theorem zir {x:Out} (h:zhl x):(x.hl = true \/ x.hr = true) /\ x.ok:=by
 rcases h with ⟨s,r,hs,hg,rfl⟩ | ⟨l,r,hl,hr,hk,rfl⟩
 . have:=hg.i64
   have hs':s = 0 \/ s = 1:=by omega
   rcases hs' with rfl | rfl
   . exact ⟨.inl rfl,zjP hg⟩
   . exact ⟨.inr rfl,zkW hg⟩
 . exact ⟨.inl rfl,zkj hl hr⟩
theorem znR {n:List Int} {x:Out} (h:outE n = some x):zhl x:=by
 unfold outE at h;split at h
 . split at h
   . rename_i hh;cases h;have hg:za0 ⟨_,_,_⟩:=hh.2;refine .inl ⟨_,_,?_,hg,rfl⟩;split <;> omega
   . cases h
 . split at h
   . rename_i hh;cases h;have h1:za0 ⟨_,_,_⟩:=hh.2.1;have h2:za0 ⟨_,_,_⟩:=hh.2.2.1;exact .inr ⟨_,_,h1,h2,hh.2.2.2,rfl⟩
   . cases h
 . cases h
def I64s (n:List Int):Prop:=∀ k ∈ n,-9223372036854775808 <= k /\ k <= 9223372036854775807
theorem zew:∀ (ws:List (List UInt8)) {n:List Int},zbz ws = some n -> I64s n
 | [],n,h=>by cases h;exact fun _ h=>nomatch h
 | w :: ws,n,h=>by
   rw [zbz] at h;split at h
   . rename_i k hk;obtain ⟨m,hm,rfl⟩:=Option.map_eq_some_iff.1 h;intro q hq;rcases List.mem_cons.1 hq with rfl | hq
     . exact Lib.atoiAll_bounds hk
     . exact zew ws hm q hq
   . cases h
theorem zl5 {s:Int} {x:Hd} {st:JSt} (hp:zcF s x st = 0) (hm:x.m <= 9223372036854775807) (ha:∀ h ∈ st.a,za0 h.r /\ 0 <= h.m /\ h.m <= 9223372036854775807) (hb:∀ h ∈ st.b,za0 h.r /\ 0 <= h.m /\ h.m <= 9223372036854775807) :
 (∀ h ∈ (putJ s.toNat x st).a,za0 h.r /\ 0 <= h.m /\ h.m <= 9223372036854775807) /\ (∀ h ∈ (putJ s.toNat x st).b,za0 h.r /\ 0 <= h.m /\ h.m <= 9223372036854775807) /\ (putJ s.toNat x st).x = st.x /\ (putJ s.toNat x st).y = st.y /\ (putJ s.toNat x st).late = st.late:=by
 have hgo:∀ hs:List Hd,addE hs x = 0 -> (∀ h ∈ hs,za0 h.r /\ 0 <= h.m /\ h.m <= 9223372036854775807) -> ∀ h ∈ addL hs x,za0 h.r /\ 0 <= h.m /\ h.m <= 9223372036854775807:=by
  intro hs he hh y hy;have hx:za0 x.r /\ 0 <= x.m /\ x.m <= 9223372036854775807:=by
   unfold addE at he;split at he
   . cases he
   . rename_i hg;simp only [Bool.and_eq_false_imp,Classical.not_imp,Bool.not_eq_false,decide_eq_true_eq] at hg;exact ⟨hg.1,hg.2,hm⟩
  unfold addL at hy;rw [if_pos he] at hy;unfold addH insH at hy;simp only [List.mem_append,List.mem_cons] at hy;rcases hy with hy | rfl | hy
  . exact hh y (List.mem_of_mem_take hy)
  . exact hx
  . exact hh y (List.mem_of_mem_drop hy)
 unfold zcF at hp;split at hp
 . rename_i h0;subst h0;exact ⟨hgo _ hp ha,hb,rfl,rfl,rfl⟩
 . split at hp
   . rename_i h1;subst h1;exact ⟨ha,hgo _ hp hb,rfl,rfl,rfl⟩
   . cases hp
theorem zgG {lo hi t:Int} {s:Nat} {st st':JSt} (h:zcY lo hi s t st = some st'):(∀ g ∈ st'.a,g ∈ st.a) /\ (∀ g ∈ st'.b,g ∈ st.b) /\ (st'.x = st.x \/ st'.x = t) /\ (st'.y = st.y \/ st'.y = t) /\ st'.late = st.late:=by
 unfold zcY at h;split at h
 . cases h;exact ⟨fun _ h=>h,fun _ h=>h,.inl rfl,.inl rfl,rfl⟩
 . split at h
   . cases h;unfold zbr;split
     . exact ⟨fun _ h=>h,fun g hg=>(List.mem_filter.1 hg).1,.inr rfl,.inl rfl,rfl⟩
     . exact ⟨fun g hg=>(List.mem_filter.1 hg).1,fun _ h=>h,.inl rfl,.inr rfl,rfl⟩
   . cases h
theorem zlc {i:Nat} {nm:List UInt8} {n:List Int} {e:Option ESt} {e':ESt} (h:zb3 i nm n e = some e') (hn:I64s n) (ho:∀ x,e = some x -> SOk x /\ LnOk i x) (hi:i < 800000):SOk e':=by
 have hlen:=ziA h (fun x hx=>(ho x hx).2);cases zfF h with
 | plan a b c e h =>
   have:=hn a (by simp);have:=hn b (by simp);have:=hn c (by simp)
   refine ⟨?_,(fun _ h=>nomatch h),(fun _ h=>nomatch h),Nat.zero_le _,Nat.zero_le _,(fun _ h=>nomatch h),Nat.zero_le _⟩;intro k hk;simp only [List.mem_cons,List.not_mem_nil,or_false] at hk;omega
 | fed a b c e =>
   obtain ⟨hs,-⟩:=ho _ rfl
   have:=hn a (by simp);have:=hn b (by simp);have:=hn c (by simp)
   have h0:=hs.l0;refine ⟨?_,hs.ga,hs.gb,hs.la,hs.lb,hs.v,hs.lv⟩;simp only [List.mem_cons,List.not_mem_nil,or_false,forall_eq_or_imp,forall_eq] at h0 ⊢;omega
 | marks x y e st1 st2 m1 m2 =>
   obtain ⟨hs,-⟩:=ho _ rfl
   have:=hn x (by simp);have:=hn y (by simp)
   have h0:=hs.l0;obtain ⟨a1,b1,x1,y1,l1⟩:=zgG m1;obtain ⟨a2,b2,x2,y2,l2⟩:=zgG m2;have k1:=zbX m1;have k2:=zbX m2;have q1:=hs.la;have q2:=hs.lb;refine ⟨?_,fun g hg=>hs.ga g (a1 g (a2 g hg)),fun g hg=>hs.gb g (b1 g (b2 g hg)),by show st2.a.length <= _;omega,by show st2.b.length <= _;omega,hs.v,hs.lv⟩;simp only [List.mem_cons,List.not_mem_nil,or_false,forall_eq_or_imp,forall_eq] at h0 ⊢;omega
 | row i hi s k t v m e hp =>
   obtain ⟨hs,hl⟩:=ho _ rfl
   have:=hn m (by simp)
   have h0:=hs.l0;obtain ⟨a1,b1,x1,y1,l1⟩:=zl5 hp (by show m <= _;omega) hs.ga hs.gb;obtain ⟨q1,q2⟩:=zdS hp hs.la hs.lb;refine ⟨?_,a1,b1,q1,q2,hs.v,hs.lv⟩;simp only [List.mem_cons,List.not_mem_nil,or_false,forall_eq_or_imp,forall_eq] at h0 ⊢;simp only [x1,y1,l1];omega
 | out i hi n e x hx =>
   obtain ⟨hs,hl⟩:=ho _ rfl;refine ⟨hs.l0,hs.ga,hs.gb,hs.la,hs.lb,fun y hy=>?_,?_⟩
   . rcases List.mem_cons.1 hy with rfl | hy
     . exact zir (znR hx)
     . exact hs.v y hy
   . have h9:(x :: e.V).length <= i + 1:=hlen.2.2.2;show (x :: e.V).length <= _;omega
def zg7 (i:Nat) (xs:List (List UInt8)):Option (Option ESt) -> Option (Option ESt)
 | none=>none
 | some e=>zbt i xs e
def zc5 (i:Nat) (x:List UInt8):Option (Option ESt) -> Option (Option ESt)
 | none=>none
 | some e=>match zbz (cut1 32 x).tail with | none=>none | some n=>(zb3 i ((cut1 32 x).headD []) n e).map some
theorem zjs (i:Nat) (x:List UInt8) (xs:List (List UInt8)) (r:Option (Option ESt)):zg7 i (x :: xs) r = zg7 (i + 1) xs (zc5 i x r):=by
 cases r with
 | none=>rfl
 | some e =>
   show zbt i (x :: xs) e = zg7 (i + 1) xs (zc5 i x (some e));rw [zbt];unfold zc5;cases h:zbz (cut1 32 x).tail with
   | none=>rfl
   | some n =>
     simp only;cases h2:zb3 i ((cut1 32 x).headD []) n e with
     | none=>rfl
     | some e'=>rfl
def ROk (i:Nat) (r:Option (Option ESt)):Prop:=∀ e,r = some (some e) -> SOk e /\ LnOk i e
theorem zkr {i:Nat} {x:List UInt8} {r:Option (Option ESt)} (h:ROk i r) (hi:i < 800000):ROk (i + 1) (zc5 i x r):=by
 intro e he;cases r with
 | none=>cases he
 | some e0 =>
   unfold zc5 at he;simp only at he;split at he
   . cases he
   . rename_i n hn;obtain ⟨e1,h1,h2⟩:=Option.map_eq_some_iff.1 he;cases h2;exact ⟨zlc h1 (zew _ hn) (fun x hx=>h x (by rw [hx])) hi,ziA h1 (fun x hx=>(h x (by rw [hx])).2)⟩
def zpo (i:Nat) (r:Option (Option ESt)):Prop:=(i = 0 -> r = some none) /\ (0 < i -> r ≠ some none)
theorem zet {i:Nat} {x:List UInt8} {r:Option (Option ESt)}:zpo (i + 1) (zc5 i x r):=by
 refine ⟨fun h=>by omega,fun _ h=>?_⟩;cases r with
 | none=>cases h
 | some e0 =>
   unfold zc5 at h;simp only at h;split at h
   . cases h
   . obtain ⟨e1,h1,h2⟩:=Option.map_eq_some_iff.1 h;cases h2
theorem zd1 (w:List UInt8):∀ ws:List (List UInt8),zbz (ws ++ [w]) = match zbz ws with | none=>none | some n=>match Lib.atoiAll w with | .ok k=>some (n ++ [k]) | _=>none
 | []=>by
   show zbz [w] = match some [] with | none=>none | some n=>match Lib.atoiAll w with | .ok k=>some (n ++ [k]) | _=>none
   rw [zbz,zbz];cases Lib.atoiAll w with
   | ok k=>rfl
   | _=>rfl
 | v :: ws=>by
   rw [List.cons_append,zbz,zbz,zd1 w ws];cases Lib.atoiAll v with
   | ok k =>
     simp only;cases zbz ws with
     | none=>rfl
     | some n =>
       simp only [Option.map_some];cases Lib.atoiAll w with
       | ok k=>rfl
       | _=>rfl
   | _=>rfl
theorem zmI (s:List UInt8) (ls:List (List UInt8)) (h:ls = cut1 10 s) :
 zfM s = if 60000 < s.length \/ ls.length < 5 \/ ls[ls.length - 2]? ≠ some wEnd \/ ls[ls.length - 1]? ≠ some [] then none else match zg7 0 (ls.take (ls.length - 2)) (some none) with | some (some e)=>if savedT e = s then some e else none | _=>none:=by
 subst h;rfl
def ErrP (w:World):Prop:=(∃ t p,w.cell? ⟨3,0,none⟩ = some (.iface t p)) /\ ∃ t p,w.cell? ⟨4,0,none⟩ = some (.iface t p)
theorem ErrP.lt {w:World} (h:ErrP w):3 < w.heap.size /\ 4 < w.heap.size:=by
 obtain ⟨⟨_,_,h1⟩,_,_,h2⟩:=h;exact ⟨zac h1,zac h2⟩
theorem ErrP.keep {M:Nat -> Prop} {w w':World} (h:ErrP w) (hx:ExtM M w w') (h1:¬ M 3) (h2:¬ M 4):ErrP w':=by
 have hl:=h.lt;obtain ⟨⟨t,p,q1⟩,t',p',q2⟩:=h;exact ⟨⟨t,p,(hx.cell (p:=⟨3,0,none⟩) hl.1 h1).trans q1⟩,t',p',(hx.cell (p:=⟨4,0,none⟩) hl.2 h2).trans q2⟩
theorem zjT (s:ByteArray) (w:World) (hs:s.size <= 1000000000) (hE:ErrP w) :
 Calls Tryz.prog 39 #[.string s] w fun e w'=>∃ k ev,e = .returned (.tuple #[.int .i64 k,ev]) /\ Ext w w' /\ ((Lib.atoiAll s.data.toList = .ok k /\ ev = .nilIface) \/ ((∀ n,Lib.atoiAll s.data.toList ≠ .ok n) /\ ∃ t p,ev = .iface t p)):=by
 obtain ⟨⟨t1,p1,h1⟩,t2,p2,h2⟩:=hE;cases hh:Lib.atoiAll s.data.toList with
 | ok n =>
   refine (zoD s n w hs hh).mono ?_;rintro e w' ⟨rfl,hx⟩;exact ⟨n,_,rfl,hx,.inl ⟨rfl,rfl⟩⟩
 | range =>
   refine (Any.strconv_Atoi_range Tryz.shAtoi s (by omega) hh _ w h2 (.inr ⟨t2,p2,rfl⟩)).mono ?_;rintro e w' ⟨N,rfl,-,-,hx⟩;exact ⟨_,_,rfl,zdf hx,.inr ⟨(fun n h=>nomatch h),_,_,rfl⟩⟩
 | _ =>
   refine (Any.strconv_Atoi_syntax Tryz.shAtoi s (by omega) hh _ w h1 (.inr ⟨t1,p1,rfl⟩)).mono ?_;rintro e w' ⟨N,rfl,-,-,hx⟩;exact ⟨_,_,rfl,zdf hx,.inr ⟨(fun n h=>nomatch h),_,_,rfl⟩⟩
def zhE (u:World) (B C L:Nat):Prop:=u.cell? ⟨L,1,none⟩ = some (.bool true) /\ u.frozen? ⟨L,1,none⟩ = false /\ B <= L /\ L < C
theorem zhE.keep {M:Nat -> Prop} {u u':World} {B C L:Nat} (h:zhE u B C L) (hx:ExtM M u u') (hM:¬ M L):zhE u' B C L :=
 ⟨(hx.cell (p:=⟨L,1,none⟩) (zac h.1) hM).trans h.1,(hx.frozen (p:=⟨L,1,none⟩) (zac h.1) hM).trans h.2.1,h.2.2⟩
theorem zlv {u:World} {B C L:Nat} {b:Bool} (h1:u.cell? ⟨L,1,none⟩ = some (.bool b)) (h2:u.frozen? ⟨L,1,none⟩ = false) (h3:B <= L /\ L < C):zhE (u.setCell ⟨L,1,none⟩ (.bool true)) B C L :=
 ⟨World.cell?_setCell_same _ _ _ h1,(World.frozen?_setCell _ _ _ _).trans h2,h3⟩
def LdS (u:World) (B C L:Nat):Option (Option ESt) -> Prop
 | none=>zhE u B C L
 | some e=>LdC u B C L e
theorem LdS.inn {u:World} {B C L:Nat} {r:Option (Option ESt)} (h:LdS u B C L r):(B <= L /\ L < C) /\ L < u.heap.size:=by
 cases r with
 | none=>exact ⟨h.2.2,zac h.1⟩
 | some e=>exact LdC.inn h
theorem LdS.keep {M:Nat -> Prop} {u u':World} {B C L:Nat} {r:Option (Option ESt)} (h:LdS u B C L r) (hx:ExtM M u u') (hM:∀ k,k < C -> ¬ M k):LdS u' B C L r:=by
 cases r with
 | none=>exact zhE.keep h hx (hM L h.2.2.2)
 | some e=>exact LdC.keep h hx hM
theorem LdC.bad {u:World} {B C L:Nat} {e:Option ESt} (h:LdC u B C L e):u.cell? ⟨L,1,none⟩ = some (.bool false) /\ u.frozen? ⟨L,1,none⟩ = false:=by
 cases e with
 | none=>exact ⟨h.1.c1,h.1.f 1⟩
 | some e=>obtain ⟨E,Bs,h1,-⟩:=h;exact ⟨h1.c1,h1.f 1⟩
theorem LdS.bad {u:World} {B C L:Nat} {r:Option (Option ESt)} (h:LdS u B C L r):u.cell? ⟨L,1,none⟩ = some (.bool r.isNone) /\ u.frozen? ⟨L,1,none⟩ = false:=by
 cases r with
 | none=>exact ⟨h.1,h.2.1⟩
 | some e=>exact LdC.bad h
def midR (r:Option (Option ESt)) (ws:List (List UInt8)):Option (Option ESt):=match zbz ws with | none=>none | some _=>r
theorem zgD (r:Option (Option ESt)) (w:List UInt8) (ws:List (List UInt8)) :
 (∃ k,Lib.atoiAll w = .ok k /\ midR r (ws ++ [w]) = midR r ws) \/ (∀ k,Lib.atoiAll w ≠ .ok k) /\ midR r (ws ++ [w]) = none:=by
 unfold midR;rw [zd1];cases h:Lib.atoiAll w with
 | ok k =>
   refine .inl ⟨k,rfl,?_⟩;cases zbz ws <;> rfl
 | _ =>
   refine .inr ⟨(fun k h=>nomatch h),?_⟩;cases zbz ws <;> rfl
theorem LdS.put {u:World} {B C L:Nat} {r:Option (Option ESt)} {ws:List (List UInt8)} {w:List UInt8} (h:LdS u B C L (midR r ws)) :
 (∀ k,Lib.atoiAll w = .ok k -> LdS (u.setCell ⟨L,1,none⟩ (.bool (midR r ws).isNone)) B C L (midR r (ws ++ [w]))) /\ ((∀ k,Lib.atoiAll w ≠ .ok k) -> LdS (u.setCell ⟨L,1,none⟩ (.bool true)) B C L (midR r (ws ++ [w]))):=by
 obtain ⟨h1,h2⟩:=h.bad;obtain ⟨h3,-⟩:=h.inn;constructor
 . intro k hk;rcases zgD r w ws with ⟨k',-,e⟩ | ⟨hn,-⟩
   . rw [e];cases hm:midR r ws with
     | none=>rw [hm] at h1;exact zlv h1 h2 h3
     | some e=>rw [hm] at h;exact LdC.set h
   . exact absurd hk (hn k)
 . intro hn;rcases zgD r w ws with ⟨k',hk,-⟩ | ⟨-,e⟩
   . exact absurd hk (hn k')
   . rw [e];exact zlv h1 h2 h3
def BadC:Prop:=∀ (u:World) (B C L:Nat) (e:Option ESt) (i:Nat) (s:ByteArray) (n:List Int) (a:Option Addr) (cap:Nat),LdC u B C L e -> s.size <= 1000000000 -> i < 800000 -> zaq u L a n -> (∀ g,a = some ⟨g,0,none⟩ -> C <= g) -> (∀ x,e = some x -> SOk x /\ LnOk i x) -> I64s n ->
    (i = 0 -> e = none) -> (0 < i -> e ≠ none) -> zb3 i s.data.toList n e = none -> Laid u ->
    Calls Tryz.prog 40 #[.pointer (some ⟨L,0,none⟩),.int .i64 i,.string s,.slice a n.length cap] u fun r u'=>r = .returned (.tuple #[]) /\ zhE u' B u'.heap.size L /\ Plan.ExtF B u u'
def zpR (u:World) (s:List UInt8) (r:Ending) (u':World):Prop :=
 Ext u u' /\ match zfM s with
  | none=>r = .returned (.tuple #[.pointer none,errV 3])
  | some e=>∃ E Bs,r = .returned (.tuple #[.pointer (some ⟨E,0,none⟩),.nilIface]) /\ EAt u' E Bs e.lo e.hi e.md e.st e.V e.V e.f0 e.f1 /\ ∀ k,Bs k -> u.heap.size <= k
theorem zn1 (x:ByteArray) (w:World) (hs:x.size < 4294967281) (hm:MaxP w) :
 Calls Tryz.prog 38 #[.string x,.string ⟨#[32]⟩] w fun e w'=>∃ (nm:ByteArray) (ws:List ByteArray),nm.data.toList = (cut1 32 x.data.toList).headD [] /\ ws.map (·.data.toList) = (cut1 32 x.data.toList).tail /\ e = .returned (.slice (some ⟨w.heap.size,0,none⟩) (ws.length + 1) (ws.length + 1)) /\ w' = w.alloc (.cells (Value.string nm :: ws.map Value.string).toArray 9):=by
 refine (zkB 32 x w hs hm).mono ?_;rintro e w' ⟨l,hl,rfl,rfl⟩;cases l with
 | nil=>exact absurd hl.symm (znF _ _)
 | cons nm ws =>
   rw [<- hl];exact ⟨nm,ws,rfl,rfl,rfl,rfl⟩
theorem LdC.up {u:World} {B C C' L:Nat} {e:Option ESt} (h:LdC u B C L e) (hC:C <= C'):LdC u B C' L e:=by
 cases e with
 | none=>exact ⟨h.1,h.2.1,by have:=h.2.2;omega⟩
 | some e =>
   obtain ⟨E,Bs,h1,h2,h3,h4,h5⟩:=h;exact ⟨E,Bs,h1,h2,h3,⟨h4.1,by omega⟩,fun k hk=>⟨(h5 k hk).1,by have:=(h5 k hk).2;omega⟩⟩
theorem LdS.up {u:World} {B C C' L:Nat} {r:Option (Option ESt)} (h:LdS u B C L r) (hC:C <= C'):LdS u B C' L r:=by
 cases r with
 | none=>exact ⟨h.1,h.2.1,h.2.2.1,by have:=h.2.2.2;omega⟩
 | some e=>exact LdC.up h hC
theorem zh1 (c:UInt8):∀ s:List UInt8,∀ p ∈ cut1 c s,p.length <= s.length
 | [],p,hp=>by simp [cut1] at hp;subst hp;simp
 | b :: r,p,hp=>by
   have ih:=zh1 c r;unfold cut1 at hp;split at hp
   . rcases List.mem_cons.1 hp with rfl | hp
     . simp
     . have:=ih p hp;simp only [List.length_cons];omega
   . split at hp
     . rename_i h t e;rw [e] at ih;rcases List.mem_cons.1 hp with rfl | hp
       . have:=ih h List.mem_cons_self;simp only [List.length_cons];omega
       . have:=ih p (List.mem_cons_of_mem _ hp);simp only [List.length_cons];omega
     . rw [List.mem_singleton] at hp;subst hp;simp
theorem zjx {i:Nat} {x nm:List UInt8} {ws:List (List UInt8)} {r:Option (Option ESt)} (h1:nm = (cut1 32 x).headD []) (h2:ws = (cut1 32 x).tail) :
 (midR r ws = none /\ zc5 i x r = none) \/ ∃ e n,r = some e /\ midR r ws = some e /\ zbz ws = some n /\ zc5 i x r = (zb3 i nm n e).map some:=by
 subst h1;subst h2;unfold midR zc5;cases r with
 | none=>refine .inl ⟨?_,rfl⟩;split <;> rfl
 | some e =>
   cases h:zbz (cut1 32 x).tail with
   | none=>exact .inl ⟨rfl,rfl⟩
   | some n=>exact .inr ⟨e,n,rfl,rfl,rfl,rfl⟩
theorem zbA (s:ByteArray):s.data.toList.length = s.size:=by rw [Array.length_toList];rfl
theorem zib (w:World) (l:List ByteArray) (i:Nat) (h:i < l.length):(w.alloc (.cells (l.map Value.string).toArray 9)).cell? ⟨w.heap.size,i,none⟩ = some (.string l[i]) :=
 (World.cell?_alloc_at _ _ _ i rfl).trans (by simp [h])
theorem zpa {u:World} (s:ByteArray) (hs:s.size < 4000000000) (hm:MaxP u) (hE:ErrP u) (ht:TabP u) (hLd:Laid u) (hB:zfM s.data.toList = none -> BadC) :
 Calls Tryz.prog 6 #[.string s] u fun e u'=>zpR u s.data.toList e u':=by
 have hsz:s.data.toList.length = s.size:=by rw [Array.length_toList];rfl
 have hsp:=zkB 10 s u (by omega) hm;go_enter Tryz.func6,Tryz.ntmps6;go_wp2_with (go_at_call 38;refine hsp.mono ?_;rintro e w1 ⟨ls,hls,rfl,rfl⟩;refine Hid.out ?_);refine Lib.hid ?_;have hcell:=zib u ls;have hx1:Ext u (u.alloc (.cells (ls.map Value.string).toArray 9)):=(ExtM.refl _).alloc _;have hbl:u.heap.size < (u.alloc (.cells (ls.map Value.string).toArray 9)).heap.size:=by rw [World.size_alloc];omega
 have HLS:=Lib.hid hls;clear hls hsp;generalize u.alloc (.cells (ls.map Value.string).toArray 9) = w1 at *;have hout:zfM s.data.toList = none -> zpR u s.data.toList (.returned (.tuple #[.pointer none,errV 3])) w1:=fun h=>by
  unfold zpR;rw [h];exact ⟨hx1,rfl⟩
 have hq:=zmI _ _ HLS.out;by_cases h1:60000 < s.size
 . have d1:decide ((60000:Int) < s.size) = true:=by simp;omega
   have d1':decide (60000 < s.size) = true:=by simp;omega
   rw [if_pos (.inl (by omega))] at hq;have hfin:=hout hq;clear hout hq;go_wp2_with fail;go_ret2;exact hfin
 have d1:decide ((60000:Int) < s.size) = false:=by simp;omega
 have d1':decide (60000 < s.size) = false:=by simp;omega
 by_cases h2:ls.length < 5
 . have d2:decide ((ls.length:Int) < 5) = true:=by simp;omega
   have d2':decide (ls.length < 5) = true:=by simp;omega
   rw [List.length_map,if_pos (.inr (.inl (by omega)))] at hq;have hfin:=hout hq;clear hout hq;go_wp2_with fail;go_ret2;exact hfin
 have d2:decide ((ls.length:Int) < 5) = false:=by simp;omega
 have d2':decide (ls.length < 5) = false:=by simp;omega
 have hl2:ls.length - 2 < ls.length:=by omega
 have hl1:ls.length - 1 < ls.length:=by omega
 have y2:=hcell _ hl2;have y1:=hcell _ hl1;have q2:(ls.map (·.data.toList))[ls.length - 2]? = some (ls[ls.length - 2].data.toList):=by simp [hl2]
 have q1:(ls.map (·.data.toList))[ls.length - 1]? = some (ls[ls.length - 1].data.toList):=by simp [hl1]
 rw [List.length_map,q2,q1] at hq;have hnl:ls.length <= 60001:=by
  have:=congrArg List.length HLS.out
  rw [List.length_map] at this;have h9:=zer 10 _ s.data.toList (Nat.le_refl _);omega
 have t2:=Lib.toList_data ls[ls.length - 2];have t1:=Lib.toList_data ls[ls.length - 1];rw [<- t2,<- t1] at hq;clear q1 q2 t1 t2;by_cases h3:ls[ls.length - 2].toList = [101,110,100]
 . by_cases h4:ls[ls.length - 1].toList = []
   . have h5:ls[ls.length - 1].toList.isEmpty = true:=by rw [h4];rfl
     rw [if_neg (by rw [h3,h4];unfold wEnd;simp;omega)] at hq;have HQ:=Lib.hid hq;have HO:=Lib.hid hout;clear hq hout;go_upto_region 5 with fail;have hxa:Ext w1 (w1.alloc (.cells #[.pointer none,.bool false] 95)):=(ExtM.refl _).alloc _;have hL0:LdS (w1.alloc (.cells #[.pointer none,.bool false] 95)) w1.heap.size (w1.alloc (.cells #[.pointer none,.bool false] 95)).heap.size w1.heap.size (some none):=by
      refine ⟨⟨?_,?_,fun q=>?_⟩,Nat.le_refl _,?_⟩
      . go_simp
      . go_simp
      . rw [Go.RowKit.frozen?_alloc_cells];simp [World.frozen?]
      . rw [World.size_alloc];omega
     generalize w1.alloc (.cells #[.pointer none,.bool false] 95) = w2 at *;have hE2:ErrP w2:=hE.keep (ExtM.trans _ _ _ hx1 hxa) id id;have hm2:MaxP w2:=hm.ext (ExtM.trans _ _ _ hx1 hxa);have ht2:TabP w2:=ht.keep ((ExtM.trans _ _ _ hx1 hxa:Ext u w2).block _ ht.lt id);have hl2d:Laid w2:=(hLd.of hx1).of hxa;have hcw:∀ (i:Nat) (h:i < ls.length),w2.cell? ⟨u.heap.size,i,none⟩ = some (.string ls[i]):=fun i h=>(hxa.cell (p:=⟨u.heap.size,i,none⟩) hbl id).trans (hcell i h);have hLb:=hL0.inn;have gE:=hE.lt;have gm:=hm.lt;have gt:=ht.lt;generalize hB0:w1.heap.size = B at *;have hBu:u.heap.size < B:=hbl;have HB0:=Lib.hid hB0;clear y1 y2 h3 h4 h5;generalize ls[ls.length - 1] = z1 at *;generalize ls[ls.length - 2] = z2 at *;clear hB0 hcell hl1 hbl d1 d1' d2 d2' hE hm ht hLd;obtain ⟨m,hmm⟩:∃ m,m = ls.length - 2:=⟨_,rfl⟩
     have hml:m + 2 <= ls.length:=by omega
     have hml':m <= 60000:=by omega
     rw [<- hmm] at hl2 HQ;go_wp2_with fail;rw [<- hmm];have HMM:=Lib.hid hmm;clear hmm;go_loopg [53] (m + 1) (fun kx s53 wr=>∃ (i:Nat) (r:Option (Option ESt)),s53 = .int .i64 i /\ i <= m /\ m - i <= kx /\ LdS wr B wr.heap.size B r /\ Plan.ExtF B w2 wr /\ zg7 i (((ls.map (·.data.toList)).take m).drop i) r = zg7 0 ((ls.map (·.data.toList)).take m) (some none) /\ ROk i r /\ zpo i r)
     case atStart=>exact ⟨0,some none,rfl,by omega,by omega,hL0,ExtF.refl _,rfl,(fun e h=>nomatch h),⟨fun _=>rfl,fun h=>by omega⟩⟩
     case round =>
      obtain ⟨i,r,rfl,hi,hgo,hS,hF,hR,hok,hrn⟩:=hrel;by_cases him:i < m
      . have hil:i < ls.length:=by omega
        have hcr:=(hF.rules.1 u.heap.size i (zac (hcw i hil)) hBu).trans (hcw i hil);have hdr:((ls.map (·.data.toList)).take m).drop i = ls[i].data.toList :: ((ls.map (·.data.toList)).take m).drop (i + 1):=by
         rw [List.drop_eq_getElem_cons (by rw [List.length_take,List.length_map];omega)];simp
        have hls0:ls[i].data.toList ∈ cut1 10 s.data.toList:=by rw [<- HLS.out];exact List.mem_map.2 ⟨_,List.getElem_mem hil,rfl⟩
        have hxs:ls[i].size <= 60000:=by
         have:=zh1 10 _ _ hls0
         rw [zbA,zbA] at this;omega
        rw [hdr,zjs] at hR;have HR:=Lib.hid hR;have hlB:=hS.inn;have hmr:MaxP wr:=hm2.keep (hF.block _ (by have:=hxa.size;have:=hx1.size;omega) (by omega));have hEr:ErrP wr:=hE2.keep hF (by omega) (by omega);have hLr:Laid wr:=hl2d.ofM hF (by omega);have hlu:u.heap.size < wr.heap.size:=by omega
        clear hR hdr hls0;generalize ls[i] = x at *;have hwc:=zn1 x wr (by omega) hmr;go_wp2_with (go_at_call 38;refine hwc.mono ?_;rintro e w3 ⟨nm,ws,hnm,hws,rfl,rfl⟩;refine Hid.out ?_);refine Lib.hid ?_;clear hwc;have hxw:Ext wr (wr.alloc (.cells (Value.string nm :: ws.map Value.string).toArray 9)):=(ExtM.refl _).alloc _;have hcw3:=zib wr (nm :: ws);rw [List.map_cons] at hcw3;have hsz3:(wr.alloc (.cells (Value.string nm :: ws.map Value.string).toArray 9)).heap.size = wr.heap.size + 1:=World.size_alloc _ _;have hwl:ws.length <= 60000 /\ (∀ y ∈ ws,y.size <= 60000):=by
         have h9:=zer 32 _ x.data.toList (Nat.le_refl _);rw [zbA] at h9;constructor
         . have:=congrArg List.length hws
           rw [List.length_map,List.length_tail] at this;omega
         . intro y hy;have:y.data.toList ∈ cut1 32 x.data.toList:=List.mem_of_mem_tail (by rw [<- hws];exact List.mem_map.2 ⟨y,hy,rfl⟩)
           have:=zh1 32 _ _ this
           rw [zbA,zbA] at this;omega
        obtain ⟨hwl,hwy⟩:=hwl;have hnmz:nm.size <= 60000:=by
         have h1:nm.data.toList ∈ cut1 32 x.data.toList:=by
          rw [hnm];cases hc:cut1 32 x.data.toList with
          | nil=>exact absurd hc (znF _ _)
          | cons p q=>exact List.mem_cons_self
         have:=zh1 32 _ _ h1
         rw [zbA,zbA] at this;omega
        have hS3:=(hS.keep hxw (fun _ _ h=>h)).up (show wr.heap.size <= wr.heap.size + 1 by omega);have hF3:Plan.ExtF B w2 _:=ExtF.trans _ _ _ hF (ExtF.of_ext hxw);have HNM:=Lib.hid hnm;have HWS:=Lib.hid hws;generalize wr.alloc (.cells (Value.string nm :: ws.map Value.string).toArray 9) = w3 at *;generalize hN:wr.heap.size = N at *;have HN:=Lib.hid hN;have hBN:B < N:=by omega
        have hm3:MaxP w3:=hmr.ext hxw;have hE3:ErrP w3:=hEr.keep hxw id id;have hL3:Laid w3:=hLr.of hxw;have hN3:N < w3.heap.size:=by omega
        have hnm0:w3.cell? ⟨N,0,none⟩ = some (.string nm):=hcw3 0 (by simp);have hws0:∀ (j:Nat) (h:j < ws.length),w3.cell? ⟨N,1 + j,none⟩ = some (.string ws[j]):=fun j h=>by
         have:=hcw3 (j + 1) (by simpa using h)
         rw [show 1 + j = j + 1 by omega];exact this
        clear hnm hws hN hS hF hxw hmr hEr hLr hcw3 hcr;go_upto_region 10 with fail;go_cut [61,62,63] (fun s61 s62 s63 wx=>∃ o,s61 = .slice (some ⟨N,o,none⟩) ws.length ws.length /\ s62 = .int .i64 ws.length /\ s63 = .int .i64 0 /\ (0 < ws.length -> o = 1) /\ wx = w3)
        case first =>
         by_cases h0:ws.length = 0
         . obtain rfl:ws = []:=List.eq_nil_of_length_eq_zero h0;simp only [List.length_nil];go_wp2_with fail;go_meet
           case rel=>exact ⟨0,rfl,rfl,rfl,fun h=>absurd h (by decide),rfl⟩
         . have h0':¬ 1 = ws.length + 1:=by omega
           go_wp2_with fail;go_meet
           case rel=>exact ⟨1,rfl,rfl,rfl,fun _=>rfl,rfl⟩
        case rest =>
         obtain ⟨o,rfl,rfl,rfl,ho,rfl⟩:=hcut;generalize wc = wS at *;obtain ⟨W,hW⟩:∃ W,W = ws.map (·.data.toList):=⟨_,rfl⟩
         have hWl:W.length = ws.length:=by rw [hW,List.length_map]
         have HW:=Lib.hid hW;have HWL:=Lib.hid hWl;rw [<- hW] at HWS;clear hW hWl;generalize hC:wS.heap.size = C at *;have hNC:N < C:=hN3;have HC:=Lib.hid hC;clear hC hN3;have hS3':LdS wS B C B (midR r (W.take 0)):=by rw [List.take_zero];exact hS3.up (by omega)
         go_wp2_with fail;go_loopg [9,63] (ws.length + 1) (fun kx s9 s63 w4=>∃ (j:Nat) (n:List Int),s63 = .int .i64 j /\ j <= ws.length /\ ws.length - j <= kx /\ n.length = j /\ IR w4 C s9 n /\ LdS w4 B C B (midR r (W.take j)) /\ ExtM (fun k=>k = B \/ C <= k) wS w4 /\ (zbz (W.take j) = some n \/ zbz (W.take j) = none))
         case atStart=>exact ⟨0,[],rfl,by omega,by omega,rfl,⟨rfl,.inl ⟨rfl,rfl⟩⟩,hS3',ExtM.refl _,.inl rfl⟩
         case round =>
          clear hS3 hS3';obtain ⟨j,n,rfl,hj,hgk,hnj,hir,hS4,hX,hnum⟩:=hrel;have HNJ:=Lib.hid hnj;clear hnj;have hCw:C <= wr.heap.size:=by have:=hX.size;have:=HC.out;omega
          by_cases hjl:j < ws.length
          . skip;have hNl:N < wS.heap.size:=by have:=HC.out;omega
            have hyc:=(hX.cell (p:=⟨N,1 + j,none⟩) hNl (show ¬ (N = B \/ C <= N) by omega)).trans (hws0 j hjl);have ho1:o = 1:=ho (by omega);have hys:=hwy _ (List.getElem_mem hjl)
            have HTK:Hid (W.take (j + 1) = W.take j ++ [ws[j].data.toList]):=Lib.hid (by
             have hjW:j < W.length:=by rw [HWL.out];exact hjl
             rw [List.take_succ_eq_append_getElem hjW];congr 2
             have:=HW.out;subst this;simp)
            have hEr:ErrP wr:=hE3.keep hX (by omega) (by omega);generalize ws[j] = y at *;have hat:=zjT y wr (by omega) hEr;have hNw:N < wr.heap.size:=by omega
            subst ho1;go_wp2_with (go_at_call 39;refine hat.mono ?_;rintro e w5 ⟨k,ev,rfl,hx5,hA⟩;refine Hid.out ?_);refine Lib.hid ?_;clear hat hyc hEr;have hS5:=hS4.keep hx5 (fun _ _ h=>h);have hir5:IR w5 C u9 n:=zag hir hx5 (fun _ _ h=>h);obtain ⟨c1,cf⟩:=hS5.bad;have hlB5:=hS5.inn.2;have hsz5:=hx5.size;have hput:=LdS.put (w:=y.data.toList) hS5;rw [<- HTK.out] at hput;have hX5:ExtM (fun k=>k = B \/ C <= k) wS w5:=ExtM.trans _ _ _ hX (hx5.mono fun _ _ h=>h.elim);generalize hbb:(midR r (W.take j)).isNone = bb at *;clear hbb;go_upto_region 14 with fail;go_cut [] (fun wx=>LdS wx B C B (midR r (W.take (j + 1))) /\ ExtM (fun k=>k = B) w5 wx)
            case first =>
             rcases hA with ⟨hk,rfl⟩ | ⟨hn,t,p,rfl⟩
             . have hpt:=hput.1 k hk;cases bb
               all_goals
                go_wp2_with fail;go_meet
                case rel=>exact ⟨hpt,ExtM.setCell (M:=fun k=>k = B) (p:=⟨B,1,none⟩) (ExtM.refl _) (.inr rfl) _⟩
             . have hpt:=hput.2 hn;cases bb
               all_goals
                go_wp2_with fail;go_meet
                case rel=>exact ⟨hpt,ExtM.setCell (M:=fun k=>k = B) (p:=⟨B,1,none⟩) (ExtM.refl _) (.inr rfl) _⟩
            case rest =>
             obtain ⟨hS6,hx6⟩:=hcut;have hir6:IR wc C u9 n:=zag hir5 hx6 (fun k hk e=>by have h1:=(zaf hir5 k hk).1;have h2:k = B:=e;omega);have hX6:ExtM (fun k=>k = B \/ C <= k) wS wc:=ExtM.trans _ _ _ hX5 (hx6.mono fun _ _ h=>.inl h);have hCw6:C <= wc.heap.size:=by have:=hx6.size;omega
             obtain ⟨v',w',happ,hir',hxr,hloc⟩:=zbe (wc.alloc (.cells #[.int .i64 k] 3)) C wc.heap.size 1 u9 n [k] 81 (zag hir6 ((ExtM.refl _).alloc _:Ext wc _) (fun _ _ h=>h))
              (fun q v hq=>(World.cell?_alloc_at _ _ _ q rfl).trans (by simpa using hq)) (by have:=HNJ.out;simp only [List.length_cons,List.length_nil];omega) (by rw [World.size_alloc];omega)
             have hxc:ExtM (fun k=>C <= k) wc w':=(((ExtM.refl _).alloc _:Ext wc _).mono (fun _ _ h=>h.elim)).fresh' hxr (fun k hk e=>(zaf hir6 k e).1);have hS':=hS6.keep hxc (fun k hk e=>by omega);have hX':ExtM (fun k=>k = B \/ C <= k) wS w':=ExtM.trans _ _ _ hX6 (hxc.mono fun _ _ h=>.inr h);obtain ⟨pv,cv,hpv,-⟩:=zaa hir6;have HALL:=Lib.hid (⟨hir',hS',hX'⟩:_ /\ _ /\ _);subst hpv;have hnn:zbz (W.take (j + 1)) = some (n ++ [k]) \/ zbz (W.take (j + 1)) = none:=by
              rw [HTK.out,zd1];rcases hnum with h | h
              . rw [h];rcases hA with ⟨hk,-⟩ | ⟨hn,-⟩
                . rw [hk];exact .inl rfl
                . cases hh:Lib.atoiAll y.data.toList with
                  | ok q=>exact absurd hh (hn q)
                  | _=>exact .inr rfl
              . rw [h];exact .inr rfl
             clear hir' hS' hX' hxr hloc hxc hS6 hir6 hX6 hput c1 cf hS5 hir5 hX5 hA hx5 hx6;go_wp2_with (at_builtin;refine wpList_append_run happ rfl rfl _ _ rfl rfl rfl ?_;clear happ);go_roundg (ws.length - (j + 1))
             case measure=>omega
             case rel =>
              obtain ⟨q1,q2,q3⟩:=HALL.out;exact ⟨j + 1,n ++ [k],by go_num,by omega,Nat.le_refl _,by simp [HNJ.out],q1,q2,q3,hnn⟩
          . obtain rfl:j = ws.length:=by omega
            have hz:decide (ws.length < ws.length) = false:=by simp
            have hz2:decide ((ws.length:Int) < ws.length) = false:=by simp
            rw [List.take_of_length_le (by rw [HWL.out];exact Nat.le_refl _)] at hS4 hnum;obtain ⟨c1,cf⟩:=hS4.bad;have hlB4:=hS4.inn.2;have hFw:Plan.ExtF B w2 wr:=ExtF.trans _ _ _ hF3 (hX.mono fun k _ e=>by show B <= k;omega);rcases zjx (i:=i) (x:=x.data.toList) (r:=r) HNM.out HWS.out with ⟨hmid,hstep⟩ | ⟨eo,n',hr,hmid,hn',hstep⟩
            . rw [hmid] at c1 hS4;rw [Option.isNone_none] at c1;have HE:=Lib.hid (⟨hS4,hFw,hstep⟩:_ /\ _ /\ _);clear hS4 hFw hX hir hnum;go_wp2_with fail;go_roundg (m - (i + 1))
              case measure=>omega
              case rel =>
               obtain ⟨q1,q2,q3⟩:=HE.out;refine ⟨i + 1,none,by go_num,by omega,Nat.le_refl _,q1.up hCw,q2,?_,(fun e h=>nomatch h),?_⟩
               . have:=HR.out;rwa [q3] at this
               . have:=@zet i x.data.toList r;rwa [q3] at this
            . rw [hmid] at c1 hS4;rw [Option.isNone_some] at c1;obtain rfl:n = n':=by
               rcases hnum with h | h
               . exact Option.some.inj (h.symm.trans hn')
               . rw [h] at hn';cases hn'
              obtain ⟨a,cap,rfl,hni⟩:=hir.nums (b:=B) (by omega);have hga:∀ g,a = some ⟨g,0,none⟩ -> C <= g:=fun g hg=>(zaf hir g (by rw [hg];rfl)).1;have hNl:N < wS.heap.size:=by have:=HC.out;omega
              have hnm1:=(hX.cell (p:=⟨N,0,none⟩) hNl (show ¬ (N = B \/ C <= N) by omega)).trans hnm0;have hLr:Laid wr:=hL3.ofM hX (by omega);have hline:Calls Tryz.prog 40 #[.pointer (some ⟨B,0,none⟩),.int .i64 i,.string nm,.slice a n.length cap] wr fun q u'=>q = .returned (.tuple #[]) /\ LdS u' B u'.heap.size B (zc5 i x.data.toList r) /\ Plan.ExtF B wr u':=by
               rw [hstep];cases hle:zb3 i nm.data.toList n eo with
               | some e'=>exact zpl hS4 i (by omega) nm n a cap hni hga (fun z hz=>(hok z (by rw [hr,hz])).2) (fun h=>by have:=hrn.1 h;rw [hr] at this;exact Option.some.inj this) hle
               | none =>
                 have hbad:zfM s.data.toList = none:=by
                  have h1:=HR.out;rw [hstep,hle] at h1;have h2:zg7 0 ((ls.map (·.data.toList)).take m) (some none) = none:=h1.symm;rw [HQ.out,h2]
                 exact hB hbad wr B C B eo i nm n a cap hS4 (by omega) (by omega) hni hga (fun z hz=>hok z (by rw [hr,hz])) (zew _ hn') (fun h=>by have:=hrn.1 h;rw [hr] at this;exact Option.some.inj this) (fun h e=>hrn.2 h (by rw [hr,e])) hle hLr
              have hNw:N < wr.heap.size:=by omega
              clear hir hni hnum hX hn';go_wp2_with (go_at_call 40;refine hline.mono ?_;rintro q w9 ⟨rfl,hS9,hF9⟩;refine Hid.out ?_);refine Lib.hid ?_;have HE:=Lib.hid (⟨hS9,ExtF.trans _ _ _ hFw hF9⟩:_ /\ Plan.ExtF B w2 w9);clear hS9 hF9 hline hS4 hFw;go_wp2_with fail;go_roundg (m - (i + 1))
              case measure=>omega
              case rel =>
               obtain ⟨q1,q2⟩:=HE.out;exact ⟨i + 1,_,by go_num,by omega,Nat.le_refl _,q1,q2,HR.out,zkr hok (by omega),zet⟩
      . obtain rfl:i = m:=by omega
        have hz:decide (i < i) = false:=by simp
        have hz2:decide ((i:Int) < i) = false:=by simp
        have hdr:((ls.map (·.data.toList)).take i).drop i = []:=List.drop_eq_nil_of_le (by rw [List.length_take,List.length_map];omega);have hR0:∀ r,zg7 i [] r = r:=fun r=>by cases r <;> rfl
        rw [hdr,hR0] at hR;have hq:=HQ.out;rw [<- hR] at hq;have h3m:3 <= i:=by have:=HMM.out;omega
        have hXF:Plan.ExtF B u wr:=ExtF.trans _ _ _ (ExtF.of_ext (ExtM.trans _ _ _ hx1 hxa)) hF;have htr:TabP wr:=ht2.keep (hF.block _ (by have:=hxa.size;have:=hx1.size;omega) (by omega));have hBl:=hS.inn;clear hdr hR0 hR hgo hF;cases r with
        | none =>
          obtain ⟨c1,cf⟩:=hS.bad;rw [Option.isNone_none] at c1;have hfin:zpR u s.data.toList (.returned (.tuple #[.pointer none,errV 3])) wr:=by unfold zpR;rw [hq];exact ⟨hXF.ext (Nat.le_of_lt hBu),rfl⟩
          clear hq hS hXF;go_wp2_with fail;go_ret2;exact hfin
        | some eo =>
          cases eo with
          | none=>exact absurd rfl (hrn.2 (by omega))
          | some e =>
            obtain ⟨E,Bs,hLd,hat,hnB,hBL,hBs⟩:=hS;obtain ⟨hsok,-⟩:=hok e rfl;have hsave:=zk9 hat e rfl hsok htr;have c0:=hLd.c0;have c1:=hLd.c1;have lL:=hLd.lt;have HAT:=Lib.hid (⟨hLd,hat,hBs⟩:_ /\ _ /\ _);clear hLd hat hnB hBs hok hrn;by_cases hbig:60000 < (savedT e).length
            . rw [show zeX e = .returned (.tuple #[.string ByteArray.empty,errV 4]) from if_pos hbig] at hsave;have hne:savedT e ≠ s.data.toList:=fun h=>by rw [h,zbA] at hbig;omega
              simp only [if_neg hne] at hq;go_wp2_with (go_at_call 16;refine hsave.mono ?_;rintro e' w9 ⟨rfl,hx9⟩;refine Hid.out ?_);refine Lib.hid ?_;have hfin:zpR u s.data.toList (.returned (.tuple #[.pointer none,errV 3])) w9:=by unfold zpR;rw [hq];exact ⟨ExtM.trans _ _ _ (hXF.ext (Nat.le_of_lt hBu)) hx9,rfl⟩
              clear hq hXF hsave;have er4:errV 4 = .iface 24 (.int .i64 4):=rfl;rw [er4];go_wp2_with fail;go_ret2;exact hfin
            . rw [show zeX e = .returned (.tuple #[.string ⟨(savedT e).toArray⟩,.nilIface]) from if_neg hbig] at hsave;have hT1:(ByteArray.mk (savedT e).toArray).toList = savedT e:=by rw [Lib.toList_data]
              have hT2:=Lib.toList_data s;by_cases hTs:savedT e = s.data.toList
              . have hbs:ByteArray.mk (savedT e).toArray = s:=by
                 obtain ⟨⟨l⟩⟩:=s;simp only at hTs;rw [hTs]
                rw [hbs] at hsave;simp only [if_pos hTs] at hq;have hfin:∀ w9,Ext wr w9 -> zpR u s.data.toList (.returned (.tuple #[.pointer (some ⟨E,0,none⟩),.nilIface])) w9:=fun w9 hx9=>by
                 obtain ⟨-,hat,hBs⟩:=HAT.out;unfold zpR;rw [hq];exact ⟨ExtM.trans _ _ _ (hXF.ext (Nat.le_of_lt hBu)) hx9,E,Bs,rfl,hat.ext hx9,fun k hk=>Nat.le_trans (Nat.le_of_lt hBu) (hBs k hk).1⟩
                have HFN:=Lib.hid hfin;clear hfin hq hXF hTs hbs hT1 hT2;go_wp2_with (go_at_call 16;refine hsave.mono ?_;rintro e' w9 ⟨rfl,hx9⟩;refine Hid.out ?_);refine Lib.hid ?_;have k0:=(hx9.cell (p:=⟨B,0,none⟩) lL id).trans c0;have lL9:=zac k0;have hfin:=HFN.out w9 hx9;clear hsave c0 c1 lL hx9;go_wp2_with fail;go_ret2;exact hfin
              . have hne1:(savedT e == s.toList) = false:=by rw [hT2];exact beq_false_of_ne hTs
                simp only [if_neg hTs] at hq;have hfin:∀ w9,Ext wr w9 -> zpR u s.data.toList (.returned (.tuple #[.pointer none,errV 3])) w9:=fun w9 hx9=>by
                 unfold zpR;rw [hq];exact ⟨ExtM.trans _ _ _ (hXF.ext (Nat.le_of_lt hBu)) hx9,rfl⟩
                clear hq hXF hTs hT1 hT2;generalize savedT e = T at *;go_wp2_with (go_at_call 16;refine hsave.mono ?_;rintro e' w9 ⟨rfl,hx9⟩;refine Hid.out ?_);refine Lib.hid ?_;replace hfin:=hfin w9 hx9;clear hsave c0 c1 lL hx9;go_wp2_with fail;go_ret2;exact hfin
   . have h5:ls[ls.length - 1].toList.isEmpty = false:=by simpa using h4
     rw [if_pos (.inr (.inr (.inr (by simpa using h4))))] at hq;have hfin:=hout hq;clear hout hq;go_wp2_with fail;go_ret2;exact hfin
 . rw [if_pos (.inr (.inr (.inl (by unfold wEnd;simpa using h3))))] at hq;have hfin:=hout hq;clear hout hq;go_wp2_with fail;go_ret2;exact hfin
section
variable {u u':World} {T F E:Nat} {Bs:Nat -> Prop} {v0 v1:Value} {lo hi md x0 x1:Int} {s:TSt} {m:List (Out × Value)} {W:List Out}
end
theorem EOk.sok {e:ESt} (h:EOk e) (hV:e.V.length <= 900000):SOk e:=by
 have hp:(-1048576 <= e.lo /\ e.lo <= 1048576) /\ (-1048576 <= e.hi /\ e.hi <= 1048576) /\ 0 <= e.md /\ e.md <= 3:=by
  have hp:=h.plan;unfold checkI at hp;by_cases h1:¬ (-1048576 <= e.lo /\ e.lo <= 1048576) \/ ¬ (-1048576 <= e.hi /\ e.hi <= 1048576)
  . rw [if_pos h1] at hp;cases hp
  . rw [if_neg h1] at hp;by_cases h2:e.hi < e.lo
    . rw [if_pos h2] at hp;cases hp
    . rw [if_neg h2] at hp;by_cases h3:¬ (0 <= e.md /\ e.md <= 3)
      . rw [if_pos h3] at hp;cases hp
      . omega
 have:=h.f0;have:=h.f1;have:=h.late;have:=h.i0;have:=h.i1;have:=h.il;have:=h.mx;have:=h.my
 refine ⟨fun k hk=>?_,h.ga,h.gb,h.la,h.lb,fun x hx=>zir (h.v x hx),hV⟩;simp only [List.mem_cons,List.not_mem_nil,or_false] at hk;omega
structure Lib4 (w:World):Prop where
 l:Laid w
 m:MaxP w
 e:ErrP w
 t:TabP w
theorem Lib4.ext {w w':World} (h:Lib4 w) (hx:Ext w w'):Lib4 w':=⟨h.l.of hx,h.m.ext hx,h.e.keep hx id id,h.t.keep (hx.block _ h.t.lt id)⟩
structure StE where
 what:Int
 side:Int
 n:Int
 key:Int
 time:Int
 value:Int
def StE.row (x:StE):Row:=znA x.key x.time x.value
def StE.sd (x:StE):Nat:=zmW x.side 2
def StE.feed (x:StE):StE:={ x with what:=0 }
section
variable {lo hi md:Int} {st:JSt} {V:List Out} {f0 f1:Int} {n:Nat}
end
section
variable {u:World} {E:Nat} {Bs:Nat -> Prop} {lo hi md:Int} {st:JSt} {V W:List Out} {f0 f1:Int}
end
section
variable {u:World} {E:Nat} {Bs:Nat -> Prop} {lo hi md:Int} {st:JSt} {V W:List Out} {f0 f1:Int}
end
theorem zrN {u:World} {E P:Nat} (c3':u.cell? ⟨E,3,none⟩ = some (.pointer (some ⟨P,0,none⟩))) (lE':E < u.heap.size) (hL:Laid u) (s k t v:Int) (hs:s ≠ 0 /\ s ≠ 1):Calls Tryz.prog 9 #[.pointer (some ⟨E,0,none⟩),.int .i64 s,.agg #[.int .i64 k,.int .i64 t,.int .i64 v]] u fun e u'=>e = .returned (.tuple #[.slice none 0 0,errV 1]) /\ Ext u u':=by
 have hxb:Ext u (u.alloc (.cells #[.int .i64 k,.int .i64 t,.int .i64 v] 37)):=(ExtM.refl u).alloc _;have hL2:=hL.of hxb;have hf:=fun w=>ziS P s k t v w hs;rw [show errV 1 = .iface 24 (.int .i64 1) from rfl] at hf ⊢;have c3:=(hxb.cell (p:=⟨E,3,none⟩) lE' id).trans c3';have b0:(u.alloc (.cells #[.int .i64 k,.int .i64 t,.int .i64 v] 37)).cell? ⟨u.heap.size,0,none⟩ = some (.int .i64 k):=by go_simp
 have b1:(u.alloc (.cells #[.int .i64 k,.int .i64 t,.int .i64 v] 37)).cell? ⟨u.heap.size,1,none⟩ = some (.int .i64 t):=by go_simp
 have b2:(u.alloc (.cells #[.int .i64 k,.int .i64 t,.int .i64 v] 37)).cell? ⟨u.heap.size,2,none⟩ = some (.int .i64 v):=by go_simp
 clear c3' lE' hL;go_enter Tryz.func9,Tryz.ntmps9;go_upto_region 1 with fail;generalize u.alloc (.cells #[.int .i64 k,.int .i64 t,.int .i64 v] 37) = w1 at *;generalize hn:u.heap.size = n at *;have HN:=Lib.hid hn;clear hn;have hEl:=zaG c3;have hnl:=zaG b0;refine Plan.b0 Plan.Ext 12 ?_;refine Plan.qs 6 [0,1,2,3,4,5] ?_;iterate 6 go_big_quiet_step (fail)
 refine Plan.o1 6 fun K hK=>?_;go_wp2_with (fail);refine (hf _).mono ?_;rintro e w2 ⟨rfl,h2⟩;have H2:=ExtM.trans _ _ _ (ExtM.refl _).drew h2;obtain ⟨hc2,hf2,-⟩:=Ext.rules H2;have hs2_0:E < w2.heap.size:=by have:=H2.size;(try simp at this);omega
 have hs2_1:n < w2.heap.size:=by have:=H2.size;(try simp at this);omega
 go_wp2_with (fail);refine hK _ _ h2 ?_;clear hK K;refine Plan.qs 5 [7,8,9,10,11] ?_;iterate 5 go_big_quiet_step (fail)
 refine Plan.dn ?_;have hL3:=hL2.of H2;have HX:=Lib.hid (ExtM.trans _ _ _ hxb H2);clear hf hxb hc2 hf2 h2 H2 b0 b1 b2 c3 hL2;go_wp2_with (go_at_call 44;first | (refine (zcz 1 _ hL3).mono ?_;rintro e w3 ⟨rfl,hx3⟩) | (refine (zcz 1 _ (hL3.of hx3)).mono ?_;rintro e w4 ⟨rfl,hx4⟩));go_ret2;exact ⟨rfl,ExtM.trans _ _ _ HX.out (ExtM.trans _ _ _ hx3 hx4)⟩
section
variable {u:World} {E:Nat} {Bs:Nat -> Prop} {lo hi md:Int} {st:JSt} {V W:List Out} {f0 f1:Int}
end
theorem zmT (lo hi md:Int) (w:World) (hc:checkI lo hi md ≠ 0) :
 Calls Tryz.prog 11 #[.agg #[.int .i64 lo,.int .i64 hi,.int .i64 md]] w fun e w'=>e = .returned (.tuple #[.pointer none,errV (checkI lo hi md)]) /\ Ext w w':=by
 have hk:=fun u=>zlg lo hi md u hc;have he:errV (checkI lo hi md) = .iface 24 (.int .i64 (checkI lo hi md)):=by unfold errV;rw [if_neg hc]
 rw [he] at hk ⊢;generalize checkI lo hi md = c at *;clear hc he;go_enter Tryz.func11,Tryz.ntmps11;go_wp2_with (go_at_call 46;refine (hk _).mono ?_;rintro e w1 ⟨rfl,hx1⟩);go_ret2;exact ⟨rfl,ExtM.trans _ _ _ ((ExtM.refl w).alloc _) hx1⟩
theorem zjC (lo hi md:Int) (w:World) (hc:checkI lo hi md ≠ 0) :
 Calls Tryz.prog 12 #[.agg #[.int .i64 lo,.int .i64 hi,.int .i64 md]] w fun e w'=>e = .returned (.tuple #[.pointer none,.int .i64 (checkI lo hi md)]) /\ Ext w w':=by
 have hk:=fun u=>ziG lo hi md u;have d0:(checkI lo hi md != 0) = true:=by simp [hc]
 generalize checkI lo hi md = c at *;clear hc;go_enter Tryz.func12,Tryz.ntmps12;go_wp2_with (go_at_call 47;refine (hk _).mono ?_;rintro e w1 ⟨rfl,hx1⟩);go_ret2;exact ⟨rfl,ExtM.trans _ _ _ ((ExtM.refl w).alloc _) hx1⟩
end Go.Proofs.YtmcgnnmffeojpabGreatDoor
