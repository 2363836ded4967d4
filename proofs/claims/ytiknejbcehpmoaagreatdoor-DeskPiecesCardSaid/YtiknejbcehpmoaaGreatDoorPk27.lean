import Derived.Test.YtiknejbcehpmoaaGreatDoorPk26
import Derived.Lib.AtoiErrMem
set_option maxRecDepth 100000
set_option maxHeartbeats 8000000
namespace Go.Proofs.YtiknejbcehpmoaaGreatDoor
open Go.RowKit Go.Plan
theorem zgT (e:ESt) (i:Nat) (hi:i < 2):upLs e (i + 1) = upLs e i ++ (e.st.of i).map (fun h=>(wRow,rowN i h)):=by
 have hi':i = 0 \/ i = 1:=by omega
 unfold upLs JSt.of;rcases hi' with rfl | rfl
 . simp
 . simp
theorem zdu {e:ESt} (h:SOk e) (i:Nat):∀ x ∈ upLs e i,zaV x:=by
 intro x hx;unfold upLs at hx;rcases List.mem_append.1 hx with hx | hx
 . exact ze1 h x hx
 . rcases List.mem_append.1 hx with hx | hx
   . split at hx
     . obtain ⟨g,hg,rfl⟩:=List.mem_map.1 hx;exact zd4 (.inl rfl) (h.ga g hg)
     . cases hx
   . split at hx
     . obtain ⟨g,hg,rfl⟩:=List.mem_map.1 hx;exact zd4 (.inr rfl) (h.gb g hg)
     . cases hx
theorem zcD {e:ESt} (h:SOk e) (i:Nat):(upLs e i).length <= 603:=by
 have h1:=h.la;have h2:=h.lb;unfold upLs za5;simp only [List.length_append,List.length_cons,List.length_nil];split <;> split <;> simp only [List.length_map,List.length_nil] <;> omega
theorem SOk.of {e:ESt} (h:SOk e) (i:Nat):(∀ g ∈ e.st.of i,za0 g.r /\ 0 <= g.m /\ g.m <= 9223372036854775807) /\ (e.st.of i).length <= 300:=by
 unfold JSt.of;split
 . exact ⟨h.ga,h.la⟩
 . exact ⟨h.gb,h.lb⟩
def zeX (e:ESt):Ending:=if 60000 < (savedT e).length then .returned (.tuple #[.string ByteArray.empty,errV 4]) else .returned (.tuple #[.string ⟨(savedT e).toArray⟩,.nilIface])
theorem zoJ (w:World):SB w.heap.size w.heap.size [] (w.alloc (.cells #[.pointer none,.slice none 0 0] 34)) :=
 .inl ⟨Nat.le_refl _,_,heap_alloc_new _ _,⟨rfl,.inl ⟨rfl,rfl⟩⟩,fun e=>nomatch e⟩
theorem EIs.extF {u u':World} {E P M:Nat} {v0 v1:Value} {D DG:Option Nat} {ents:List Ent} {lo hi md:Int} {st:JSt} {V W:List Out} {f0 f1:Int} (h:EIs u E P M v0 v1 D DG ents lo hi md st V W f0 f1) {B:Nat} (hB:u.heap.size <= B) (hx:Plan.ExtF B u u'):EIs u' E P M v0 v1 D DG ents lo hi md st V W f0 f1 :=
 h.keep hx (fun k hk e=>by have:=h.foot k hk;omega)
theorem zdx {N:Nat} {w w':World} (h:Plan.ExtF N w w'):(∀ b o,b < w.heap.size -> b < N -> w'.cell? ⟨b,o,none⟩ = w.cell? ⟨b,o,none⟩) /\ (∀ b o,b < w.heap.size -> b < N -> w'.frozen? ⟨b,o,none⟩ = w.frozen? ⟨b,o,none⟩) /\ True:=⟨h.rules.1,h.rules.2,trivial⟩
theorem lok1 {a:List UInt8 × List Int} (h:zaV a):∀ x ∈ ([] ++ [a]:List (List UInt8 × List Int)),zaV x:=by
 intro x hx;simp only [List.nil_append,List.mem_singleton] at hx;subst hx;exact h
theorem lok2 {a b:List UInt8 × List Int} (h:zaV a) (h2:zaV b):∀ x ∈ ([] ++ [a] ++ [b]:List (List UInt8 × List Int)),zaV x:=by
 intro x hx;rcases List.mem_append.1 hx with hx | hx
 . exact lok1 h x hx
 . simp only [List.mem_singleton] at hx;subst hx;exact h2
theorem zjt {w:World} {b:Nat} {l:List Out} (h:zbp w b 0 l) (j:Nat) (hj:j < l.length) :
 w.cell? ⟨b,j * 9,none⟩ = some (.int .i64 (l[j]'hj).key) /\ w.cell? ⟨b,j * 9 + 1,none⟩ = some (.int .i64 (l[j]'hj).l.k) /\ w.cell? ⟨b,j * 9 + 2,none⟩ = some (.int .i64 (l[j]'hj).l.t) /\ w.cell? ⟨b,j * 9 + 3,none⟩ = some (.int .i64 (l[j]'hj).l.v) /\ w.cell? ⟨b,j * 9 + 4,none⟩ = some (.int .i64 (l[j]'hj).r.k) /\ w.cell? ⟨b,j * 9 + 5,none⟩ = some (.int .i64 (l[j]'hj).r.t) /\ w.cell? ⟨b,j * 9 + 6,none⟩ = some (.int .i64 (l[j]'hj).r.v) /\ w.cell? ⟨b,j * 9 + 7,none⟩ = some (.bool (l[j]'hj).hl) /\ w.cell? ⟨b,j * 9 + 8,none⟩ = some (.bool (l[j]'hj).hr):=by
 have hk:∀ c,c < 9 -> w.cell? ⟨b,j * 9 + c,none⟩ = (l[j]'hj).cells[c]?:=fun c hc=>by
  have:=(h.cell j c hj hc).1
  rwa [Nat.zero_add] at this
 exact ⟨hk 0 (by omega),hk 1 (by omega),hk 2 (by omega),hk 3 (by omega),hk 4 (by omega),hk 5 (by omega),hk 6 (by omega),hk 7 (by omega),hk 8 (by omega)⟩
theorem zk9 {u:World} {E:Nat} {Bs:Nat -> Prop} {lo hi md:Int} {st:JSt} {V:List Out} {f0 f1:Int} (h:EAt u E Bs lo hi md st V V f0 f1) (es:ESt) (hes:es = ⟨lo,hi,md,st,V,f0,f1⟩) (ok:SOk es) (ht:TabP u) :
 Calls Tryz.prog 94 #[.pointer (some ⟨E,0,none⟩)] u fun e u'=>e = zeX es /\ Ext u u':=by
 obtain ⟨P,M,v0,v1,D,DG,ents,hI,-⟩:=h;have hpB:6 < u.heap.size:=ht.lt;have hok:=ze1 ok;have hEl:=hI.lt;have HES:=Lib.hid hes;clear hes;go_enter Tryz.func94,Tryz.ntmps94;go_upto_region 3 with fail;have hS0:=zoJ u;have hx0:Ext u (u.alloc (.cells #[.pointer none,.slice none 0 0] 34)):=(ExtM.refl _).alloc _;have hbl:u.heap.size < (u.alloc (.cells #[.pointer none,.slice none 0 0] 34)).heap.size:=by rw [World.size_alloc];omega
 generalize u.alloc (.cells #[.pointer none,.slice none 0 0] 34) = w1 at *;have hs10:=hx0.size;have hI1:=hI.ext hx0;generalize hB:u.heap.size = B at *;have HB:=Lib.hid hB;clear hB;have hE:E < B:=hEl;have ht1:TabP w1:=ht.keep (hx0.block _ ht.lt id);have c0:=hI1.c0;have c1:=hI1.c1;have c2:=hI1.c2;have lE:=hI1.lt;have ok0:=hok _ (show (zc2,[lo,hi,md]) ∈ za5 es by rw [HES.out];simp [za5]);have ok1:=hok _ (show (wFed,[f0,f1,st.late]) ∈ za5 es by rw [HES.out];simp [za5]);have ok2:=hok _ (show (zbW,[st.x,st.y]) ∈ za5 es by rw [HES.out];simp [za5]);have hbl1:=hbl;have hS1:SB B B (zst []) w1:=hS0;have hline0:∀ W,Ext w1 W -> ∀ c,Calls Tryz.prog 136 #[.string ⟨#[112,108,97,110]⟩,.slice (some ⟨W.heap.size,0,none⟩) 3 c,.pointer (some ⟨B,0,none⟩)] (W.alloc (.cells #[.int .i64 lo,.int .i64 hi,.int .i64 md] 3)) fun e w'=>e = .returned (.tuple #[]) /\ SB B B (zst ([] ++ [(zc2,[lo,hi,md])])) w' /\ BExt B B (W.alloc (.cells #[.int .i64 lo,.int .i64 hi,.int .i64 md] 3)) w':=fun W hW c =>
  zdy B B ([]) (zc2,[lo,hi,md]) _ rfl _ c _ (hS1.ext (hW.alloc _)) (ht1.keep ((hW.alloc _).block _ ht1.lt id)) hpB (zaq.new [lo,hi,md] (Nat.lt_of_lt_of_le hbl1 hW.size)) (fun _ h=>nomatch h) ok0 (by simp)
 have HI:=Lib.hid hI;have HX0:=Lib.hid hx0;clear hok hI hS0 hbl hx0;refine Plan.b0 (Plan.ExtF B) 18 ?_;refine Plan.qs 12 [0,1,2,3,4,5,6,7,8,9,10,11] ?_;iterate 12 go_big_quiet_step (fail)
 refine Plan.qs 4 [12,13,14,15] ?_;iterate 4 go_big_quiet_step (fail)
 refine Plan.o1 16 fun K hK=>?_;go_wp2_with (fail);refine hK _ _ ((ExtM.refl _).alloc _) ?_;clear hK K;refine Plan.o1 17 fun K hK=>?_;go_wp2_with (fail);refine (hline0 _ (ExtM.refl _).drew _).mono ?_;rintro e w2 ⟨rfl,hS2,h2⟩;have H2:=ExtF.trans _ _ _ ((ExtF.refl _).drew.alloc _) (BExt.extF h2);obtain ⟨hc2,hf2,-⟩:=zdx H2;have hs2_0:E < w2.heap.size:=by have:=H2.size;(try simp at this);omega
 go_wp2_with (fail);refine hK _ _ (BExt.extF h2) ?_;clear hK K;refine Plan.dn ?_;have hF2:Plan.ExtF B u w2:=ExtF.trans _ _ _ (ExtF.of_ext HX0.out) H2;have hI2:=HI.out.extF (Nat.le_of_eq HB.out) hF2;have ht2:TabP w2:=ht1.keep (H2.block _ ht1.lt (by omega));have hbl2:B < w2.heap.size:=Nat.lt_of_lt_of_le hbl1 H2.size;clear hc2 hf2 hs2_0 c0 c1 c2 lE hline0 hS1 h2 H2 ht1 hbl1;have c7:=hI2.c7;have c8:=hI2.c8;have c3:=hI2.c3;have lE:=hI2.lt;have hlate:=fun W (hW:Ext w2 W)=>zkI (hI2.ext hW).join;have hline1:∀ W,Ext w2 W -> ∀ c,Calls Tryz.prog 136 #[.string ⟨#[102,101,100]⟩,.slice (some ⟨W.heap.size,0,none⟩) 3 c,.pointer (some ⟨B,0,none⟩)] (W.alloc (.cells #[.int .i64 f0,.int .i64 f1,.int .i64 st.late] 3)) fun e w'=>e = .returned (.tuple #[]) /\ SB B B (zst ([] ++ [(zc2,[lo,hi,md])] ++ [(wFed,[f0,f1,st.late])])) w' /\ BExt B B (W.alloc (.cells #[.int .i64 f0,.int .i64 f1,.int .i64 st.late] 3)) w':=fun W hW c =>
  zdy B B ([] ++ [(zc2,[lo,hi,md])]) (wFed,[f0,f1,st.late]) _ rfl _ c _ (hS2.ext (hW.alloc _)) (ht2.keep ((hW.alloc _).block _ ht2.lt id)) hpB (zaq.new [f0,f1,st.late] (Nat.lt_of_lt_of_le hbl2 hW.size)) (lok1 ok0) ok1 (by simp)
 clear hI2;go_upto_region 4 with fail;refine Plan.b0 (Plan.ExtF B) 18 ?_;refine Plan.qs 12 [0,1,2,3,4,5,6,7,8,9,10,11] ?_;iterate 12 go_big_quiet_step (fail)
 refine Plan.qs 3 [12,13,14] ?_;iterate 3 go_big_quiet_step (fail)
 refine Plan.o1 15 fun K hK=>?_;go_wp2_with (fail);refine (hlate _ (ExtM.refl _).drew).mono ?_;rintro e w' ⟨rfl,rfl⟩;go_wp2_with (fail);refine hK _ _ (ExtM.refl _) ?_;clear hK K;refine Plan.o1 16 fun K hK=>?_;go_wp2_with (fail);refine hK _ _ ((ExtM.refl _).alloc _) ?_;clear hK K;refine Plan.o1 17 fun K hK=>?_;go_wp2_with (fail);refine (hline1 _ (ExtM.refl _).drew _).mono ?_;rintro e w3 ⟨rfl,hS3,h3⟩;have H3:=ExtF.trans _ _ _ ((ExtF.refl _).drew.alloc _) (BExt.extF h3);obtain ⟨hc3,hf3,-⟩:=zdx H3;have hs3_0:E < w3.heap.size:=by have:=H3.size;(try simp at this);omega
 go_wp2_with (fail);refine hK _ _ (BExt.extF h3) ?_;clear hK K;refine Plan.dn ?_;have hF3:Plan.ExtF B u w3:=ExtF.trans _ _ _ hF2 H3;have hI3:=HI.out.extF (Nat.le_of_eq HB.out) hF3;have ht3:TabP w3:=ht2.keep (H3.block _ ht2.lt (by omega));have hbl3:B < w3.heap.size:=Nat.lt_of_lt_of_le hbl2 H3.size;clear hc3 hf3 hs3_0 c7 c8 c3 lE hline1 hS2 h3 H3 ht2 hbl2 hlate hF2;have c3:=hI3.c3;have lE:=hI3.lt;have hm0:∀ W,Ext w3 W -> Calls Tryz.prog 135 #[.pointer (some ⟨P,0,none⟩),.int .i64 0] W fun e W'=>e = .returned (.int .i64 st.x) /\ W = W':=fun W hW=>zhI 0 (hI3.ext hW).join;have hm1:∀ W,Ext w3 W -> Calls Tryz.prog 135 #[.pointer (some ⟨P,0,none⟩),.int .i64 1] W fun e W'=>e = .returned (.int .i64 st.y) /\ W = W':=fun W hW=>zhI 1 (hI3.ext hW).join;have hline2:∀ W,Ext w3 W -> ∀ c,Calls Tryz.prog 136 #[.string ⟨#[109,97,114,107,115]⟩,.slice (some ⟨W.heap.size,0,none⟩) 2 c,.pointer (some ⟨B,0,none⟩)] (W.alloc (.cells #[.int .i64 st.x,.int .i64 st.y] 3)) fun e w'=>e = .returned (.tuple #[]) /\ SB B B (zst ([] ++ [(zc2,[lo,hi,md])] ++ [(wFed,[f0,f1,st.late])] ++ [(zbW,[st.x,st.y])])) w' /\ BExt B B (W.alloc (.cells #[.int .i64 st.x,.int .i64 st.y] 3)) w':=fun W hW c =>
  zdy B B ([] ++ [(zc2,[lo,hi,md])] ++ [(wFed,[f0,f1,st.late])]) (zbW,[st.x,st.y]) _ rfl _ c _ (hS3.ext (hW.alloc _)) (ht3.keep ((hW.alloc _).block _ ht3.lt id)) hpB (zaq.new [st.x,st.y] (Nat.lt_of_lt_of_le hbl3 hW.size)) (lok2 ok0 ok1) ok2 (by simp)
 clear hI3;go_upto_region 5 with fail;refine Plan.b0 (Plan.ExtF B) 13 ?_;refine Plan.qs 9 [0,1,2,3,4,6,7,8,9] ?_;iterate 9 go_big_quiet_step (fail)
 refine Plan.o1 5 fun K hK=>?_;go_wp2_with (fail);refine (hm0 _ (ExtM.refl _).drew).mono ?_;rintro e w' ⟨rfl,rfl⟩;go_wp2_with (fail);refine hK _ _ (ExtM.refl _) ?_;clear hK K;refine Plan.o1 10 fun K hK=>?_;go_wp2_with (fail);refine (hm1 _ (ExtM.refl _).drew).mono ?_;rintro e w' ⟨rfl,rfl⟩;go_wp2_with (fail);refine hK _ _ (ExtM.refl _) ?_;clear hK K;refine Plan.o1 11 fun K hK=>?_;go_wp2_with (fail);refine hK _ _ ((ExtM.refl _).alloc _) ?_;clear hK K;refine Plan.o1 12 fun K hK=>?_;go_wp2_with (fail);refine (hline2 _ (ExtM.refl _).drew _).mono ?_;rintro e w4 ⟨rfl,hS4,h4⟩;have H4:=ExtF.trans _ _ _ ((ExtF.refl _).drew.alloc _) (BExt.extF h4);obtain ⟨hc4,hf4,-⟩:=zdx H4;have hs4_0:E < w4.heap.size:=by have:=H4.size;(try simp at this);omega
 go_wp2_with (fail);refine hK _ _ (BExt.extF h4) ?_;clear hK K;refine Plan.dn ?_;have hF4:Plan.ExtF B u w4:=ExtF.trans _ _ _ hF3 H4;have hbl4:B < w4.heap.size:=Nat.lt_of_lt_of_le hbl3 H4.size;clear hc4 hf4 hs4_0 c3 lE hline2 hS3 h4 H4 ht3 hbl3 hm0 hm1 hF3;have hT:=Lib.hid ht;have hL0:SB B B (zst (upLs es 0)) w4:=by
  have:upLs es 0 = [] ++ [(zc2,[lo,hi,md])] ++ [(wFed,[f0,f1,st.late])] ++ [(zbW,[st.x,st.y])]:=by rw [HES.out];simp [upLs,za5]
  rw [this];exact hS4
 clear hS4 ok0 ok1 ok2 ht hEl;go_wp2_with fail;go_loopg [61] 3 (fun kx s61 wr=>∃ i:Nat,s61 = .int .i64 i /\ i <= 2 /\ 2 - i <= kx /\ SB B B (zst (upLs es i)) wr /\ Plan.ExtF B u wr)
 case atStart=>exact ⟨0,rfl,by omega,by omega,hL0,hF4⟩
 case round =>
  clear hL0 hF4 hbl4;obtain ⟨i,rfl,hi',hgk,hS,hF⟩:=hrel;have hIr:=HI.out.extF (Nat.le_of_eq HB.out) hF;have c3:=hIr.c3;have lE:=hIr.lt;have htr:TabP wr:=hT.out.keep (hF.block _ hT.out.lt (by omega));by_cases hi2:i < 2
  . skip;have hst:es.st = st:=by rw [HES.out]
    obtain ⟨hgo,hlo⟩:=ok.of i;rw [hst] at hgo hlo;have hrw:=zl7 i hi2 hIr.join (by omega);have HUP:=Lib.hid (zgT es i hi2);have hul:=zcD ok i;have huo:=zdu ok i;have HST:=Lib.hid hst;have hii:(i:Int) = 0 \/ (i:Int) = 1:=by omega
    have hHof:=Lib.hid (rfl:st.of i = st.of i);clear hst hIr hHof;generalize hhs:st.of i = hs at *;have HHS:=Lib.hid hhs;clear hhs;go_wp2_with (go_at_call 137;refine hrw.mono ?_;rintro e wS ⟨vo,rfl,hm,hxS⟩;refine Hid.out ?_);refine Lib.hid ?_;obtain ⟨p,c,rfl,-⟩:=zaa hm;have hSS:=hS.ext hxS;have htS:TabP wS:=htr.keep (hxS.block _ htr.lt id);have hFS:Plan.ExtF B u wS:=ExtF.trans _ _ _ hF (ExtF.of_ext hxS);have hmn:(Value.slice p hs.length c).ownBlock ≠ some B:=fun e=>by have:=(zaf hm B e).1;have:=hS.lt;omega
    clear hrw hS hxS hF c3 lE htr;go_wp2_with fail;go_loopg [71] (hs.length + 1) (fun kx s71 wr=>∃ j:Nat,s71 = .int .i64 j /\ j <= hs.length /\ hs.length - j <= kx /\ SB B B (zst (upLs es i ++ (hs.take j).map (fun h=>(wRow,rowN i h)))) wr /\ BExt B B wS wr)
    case atStart=>exact ⟨0,rfl,by omega,by omega,by simpa using hSS,BExt.refl _ _ _⟩
    case round =>
     clear hSS;obtain ⟨j,rfl,hj,hgk2,hS,hX⟩:=hrel;by_cases hjl:j < hs.length
     . have hmq:MRow wS _ _ hs:=hm;have hmq2:MRow wr _ _ hs:=zmQ hm hX (by decide) hmn;obtain ⟨g,cap,e1,hg,y0,y1,y2,y3⟩:=zc9 hmq2 j hs[j] (List.getElem?_eq_getElem hjl);simp only [Value.slice.injEq,true_and] at e1;obtain ⟨rfl,rfl⟩:=e1;have hho:=hgo _ (List.getElem_mem hjl);have HTK:=Lib.hid (List.take_succ_eq_append_getElem hjl);have htq:TabP _:=htS.bext hX hpB;have hlo2:∀ x ∈ upLs es i ++ (hs.take j).map (fun h=>(wRow,rowN i h)),zaV x:=fun x hx=>by
        rcases List.mem_append.1 hx with hx | hx
        . exact huo x hx
        . obtain ⟨q,hq,rfl⟩:=List.mem_map.1 hx;exact zd4 hii (hgo q (List.mem_of_mem_take hq))
       have hll:(upLs es i ++ (hs.take j).map (fun h=>(wRow,rowN i h))).length <= 2000000:=by
        rw [List.length_append,List.length_map,List.length_take];omega
       have hrow:=zd4 hii hho;generalize hs[j] = h at *;obtain ⟨⟨rk,rt,rv⟩,m⟩:=h;simp only at y0 y1 y2 y3;have hln:∀ W,Ext wr W -> ∀ c,Calls Tryz.prog 136 #[.string ⟨#[114,111,119]⟩,.slice (some ⟨W.heap.size,0,none⟩) 5 c,.pointer (some ⟨B,0,none⟩)] (W.alloc (.cells #[.int .i64 i,.int .i64 rk,.int .i64 rt,.int .i64 rv,.int .i64 m] 3)) fun e w'=>e = .returned (.tuple #[]) /\ SB B B (zst ((upLs es i ++ (hs.take j).map (fun h=>(wRow,rowN i h))) ++ [(wRow,rowN i ⟨⟨rk,rt,rv⟩,m⟩)])) w' /\ BExt B B (W.alloc (.cells #[.int .i64 i,.int .i64 rk,.int .i64 rt,.int .i64 rv,.int .i64 m] 3)) w':=fun W hW c =>
        zdy B B _ (wRow,rowN i ⟨⟨rk,rt,rv⟩,m⟩) _ rfl _ c _ (hS.ext (hW.alloc _)) (htq.keep ((hW.alloc _).block _ htq.lt id)) hpB (zaq.new [(i:Int),rk,rt,rv,m] (Nat.lt_of_lt_of_le hS.lt.2 hW.size)) hlo2 hrow hll
       clear hlo2 hll hrow hho hgo huo hmq hmq2 htq;have hSB:=hS.lt;have hl5:=hln (wr.alloc (.cells #[.int .i64 rk,.int .i64 rt,.int .i64 rv,.int .i64 m] 221)) ((ExtM.refl _).alloc _) 5;rw [World.size_alloc] at hl5;go_wp2_with (go_at_call 136;refine hl5.mono ?_;rintro e w7 ⟨rfl,hS7,hX7⟩;refine Hid.out ?_);refine Lib.hid ?_;have hX8:=hX.trans (BExt.trans (BExt.of_ext ((ExtM.refl _).alloc _) (by omega)) (BExt.trans (BExt.of_ext ((ExtM.refl _).alloc _) (by rw [World.size_alloc];omega)) hX7));have HX8:=Lib.hid hX8;clear hX hX7 hX8 hln hl5 y0 y1 y2 y3 hS;go_wp2_with fail;go_roundg (hs.length - (j + 1))
       case measure=>omega
       case rel =>
        refine ⟨j + 1,by go_num,by omega,Nat.le_refl _,?_,HX8.out⟩;rw [HTK.out,List.map_append,<- List.append_assoc];exact hS7
     . obtain rfl:j = hs.length:=by omega
       have hz:decide (hs.length < hs.length) = false:=by simp
       have hz2:decide ((hs.length:Int) < hs.length) = false:=by simp
       rw [List.take_length] at hS;have hF2:=ExtF.trans _ _ _ hFS hX.extF;have HF2:=Lib.hid hF2;clear hF2 hFS hX hm htS;go_wp2_with fail;go_roundg (2 - (i + 1))
       case measure=>omega
       case rel =>
        refine ⟨i + 1,by go_num,by omega,Nat.le_refl _,?_,HF2.out⟩;rw [HUP.out,HST.out,HHS.out];exact hS
  . obtain rfl:i = 2:=by omega
    have hz:decide ((2:Nat) < 2) = false:=by decide
    have hV:V.length < 1000000:=by have:=ok.lv;rw [HES.out] at this;show V.length < 1000000;simp only at this;omega
    have hv:=znf (h:=⟨P,M,v0,v1,D,DG,ents,hIr,rfl⟩) hV;have hsr:=hS.lt;have hOk:∀ x ∈ sortO V,(x.hl = true \/ x.hr = true) /\ x.ok:=fun x hx=>by
     have:=ok.v;rw [HES.out] at this;exact this x ((zbf V).mem_iff.1 hx)
    have hle:(sortO V).length < 1000000:=by rw [zaA];exact hV
    have hSL:zbP es = upLs es 2 ++ ((sortO V).map (fun x=>(wOut,outN x)) ++ [(wEnd,[])]):=by rw [zeK];rw [HES.out]
    have hul:=zcD ok 2;have huo:=zdu ok 2;have HSL:=Lib.hid hSL;clear hIr hV hSL;generalize sortO V = os at *;go_wp2_with (go_at_call 138;refine hv.mono ?_;rintro e wv ⟨p,c,rfl,hxv,hov⟩;refine Hid.out ?_);refine Lib.hid ?_;have hSv:=hS.ext hxv;have hFv:Plan.ExtF B u wv:=ExtF.trans _ _ _ hF (ExtF.of_ext hxv);have htv:=htr.keep (hxv.block _ htr.lt id);have HFV:=Lib.hid hFv;have HTV:=Lib.hid htv;clear hv hS hxv hF c3 lE htr hFv htv;go_wp2_with fail;go_loopg [97] (os.length + 1) (fun kx s97 wr2=>∃ j:Nat,s97 = .int .i64 j /\ j <= os.length /\ os.length - j <= kx /\ SB B B (zst (upLs es 2 ++ (os.take j).map (fun x=>(wOut,outN x)))) wr2 /\ BExt B B wv wr2)
    case atStart=>exact ⟨0,rfl,by omega,by omega,by simpa using hSv,BExt.refl _ _ _⟩
    case round =>
     clear hSv;obtain ⟨j,rfl,hj,hgk2,hS,hX⟩:=hrel;have htq:TabP _:=HTV.out.bext hX hpB;by_cases hjl:j < os.length
     . obtain ⟨b,rfl,hb1,hb2,hb3,cb,hcb⟩:=hov.resolve_left (by rintro rfl;simp at hjl);have hcw:=hX.row hcb (by omega) (by decide);obtain ⟨y0,y1,y2,y3,y4,y5,y6,y7,y8⟩:=zjt (hb3.keep (hcw.trans hcb.symm)) j hjl;have hbw:b < wr.heap.size:=(Array.getElem?_eq_some_iff.1 hcw).1;have hho:=hOk _ (List.getElem_mem hjl);have HTK:=Lib.hid (List.take_succ_eq_append_getElem hjl);have hlo2:∀ x ∈ upLs es 2 ++ (os.take j).map (fun x=>(wOut,outN x)),zaV x:=fun x hx=>by
        rcases List.mem_append.1 hx with hx | hx
        . exact huo x hx
        . obtain ⟨q,hq,rfl⟩:=List.mem_map.1 hx;exact zdQ (hOk q (List.mem_of_mem_take hq)).2
       have hll:(upLs es 2 ++ (os.take j).map (fun x=>(wOut,outN x))).length <= 2000000:=by
        rw [List.length_append,List.length_map,List.length_take];omega
       have hrow:=zdQ hho.2;generalize os[j] = x at *;have hSB:=hS.lt;have hho1:=hho.1;clear hov hcb hcw hOk huo hb3 hho;obtain ⟨key,⟨lk,lt,lv⟩,⟨rk,rt,rv⟩,hl,hr⟩:=x;simp only at y0 y1 y2 y3 y4 y5 y6 y7 y8 hho1;have houts:=zo0 ⟨key,⟨lk,lt,lv⟩,⟨rk,rt,rv⟩,hl,hr⟩ (wr.alloc (.cells #[.int .i64 key,.int .i64 lk,.int .i64 lt,.int .i64 lv,.int .i64 rk,.int .i64 rt,.int .i64 rv,.bool hl,.bool hr] 94)) hho1;simp only at houts;generalize hxo:(⟨key,⟨lk,lt,lv⟩,⟨rk,rt,rv⟩,hl,hr⟩:Out) = x at *;have HXO:=Lib.hid hxo;clear hxo;have hx1:Ext wr (wr.alloc (.cells #[.int .i64 key,.int .i64 lk,.int .i64 lt,.int .i64 lv,.int .i64 rk,.int .i64 rt,.int .i64 rv,.bool hl,.bool hr] 94)):=(ExtM.refl _).alloc _;go_wp2_with (go_at_call 139;refine houts.mono ?_;rintro e w5 ⟨vo,rfl,hio,hxo⟩;refine Hid.out ?_);refine Lib.hid ?_;have hx5:=ExtM.trans _ _ _ hx1 hxo;obtain ⟨ao,co,rfl,hni⟩:=hio.nums (b:=B) (by rw [World.size_alloc];omega);have hln:=zdy B B _ (wOut,outN x) ⟨#[111,117,116]⟩ rfl ao co w5 (hS.ext hx5) (htq.keep (hx5.block _ htq.lt id)) hpB hni hlo2 hrow hll;clear houts hio hxo hx1 hlo2 hrow hll htq;go_wp2_with (go_at_call 136;refine hln.mono ?_;rintro e w7 ⟨rfl,hS7,hX7⟩;refine Hid.out ?_);refine Lib.hid ?_;have hX8:=hX.trans (BExt.trans (BExt.of_ext hx5 (by omega)) hX7);have HX8:=Lib.hid hX8;clear hX hX7 hX8 hln hS hx5 hni y0 y1 y2 y3 y4 y5 y6 y7 y8;go_wp2_with fail;go_roundg (os.length - (j + 1))
       case measure=>omega
       case rel =>
        refine ⟨j + 1,by go_num,by omega,Nat.le_refl _,?_,HX8.out⟩;rw [HTK.out,List.map_append,<- List.append_assoc];exact hS7
     . obtain rfl:j = os.length:=by omega
       have hz3:decide (os.length < os.length) = false:=by simp
       have hz4:decide ((os.length:Int) < os.length) = false:=by simp
       rw [List.take_length] at hS;have hll:(upLs es 2 ++ os.map (fun x=>(wOut,outN x))).length <= 2000000:=by
        rw [List.length_append,List.length_map];omega
       have hlo2:∀ x ∈ upLs es 2 ++ os.map (fun x=>(wOut,outN x)),zaV x:=fun x hx=>by
        rcases List.mem_append.1 hx with hx | hx
        . exact huo x hx
        . obtain ⟨q,hq,rfl⟩:=List.mem_map.1 hx;exact zdQ (hOk q hq).2
       have hln:=zdy B B _ (wEnd,[]) ⟨#[101,110,100]⟩ rfl none 0 wr hS htq hpB (.inl rfl) hlo2 ⟨(show wEnd.length <= 8 by decide),(show 0 <= 8 by decide),fun n h=>nomatch h⟩ hll;have hFr:=ExtF.trans _ _ _ HFV.out hX.extF;have HFR:=Lib.hid hFr;have heq:zst (upLs es 2 ++ os.map (fun x=>(wOut,outN x)) ++ [(wEnd,[])]) = savedT es:=by unfold savedT;rw [HSL.out,List.append_assoc]
       rw [heq] at hln;clear hFr hX hov hOk huo hul hlo2 hll htq hle heq;go_wp2_with (go_at_call 136;refine hln.mono ?_;rintro e w7 ⟨rfl,hS7,hX7⟩;refine Hid.out ?_);refine Lib.hid ?_;clear hln;have hbl:=bl_c B B _ _ hS7;have hbs:=bs_c B B _ _ hS7;have hsv:zeX es = if 60000 < (savedT es).length then .returned (.tuple #[.string ByteArray.empty,errV 4]) else .returned (.tuple #[.string ⟨(savedT es).toArray⟩,.nilIface]):=rfl;generalize savedT es = T at *;have HSV:=Lib.hid hsv;clear hsv;go_wp2_with (go_at_call 140;refine hbl.mono ?_;rintro e w8 ⟨rfl,rfl⟩;refine Hid.out ?_);refine Lib.hid ?_;clear hbl;have hF7:Plan.ExtF B u w7:=ExtF.trans _ _ _ HFR.out hX7.extF;have hsz:w7.heap.size < w7.heap.size + 1:=by omega
       by_cases hbig:60000 < T.length
       . have hbi:(60000:Int) < (T.length:Nat):=by omega
         have hE:=hF7.ext (Nat.le_of_eq HB.out);go_wp2_with fail;go_ret2;exact ⟨by rw [HSV.out,if_pos hbig];rfl,hE⟩
       . have hbi:¬ (60000:Int) < (T.length:Nat):=by omega
         go_wp2_with (go_at_call 12;refine hbs.mono ?_;rintro e w9 ⟨rfl,hX9⟩;refine Hid.out ?_);refine Lib.hid ?_;have hF9:Plan.ExtF B u w9:=ExtF.trans _ _ _ hF7 hX9.extF;have hE:=hF9.ext (Nat.le_of_eq HB.out);go_wp2_with fail;go_ret2;exact ⟨by rw [HSV.out,if_neg hbig];rfl,hE⟩
def MaxP (w:World):Prop:=∃ m,w.cell? ⟨3,0,none⟩ = some (.int .i64 m)
theorem MaxP.lt {w:World} (h:MaxP w):3 < w.heap.size:=by obtain ⟨m,h⟩:=h;exact zac h
theorem MaxP.keep {w w':World} (h:MaxP w) (hb:w'.heap[3]? = w.heap[3]?):MaxP w':=by
 obtain ⟨m,h⟩:=h;exact ⟨m,(World.cell?_of_block (w:=w) (w':=w') (a:=⟨3,0,none⟩) hb).trans h⟩
theorem MaxP.ext {w w':World} (h:MaxP w) (hx:Ext w w'):MaxP w':=h.keep (hx.block _ h.lt id)
theorem zp2:(Tryz.prog.info? 9).map (fun i=>(i.zero,i.size,i.bytes)) = some (some (.string ByteArray.empty),1,16):=by kernel_rfl
theorem zkB (c:UInt8) (s:ByteArray) (w:World) (hs:s.size < 4294967281) (hm:MaxP w) :
 Calls Tryz.prog 13 #[.string s,.string ⟨#[c]⟩] w fun e w'=>∃ l:List ByteArray,l.map (·.data.toList) = cut1 c s.data.toList /\ e = .returned (.slice (some ⟨w.heap.size,0,none⟩) l.length l.length) /\ w' = w.alloc (.cells (l.map Value.string).toArray 9):=by
 obtain ⟨m,hm⟩:=hm;refine (Any.strings_Split Tryz.shSplit zp2 s ⟨#[c]⟩ m w hs hm (Nat.le_refl 1)).mono ?_;rintro e w' ⟨rfl,rfl⟩;have hl:=Lib.splitB_all ⟨#[c]⟩ (Nat.le_refl 1) 0 _ s rfl;refine ⟨Lib.splitB ⟨#[c]⟩ 0 (Lib.countB s ⟨#[c]⟩) s,?_,by rw [hl],rfl⟩;rw [Lib.splitB_data,<- ziN c _ _ (Nat.le_refl _)];rfl
theorem zdf {w w':World} (h:Below w.heap.size w w'):Ext w w':=⟨h.os,h.tape,h.output,h.size,fun k hk _=>h.block k hk⟩
theorem zoD (s:ByteArray) (n:Int) (w:World) (hs:s.size <= 1000000000) (h:Lib.atoiAll s.data.toList = .ok n) :
 Calls Tryz.prog 42 #[.string s] w fun e w'=>e = .returned (.tuple #[.int .i64 n,.nilIface]) /\ Ext w w':=by
 refine (Any.strconv_Atoi_ok Tryz.shAtoi s (by omega) n h w).mono ?_;rintro e w' ⟨rfl,hw⟩;refine ⟨rfl,?_⟩;rcases hw with rfl | ⟨t,rfl⟩
 . exact ExtM.refl _
 . exact zdf (Lib.bytesWorld_below _ _ _)
section
variable {u u':World} {E P M:Nat} {v0 v1:Value} {D DG:Option Nat} {ents:List Ent} {lo hi md:Int} {st:JSt} {V W:List Out} {f0 f1:Int}
theorem EIs.upJ {st':JSt} (h:EIs u E P M v0 v1 D DG ents lo hi md st V W f0 f1) (hu:JUp u u' P M (zaE P M v0 v1) lo hi md st') (hA:∀ h ∈ st'.a,h.r.ok) (hB:∀ h ∈ st'.b,h.r.ok) :
 EUp u u' E (zeA E P M v0 v1 D DG ents) lo hi md st' V W f0 f1:=by
 obtain ⟨v0',v1',-,h2,h3⟩:=h.joins hu hA hB;exact ⟨hu.1.mono (fun _ _ h=>.inl h),_,⟨_,_,_,_,_,_,_,h2,rfl⟩,h3⟩
end
structure LdIs (u:World) (L:Nat) (p:Option Addr) (b:Bool):Prop where
 c0:u.cell? ⟨L,0,none⟩ = some (.pointer p)
 c1:u.cell? ⟨L,1,none⟩ = some (.bool b)
 f:∀ q,u.frozen? ⟨L,q,none⟩ = false
theorem LdIs.lt {u:World} {L:Nat} {p:Option Addr} {b:Bool} (h:LdIs u L p b):L < u.heap.size:=zac h.c0
theorem LdIs.keep {F:Nat -> Prop} {u u':World} {L:Nat} {p:Option Addr} {b:Bool} (h:LdIs u L p b) (hx:ExtM F u u') (hF:¬ F L):LdIs u' L p b :=
 ⟨(hx.cell (p:=⟨L,0,none⟩) h.lt hF).trans h.c0,(hx.cell (p:=⟨L,1,none⟩) h.lt hF).trans h.c1,fun q=>(hx.frozen (p:=⟨L,q,none⟩) h.lt hF).trans (h.f q)⟩
theorem LdIs.set {u:World} {L:Nat} {p:Option Addr} {b:Bool} (h:LdIs u L p b) (c:Bool):LdIs (u.setCell ⟨L,1,none⟩ (.bool c)) L p c:=by
 have h0:=h.c0;have h1:=h.c1;refine ⟨?_,?_,fun q=>?_⟩
 . go_simp
 . go_simp
 . have:=h.f q
   go_simp
theorem zaq.cells {u:World} {b:Nat} {a:Option Addr} {n:List Int} (h:zaq u b a n) (hn:n ≠ []):∃ g,a = some ⟨g,0,none⟩ /\ g ≠ b /\ g < u.heap.size /\ ∀ (i:Nat) (v:Int),n[i]? = some v -> u.cell? ⟨g,i,none⟩ = some (.int .i64 v):=by
 rcases h with h | ⟨g,cur,t,fz,rfl,h1,h2,h3,h4⟩
 . exact absurd h hn
 . refine ⟨g,rfl,h1,(Array.getElem?_eq_some_iff.1 h3).1,fun i v hv=>?_⟩;obtain ⟨hi,rfl⟩:=List.getElem?_eq_some_iff.1 hv
   have:=h4 i hi
   simp only [World.cell?,h3];exact this
def RR (w:World) (b:Nat) (v:Value) (R:List Row):Prop:=w.ownsRow b 92 3 v R.length (R.flatMap Row.cells)
theorem zlh (r:Row):r.cells.length = 3:=rfl
theorem znS:(Tryz.prog.info? 92).map (fun i=>(i.zero,i.size,i.bytes)) = some (some (.agg #[.int .i64 0,.int .i64 0,.int .i64 0]),3,24):=by kernel_rfl
theorem zcg (W:World) (base nb c:Nat) (v:Value) (acc:List Row) (r:Row) (ty:TypeId) (hown:RR W base v acc) (hx:∀ j u,r.cells[j]? = some u -> W.cell? ⟨nb,j,none⟩ = some u) (hl:acc.length < 1000000) (hb:base <= W.heap.size) :
 ∃ v' w',(Builtin.append_ #[226,226] ty #[v,.slice (some ⟨nb,0,none⟩) 1 c]).run Tryz.prog W = .ok v' w' /\ RR w' base v' (acc ++ [r]) /\ ExtR v.ownBlock W w' /\ (v'.ownBlock = v.ownBlock \/ ∃ k,v'.ownBlock = some k /\ W.heap.size <= k):=by
 obtain ⟨i0,hi,hz0,hz1,hz2⟩:=info_parts znS;obtain ⟨v',w',h1',h2,h3,-,h5⟩:=run_append_own_at (P:=Tryz.prog) W base 226 ty 92 i0 (.agg #[.int .i64 0,.int .i64 0,.int .i64 0]) 3 24 Tryz.underlying226 hi hz0 hz1 hz2 rfl (by decide) v acc.length _ hown ⟨nb,0,none⟩ 1 c r.cells rfl
  (fun j u hj=>by
    have e1:(⟨nb,0,none⟩:Addr).add j = ⟨nb,j,none⟩:=by unfold Addr.add;split <;> simp_all
    rw [e1];exact hx j u hj) (fun u hu=>by simp only [Row.cells,List.mem_cons,List.not_mem_nil,or_false] at hu;rcases hu with rfl | rfl | rfl <;> rfl) (by unfold maxLen;omega) (by omega) hb
 refine ⟨v',w',h1',?_,⟨h3.os,h3.tape,h3.output,h3.size,fun k hk hn=>h3.block k hk (fun e=>hn e.symm)⟩,?_⟩
 . unfold RR;rw [List.flatMap_append,List.length_append];simpa using h2
 . rcases h5 with h | h
   . exact .inl h
   . exact .inr ⟨_,h,Nat.le_refl _⟩
end Go.Proofs.YtiknejbcehpmoaaGreatDoor
