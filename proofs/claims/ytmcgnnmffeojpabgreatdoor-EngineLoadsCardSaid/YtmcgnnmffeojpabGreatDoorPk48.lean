import Derived.Test.YtmcgnnmffeojpabGreatDoorPk26
import Derived.Test.YtmcgnnmffeojpabGreatDoorPk38
import Derived.Test.YtmcgnnmffeojpabGreatDoorPk44
import Derived.Test.YtmcgnnmffeojpabGreatDoorPk46
import Derived.Test.YtmcgnnmffeojpabGreatDoorPk47
import Derived.Deep.DeepCutAuto
import Derived.Deep.CutBlock
set_option maxRecDepth 100000
set_option maxHeartbeats 8000000
namespace Go.Proofs.YtmcgnnmffeojpabGreatDoor
open Go.RowKit Go.Plan Go.Shelf
theorem zo5:Builder.Extra Tryz.prog Tryz.shJoin_ren where
 sizeBuilder:=by kernel_rfl
 liesBuilder:=by kernel_rfl
 t5:=Tryz.underlying5
 a5:=Tryz.isAgg5
 z5:=Tryz.sizeOf5
 v5:=Tryz.zeroValue5
 infoByte:=by kernel_rfl
 cellsByte:=by kernel_rfl
 sizeByte:=by kernel_rfl
 neB5:=by decide
def SR (w:World) (b:Nat) (v:Value) (xs:List ByteArray):Prop:=w.ownsRow b 9 1 v xs.length (xs.map Value.string)
theorem zoN:(Tryz.prog.info? 9).map (fun i=>(i.zero,i.size,i.bytes)) = some (some (.string ByteArray.empty),1,16):=by kernel_rfl
theorem zh2 (W:World) (base nb c:Nat) (v:Value) (acc:List ByteArray) (x:ByteArray) (ty:TypeId) (hown:SR W base v acc) (hx:W.cell? ⟨nb,0,none⟩ = some (.string x)) (hl:acc.length < 1000000) (hb:base <= W.heap.size) :
 ∃ v' w',(Builtin.append_ #[78,78] ty #[v,.slice (some ⟨nb,0,none⟩) 1 c]).run Tryz.prog W = .ok v' w' /\ SR w' base v' (acc ++ [x]) /\ ExtR v.ownBlock W w' /\ (v'.ownBlock = v.ownBlock \/ ∃ k,v'.ownBlock = some k /\ W.heap.size <= k):=by
 obtain ⟨i0,hi,hz0,hz1,hz2⟩:=info_parts zoN;obtain ⟨v',w',h1',h2,h3,-,h5⟩:=run_append_own_at (P:=Tryz.prog) W base 78 ty 9 i0 (.string ByteArray.empty) 1 16 Tryz.underlying78 hi hz0 hz1 hz2 rfl (by decide) v acc.length _ hown ⟨nb,0,none⟩ 1 c [.string x] rfl
  (fun j u hj=>by
    have hj0:j = 0:=by
     have:=(List.getElem?_eq_some_iff.1 hj).1
     simp at this;exact this
    subst hj0;simp only [List.getElem?_cons_zero,Option.some.injEq] at hj;subst hj
    exact hx) (fun u hu=>by rw [List.mem_singleton] at hu;subst hu;rfl) (by unfold maxLen;omega) (by omega) hb
 refine ⟨v',w',h1',?_,⟨h3.os,h3.tape,h3.output,h3.size,fun k hk hn=>h3.block k hk (fun e=>hn e.symm)⟩,?_⟩
 . unfold SR;rw [List.map_append,List.length_append];exact h2
 . rcases h5 with h | h
   . exact .inl h
   . exact .inr ⟨_,h,Nat.le_refl _⟩
theorem SR.cells {w:World} {B:Nat} {v:Value} {xs:List ByteArray} (h:SR w B v xs):∃ a cap,v = .slice a xs.length cap /\ xs.length <= cap /\ (xs = [] \/ ∃ g,a = some ⟨g,0,none⟩ /\ g < w.heap.size /\ ∀ (j:Nat) x,xs[j]? = some x -> w.cell? ⟨g,0 + j,none⟩ = some (.string x)):=by
 rcases h.2 with ⟨rfl,h0⟩ | ⟨g,cap,cur,rfl,e1,e2,e3,e4,e5,e6⟩
 . exact ⟨none,0,by rw [h0],by omega,.inl (List.eq_nil_of_length_eq_zero h0)⟩
 . refine ⟨_,_,rfl,e3,.inr ⟨g,rfl,(Array.getElem?_eq_some_iff.1 e2).1,fun j x hj=>?_⟩⟩;obtain ⟨hi,rfl⟩:=List.getElem?_eq_some_iff.1 hj;have h1:(cur.toList.take (xs.length * 1))[j]? = (xs.map Value.string)[j]?:=by rw [e6]
   rw [List.getElem?_take_of_lt (by omega),Array.getElem?_toList,List.getElem?_map,List.getElem?_eq_getElem hi] at h1;rw [Nat.zero_add];simpa [World.cell?,e2] using h1
def zfl (n:Int):ByteArray:=⟨(Lib.itoa n).toArray⟩
def wordsB (ns:List Int):List UInt8:=Lib.join (ns.map Lib.itoa) [32]
theorem zhn (n:Int) (ns:List Int):wordsB (n :: ns) = Lib.itoa n ++ ns.flatMap numB:=by
 unfold wordsB;rw [List.map_cons,Lib.join_cons];congr 1;unfold Lib.joinTail;rw [List.map_map,List.flatMap_def];rfl
theorem zfe {ns:List Int} (h:ns ≠ []):ns.flatMap numB = 32 :: wordsB ns:=by
 cases ns with
 | nil=>exact absurd rfl h
 | cons n ns=>rw [zhn];rfl
theorem zi0 (ns:List Int) (hn:∀ n ∈ ns,-9223372036854775808 <= n /\ n <= 9223372036854775807):(wordsB ns).length <= 22 * ns.length:=by
 have h:=zdh ns hn;by_cases h0:ns = []
 . subst h0;simp [wordsB,Lib.join_nil]
 . rw [zfe h0,List.length_cons] at h;omega
theorem zms (ns:List Int) (a:Option Addr) (cap b:Nat) (w:World) (hr:zaq w b a ns) (ht:TabP w) (hn:∀ n ∈ ns,-9223372036854775808 <= n /\ n <= 9223372036854775807) (hl:ns.length <= 100) :
 Calls Tryz.prog 52 #[.slice a ns.length cap] w fun e w'=>e = .returned (.string ⟨(wordsB ns).toArray⟩) /\ Ext w w':=by
 go_enter Tryz.func52,Tryz.ntmps52;go_wp2_with fail;go_loopg [3,8] (ns.length + 1) (fun kx s3 s8 wr=>∃ i:Nat,s8 = .int .i64 i /\ i <= ns.length /\ ns.length - i <= kx /\ SR wr w.heap.size s3 ((ns.take i).map zfl) /\ Ext w wr)
 case atStart=>exact ⟨0,rfl,by omega,by omega,⟨rfl,.inl ⟨rfl,rfl⟩⟩,ExtM.refl _⟩
 case round =>
  obtain ⟨i,rfl,hi,hgk,hS,hx⟩:=hrel;by_cases hil:i < ns.length
  . rcases hr with e | ⟨g,c,t,fz,rfl,hgb,htu,hg,hc⟩
    . subst e;simp at hil
    have hcw:w.cell? ⟨g,i,none⟩ = some (.int .i64 ns[i]):=by
     have:=hc i hil
     simpa [World.cell?,hg] using this
    have hgl:g < w.heap.size:=(Array.getElem?_eq_some_iff.1 hg).1;have hcell:=(hx.cell (p:=⟨g,i,none⟩) hgl id).trans hcw;have hni:=hn _ (List.getElem_mem hil);have HT:=Lib.hid (List.take_succ_eq_append_getElem hil);have hgr:g < wr.heap.size:=Nat.lt_of_lt_of_le hgl hx.size;have htr:TabP wr:=ht.keep (hx.block _ ht.lt id);generalize ns[i] = n at *;clear hc hg hcw;go_wp2_with (go_at_call 57;refine (zno n _ hni.1 hni.2 htr).mono ?_;rintro e w2 ⟨rfl,hx2⟩;refine Hid.out ?_);refine Lib.hid ?_;have hS2:SR w2 w.heap.size u3 ((ns.take i).map zfl):=zag hS hx2 (fun _ _ h=>h);have hsz:w.heap.size <= w2.heap.size:=by have:=hx.size;have:=hx2.size;omega
    obtain ⟨v',w',happ,hir',hxr,hloc⟩:=zh2 (w2.alloc (.cells #[.string (zfl n)] 9)) w.heap.size w2.heap.size 1 u3 ((ns.take i).map zfl) (zfl n) 78 (zag hS2 ((ExtM.refl _).alloc _:Ext w2 _) (fun _ _ h=>h))
     (by go_simp) (by rw [List.length_map,List.length_take];omega) (by rw [World.size_alloc];omega)
    have hxc:Ext w w':=(ExtM.trans _ _ _ hx (ExtM.trans _ _ _ hx2 ((ExtM.refl w2).alloc _)):Ext w _).fresh' hxr (fun k hk e=>by have:=(zaf hS2 k e).1;omega);obtain ⟨pv,cv,hpv,-⟩:=zaa hS2;rw [List.length_map,List.length_take,Nat.min_eq_left hi] at hpv;have HN:=Lib.hid (⟨hir',hxc⟩:_ /\ _);have hit:zfl n = ⟨(Lib.itoa n).toArray⟩:=rfl;rw [hit] at happ;subst hpv;clear hir' hxc hxr hloc hS2 hS hx hx2 hit;go_wp2_with (at_builtin;refine wpList_append_run happ rfl rfl _ _ rfl rfl rfl ?_;clear happ);go_roundg (ns.length - (i + 1))
    case measure=>omega
    case rel =>
     obtain ⟨r1,r2⟩:=HN.out;refine ⟨i + 1,by go_num,by omega,Nat.le_refl _,?_,r2⟩;rw [HT.out,List.map_append];exact r1
  . obtain rfl:i = ns.length:=by omega
    have hz:decide (ns.length < ns.length) = false:=by simp
    have hz2:decide ((ns.length:Int) < ns.length) = false:=by simp
    rw [List.take_length] at hS;obtain ⟨a',cap',rfl,hcap,hcs⟩:=hS.cells;have hjl:=zi0 ns hn;have hmm:(ns.map zfl).map (·.data.toList) = ns.map Lib.itoa:=by rw [List.map_map];rfl
    have hJ:Calls Tryz.prog 102 #[.slice a' (ns.map zfl).length cap',.string ⟨#[32]⟩] wr fun e w'=>e = .returned (.string ⟨(wordsB ns).toArray⟩) /\ Ext wr w':=by
     rcases hcs with h0 | ⟨g,rfl,hg,hc⟩
     . have hn0:ns = []:=List.map_eq_nil_iff.1 h0;subst hn0;refine (Any.strings_Join_none Tryz.shJoin zo5 a' cap' ⟨#[32]⟩ wr).mono ?_;rintro e w' ⟨rfl,rfl⟩;exact ⟨rfl,ExtM.refl _⟩
     . refine (Any.strings_Join Tryz.shJoin zo5 g 0 cap' (ns.map zfl) ⟨#[32]⟩ wr hc hg (by rw [List.length_map];omega) hcap (by rw [hmm];show (wordsB ns).length <= _;omega)).mono ?_;rintro e w' ⟨rfl,hx'⟩;rw [hmm];exact ⟨rfl,zdf hx'⟩
    have HX:=Lib.hid hx;clear hcs hjl hmm hS hx;rw [List.length_map] at hJ;rw [List.length_map];go_wp2_with (go_at_call 102;refine hJ.mono ?_;rintro e w3 ⟨rfl,hx3⟩;refine Hid.out ?_);refine Lib.hid ?_;clear hJ;go_wp2_with fail;go_ret;exact ⟨rfl,ExtM.trans _ _ _ HX.out hx3⟩
open Go.RowKit Go.Plan
def zf9 (T:List UInt8):Ending:=if 60000 < T.length then .returned (.tuple #[.string ByteArray.empty,.int .i64 4]) else .returned (.tuple #[.string ⟨T.toArray⟩,.int .i64 0])
theorem zjE {nm:List UInt8} {ns:List Int} (h:ns ≠ []):nm ++ ([32] ++ (wordsB ns ++ [10])) = textB [(nm,ns)]:=by
 rw [zca,zfL,zfe h];simp [textB]
theorem zbT {nm:List UInt8} {ns:List Int} (h:zaV (nm,ns)):(wordsB ns).length <= 176:=by
 have h1:=zi0 ns h.2.2;have h2:=h.2.1;simp only at h2;omega
def NI (w:World) (a:Option Addr) (ns:List Int):Prop:=∃ b,zaq w b a ns
theorem NI.ext {w w':World} {a:Option Addr} {ns:List Int} (h:NI w a ns) (hx:Ext w w'):NI w' a ns:=by
 obtain ⟨b,h⟩:=h;rcases h with h | ⟨g,c,t,fz,h1,h2,h3,h4,h5⟩
 . exact ⟨b,.inl h⟩
 . exact ⟨b,.inr ⟨g,c,t,fz,h1,h2,h3,(hx.block g (Array.getElem?_eq_some_iff.1 h4).1 id).trans h4,h5⟩⟩
theorem NI.new (w:World) (ns:List Int):NI (w.alloc (.cells (ns.map (Value.int .i64)).toArray 3)) (some ⟨w.heap.size,0,none⟩) ns :=
 ⟨w.heap.size + 1,.inr ⟨w.heap.size,_,3,(0,0),rfl,by omega,by decide,heap_alloc_new _ _,fun i hi=>by simp [hi]⟩⟩
theorem zdY {w:World} {a:Option Addr} {ns:List Int} (h:NI w a ns) (cap:Nat) (ht:TabP w) {nm:List UInt8} (ok:zaV (nm,ns)) :
 Calls Tryz.prog 52 #[.slice a ns.length cap] w fun e w'=>e = .returned (.string ⟨(wordsB ns).toArray⟩) /\ Ext w w':=by
 obtain ⟨b,h⟩:=h;exact zms ns a cap b w h ht ok.2.2 (by have:=ok.2.1;simp only at this;omega)
theorem TabP.ext {w w':World} (h:TabP w) (hx:Ext w w'):TabP w':=h.keep (hx.block _ h.lt id)
theorem ziX (e:ESt):((((((ByteArray.mk #[112,108,97,110,32]) ++ (ByteArray.mk (wordsB [e.lo,e.hi,e.md]).toArray)) ++ (ByteArray.mk #[10,102,101,100,32])) ++ (ByteArray.mk (wordsB [e.f0,e.f1,e.st.late]).toArray)) ++ (ByteArray.mk #[10,109,97,114,107,115,32])) ++ (ByteArray.mk (wordsB [e.st.x,e.st.y]).toArray)) ++ (ByteArray.mk #[10]) = ByteArray.mk (textB (upLs e 0)).toArray:=by
 simp only [ByteArray.mk_append_mk];congr 2;have:upLs e 0 = [(zc2,[e.lo,e.hi,e.md])] ++ ([(wFed,[e.f0,e.f1,e.st.late])] ++ [(zbW,[e.st.x,e.st.y])]):=by simp [upLs,za5]
 rw [this,zaR,zaR,<- zjE (by simp),<- zjE (by simp),<- zjE (by simp)];simp [zc2,wFed,zbW]
theorem zlj (ls:List (List UInt8 × List Int)) {ns:List Int} (h:ns ≠ []):(ByteArray.mk (textB ls).toArray) ++ (((ByteArray.mk #[114,111,119,32]) ++ (ByteArray.mk (wordsB ns).toArray)) ++ (ByteArray.mk #[10])) = ByteArray.mk (textB (ls ++ [(wRow,ns)])).toArray:=by
 simp only [ByteArray.mk_append_mk];rw [zaR,<- zjE h];simp [wRow]
theorem zkq (ls:List (List UInt8 × List Int)) {ns:List Int} (h:ns ≠ []):(ByteArray.mk (textB ls).toArray) ++ (((ByteArray.mk #[111,117,116,32]) ++ (ByteArray.mk (wordsB ns).toArray)) ++ (ByteArray.mk #[10])) = ByteArray.mk (textB (ls ++ [(wOut,ns)])).toArray:=by
 simp only [ByteArray.mk_append_mk];rw [zaR,<- zjE h];simp [wOut]
theorem zkT (ls:List (List UInt8 × List Int)):(ByteArray.mk (textB ls).toArray) ++ (ByteArray.mk #[101,110,100,10]) = ByteArray.mk (textB (ls ++ [(wEnd,[])])).toArray:=by
 simp only [ByteArray.mk_append_mk];rw [zaR,zca];simp [wEnd,textB,lineB]
theorem zev {w:World} {b:Nat} {a c d:Int} (h:zcu w b 0 [a,c,d]):∀ j u,([a,c,d].map (Value.int .i64))[j]? = some u -> w.cell? ⟨b,j,none⟩ = some u:=fun j u hj=>by
 have hj3:j < 3:=by simpa using (List.getElem?_eq_some_iff.1 hj).1
 have h1:=h j (by simpa using hj3);rw [Nat.zero_add] at h1;rw [h1];rcases (by omega:j = 0 \/ j = 1 \/ j = 2) with rfl | rfl | rfl <;> simpa using hj
theorem zmK {u:World} {R:Nat} {Cs:Nat -> Prop} {lo hi md:Int} {rs:RSt} {l:List Out} {f0 f1:Int} {st:JSt} {n:Nat} (h:REAt u R Cs lo hi md rs l f0 f1) (es:ESt) (hes:es = ⟨lo,hi,md,st,l,f0,f1⟩) (ok:SOk es) (hg:zce st rs n) (ht:TabP u) :
 Calls Tryz.prog 15 #[.pointer (some ⟨R,0,none⟩)] u fun e u'=>e = zf9 (savedT es) /\ Ext u u':=by
 obtain ⟨J,r0,r1,rv,hI,-⟩:=h;have hj:=hI.join;have c0:=hI.c0;have d2:=hI.c2;have d3:=hI.c3;have lR:=hI.lt;have lJ:=hj.lt;have p0:=hj.c0;have p1:=hj.c1;have p2:=hj.c2;have m5:=hj.c5;have m6:=hj.c6;have m7:=hj.c7;rw [<- hg.rel.x] at m5;rw [<- hg.rel.y] at m6;rw [<- hg.rel.late] at m7;have hok:=ze1 ok;have ok0:zaV (zc2,[lo,hi,md]):=hok _ (by rw [hes];simp [za5]);have ok1:zaV (wFed,[f0,f1,st.late]):=hok _ (by rw [hes];simp [za5]);have ok2:zaV (zbW,[st.x,st.y]):=hok _ (by rw [hes];simp [za5]);have hhb:=ziX es;have huz:=zcD ok 0;have huk:=zdu ok 0;rw [hes] at hhb;simp only at hhb;rw [<- hes] at hhb;have hW0:=zbT ok0;have hW1:=zbT ok1;have hW2:=zbT ok2;have hw0:∀ w a,NI w a [lo,hi,md] -> TabP w -> ∀ cap,Calls Tryz.prog 52 #[.slice a 3 cap] w fun e w'=>e = .returned (.string ⟨(wordsB [lo,hi,md]).toArray⟩) /\ Ext w w':=fun w a h ht cap=>zdY h cap ht ok0;have hw1:∀ w a,NI w a [f0,f1,st.late] -> TabP w -> ∀ cap,Calls Tryz.prog 52 #[.slice a 3 cap] w fun e w'=>e = .returned (.string ⟨(wordsB [f0,f1,st.late]).toArray⟩) /\ Ext w w':=fun w a h ht cap=>zdY h cap ht ok1;have hw2:∀ w a,NI w a [st.x,st.y] -> TabP w -> ∀ cap,Calls Tryz.prog 52 #[.slice a 2 cap] w fun e w'=>e = .returned (.string ⟨(wordsB [st.x,st.y]).toArray⟩) /\ Ext w w':=fun w a h ht cap=>zdY h cap ht ok2;generalize wordsB [lo,hi,md] = W0 at *;generalize wordsB [f0,f1,st.late] = W1 at *;generalize wordsB [st.x,st.y] = W2 at *;have HES:=Lib.hid hes;have HHB:=Lib.hid hhb;have HI:=Lib.hid hI;have HG:=Lib.hid hg;have HT:=Lib.hid ht;clear hes hhb hok ok0 ok1 ok2 hj hI hg huz huk;generalize hxx:st.x = mx at *;generalize hyy:st.y = my at *;generalize hll:st.late = ml at *;clear hxx hyy hll;go_enter Tryz.func15,Tryz.ntmps15;go_upto_region 2 with fail;go_cut [5] (fun s5 wx=>s5 = .string ⟨(textB (upLs es 0)).toArray⟩ /\ Ext u wx)
 case first =>
  refine Plan.b0 Plan.Ext 52 ?_;refine Plan.qs 12 [0,1,2,3,4,5,6,7,8,9,10,11] ?_;iterate 12 go_big_quiet_step (fail)
  refine Plan.qs 12 [12,13,14,19,20,21,22,23,24,25,26,27] ?_;iterate 12 go_big_quiet_step (fail)
  refine Plan.qs 12 [28,29,30,31,32,37,38,39,40,41,42,43] ?_;iterate 12 go_big_quiet_step (fail)
  refine Plan.qs 3 [44,45,46] ?_;iterate 3 go_big_quiet_step (fail)
  refine wpQuiet_nil ?_;have hx:Ext u u.drew:=(ExtM.refl _).drew;replace ht:=ht.ext hx;generalize u.drew = wz at *;clear c0 d2 d3 lR lJ p0 p1 p2 m5 m6 m7;have hgn:Gone 0:=⟨⟩
  refine Plan.zeU 15 33 47 (by kernel_rfl) (by rfl) (by rfl) (by rfl) (Plan.plain rfl fun K hK=>zap.out (n:=15) ?_) (Plan.plain rfl fun K hK=>zap.out (n:=33) ?_) (Plan.plain rfl fun K hK=>zap.out (n:=47) ?_)
  all_goals
   as_aux_lemma =>
    repeat'
     (first
       | (have _q:Gone 1:=hgn;refine Plan.zeU 16 33 47 (by kernel_rfl) (by rfl) (by rfl) (by rfl) (Plan.plain rfl fun K hK=>zap.out (n:=16) ?_) (Plan.plain rfl fun K hK=>zap.out (n:=33) ?_) (Plan.plain rfl fun K hK=>zap.out (n:=47) ?_))
       | (have _q:Gone 3:=hgn;refine Plan.zcj 33 47 (by kernel_rfl) (by rfl) (by rfl) (Plan.plain rfl fun K hK=>zap.out (n:=33) ?_) (Plan.plain rfl fun K hK=>zap.out (n:=47) ?_))
       | (have _q:Gone 4:=hgn;refine Plan.zcj 15 47 (by kernel_rfl) (by rfl) (by rfl) (Plan.plain rfl fun K hK=>zap.out (n:=15) ?_) (Plan.plain rfl fun K hK=>zap.out (n:=47) ?_))
       | (have _q:Gone 5:=hgn;refine Plan.zcj 16 47 (by kernel_rfl) (by rfl) (by rfl) (Plan.plain rfl fun K hK=>zap.out (n:=16) ?_) (Plan.plain rfl fun K hK=>zap.out (n:=47) ?_))
       | (have _q:Gone 7:=hgn;refine Plan.zcj 34 47 (by kernel_rfl) (by rfl) (by rfl) (Plan.plain rfl fun K hK=>zap.out (n:=34) ?_) (Plan.plain rfl fun K hK=>zap.out (n:=47) ?_))
       | (have _q:Gone 15:=hgn;refine Plan.zaZ 47 (by kernel_rfl) (by rfl) (Plan.plain rfl fun K hK=>zap.out (n:=47) ?_))
       | (have _q:Gone 16:=hgn;refine Plan.zcj 15 33 (by kernel_rfl) (by rfl) (by rfl) (Plan.plain rfl fun K hK=>zap.out (n:=15) ?_) (Plan.plain rfl fun K hK=>zap.out (n:=33) ?_))
       | (have _q:Gone 17:=hgn;refine Plan.zcj 16 33 (by kernel_rfl) (by rfl) (by rfl) (Plan.plain rfl fun K hK=>zap.out (n:=16) ?_) (Plan.plain rfl fun K hK=>zap.out (n:=33) ?_))
       | (have _q:Gone 19:=hgn;refine Plan.zaZ 33 (by kernel_rfl) (by rfl) (Plan.plain rfl fun K hK=>zap.out (n:=33) ?_))
       | (have _q:Gone 20:=hgn;refine Plan.zaZ 15 (by kernel_rfl) (by rfl) (Plan.plain rfl fun K hK=>zap.out (n:=15) ?_))
       | (have _q:Gone 21:=hgn;refine Plan.zaZ 16 (by kernel_rfl) (by rfl) (Plan.plain rfl fun K hK=>zap.out (n:=16) ?_))
       | (have _q:Gone 23:=hgn;refine Plan.zaZ 34 (by kernel_rfl) (by rfl) (Plan.plain rfl fun K hK=>zap.out (n:=34) ?_))
       | (have _q:Gone 31:=hgn;refine Plan.zaZ 48 (by kernel_rfl) (by rfl) (Plan.plain rfl fun K hK=>zap.out (n:=48) ?_))
       | (refine (zap.mk ?_:zap 15 _);replace hgn:=Gone.add 1 hgn
          go_wp2_with (fail);refine hK _ _ ((ExtM.refl _).alloc _) ?_;clear hK K;have hxa:Ext wz (wz.alloc (.cells #[.int .i64 lo,.int .i64 hi,.int .i64 md] 3)):=(ExtM.refl _).alloc _;have h15:=NI.new wz [lo,hi,md];simp only [List.map_cons,List.map_nil] at h15;replace hx:=ExtM.trans _ _ _ hx hxa;replace ht:=ht.ext hxa
          (try replace h33:=NI.ext h33 hxa)
          (try replace h47:=NI.ext h47 hxa)
          generalize wz.alloc (.cells #[.int .i64 lo,.int .i64 hi,.int .i64 md] 3) = wy at *;generalize wz.heap.size = mh15 at *;clear hxa wz;rename World=>wz
          skip)
       | (refine (zap.mk ?_:zap 33 _);replace hgn:=Gone.add 4 hgn
          go_wp2_with (fail);refine hK _ _ ((ExtM.refl _).alloc _) ?_;clear hK K;have hxa:Ext wz (wz.alloc (.cells #[.int .i64 f0,.int .i64 f1,.int .i64 ml] 3)):=(ExtM.refl _).alloc _;have h33:=NI.new wz [f0,f1,ml];simp only [List.map_cons,List.map_nil] at h33;replace hx:=ExtM.trans _ _ _ hx hxa;replace ht:=ht.ext hxa
          (try replace h15:=NI.ext h15 hxa)
          (try replace h47:=NI.ext h47 hxa)
          generalize wz.alloc (.cells #[.int .i64 f0,.int .i64 f1,.int .i64 ml] 3) = wy at *;generalize wz.heap.size = mh33 at *;clear hxa wz;rename World=>wz
          skip)
       | (refine (zap.mk ?_:zap 47 _);replace hgn:=Gone.add 16 hgn
          go_wp2_with (fail);refine hK _ _ ((ExtM.refl _).alloc _) ?_;clear hK K;have hxa:Ext wz (wz.alloc (.cells #[.int .i64 mx,.int .i64 my] 3)):=(ExtM.refl _).alloc _;have h47:=NI.new wz [mx,my];simp only [List.map_cons,List.map_nil] at h47;replace hx:=ExtM.trans _ _ _ hx hxa;replace ht:=ht.ext hxa
          (try replace h15:=NI.ext h15 hxa)
          (try replace h33:=NI.ext h33 hxa)
          generalize wz.alloc (.cells #[.int .i64 mx,.int .i64 my] 3) = wy at *;generalize wz.heap.size = mh47 at *;clear hxa wz;rename World=>wz
          skip)
       | (refine (zap.mk ?_:zap 16 _);replace hgn:=Gone.add 2 hgn
          go_wp2_with (fail);refine (hw0 _ _ h15 ht _).mono ?_;rintro e wy ⟨rfl,hxa⟩;go_wp2_with (fail);refine hK _ _ hxa ?_;clear hK K;replace hx:=ExtM.trans _ _ _ hx hxa;replace ht:=ht.ext hxa
          (try replace h33:=NI.ext h33 hxa)
          (try replace h47:=NI.ext h47 hxa)
          clear hxa h15 wz;rename World=>wz;refine Plan.zaU 17 (by rfl) (by kernel_rfl) ?_;go_big_quiet_step (fail);refine wpQuiet_nil ?_;refine Plan.zaU 18 (by rfl) (by kernel_rfl) ?_;go_big_quiet_step (fail);refine wpQuiet_nil ?_
          skip)
       | (refine (zap.mk ?_:zap 34 _);replace hgn:=Gone.add 8 hgn
          go_wp2_with (fail);refine (hw1 _ _ h33 ht _).mono ?_;rintro e wy ⟨rfl,hxa⟩;go_wp2_with (fail);refine hK _ _ hxa ?_;clear hK K;replace hx:=ExtM.trans _ _ _ hx hxa;replace ht:=ht.ext hxa
          (try replace h33:=NI.ext h33 hxa)
          (try replace h47:=NI.ext h47 hxa)
          clear hxa h33 wz;rename World=>wz;refine Plan.zaU 35 (by rfl) (by kernel_rfl) ?_;go_big_quiet_step (fail);refine wpQuiet_nil ?_;refine Plan.zaU 36 (by rfl) (by kernel_rfl) ?_;go_big_quiet_step (fail);refine wpQuiet_nil ?_
          skip)
       | (refine (zap.mk ?_:zap 48 _);replace hgn:=Gone.add 32 hgn
          go_wp2_with (fail);refine (hw2 _ _ h47 ht _).mono ?_;rintro e wy ⟨rfl,hxa⟩;go_wp2_with (fail);refine hK _ _ hxa ?_;clear hK K;replace hx:=ExtM.trans _ _ _ hx hxa;replace ht:=ht.ext hxa
          (try replace h47:=NI.ext h47 hxa)
          (try replace h47:=NI.ext h47 hxa)
          clear hxa h47 wz;rename World=>wz;refine Plan.zaU 49 (by rfl) (by kernel_rfl) ?_;go_big_quiet_step (fail);refine wpQuiet_nil ?_;refine Plan.zaU 50 (by rfl) (by kernel_rfl) ?_;go_big_quiet_step (fail);refine wpQuiet_nil ?_;refine Plan.zaU 51 (by rfl) (by kernel_rfl) ?_;go_big_quiet_step (fail);refine wpQuiet_nil ?_
          refine Plan.dn ?_))
     skip
    all_goals
     go_wp2_with fail;go_meet
     case rel=>exact ⟨congrArg Value.string HHB.out,hx⟩
 case rest =>
  obtain ⟨rfl,hx⟩:=hcut;clear c0 d2 d3 lR lJ p0 p1 p2 m5 m6 m7 hw0 hw1 hw2 hW0 hW1 hW2;have hL0:=zdc _ (zdu ok 0);have hL1:=zcD ok 0;go_wp2_with fail;go_loopg [5,67] 3 (fun kx s5 s67 wr=>∃ i:Nat,s67 = .int .i64 i /\ i <= 2 /\ 2 - i <= kx /\ s5 = .string ⟨(textB (upLs es i)).toArray⟩ /\ Ext u wr)
  case atStart=>exact ⟨0,rfl,by omega,by omega,rfl,hx⟩
  case round =>
   clear hx hL0 hL1;obtain ⟨i,rfl,hi',hgk,rfl,hx⟩:=hrel;have hIr:=HI.out.ext hx;have hjr:=hIr.join;have c0:=hIr.c0;have lR:=hIr.lt;have htr:TabP wr:=HT.out.ext hx;by_cases hi2:i < 2
   . skip;have hii:(i:Int) = 0 \/ (i:Int) = 1:=by omega
     have hst:es.st = st:=by rw [HES.out]
     obtain ⟨hgo,hlo⟩:=ok.of i;rw [hst] at hgo hlo;have hlr:(rs.of i).length <= 300:=by unfold RSt.of;split;exact HG.out.la;exact HG.out.lb
     have hall:Calls Tryz.prog 22 #[.pointer (some ⟨J,0,none⟩),.int .i64 (i:Nat)] wr (zdK (rs.of i) wr):=by
      have hs':i = 0 \/ i = 1:=by omega
      rcases hs' with rfl | rfl
      . exact zik J 0 r0 rs.a wr (by omega) hjr.j0.c3 hjr.j0.row (by have:=HG.out.la;omega)
      . exact zik J 1 r1 rs.b wr (by omega) hjr.j1.c3 hjr.j1.row (by have:=HG.out.lb;omega)
     have HUP:=Lib.hid (zgT es i hi2);have hul:=zcD ok i;have huo:=zdu ok i;have HST:=Lib.hid hst;clear hst hIr hjr;go_wp2_with (go_at_call 22;refine hall.mono ?_;rintro e wS ⟨vo,Rl,rfl,hm,hxS,hpm,hsr⟩;refine Hid.out ?_);refine Lib.hid ?_;have hof:st.of i = Rl.map RHd.hd:=HG.out.chg i Rl hpm hsr;have hlR:Rl.length <= 300:=by rw [hpm.length_eq];exact hlr
     rw [hof] at hgo;have HOF:=Lib.hid hof;obtain ⟨pv,cv,rfl,-⟩:=zaa hm;have hxu:Ext u wS:=ExtM.trans _ _ _ hx hxS;have htS:TabP wS:=htr.ext hxS;have hm0:=zak hm (Nat.zero_le _);clear hall hm hpm hsr hof hlr hxS hx c0 lR htr;go_wp2_with fail;go_loopg [5,74] (Rl.length + 1) (fun kx s5 s74 wr=>∃ j:Nat,s74 = .int .i64 j /\ j <= Rl.length /\ Rl.length - j <= kx /\ s5 = .string ⟨(textB (upLs es i ++ (Rl.take j).map (fun x=>(wRow,rowN i x.hd)))).toArray⟩ /\ Ext wS wr)
     case atStart=>exact ⟨0,rfl,by omega,by omega,by simp,ExtM.refl _⟩
     case round =>
      obtain ⟨j,rfl,hj,hgk2,rfl,hX⟩:=hrel;by_cases hjl:j < Rl.length
      . have hmq:JRow wr 0 _ Rl:=zag hm0 hX (fun _ _ h=>h);obtain ⟨g,cap,e1,hg,y0,y1,y2,y3,y4⟩:=zbh hmq j hjl;simp only [Value.slice.injEq,true_and] at e1;obtain ⟨rfl,rfl⟩:=e1;have e:Rl[j]! = Rl[j]:=getElem!_pos Rl j hjl;have hho:=hgo Rl[j].hd (List.mem_map.2 ⟨_,List.getElem_mem hjl,rfl⟩);have HTK:=Lib.hid (List.take_succ_eq_append_getElem hjl);have hlo2:∀ x ∈ upLs es i ++ (Rl.take j).map (fun x=>(wRow,rowN i x.hd)),zaV x:=fun x hx=>by
         rcases List.mem_append.1 hx with hx | hx
         . exact huo x hx
         . obtain ⟨q,hq,rfl⟩:=List.mem_map.1 hx;exact zd4 hii (hgo q.hd (List.mem_map.2 ⟨q,List.mem_of_mem_take hq,rfl⟩))
        have hll:(upLs es i ++ (Rl.take j).map (fun x=>(wRow,rowN i x.hd))).length <= 2000:=by
         rw [List.length_append,List.length_map,List.length_take];omega
        have hTl:=zdc _ hlo2;have hrow:=zd4 hii hho;have hWl:=zbT hrow;have hrb:=zlj (upLs es i ++ (Rl.take j).map (fun x=>(wRow,rowN i x.hd))) (ns:=rowN i Rl[j].hd) (by simp [rowN]);rw [e] at y0 y1 y2 y3 y4;have htq:TabP wr:=htS.ext hX;have hwd:∀ w a,NI w a (rowN i Rl[j].hd) -> TabP w -> ∀ cap,Calls Tryz.prog 52 #[.slice a 5 cap] w fun e w'=>e = .returned (.string ⟨(wordsB (rowN i Rl[j].hd)).toArray⟩) /\ Ext w w':=fun w a h ht cap=>zdY h cap ht hrow;have hni:∀ w:World,NI (w.alloc (.cells #[.int .i64 i,.int .i64 Rl[j].r.k,.int .i64 Rl[j].r.t,.int .i64 Rl[j].r.v,.int .i64 Rl[j].m] 3)) (some ⟨w.heap.size,0,none⟩) (rowN i Rl[j].hd):=fun w=>NI.new w (rowN i Rl[j].hd);have hTl2:(textB (upLs es i ++ (Rl.take j).map (fun x=>(wRow,rowN i x.hd)))).length <= 1000000:=by omega
        have HRB:=Lib.hid hrb;clear hrb hTl hlo2 hll hrow hho hgo huo hmq e hul hm0;generalize wordsB (rowN i Rl[j].hd) = W0 at *;generalize textB (upLs es i ++ (Rl.take j).map (fun x=>(wRow,rowN i x.hd))) = T0 at *;generalize Rl[j] = X at *;have lg:=zac y0;have hxa:Ext wr (wr.alloc (.cells #[.int .i64 X.r.k,.int .i64 X.r.t,.int .i64 X.r.v,.int .i64 X.m,.int .i64 X.c] 118)):=(ExtM.refl _).alloc _;have hwd1:=hwd ((wr.alloc (.cells #[.int .i64 X.r.k,.int .i64 X.r.t,.int .i64 X.r.v,.int .i64 X.m,.int .i64 X.c] 118)).alloc (.cells #[.int .i64 i,.int .i64 X.r.k,.int .i64 X.r.t,.int .i64 X.r.v,.int .i64 X.m] 3)) _ (hni _) ((htq.ext hxa).ext ((ExtM.refl _).alloc _));rw [World.size_alloc] at hwd1;go_wp2_with (go_at_call 52;refine (hwd1 _).mono ?_;rintro e w5 ⟨rfl,hx5⟩;refine Hid.out ?_);refine Lib.hid ?_;have hXX:=ExtM.trans _ _ _ (ExtM.trans _ _ _ hX (ExtM.trans _ _ _ hxa ((ExtM.refl _).alloc _))) hx5;have HX:=Lib.hid hXX;clear hXX hX hx5 hxa hwd hwd1 hni y0 y1 y2 y3 y4;go_wp2_with fail;go_roundg (Rl.length - (j + 1))
        case measure=>omega
        case rel =>
         refine ⟨j + 1,by go_num,by omega,Nat.le_refl _,?_,HX.out⟩;rw [HTK.out,List.map_append,<- List.append_assoc];exact congrArg Value.string HRB.out
      . obtain rfl:j = Rl.length:=by omega
        have hz:decide (Rl.length < Rl.length) = false:=by simp
        have hz2:decide ((Rl.length:Int) < Rl.length) = false:=by simp
        rw [List.take_length];have HF:=Lib.hid (ExtM.trans _ _ _ hxu hX);clear hX hm0 htS hxu;have hT:textB (upLs es i ++ Rl.map (fun x=>(wRow,rowN i x.hd))) = textB (upLs es (i + 1)):=by
         rw [HUP.out,HST.out,HOF.out,List.map_map];rfl
        rw [hT];go_wp2_with fail;go_roundg (2 - (i + 1))
        case measure=>omega
        case rel=>exact ⟨i + 1,by go_num,by omega,Nat.le_refl _,rfl,HF.out⟩
   . obtain rfl:i = 2:=by omega
     have hz:decide ((2:Nat) < 2) = false:=by decide
     have hlV:l.length < 1000000:=by have:=ok.lv;rw [HES.out] at this;simp only at this;omega
     have hre:Calls Tryz.prog 26 #[.pointer (some ⟨R,1,none⟩)] wr fun e w'=>∃ p cap,e = .returned (.slice p (sortO l).length cap) /\ Ext wr w' /\ zbq w' p (sortO l):=by
      rw [zaA];exact zeR R rv l wr hIr.bag hlV
     have hOk:∀ x ∈ sortO l,(x.hl = true \/ x.hr = true) /\ x.ok:=fun x hx=>by
      have:=ok.v;rw [HES.out] at this;exact this x ((zbf l).mem_iff.1 hx)
     have hle:(sortO l).length < 1000000:=by rw [zaA];exact hlV
     have hSL:zbP es = upLs es 2 ++ ((sortO l).map (fun x=>(wOut,outN x)) ++ [(wEnd,[])]):=by rw [zeK];rw [HES.out]
     have hul:=zcD ok 2;have huo:=zdu ok 2;have HSL:=Lib.hid hSL;clear hIr hjr hSL hlV;generalize sortO l = os at *;go_wp2_with (go_at_call 26;refine hre.mono ?_;rintro e wv ⟨p,c,rfl,hxv,hov⟩;refine Hid.out ?_);refine Lib.hid ?_;have hxu:Ext u wv:=ExtM.trans _ _ _ hx hxv;have htv:TabP wv:=htr.ext hxv;clear hre hx hxv c0 lR htr;go_wp2_with fail;go_loopg [5,103] (os.length + 1) (fun kx s5 s103 wr=>∃ j:Nat,s103 = .int .i64 j /\ j <= os.length /\ os.length - j <= kx /\ s5 = .string ⟨(textB (upLs es 2 ++ (os.take j).map (fun x=>(wOut,outN x)))).toArray⟩ /\ Ext wv wr)
     case atStart=>exact ⟨0,rfl,by omega,by omega,by simp,ExtM.refl _⟩
     case round =>
      obtain ⟨j,rfl,hj,hgk2,rfl,hX⟩:=hrel;have hlo2:∀ x ∈ upLs es 2 ++ (os.take j).map (fun x=>(wOut,outN x)),zaV x:=fun x hx=>by
       rcases List.mem_append.1 hx with hx | hx
       . exact huo x hx
       . obtain ⟨q,hq,rfl⟩:=List.mem_map.1 hx;exact zdQ (hOk q (List.mem_of_mem_take hq)).2
      have hll:(upLs es 2 ++ (os.take j).map (fun x=>(wOut,outN x))).length <= 1001000:=by
       rw [List.length_append,List.length_map,List.length_take];omega
      have hTl:=zdc _ hlo2;have hTl2:(textB (upLs es 2 ++ (os.take j).map (fun x=>(wOut,outN x)))).length <= 1000000000:=by omega
      by_cases hjl:j < os.length
      . rcases hov.of hX with hn | ⟨b,rfl,hel⟩
        . rw [hn] at hjl;simp at hjl
        have el:=hel j hjl;have hho:=hOk _ (List.getElem_mem hjl);have HTK:=Lib.hid (List.take_succ_eq_append_getElem hjl);have hrow:=zdQ hho.2;have hho1:=hho.1;have htq:TabP wr:=htv.ext hX;have hrb:=zkq (upLs es 2 ++ (os.take j).map (fun x=>(wOut,outN x))) (ns:=outN os[j]) (by simp [outN]);have HRB:=Lib.hid hrb;have hWl:=zbT hrow;have hwd:∀ w a cap,NI w a (outN os[j]) -> TabP w -> Calls Tryz.prog 52 #[.slice a (outN os[j]).length cap] w fun e w'=>e = .returned (.string ⟨(wordsB (outN os[j])).toArray⟩) /\ Ext w w':=fun w a cap h ht=>zdY h cap ht hrow;have hl2:=zbY os[j] 2;have hl1:=zbY os[j] 1;clear hrb hov hel hOk huo hul hlo2 hll hTl hho hrow htv;generalize textB (upLs es 2 ++ (os.take j).map (fun x=>(wOut,outN x))) = T0 at *;generalize os[j] = x at *;have hoe:=zln x;obtain ⟨key,⟨lk,lt,lv⟩,⟨rk,rt,rw⟩,hl,hr⟩:=x;obtain ⟨e0,e1,e2,e3,e4,e5,e6,e7,e8⟩:=id el;have lb:=el.lt;simp only at e0 e1 e2 e3 e4 e5 e6 e7 e8 hho1;generalize hXo:(⟨key,⟨lk,lt,lv⟩,⟨rk,rt,rw⟩,hl,hr⟩:Out) = x at *;have hn1:numsN x 1 = if hl = true then [lk,lt,lv] else []:=by subst hXo;unfold numsN;cases hl <;> cases hr <;> simp
        have hn2:numsN x 2 = numsN x 1 ++ if hr = true then [rk,rt,rw] else []:=by subst hXo;unfold numsN;cases hl <;> cases hr <;> simp
        have hha:hasN x 2 = flagI hl + 2 * flagI hr:=by subst hXo;unfold hasN flagI;cases hl <;> cases hr <;> simp
        have hne:numsN x 2 ≠ []:=by subst hXo;unfold numsN;cases hl <;> cases hr <;> simp at hho1 ⊢
        have HN1:=Lib.hid hn1;have HN2:=Lib.hid hn2;have HOE:=Lib.hid hoe;have HHA:=Lib.hid hha;have HNE:=Lib.hid hne;have HXu:=Lib.hid (⟨hxu,hX⟩:_ /\ _);have hxb:Ext wr (wr.alloc (.cells #[.int .i64 key,.int .i64 lk,.int .i64 lt,.int .i64 lv,.int .i64 rk,.int .i64 rt,.int .i64 rw,.bool hl,.bool hr] 86)):=(ExtM.refl _).alloc _;have b1:(wr.alloc (.cells #[.int .i64 key,.int .i64 lk,.int .i64 lt,.int .i64 lv,.int .i64 rk,.int .i64 rt,.int .i64 rw,.bool hl,.bool hr] 86)).cell? ⟨wr.heap.size,1,none⟩ = some (.int .i64 lk):=by go_simp
        have b2:(wr.alloc (.cells #[.int .i64 key,.int .i64 lk,.int .i64 lt,.int .i64 lv,.int .i64 rk,.int .i64 rt,.int .i64 rw,.bool hl,.bool hr] 86)).cell? ⟨wr.heap.size,2,none⟩ = some (.int .i64 lt):=by go_simp
        have b3:(wr.alloc (.cells #[.int .i64 key,.int .i64 lk,.int .i64 lt,.int .i64 lv,.int .i64 rk,.int .i64 rt,.int .i64 rw,.bool hl,.bool hr] 86)).cell? ⟨wr.heap.size,3,none⟩ = some (.int .i64 lv):=by go_simp
        have b4:(wr.alloc (.cells #[.int .i64 key,.int .i64 lk,.int .i64 lt,.int .i64 lv,.int .i64 rk,.int .i64 rt,.int .i64 rw,.bool hl,.bool hr] 86)).cell? ⟨wr.heap.size,4,none⟩ = some (.int .i64 rk):=by go_simp
        have b5:(wr.alloc (.cells #[.int .i64 key,.int .i64 lk,.int .i64 lt,.int .i64 lv,.int .i64 rk,.int .i64 rt,.int .i64 rw,.bool hl,.bool hr] 86)).cell? ⟨wr.heap.size,5,none⟩ = some (.int .i64 rt):=by go_simp
        have b6:(wr.alloc (.cells #[.int .i64 key,.int .i64 lk,.int .i64 lt,.int .i64 lv,.int .i64 rk,.int .i64 rt,.int .i64 rw,.bool hl,.bool hr] 86)).cell? ⟨wr.heap.size,6,none⟩ = some (.int .i64 rw):=by go_simp
        have b7:(wr.alloc (.cells #[.int .i64 key,.int .i64 lk,.int .i64 lt,.int .i64 lv,.int .i64 rk,.int .i64 rt,.int .i64 rw,.bool hl,.bool hr] 86)).cell? ⟨wr.heap.size,7,none⟩ = some (.bool hl):=by go_simp
        have b8:(wr.alloc (.cells #[.int .i64 key,.int .i64 lk,.int .i64 lt,.int .i64 lv,.int .i64 rk,.int .i64 rt,.int .i64 rw,.bool hl,.bool hr] 86)).cell? ⟨wr.heap.size,8,none⟩ = some (.bool hr):=by go_simp
        clear hn1 hn2 hoe hha hne hXo el hho1 hxu hX;go_upto_if 108 with fail;have hxw:Ext wr (wr.alloc (.cells #[.int .i64 key,.int .i64 lk,.int .i64 lt,.int .i64 lv,.int .i64 rk,.int .i64 rt,.int .i64 rw,.bool hl,.bool hr] 86)):=hxb;have htb:=htq.ext hxw;generalize wr.alloc (.cells #[.int .i64 key,.int .i64 lk,.int .i64 lt,.int .i64 lv,.int .i64 rk,.int .i64 rt,.int .i64 rw,.bool hl,.bool hr] 86) = wb at *;generalize wr.heap.size = X at *;have HXW:=Lib.hid hxw;have lX:=zac b1;clear e0 e1 e2 e3 e4 e5 e6 e7 e8 lb hxb hxw htq;have B7:=Lib.hid b7;have B8:=Lib.hid b8;have hF1:hl = false -> IR wb wb.heap.size (.slice none 0 0) (numsN x 1):=fun h=>by rw [HN1.out,h];exact ⟨rfl,.inl ⟨rfl,rfl⟩⟩
        go_cut [11] (fun s11 wx=>IR wx wb.heap.size s11 (numsN x 1) /\ Ext wb wx)
        case first =>
         cases hl with
         | false =>
           go_wp2_with fail;go_meet
           case rel=>exact ⟨(by first | exact hF1 rfl | exact hF1 trivial),ExtM.refl _⟩
         | true =>
           go_wp2_with (go_at_call 53;refine (zgO lk lt lv _).mono ?_;rintro e w2 ⟨bb,cap,rfl,hia,hb1,hb2,hx2⟩;refine Hid.out ?_);refine Lib.hid ?_;have hir2:IR w2 wb.heap.size (.slice none 0 0) []:=⟨rfl,.inl ⟨rfl,rfl⟩⟩
           obtain ⟨v',w',happ,hir',hxr,hloc⟩:=zbe w2 wb.heap.size bb cap (.slice none 0 0) [] [lk,lt,lv] 81 hir2 (zev hia) (by simp only [List.length_cons,List.length_nil];omega) (by have:=hx2.size;have:=hl1;omega);have hE:Ext wb w':=(ExtM.trans _ _ _ (ExtM.refl wb) hx2:Ext wb w2).fresh' hxr (fun k hk e=>by have:=(zaf hir2 k e).1;omega);have HNN:=Lib.hid (⟨hir',hE⟩:_ /\ _);clear hir' hE hxr hloc hir2 hx2 hia;skip;go_wp2_with (at_builtin;refine wpList_append_run happ rfl rfl _ _ rfl rfl rfl ?_;clear happ);go_meet
           case rel=>exact ⟨by rw [HN1.out];first | (rw [if_pos rfl];exact HNN.out.1) | (rw [if_pos trivial];exact HNN.out.1),HNN.out.2⟩
        case rest =>
         obtain ⟨hir,hxc⟩:=hcut;have kx:=fun o=>hxc.cell (p:=⟨X,o,none⟩) lX id;replace b4:=(kx _).trans b4;replace b5:=(kx _).trans b5;replace b6:=(kx _).trans b6;replace b7:=(kx _).trans b7;replace b8:=(kx _).trans b8;have lX2:X < wc.heap.size:=Nat.lt_of_lt_of_le lX hxc.size;clear kx b1 b2 b3;obtain ⟨pu,cu,hpu,-⟩:=zaa hir;go_upto_if 115 with fail;go_cut [11] (fun s11 wx=>IR wx wb.heap.size s11 (numsN x 2) /\ Ext wb wx)
         case first =>
          subst hpu;have hF2:hr = false -> IR wc wb.heap.size (.slice pu (numsN x 1).length cu) (numsN x 2):=fun h=>by rw [HN2.out,h,if_neg (by decide),List.append_nil];exact hir
          cases hr with
          | false =>
            go_wp2_with fail;go_meet
            case rel=>exact ⟨(by first | exact hF2 rfl | exact hF2 trivial),hxc⟩
          | true =>
            go_wp2_with (go_at_call 53;refine (zgO rk rt rw _).mono ?_;rintro e w2 ⟨bb,cap,rfl,hia,hb1,hb2,hx2⟩;refine Hid.out ?_);refine Lib.hid ?_;have hir2:IR w2 wb.heap.size (.slice pu (numsN x 1).length cu) (numsN x 1):=zag hir hx2 (fun _ _ h=>h);obtain ⟨v',w',happ,hir',hxr,hloc⟩:=zbe w2 wb.heap.size bb cap (.slice pu (numsN x 1).length cu) (numsN x 1) [rk,rt,rw] 81 hir2 (zev hia) (by simp only [List.length_cons,List.length_nil];omega) (by have:=hx2.size;have:=hxc.size;omega);have hE:Ext wb w':=(ExtM.trans _ _ _ hxc hx2:Ext wb w2).fresh' hxr (fun k hk e=>by have:=(zaf hir2 k e).1;omega);have HNN:=Lib.hid (⟨hir',hE⟩:_ /\ _);clear hir' hE hxr hloc hir2 hx2 hia;skip;go_wp2_with (at_builtin;refine wpList_append_run happ rfl rfl _ _ rfl rfl rfl ?_;clear happ);go_meet
            case rel=>exact ⟨by rw [HN2.out];first | (rw [if_pos rfl];exact HNN.out.1) | (rw [if_pos trivial];exact HNN.out.1),HNN.out.2⟩
         case rest =>
          clear hir hxc hpu b4 b5 b6 b7 b8 hF1 lX2;obtain ⟨hir,hxc⟩:=hcut;have b7:=(hxc.cell (p:=⟨X,7,none⟩) lX id).trans B7.out;have b8:=(hxc.cell (p:=⟨X,8,none⟩) lX id).trans B8.out;have lX2:X < wc.heap.size:=Nat.lt_of_lt_of_le lX hxc.size;have htc:=htb.ext hxc;obtain ⟨g,cap,cur,hg1,hg2,hg3⟩:∃ g cap cur,u11 = .slice (some ⟨g,0,none⟩) (numsN x 2).length cap /\ wc.heap[g]? = some (.cells cur 3 (0,0)) /\ ∀ j u,((numsN x 2).map (Value.int .i64))[j]? = some u -> cur[j]? = some u:=by
           rcases hir.2 with ⟨e,h0⟩ | ⟨g,cap,cur,e,e1,e2,e3,e4,e5,e6⟩
           . exact absurd (List.eq_nil_of_length_eq_zero h0) HNE.out
           . refine ⟨g,cap,cur,e,e2,fun j u hj=>?_⟩;rw [<- e6,List.getElem?_take] at hj;split at hj
             . rw [Array.getElem?_toList] at hj;exact hj
             . cases hj
          subst hg1;have HXC:=Lib.hid hxc;clear hir hxc htb lX;have hp:0 <= flagI hl /\ flagI hl <= 1:=by cases hl <;> decide
          have hq:0 <= flagI hr /\ flagI hr <= 1:=by cases hr <;> decide
          have hf1:∀ w,Calls Tryz.prog 54 #[.bool hl] w fun e w'=>e = .returned (.int .i64 (flagI hl)) /\ w = w':=fun w=>zmX hl w;have hf2:∀ w,Calls Tryz.prog 54 #[.bool hr] w fun e w'=>e = .returned (.int .i64 (flagI hr)) /\ w = w':=fun w=>zmX hr w;generalize flagI hl = p1 at *;generalize flagI hr = q1 at *;have hce:outN x = [(p1 + 2 * q1)] ++ numsN x 2:=by rw [HOE.out,HHA.out];rfl
          rw [hce] at hwd hWl HRB;have HCE:=Lib.hid hce;clear hce;obtain ⟨v',w',happ,hir',hxr,hloc⟩:=zbe (wc.drew.alloc (.cells #[.int .i64 (p1 + 2 * q1)] 3)) wc.heap.size g cap (.slice (some ⟨wc.heap.size,0,none⟩) 1 1) [(p1 + 2 * q1)] (numsN x 2) 81
           ⟨rfl,.inr ⟨wc.heap.size,1,#[.int .i64 (p1 + 2 * q1)],rfl,Nat.le_refl _,heap_alloc_new wc.drew _,Nat.le_refl _,by unfold maxLen;decide,rfl,rfl⟩⟩
           (fun j u hj=>by
             rw [World.cell?_alloc_lt _ _ _ (show g < wc.drew.heap.size from (Array.getElem?_eq_some_iff.1 hg2).1)];have h1:=hg3 j u hj;have h2:wc.drew.heap[g]? = some (.cells cur 3 (0,0)):=hg2
             simpa [World.cell?,h2] using h1) (by simp only [List.length_cons,List.length_nil];omega) (by rw [World.size_alloc];exact Nat.le_succ _)
          have hgx:Plan.ExtF wc.heap.size (wc.drew.alloc (.cells #[.int .i64 (p1 + 2 * q1)] 3)) w':=ExtM.mono hxr (fun k _ e=>by have e':wc.heap.size = k:=Option.some.inj e;show wc.heap.size <= k;omega);have hE:Ext wc w':=((ExtF.refl wc).drew.alloc _ |>.trans _ _ _ hgx).ext (Nat.le_refl _);obtain ⟨pn,cn,rfl,hnn⟩:=hir'.nums (b:=0) (by omega);have hwq:=hwd w' pn cn ⟨0,hnn⟩ (htc.ext hE);have HE:=Lib.hid (ExtM.trans _ _ _ HXC.out hE);obtain ⟨nl,hnl⟩:∃ n,n = ([(p1 + 2 * q1)] ++ numsN x 2).length:=⟨_,rfl⟩
          rw [<- hnl] at hwq happ;generalize wordsB ([(p1 + 2 * q1)] ++ numsN x 2) = W9 at *;clear hE hxr hloc hir' hnn hwd htc hg2 hg3 hnl;go_upto_region 20 with fail;refine Plan.b0 (Plan.ExtF wc.heap.size) 17 ?_;refine Plan.qs 6 [0,1,2,4,5,10] ?_;iterate 6 go_big_quiet_step (fail)
          refine Plan.o1 3 fun K hK=>?_;go_wp2_with (fail);refine (hf1 _).mono ?_;rintro e w' ⟨rfl,rfl⟩;go_wp2_with (fail);refine hK _ _ (ExtF.refl _) ?_;clear hK K;refine Plan.o1 6 fun K hK=>?_;go_wp2_with (fail);refine (hf2 _).mono ?_;rintro e w' ⟨rfl,rfl⟩;go_wp2_with (fail);refine hK _ _ (ExtF.refl _) ?_;clear hK K;refine Plan.qs 2 [7,8] ?_;iterate 2 go_big_quiet_step (fail)
          refine Plan.o1 9 fun K hK=>?_;go_wp2_with (fail);refine hK _ _ ((ExtF.refl _).alloc _) ?_;clear hK K;refine Plan.o1 11 fun K hK=>?_;refine zaw (happ) rfl _ _ rfl rfl rfl ?_;refine hK _ _ (hgx) ?_;simp only [Act.put,List.setIfInBounds_toArray,List.set_cons_succ,List.set_cons_zero];clear hK K;refine Plan.o1 12 fun K hK=>?_;go_wp2_with (fail);refine hwq.mono ?_;rintro e wz ⟨rfl,hz⟩;go_wp2_with (fail);refine hK _ _ (ExtF.of_ext hz) ?_;clear hK K;refine Plan.zaU 13 (by rfl) (by kernel_rfl) ?_;go_big_quiet_step (fail);refine wpQuiet_nil ?_;refine Plan.zaU 14 (by rfl) (by kernel_rfl) ?_;go_big_quiet_step (fail);refine wpQuiet_nil ?_;refine Plan.zaU 15 (by rfl) (by kernel_rfl) ?_;go_big_quiet_step (fail);refine wpQuiet_nil ?_;refine Plan.zaU 16 (by rfl) (by kernel_rfl) ?_;go_big_quiet_step (fail);refine wpQuiet_nil ?_;refine Plan.dn ?_;have HF:=Lib.hid (ExtM.trans _ _ _ (ExtM.trans _ _ _ HXu.out.2 (ExtM.trans _ _ _ HXW.out HE.out)) hz);clear hz hwq happ hgx b7 b8 hf1 hf2;go_wp2_with fail;go_roundg (os.length - (j + 1))
          case measure=>omega
          case rel =>
           refine ⟨j + 1,by go_num,by omega,Nat.le_refl _,?_,HF.out⟩;rw [HTK.out,List.map_append,<- List.append_assoc,List.map_singleton,HCE.out];exact (congrArg Value.string HRB.out)
      . obtain rfl:j = os.length:=by omega
        have hz3:decide (os.length < os.length) = false:=by simp
        have hz4:decide ((os.length:Int) < os.length) = false:=by simp
        rw [List.take_length] at hTl2 ⊢;have heb:=zkT (upLs es 2 ++ os.map (fun x=>(wOut,outN x)));have hsv:textB (upLs es 2 ++ os.map (fun x=>(wOut,outN x)) ++ [(wEnd,[])]) = savedT es:=by unfold savedT;rw [HSL.out,List.append_assoc]
        rw [hsv] at heb;have hsl:(savedT es).length = (textB (upLs es 2 ++ os.map (fun x=>(wOut,outN x)))).length + 4:=by
         rw [<- hsv,zaR,List.length_append];rfl
        have HF:=Lib.hid (ExtM.trans _ _ _ hxu hX);have HV:Hid (zf9 (savedT es) = if 60000 < (savedT es).length then .returned (.tuple #[.string ByteArray.empty,.int .i64 4]) else .returned (.tuple #[.string ⟨(savedT es).toArray⟩,.int .i64 0])):=Lib.hid rfl;have HSL2:=Lib.hid hsl;have HEB:=Lib.hid heb;clear hsv hlo2 hll hTl hX hOk huo hul hov htv hxu hsl heb;generalize textB (upLs es 2 ++ os.map (fun x=>(wOut,outN x))) = T0 at *;by_cases hbig:60000 < (savedT es).length
        . have hb1:(60000:Int) < (T0.length:Nat) + 4:=by have:=HSL2.out;omega
          have hb2:60000 < T0.length + 4:=by omega
          go_wp2_with fail;go_ret2;exact ⟨by rw [HV.out,if_pos hbig];rfl,HF.out⟩
        . have hb1:¬ (60000:Int) < (T0.length:Nat) + 4:=by have:=HSL2.out;omega
          have hb2:¬ 60000 < T0.length + 4:=by omega
          go_wp2_with fail;go_ret2;exact ⟨by rw [HV.out,if_neg hbig,<- HEB.out];rfl,HF.out⟩
end Go.Proofs.YtmcgnnmffeojpabGreatDoor
