import Derived.Test.YtiknejbcehpmoaaGreatDoorPk2
import Derived.Test.YtiknejbcehpmoaaGreatDoorPk31
import Derived.Test.YtiknejbcehpmoaaGreatDoorPk39
import Derived.Test.YtiknejbcehpmoaaGreatDoorPk40
import Derived.Test.YtiknejbcehpmoaaGreatDoorPk41
import Derived.Test.YtiknejbcehpmoaaGreatDoorPk42
import Derived.Test.YtiknejbcehpmoaaGreatDoorPk43
import Derived.Lib.ParseIntBTie
import Derived.WalkSmall
import Derived.Deep.DeepCutAuto
import Derived.Deep.CutBlock
set_option maxRecDepth 100000
set_option maxHeartbeats 8000000
namespace Go.Proofs.YtiknejbcehpmoaaGreatDoor
open Go.RowKit Go.Plan Go.Shelf
theorem zo5:Builder.Extra Tryz.prog Tryz.shJoin_ren where
 sizeBuilder:=by kernel_rfl
 liesBuilder:=by kernel_rfl
 t5:=Tryz.underlying5
 a5:=Tryz.isAgg5
 z5:=Tryz.sizeOf5
 v5:=Tryz.zeroValue5
 infoByte:=by kernel_rfl
 cellsByte:=by kernel_rfl
 sizeByte:=by kernel_rfl
 neB5:=by decide
def SR (w:World) (b:Nat) (v:Value) (xs:List ByteArray):Prop:=w.ownsRow b 9 1 v xs.length (xs.map Value.string)
theorem zoN:(Tryz.prog.info? 9).map (fun i=>(i.zero,i.size,i.bytes)) = some (some (.string ByteArray.empty),1,16):=by kernel_rfl
theorem zh2 (W:World) (base nb c:Nat) (v:Value) (acc:List ByteArray) (x:ByteArray) (ty:TypeId) (hown:SR W base v acc) (hx:W.cell? ⟨nb,0,none⟩ = some (.string x)) (hl:acc.length < 1000000) (hb:base <= W.heap.size) :
 ∃ v' w',(Builtin.append_ #[30,30] ty #[v,.slice (some ⟨nb,0,none⟩) 1 c]).run Tryz.prog W = .ok v' w' /\ SR w' base v' (acc ++ [x]) /\ ExtR v.ownBlock W w' /\ (v'.ownBlock = v.ownBlock \/ ∃ k,v'.ownBlock = some k /\ W.heap.size <= k):=by
 obtain ⟨i0,hi,hz0,hz1,hz2⟩:=info_parts zoN;obtain ⟨v',w',h1',h2,h3,-,h5⟩:=run_append_own_at (P:=Tryz.prog) W base 30 ty 9 i0 (.string ByteArray.empty) 1 16 Tryz.underlying30 hi hz0 hz1 hz2 rfl (by decide) v acc.length _ hown ⟨nb,0,none⟩ 1 c [.string x] rfl
  (fun j u hj=>by
    have hj0:j = 0:=by
     have:=(List.getElem?_eq_some_iff.1 hj).1
     simp at this;exact this
    subst hj0;simp only [List.getElem?_cons_zero,Option.some.injEq] at hj;subst hj
    exact hx) (fun u hu=>by rw [List.mem_singleton] at hu;subst hu;rfl) (by unfold maxLen;omega) (by omega) hb
 refine ⟨v',w',h1',?_,⟨h3.os,h3.tape,h3.output,h3.size,fun k hk hn=>h3.block k hk (fun e=>hn e.symm)⟩,?_⟩
 . unfold SR;rw [List.map_append,List.length_append];exact h2
 . rcases h5 with h | h
   . exact .inl h
   . exact .inr ⟨_,h,Nat.le_refl _⟩
theorem SR.cells {w:World} {B:Nat} {v:Value} {xs:List ByteArray} (h:SR w B v xs):∃ a cap,v = .slice a xs.length cap /\ xs.length <= cap /\ (xs = [] \/ ∃ g,a = some ⟨g,0,none⟩ /\ g < w.heap.size /\ ∀ (j:Nat) x,xs[j]? = some x -> w.cell? ⟨g,0 + j,none⟩ = some (.string x)):=by
 rcases h.2 with ⟨rfl,h0⟩ | ⟨g,cap,cur,rfl,e1,e2,e3,e4,e5,e6⟩
 . exact ⟨none,0,by rw [h0],by omega,.inl (List.eq_nil_of_length_eq_zero h0)⟩
 . refine ⟨_,_,rfl,e3,.inr ⟨g,rfl,(Array.getElem?_eq_some_iff.1 e2).1,fun j x hj=>?_⟩⟩;obtain ⟨hi,rfl⟩:=List.getElem?_eq_some_iff.1 hj;have h1:(cur.toList.take (xs.length * 1))[j]? = (xs.map Value.string)[j]?:=by rw [e6]
   rw [List.getElem?_take_of_lt (by omega),Array.getElem?_toList,List.getElem?_map,List.getElem?_eq_getElem hi] at h1;rw [Nat.zero_add];simpa [World.cell?,e2] using h1
def zfl (n:Int):ByteArray:=⟨(Lib.itoa n).toArray⟩
def wordsB (ns:List Int):List UInt8:=Lib.join (ns.map Lib.itoa) [32]
theorem zhn (n:Int) (ns:List Int):wordsB (n :: ns) = Lib.itoa n ++ ns.flatMap numB:=by
 unfold wordsB;rw [List.map_cons,Lib.join_cons];congr 1;unfold Lib.joinTail;rw [List.map_map,List.flatMap_def];rfl
theorem zfe {ns:List Int} (h:ns ≠ []):ns.flatMap numB = 32 :: wordsB ns:=by
 cases ns with
 | nil=>exact absurd rfl h
 | cons n ns=>rw [zhn];rfl
theorem zi0 (ns:List Int) (hn:∀ n ∈ ns,-9223372036854775808 <= n /\ n <= 9223372036854775807):(wordsB ns).length <= 22 * ns.length:=by
 have h:=zdh ns hn;by_cases h0:ns = []
 . subst h0;simp [wordsB,Lib.join_nil]
 . rw [zfe h0,List.length_cons] at h;omega
theorem zms (ns:List Int) (a:Option Addr) (cap b:Nat) (w:World) (hr:zaq w b a ns) (ht:TabP w) (hn:∀ n ∈ ns,-9223372036854775808 <= n /\ n <= 9223372036854775807) (hl:ns.length <= 100) :
 Calls Tryz.prog 17 #[.slice a ns.length cap] w fun e w'=>e = .returned (.string ⟨(wordsB ns).toArray⟩) /\ Ext w w':=by
 go_enter Tryz.func17,Tryz.ntmps17;go_wp2_with fail;go_loopg [3,8] (ns.length + 1) (fun kx s3 s8 wr=>∃ i:Nat,s8 = .int .i64 i /\ i <= ns.length /\ ns.length - i <= kx /\ SR wr w.heap.size s3 ((ns.take i).map zfl) /\ Ext w wr)
 case atStart=>exact ⟨0,rfl,by omega,by omega,⟨rfl,.inl ⟨rfl,rfl⟩⟩,ExtM.refl _⟩
 case round =>
  obtain ⟨i,rfl,hi,hgk,hS,hx⟩:=hrel;by_cases hil:i < ns.length
  . rcases hr with e | ⟨g,c,t,fz,rfl,hgb,htu,hg,hc⟩
    . subst e;simp at hil
    have hcw:w.cell? ⟨g,i,none⟩ = some (.int .i64 ns[i]):=by
     have:=hc i hil
     simpa [World.cell?,hg] using this
    have hgl:g < w.heap.size:=(Array.getElem?_eq_some_iff.1 hg).1;have hcell:=(hx.cell (p:=⟨g,i,none⟩) hgl id).trans hcw;have hni:=hn _ (List.getElem_mem hil);have HT:=Lib.hid (List.take_succ_eq_append_getElem hil);have hgr:g < wr.heap.size:=Nat.lt_of_lt_of_le hgl hx.size;have htr:TabP wr:=ht.keep (hx.block _ ht.lt id);generalize ns[i] = n at *;clear hc hg hcw;go_wp2_with (go_at_call 25;refine (zno n _ hni.1 hni.2 htr).mono ?_;rintro e w2 ⟨rfl,hx2⟩;refine Hid.out ?_);refine Lib.hid ?_;have hS2:SR w2 w.heap.size u3 ((ns.take i).map zfl):=zag hS hx2 (fun _ _ h=>h);have hsz:w.heap.size <= w2.heap.size:=by have:=hx.size;have:=hx2.size;omega
    obtain ⟨v',w',happ,hir',hxr,hloc⟩:=zh2 (w2.alloc (.cells #[.string (zfl n)] 9)) w.heap.size w2.heap.size 1 u3 ((ns.take i).map zfl) (zfl n) 30 (zag hS2 ((ExtM.refl _).alloc _:Ext w2 _) (fun _ _ h=>h))
     (by go_simp) (by rw [List.length_map,List.length_take];omega) (by rw [World.size_alloc];omega)
    have hxc:Ext w w':=(ExtM.trans _ _ _ hx (ExtM.trans _ _ _ hx2 ((ExtM.refl w2).alloc _)):Ext w _).fresh' hxr (fun k hk e=>by have:=(zaf hS2 k e).1;omega);obtain ⟨pv,cv,hpv,-⟩:=zaa hS2;rw [List.length_map,List.length_take,Nat.min_eq_left hi] at hpv;have HN:=Lib.hid (⟨hir',hxc⟩:_ /\ _);have hit:zfl n = ⟨(Lib.itoa n).toArray⟩:=rfl;rw [hit] at happ;subst hpv;clear hir' hxc hxr hloc hS2 hS hx hx2 hit;go_wp2_with (at_builtin;refine wpList_append_run happ rfl rfl _ _ rfl rfl rfl ?_;clear happ);go_roundg (ns.length - (i + 1))
    case measure=>omega
    case rel =>
     obtain ⟨r1,r2⟩:=HN.out;refine ⟨i + 1,by go_num,by omega,Nat.le_refl _,?_,r2⟩;rw [HT.out,List.map_append];exact r1
  . obtain rfl:i = ns.length:=by omega
    have hz:decide (ns.length < ns.length) = false:=by simp
    have hz2:decide ((ns.length:Int) < ns.length) = false:=by simp
    rw [List.take_length] at hS;obtain ⟨a',cap',rfl,hcap,hcs⟩:=hS.cells;have hjl:=zi0 ns hn;have hmm:(ns.map zfl).map (·.data.toList) = ns.map Lib.itoa:=by rw [List.map_map];rfl
    have hJ:Calls Tryz.prog 39 #[.slice a' (ns.map zfl).length cap',.string ⟨#[32]⟩] wr fun e w'=>e = .returned (.string ⟨(wordsB ns).toArray⟩) /\ Ext wr w':=by
     rcases hcs with h0 | ⟨g,rfl,hg,hc⟩
     . have hn0:ns = []:=List.map_eq_nil_iff.1 h0;subst hn0;refine (Any.strings_Join_none Tryz.shJoin zo5 a' cap' ⟨#[32]⟩ wr).mono ?_;rintro e w' ⟨rfl,rfl⟩;exact ⟨rfl,ExtM.refl _⟩
     . refine (Any.strings_Join Tryz.shJoin zo5 g 0 cap' (ns.map zfl) ⟨#[32]⟩ wr hc hg (by rw [List.length_map];omega) hcap (by rw [hmm];show (wordsB ns).length <= _;omega)).mono ?_;rintro e w' ⟨rfl,hx'⟩;rw [hmm];exact ⟨rfl,zdf hx'⟩
    have HX:=Lib.hid hx;clear hcs hjl hmm hS hx;rw [List.length_map] at hJ;rw [List.length_map];go_wp2_with (go_at_call 39;refine hJ.mono ?_;rintro e w3 ⟨rfl,hx3⟩;refine Hid.out ?_);refine Lib.hid ?_;clear hJ;go_wp2_with fail;go_ret;exact ⟨rfl,ExtM.trans _ _ _ HX.out hx3⟩
theorem zu8 (ns:List Int) (a:Option Addr) (cap b:Nat) (w:World) (hr:zaq w b a ns) (ht:TabP w) (hn:∀ n ∈ ns,-9223372036854775808 <= n /\ n <= 9223372036854775807) (hl:ns.length <= 100) :
 Calls Tryz.prog 86 #[.slice a ns.length cap] w fun e w'=>e = .returned (.string ⟨(wordsB ns).toArray⟩) /\ Ext w w':=by
 go_enter Tryz.func86,Tryz.ntmps86;go_wp2_with fail;go_loopg [3,8] (ns.length + 1) (fun kx s3 s8 wr=>∃ i:Nat,s8 = .int .i64 i /\ i <= ns.length /\ ns.length - i <= kx /\ SR wr w.heap.size s3 ((ns.take i).map zfl) /\ Ext w wr)
 case atStart=>exact ⟨0,rfl,by omega,by omega,⟨rfl,.inl ⟨rfl,rfl⟩⟩,ExtM.refl _⟩
 case round =>
  obtain ⟨i,rfl,hi,hgk,hS,hx⟩:=hrel;by_cases hil:i < ns.length
  . rcases hr with e | ⟨g,c,t,fz,rfl,hgb,htu,hg,hc⟩
    . subst e;simp at hil
    have hcw:w.cell? ⟨g,i,none⟩ = some (.int .i64 ns[i]):=by
     have:=hc i hil
     simpa [World.cell?,hg] using this
    have hgl:g < w.heap.size:=(Array.getElem?_eq_some_iff.1 hg).1;have hcell:=(hx.cell (p:=⟨g,i,none⟩) hgl id).trans hcw;have hni:=hn _ (List.getElem_mem hil);have HT:=Lib.hid (List.take_succ_eq_append_getElem hil);have hgr:g < wr.heap.size:=Nat.lt_of_lt_of_le hgl hx.size;have htr:TabP wr:=ht.keep (hx.block _ ht.lt id);generalize ns[i] = n at *;clear hc hg hcw;go_wp2_with (go_at_call 25;refine (zno n _ hni.1 hni.2 htr).mono ?_;rintro e w2 ⟨rfl,hx2⟩;refine Hid.out ?_);refine Lib.hid ?_;have hS2:SR w2 w.heap.size u3 ((ns.take i).map zfl):=zag hS hx2 (fun _ _ h=>h);have hsz:w.heap.size <= w2.heap.size:=by have:=hx.size;have:=hx2.size;omega
    obtain ⟨v',w',happ,hir',hxr,hloc⟩:=zh2 (w2.alloc (.cells #[.string (zfl n)] 9)) w.heap.size w2.heap.size 1 u3 ((ns.take i).map zfl) (zfl n) 30 (zag hS2 ((ExtM.refl _).alloc _:Ext w2 _) (fun _ _ h=>h))
     (by go_simp) (by rw [List.length_map,List.length_take];omega) (by rw [World.size_alloc];omega)
    have hxc:Ext w w':=(ExtM.trans _ _ _ hx (ExtM.trans _ _ _ hx2 ((ExtM.refl w2).alloc _)):Ext w _).fresh' hxr (fun k hk e=>by have:=(zaf hS2 k e).1;omega);obtain ⟨pv,cv,hpv,-⟩:=zaa hS2;rw [List.length_map,List.length_take,Nat.min_eq_left hi] at hpv;have HN:=Lib.hid (⟨hir',hxc⟩:_ /\ _);have hit:zfl n = ⟨(Lib.itoa n).toArray⟩:=rfl;rw [hit] at happ;subst hpv;clear hir' hxc hxr hloc hS2 hS hx hx2 hit;go_wp2_with (at_builtin;refine wpList_append_run happ rfl rfl _ _ rfl rfl rfl ?_;clear happ);go_roundg (ns.length - (i + 1))
    case measure=>omega
    case rel =>
     obtain ⟨r1,r2⟩:=HN.out;refine ⟨i + 1,by go_num,by omega,Nat.le_refl _,?_,r2⟩;rw [HT.out,List.map_append];exact r1
  . obtain rfl:i = ns.length:=by omega
    have hz:decide (ns.length < ns.length) = false:=by simp
    have hz2:decide ((ns.length:Int) < ns.length) = false:=by simp
    rw [List.take_length] at hS;obtain ⟨a',cap',rfl,hcap,hcs⟩:=hS.cells;have hjl:=zi0 ns hn;have hmm:(ns.map zfl).map (·.data.toList) = ns.map Lib.itoa:=by rw [List.map_map];rfl
    have hJ:Calls Tryz.prog 39 #[.slice a' (ns.map zfl).length cap',.string ⟨#[32]⟩] wr fun e w'=>e = .returned (.string ⟨(wordsB ns).toArray⟩) /\ Ext wr w':=by
     rcases hcs with h0 | ⟨g,rfl,hg,hc⟩
     . have hn0:ns = []:=List.map_eq_nil_iff.1 h0;subst hn0;refine (Any.strings_Join_none Tryz.shJoin zo5 a' cap' ⟨#[32]⟩ wr).mono ?_;rintro e w' ⟨rfl,rfl⟩;exact ⟨rfl,ExtM.refl _⟩
     . refine (Any.strings_Join Tryz.shJoin zo5 g 0 cap' (ns.map zfl) ⟨#[32]⟩ wr hc hg (by rw [List.length_map];omega) hcap (by rw [hmm];show (wordsB ns).length <= _;omega)).mono ?_;rintro e w' ⟨rfl,hx'⟩;rw [hmm];exact ⟨rfl,zdf hx'⟩
    have HX:=Lib.hid hx;clear hcs hjl hmm hS hx;rw [List.length_map] at hJ;rw [List.length_map];go_wp2_with (go_at_call 39;refine hJ.mono ?_;rintro e w3 ⟨rfl,hx3⟩;refine Hid.out ?_);refine Lib.hid ?_;clear hJ;go_wp2_with fail;go_ret;exact ⟨rfl,ExtM.trans _ _ _ HX.out hx3⟩
open Go.RowKit Go.Plan
def zsr:List UInt8:=[108,101,102,116]
def zsn:List UInt8:=[114,105,103,104,116]
def zsw:List UInt8:=[109,97,114,107]
def zsC:List UInt8:=[104,101,108,100]
def zsG:List UInt8:=[108,97,116,101]
def zsH:List UInt8:=[118,105,101,119]
def zso:List UInt8:=[103,114,111,117,112,115]
def zsx:List UInt8:=[115,97,118,101,100]
def zsh:List UInt8:=[114,101,108,111,97,100]
def zsW:List UInt8:=[104,101,108,112]
def wOk:List UInt8:=[111,107]
def ztR:List UInt8:=[101,114,114,111,114,32]
def zuu:List UInt8:=Lib.join [wFed,zso,zsW,zsC,zsG,zsr,zsw,zbW,zc2,zsh,zsn,zsx,zsH] [32]
def zs0:List (List UInt8) -> Option (List Int)
 | []=>some []
 | s :: r=>match numO s with
   | none=>none
   | some n=>(zs0 r).map (n :: ·)
theorem zuf {s:List UInt8} {n:Int} (h:numO s = some n):-9223372036854775808 <= n /\ n <= 9223372036854775807:=by
 unfold numO at h;split at h
 . rename_i m hm;split at h
   . cases h;exact Lib.atoiAll_bounds hm
   . cases h
 . cases h
theorem ztn:∀ {ss:List (List UInt8)} {ns:List Int},zs0 ss = some ns -> ∀ n ∈ ns,-9223372036854775808 <= n /\ n <= 9223372036854775807
 | [],ns,h=>by cases h;exact fun _ h=>nomatch h
 | s :: r,ns,h=>by
   rw [zs0] at h;cases hs:numO s with
   | none=>rw [hs] at h;cases h
   | some n =>
     rw [hs] at h;cases hr:zs0 r with
     | none=>rw [hr] at h;cases h
     | some m =>
       rw [hr] at h;cases h;intro q hq;rcases List.mem_cons.1 hq with rfl | hq
       . exact zuf hs
       . exact ztn hr q hq
theorem ztr:∀ {ss:List (List UInt8)} {ns:List Int},zs0 ss = some ns -> ns.length = ss.length
 | [],ns,h=>by cases h;rfl
 | s :: r,ns,h=>by
   rw [zs0] at h;cases hs:numO s with
   | none=>rw [hs] at h;cases h
   | some n =>
     rw [hs] at h;cases hr:zs0 r with
     | none=>rw [hr] at h;cases h
     | some m =>
       rw [hr] at h;cases h;rw [List.length_cons,List.length_cons,ztr hr]
def zsL (b:Bool) (r:Row):List UInt8:=if b then wordsB [r.t,r.v] else [45]
def outT (x:Out):List UInt8:=Lib.itoa x.key ++ [58] ++ (32 :: zsL x.hl x.l) ++ (32 :: zsL x.hr x.r)
def chgT (c:Out × Bool):List UInt8:=[44,32] ++ (if c.2 then [45] else [43]) ++ outT c.1
def fedT (l:List (Out × Bool)):List UInt8:=wFed ++ l.flatMap chgT
def ztU (l:List Out):List UInt8:=Lib.join ((sortO l).map outT) [44,32]
def grpT (g:GRow):List UInt8:=Lib.itoa g.key ++ [58,32] ++ wordsB [g.cnt,g.sum] ++ (if g.some then 32 :: wordsB [g.least,g.most] else [])
def ztK (l:List Out):List UInt8:=Lib.join ((refGs l).map grpT) [44,32]
def errT (e:Int):List UInt8:=ztR ++ Lib.itoa e
def cmdN (nm:List UInt8):Option Nat :=
 if nm = zc2 \/ nm = zsr \/ nm = zsn then some 3 else if nm = zsw then some 2
 else if nm = zbW \/ nm = zsC \/ nm = wFed \/ nm = zsG \/ nm = zsH \/ nm = zso \/ nm = zsx \/ nm = zsh \/ nm = zsW then some 0 else none
def LSt.feed (x:LSt) (s:Int) (r:Row):LSt :=
 ⟨⟨x.e.lo,x.e.hi,x.e.md,zgm x.e.lo x.e.hi s r x.e.st,sfV x.e.lo x.e.hi x.e.md s r x.e.st x.e.V,sf0 x.e.lo x.e.hi s r x.e.st x.e.f0,sf1 x.e.lo x.e.hi s r x.e.st x.e.f1⟩,zhq x.e.lo x.e.hi s r x.rs,sfL x.e.lo x.e.hi x.e.md s r x.e.st x.l⟩
def LSt.move (x:LSt) (s t:Int):LSt:=⟨{ x.e with st:=mvJ x.e.lo x.e.hi s t x.e.st },mvR x.e.lo x.e.hi s t x.rs,x.l⟩
def LSt.again (x:LSt):LSt:=⟨{ x.e with V:=(sortO x.e.V).reverse },x.rs,x.l⟩
def ztd (x:LSt) (s:Int) (r:Row):Int × List UInt8 × LSt:=(zdO x.e.lo x.e.hi s r x.e.st,fedT (zcR x.e.lo x.e.hi x.e.md s r x.e.st),x.feed s r)
def doX (x:LSt) (nm:List UInt8) (n:List Int):Int × List UInt8 × LSt :=
 if nm = zc2 then (if checkI (nAt n 0) (nAt n 1) (nAt n 2) = 0 then (0,zc2,LSt.new (nAt n 0) (nAt n 1) (nAt n 2)) else (checkI (nAt n 0) (nAt n 1) (nAt n 2),[],x))
 else if nm = zsr then ztd x 0 ⟨nAt n 0,nAt n 1,nAt n 2⟩
 else if nm = zsn then ztd x 1 ⟨nAt n 0,nAt n 1,nAt n 2⟩
 else if nm = zsw then (moveI (nAt n 0) (nAt n 1) x.e.st.x x.e.st.y,zsw,x.move (nAt n 0) (nAt n 1))
 else if nm = zbW then (0,wordsB [x.e.st.x,x.e.st.y],x)
 else if nm = zsC then (0,wordsB [(x.e.st.a.length:Nat),(x.e.st.b.length:Nat)],x)
 else if nm = wFed then (0,wordsB [x.e.f0,x.e.f1],x)
 else if nm = zsG then (0,wordsB [x.e.st.late],x)
 else if nm = zsH then (0,ztU x.e.V,x)
 else if nm = zso then (0,ztK x.l,x)
 else if nm = zsx then (if 60000 < (savedT x.e).length then (4,[],x) else (0,wordsB [((savedT x.e).length:Nat)],x))
 else if nm = zsh then (if 60000 < (savedT x.e).length then (4,[],x) else (0,zsh,x.again))
 else (0,zuu,x)
def ansT (q:Int × List UInt8 × LSt):List UInt8 × LSt:=(if q.1 = 0 then q.2.1 else errT q.1,q.2.2)
def zsp (x:LSt) (ws:List (List UInt8)):List UInt8 × LSt:=match ws with
 | []=>(wOk,x)
 | nm :: r=>match cmdN nm with
   | none=>(errT 3,x)
   | some k=>if r.length = k then (match zs0 r with
    | some n=>ansT (doX x nm n)
    | none=>(errT 3,x)) else (errT 3,x)
def zss:LSt -> List (List UInt8) -> List UInt8
 | _,[]=>[]
 | x,s :: r=>(zsp x (zse s)).1 ++ [10] ++ zss (zsp x (zse s)).2 r
def sessT (t:List UInt8):List UInt8:=if 20000 < t.length then errT 4 ++ [10] else zss (LSt.new 0 10 3) (textL t)
structure DOk (x:LSt) (n:Nat):Prop where
 g:EG x.e.lo x.e.hi x.e.md x.e.st x.e.V x.e.f0 x.e.f1 x.rs x.l n
 c:checkI x.e.lo x.e.hi x.e.md = 0
theorem DOk.more {x:LSt} {n:Nat} (h:DOk x n):DOk x (n + 1):=⟨h.g.more,h.c⟩
theorem DOk.mono {x:LSt} {n m:Nat} (h:DOk x n) (hm:n <= m):DOk x m:=by
 induction hm with
 | refl=>exact h
 | step _ ih=>exact ih.more
theorem DOk.new {lo hi md:Int} (h:checkI lo hi md = 0) (n:Nat):DOk (LSt.new lo hi md) n :=
 DOk.mono (n:=0) ⟨⟨zce.mk (RelJ.mk ⟨[],RelS.nil 0⟩ ⟨[],RelS.nil 0⟩ rfl rfl rfl) (Nat.zero_le _) (Nat.zero_le _) (fun x hx=>nomatch hx) (fun x hx=>nomatch hx) (Int.le_refl _) (by show (0:Int) <= 0;omega),POk.new lo hi md,List.Perm.refl _⟩,h⟩ (Nat.zero_le _)
theorem DOk.feed {x:LSt} {n:Nat} (h:DOk x n) (hn:n < 600) (s:Int) (r:Row):DOk (x.feed s r) (n + 1):=⟨h.g.feed hn s r,h.c⟩
theorem DOk.move {x:LSt} {n:Nat} (h:DOk x n) (s t:Int):DOk (x.move s t) (n + 1):=⟨h.g.move s t,h.c⟩
theorem DOk.again {x:LSt} {n:Nat} (h:DOk x n):DOk x.again n:=⟨h.g.perm ((List.reverse_perm _).trans (zbf x.e.V)),h.c⟩
theorem DOk.doX1 {x:LSt} {n:Nat} (h:DOk x n) (hn:n < 600) (nm:List UInt8) (ns:List Int):DOk (doX x nm ns).2.2 (n + 1):=by
 have ha:=h.again.more;have h1:=h.more;have hf:=fun s r=>h.feed hn s r;have hm:=fun s t=>h.move s t;unfold doX ztd;by_cases q0:nm = zc2
 . rw [if_pos q0];split
   . rename_i hc;exact DOk.new hc _
   . exact h1
 rw [if_neg q0];by_cases q1:nm = zsr
 . rw [if_pos q1];exact hf _ _
 rw [if_neg q1];by_cases q2:nm = zsn
 . rw [if_pos q2];exact hf _ _
 rw [if_neg q2];by_cases q3:nm = zsw
 . rw [if_pos q3];exact hm _ _
 rw [if_neg q3]
 repeat' split
 all_goals first | exact h1 | exact ha
theorem DOk.doX0 {x:LSt} {n:Nat} (h:DOk x n) (nm:List UInt8) (ns:List Int) (n1:nm ≠ zsr) (n2:nm ≠ zsn) (n3:nm ≠ zsw):DOk (doX x nm ns).2.2 n:=by
 have ha:=h.again;unfold doX ztd;rw [if_neg n1,if_neg n2,if_neg n3]
 repeat' split
 all_goals first | exact h | exact ha | exact DOk.new (by assumption) _
theorem DOk.line {x:LSt} {n:Nat} (h:DOk x n) (hn:n < 600) (ws:List (List UInt8)):DOk (zsp x ws).2 (n + ztt ws):=by
 unfold zsp ztt;cases ws with
 | nil=>exact h
 | cons nm r =>
   have h1:DOk x (n + if 3 <= (nm :: r).length then 1 else 0):=h.mono (by omega);simp only;cases hk:cmdN nm with
   | none=>exact h1
   | some k =>
     simp only;split
     . rename_i hl;cases hns:zs0 r with
       | none=>exact h1
       | some ns =>
         show DOk (doX x nm ns).2.2 _;by_cases h3:3 <= (nm :: r).length
         . rw [if_pos h3];exact h.doX1 hn nm ns
         . rw [if_neg h3];rw [List.length_cons] at h3;refine h.doX0 nm ns ?_ ?_ ?_ <;>
           . rintro rfl;have:cmdN _ = some k:=hk
             first
              | (have e:cmdN zsr = some 3:=by decide
                 rw [e] at this;cases this;omega)
              | (have e:cmdN zsn = some 3:=by decide
                 rw [e] at this;cases this;omega)
              | (have e:cmdN zsw = some 2:=by decide
                 rw [e] at this;cases this;omega)
     . exact h1
def zs6:LSt -> List (List UInt8) -> LSt
 | x,[]=>x
 | x,s :: r=>zs6 (zsp x (zse s)).2 r
theorem zs1:∀ (a b:List (List UInt8)) (x:LSt),zss x (a ++ b) = zss x a ++ zss (zs6 x a) b
 | [],_,_=>rfl
 | s :: a,b,x=>by
   rw [List.cons_append,zss,zss,zs6,zs1 a b];simp only [List.append_assoc]
theorem ztM (a b:List UInt8) (h:a.length + b.length <= 2000):∃ r,sessT (a ++ [10] ++ b) = sessT (a ++ [10]) ++ r:=by
 obtain ⟨r,hr⟩:=ztD a b;unfold sessT;have h1:(a ++ [10]).length = a.length + 1:=by rw [List.length_append];rfl
 have h2:(a ++ [10] ++ b).length = a.length + 1 + b.length:=by rw [List.length_append,h1]
 rw [if_neg (by rw [h2];omega),if_neg (by rw [h1];omega),hr,zs1];exact ⟨_,rfl⟩
open Go.RowKit Go.Plan Go.Lib
theorem ztu (s:List UInt8):trimSuffix s [10] = zsI s:=by
 unfold trimSuffix zsI hasSuffix;by_cases h:s.getLast? = some 10
 . obtain ⟨r,rfl⟩:=List.getLast?_eq_some_iff.1 h;have h1:([10]:List UInt8).isSuffixOf (r ++ [10]) = true:=by
    rw [List.isSuffixOf_iff_suffix];exact List.suffix_append r [10]
   rw [if_pos h,if_pos h1];simp
 . have h1:¬ ([10]:List UInt8).isSuffixOf s = true:=fun e=>h (by
    rw [List.isSuffixOf_iff_suffix] at e;obtain ⟨r,rfl⟩:=e
    simp)
   rw [if_neg h,if_neg h1]
theorem zu9 (s:ByteArray) (w:World) (hs:s.size <= 100000):Calls Tryz.prog 9 #[.string s,.string ⟨#[10]⟩] w fun e w'=>e = .returned (.string ⟨(zsI s.data.toList).toArray⟩) /\ w = w':=by
 refine (Any.strings_TrimSuffix Tryz.shTS s ⟨#[10]⟩ w (by omega)).mono ?_;rintro e w' ⟨rfl,rfl⟩;refine ⟨?_,rfl⟩;rw [<- ztu]
theorem zu0 (s:ByteArray) (w:World) (hs:s.size <= 100000) (hm:MaxP w):Calls Tryz.prog 47 #[.string s,.string ⟨#[10]⟩] w fun e w'=>e = .returned (.int .i64 (Lib.index s.data.toList [10])) /\ w = w':=by
 obtain ⟨m,hm⟩:=hm;refine (Any.strings_Index Tryz.shIx s ⟨#[10]⟩ m w (by omega) hm).mono ?_;rintro e w' ⟨rfl,rfl⟩;exact ⟨rfl,rfl⟩
theorem blank_c (w:World):PredAt Tryz.prog 27 #[] encR (fun r=>decide (r = 32)) w:=fun W r _=>by
 unfold FnGives;have e1:decide (r = 32) = decide ((r:Int) = 32):=by
  by_cases h:r = 32
  . subst h;rfl
  . have:¬ (r:Int) = 32:=by omega
    simp [h,this]
 show Calls Tryz.prog 27 #[.int .i32 (r:Int)] W fun e w'=>e = .returned (.bool (decide (r = 32))) /\ ∃ q,w' = W.drewN q;rw [e1];go_enter Tryz.func27,Tryz.ntmps27;go_wp2;go_ret;exact ⟨rfl,0,rfl⟩
def zs3 (w:World) (a:Option Addr) (ws:List ByteArray):Prop:=ws = [] \/ ∃ A o,a = some ⟨A,o,none⟩ /\ A < w.heap.size /\ ∀ j (h:j < ws.length),w.cell? ⟨A,o + j,none⟩ = some (.string ws[j])
theorem zs3.of {w w':World} {a:Option Addr} {ws:List ByteArray} (h:zs3 w a ws) (hx:Ext w w'):zs3 w' a ws:=by
 rcases h with h | ⟨A,o,h1,h2,h3⟩
 . exact .inl h
 . exact .inr ⟨A,o,h1,Nat.lt_of_lt_of_le h2 hx.size,fun j hj=>(hx.cell (p:=⟨A,o + j,none⟩) h2 id).trans (h3 j hj)⟩
theorem zuy (s:ByteArray) (w:World) (hs:s.size <= 100000):Calls Tryz.prog 26 #[.string s,.func (.func 27) #[] #[]] w fun e w' =>
 ∃ (A:Nat) (ws:List ByteArray),ws.map (fun x:ByteArray=>x.data.toList) = zse s.data.toList /\ e = .returned (.slice (some ⟨A,0,none⟩) ws.length ws.length) /\ A < w'.heap.size /\ (∀ j (h:j < ws.length),w'.cell? ⟨A,j,none⟩ = some (.string ws[j])) /\ Ext w w':=by
 refine (Any.strings_FieldsFunc_runes Tryz.shFF 27 #[] (enters_of Tryz.func27 (by kernel_rfl) rfl) (fun r=>decide (r = 32)) s w (by omega) (blank_c w).runes (by kernel_rfl) zp2).mono ?_;rintro e w' ⟨A,rfl,hA,hown,hb⟩;refine ⟨A,goFieldsP (fun r=>decide (r = 32)) s,zsV s,rfl,(hown.lt A rfl).2,fun j hj=>?_,zdf hb⟩
 have:=World.ownsRow.cellAt hown j (by omega)
 rw [this,List.getElem?_map,List.getElem?_eq_getElem hj];rfl
abbrev zsi (c:Int):Ending:=.panicked [{ v:=.iface 67 (.agg #[.int .i64 c]),recovered:=false }]
theorem zs8 (w:World):Calls Tryz.prog 20 #[.nilIface] w fun e w'=>e = .returned (.tuple #[]) /\ w = w':=by
 go_enter Tryz.func20,Tryz.ntmps20;go_wp2;go_end0;exact ⟨rfl,rfl⟩
theorem zs2 (c:Int) (w:World) (hL:Laid w):Calls Tryz.prog 20 #[.iface 47 (.int .i64 c)] w fun e w'=>e = zsi c /\ Ext w w':=by
 go_enter Tryz.func20,Tryz.ntmps20;go_wp2_with (go_at_call 44;refine (zcz c w hL).mono ?_;rintro e w1 ⟨rfl,hx1⟩);exact ⟨rfl,rfl,hx1⟩
def argsO (k:Nat) (ws:List (List UInt8)):Option (List Int):=if ws.length = k then zs0 ws else none
def zsf (ws:List ByteArray):List (List UInt8):=ws.map fun x=>x.data.toList
def zsm (k:Nat) (ws:List ByteArray) (w:World) (e:Ending) (w':World):Prop:=Ext w w' /\ match argsO k (zsf ws) with
 | some ns=>∃ vo,e = .returned vo /\ IR w' w.heap.size vo ns
 | none=>e = zsi 3
theorem ztp:∀ {ws:List (List UInt8)} (i:Nat) (h:i < ws.length),numO ws[i] = none -> zs0 ws = none
 | s :: r,0,_,hn=>by rw [zs0];have:numO s = none:=hn;rw [this]
 | s :: r,i + 1,h,hn=>by
   rw [zs0];cases hs:numO s with
   | none=>rfl
   | some n =>
     simp only;rw [ztp i (by simpa using h) (by simpa using hn)];rfl
theorem ztE {ws:List (List UInt8)} (h:∀ i (hi:i < ws.length),(numO ws[i]).isSome):zs0 ws = some (ws.map numW):=by
 induction ws with
 | nil=>rfl
 | cons s r ih =>
   have h0:=h 0 (by simp);obtain ⟨n,hn⟩:=Option.isSome_iff_exists.1 h0;have hn:numO s = some n:=hn;rw [zs0,hn];simp only;rw [ih (fun i hi=>by have:=h (i + 1) (by simpa using hi);simpa using this),List.map_cons,ztf hn];rfl
theorem ztS {s:List UInt8} (h:∀ n,Lib.atoiAll s ≠ .ok n):numO s = none:=by
 unfold numO;split
 . rename_i n hn;exact absurd hn (h n)
 . rfl
theorem numbers_c (ws:List ByteArray) (a:Option Addr) (cap k:Nat) (w:World) (hr:zs3 w a ws) (hs:∀ x ∈ ws,x.size <= 100000) (hl:ws.length <= 100000) (hk:k <= 3) (hlib:Lib4 w) :
 Calls Tryz.prog 18 #[.slice a ws.length cap,.int .i64 k] w (zsm k ws w):=by
 go_enter Tryz.func18,Tryz.ntmps18;by_cases hlen:ws.length = k
 . subst hlen;have hlen:ws.length = ws.length:=rfl;go_wp2_with fail;go_loopg [5,18] (ws.length + 1) (fun kx s5 s18 wr=>∃ (i:Nat) (ns:List Int),s18 = .int .i64 i /\ i <= ws.length /\ ws.length - i <= kx /\ Ext w wr /\ IR wr w.heap.size s5 ns /\ ns = (zsf (ws.take i)).map numW /\ ns.length = i /\ ∀ j (hj:j < i) (hj':j < ws.length),(numO ws[j].data.toList).isSome)
   case atStart=>exact ⟨0,[],rfl,by omega,by omega,ExtM.refl _,⟨rfl,.inl ⟨rfl,rfl⟩⟩,rfl,rfl,fun j hj=>absurd hj (Nat.not_lt_zero j)⟩
   case round =>
    obtain ⟨i,ns,rfl,hi,hgk,hx,hir,hns,hnl,hok⟩:=hrel;by_cases hil:i < ws.length
    . rcases hr with e | ⟨A,o,rfl,hA,hc⟩
      . subst e;simp at hil
      have hcell:=(hx.cell (p:=⟨A,o + i,none⟩) hA id).trans (hc i hil);have hAr:A < wr.heap.size:=Nat.lt_of_lt_of_le hA hx.size;have hsz:=hs _ (List.getElem_mem hil);have hlr:=hlib.ext hx;have HT:=Lib.hid (List.take_succ_eq_append_getElem hil);have HB:=Lib.hid (fun h:numO ws[i].data.toList = none=>ztp (ws:=zsf ws) i (by unfold zsf;rw [List.length_map];exact hil) (by unfold zsf;rw [List.getElem_map];exact h))
      have HG:=Lib.hid (fun (h:(numO ws[i].data.toList).isSome) j (hj:j < i + 1) (hj':j < ws.length)=>show (numO ws[j].data.toList).isSome from by
       by_cases e:j = i
       . subst e;exact h
       . exact hok j (by omega) hj')
      have HNL:=Lib.hid hnl;have HNS:=Lib.hid hns;clear hok hnl hns hc hs;generalize ws[i] = s at *;have hat:=zjT s wr (by omega) hlr.e;have htr:=hlr.t;have hL:=hlr.l;go_upto_region 8 with (go_at_call 42;refine hat.mono ?_;rintro e w2 ⟨n,ev,rfl,hx2,hcs⟩;refine Hid.out ?_)
      refine Lib.hid ?_;have ht2:=htr.keep (hx2.block _ htr.lt id);have hL2:=hL.of hx2;have hX2:Ext w w2:=ExtM.trans _ _ _ hx hx2;have hbad:numO s.data.toList = none -> ∀ w9,Ext w2 w9 -> zsm ws.length ws w (zsi 3) w9:=fun h w9 hx9=>by
       refine ⟨ExtM.trans _ _ _ hX2 hx9,?_⟩;rw [show argsO ws.length (zsf ws) = none from (if_pos (by unfold zsf;rw [List.length_map])).trans (HB.out h)]
      have HBD:=Lib.hid hbad;clear hat hbad;have hir2:=zag hir hx2 (fun _ _ h=>h);clear hir;rcases hcs with ⟨ha,rfl⟩ | ⟨ha,t,p,rfl⟩
      . have hb:=Lib.atoiAll_bounds ha;have hit:=zno n w2 hb.1 hb.2 ht2;by_cases hq:Lib.itoa n = s.data.toList
        . have hno:numO s.data.toList = some n:=by unfold numO;rw [ha];exact if_pos hq
          have hq2:(⟨(Lib.itoa n).toArray⟩:ByteArray) = s:=by
           obtain ⟨⟨l⟩⟩:=s;have:Lib.itoa n = l:=hq;rw [this]
          have hG:=HG.out (by rw [hno];rfl);have hwn:numW s.data.toList = n:=ztf hno;rw [hq2] at hit;have HX2:=Lib.hid hX2;clear hX2 hx hx2 hq hq2 ha hb;go_wp2_with (go_at_call 25;refine hit.mono ?_;rintro e w3 ⟨rfl,hx3⟩;refine Hid.out ?_);refine Lib.hid ?_;clear hit;have hir3:=zag hir2 hx3 (fun _ _ h=>h);have hX3:Ext w w3:=ExtM.trans _ _ _ HX2.out hx3;obtain ⟨v',w',happ,hir',hxr,hloc⟩:=zbe (w3.alloc (.cells #[.int .i64 n] 3)) w.heap.size w3.heap.size 1 u5 ns [n] 56 (zag hir3 ((ExtM.refl _).alloc _:Ext w3 _) (fun _ _ h=>h))
           (fun q v hq=>(World.cell?_alloc_at _ _ _ q rfl).trans (by simpa using hq)) (by have:=HNL.out;simp only [List.length_cons,List.length_nil];omega) (by rw [World.size_alloc];have:=hX3.size;omega)
          have hxc:Ext w w':=(ExtM.trans _ _ _ hX3 ((ExtM.refl _).alloc _):Ext w _).fresh' hxr (fun k hk e=>by have:=(zaf hir3 k e).1;omega);obtain ⟨pv,cv,hpv,-⟩:=zaa hir3;have HALL:=Lib.hid (⟨hir',hxc⟩:_ /\ _);subst hpv;clear hir' hxc hxr hloc hir3 hir2 hX3 hx3 hno;go_wp2_with (at_builtin;refine wpList_append_run happ rfl rfl _ _ rfl rfl rfl ?_;clear happ);go_roundg (ws.length - (i + 1))
          case measure=>omega
          case rel =>
           obtain ⟨q1,q2⟩:=HALL.out;refine ⟨i + 1,ns ++ [n],by go_num,by omega,Nat.le_refl _,q2,q1,?_,by simp [HNL.out],hG⟩;rw [HT.out,HNS.out];unfold zsf;simp [hwn]
        . have hno:numO s.data.toList = none:=by unfold numO;rw [ha];exact if_neg hq
          have hfin:=HBD.out hno;have HX2:=Lib.hid hX2;have hd:(Lib.itoa n == s.toList) = false:=by rw [ByteArray.toList_eq];exact beq_false_of_ne hq
          clear hX2 hx hx2 hno hq ha hb
          go_wp2_with (first
           | (go_at_call 25;refine hit.mono ?_;rintro e w3 ⟨rfl,hx3⟩)
           | (go_at_call 20;refine (zs2 3 _ (hL2.of hx3)).mono ?_;rintro e w4 ⟨rfl,hx4⟩))
          exact ⟨rfl,hfin _ (ExtM.trans _ _ _ hx3 hx4)⟩
      . have hno:numO s.data.toList = none:=ztS ha;have hfin:=HBD.out hno;clear hX2 hx hx2 hno ha;go_wp2_with (go_at_call 20;refine (zs2 3 _ hL2).mono ?_;rintro e w4 ⟨rfl,hx4⟩);exact ⟨rfl,hfin _ hx4⟩
    . obtain rfl:i = ws.length:=by omega
      rw [List.take_length] at hns;have hfin:zsm ws.length ws w (.returned u5) wr:=by
       refine ⟨hx,?_⟩;have hnO:zs0 (zsf ws) = some ns:=by
        rw [hns];exact ztE fun i hi=>by
         unfold zsf at hi ⊢;rw [List.length_map] at hi;rw [List.getElem_map];exact hok i hi hi
       rw [show argsO ws.length (zsf ws) = some ns from (if_pos (by unfold zsf;rw [List.length_map])).trans hnO];exact ⟨u5,rfl,hir⟩
      have hz:decide (ws.length < ws.length) = false:=by simp
      have hz2:decide ((ws.length:Int) < ws.length) = false:=by simp
      clear hns hok hnl hir hx;go_wp2_with fail;go_ret;exact hfin
 . have hne:(ws.length != k) = true:=by simp [hlen]
   have hne2:((ws.length:Int) != (k:Int)) = true:=by simp;omega
   have hmu:=zs2 3 w hlib.l;have hfin:∀ w9,Ext w w9 -> zsm k ws w (zsi 3) w9:=fun w9 hx9=>by
    refine ⟨hx9,?_⟩;rw [show argsO k (zsf ws) = none from if_neg (by unfold zsf;rw [List.length_map];exact hlen)]
   go_wp2_with (go_at_call 20;refine hmu.mono ?_;rintro e w2 ⟨rfl,hx2⟩);exact ⟨rfl,hfin _ hx2⟩
def NI (w:World) (a:Option Addr) (ns:List Int):Prop:=∃ b,zaq w b a ns
theorem NI.ext {w w':World} {a:Option Addr} {ns:List Int} (h:NI w a ns) (hx:Ext w w'):NI w' a ns:=by
 obtain ⟨b,h⟩:=h;rcases h with h | ⟨g,c,t,fz,h1,h2,h3,h4,h5⟩
 . exact ⟨b,.inl h⟩
 . exact ⟨b,.inr ⟨g,c,t,fz,h1,h2,h3,(hx.block g (Array.getElem?_eq_some_iff.1 h4).1 id).trans h4,h5⟩⟩
theorem NI.new (w:World) (ns:List Int):NI (w.alloc (.cells (ns.map (Value.int .i64)).toArray 3)) (some ⟨w.heap.size,0,none⟩) ns :=
 ⟨w.heap.size + 1,.inr ⟨w.heap.size,_,3,(0,0),rfl,by omega,by decide,heap_alloc_new _ _,fun i hi=>by simp [hi]⟩⟩
theorem TabP.ext {w w':World} (h:TabP w) (hx:Ext w w'):TabP w':=h.keep (hx.block _ h.lt id)
theorem zup {w:World} {a:Option Addr} {ns:List Int} (h:NI w a ns) (cap:Nat) (ht:TabP w) (hn:∀ n ∈ ns,-9223372036854775808 <= n /\ n <= 9223372036854775807) (hl:ns.length <= 100) :
 Calls Tryz.prog 86 #[.slice a ns.length cap] w fun e w'=>e = .returned (.string ⟨(wordsB ns).toArray⟩) /\ Ext w w':=by
 obtain ⟨b,h⟩:=h;exact zu8 ns a cap b w h ht hn hl
theorem zsP (a b:Int) (w:World) (ht:TabP w) (ha:-9223372036854775808 <= a /\ a <= 9223372036854775807) (hb:-9223372036854775808 <= b /\ b <= 9223372036854775807) :
 Calls Tryz.prog 86 #[.slice (some ⟨w.heap.size,0,none⟩) 2 2] (w.alloc (.cells #[.int .i64 a,.int .i64 b] 3)) fun e w'=>e = .returned (.string ⟨(wordsB [a,b]).toArray⟩) /\ Ext (w.alloc (.cells #[.int .i64 a,.int .i64 b] 3)) w':=by
 refine (zup (NI.new w [a,b]) 2 (TabP.ext ht ((ExtM.refl _).alloc _)) (fun n hn=>?_) (by simp)).mono ?_
 . simp only [List.mem_cons,List.not_mem_nil,or_false] at hn;rcases hn with rfl | rfl
   . exact ha
   . exact hb
 . rintro e w' ⟨rfl,hx⟩;exact ⟨rfl,hx⟩
def preT (x:Out) (i:Nat):List UInt8:=Lib.itoa x.key ++ [58] ++ (if 0 < i then 32 :: zsL x.hl x.l else []) ++ (if 1 < i then 32 :: zsL x.hr x.r else [])
theorem zt5 (x:Out):preT x 2 = outT x:=rfl
theorem zsk (a b:Int) (ha:-9223372036854775808 <= a /\ a <= 9223372036854775807) (hb:-9223372036854775808 <= b /\ b <= 9223372036854775807):(wordsB [a,b]).length <= 44:=by
 have:=zi0 [a,b] (fun n hn=>by
  simp only [List.mem_cons,List.not_mem_nil,or_false] at hn;rcases hn with rfl | rfl
  . exact ha
  . exact hb)
 simpa using this
structure zte (x:Out):Prop where
 key:-9223372036854775808 <= x.key /\ x.key <= 9223372036854775807
 lt:-9223372036854775808 <= x.l.t /\ x.l.t <= 9223372036854775807
 lv:-9223372036854775808 <= x.l.v /\ x.l.v <= 9223372036854775807
 rt:-9223372036854775808 <= x.r.t /\ x.r.t <= 9223372036854775807
 rv:-9223372036854775808 <= x.r.v /\ x.r.v <= 9223372036854775807
theorem zsq (n:Int) (h:-9223372036854775808 <= n /\ n <= 9223372036854775807):(Lib.itoa n).length <= 22:=by
 have:=zi0 [n] (fun m hm=>by rw [List.mem_singleton] at hm;subst hm;exact h)
 rw [zhn] at this;simpa using this
theorem zth (b:Bool) (r:Row) (h1:-9223372036854775808 <= r.t /\ r.t <= 9223372036854775807) (h2:-9223372036854775808 <= r.v /\ r.v <= 9223372036854775807):(zsL b r).length <= 44:=by
 unfold zsL;split
 . exact zsk _ _ h1 h2
 . decide
theorem zty (x:Out) (h:zte x) (i:Nat):(preT x i).length <= 113:=by
 have h1:=zsq x.key h.key;have h2:=zth x.hl x.l h.lt h.lv;have h3:=zth x.hr x.r h.rt h.rv;unfold preT;simp only [List.length_append,List.length_cons,List.length_nil];split <;> split <;> simp only [List.length_cons,List.length_nil] <;> omega
theorem zsF (x:Out) (h:zte x):(outT x).length <= 113:=zt5 x ▸ zty x h 2
theorem zur (x:Out) (w:World) (h64:zte x) (ht:TabP w) :
 Calls Tryz.prog 97 #[.agg #[.int .i64 x.key,.int .i64 x.l.k,.int .i64 x.l.t,.int .i64 x.l.v,.int .i64 x.r.k,.int .i64 x.r.t,.int .i64 x.r.v,.bool x.hl,.bool x.hr]] w fun e w'=>e = .returned (.string ⟨(outT x).toArray⟩) /\ Ext w w':=by
 have hpl:=zty x h64;have hk:=h64.key;have hil:=zsq x.key hk;have hlt:=h64.lt;have hlv:=h64.lv;have hrt:=h64.rt;have hrv:=h64.rv;have hp0:(⟨(Lib.itoa x.key).toArray⟩:ByteArray) ++ ⟨#[58]⟩ = ⟨(preT x 0).toArray⟩:=by simp only [ByteArray.mk_append_mk,preT];simp
 clear h64;obtain ⟨key,⟨lk,lt,lv⟩,⟨rk,rt,rv⟩,hl,hr⟩:=x;simp only at hk hlt hlv hrt hrv hp0 hil ⊢;generalize hX:(⟨key,⟨lk,lt,lv⟩,⟨rk,rt,rv⟩,hl,hr⟩:Out) = x at *;have hx0:Ext w (w.alloc (.cells #[.int .i64 key,.int .i64 lk,.int .i64 lt,.int .i64 lv,.int .i64 rk,.int .i64 rt,.int .i64 rv,.bool hl,.bool hr] 94)):=(ExtM.refl _).alloc _;have b0:(w.alloc (.cells #[.int .i64 key,.int .i64 lk,.int .i64 lt,.int .i64 lv,.int .i64 rk,.int .i64 rt,.int .i64 rv,.bool hl,.bool hr] 94)).cell? ⟨w.heap.size,0,none⟩ = some (.int .i64 key):=by go_simp
 have b1:(w.alloc (.cells #[.int .i64 key,.int .i64 lk,.int .i64 lt,.int .i64 lv,.int .i64 rk,.int .i64 rt,.int .i64 rv,.bool hl,.bool hr] 94)).cell? ⟨w.heap.size,1,none⟩ = some (.int .i64 lk):=by go_simp
 have b2:(w.alloc (.cells #[.int .i64 key,.int .i64 lk,.int .i64 lt,.int .i64 lv,.int .i64 rk,.int .i64 rt,.int .i64 rv,.bool hl,.bool hr] 94)).cell? ⟨w.heap.size,2,none⟩ = some (.int .i64 lt):=by go_simp
 have b3:(w.alloc (.cells #[.int .i64 key,.int .i64 lk,.int .i64 lt,.int .i64 lv,.int .i64 rk,.int .i64 rt,.int .i64 rv,.bool hl,.bool hr] 94)).cell? ⟨w.heap.size,3,none⟩ = some (.int .i64 lv):=by go_simp
 have b4:(w.alloc (.cells #[.int .i64 key,.int .i64 lk,.int .i64 lt,.int .i64 lv,.int .i64 rk,.int .i64 rt,.int .i64 rv,.bool hl,.bool hr] 94)).cell? ⟨w.heap.size,4,none⟩ = some (.int .i64 rk):=by go_simp
 have b5:(w.alloc (.cells #[.int .i64 key,.int .i64 lk,.int .i64 lt,.int .i64 lv,.int .i64 rk,.int .i64 rt,.int .i64 rv,.bool hl,.bool hr] 94)).cell? ⟨w.heap.size,5,none⟩ = some (.int .i64 rt):=by go_simp
 have b6:(w.alloc (.cells #[.int .i64 key,.int .i64 lk,.int .i64 lt,.int .i64 lv,.int .i64 rk,.int .i64 rt,.int .i64 rv,.bool hl,.bool hr] 94)).cell? ⟨w.heap.size,6,none⟩ = some (.int .i64 rv):=by go_simp
 have b7:(w.alloc (.cells #[.int .i64 key,.int .i64 lk,.int .i64 lt,.int .i64 lv,.int .i64 rk,.int .i64 rt,.int .i64 rv,.bool hl,.bool hr] 94)).cell? ⟨w.heap.size,7,none⟩ = some (.bool hl):=by go_simp
 have b8:(w.alloc (.cells #[.int .i64 key,.int .i64 lk,.int .i64 lt,.int .i64 lv,.int .i64 rk,.int .i64 rt,.int .i64 rv,.bool hl,.bool hr] 94)).cell? ⟨w.heap.size,8,none⟩ = some (.bool hr):=by go_simp
 have lb:w.heap.size < (w.alloc (.cells #[.int .i64 key,.int .i64 lk,.int .i64 lt,.int .i64 lv,.int .i64 rk,.int .i64 rt,.int .i64 rv,.bool hl,.bool hr] 94)).heap.size:=by rw [World.size_alloc];omega
 have hit:=zno key (w.alloc (.cells #[.int .i64 key,.int .i64 lk,.int .i64 lt,.int .i64 lv,.int .i64 rk,.int .i64 rt,.int .i64 rv,.bool hl,.bool hr] 94)) hk.1 hk.2 (TabP.ext ht hx0);have HXX:=Lib.hid hX;have HPL:=Lib.hid hpl;have HP0:=Lib.hid hp0;clear hX hpl hp0;go_enter Tryz.func97,Tryz.ntmps97;go_wp2_with (go_at_call 25;refine hit.mono ?_;rintro e w1 ⟨rfl,hx1⟩;refine Hid.out ?_);refine Lib.hid ?_;have e1:=(hx1.cell (p:=⟨w.heap.size,1,none⟩) lb id).trans b1;have e2:=(hx1.cell (p:=⟨w.heap.size,2,none⟩) lb id).trans b2;have e3:=(hx1.cell (p:=⟨w.heap.size,3,none⟩) lb id).trans b3;have e4:=(hx1.cell (p:=⟨w.heap.size,4,none⟩) lb id).trans b4;have e5:=(hx1.cell (p:=⟨w.heap.size,5,none⟩) lb id).trans b5;have e6:=(hx1.cell (p:=⟨w.heap.size,6,none⟩) lb id).trans b6;have e7:=(hx1.cell (p:=⟨w.heap.size,7,none⟩) lb id).trans b7;have e8:=(hx1.cell (p:=⟨w.heap.size,8,none⟩) lb id).trans b8;have ht1:=TabP.ext ht (ExtM.trans _ _ _ hx0 hx1);have hX1:Ext w w1:=ExtM.trans _ _ _ hx0 hx1;have lb1:w.heap.size < w1.heap.size:=Nat.lt_of_lt_of_le lb hx1.size;clear hit b0 b1 b2 b3 b4 b5 b6 b7 b8 lb hx0 hx1;have hxz:Ext w1 (w1.alloc (.cells #[.int .i64 lk,.int .i64 lt,.int .i64 lv,.int .i64 rk,.int .i64 rt,.int .i64 rv] 92)):=(ExtM.refl _).alloc _;have lz:w1.heap.size < (w1.alloc (.cells #[.int .i64 lk,.int .i64 lt,.int .i64 lv,.int .i64 rk,.int .i64 rt,.int .i64 rv] 92)).heap.size:=by rw [World.size_alloc];omega
 have z0:(w1.alloc (.cells #[.int .i64 lk,.int .i64 lt,.int .i64 lv,.int .i64 rk,.int .i64 rt,.int .i64 rv] 92)).cell? ⟨w1.heap.size,0,none⟩ = some (.int .i64 lk):=by go_simp
 have z1:(w1.alloc (.cells #[.int .i64 lk,.int .i64 lt,.int .i64 lv,.int .i64 rk,.int .i64 rt,.int .i64 rv] 92)).cell? ⟨w1.heap.size,1,none⟩ = some (.int .i64 lt):=by go_simp
 have z2:(w1.alloc (.cells #[.int .i64 lk,.int .i64 lt,.int .i64 lv,.int .i64 rk,.int .i64 rt,.int .i64 rv] 92)).cell? ⟨w1.heap.size,2,none⟩ = some (.int .i64 lv):=by go_simp
 have z3:(w1.alloc (.cells #[.int .i64 lk,.int .i64 lt,.int .i64 lv,.int .i64 rk,.int .i64 rt,.int .i64 rv] 92)).cell? ⟨w1.heap.size,3,none⟩ = some (.int .i64 rk):=by go_simp
 have z4:(w1.alloc (.cells #[.int .i64 lk,.int .i64 lt,.int .i64 lv,.int .i64 rk,.int .i64 rt,.int .i64 rv] 92)).cell? ⟨w1.heap.size,4,none⟩ = some (.int .i64 rt):=by go_simp
 have z5:(w1.alloc (.cells #[.int .i64 lk,.int .i64 lt,.int .i64 lv,.int .i64 rk,.int .i64 rt,.int .i64 rv] 92)).cell? ⟨w1.heap.size,5,none⟩ = some (.int .i64 rv):=by go_simp
 have y7:=(hxz.cell (p:=⟨w.heap.size,7,none⟩) lb1 id).trans e7;have y8:=(hxz.cell (p:=⟨w.heap.size,8,none⟩) lb1 id).trans e8;have lbz:w.heap.size < (w1.alloc (.cells #[.int .i64 lk,.int .i64 lt,.int .i64 lv,.int .i64 rk,.int .i64 rt,.int .i64 rv] 92)).heap.size:=by rw [World.size_alloc];omega
 have hXz:Ext w (w1.alloc (.cells #[.int .i64 lk,.int .i64 lt,.int .i64 lv,.int .i64 rk,.int .i64 rt,.int .i64 rv] 92)):=ExtM.trans _ _ _ hX1 hxz;have htz:=TabP.ext ht1 hxz;go_wp2_with fail;generalize (w1.alloc (.cells #[.int .i64 lk,.int .i64 lt,.int .i64 lv,.int .i64 rk,.int .i64 rt,.int .i64 rv] 92)) = wz at *;go_loopg [3,16] 3 (fun kx s3 s16 wr=>∃ (i:Nat) (T:List UInt8),s16 = .int .i64 i /\ i <= 2 /\ 2 - i <= kx /\ T = preT x i /\ s3 = .string ⟨T.toArray⟩ /\ Ext wz wr)
 case atStart=>exact ⟨0,preT x 0,rfl,by omega,by omega,rfl,congrArg Value.string HP0.out,ExtM.refl _⟩
 case round =>
  obtain ⟨i,T,rfl,hi,hgk,hT,rfl,hx⟩:=hrel;have q0:=(hx.cell (p:=⟨w1.heap.size,0,none⟩) lz id).trans z0;have q1:=(hx.cell (p:=⟨w1.heap.size,1,none⟩) lz id).trans z1;have q2:=(hx.cell (p:=⟨w1.heap.size,2,none⟩) lz id).trans z2;have q3:=(hx.cell (p:=⟨w1.heap.size,3,none⟩) lz id).trans z3;have q4:=(hx.cell (p:=⟨w1.heap.size,4,none⟩) lz id).trans z4;have q5:=(hx.cell (p:=⟨w1.heap.size,5,none⟩) lz id).trans z5;have q7:=(hx.cell (p:=⟨w.heap.size,7,none⟩) lbz id).trans y7;have q8:=(hx.cell (p:=⟨w.heap.size,8,none⟩) lbz id).trans y8;have lr:=Nat.lt_of_lt_of_le lz hx.size;have lr0:=Nat.lt_of_lt_of_le lbz hx.size;have htr:=TabP.ext htz hx;have hpl:=HPL.out;have hX:=HXX.out;by_cases hi2:i < 2
  . have hi3:i = 0 \/ i = 1:=by omega
    clear hi2 hi;rcases hi3 with rfl | rfl
    . subst hT;have hpx:preT x (0 + 1) = preT x 0 ++ (32 :: zsL hl ⟨lk,lt,lv⟩):=by subst hX;unfold preT;simp
      have HPX:=Lib.hid hpx;have hlx:(preT x 0).length <= 113:=hpl 0;have hlx2:(preT x (0 + 1)).length <= 113:=hpl (0 + 1);generalize preT x 0 = T0 at *;generalize hT1:preT x (0 + 1) = T1 at *;have HT1:=Lib.hid hT1;clear hpx hX hpl hT1;cases hl with
      | false =>
        have hT:(⟨T0.toArray⟩:ByteArray) ++ ⟨#[32,45]⟩ = ⟨T1.toArray⟩:=by rw [HPX.out];simp only [ByteArray.mk_append_mk,zsL];simp
        go_wp2_with fail;go_roundg (2 - (0 + 1))
        case measure=>omega
        case rel=>exact ⟨0 + 1,T1,by go_num,by omega,Nat.le_refl _,HT1.out.symm,rfl,hx.alloc _⟩
      | true =>
        have hw2:=zsk lt lv hlt hlv;have hjn:=zsP lt lv (wr.alloc (.cells #[.int .i64 lk,.int .i64 lt,.int .i64 lv] 92)) (TabP.ext htr ((ExtM.refl _).alloc _)) hlt hlv;have hT:(⟨T0.toArray⟩:ByteArray) ++ ((⟨#[32]⟩:ByteArray) ++ ⟨(wordsB [lt,lv]).toArray⟩) = ⟨T1.toArray⟩:=by rw [HPX.out];simp only [ByteArray.mk_append_mk,zsL];simp
        rw [World.size_alloc] at hjn;generalize wordsB [lt,lv] = W9 at *;go_wp2_with (go_at_call 86;refine hjn.mono ?_;rintro e w5 ⟨rfl,hx5⟩);go_roundg (2 - (0 + 1))
        case measure=>omega
        case rel=>exact ⟨0 + 1,T1,by go_num,by omega,Nat.le_refl _,HT1.out.symm,rfl,ExtM.trans _ _ _ ((hx.alloc _).alloc _) hx5⟩
    . subst hT;have hpx:preT x (1 + 1) = preT x 1 ++ (32 :: zsL hr ⟨rk,rt,rv⟩):=by subst hX;unfold preT;simp
      have HPX:=Lib.hid hpx;have hlx:(preT x 1).length <= 113:=hpl 1;have hlx2:(preT x (1 + 1)).length <= 113:=hpl (1 + 1);generalize preT x 1 = T0 at *;generalize hT1:preT x (1 + 1) = T1 at *;have HT1:=Lib.hid hT1;clear hpx hX hpl hT1;cases hr with
      | false =>
        have hT:(⟨T0.toArray⟩:ByteArray) ++ ⟨#[32,45]⟩ = ⟨T1.toArray⟩:=by rw [HPX.out];simp only [ByteArray.mk_append_mk,zsL];simp
        go_wp2_with fail;go_roundg (2 - (1 + 1))
        case measure=>omega
        case rel=>exact ⟨1 + 1,T1,by go_num,by omega,Nat.le_refl _,HT1.out.symm,rfl,hx.alloc _⟩
      | true =>
        have hw2:=zsk rt rv hrt hrv;have hjn:=zsP rt rv (wr.alloc (.cells #[.int .i64 rk,.int .i64 rt,.int .i64 rv] 92)) (TabP.ext htr ((ExtM.refl _).alloc _)) hrt hrv;have hT:(⟨T0.toArray⟩:ByteArray) ++ ((⟨#[32]⟩:ByteArray) ++ ⟨(wordsB [rt,rv]).toArray⟩) = ⟨T1.toArray⟩:=by rw [HPX.out];simp only [ByteArray.mk_append_mk,zsL];simp
        rw [World.size_alloc] at hjn;generalize wordsB [rt,rv] = W9 at *;go_wp2_with (go_at_call 86;refine hjn.mono ?_;rintro e w5 ⟨rfl,hx5⟩);go_roundg (2 - (1 + 1))
        case measure=>omega
        case rel=>exact ⟨1 + 1,T1,by go_num,by omega,Nat.le_refl _,HT1.out.symm,rfl,ExtM.trans _ _ _ ((hx.alloc _).alloc _) hx5⟩
  . obtain rfl:i = 2:=by omega
    rw [zt5] at hT;clear hpl hX;have HT:=Lib.hid hT;clear hT;go_wp2_with fail;go_ret;exact ⟨by rw [HT.out];rfl,ExtM.trans _ _ _ hXz hx⟩
def DkAt (u:World) (D:Nat) (Fs:Nat -> Prop) (x:LSt):Prop:=∃ E Bs,u.cell? ⟨D,0,none⟩ = some (.pointer (some ⟨E,0,none⟩)) /\ u.frozen? ⟨D,0,none⟩ = false /\ EAt u E Bs x.e.lo x.e.hi x.e.md x.e.st x.e.V x.e.V x.e.f0 x.e.f1 /\ ¬ Bs D /\ Fs = fun k=>k = D \/ Bs k
def DkUp (u u':World) (D:Nat) (Fs:Nat -> Prop) (x:LSt):Prop:=ExtM Fs u u' /\ ∃ Fs',DkAt u' D Fs' x /\ ∀ k,Fs' k -> Fs k \/ u.heap.size <= k
section
variable {u u' u'':World} {D:Nat} {Fs:Nat -> Prop} {x y:LSt}
theorem DkAt.lt (h:DkAt u D Fs x) (k:Nat) (hk:Fs k):k < u.heap.size:=by
 obtain ⟨E,Bs,h1,h2,h3,h4,rfl⟩:=h;rcases hk with rfl | hk
 . exact zac h1
 . exact h3.lt k hk
theorem DkAt.keep {F:Nat -> Prop} (h:DkAt u D Fs x) (hx:ExtM F u u') (hF:∀ k,Fs k -> ¬ F k):DkAt u' D Fs x:=by
 obtain ⟨E,Bs,h1,h2,h3,h4,rfl⟩:=h;exact ⟨E,Bs,(hx.cell (p:=⟨D,0,none⟩) (zac h1) (hF D (.inl rfl))).trans h1,(hx.frozen (p:=⟨D,0,none⟩) (zac h1) (hF D (.inl rfl))).trans h2,h3.keep hx (fun k hk=>hF k (.inr hk)),h4,rfl⟩
theorem DkAt.ext (h:DkAt u D Fs x) (hx:Ext u u'):DkAt u' D Fs x:=h.keep hx (fun _ _ h=>h)
theorem DkUp.same (h:DkAt u D Fs x) (hx:Ext u u'):DkUp u u' D Fs x:=⟨hx.mono (fun _ _ h=>h.elim),Fs,h.ext hx,fun _ h=>.inl h⟩
theorem DkUp.after (h:DkUp u u' D Fs x) (hx:Ext u' u''):DkUp u u'' D Fs x:=by
 obtain ⟨h1,Fs',h2,h3⟩:=h;exact ⟨ExtM.trans _ _ _ h1 (hx.mono (fun _ _ h=>h.elim)),Fs',h2.ext hx,h3⟩
theorem DkAt.eup (h:DkAt u D Fs x):∃ E Bs,u.cell? ⟨D,0,none⟩ = some (.pointer (some ⟨E,0,none⟩)) /\ EAt u E Bs x.e.lo x.e.hi x.e.md x.e.st x.e.V x.e.V x.e.f0 x.e.f1 /\ ((∀ k,Bs k -> Fs k) /\ ¬ Bs D) /\
 ∀ (u1 u':World) (y:LSt),y.e.lo = x.e.lo -> y.e.hi = x.e.hi -> y.e.md = x.e.md -> Ext u u1 -> EUp u1 u' E Bs x.e.lo x.e.hi x.e.md y.e.st y.e.V y.e.V y.e.f0 y.e.f1 -> DkUp u u' D Fs y:=by
 obtain ⟨E,Bs,h1,h2,h3,h4,rfl⟩:=h;refine ⟨E,Bs,h1,h3,⟨fun k hk=>.inr hk,h4⟩,fun u1 u' y e1 e2 e3 hx hu=>?_⟩;obtain ⟨hx2,Bs',h5,h6⟩:=hu;have lD:=zac h1;refine ⟨ExtM.trans _ _ _ (hx.mono (fun _ _ h=>h.elim)) (hx2.mono fun k _ hk=>.inr hk),_,⟨E,Bs',?_,?_,by rw [e1,e2,e3];exact h5,?_,rfl⟩,fun k hk=>?_⟩
 . exact (hx2.cell (p:=⟨D,0,none⟩) (Nat.lt_of_lt_of_le lD hx.size) h4).trans ((hx.cell (p:=⟨D,0,none⟩) lD id).trans h1)
 . exact (hx2.frozen (p:=⟨D,0,none⟩) (Nat.lt_of_lt_of_le lD hx.size) h4).trans ((hx.frozen (p:=⟨D,0,none⟩) lD id).trans h2)
 . intro e;rcases h6 D e with e | e
   . exact h4 e
   . have:=hx.size;simp only at lD;omega
 . rcases hk with e | e
   . exact .inl (.inl e)
   . exact (h6 k e).imp .inr (fun e=>Nat.le_trans hx.size e)
theorem DkAt.put (h:DkAt u D Fs x) {E':Nat} {Bs':Nat -> Prop} (hx:Ext u u') (hE:EAt u' E' Bs' y.e.lo y.e.hi y.e.md y.e.st y.e.V y.e.V y.e.f0 y.e.f1) (hB:∀ k,Bs' k -> u.heap.size <= k) :
 DkUp u (u'.setCell ⟨D,0,none⟩ (.pointer (some ⟨E',0,none⟩))) D Fs y:=by
 obtain ⟨E,Bs,h1,h2,h3,h4,rfl⟩:=h;have lD:=zac h1;have c1:=(hx.cell (p:=⟨D,0,none⟩) lD id).trans h1;have hs:ExtM (fun k=>k = D) u' (u'.setCell ⟨D,0,none⟩ (.pointer (some ⟨E',0,none⟩))):=ExtM.setCell (M:=fun k=>k = D) (ExtM.refl u') (p:=⟨D,0,none⟩) (.inr rfl) _;have hn:¬ Bs' D:=fun e=>by have:=hB D e;simp only at lD;omega
 refine ⟨ExtM.trans _ _ _ (hx.mono (fun _ _ h=>h.elim)) (hs.mono fun k _ e=>.inl e),_,⟨E',Bs',World.cell?_setCell_same _ _ _ c1,?_,hE.keep hs (fun k hk e=>hn (e ▸ hk)),hn,rfl⟩,fun k hk=>?_⟩
 . exact (World.frozen?_setCell _ _ _ _).trans ((hx.frozen (p:=⟨D,0,none⟩) lD id).trans h2)
 . rcases hk with e | e
   . exact .inl (.inl e)
   . exact .inr (hB k e)
end
structure NoG (Fs:Nat -> Prop):Prop where
 e:¬ Fs 0
 s:¬ Fs 4
 r:¬ Fs 5
 m:¬ Fs 3
 p:¬ Fs 6
theorem Lib4.keepM {w w':World} {Fs:Nat -> Prop} (h:Lib4 w) (hx:ExtM Fs w w') (hn:NoG Fs):Lib4 w' :=
 ⟨h.l.ofM hx hn.e,h.m.keep (hx.block _ h.m.lt hn.m),h.e.keep hx hn.s hn.r,h.t.keep (hx.block _ h.t.lt hn.p)⟩
theorem NoG.up {w:World} {Fs Fs':Nat -> Prop} (h:NoG Fs) (hl:Lib4 w) (hF:∀ k,Fs' k -> Fs k \/ w.heap.size <= k):NoG Fs' :=
 ⟨fun e=>(hF _ e).elim h.e (fun q=>by have:=zaG hl.l;omega),fun e=>(hF _ e).elim h.s (fun q=>by have:=hl.e.lt;omega),fun e=>(hF _ e).elim h.r (fun q=>by have:=hl.e.lt;omega),
  fun e=>(hF _ e).elim h.m (fun q=>by have:=hl.m.lt;omega),fun e=>(hF _ e).elim h.p (fun q=>by have:=hl.t.lt;omega)⟩
def AnsV (u:World) (D:Nat) (Fs:Nat -> Prop) (x:LSt) (nm:List UInt8) (k:Nat) (ws:List ByteArray) (e:Ending) (u':World):Prop:=match argsO k (zsf ws) with
 | none=>e = zsi 3 /\ DkUp u u' D Fs x
 | some n=>(if (doX x nm n).1 = 0 then e = .returned (.string ⟨(doX x nm n).2.1.toArray⟩) else e = zsi (doX x nm n).1) /\ DkUp u u' D Fs (doX x nm n).2.2
structure DkIn (u:World) (D:Nat) (Fs:Nat -> Prop) (x:LSt) (n:Nat) (a:Option Addr) (ws:List ByteArray):Prop where
 d:DkAt u D Fs x
 ok:DOk x n
 hn:n < 600
 lib:Lib4 u
 hz:NoG Fs
 str:zs3 u a ws
 sz:∀ x ∈ ws,x.size <= 100000
 len:ws.length <= 100000
theorem DkIn.nums {u:World} {D:Nat} {Fs:Nat -> Prop} {x:LSt} {n:Nat} {a:Option Addr} {ws:List ByteArray} (h:DkIn u D Fs x n a ws) (cap k:Nat) (hk:k <= 3) :
 Calls Tryz.prog 18 #[.slice a ws.length cap,.int .i64 k] u (zsm k ws u):=numbers_c ws a cap k u h.str h.sz h.len hk h.lib
theorem zsj {ws:List ByteArray} {n:List Int} (h:argsO 0 (zsf ws) = some n):n = []:=by
 unfold argsO at h;split at h
 . rename_i h0;have:zsf ws = []:=List.eq_nil_of_length_eq_zero h0;rw [this] at h;cases h;rfl
 . cases h
theorem zsl {k:Nat} {ws:List ByteArray} {n:List Int} (h:argsO k (zsf ws) = some n):n.length = k /\ ∀ m ∈ n,-9223372036854775808 <= m /\ m <= 9223372036854775807:=by
 unfold argsO at h;split at h
 . rename_i h0;exact ⟨(ztr h).trans h0,ztn h⟩
 . cases h
theorem AnsV.bad {u u':World} {D:Nat} {Fs:Nat -> Prop} {x:LSt} {nm:List UInt8} {k:Nat} {ws:List ByteArray} (h:argsO k (zsf ws) = none) (hd:DkAt u D Fs x) (hx:Ext u u'):AnsV u D Fs x nm k ws (zsi 3) u':=by
 unfold AnsV;rw [h];exact ⟨rfl,DkUp.same hd hx⟩
theorem AnsV.good {u u':World} {D:Nat} {Fs:Nat -> Prop} {x y:LSt} {nm:List UInt8} {k:Nat} {ws:List ByteArray} {n:List Int} {t:List UInt8} (h:argsO k (zsf ws) = some n) (hd:doX x nm n = (0,t,y)) (hu:DkUp u u' D Fs y):AnsV u D Fs x nm k ws (.returned (.string ⟨t.toArray⟩)) u':=by
 unfold AnsV;rw [h];simp only;rw [hd];exact ⟨rfl,hu⟩
theorem AnsV.err {u u':World} {D:Nat} {Fs:Nat -> Prop} {x y:LSt} {nm:List UInt8} {k:Nat} {ws:List ByteArray} {n:List Int} {t:List UInt8} {c:Int} (h:argsO k (zsf ws) = some n) (hd:doX x nm n = (c,t,y)) (hc:c ≠ 0) (hu:DkUp u u' D Fs y):AnsV u D Fs x nm k ws (zsi c) u':=by
 unfold AnsV;rw [h];simp only;rw [hd];exact ⟨by simp [hc],hu⟩
theorem zuD (u:World) (D:Nat) (Fs:Nat -> Prop) (x:LSt) (n:Nat) (a:Option Addr) (ws:List ByteArray) (cap:Nat) (h:DkIn u D Fs x n a ws) :
 Calls Tryz.prog 54 #[.pointer (some ⟨D,0,none⟩),.slice a ws.length cap] u (AnsV u D Fs x zsW 0 ws):=by
 rcases hq:argsO 0 (zsf ws) with - | n
 . have hn0:=(h.nums cap 0 (by decide)).mono (R':=fun e w'=>e = zsi 3 /\ Ext u w') (fun e w' hh=>by unfold zsm at hh;rw [hq] at hh;exact ⟨hh.2,hh.1⟩);have hfin:=fun w' (hx:Ext u w')=>AnsV.bad (nm:=zsW) hq h.d hx;clear h;go_enter Tryz.func54,Tryz.ntmps54;go_wp2_with (go_at_call 18;refine hn0.mono ?_;rintro e w1 ⟨rfl,hx1⟩);exact ⟨rfl,hfin _ hx1⟩
 obtain rfl:=zsj hq
 have hn0:=(h.nums cap 0 (by decide)).mono (R':=fun e w'=>∃ vo,e = .returned vo /\ Ext u w') (fun e w' hh=>by
  unfold zsm at hh;rw [hq] at hh;obtain ⟨h1,vo,h2,h3⟩:=hh
  exact ⟨vo,h2,h1⟩)
 have hfin:=fun w' (hx:Ext u w')=>AnsV.good (nm:=zsW) hq (by unfold doX;rw [if_neg (by decide),if_neg (by decide),if_neg (by decide),if_neg (by decide),if_neg (by decide),if_neg (by decide),if_neg (by decide),if_neg (by decide),if_neg (by decide),if_neg (by decide),if_neg (by decide),if_neg (by decide)]) (DkUp.same h.d hx);clear h;go_enter Tryz.func54,Tryz.ntmps54;go_wp2_with (go_at_call 18;refine hn0.mono ?_;rintro e w1 ⟨vo,rfl,hx1⟩);go_ret;exact hfin _ hx1
end Go.Proofs.YtiknejbcehpmoaaGreatDoor
