import Derived.Test.YtmcgnnmffeojpabGreatDoorPk7
import Derived.Test.YtmcgnnmffeojpabGreatDoorPk9
import Derived.Maps.AppendAt
import Derived.Maps.Range
import Derived.IntWalk
set_option maxRecDepth 100000
set_option maxHeartbeats 8000000
namespace Go.Proofs.YtmcgnnmffeojpabGreatDoor
open Go.RowKit Go.Plan
theorem zd6 {w:World} {D R:Nat} {m left:List (Out × Value)} (h:zaW Tryz.prog 86 encO w D R m left):w.rangeLeft D R = left.length:=by
 obtain ⟨es,clock,seen,h1,h2,h3,h4,h5⟩:=h.ex
 have:=congrArg List.length h5
 simp only [List.length_map,Array.length_toList] at this;simp only [World.rangeLeft,h1,h4];rw [<- this]
theorem znB:(Tryz.prog.info? 86).map (fun i=>(i.zero,i.size,i.bytes)) = some (some (encO ⟨0,⟨0,0,0⟩,⟨0,0,0⟩,false,false⟩),9,64):=by kernel_rfl
theorem zhH (W:World) (base nb c:Nat) (v:Value) (acc:List Out) (x:Out) (ty:TypeId) (hown:W.ownsRow base 86 9 v acc.length (acc.flatMap Out.cells))
 (hx:∀ j,j < 9 -> W.cell? ⟨nb,j,none⟩ = x.cells[j]?) (hl:acc.length < 1000000000) (hb:base <= W.heap.size) :
 ∃ v' w',(Builtin.append_ #[50,50] ty #[v,.slice (some ⟨nb,0,none⟩) 1 c]).run Tryz.prog W = .ok v' w' /\ w'.ownsRow base 86 9 v' (acc ++ [x]).length ((acc ++ [x]).flatMap Out.cells) /\ W.grownBy w' v.ownBlock /\
   (v'.ownBlock = v.ownBlock \/ v'.ownBlock = some W.heap.size):=by
 obtain ⟨i0,hi,hz0,hz1,hz2⟩:=info_parts znB;obtain ⟨v',w',h1,h2,h3,-,h5⟩:=run_append_own_at (P:=Tryz.prog) W base 50 ty 86 i0 (encO ⟨0,⟨0,0,0⟩,⟨0,0,0⟩,false,false⟩) 9 64 Tryz.underlying50 hi hz0 hz1 hz2 rfl (by decide) v acc.length _ hown ⟨nb,0,none⟩ 1 c x.cells rfl
  (fun j u hj=>by
    have hj':j < 9:=(List.getElem?_eq_some_iff.1 hj).1
    have:=hx j hj'
    rw [hj] at this;have e1:(⟨nb,0,none⟩:Addr).add j = ⟨nb,j,none⟩:=by unfold Addr.add;split <;> simp_all
    rw [e1];exact this) (zb0 x) (by unfold maxLen;omega) (by omega) hb
 refine ⟨v',w',h1,?_,h3,h5⟩;rw [List.flatMap_append,List.length_append];simpa using h2
def zh4 (w:World) (l:List Out) (e:Ending) (w':World):Prop :=
 ∃ p cap,e = .returned (.slice p l.length cap) /\ Ext w w' /\ (l = [] \/ ∃ b,p = some ⟨b,0,none⟩ /\ w.heap.size <= b /\ b < w'.heap.size /\ zbp w' b 0 l /\ OTag w' b)
theorem znP {w w1 w2:World} {N:Nat} (hN:w.heap.size = N) (h:Ext w w1) (hb:ExtB N w1 w2):Ext w w2 :=
 ⟨hb.os.trans h.os,hb.tape.trans h.tape,hb.output.trans h.output,Nat.le_trans h.size hb.size,fun k hk hn=>(hb.block k (Nat.lt_of_lt_of_le hk h.size) (fun e=>by have e':k = N:=e;omega)).trans (h.block k hk hn)⟩
theorem zme (B o d:Nat) (l:List Out) (w:World) (h:zaB w B o (some d) l) (hl:l.length < 1000000) :
 Calls Tryz.prog 61 #[.pointer (some ⟨B,o,none⟩)] w (zh4 w (sortO l)):=by
 obtain ⟨d',m,hd,hdB,hm,hcnt⟩:=h.mp.resolve_left (by rintro ⟨h,-⟩;cases h);obtain rfl:d = d':=Option.some.inj hd;have hdw:=hm.lt;have hperm:=hcnt.perm hm.nodup;obtain ⟨c0,c1,f0,f1⟩:=h.cells;obtain ⟨ob,hrun,hrg⟩:=hm.run_range Tryz.underlying102;clear h hd;go_enter Tryz.func61,Tryz.ntmps61;go_wp2_with fail;have x0:Ext w (w.alloc ob):=(ExtM.refl _).alloc _;have z0:w.heap.size < (w.alloc ob).heap.size:=by rw [World.size_alloc];omega
 clear hrun c0 c1 f0 f1;generalize w.alloc ob = w0 at *;generalize hN:w.heap.size = N at *;go_loopw [3] (fun v wr=>∃ (left:List (Out × Value)) (acc:List Out),zaW Tryz.prog 86 encO wr d N m left /\ wr.ownsRow (N + 1) 86 9 v acc.length (acc.flatMap Out.cells) /\ (acc ++ flat left).Perm (flat m) /\ Ext w wr /\ ∀ p ∈ left,p ∈ m) (fun _ wr=>wr.rangeLeft d N)
 case atStart=>exact ⟨m,[],hrg,⟨rfl,.inl ⟨rfl,rfl⟩⟩,by simp,x0,fun p hp=>hp⟩
 case round =>
  clear hrg x0 z0;obtain ⟨left,acc,hrg,hown,hp,hx,hsub⟩:=hrel;have hal:acc.length <= l.length:=by
   have h1:=hp.length_eq;rw [List.length_append,hperm.length_eq] at h1;omega
  rcases hrg.run_next 0 with ⟨rfl,hn⟩ | ⟨p,left',w1,hpm,hn,x1,z1,hrg1,hen⟩
  . have hpl:acc.Perm l:=by
     have:acc.Perm (flat m):=by rw [show flat [] = [] from rfl,List.append_nil] at hp;exact hp
     exact this.trans hperm
    have hso:sortO acc = sortO l:=zb6 hpl;have hsl:(sortO l).length = acc.length:=by rw [zaA];exact hpl.length_eq.symm
    rcases hown.2 with ⟨rfl,h0⟩ | ⟨g,cap,cur,rfl,hbase,hb,h1,h2,h3,h4⟩
    . go_wp2_with fail;refine (zeL none 0 wr).mono ?_;rintro e w' ⟨rfl,rfl⟩;go_wp2_with fail;go_ret;have hnil:sortO l = []:=List.eq_nil_of_length_eq_zero (by rw [hsl,h0]);rw [hnil];exact ⟨none,0,rfl,hx,.inl rfl⟩
    . have hOA:=zbp.of_own hown;have hgl:g < wr.heap.size:=(Array.getElem?_eq_some_iff.1 hb).1;go_wp2_with fail;refine (zkP g cap acc wr hOA hgl (by omega)).mono ?_;rintro e w' ⟨rfl,xs,hOA',htag⟩;go_wp2_with fail;go_ret;rw [hso] at hOA';refine ⟨some ⟨g,0,none⟩,cap,by rw [hsl];rfl,?_,.inr ⟨g,rfl,by omega,Nat.lt_of_lt_of_le hgl xs.size,hOA',htag ⟨cur,hb⟩⟩⟩;exact ⟨xs.os.trans hx.os,xs.tape.trans hx.tape,xs.output.trans hx.output,Nat.le_trans hx.size xs.size,fun k hk _=>(xs.block k (Nat.lt_of_lt_of_le hk hx.size) (fun e=>by have e':k = g:=e;omega)).trans (hx.block k hk id)⟩
  . obtain ⟨x,cv⟩:=p;have hmem:=hsub (x,cv) (hpm.mem_iff.2 (by simp));have hcv:=zcp hm.nodup hmem;rw [hcnt x] at hcv;obtain ⟨c,hc⟩:∃ c:Nat,l.count x = c:=⟨_,rfl⟩
    rw [hc] at hcv;have hcp:cv = .int .i64 (c:Int):=by
     split at hcv
     . cases hcv
     . exact (Option.some.inj hcv).symm
    have hcl:c <= l.length:=by rw [<- hc];exact List.count_le_length
    subst hcp;clear hcv;have HC:=Lib.hid hc;clear hc;have HL:=Lib.hid (zd6 hrg);have hll:left'.length < left.length:=by have:=hpm.length_eq;simp at this;omega
    have hflat:(flat left).Perm (List.replicate c x ++ flat left'):=by
     have h1:(flat left).Perm (flat ((x,.int .i64 (c:Int)) :: left')):=hpm.flatMap_right zlJ;have h2:flat ((x,.int .i64 (c:Int)) :: left') = List.replicate c x ++ flat left':=by simp [flat,zlJ]
     rw [h2] at h1;exact h1
    have hown1:w1.ownsRow (N + 1) 86 9 u3 acc.length (acc.flatMap Out.cells):=by
     refine hown.kept (row:=some N) ⟨x1.os,x1.tape,x1.output,x1.size,fun k hk hne=>x1.block k hk (fun e=>hne (by rw [e]))⟩ (.inr fun e=>?_);rcases hown.2 with ⟨rfl,h0⟩ | ⟨g,cap,cur,rfl,hbase,-⟩
     . cases e
     . simp [Value.ownBlock] at e;omega
    have hvb:u3.ownBlock ≠ some w1.heap.size:=by
     intro e;rcases hown1.2 with ⟨rfl,h0⟩ | ⟨g,cap,cur,rfl,hbase,hb,-⟩
     . cases e
     . have hgl:g < w1.heap.size:=(Array.getElem?_eq_some_iff.1 hb).1;simp [Value.ownBlock] at e;omega
    have hx1:Ext w w1:=znP hN hx x1;simp only [zbx] at hn hen;clear hown hx x1 z1;go_wp2_with fail;have bx:=BoxO.mk' w1 x 86;have hrg2:=hrg1.keep (w':=w1.alloc (.cells #[.int .i64 x.key,.int .i64 x.l.k,.int .i64 x.l.t,.int .i64 x.l.v,.int .i64 x.r.k,.int .i64 x.r.t,.int .i64 x.r.v,.bool x.hl,.bool x.hr] 86)) (zah hrg1.ltD) (zah hrg1.ltR);have hown2:=hown1.alloc (.cells #[.int .i64 x.key,.int .i64 x.l.k,.int .i64 x.l.t,.int .i64 x.l.v,.int .i64 x.r.k,.int .i64 x.r.t,.int .i64 x.r.v,.bool x.hl,.bool x.hr] 86);have hx2:=hx1.alloc (.cells #[.int .i64 x.key,.int .i64 x.l.k,.int .i64 x.l.t,.int .i64 x.l.v,.int .i64 x.r.k,.int .i64 x.r.t,.int .i64 x.r.v,.bool x.hl,.bool x.hr] 86);clear hn hen hrg hrg1 hown1 hx1;generalize w1.alloc (.cells #[.int .i64 x.key,.int .i64 x.l.k,.int .i64 x.l.t,.int .i64 x.l.v,.int .i64 x.r.k,.int .i64 x.r.t,.int .i64 x.r.v,.bool x.hl,.bool x.hr] 86) = w2 at *;generalize w1.heap.size = nb at *;go_loopw [3,17] (fun v i wr=>∃ j:Nat,j <= c /\ i = .int .i64 j /\ zaW Tryz.prog 86 encO wr d N m left' /\ wr.ownsRow (N + 1) 86 9 v (acc ++ List.replicate j x).length ((acc ++ List.replicate j x).flatMap Out.cells) /\ Ext w wr /\ BoxO wr nb x /\ v.ownBlock ≠ some nb) (fun _ i _=>c - (intOf i).toNat)
    case atStart=>exact ⟨0,Nat.zero_le _,rfl,hrg2,by simpa using hown2,hx2,bx,hvb⟩
    case round =>
     clear hrg2 hown2 hx2 bx hvb;obtain ⟨j,hj,rfl,hrg,hown,hx,bx,hvb⟩:=hrel;by_cases hjc:j < c
     . have hd:decide ((j:Int) < c) = true:=by simp;omega
       have bz:=BoxO.mk' wr x 86;have hlen:(acc ++ List.replicate j x).length < 1000000000:=by
        have h1:=hp.length_eq;rw [List.length_append,hflat.length_eq,hperm.length_eq,List.length_append,List.length_replicate] at h1;rw [List.length_append,List.length_replicate];omega
       obtain ⟨v',w',happ,hown',hgr,hloc⟩:=zhH (wr.alloc (.cells #[.int .i64 x.key,.int .i64 x.l.k,.int .i64 x.l.t,.int .i64 x.l.v,.int .i64 x.r.k,.int .i64 x.r.t,.int .i64 x.r.v,.bool x.hl,.bool x.hr] 86)) (N + 1) wr.heap.size 1 _ _ x 50 (hown.alloc _) bz.cells hlen (by have:=bx.lt;have:=hrg.ltR;rw [World.size_alloc];omega);have hbq:=bx.lt;have hRq:=hrg.ltR;have hDq:=hrg.ltD;have hv2:v'.ownBlock ≠ some nb:=by
        rcases hloc with h | h
        . rw [h];exact hvb
        . rw [h,World.size_alloc];intro e;have:=Option.some.inj e;omega
       have hkeep:∀ k,k < wr.heap.size -> some k ≠ u3.ownBlock -> w'.heap[k]? = wr.heap[k]?:=fun k hk hne=>(hgr.block k (by rw [World.size_alloc];omega) hne).trans (zah hk);have hvN:∀ k,k <= N -> some k ≠ u3.ownBlock:=by
        intro k hk e;rcases hown.2 with ⟨rfl,h0⟩ | ⟨g,cap,cur,rfl,hbase,-⟩
        . cases e
        . simp [Value.ownBlock] at e;omega
       have hrg':=hrg.keep (hkeep d hDq (hvN d (by omega))) (hkeep N hRq (hvN N (by omega)));have bx':=bx.keep (hkeep nb hbq (fun e=>hvb e.symm));have hx':Ext w w':=⟨hgr.os.trans hx.os,hgr.tape.trans hx.tape,hgr.output.trans hx.output,Nat.le_trans hx.size (by have:=hgr.size;rw [World.size_alloc] at this;omega),fun k hk _=>(hkeep k (Nat.lt_of_lt_of_le hk hx.size) (hvN k (by omega))).trans (hx.block k hk id)⟩
       have el:(acc ++ List.replicate j x) ++ [x] = acc ++ List.replicate (j + 1) x:=by rw [List.append_assoc,<- List.replicate_succ']
       rw [el] at hown';obtain ⟨e0,e1,e2,e3,e4,e5,e6,e7,e8⟩:=bx;clear bz hkeep hgr hloc hlen hp hflat hperm hcnt hal;go_wp2_with (at_builtin;refine wpList_append_run happ rfl rfl _ _ rfl rfl rfl ?_;clear happ);go_roundw
       case rel=>exact ⟨j + 1,by omega,by go_num,hrg',hown',hx',bx',hv2⟩
       case measure=>simp [intOf];omega
     . obtain rfl:j = c:=by omega
       have hd:decide ((j:Int) < j) = false:=by simp
       clear hjc;obtain ⟨e0,e1,e2,e3,e4,e5,e6,e7,e8⟩:=bx;go_wp2_with fail;go_roundw
       case rel =>
        refine ⟨left',acc ++ List.replicate j x,hrg,hown,?_,hx,fun p hp=>hsub p (hpm.mem_iff.2 (List.mem_cons_of_mem _ hp))⟩;rw [List.append_assoc];exact (List.Perm.append_left acc hflat.symm).trans hp
       case measure =>
        rw [zd6 hrg,HL.out];exact hll
theorem zjo (w:World):(Instr.range 102 (.map none)).run Tryz.prog w = .ok (.pointer (some ⟨w.heap.size,0,none⟩)) (w.alloc (.mapIter none 0 #[] 0)):=by
 simp [Instr.range,run_underlying Tryz.underlying102,newObj,Sem.run,Result.andThen]
theorem zl6 (w:World) (ty:TypeId):(Instr.next (.pointer (some ⟨w.heap.size,0,none⟩)) false ty).run Tryz.prog (w.alloc (.mapIter none 0 #[] 0)) = .ok (.tuple #[.bool false]) (w.alloc (.mapIter none 0 #[] 0)):=by
 have h:(w.alloc (.mapIter none 0 #[] 0)).heap[w.heap.size]? = some (.mapIter none 0 #[] 0):=heap_alloc_new _ _;simp only [Instr.next,getObj,Sem.run_bind,Sem.run,h,Result.andThen];rfl
theorem zkM (B o:Nat) (l:List Out) (w:World) (h:zaB w B o none l) :
 Calls Tryz.prog 61 #[.pointer (some ⟨B,o,none⟩)] w (zh4 w []):=by
 obtain ⟨c0,c1,f0,f1⟩:=h.cells;have hrun:=zjo;have hn:=zl6 w;go_enter Tryz.func61,Tryz.ntmps61;go_wp2_with fail;refine wp_loop_once ?_;go_wp2_with fail;refine (zeL none 0 _).mono ?_;rintro e w' ⟨rfl,rfl⟩;go_wp2_with fail;go_ret;exact ⟨none,0,rfl,(ExtM.refl _).alloc _,.inl rfl⟩
def Grew (w:World) (D D':Option Nat):Prop:=D' = D \/ (D = none /\ ∃ d,D' = some d /\ w.heap.size <= d)
theorem zp7 (B o:Nat) (D:Option Nat) (l:List Out) (x:Out) (w:World) (h:zaB w B o D l) (hx:x ∈ l) (hl:l.length < 1000000000) :
 Calls Tryz.prog 96 #[.pointer (some ⟨B,o,none⟩),encC x true] w fun e w'=>e = .returned .nilIface /\ ExtM (bagM B D) w w' /\ zaB w' B o D (l.erase x):=by
 have hok:=h.ok x hx;cases D with
 | some d =>
   have h0:0 < l.count x:=List.count_pos_iff.2 hx;rcases Nat.lt_or_ge 1 (l.count x) with h1 | h1
   . exact zlI B o d l x w h hok hl h1
   . exact zm3 B o d l x w h hok hl (by omega)
 | none =>
   rcases h.mp with ⟨-,rfl⟩ | ⟨d,m,h1,-⟩
   . cases hx
   . cases h1
theorem znV (B o:Nat) (D:Option Nat) (l:List Out) (x:Out) (w:World) (h:zaB w B o D l) (hx:x.ok) (hl:l.length < 1000000000) :
 Calls Tryz.prog 96 #[.pointer (some ⟨B,o,none⟩),encC x false] w fun e w'=>e = .returned .nilIface /\ ∃ D',Grew w D D' /\ ExtM (bagM B D) w w' /\ zaB w' B o D' (x :: l) /\ zaL B o w w':=by
 cases D with
 | some d=>exact (zl3 B o d l x w h hx hl).mono fun e w' hh=>⟨hh.1,some d,.inl rfl,hh.2.1,hh.2.2.1,hh.2.2.2⟩
 | none =>
   obtain rfl:l = []:=by
    rcases h.mp with ⟨-,h⟩ | ⟨d,m,h1,-⟩
    . exact h
    . cases h1
   exact (zfZ B o x w h hx).mono fun e w' ⟨h1,d,h2,h3,h4,h5⟩=>⟨h1,some d,.inr ⟨rfl,d,rfl,h2⟩,h3,h4,h5⟩
theorem zmj (B o:Nat) (D:Option Nat) (l:List Out) (x:Out) (w:World) (h:zaB w B o D l) (hx:x ∈ l) (hl:l.length < 1000000000) :
 Calls Tryz.prog 96 #[.pointer (some ⟨B,o,none⟩),encC x true] w fun e w'=>e = .returned .nilIface /\ ExtM (bagM B D) w w' /\ zaB w' B o D (l.erase x) /\ zaL B o w w':=by
 have hok:=h.ok x hx;cases D with
 | some d =>
   have h0:0 < l.count x:=List.count_pos_iff.2 hx;rcases Nat.lt_or_ge 1 (l.count x) with h1 | h1
   . exact zg6 B o d l x w h hok hl h1
   . exact zgK B o d l x w h hok hl (by omega)
 | none =>
   rcases h.mp with ⟨-,rfl⟩ | ⟨d,m,h1,-⟩
   . cases hx
   . cases h1
theorem zrS (B o:Nat) (D:Option Nat) (l:List Out) (x:Out) (w:World) (h:zaB w B o D l) (hok:x.ok) (hx:x ∉ l) :
 Calls Tryz.prog 96 #[.pointer (some ⟨B,o,none⟩),encC x true] w fun e w'=>e = .returned (.iface 24 (.int .i64 8)) /\ Ext w w':=by
 cases D with
 | some d=>exact zqO B o d l x w h hok (List.count_eq_zero.2 hx)
 | none=>exact zqM B o l x w h hok
theorem zpk (B o:Nat) (D:Option Nat) (l:List Out) (w:World) (h:zaB w B o D l) (hl:l.length < 1000000) :
 Calls Tryz.prog 61 #[.pointer (some ⟨B,o,none⟩)] w (zh4 w (sortO l)):=by
 cases D with
 | some d=>exact zme B o d l w h hl
 | none =>
   obtain rfl:l = []:=by
    rcases h.mp with ⟨-,h⟩ | ⟨d,m,h1,-⟩
    . exact h
    . cases h1
   have e:sortO [] = []:=List.eq_nil_of_length_eq_zero (by rw [zaA];rfl);rw [e];exact zkM B o [] w h
theorem zaB.foot {w:World} {B o:Nat} {D:Option Nat} {l:List Out} (h:zaB w B o D l) (k:Nat) (hk:bagM B D k):k < w.heap.size:=by
 rcases hk with rfl | hk
 . exact h.ltB
 . rcases h.mp with ⟨h1,-⟩ | ⟨d,m,h1,-,h3,-⟩
   . rw [h1] at hk;cases hk
   . rw [h1] at hk;obtain rfl:=Option.some.inj hk;exact h3.lt
def zrr (N B:Nat) (D:Option Nat):Prop:=∀ k,bagM B D k -> N <= k
def zre (A:Nat) (DA:Option Nat) (B:Nat) (DB:Option Nat):Prop:=∀ k,bagM A DA k -> ¬ bagM B DB k
theorem zre.symm {A B:Nat} {DA DB:Option Nat} (h:zre A DA B DB):zre B DB A DA:=fun k h1 h2=>h k h2 h1
theorem zrr.ext {w0 w w':World} {A N:Nat} {DA:Option Nat} (hF:zrr N A DA) (hN:w0.heap.size <= N) (hx:Ext w0 w) (hM:ExtM (bagM A DA) w w'):Ext w0 w' :=
 ⟨hM.os.trans hx.os,hM.tape.trans hx.tape,hM.output.trans hx.output,Nat.le_trans hx.size hM.size,fun k hk hn =>
  (hM.block k (Nat.lt_of_lt_of_le hk hx.size) (fun h=>by have:=hF k h;omega)).trans (hx.block k hk hn)⟩
theorem zaB.other {w w':World} {A B o:Nat} {DA DB:Option Nat} {q:List Out} (h:zaB w B o DB q) (hM:ExtM (bagM A DA) w w') (hA:zre A DA B DB):zaB w' B o DB q :=
 h.of hM (fun e=>hA B e (.inl rfl)) (fun d hd e=>hA d e (.inr hd))
def zmW (t:Int) (n:Nat):Nat:=((t % 18446744073709551616) % (n:Int)).toNat
structure Two (w wr:World) (A:Nat) (p q:List Out):Prop where
 ex:∃ DA DB,zaB wr A 0 DA p /\ zaB wr (A + 1) 0 DB q /\ zrr A A DA /\ zrr A (A + 1) DB /\ zre A DA (A + 1) DB
 ext:Ext w wr
 low:w.heap.size <= A
theorem Two.of {w wr w':World} {A:Nat} {p q:List Out} (h:Two w wr A p q) (hx:Ext wr w'):Two w w' A p q:=by
 obtain ⟨⟨DA,DB,h1,h2,h3⟩,h4,h5⟩:=h;exact ⟨⟨DA,DB,h1.of hx id (fun _ _=>id),h2.of hx id (fun _ _=>id),h3⟩,ExtM.trans _ _ _ h4 hx,h5⟩
theorem Two.size {w wr:World} {A:Nat} {p q:List Out} (h:Two w wr A p q):A + 1 < wr.heap.size:=by
 obtain ⟨⟨DA,DB,h1,h2,h3⟩,h4,h5⟩:=h;exact h2.ltB
end Go.Proofs.YtmcgnnmffeojpabGreatDoor
