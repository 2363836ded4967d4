import Derived.Test.YtiknejbcehpmoaaGreatDoorPk22
import Derived.Test.YtiknejbcehpmoaaGreatDoorPk32
import Derived.Test.YtiknejbcehpmoaaGreatDoorPk33
import Derived.Sort.WalkB3
import Derived.Sort.WalkA6
import Derived.Sort.WalkC4
import Derived.Sort.Walk11
import Derived.Shelf.GgSortFunc.LotD
import Derived.Shelf.GgSortFunc.Whole
import Derived.Ground.GgsProg
import Derived.Sort.Walk7
import Derived.Shelf.SlSortFunc.Xorshift
import Derived.Sort.Walk13
import Derived.Shelf.GgSortFunc.Tiny
set_option maxRecDepth 100000
set_option maxHeartbeats 8000000
namespace Go.Proofs.YtiknejbcehpmoaaGreatDoor
open Go.RowKit Go.Plan
structure RHd where
 r:Row
 m:Int
 c:Int
def RHd.hd (x:RHd):Hd:=⟨x.r,x.m⟩
def ltR (a b:RHd):Prop:=a.r.k < b.r.k \/ (a.r.k = b.r.k /\ (a.r.t < b.r.t \/ (a.r.t = b.r.t /\ a.c < b.c)))
structure RelS (hs:List Hd) (S L:List RHd) (came:Int):Prop where
 perm:S.Perm L
 srt:S.Pairwise ltR
 eq:hs = S.map RHd.hd
 lt:∀ x ∈ L,x.c <= came
theorem RelS.len {hs:List Hd} {S L:List RHd} {came:Int} (h:RelS hs S L came):hs.length = L.length:=by
 rw [h.eq,List.length_map,h.perm.length_eq]
theorem RelS.nil (came:Int):RelS [] [] [] came:=⟨List.Perm.refl _,List.Pairwise.nil,rfl,fun x hx=>by cases hx⟩
theorem RelS.sorted {hs:List Hd} {S L:List RHd} {came:Int} (h:RelS hs S L came):zaD hs:=by
 unfold zaD;rw [h.eq,List.pairwise_map];refine h.srt.imp ?_;intro a b hab;unfold ltR at hab;unfold leKT RHd.hd;simp only;omega
theorem RelS.add {hs:List Hd} {S L:List RHd} {came:Int} (h:RelS hs S L came) (r:Row) (m:Int):∃ S',RelS (addH hs ⟨r,m⟩) S' (L ++ [⟨r,m,came + 1⟩]) (came + 1):=by
 obtain ⟨h1,h2⟩:=zcT h.sorted r.k (r.t + 1);have hn:=zdJ r.k (r.t + 1) hs;unfold addH insH;simp only;generalize fromN r.k (r.t + 1) hs = n at *;rw [h.eq,<- List.map_take] at h1;rw [h.eq,<- List.map_drop] at h2;have hp:(S.take n ++ S.drop n).Pairwise ltR:=by rw [List.take_append_drop];exact h.srt
 obtain ⟨p1,p2,p3⟩:=List.pairwise_append.1 hp;have hc:∀ a ∈ S,a.c <= came:=fun a ha=>h.lt a (h.perm.subset ha);refine ⟨S.take n ++ ⟨r,m,came + 1⟩ :: S.drop n,?_,?_,?_,?_⟩
 . refine List.Perm.trans List.perm_middle ?_;rw [List.take_append_drop];exact (List.Perm.cons _ h.perm).trans (by simpa using (List.perm_append_comm (l₁:=[(⟨r,m,came + 1⟩:RHd)]) (l₂:=L)))
 . refine List.pairwise_append.2 ⟨p1,List.pairwise_cons.2 ⟨fun a ha=>?_,p2⟩,fun a ha b hb=>?_⟩
   . have h3:=h2 a.hd (List.mem_map.2 ⟨a,ha,rfl⟩);have h4:¬ (za2 r.k (r.t + 1) a.hd = true):=by rw [h3];decide
     rw [zaN] at h4;unfold RHd.hd at h4;unfold ltR;simp only at h4 ⊢;omega
   . rcases List.mem_cons.1 hb with rfl | hb
     . have h3:=h1 a.hd (List.mem_map.2 ⟨a,ha,rfl⟩);rw [zaN] at h3;have h4:=hc a (List.mem_of_mem_take ha);unfold RHd.hd at h3;unfold ltR;simp only at h3 ⊢;omega
     . exact p3 a ha b hb
 . rw [h.eq,List.map_append,List.map_cons,List.map_take,List.map_drop];rfl
 . intro x hx;rcases List.mem_append.1 hx with hx | hx
   . have:=h.lt x hx;omega
   . rw [List.mem_singleton.1 hx];exact Int.le_refl _
theorem RelS.map {hs:List Hd} {S L:List RHd} {came:Int} (h:RelS hs S L came) (f:Hd -> Hd) (g:RHd -> RHd) (hg:∀ x,(g x).r = x.r /\ (g x).c = x.c /\ (g x).hd = f x.hd):RelS (hs.map f) (S.map g) (L.map g) came:=by
 refine ⟨h.perm.map g,?_,?_,?_⟩
 . rw [List.pairwise_map];refine h.srt.imp ?_;intro a b hab;unfold ltR at *;rw [(hg a).1,(hg b).1,(hg a).2.1,(hg b).2.1];exact hab
 . rw [h.eq,List.map_map,List.map_map];exact List.map_congr_left (fun a _=>(hg a).2.2.symm)
 . intro x hx;obtain ⟨y,hy,rfl⟩:=List.mem_map.1 hx;rw [(hg y).2.1];exact h.lt y hy
theorem RelS.filter {hs:List Hd} {S L:List RHd} {came:Int} (h:RelS hs S L came) (p:Hd -> Bool):RelS (hs.filter p) (S.filter (fun x=>p x.hd)) (L.filter (fun x=>p x.hd)) came:=by
 refine ⟨h.perm.filter _,h.srt.sublist List.filter_sublist,?_,fun x hx=>h.lt x (List.mem_filter.1 hx).1⟩;rw [h.eq,List.filter_map];rfl
def RHd.cells (x:RHd):List Value:=[.int .i64 x.r.k,.int .i64 x.r.t,.int .i64 x.r.v,.int .i64 x.m,.int .i64 x.c]
def JRow (w:World) (base:Nat) (v:Value) (l:List RHd):Prop:=w.ownsRow base 136 5 v l.length (l.flatMap RHd.cells)
theorem JRow.ext {w w':World} {b:Nat} {v:Value} {hs:List RHd} {M:Nat -> Prop} (h:JRow w b v hs) (hx:ExtM M w w') (hM:∀ k,v.ownBlock = some k -> ¬ M k):JRow w' b v hs:=zag h hx hM
theorem JRow.extF {w w':World} {b:Nat} {v:Value} {hs:List RHd} (h:JRow w b v hs) (hx:Ext w w'):JRow w' b v hs:=zag h hx (fun _ _ h=>h)
structure RJ (w:World) (J s:Nat) (v:Value) (L:List RHd) (came:Int):Prop where
 hs:s < 2
 c3:w.cell? ⟨J,3 + s,none⟩ = some v
 c8:w.cell? ⟨J,8,none⟩ = some (.int .i64 came)
 f3:∀ o,w.frozen? ⟨J,o,none⟩ = false
 row:JRow w 0 v L
 own:v.ownBlock ≠ some J
def putL (L:List RHd) (x:Hd) (came:Int):List RHd:=if addE (L.map RHd.hd) x = 0 then L ++ [⟨x.r,x.m,came + 1⟩] else L
def putN (L:List RHd) (x:Hd) (came:Int):Int:=if addE (L.map RHd.hd) x = 0 then came + 1 else came
theorem RJ.lt {w:World} {J s:Nat} {v:Value} {L:List RHd} {came:Int} (h:RJ w J s v L came):J < w.heap.size:=by
 have:=h.c8
 unfold World.cell? at this;split at this
 . rename_i hb;exact (Array.getElem?_eq_some_iff.1 hb).1
 . cases this
theorem RJ.ext {w w':World} {J s:Nat} {v:Value} {L:List RHd} {came:Int} (h:RJ w J s v L came) (hx:Ext w w'):RJ w' J s v L came :=
 ⟨h.hs,(hx.cell (p:=⟨J,_,none⟩) h.lt id).trans h.c3,(hx.cell (p:=⟨J,_,none⟩) h.lt id).trans h.c8,fun o=>(hx.frozen (p:=⟨J,o,none⟩) h.lt id).trans (h.f3 o),h.row.extF hx,h.own⟩
theorem JRow.slice {w:World} {b:Nat} {v:Value} {L:List RHd} (h:JRow w b v L):∃ p cap,v = .slice p L.length cap:=by
 obtain ⟨p,cap,e,-⟩:=zaa h;exact ⟨p,cap,e⟩
open Go.RowKit Go.Plan Go.Sort
variable {α:Type} [Inhabited α]
variable {α:Type} [Inhabited α]
variable {α:Type} [Inhabited α]
variable {α:Type} [Inhabited α]
variable {α:Type} [Inhabited α]
def CtrC {α:Type} (H:Array α -> World -> Prop) (blk c:Nat) (s:Nat) (W:World):Prop:=W.cell? ⟨c,0,none⟩ = some (.int .i64 s) /\ W.frozen? ⟨c,0,none⟩ = false /\ c < W.heap.size /\ c ≠ blk /\ ∀ d u u',H d u -> ExtM (fun k=>k = c) u u' -> H d u'
theorem CtrC.ext {β:Type} {H:Array β -> World -> Prop} {blk c s:Nat} {W W':World} (h:CtrC H blk c s W) (hx:Ext W W'):CtrC H blk c s W' :=
 ⟨(hx.cell (p:=⟨c,0,none⟩) h.2.2.1 (fun h=>h)).trans h.1,(hx.frozen (p:=⟨c,0,none⟩) h.2.2.1 (fun h=>h)).trans h.2.1,Nat.lt_of_lt_of_le h.2.2.1 hx.size,h.2.2.2⟩
variable {α:Type} [Inhabited α]
end Go.Proofs.YtiknejbcehpmoaaGreatDoor
namespace Go.Proofs
open Go.Shelf
end Go.Proofs
namespace Go.Proofs.YtiknejbcehpmoaaGreatDoor
open Go.RowKit Go.Plan Go.Sort
variable {α:Type} [Inhabited α]
variable {α:Type} [Inhabited α]
instance:Inhabited RHd:=⟨⟨⟨0,0,0⟩,0,0⟩⟩
open Go.RowKit Go.Plan
theorem RJ.extM {M:Nat -> Prop} {w w':World} {J s:Nat} {v:Value} {L:List RHd} {came:Int} (h:RJ w J s v L came) (hx:ExtM M w w') (hJ:¬ M J) (hr:∀ k,v.ownBlock = some k -> ¬ M k):RJ w' J s v L came :=
 ⟨h.hs,(hx.cell (p:=⟨J,_,none⟩) h.lt hJ).trans h.c3,(hx.cell (p:=⟨J,_,none⟩) h.lt hJ).trans h.c8,fun o=>(hx.frozen (p:=⟨J,o,none⟩) h.lt hJ).trans (h.f3 o),h.row.ext hx hr,h.own⟩
structure SPx (w u:World) (A J:Nat) (Av:Nat -> Prop) (v r:Value) (hs:List Hd) (L:List RHd) (came:Int):Prop where
 ext:Ext w u
 nA:w.heap.size <= A
 nJ:w.heap.size <= J
 ne:A ≠ J
 side:zaz u A 0 v hs
 ref:RJ u J 0 r L came
 hv:∀ k,v.ownBlock = some k -> w.heap.size <= k /\ k ≠ J /\ r.ownBlock ≠ some k /\ ¬ Av k
 hr:∀ k,r.ownBlock = some k -> w.heap.size <= k /\ k ≠ A /\ ¬ Av k
 av:∀ b,Av b -> b < u.heap.size /\ b ≠ A /\ b ≠ J
def SP0 (w u:World) (A J:Nat) (Av:Nat -> Prop) (hs:List Hd) (L:List RHd) (came:Int):Prop:=∃ v r,SPx w u A J Av v r hs L came
section
variable {w u u':World} {A J:Nat} {Av:Nat -> Prop} {v r:Value} {hs:List Hd} {L:List RHd} {came:Int}
theorem SPx.of (h:SPx w u A J Av v r hs L came) (hx:Ext u u'):SPx w u' A J Av v r hs L came :=
 ⟨ExtM.trans _ _ _ h.ext hx,h.nA,h.nJ,h.ne,h.side.ext hx,h.ref.ext hx,h.hv,h.hr,fun b hb=>⟨Nat.lt_of_lt_of_le (h.av b hb).1 hx.size,(h.av b hb).2⟩⟩
theorem SP0.of (h:SP0 w u A J Av hs L came) (hx:Ext u u'):SP0 w u' A J Av hs L came:=by
 obtain ⟨v,r,h⟩:=h;exact ⟨v,r,h.of hx⟩
theorem SP0.ext (h:SP0 w u A J Av hs L came):Ext w u:=by
 obtain ⟨v,r,h⟩:=h;exact h.ext
end
theorem zpZ {hs:List Hd} {L:List RHd} {came:Int} (h:∃ S,RelS hs S L came) (x:Hd):∃ S,RelS (addL hs x) S (putL L x came) (putN L x came):=by
 obtain ⟨S,h⟩:=h;have hl:addE (L.map RHd.hd) x = addE hs x:=by unfold addE;rw [List.length_map,h.len]
 unfold addL putL putN;rw [hl];by_cases he:addE hs x = 0
 . rw [if_pos he,if_pos he,if_pos he];exact h.add x.r x.m
 . rw [if_neg he,if_neg he,if_neg he];exact ⟨S,h⟩
structure RSt where
 a:List RHd
 b:List RHd
 x:Int
 y:Int
 late:Int
 came:Int
def RSt.of (st:RSt) (s:Nat):List RHd:=if s = 0 then st.a else st.b
def RSt.at (st:RSt) (s:Nat):Int:=if s = 0 then st.x else st.y
def RSt.put (st:RSt) (s:Nat) (l:List RHd):RSt:=if s = 0 then { st with a:=l } else { st with b:=l }
structure RelJ (j:JSt) (r:RSt):Prop where
 a:∃ S,RelS j.a S r.a r.came
 b:∃ S,RelS j.b S r.b r.came
 x:j.x = r.x
 y:j.y = r.y
 late:j.late = r.late
theorem RelJ.of {j:JSt} {r:RSt} (h:RelJ j r) (s:Nat):∃ S,RelS (j.of s) S (r.of s) r.came:=by
 unfold JSt.of RSt.of;split
 . exact h.a
 . exact h.b
theorem RelS.later {hs:List Hd} {S L:List RHd} {came came':Int} (h:RelS hs S L came) (hc:came <= came'):RelS hs S L came' :=
 ⟨h.perm,h.srt,h.eq,fun x hx=>Int.le_trans (h.lt x hx) hc⟩
def zsN (p:Hd -> Bool) (x:RHd):RHd:=if p x.hd then ⟨x.r,wrap64 (x.m + 1),x.c⟩ else x
theorem zfw (p:Hd -> Bool) (x:RHd):(zsN p x).r = x.r /\ (zsN p x).c = x.c /\ (zsN p x).hd = zao p x.hd:=by
 unfold zsN zao;split <;> exact ⟨rfl,rfl,rfl⟩
def za4 (lo hi:Int) (s:Nat) (r:Row) (st:RSt):RSt :=
 let e:=feedE lo hi s r st.x st.y (st.of s).length
 if e = 10 then { st with late:=wrap64 (st.late + 1) }
 else if e = 0 then
  let p:=zab r.k (frI lo hi s r.t) (tilI lo hi s r.t)
  let st1:=st.put (1 - s) ((st.of (1 - s)).map (zsN p))
  if tilI lo hi s r.t > st.at (1 - s) then { st1.put s (st1.of s ++ [⟨r,(((st.of (1 - s)).filter (fun x=>p x.hd)).length:Nat),st.came + 1⟩]) with came:=st.came + 1 } else st1
 else st
theorem RelS.len_filter {hs:List Hd} {S L:List RHd} {came:Int} (h:RelS hs S L came) (p:Hd -> Bool):(hs.filter p).length = (L.filter (fun x=>p x.hd)).length:=(h.filter p).len
theorem RelJ.len {j:JSt} {r:RSt} (h:RelJ j r) (s:Nat):(j.of s).length = (r.of s).length:=by
 obtain ⟨S,hS⟩:=h.of s;exact hS.len
theorem zgv {j:JSt} {r:RSt} (h:RelJ j r) (lo hi:Int) (s:Nat) (hs:s < 2) (x:Row):RelJ (zam lo hi s x j) (za4 lo hi s x r):=by
 have hl:=h.len s;unfold zam za4;simp only [hl,h.x,h.y];generalize feedE lo hi s x r.x r.y (r.of s).length = e;by_cases h10:e = 10
 . rw [if_pos h10,if_pos h10];exact ⟨h.a,h.b,by first | rfl | exact h.x,by first | rfl | exact h.y,by show wrap64 _ = wrap64 _;rw [h.late]⟩
 rw [if_neg h10,if_neg h10];by_cases h0:e = 0
 . rw [if_pos h0,if_pos h0];have hs':s = 0 \/ s = 1:=by omega
   generalize hp:zab x.k (frI lo hi s x.t) (tilI lo hi s x.t) = p;obtain ⟨A,hA⟩:=h.a;obtain ⟨B,hB⟩:=h.b;have mA:=hA.map (zao p) (zsN p) (zfw p);have mB:=hB.map (zao p) (zsN p) (zfw p);rcases hs' with rfl | rfl
   . have e1:j.at (1 - 0) = r.at (1 - 0):=h.y;rw [e1];by_cases hh:tilI lo hi 0 x.t > r.at (1 - 0)
     . rw [if_pos hh,if_pos hh];have e2:((j.of (1 - 0)).filter p).length = ((r.of (1 - 0)).filter (fun x=>p x.hd)).length:=hB.len_filter p;rw [e2];exact ⟨hA.add _ _,⟨_,mB.later (by show r.came <= r.came + 1;omega)⟩,by first | rfl | exact h.x,by first | rfl | exact h.y,h.late⟩
     . rw [if_neg hh,if_neg hh];exact ⟨⟨_,hA⟩,⟨_,mB⟩,by first | rfl | exact h.x,by first | rfl | exact h.y,h.late⟩
   . have e1:j.at (1 - 1) = r.at (1 - 1):=h.x;rw [e1];by_cases hh:tilI lo hi 1 x.t > r.at (1 - 1)
     . rw [if_pos hh,if_pos hh];have e2:((j.of (1 - 1)).filter p).length = ((r.of (1 - 1)).filter (fun x=>p x.hd)).length:=hA.len_filter p;rw [e2];exact ⟨⟨_,mA.later (by show r.came <= r.came + 1;omega)⟩,hB.add _ _,by first | rfl | exact h.x,by first | rfl | exact h.y,h.late⟩
     . rw [if_neg hh,if_neg hh];exact ⟨⟨_,mA⟩,⟨_,hB⟩,by first | rfl | exact h.x,by first | rfl | exact h.y,h.late⟩
 . rw [if_neg h0,if_neg h0];exact h
def zrm (s:Nat) (x:Hd) (st:RSt):RSt:={ st.put s (putL (st.of s) x st.came) with came:=putN (st.of s) x st.came }
theorem zql {L:List RHd} {x:Hd} {came:Int}:came <= putN L x came /\ putN L x came <= came + 1:=by
 unfold putN;split <;> omega
theorem zq4 {j:JSt} {r:RSt} (h:RelJ j r) (s:Nat) (hs:s < 2) (x:Hd):RelJ (putJ s x j) (zrm s x r) /\ addE ((r.of s).map RHd.hd) x = addE (j.of s) x:=by
 have hs':s = 0 \/ s = 1:=by omega
 refine ⟨?_,by unfold addE;rw [List.length_map,h.len]⟩;rcases hs' with rfl | rfl
 . exact ⟨zpZ h.a x,let ⟨S,hS⟩:=h.b;⟨S,hS.later zql.1⟩,h.x,h.y,h.late⟩
 . exact ⟨let ⟨S,hS⟩:=h.a;⟨S,hS.later zql.1⟩,zpZ h.b x,h.x,h.y,h.late⟩
def zbS (lo hi:Int) (s:Nat) (t:Int) (st:RSt):RSt :=
 if s = 0 then { st with x:=t,b:=st.b.filter (fun h=>decide (tilI lo hi 1 h.r.t > t)) } else { st with y:=t,a:=st.a.filter (fun h=>decide (tilI lo hi 0 h.r.t > t)) }
theorem zkY {j:JSt} {r:RSt} (h:RelJ j r) (lo hi:Int) (s:Nat) (t:Int):RelJ (zbr lo hi s t j) (zbS lo hi s t r):=by
 unfold zbr zbS;obtain ⟨A,hA⟩:=h.a;obtain ⟨B,hB⟩:=h.b;split
 . exact ⟨⟨_,hA⟩,⟨_,hB.filter (fun h=>decide (tilI lo hi 1 h.r.t > t))⟩,rfl,h.y,h.late⟩
 . exact ⟨⟨_,hA.filter (fun h=>decide (tilI lo hi 0 h.r.t > t))⟩,⟨_,hB⟩,h.x,rfl,h.late⟩
structure RIs (u:World) (J:Nat) (r0 r1:Value) (lo hi md:Int) (st:RSt):Prop where
 c0:u.cell? ⟨J,0,none⟩ = some (.int .i64 lo)
 c1:u.cell? ⟨J,1,none⟩ = some (.int .i64 hi)
 c2:u.cell? ⟨J,2,none⟩ = some (.int .i64 md)
 j0:RJ u J 0 r0 st.a st.came
 j1:RJ u J 1 r1 st.b st.came
 c5:u.cell? ⟨J,5,none⟩ = some (.int .i64 st.x)
 c6:u.cell? ⟨J,6,none⟩ = some (.int .i64 st.y)
 c7:u.cell? ⟨J,7,none⟩ = some (.int .i64 st.late)
 sep:∀ k,r0.ownBlock = some k -> r1.ownBlock ≠ some k
section
variable {u u':World} {J:Nat} {r0 r1:Value} {lo hi md:Int} {st:RSt}
theorem RIs.lt (h:RIs u J r0 r1 lo hi md st):J < u.heap.size:=zaG h.c0
theorem RIs.fz (h:RIs u J r0 r1 lo hi md st) (o:Nat):u.frozen? ⟨J,o,none⟩ = false:=h.j0.f3 o
theorem RIs.extM {F:Nat -> Prop} (h:RIs u J r0 r1 lo hi md st) (hx:ExtM F u u') (hJ:¬ F J) (h0:∀ k,r0.ownBlock = some k -> ¬ F k) (h1:∀ k,r1.ownBlock = some k -> ¬ F k):RIs u' J r0 r1 lo hi md st:=by
 have k:=fun o=>hx.cell (p:=⟨J,o,none⟩) h.lt hJ;exact ⟨(k _).trans h.c0,(k _).trans h.c1,(k _).trans h.c2,h.j0.extM hx hJ h0,h.j1.extM hx hJ h1,(k _).trans h.c5,(k _).trans h.c6,(k _).trans h.c7,h.sep⟩
theorem RIs.ext (h:RIs u J r0 r1 lo hi md st) (hx:Ext u u'):RIs u' J r0 r1 lo hi md st:=h.extM hx id (fun _ _=>id) (fun _ _=>id)
end
def zaO (J:Nat) (r0 r1:Value) (k:Nat):Prop:=k = J \/ r0.ownBlock = some k \/ r1.ownBlock = some k
theorem RIs.foot {u:World} {J:Nat} {r0 r1:Value} {lo hi md:Int} {st:RSt} (h:RIs u J r0 r1 lo hi md st) (k:Nat) (hk:zaO J r0 r1 k):k < u.heap.size:=by
 rcases hk with rfl | hk | hk
 . exact h.lt
 . exact (zaf h.j0.row k hk).2
 . exact (zaf h.j1.row k hk).2
def RAt (u:World) (J:Nat) (Cs:Nat -> Prop) (lo hi md:Int) (st:RSt):Prop:=∃ r0 r1,RIs u J r0 r1 lo hi md st /\ Cs = zaO J r0 r1
def RUp (u u':World) (J:Nat) (Cs:Nat -> Prop) (lo hi md:Int) (st':RSt):Prop :=
 ExtM Cs u u' /\ ∃ Cs',RAt u' J Cs' lo hi md st' /\ ∀ k,Cs' k -> Cs k \/ u.heap.size <= k
theorem RAt.lt {u:World} {J:Nat} {Cs:Nat -> Prop} {lo hi md:Int} {st:RSt} (h:RAt u J Cs lo hi md st) (k:Nat) (hk:Cs k):k < u.heap.size:=by
 obtain ⟨v0,v1,h,rfl⟩:=h;exact h.foot k hk
theorem RAt.keep {F:Nat -> Prop} {u u':World} {J:Nat} {Cs:Nat -> Prop} {lo hi md:Int} {st:RSt} (h:RAt u J Cs lo hi md st) (hx:ExtM F u u') (hd:∀ k,Cs k -> ¬ F k):RAt u' J Cs lo hi md st:=by
 obtain ⟨v0,v1,h,rfl⟩:=h;exact ⟨v0,v1,h.extM hx (hd _ (.inl rfl)) (fun k hk=>hd k (.inr (.inl hk))) (fun k hk=>hd k (.inr (.inr hk))),rfl⟩
theorem RAt.ext {u u':World} {J:Nat} {Cs:Nat -> Prop} {lo hi md:Int} {st:RSt} (h:RAt u J Cs lo hi md st) (hx:Ext u u'):RAt u' J Cs lo hi md st:=h.keep hx (fun _ _=>id)
theorem RUp.trans {u u1 u2:World} {J:Nat} {Cs:Nat -> Prop} {lo hi md:Int} {st2:RSt} (h:ExtM Cs u u1) {Cs1:Nat -> Prop} (hB:∀ k,Cs1 k -> Cs k \/ u.heap.size <= k) (h2:RUp u1 u2 J Cs1 lo hi md st2):RUp u u2 J Cs lo hi md st2:=by
 obtain ⟨hx,Cs2,ha,hb⟩:=h2;have hs:=h.size;refine ⟨h.fresh' hx (fun k hk e=>(hB k e).resolve_right (by omega)),Cs2,ha,fun k hk=>?_⟩;rcases hb k hk with e | e
 . exact hB k e
 . exact .inr (by omega)
theorem RJ.other {u u':World} {J:Nat} {s:Nat} {v:Value} {L:List RHd} {came came':Int} (h:RJ u J s v L came) (hx:ExtM (fun k=>k = J) u u') (hc:u'.cell? ⟨J,3 + s,none⟩ = u.cell? ⟨J,3 + s,none⟩) (h8:u'.cell? ⟨J,8,none⟩ = some (.int .i64 came')) (hf:∀ o,u'.frozen? ⟨J,o,none⟩ = false):RJ u' J s v L came' :=
 ⟨h.hs,hc.trans h.c3,h8,hf,h.row.ext hx (fun _ hk e=>h.own (e ▸ hk)),h.own⟩
def RSt.setB (st:RSt) (L:List RHd):RSt:={ st with b:=L }
theorem RIs.late {u:World} {J:Nat} {r0 r1:Value} {lo hi md:Int} {st:RSt} (h:RIs u J r0 r1 lo hi md st) (x:Int):RIs (u.setCell ⟨J,7,none⟩ (.int .i64 x)) J r0 r1 lo hi md { st with late:=x } /\ ExtM (fun k=>k = J) u (u.setCell ⟨J,7,none⟩ (.int .i64 x)):=by
 have hx:ExtM (fun k=>k = J) u (u.setCell ⟨J,7,none⟩ (.int .i64 x)):=ExtM.setCell (M:=fun k=>k = J) (ExtM.refl u) (p:=⟨J,7,none⟩) (.inr rfl) _;have hc:∀ o,o ≠ 7 -> (u.setCell ⟨J,7,none⟩ (.int .i64 x)).cell? ⟨J,o,none⟩ = u.cell? ⟨J,o,none⟩:=fun o ho=>World.cell?_setCell_other _ _ _ _ (by intro e;simp only [Addr.mk.injEq,and_true,true_and] at e;omega);have hf:∀ o,(u.setCell ⟨J,7,none⟩ (.int .i64 x)).frozen? ⟨J,o,none⟩ = false:=fun o=>(World.frozen?_setCell _ _ _ _).trans (h.fz o);exact ⟨⟨(hc 0 (by decide)).trans h.c0,(hc 1 (by decide)).trans h.c1,(hc 2 (by decide)).trans h.c2,h.j0.other hx (hc 3 (by decide)) ((hc 8 (by decide)).trans h.j0.c8) hf,h.j1.other hx (hc 4 (by decide)) ((hc 8 (by decide)).trans h.j0.c8) hf,(hc 5 (by decide)).trans h.c5,(hc 6 (by decide)).trans h.c6,World.cell?_setCell_same _ _ _ h.c7,h.sep⟩,hx⟩
end Go.Proofs.YtiknejbcehpmoaaGreatDoor
