import Derived.Test.YtiknejbcehpmoaaGreatDoorPk10
import Derived.Test.YtiknejbcehpmoaaGreatDoorPk11
import Derived.Shelf.SlSortCmp.NoneTotal
import Derived.Shelf.Lay
import Derived.Ground.SlsfProg
import Derived.Laws.AppendOwn
import Derived.Maps.AppendAt
import Derived.Maps.Range
import Derived.IntWalk
set_option maxRecDepth 100000
set_option maxHeartbeats 8000000
namespace Go.Proofs.YtiknejbcehpmoaaGreatDoor
open Go.RowKit Go.Plan
theorem zjS (a b:Int) (r:Int):(if cmpI a b = 0 then r else cmpI a b) = if a < b then -1 else if b < a then 1 else r:=by
 unfold cmpI;split
 . split <;> simp_all
 . split
   . simp_all
   . simp_all
theorem zhC (k1 t1 v1 k2 t2 v2:Int) (r:Int):(if zaF k1 t1 v1 k2 t2 v2 = 0 then r else zaF k1 t1 v1 k2 t2 v2) = (if k1 < k2 then -1 else if k2 < k1 then 1 else if t1 < t2 then -1 else if t2 < t1 then 1 else if v1 < v2 then -1 else if v2 < v1 then 1 else r):=by
 simp only [zaF,orI,zjS];by_cases h1:k1 < k2 <;> by_cases h2:k2 < k1 <;> by_cases h3:t1 < t2 <;> by_cases h4:t2 < t1 <;> by_cases h5:v1 < v2 <;> by_cases h6:v2 < v1 <;> simp [h1,h2,h3,h4,h5,h6]
theorem zcv (a b:Out):zbK a b = zad a b:=by
 simp only [zbK,zad,outI,ordI,orI,zjS,zhC]
structure zny where
 lo:Int
 hi:Int
 mo:Int
def zny.ok (p:zny):Prop:=I64 p.lo /\ I64 p.hi /\ I64 p.mo
theorem zkG (xs ys:List Int):ordI ys xs = - ordI xs ys:=by
 induction xs generalizing ys with
 | nil=>cases ys <;> simp [ordI]
 | cons x xs ih =>
   cases ys with
   | nil=>simp [ordI]
   | cons y ys =>
     simp only [ordI];by_cases h1:x < y
     . have h2:¬ y < x:=by omega
       simp [h1,h2]
     . by_cases h2:y < x
       . simp [h1,h2]
       . simp [h1,h2,ih]
theorem zko (xs ys:List Int) (hl:xs.length = ys.length):ordI xs ys = 0 ↔ xs = ys:=by
 induction xs generalizing ys with
 | nil=>cases ys <;> simp [ordI] at hl ⊢
 | cons x xs ih =>
   cases ys with
   | nil=>simp at hl
   | cons y ys =>
     simp only [ordI];by_cases h1:x < y
     . simp [h1];omega
     . by_cases h2:y < x
       . simp [h1,h2];omega
       . have:x = y:=by omega
         subst this;simp [ih ys (by simpa using hl)]
theorem zjj (xs ys zs:List Int) (h1:xs.length = ys.length) (h2:ys.length = zs.length) (p:ordI xs ys <= 0) (q:ordI ys zs <= 0):ordI xs zs <= 0:=by
 induction xs generalizing ys zs with
 | nil=>simp [ordI]
 | cons x xs ih =>
   match ys,zs,h1,h2 with
   | y :: ys,z :: zs,h1,h2 =>
     simp only [ordI] at p q ⊢;by_cases a1:x < y
     . by_cases b1:y < z
       . have:x < z:=by omega
         simp [this]
       . by_cases b2:z < y
         . simp [b1,b2] at q
         . have:x < z:=by omega
           simp [this]
     . by_cases a2:y < x
       . simp [a1,a2] at p
       . simp only [a1,a2,if_false] at p;by_cases b1:y < z
         . have:x < z:=by omega
           simp [this]
         . by_cases b2:z < y
           . simp [b1,b2] at q
           . simp only [b1,b2,if_false] at q;have c1:¬ x < z:=by omega
             have c2:¬ z < x:=by omega
             simp only [c1,c2,if_false];exact ih ys zs (by simpa using h1) (by simpa using h2) p q
theorem zbl (a b:Out):zad a b = ordI (outI a) (outI b):=(zcv ..).symm
theorem zg3 {a b:Bool} (h:zsA a = zsA b):a = b:=by cases a <;> cases b <;> simp [zsA] at h <;> rfl
theorem zlY {a b:Out} (h:outI a = outI b):a = b:=by
 obtain ⟨a1,⟨a2,a3,a4⟩,⟨a5,a6,a7⟩,a8,a9⟩:=a;obtain ⟨b1,⟨b2,b3,b4⟩,⟨b5,b6,b7⟩,b8,b9⟩:=b;simp only [outI,List.cons.injEq,and_true] at h;obtain ⟨rfl,h8,rfl,rfl,rfl,h9,rfl,rfl,rfl⟩:=h;rw [zg3 h8,zg3 h9]
def zoC (a b:Row):Bool:=decide (a = b)
def zo3 (a b:Out):Bool:=decide (a = b)
theorem znH (a b:Row) (w:World):(binOp .eql 92 (.agg #[.int .i64 a.k,.int .i64 a.t,.int .i64 a.v]) (.agg #[.int .i64 b.k,.int .i64 b.t,.int .i64 b.v])).run Tryz.prog w = .ok (.bool (zoC a b)) w:=by
 obtain ⟨a1,a2,a3⟩:=a;obtain ⟨b1,b2,b3⟩:=b;simp only [zoC,Row.mk.injEq];go_simp;by_cases h1:a1 = b1 <;> by_cases h2:a2 = b2 <;> by_cases h3:a3 = b3 <;> simp [h1,h2,h3]
theorem znL (a b:Out) (w:World):(binOp .eql 94 (.agg #[.int .i64 a.key,.int .i64 a.l.k,.int .i64 a.l.t,.int .i64 a.l.v,.int .i64 a.r.k,.int .i64 a.r.t,.int .i64 a.r.v,.bool a.hl,.bool a.hr]) (.agg #[.int .i64 b.key,.int .i64 b.l.k,.int .i64 b.l.t,.int .i64 b.l.v,.int .i64 b.r.k,.int .i64 b.r.t,.int .i64 b.r.v,.bool b.hl,.bool b.hr])).run Tryz.prog w = .ok (.bool (zo3 a b)) w:=by
 obtain ⟨a1,⟨a2,a3,a4⟩,⟨a5,a6,a7⟩,a8,a9⟩:=a;obtain ⟨b1,⟨b2,b3,b4⟩,⟨b5,b6,b7⟩,b8,b9⟩:=b;simp only [zo3,Out.mk.injEq,Row.mk.injEq];go_simp;by_cases h1:a1 = b1
 . by_cases h2:a2 = b2
   . by_cases h3:a3 = b3
     . by_cases h4:a4 = b4
       . by_cases h5:a5 = b5
         . by_cases h6:a6 = b6
           . by_cases h7:a7 = b7
             . by_cases h8:a8 = b8
               . by_cases h9:a9 = b9
                 . simp [h1,h2,h3,h4,h5,h6,h7,h8,h9]
                 . simp [h1,h2,h3,h4,h5,h6,h7,h8,h9]
               . simp [h1,h2,h3,h4,h5,h6,h7,h8]
             . simp [h1,h2,h3,h4,h5,h6,h7]
           . simp [h1,h2,h3,h4,h5,h6]
         . simp [h1,h2,h3,h4,h5]
       . simp [h1,h2,h3,h4]
     . simp [h1,h2,h3]
   . simp [h1,h2]
 . simp [h1]
attribute [local go_sem ↓] znH znL
open Go.RowKit Go.Plan Go.Sort
theorem zar (a b:Out):zad b a = - zad a b:=by rw [zbl,zbl,zkG]
theorem zb5 (a b c:Out) (p:zad a b <= 0) (q:zad b c <= 0):zad a c <= 0:=by
 rw [zbl] at *;exact zjj (outI a) (outI b) (outI c) rfl rfl p q
theorem zbo (a b:Out):zad a b = 0 ↔ a = b:=by
 rw [zbl,zko (outI a) (outI b) rfl];exact ⟨zlY,fun h=>by rw [h]⟩
theorem zl4:SWO (ltOf zad) where
 irrefl x:=by unfold ltOf;rw [(zbo x x).2 rfl];rfl
 trans x y z h1 h2:=by
  simp only [ltOf,decide_eq_true_eq] at *;have h3:=zb5 x y z (by omega) (by omega);rcases Int.lt_or_eq_of_le h3 with h | h
  . exact h
  . have e:=(zbo x z).1 h;subst e
    have:=zar x y
    omega
 ntrans x y z h1 h2:=by
  simp only [ltOf,decide_eq_false_iff_not] at *;have a:=zar x y;have b:=zar y z;have c:=zar x z
  have:=zb5 z y x (by omega) (by omega)
  omega
theorem znp (x y:Out) (h1:ltOf zad x y = false) (h2:ltOf zad y x = false):x = y:=by
 simp only [ltOf,decide_eq_false_iff_not] at *;have a:=zar x y;exact (zbo x y).1 (by omega)
def sortO (l:List Out):List Out:=l.mergeSort fun x y=>!(ltOf zad) y x
theorem leO (x y:Out):(!(ltOf zad) y x) = decide (zad x y <= 0):=by
 have:=zar x y
 unfold ltOf;by_cases h:zad y x < 0
 . simp [h];omega
 . simp [h];omega
theorem zbf (l:List Out):(sortO l).Perm l:=List.mergeSort_perm _ _
theorem zd8 (l:List Out):(sortO l).Pairwise fun x y=>zad x y <= 0:=by
 have:=List.pairwise_mergeSort (le:=fun x y=>!(ltOf zad) y x) (fun a b c h1 h2=>by
  rw [leO] at *;simp only [decide_eq_true_eq] at *
  exact zb5 a b c h1 h2) (fun a b=>by
  rw [leO,leO]
  have:=zar a b
  simp only [Bool.or_eq_true,decide_eq_true_eq]
  omega) l
 exact this.imp (fun h=>by rw [leO] at h;simpa using h)
theorem zfh {l l':List Out} (hp:l.Perm l') (h:l.Pairwise fun x y=>zad x y <= 0) (h':l'.Pairwise fun x y=>zad x y <= 0):l = l' :=
 hp.eq_of_pairwise (fun a b _ _ h1 h2=>(zbo a b).1 (by have:=zar a b;omega)) h h'
theorem zb6 {l l':List Out} (hp:l.Perm l'):sortO l = sortO l' :=
 zfh ((zbf l).trans (hp.trans (zbf l').symm)) (zd8 l) (zd8 l')
theorem zaA (l:List Out):(sortO l).length = l.length:=(zbf l).length_eq
instance:Inhabited Out:=⟨⟨0,⟨0,0,0⟩,⟨0,0,0⟩,false,false⟩⟩
end Go.Proofs.YtiknejbcehpmoaaGreatDoor
namespace Go.Proofs
open Go.Shelf
def Tryz.shSortOut_ren:Go.Shelf.Ren:=⟨fun | 6=>180 | 15=>166 | 14=>211 | 28=>198 | 29=>147 | 20=>237 | 21=>238 | 22=>239 | 23=>240 | 24=>241 | 25=>242 | 26=>243 | 27=>244 | 46=>259 | 47=>225 | 48=>226 | 49=>260 | 50=>261 | 57=>265 | n=>n,fun | 22=>78 | 24=>94 | 25=>141 | 3=>3 | 39=>174 | 0=>0 | 53=>232 | 55=>171 | 4=>4 | 46=>269 | 45=>268 | 50=>55 | 5=>5 | 9=>9 | 66=>297 | 70=>301 | 76=>316 | 77=>137 | n=>n,fun | n=>n⟩
theorem Tryz.shSortOut:Go.Proofs.SlLaysF0.n6 Tryz.prog Tryz.shSortOut_ren:={
 mixed:=by kernel_rfl
 f6:=⟨Tryz.f180.name,by decide,Tryz.func180.trans (congrArg some (by kernel_rfl))⟩
 f14:=⟨Tryz.f211.name,by decide,Tryz.func211.trans (congrArg some (by kernel_rfl))⟩
 f15:=Tryz.func166.trans (congrArg some (by kernel_rfl))
 f20:=⟨Tryz.f237.name,by decide,Tryz.func237.trans (congrArg some (by kernel_rfl))⟩
 f21:=⟨Tryz.f238.name,by decide,Tryz.func238.trans (congrArg some (by kernel_rfl))⟩
 f22:=⟨Tryz.f239.name,by decide,Tryz.func239.trans (congrArg some (by kernel_rfl))⟩
 f23:=⟨Tryz.f240.name,by decide,Tryz.func240.trans (congrArg some (by kernel_rfl))⟩
 f24:=⟨Tryz.f241.name,by decide,Tryz.func241.trans (congrArg some (by kernel_rfl))⟩
 f25:=⟨Tryz.f242.name,by decide,Tryz.func242.trans (congrArg some (by kernel_rfl))⟩
 f26:=⟨Tryz.f243.name,by decide,Tryz.func243.trans (congrArg some (by kernel_rfl))⟩
 f27:=⟨Tryz.f244.name,by decide,Tryz.func244.trans (congrArg some (by kernel_rfl))⟩
 f28:=Tryz.func198.trans (congrArg some (by kernel_rfl))
 f29:=Tryz.func147.trans (congrArg some (by kernel_rfl))
 f46:=⟨Tryz.f259.name,by decide,Tryz.func259.trans (congrArg some (by kernel_rfl))⟩
 f47:=Tryz.func225.trans (congrArg some (by kernel_rfl))
 f48:=Tryz.func226.trans (congrArg some (by kernel_rfl))
 f49:=⟨Tryz.f260.name,by decide,Tryz.func260.trans (congrArg some (by kernel_rfl))⟩
 f50:=⟨Tryz.f261.name,by decide,Tryz.func261.trans (congrArg some (by kernel_rfl))⟩
 f57:=⟨Tryz.f265.name,by decide,Tryz.func265.trans (congrArg some (by kernel_rfl))⟩
 t0:=Tryz.underlying0
 a0:=Tryz.isAgg0
 z0:=Tryz.sizeOf0
 v0:=Tryz.zeroValue0
 t3:=Tryz.underlying3
 a3:=Tryz.isAgg3
 z3:=Tryz.sizeOf3
 v3:=Tryz.zeroValue3
 t4:=Tryz.underlying4
 a4:=Tryz.isAgg4
 z4:=Tryz.sizeOf4
 v4:=Tryz.zeroValue4
 t5:=Tryz.underlying5
 a5:=Tryz.isAgg5
 z5:=Tryz.sizeOf5
 v5:=Tryz.zeroValue5
 t9:=Tryz.underlying9
 a9:=Tryz.isAgg9
 z9:=Tryz.sizeOf9
 v9:=Tryz.zeroValue9
 t22:=Tryz.underlying78
 a22:=Tryz.isAgg78
 z22:=Tryz.sizeOf78
 v22:=Tryz.zeroValue78
 t25:=Tryz.underlying141
 a25:=Tryz.isAgg141
 z25:=Tryz.sizeOf141
 v25:=Tryz.zeroValue141
 t39:=Tryz.underlying174
 a39:=Tryz.isAgg174
 z39:=Tryz.sizeOf174
 v39:=Tryz.zeroValue174
 t45:=Tryz.underlying268
 a45:=Tryz.isAgg268
 z45:=Tryz.sizeOf268
 v45:=Tryz.zeroValue268
 t46:=Tryz.underlying269
 a46:=Tryz.isAgg269
 z46:=Tryz.sizeOf269
 v46:=Tryz.zeroValue269
 t50:=Tryz.underlying55
 a50:=Tryz.isAgg55
 z50:=Tryz.sizeOf55
 v50:=Tryz.zeroValue55
 t53:=Tryz.underlying232
 a53:=Tryz.isAgg232
 z53:=Tryz.sizeOf232
 v53:=Tryz.zeroValue232
 t55:=Tryz.underlying171
 a55:=Tryz.isAgg171
 z55:=Tryz.sizeOf171
 v55:=Tryz.zeroValue171
 t66:=Tryz.underlying297
 a66:=Tryz.isAgg297
 z66:=Tryz.sizeOf297
 v66:=Tryz.zeroValue297
 t70:=Tryz.underlying301
 a70:=Tryz.isAgg301
 z70:=Tryz.sizeOf301
 v70:=Tryz.zeroValue301
 t76:=Tryz.underlying316
 a76:=Tryz.isAgg316
 z76:=Tryz.sizeOf316
 v76:=Tryz.zeroValue316
 t77:=Tryz.underlying137
 a77:=Tryz.isAgg137
 z77:=Tryz.sizeOf137
 v77:=Tryz.zeroValue137 }
end Go.Proofs
namespace Go.Proofs.YtiknejbcehpmoaaGreatDoor
open Go.RowKit Go.Plan Go.Sort Go.Shelf Go.Lib
theorem zas (x:Out):x.cells.length = 9:=rfl
theorem zb0 (x:Out):∀ v ∈ x.cells,v.oneCell' = true:=by
 intro v hv;simp only [Out.cells,List.mem_cons,List.not_mem_nil,or_false] at hv;rcases hv with rfl | rfl | rfl | rfl | rfl | rfl | rfl | rfl | rfl <;> rfl
theorem zdi (l:List Out):(l.flatMap Out.cells).length = l.length * 9:=by
 induction l with
 | nil=>rfl
 | cons x r ih=>rw [List.flatMap_cons,List.length_append,ih,zas,List.length_cons];omega
theorem zfC (l:List Out) (i c:Nat) (hi:i < l.length) (hc:c < 9):(l.flatMap Out.cells)[i * 9 + c]? = (l[i]'hi).cells[c]?:=by
 induction l generalizing i with
 | nil=>simp at hi
 | cons x r ih =>
   rw [List.flatMap_cons];cases i with
   | zero=>rw [List.getElem?_append_left (by rw [zas];omega)];simp
   | succ i =>
     rw [List.getElem?_append_right (by rw [zas];omega),zas]
     have:=ih i (by simpa using hi)
     rw [show (i + 1) * 9 + c - 9 = i * 9 + c by omega,this];simp
def zbp (w:World) (b off:Nat) (l:List Out):Prop:=HoldsK Out.cells 9 w b off l.toArray
theorem zbp.cell {w:World} {b off:Nat} {l:List Out} (h:zbp w b off l) (i c:Nat) (hi:i < l.length) (hc:c < 9) :
 w.cell? ⟨b,off + i * 9 + c,none⟩ = (l[i]'hi).cells[c]? /\ w.frozen? ⟨b,off + i * 9 + c,none⟩ = false:=by
 have:=HoldsK.cell h (i:=i) (c:=c) (by simpa using hi) hc
 refine ⟨this.1.trans ?_,this.2⟩;have e:l.toArray[i]! = l[i]'hi:=by simp [hi]
 rw [e,List.getElem!_eq_getElem?_getD,List.getElem?_eq_getElem (by rw [zas];exact hc)];rfl
theorem zjc (l:List Out):(flatK Out.cells 9 l.toArray).toList = l.flatMap Out.cells:=by
 apply List.ext_getElem?;intro j;by_cases hj:j < l.length * 9
 . have hd:j / 9 < l.length:=by omega
   have e1:=zfC l (j / 9) (j % 9) hd (by omega);rw [show j / 9 * 9 + j % 9 = j by omega] at e1;rw [e1];have hs:j < (flatK Out.cells 9 l.toArray).size:=by simpa using hj
   have e2:=get_flatK Out.cells 9 l.toArray j (by simpa using hj);rw [Array.getElem?_toList,Array.getElem?_eq_getElem hs];rw [getElem!_pos _ j hs] at e2;rw [e2];have e:l.toArray[j / 9]! = l[j / 9]'hd:=by simp [hd]
   rw [e,List.getElem!_eq_getElem?_getD,List.getElem?_eq_getElem (by rw [zas];omega)];rfl
 . rw [List.getElem?_eq_none (by simp;omega),List.getElem?_eq_none (by rw [zdi];omega)]
theorem zbp.of_own {w:World} {base:Nat} {e:TypeId} {b cap n:Nat} {l:List Out} (h:w.ownsRow base e 9 (.slice (some ⟨b,0,none⟩) n cap) n (l.flatMap Out.cells)):zbp w b 0 l:=by
 obtain ⟨hl,hr⟩:=h;rcases hr with ⟨h,-⟩ | ⟨g,cap',cur,hv,hbase,hb,h1,h2,h3,h4⟩
 . cases h
 . simp only [Value.slice.injEq,Option.some.injEq,Addr.mk.injEq,and_true,true_and] at hv;obtain ⟨rfl,rfl⟩:=hv;intro j hj;have hj':j < l.length * 9:=by simpa using hj
   refine ⟨?_,by simp [World.frozen?,hb]⟩;rw [zdi] at hl;have e1:(cur.toList.take (n * 9))[j]? = (flatK Out.cells 9 l.toArray).toList[j]?:=by rw [h4,zjc]
   rw [List.getElem?_take_of_lt (by omega),Array.getElem?_toList,Array.getElem?_toList] at e1;simp only [World.cell?,hb,Nat.zero_add];have hs:j < (flatK Out.cells 9 l.toArray).size:=hj;rw [e1,getElem!_pos _ j hs,Array.getElem?_eq_getElem hs];rfl
theorem zbp.keep {w w':World} {b off:Nat} {l:List Out} (h:zbp w b off l) (hb:w'.heap[b]? = w.heap[b]?):zbp w' b off l:=by
 intro j hj;obtain ⟨h1,h2⟩:=h j hj;exact ⟨(World.cell?_of_block (w:=w) (w':=w') (a:=⟨b,off + j,none⟩) hb).trans h1,(World.frozen?_of_block (w:=w) (w':=w') (a:=⟨b,off + j,none⟩) hb).trans h2⟩
theorem ze9 {w:World} {b n:Nat} {d:Array Out} {os:Array Obj}:ExtM (fun k=>k = b) w (sortWorldK Out.cells 9 w b 0 n d os):=by
 refine ⟨rfl,rfl,rfl,by simp [sortWorldK,putRowK],fun k hk hne=>?_⟩;unfold sortWorldK putRowK;rw [heap_grow_old _ _ (by simpa using hk)];have:b ≠ k:=fun e=>hne e.symm;simp [putRow,mapBlock,Sort.ahead,Array.getElem?_modify,this]
theorem zuo (w:World):(isAgg 94).run Tryz.prog w = .ok true w:=by kernel_rfl
theorem zjJ (w:World):(Go.sizeOf 94).run Tryz.prog w = .ok 9 w:=by kernel_rfl
def OTag (w:World) (b:Nat):Prop:=∃ c,w.heap[b]? = some (.cells c 94 (0,0))
theorem znW {w:World} {b n:Nat} {d:Array Out} {os:Array Obj} (h:OTag w b):OTag (sortWorldK Out.cells 9 w b 0 n d os) b:=by
 obtain ⟨c,hc⟩:=h;have hlt:=(Array.getElem?_eq_some_iff.1 hc).1;unfold sortWorldK putRowK OTag;rw [heap_grow_old _ _ (by simpa using hlt)];simp only [putRow,mapBlock,Sort.ahead,Array.getElem?_modify,hc,if_pos,Option.map_some];exact ⟨_,rfl⟩
theorem zkP (b cap:Nat) (l:List Out) (w:World) (hH:zbp w b 0 l) (hb:b < w.heap.size) (hsz:l.length < 4611686018427387904) :
 Calls Tryz.prog 180 #[.slice (some ⟨b,0,none⟩) l.length cap,.func (.func 181) #[] #[]] w fun e w' =>
  e = .returned (.tuple #[]) /\ ExtM (fun k=>k = b) w w' /\ zbp w' b 0 (sortO l) /\ (OTag w b -> OTag w' b):=by
 have eg:∀ args w,(callFunc 181 args).run Tryz.prog w = .ok (.enter 181 args) w:=enters_of Tryz.func181 (by kernel_rfl) rfl;have hcmp:CmpLays Tryz.prog 181 #[] Out.cells 9 zad b 0 l.toArray.size w:=fun _ _ _ _ x y=>zgw x y _;have hcon:=AnyQ.slices_SortFunc_total Tryz.shSortOut 9 zuo zjJ Out.cells zas zb0 zad zl4 181 #[] b 0 cap l.toArray w eg hcmp hH hb (by simpa using hsz) znp;have e1:l.toArray.size = l.length:=by simp
 rw [e1] at hcon;refine hcon.mono fun e w' hh=>?_;obtain ⟨he,n,os,hw⟩:=hh;have e2:(l.toArray.toList.mergeSort fun x y=>!(ltOf zad) y x).toArray = (sortO l).toArray:=rfl;rw [e2] at hw;subst hw;exact ⟨he,ze9,holdsK_sortWorldK_c Out.cells 9 w b 0 l.toArray (sortO l).toArray n os hH hb (by simp [zaA]),znW⟩
theorem zeL (p:Option Addr) (cap:Nat) (w:World) :
 Calls Tryz.prog 180 #[.slice p 0 cap,.func (.func 181) #[] #[]] w fun e w'=>e = .returned (.tuple #[]) /\ w = w' :=
 (AnyF.slices_SortFunc_none (P:=Tryz.prog) (ρ:=Tryz.shSortOut_ren) Tryz.shSortOut p cap (.func (.func 181) #[] #[]) w).mono fun _ _ h=>⟨h.1,h.2.symm⟩
open Go.RowKit Go.Plan
theorem zd6 {w:World} {D R:Nat} {m left:List (Out × Value)} (h:zaW Tryz.prog 94 encO w D R m left):w.rangeLeft D R = left.length:=by
 obtain ⟨es,clock,seen,h1,h2,h3,h4,h5⟩:=h.ex
 have:=congrArg List.length h5
 simp only [List.length_map,Array.length_toList] at this;simp only [World.rangeLeft,h1,h4];rw [<- this]
theorem znB:(Tryz.prog.info? 94).map (fun i=>(i.zero,i.size,i.bytes)) = some (some (encO ⟨0,⟨0,0,0⟩,⟨0,0,0⟩,false,false⟩),9,64):=by kernel_rfl
theorem zhH (W:World) (base nb c:Nat) (v:Value) (acc:List Out) (x:Out) (ty:TypeId) (hown:W.ownsRow base 94 9 v acc.length (acc.flatMap Out.cells))
 (hx:∀ j,j < 9 -> W.cell? ⟨nb,j,none⟩ = x.cells[j]?) (hl:acc.length < 1000000000) (hb:base <= W.heap.size) :
 ∃ v' w',(Builtin.append_ #[78,78] ty #[v,.slice (some ⟨nb,0,none⟩) 1 c]).run Tryz.prog W = .ok v' w' /\ w'.ownsRow base 94 9 v' (acc ++ [x]).length ((acc ++ [x]).flatMap Out.cells) /\ W.grownBy w' v.ownBlock /\
   (v'.ownBlock = v.ownBlock \/ v'.ownBlock = some W.heap.size):=by
 obtain ⟨i0,hi,hz0,hz1,hz2⟩:=info_parts znB;obtain ⟨v',w',h1,h2,h3,-,h5⟩:=run_append_own_at (P:=Tryz.prog) W base 78 ty 94 i0 (encO ⟨0,⟨0,0,0⟩,⟨0,0,0⟩,false,false⟩) 9 64 Tryz.underlying78 hi hz0 hz1 hz2 rfl (by decide) v acc.length _ hown ⟨nb,0,none⟩ 1 c x.cells rfl
  (fun j u hj=>by
    have hj':j < 9:=(List.getElem?_eq_some_iff.1 hj).1
    have:=hx j hj'
    rw [hj] at this;have e1:(⟨nb,0,none⟩:Addr).add j = ⟨nb,j,none⟩:=by unfold Addr.add;split <;> simp_all
    rw [e1];exact this) (zb0 x) (by unfold maxLen;omega) (by omega) hb
 refine ⟨v',w',h1,?_,h3,h5⟩;rw [List.flatMap_append,List.length_append];simpa using h2
def zh4 (w:World) (l:List Out) (e:Ending) (w':World):Prop :=
 ∃ p cap,e = .returned (.slice p l.length cap) /\ Ext w w' /\ (l = [] \/ ∃ b,p = some ⟨b,0,none⟩ /\ w.heap.size <= b /\ b < w'.heap.size /\ zbp w' b 0 l /\ OTag w' b)
theorem znP {w w1 w2:World} {N:Nat} (hN:w.heap.size = N) (h:Ext w w1) (hb:ExtB N w1 w2):Ext w w2 :=
 ⟨hb.os.trans h.os,hb.tape.trans h.tape,hb.output.trans h.output,Nat.le_trans h.size hb.size,fun k hk hn=>(hb.block k (Nat.lt_of_lt_of_le hk h.size) (fun e=>by have e':k = N:=e;omega)).trans (h.block k hk hn)⟩
theorem zme (B o d:Nat) (l:List Out) (w:World) (h:zaB w B o (some d) l) (hl:l.length < 1000000) :
 Calls Tryz.prog 138 #[.pointer (some ⟨B,o,none⟩)] w (zh4 w (sortO l)):=by
 obtain ⟨d',m,hd,hdB,hm,hcnt⟩:=h.mp.resolve_left (by rintro ⟨h,-⟩;cases h);obtain rfl:d = d':=Option.some.inj hd;have hdw:=hm.lt;have hperm:=hcnt.perm hm.nodup;obtain ⟨c0,c1,f0,f1⟩:=h.cells;obtain ⟨ob,hrun,hrg⟩:=hm.run_range Tryz.underlying113;clear h hd;go_enter Tryz.func138,Tryz.ntmps138;go_wp2_with fail;have x0:Ext w (w.alloc ob):=(ExtM.refl _).alloc _;have z0:w.heap.size < (w.alloc ob).heap.size:=by rw [World.size_alloc];omega
 clear hrun c0 c1 f0 f1;generalize w.alloc ob = w0 at *;generalize hN:w.heap.size = N at *;go_loopw [3] (fun v wr=>∃ (left:List (Out × Value)) (acc:List Out),zaW Tryz.prog 94 encO wr d N m left /\ wr.ownsRow (N + 1) 94 9 v acc.length (acc.flatMap Out.cells) /\ (acc ++ flat left).Perm (flat m) /\ Ext w wr /\ ∀ p ∈ left,p ∈ m) (fun _ wr=>wr.rangeLeft d N)
 case atStart=>exact ⟨m,[],hrg,⟨rfl,.inl ⟨rfl,rfl⟩⟩,by simp,x0,fun p hp=>hp⟩
 case round =>
  clear hrg x0 z0;obtain ⟨left,acc,hrg,hown,hp,hx,hsub⟩:=hrel;have hal:acc.length <= l.length:=by
   have h1:=hp.length_eq;rw [List.length_append,hperm.length_eq] at h1;omega
  rcases hrg.run_next 0 with ⟨rfl,hn⟩ | ⟨p,left',w1,hpm,hn,x1,z1,hrg1,hen⟩
  . have hpl:acc.Perm l:=by
     have:acc.Perm (flat m):=by rw [show flat [] = [] from rfl,List.append_nil] at hp;exact hp
     exact this.trans hperm
    have hso:sortO acc = sortO l:=zb6 hpl;have hsl:(sortO l).length = acc.length:=by rw [zaA];exact hpl.length_eq.symm
    rcases hown.2 with ⟨rfl,h0⟩ | ⟨g,cap,cur,rfl,hbase,hb,h1,h2,h3,h4⟩
    . go_wp2_with fail;refine (zeL none 0 wr).mono ?_;rintro e w' ⟨rfl,rfl⟩;go_wp2_with fail;go_ret;have hnil:sortO l = []:=List.eq_nil_of_length_eq_zero (by rw [hsl,h0]);rw [hnil];exact ⟨none,0,rfl,hx,.inl rfl⟩
    . have hOA:=zbp.of_own hown;have hgl:g < wr.heap.size:=(Array.getElem?_eq_some_iff.1 hb).1;go_wp2_with fail;refine (zkP g cap acc wr hOA hgl (by omega)).mono ?_;rintro e w' ⟨rfl,xs,hOA',htag⟩;go_wp2_with fail;go_ret;rw [hso] at hOA';refine ⟨some ⟨g,0,none⟩,cap,by rw [hsl];rfl,?_,.inr ⟨g,rfl,by omega,Nat.lt_of_lt_of_le hgl xs.size,hOA',htag ⟨cur,hb⟩⟩⟩;exact ⟨xs.os.trans hx.os,xs.tape.trans hx.tape,xs.output.trans hx.output,Nat.le_trans hx.size xs.size,fun k hk _=>(xs.block k (Nat.lt_of_lt_of_le hk hx.size) (fun e=>by have e':k = g:=e;omega)).trans (hx.block k hk id)⟩
  . obtain ⟨x,cv⟩:=p;have hmem:=hsub (x,cv) (hpm.mem_iff.2 (by simp));have hcv:=zcp hm.nodup hmem;rw [hcnt x] at hcv;obtain ⟨c,hc⟩:∃ c:Nat,l.count x = c:=⟨_,rfl⟩
    rw [hc] at hcv;have hcp:cv = .int .i64 (c:Int):=by
     split at hcv
     . cases hcv
     . exact (Option.some.inj hcv).symm
    have hcl:c <= l.length:=by rw [<- hc];exact List.count_le_length
    subst hcp;clear hcv;have HC:=Lib.hid hc;clear hc;have HL:=Lib.hid (zd6 hrg);have hll:left'.length < left.length:=by have:=hpm.length_eq;simp at this;omega
    have hflat:(flat left).Perm (List.replicate c x ++ flat left'):=by
     have h1:(flat left).Perm (flat ((x,.int .i64 (c:Int)) :: left')):=hpm.flatMap_right zlJ;have h2:flat ((x,.int .i64 (c:Int)) :: left') = List.replicate c x ++ flat left':=by simp [flat,zlJ]
     rw [h2] at h1;exact h1
    have hown1:w1.ownsRow (N + 1) 94 9 u3 acc.length (acc.flatMap Out.cells):=by
     refine hown.kept (row:=some N) ⟨x1.os,x1.tape,x1.output,x1.size,fun k hk hne=>x1.block k hk (fun e=>hne (by rw [e]))⟩ (.inr fun e=>?_);rcases hown.2 with ⟨rfl,h0⟩ | ⟨g,cap,cur,rfl,hbase,-⟩
     . cases e
     . simp [Value.ownBlock] at e;omega
    have hvb:u3.ownBlock ≠ some w1.heap.size:=by
     intro e;rcases hown1.2 with ⟨rfl,h0⟩ | ⟨g,cap,cur,rfl,hbase,hb,-⟩
     . cases e
     . have hgl:g < w1.heap.size:=(Array.getElem?_eq_some_iff.1 hb).1;simp [Value.ownBlock] at e;omega
    have hx1:Ext w w1:=znP hN hx x1;simp only [zbx] at hn hen;clear hown hx x1 z1;go_wp2_with fail;have bx:=BoxO.mk' w1 x 94;have hrg2:=hrg1.keep (w':=w1.alloc (.cells #[.int .i64 x.key,.int .i64 x.l.k,.int .i64 x.l.t,.int .i64 x.l.v,.int .i64 x.r.k,.int .i64 x.r.t,.int .i64 x.r.v,.bool x.hl,.bool x.hr] 94)) (zah hrg1.ltD) (zah hrg1.ltR);have hown2:=hown1.alloc (.cells #[.int .i64 x.key,.int .i64 x.l.k,.int .i64 x.l.t,.int .i64 x.l.v,.int .i64 x.r.k,.int .i64 x.r.t,.int .i64 x.r.v,.bool x.hl,.bool x.hr] 94);have hx2:=hx1.alloc (.cells #[.int .i64 x.key,.int .i64 x.l.k,.int .i64 x.l.t,.int .i64 x.l.v,.int .i64 x.r.k,.int .i64 x.r.t,.int .i64 x.r.v,.bool x.hl,.bool x.hr] 94);clear hn hen hrg hrg1 hown1 hx1;generalize w1.alloc (.cells #[.int .i64 x.key,.int .i64 x.l.k,.int .i64 x.l.t,.int .i64 x.l.v,.int .i64 x.r.k,.int .i64 x.r.t,.int .i64 x.r.v,.bool x.hl,.bool x.hr] 94) = w2 at *;generalize w1.heap.size = nb at *;go_loopw [3,17] (fun v i wr=>∃ j:Nat,j <= c /\ i = .int .i64 j /\ zaW Tryz.prog 94 encO wr d N m left' /\ wr.ownsRow (N + 1) 94 9 v (acc ++ List.replicate j x).length ((acc ++ List.replicate j x).flatMap Out.cells) /\ Ext w wr /\ BoxO wr nb x /\ v.ownBlock ≠ some nb) (fun _ i _=>c - (intOf i).toNat)
    case atStart=>exact ⟨0,Nat.zero_le _,rfl,hrg2,by simpa using hown2,hx2,bx,hvb⟩
    case round =>
     clear hrg2 hown2 hx2 bx hvb;obtain ⟨j,hj,rfl,hrg,hown,hx,bx,hvb⟩:=hrel;by_cases hjc:j < c
     . have hd:decide ((j:Int) < c) = true:=by simp;omega
       have bz:=BoxO.mk' wr x 94;have hlen:(acc ++ List.replicate j x).length < 1000000000:=by
        have h1:=hp.length_eq;rw [List.length_append,hflat.length_eq,hperm.length_eq,List.length_append,List.length_replicate] at h1;rw [List.length_append,List.length_replicate];omega
       obtain ⟨v',w',happ,hown',hgr,hloc⟩:=zhH (wr.alloc (.cells #[.int .i64 x.key,.int .i64 x.l.k,.int .i64 x.l.t,.int .i64 x.l.v,.int .i64 x.r.k,.int .i64 x.r.t,.int .i64 x.r.v,.bool x.hl,.bool x.hr] 94)) (N + 1) wr.heap.size 1 _ _ x 78 (hown.alloc _) bz.cells hlen (by have:=bx.lt;have:=hrg.ltR;rw [World.size_alloc];omega);have hbq:=bx.lt;have hRq:=hrg.ltR;have hDq:=hrg.ltD;have hv2:v'.ownBlock ≠ some nb:=by
        rcases hloc with h | h
        . rw [h];exact hvb
        . rw [h,World.size_alloc];intro e;have:=Option.some.inj e;omega
       have hkeep:∀ k,k < wr.heap.size -> some k ≠ u3.ownBlock -> w'.heap[k]? = wr.heap[k]?:=fun k hk hne=>(hgr.block k (by rw [World.size_alloc];omega) hne).trans (zah hk);have hvN:∀ k,k <= N -> some k ≠ u3.ownBlock:=by
        intro k hk e;rcases hown.2 with ⟨rfl,h0⟩ | ⟨g,cap,cur,rfl,hbase,-⟩
        . cases e
        . simp [Value.ownBlock] at e;omega
       have hrg':=hrg.keep (hkeep d hDq (hvN d (by omega))) (hkeep N hRq (hvN N (by omega)));have bx':=bx.keep (hkeep nb hbq (fun e=>hvb e.symm));have hx':Ext w w':=⟨hgr.os.trans hx.os,hgr.tape.trans hx.tape,hgr.output.trans hx.output,Nat.le_trans hx.size (by have:=hgr.size;rw [World.size_alloc] at this;omega),fun k hk _=>(hkeep k (Nat.lt_of_lt_of_le hk hx.size) (hvN k (by omega))).trans (hx.block k hk id)⟩
       have el:(acc ++ List.replicate j x) ++ [x] = acc ++ List.replicate (j + 1) x:=by rw [List.append_assoc,<- List.replicate_succ']
       rw [el] at hown';obtain ⟨e0,e1,e2,e3,e4,e5,e6,e7,e8⟩:=bx;clear bz hkeep hgr hloc hlen hp hflat hperm hcnt hal;go_wp2_with (at_builtin;refine wpList_append_run happ rfl rfl _ _ rfl rfl rfl ?_;clear happ);go_roundw
       case rel=>exact ⟨j + 1,by omega,by go_num,hrg',hown',hx',bx',hv2⟩
       case measure=>simp [intOf];omega
     . obtain rfl:j = c:=by omega
       have hd:decide ((j:Int) < j) = false:=by simp
       clear hjc;obtain ⟨e0,e1,e2,e3,e4,e5,e6,e7,e8⟩:=bx;go_wp2_with fail;go_roundw
       case rel =>
        refine ⟨left',acc ++ List.replicate j x,hrg,hown,?_,hx,fun p hp=>hsub p (hpm.mem_iff.2 (List.mem_cons_of_mem _ hp))⟩;rw [List.append_assoc];exact (List.Perm.append_left acc hflat.symm).trans hp
       case measure =>
        rw [zd6 hrg,HL.out];exact hll
theorem zjo (w:World):(Instr.range 113 (.map none)).run Tryz.prog w = .ok (.pointer (some ⟨w.heap.size,0,none⟩)) (w.alloc (.mapIter none 0 #[] 0)):=by
 simp [Instr.range,run_underlying Tryz.underlying113,newObj,Sem.run,Result.andThen]
theorem zl6 (w:World) (ty:TypeId):(Instr.next (.pointer (some ⟨w.heap.size,0,none⟩)) false ty).run Tryz.prog (w.alloc (.mapIter none 0 #[] 0)) = .ok (.tuple #[.bool false]) (w.alloc (.mapIter none 0 #[] 0)):=by
 have h:(w.alloc (.mapIter none 0 #[] 0)).heap[w.heap.size]? = some (.mapIter none 0 #[] 0):=heap_alloc_new _ _;simp only [Instr.next,getObj,Sem.run_bind,Sem.run,h,Result.andThen];rfl
theorem zkM (B o:Nat) (l:List Out) (w:World) (h:zaB w B o none l) :
 Calls Tryz.prog 138 #[.pointer (some ⟨B,o,none⟩)] w (zh4 w []):=by
 obtain ⟨c0,c1,f0,f1⟩:=h.cells;have hrun:=zjo;have hn:=zl6 w;go_enter Tryz.func138,Tryz.ntmps138;go_wp2_with fail;refine wp_loop_once ?_;go_wp2_with fail;refine (zeL none 0 _).mono ?_;rintro e w' ⟨rfl,rfl⟩;go_wp2_with fail;go_ret;exact ⟨none,0,rfl,(ExtM.refl _).alloc _,.inl rfl⟩
def Grew (w:World) (D D':Option Nat):Prop:=D' = D \/ (D = none /\ ∃ d,D' = some d /\ w.heap.size <= d)
theorem zp7 (B o:Nat) (D:Option Nat) (l:List Out) (x:Out) (w:World) (h:zaB w B o D l) (hx:x ∈ l) (hl:l.length < 1000000000) :
 Calls Tryz.prog 207 #[.pointer (some ⟨B,o,none⟩),encC x true] w fun e w'=>e = .returned .nilIface /\ ExtM (bagM B D) w w' /\ zaB w' B o D (l.erase x):=by
 have hok:=h.ok x hx;cases D with
 | some d =>
   have h0:0 < l.count x:=List.count_pos_iff.2 hx;rcases Nat.lt_or_ge 1 (l.count x) with h1 | h1
   . exact zlI B o d l x w h hok hl h1
   . exact zm3 B o d l x w h hok hl (by omega)
 | none =>
   rcases h.mp with ⟨-,rfl⟩ | ⟨d,m,h1,-⟩
   . cases hx
   . cases h1
theorem znV (B o:Nat) (D:Option Nat) (l:List Out) (x:Out) (w:World) (h:zaB w B o D l) (hx:x.ok) (hl:l.length < 1000000000) :
 Calls Tryz.prog 207 #[.pointer (some ⟨B,o,none⟩),encC x false] w fun e w'=>e = .returned .nilIface /\ ∃ D',Grew w D D' /\ ExtM (bagM B D) w w' /\ zaB w' B o D' (x :: l) /\ zaL B o w w':=by
 cases D with
 | some d=>exact (zl3 B o d l x w h hx hl).mono fun e w' hh=>⟨hh.1,some d,.inl rfl,hh.2.1,hh.2.2.1,hh.2.2.2⟩
 | none =>
   obtain rfl:l = []:=by
    rcases h.mp with ⟨-,h⟩ | ⟨d,m,h1,-⟩
    . exact h
    . cases h1
   exact (zfZ B o x w h hx).mono fun e w' ⟨h1,d,h2,h3,h4,h5⟩=>⟨h1,some d,.inr ⟨rfl,d,rfl,h2⟩,h3,h4,h5⟩
theorem zmj (B o:Nat) (D:Option Nat) (l:List Out) (x:Out) (w:World) (h:zaB w B o D l) (hx:x ∈ l) (hl:l.length < 1000000000) :
 Calls Tryz.prog 207 #[.pointer (some ⟨B,o,none⟩),encC x true] w fun e w'=>e = .returned .nilIface /\ ExtM (bagM B D) w w' /\ zaB w' B o D (l.erase x) /\ zaL B o w w':=by
 have hok:=h.ok x hx;cases D with
 | some d =>
   have h0:0 < l.count x:=List.count_pos_iff.2 hx;rcases Nat.lt_or_ge 1 (l.count x) with h1 | h1
   . exact zg6 B o d l x w h hok hl h1
   . exact zgK B o d l x w h hok hl (by omega)
 | none =>
   rcases h.mp with ⟨-,rfl⟩ | ⟨d,m,h1,-⟩
   . cases hx
   . cases h1
theorem zpk (B o:Nat) (D:Option Nat) (l:List Out) (w:World) (h:zaB w B o D l) (hl:l.length < 1000000) :
 Calls Tryz.prog 138 #[.pointer (some ⟨B,o,none⟩)] w (zh4 w (sortO l)):=by
 cases D with
 | some d=>exact zme B o d l w h hl
 | none =>
   obtain rfl:l = []:=by
    rcases h.mp with ⟨-,h⟩ | ⟨d,m,h1,-⟩
    . exact h
    . cases h1
   have e:sortO [] = []:=List.eq_nil_of_length_eq_zero (by rw [zaA];rfl);rw [e];exact zkM B o [] w h
theorem zaB.foot {w:World} {B o:Nat} {D:Option Nat} {l:List Out} (h:zaB w B o D l) (k:Nat) (hk:bagM B D k):k < w.heap.size:=by
 rcases hk with rfl | hk
 . exact h.ltB
 . rcases h.mp with ⟨h1,-⟩ | ⟨d,m,h1,-,h3,-⟩
   . rw [h1] at hk;cases hk
   . rw [h1] at hk;obtain rfl:=Option.some.inj hk;exact h3.lt
def zrr (N B:Nat) (D:Option Nat):Prop:=∀ k,bagM B D k -> N <= k
def zre (A:Nat) (DA:Option Nat) (B:Nat) (DB:Option Nat):Prop:=∀ k,bagM A DA k -> ¬ bagM B DB k
theorem zre.symm {A B:Nat} {DA DB:Option Nat} (h:zre A DA B DB):zre B DB A DA:=fun k h1 h2=>h k h2 h1
theorem zrr.ext {w0 w w':World} {A N:Nat} {DA:Option Nat} (hF:zrr N A DA) (hN:w0.heap.size <= N) (hx:Ext w0 w) (hM:ExtM (bagM A DA) w w'):Ext w0 w' :=
 ⟨hM.os.trans hx.os,hM.tape.trans hx.tape,hM.output.trans hx.output,Nat.le_trans hx.size hM.size,fun k hk hn =>
  (hM.block k (Nat.lt_of_lt_of_le hk hx.size) (fun h=>by have:=hF k h;omega)).trans (hx.block k hk hn)⟩
theorem zaB.other {w w':World} {A B o:Nat} {DA DB:Option Nat} {q:List Out} (h:zaB w B o DB q) (hM:ExtM (bagM A DA) w w') (hA:zre A DA B DB):zaB w' B o DB q :=
 h.of hM (fun e=>hA B e (.inl rfl)) (fun d hd e=>hA d e (.inr hd))
def zmW (t:Int) (n:Nat):Nat:=((t % 18446744073709551616) % (n:Int)).toNat
structure Two (w wr:World) (A:Nat) (p q:List Out):Prop where
 ex:∃ DA DB,zaB wr A 0 DA p /\ zaB wr (A + 1) 0 DB q /\ zrr A A DA /\ zrr A (A + 1) DB /\ zre A DA (A + 1) DB
 ext:Ext w wr
 low:w.heap.size <= A
theorem Two.of {w wr w':World} {A:Nat} {p q:List Out} (h:Two w wr A p q) (hx:Ext wr w'):Two w w' A p q:=by
 obtain ⟨⟨DA,DB,h1,h2,h3⟩,h4,h5⟩:=h;exact ⟨⟨DA,DB,h1.of hx id (fun _ _=>id),h2.of hx id (fun _ _=>id),h3⟩,ExtM.trans _ _ _ h4 hx,h5⟩
theorem Two.size {w wr:World} {A:Nat} {p q:List Out} (h:Two w wr A p q):A + 1 < wr.heap.size:=by
 obtain ⟨⟨DA,DB,h1,h2,h3⟩,h4,h5⟩:=h;exact h2.ltB
theorem zbp.elem {w:World} {b:Nat} {l:List Out} (h:zbp w b 0 l) (i:Nat) (hi:i < l.length):zbI w b (i * 9) (l[i]'hi):=by
 have r:∀ c,c < 9 -> w.cell? ⟨b,i * 9 + c,none⟩ = (l[i]'hi).cells[c]?:=fun c hc=>by
  have:=(h.cell i c hi hc).1
  rwa [Nat.zero_add] at this
 exact ⟨r 0 (by omega),r 1 (by omega),r 2 (by omega),r 3 (by omega),r 4 (by omega),r 5 (by omega),r 6 (by omega),r 7 (by omega),r 8 (by omega)⟩
theorem zh4.out {w:World} {l:List Out} {e:Ending} {w':World} (h:zh4 w l e w'):∃ p cap,e = .returned (.slice p l.length cap) /\ Ext w w' /\ zbq w' p l:=by
 obtain ⟨p,cap,h1,h2,h3⟩:=h;refine ⟨p,cap,h1,h2,?_⟩;rcases h3 with h | ⟨b,hp,-,-,ho,-⟩
 . exact .inl h
 . exact .inr ⟨b,hp,fun i hi=>ho.elem i hi⟩
end Go.Proofs.YtiknejbcehpmoaaGreatDoor
