import Derived.Test.YtmcgnnmffeojpabGreatDoorPk6
import Derived.Test.YtmcgnnmffeojpabGreatDoorPk8
import Derived.Shelf.SlSortCmp.NoneTotal
import Derived.Shelf.Lay
import Derived.Ground.SlsfProg
import Derived.Laws.AppendOwn
set_option maxRecDepth 100000
set_option maxHeartbeats 8000000
namespace Go.Proofs.YtmcgnnmffeojpabGreatDoor
open Go.RowKit Go.Plan
theorem zjS (a b:Int) (r:Int):(if cmpI a b = 0 then r else cmpI a b) = if a < b then -1 else if b < a then 1 else r:=by
 unfold cmpI;split
 . split <;> simp_all
 . split
   . simp_all
   . simp_all
theorem zhC (k1 t1 v1 k2 t2 v2:Int) (r:Int):(if zaF k1 t1 v1 k2 t2 v2 = 0 then r else zaF k1 t1 v1 k2 t2 v2) = (if k1 < k2 then -1 else if k2 < k1 then 1 else if t1 < t2 then -1 else if t2 < t1 then 1 else if v1 < v2 then -1 else if v2 < v1 then 1 else r):=by
 simp only [zaF,orI,zjS];by_cases h1:k1 < k2 <;> by_cases h2:k2 < k1 <;> by_cases h3:t1 < t2 <;> by_cases h4:t2 < t1 <;> by_cases h5:v1 < v2 <;> by_cases h6:v2 < v1 <;> simp [h1,h2,h3,h4,h5,h6]
theorem zcv (a b:Out):zbK a b = zad a b:=by
 simp only [zbK,zad,outI,ordI,orI,zjS,zhC]
theorem ze2 (a b:Out) (w:World) :
 Calls Tryz.prog 69 #[.agg #[.int .i64 a.key,.int .i64 a.l.k,.int .i64 a.l.t,.int .i64 a.l.v,.int .i64 a.r.k,.int .i64 a.r.t,.int .i64 a.r.v,.bool a.hl,.bool a.hr],.agg #[.int .i64 b.key,.int .i64 b.l.k,.int .i64 b.l.t,.int .i64 b.l.v,.int .i64 b.r.k,.int .i64 b.r.t,.int .i64 b.r.v,.bool b.hl,.bool b.hr]] w fun e w' =>
  e = .returned (.int .i64 (zad a b)) /\ Ext w w':=by
 rw [<- zcv];exact zf5 a b w
structure zny where
 lo:Int
 hi:Int
 mo:Int
def zny.ok (p:zny):Prop:=I64 p.lo /\ I64 p.hi /\ I64 p.mo
theorem zkG (xs ys:List Int):ordI ys xs = - ordI xs ys:=by
 induction xs generalizing ys with
 | nil=>cases ys <;> simp [ordI]
 | cons x xs ih =>
   cases ys with
   | nil=>simp [ordI]
   | cons y ys =>
     simp only [ordI];by_cases h1:x < y
     . have h2:¬ y < x:=by omega
       simp [h1,h2]
     . by_cases h2:y < x
       . simp [h1,h2]
       . simp [h1,h2,ih]
theorem zko (xs ys:List Int) (hl:xs.length = ys.length):ordI xs ys = 0 ↔ xs = ys:=by
 induction xs generalizing ys with
 | nil=>cases ys <;> simp [ordI] at hl ⊢
 | cons x xs ih =>
   cases ys with
   | nil=>simp at hl
   | cons y ys =>
     simp only [ordI];by_cases h1:x < y
     . simp [h1];omega
     . by_cases h2:y < x
       . simp [h1,h2];omega
       . have:x = y:=by omega
         subst this;simp [ih ys (by simpa using hl)]
theorem zjj (xs ys zs:List Int) (h1:xs.length = ys.length) (h2:ys.length = zs.length) (p:ordI xs ys <= 0) (q:ordI ys zs <= 0):ordI xs zs <= 0:=by
 induction xs generalizing ys zs with
 | nil=>simp [ordI]
 | cons x xs ih =>
   match ys,zs,h1,h2 with
   | y :: ys,z :: zs,h1,h2 =>
     simp only [ordI] at p q ⊢;by_cases a1:x < y
     . by_cases b1:y < z
       . have:x < z:=by omega
         simp [this]
       . by_cases b2:z < y
         . simp [b1,b2] at q
         . have:x < z:=by omega
           simp [this]
     . by_cases a2:y < x
       . simp [a1,a2] at p
       . simp only [a1,a2,if_false] at p;by_cases b1:y < z
         . have:x < z:=by omega
           simp [this]
         . by_cases b2:z < y
           . simp [b1,b2] at q
           . simp only [b1,b2,if_false] at q;have c1:¬ x < z:=by omega
             have c2:¬ z < x:=by omega
             simp only [c1,c2,if_false];exact ih ys zs (by simpa using h1) (by simpa using h2) p q
theorem zbl (a b:Out):zad a b = ordI (outI a) (outI b):=(zcv ..).symm
theorem zg3 {a b:Bool} (h:flagI a = flagI b):a = b:=by cases a <;> cases b <;> simp [flagI] at h <;> rfl
theorem zlY {a b:Out} (h:outI a = outI b):a = b:=by
 obtain ⟨a1,⟨a2,a3,a4⟩,⟨a5,a6,a7⟩,a8,a9⟩:=a;obtain ⟨b1,⟨b2,b3,b4⟩,⟨b5,b6,b7⟩,b8,b9⟩:=b;simp only [outI,List.cons.injEq,and_true] at h;obtain ⟨rfl,h8,rfl,rfl,rfl,h9,rfl,rfl,rfl⟩:=h;rw [zg3 h8,zg3 h9]
def zoC (a b:Row):Bool:=decide (a = b)
def zo3 (a b:Out):Bool:=decide (a = b)
theorem znH (a b:Row) (w:World):(binOp .eql 37 (.agg #[.int .i64 a.k,.int .i64 a.t,.int .i64 a.v]) (.agg #[.int .i64 b.k,.int .i64 b.t,.int .i64 b.v])).run Tryz.prog w = .ok (.bool (zoC a b)) w:=by
 obtain ⟨a1,a2,a3⟩:=a;obtain ⟨b1,b2,b3⟩:=b;simp only [zoC,Row.mk.injEq];go_simp;by_cases h1:a1 = b1 <;> by_cases h2:a2 = b2 <;> by_cases h3:a3 = b3 <;> simp [h1,h2,h3]
theorem znL (a b:Out) (w:World):(binOp .eql 86 (.agg #[.int .i64 a.key,.int .i64 a.l.k,.int .i64 a.l.t,.int .i64 a.l.v,.int .i64 a.r.k,.int .i64 a.r.t,.int .i64 a.r.v,.bool a.hl,.bool a.hr]) (.agg #[.int .i64 b.key,.int .i64 b.l.k,.int .i64 b.l.t,.int .i64 b.l.v,.int .i64 b.r.k,.int .i64 b.r.t,.int .i64 b.r.v,.bool b.hl,.bool b.hr])).run Tryz.prog w = .ok (.bool (zo3 a b)) w:=by
 obtain ⟨a1,⟨a2,a3,a4⟩,⟨a5,a6,a7⟩,a8,a9⟩:=a;obtain ⟨b1,⟨b2,b3,b4⟩,⟨b5,b6,b7⟩,b8,b9⟩:=b;simp only [zo3,Out.mk.injEq,Row.mk.injEq];go_simp;by_cases h1:a1 = b1
 . by_cases h2:a2 = b2
   . by_cases h3:a3 = b3
     . by_cases h4:a4 = b4
       . by_cases h5:a5 = b5
         . by_cases h6:a6 = b6
           . by_cases h7:a7 = b7
             . by_cases h8:a8 = b8
               . by_cases h9:a9 = b9
                 . simp [h1,h2,h3,h4,h5,h6,h7,h8,h9]
                 . simp [h1,h2,h3,h4,h5,h6,h7,h8,h9]
               . simp [h1,h2,h3,h4,h5,h6,h7,h8]
             . simp [h1,h2,h3,h4,h5,h6,h7]
           . simp [h1,h2,h3,h4,h5,h6]
         . simp [h1,h2,h3,h4,h5]
       . simp [h1,h2,h3,h4]
     . simp [h1,h2,h3]
   . simp [h1,h2]
 . simp [h1]
attribute [local go_sem ↓] znH znL
open Go.RowKit Go.Plan Go.Sort
theorem zar (a b:Out):zad b a = - zad a b:=by rw [zbl,zbl,zkG]
theorem zb5 (a b c:Out) (p:zad a b <= 0) (q:zad b c <= 0):zad a c <= 0:=by
 rw [zbl] at *;exact zjj (outI a) (outI b) (outI c) rfl rfl p q
theorem zbo (a b:Out):zad a b = 0 ↔ a = b:=by
 rw [zbl,zko (outI a) (outI b) rfl];exact ⟨zlY,fun h=>by rw [h]⟩
theorem zl4:SWO (ltOf zad) where
 irrefl x:=by unfold ltOf;rw [(zbo x x).2 rfl];rfl
 trans x y z h1 h2:=by
  simp only [ltOf,decide_eq_true_eq] at *;have h3:=zb5 x y z (by omega) (by omega);rcases Int.lt_or_eq_of_le h3 with h | h
  . exact h
  . have e:=(zbo x z).1 h;subst e
    have:=zar x y
    omega
 ntrans x y z h1 h2:=by
  simp only [ltOf,decide_eq_false_iff_not] at *;have a:=zar x y;have b:=zar y z;have c:=zar x z
  have:=zb5 z y x (by omega) (by omega)
  omega
theorem znp (x y:Out) (h1:ltOf zad x y = false) (h2:ltOf zad y x = false):x = y:=by
 simp only [ltOf,decide_eq_false_iff_not] at *;have a:=zar x y;exact (zbo x y).1 (by omega)
def sortO (l:List Out):List Out:=l.mergeSort fun x y=>!(ltOf zad) y x
theorem leO (x y:Out):(!(ltOf zad) y x) = decide (zad x y <= 0):=by
 have:=zar x y
 unfold ltOf;by_cases h:zad y x < 0
 . simp [h];omega
 . simp [h];omega
theorem zbf (l:List Out):(sortO l).Perm l:=List.mergeSort_perm _ _
theorem zd8 (l:List Out):(sortO l).Pairwise fun x y=>zad x y <= 0:=by
 have:=List.pairwise_mergeSort (le:=fun x y=>!(ltOf zad) y x) (fun a b c h1 h2=>by
  rw [leO] at *;simp only [decide_eq_true_eq] at *
  exact zb5 a b c h1 h2) (fun a b=>by
  rw [leO,leO]
  have:=zar a b
  simp only [Bool.or_eq_true,decide_eq_true_eq]
  omega) l
 exact this.imp (fun h=>by rw [leO] at h;simpa using h)
theorem zfh {l l':List Out} (hp:l.Perm l') (h:l.Pairwise fun x y=>zad x y <= 0) (h':l'.Pairwise fun x y=>zad x y <= 0):l = l' :=
 hp.eq_of_pairwise (fun a b _ _ h1 h2=>(zbo a b).1 (by have:=zar a b;omega)) h h'
theorem zb6 {l l':List Out} (hp:l.Perm l'):sortO l = sortO l' :=
 zfh ((zbf l).trans (hp.trans (zbf l').symm)) (zd8 l) (zd8 l')
theorem zaA (l:List Out):(sortO l).length = l.length:=(zbf l).length_eq
instance:Inhabited Out:=⟨⟨0,⟨0,0,0⟩,⟨0,0,0⟩,false,false⟩⟩
end Go.Proofs.YtmcgnnmffeojpabGreatDoor
namespace Go.Proofs
open Go.Shelf
def Tryz.shSortOut_ren:Go.Shelf.Ren:=⟨fun | 6=>106 | 15=>142 | 14=>141 | 28=>195 | 29=>196 | 20=>187 | 21=>188 | 22=>189 | 23=>190 | 24=>191 | 25=>192 | 26=>193 | 27=>194 | 46=>228 | 47=>229 | 48=>230 | 49=>231 | 50=>232 | 57=>248 | n=>n,fun | 22=>50 | 24=>86 | 25=>137 | 3=>3 | 39=>235 | 0=>0 | 53=>202 | 55=>259 | 4=>4 | 46=>290 | 45=>289 | 50=>82 | 5=>5 | 9=>9 | 66=>317 | 70=>321 | 76=>334 | 77=>119 | n=>n,fun | n=>n⟩
theorem Tryz.shSortOut:Go.Proofs.SlLaysF0.n6 Tryz.prog Tryz.shSortOut_ren:={
 mixed:=by kernel_rfl
 f6:=⟨Tryz.f106.name,by decide,Tryz.func106.trans (congrArg some (by kernel_rfl))⟩
 f14:=⟨Tryz.f141.name,by decide,Tryz.func141.trans (congrArg some (by kernel_rfl))⟩
 f15:=Tryz.func142.trans (congrArg some (by kernel_rfl))
 f20:=⟨Tryz.f187.name,by decide,Tryz.func187.trans (congrArg some (by kernel_rfl))⟩
 f21:=⟨Tryz.f188.name,by decide,Tryz.func188.trans (congrArg some (by kernel_rfl))⟩
 f22:=⟨Tryz.f189.name,by decide,Tryz.func189.trans (congrArg some (by kernel_rfl))⟩
 f23:=⟨Tryz.f190.name,by decide,Tryz.func190.trans (congrArg some (by kernel_rfl))⟩
 f24:=⟨Tryz.f191.name,by decide,Tryz.func191.trans (congrArg some (by kernel_rfl))⟩
 f25:=⟨Tryz.f192.name,by decide,Tryz.func192.trans (congrArg some (by kernel_rfl))⟩
 f26:=⟨Tryz.f193.name,by decide,Tryz.func193.trans (congrArg some (by kernel_rfl))⟩
 f27:=⟨Tryz.f194.name,by decide,Tryz.func194.trans (congrArg some (by kernel_rfl))⟩
 f28:=Tryz.func195.trans (congrArg some (by kernel_rfl))
 f29:=Tryz.func196.trans (congrArg some (by kernel_rfl))
 f46:=⟨Tryz.f228.name,by decide,Tryz.func228.trans (congrArg some (by kernel_rfl))⟩
 f47:=Tryz.func229.trans (congrArg some (by kernel_rfl))
 f48:=Tryz.func230.trans (congrArg some (by kernel_rfl))
 f49:=⟨Tryz.f231.name,by decide,Tryz.func231.trans (congrArg some (by kernel_rfl))⟩
 f50:=⟨Tryz.f232.name,by decide,Tryz.func232.trans (congrArg some (by kernel_rfl))⟩
 f57:=⟨Tryz.f248.name,by decide,Tryz.func248.trans (congrArg some (by kernel_rfl))⟩
 t0:=Tryz.underlying0
 a0:=Tryz.isAgg0
 z0:=Tryz.sizeOf0
 v0:=Tryz.zeroValue0
 t3:=Tryz.underlying3
 a3:=Tryz.isAgg3
 z3:=Tryz.sizeOf3
 v3:=Tryz.zeroValue3
 t4:=Tryz.underlying4
 a4:=Tryz.isAgg4
 z4:=Tryz.sizeOf4
 v4:=Tryz.zeroValue4
 t5:=Tryz.underlying5
 a5:=Tryz.isAgg5
 z5:=Tryz.sizeOf5
 v5:=Tryz.zeroValue5
 t9:=Tryz.underlying9
 a9:=Tryz.isAgg9
 z9:=Tryz.sizeOf9
 v9:=Tryz.zeroValue9
 t22:=Tryz.underlying50
 a22:=Tryz.isAgg50
 z22:=Tryz.sizeOf50
 v22:=Tryz.zeroValue50
 t25:=Tryz.underlying137
 a25:=Tryz.isAgg137
 z25:=Tryz.sizeOf137
 v25:=Tryz.zeroValue137
 t39:=Tryz.underlying235
 a39:=Tryz.isAgg235
 z39:=Tryz.sizeOf235
 v39:=Tryz.zeroValue235
 t45:=Tryz.underlying289
 a45:=Tryz.isAgg289
 z45:=Tryz.sizeOf289
 v45:=Tryz.zeroValue289
 t46:=Tryz.underlying290
 a46:=Tryz.isAgg290
 z46:=Tryz.sizeOf290
 v46:=Tryz.zeroValue290
 t50:=Tryz.underlying82
 a50:=Tryz.isAgg82
 z50:=Tryz.sizeOf82
 v50:=Tryz.zeroValue82
 t53:=Tryz.underlying202
 a53:=Tryz.isAgg202
 z53:=Tryz.sizeOf202
 v53:=Tryz.zeroValue202
 t55:=Tryz.underlying259
 a55:=Tryz.isAgg259
 z55:=Tryz.sizeOf259
 v55:=Tryz.zeroValue259
 t66:=Tryz.underlying317
 a66:=Tryz.isAgg317
 z66:=Tryz.sizeOf317
 v66:=Tryz.zeroValue317
 t70:=Tryz.underlying321
 a70:=Tryz.isAgg321
 z70:=Tryz.sizeOf321
 v70:=Tryz.zeroValue321
 t76:=Tryz.underlying334
 a76:=Tryz.isAgg334
 z76:=Tryz.sizeOf334
 v76:=Tryz.zeroValue334
 t77:=Tryz.underlying119
 a77:=Tryz.isAgg119
 z77:=Tryz.sizeOf119
 v77:=Tryz.zeroValue119 }
end Go.Proofs
namespace Go.Proofs.YtmcgnnmffeojpabGreatDoor
open Go.RowKit Go.Plan Go.Sort Go.Shelf Go.Lib
theorem zas (x:Out):x.cells.length = 9:=rfl
theorem zb0 (x:Out):∀ v ∈ x.cells,v.oneCell' = true:=by
 intro v hv;simp only [Out.cells,List.mem_cons,List.not_mem_nil,or_false] at hv;rcases hv with rfl | rfl | rfl | rfl | rfl | rfl | rfl | rfl | rfl <;> rfl
theorem zdi (l:List Out):(l.flatMap Out.cells).length = l.length * 9:=by
 induction l with
 | nil=>rfl
 | cons x r ih=>rw [List.flatMap_cons,List.length_append,ih,zas,List.length_cons];omega
theorem zfC (l:List Out) (i c:Nat) (hi:i < l.length) (hc:c < 9):(l.flatMap Out.cells)[i * 9 + c]? = (l[i]'hi).cells[c]?:=by
 induction l generalizing i with
 | nil=>simp at hi
 | cons x r ih =>
   rw [List.flatMap_cons];cases i with
   | zero=>rw [List.getElem?_append_left (by rw [zas];omega)];simp
   | succ i =>
     rw [List.getElem?_append_right (by rw [zas];omega),zas]
     have:=ih i (by simpa using hi)
     rw [show (i + 1) * 9 + c - 9 = i * 9 + c by omega,this];simp
def zbp (w:World) (b off:Nat) (l:List Out):Prop:=HoldsK Out.cells 9 w b off l.toArray
theorem zbp.cell {w:World} {b off:Nat} {l:List Out} (h:zbp w b off l) (i c:Nat) (hi:i < l.length) (hc:c < 9) :
 w.cell? ⟨b,off + i * 9 + c,none⟩ = (l[i]'hi).cells[c]? /\ w.frozen? ⟨b,off + i * 9 + c,none⟩ = false:=by
 have:=HoldsK.cell h (i:=i) (c:=c) (by simpa using hi) hc
 refine ⟨this.1.trans ?_,this.2⟩;have e:l.toArray[i]! = l[i]'hi:=by simp [hi]
 rw [e,List.getElem!_eq_getElem?_getD,List.getElem?_eq_getElem (by rw [zas];exact hc)];rfl
theorem zjc (l:List Out):(flatK Out.cells 9 l.toArray).toList = l.flatMap Out.cells:=by
 apply List.ext_getElem?;intro j;by_cases hj:j < l.length * 9
 . have hd:j / 9 < l.length:=by omega
   have e1:=zfC l (j / 9) (j % 9) hd (by omega);rw [show j / 9 * 9 + j % 9 = j by omega] at e1;rw [e1];have hs:j < (flatK Out.cells 9 l.toArray).size:=by simpa using hj
   have e2:=get_flatK Out.cells 9 l.toArray j (by simpa using hj);rw [Array.getElem?_toList,Array.getElem?_eq_getElem hs];rw [getElem!_pos _ j hs] at e2;rw [e2];have e:l.toArray[j / 9]! = l[j / 9]'hd:=by simp [hd]
   rw [e,List.getElem!_eq_getElem?_getD,List.getElem?_eq_getElem (by rw [zas];omega)];rfl
 . rw [List.getElem?_eq_none (by simp;omega),List.getElem?_eq_none (by rw [zdi];omega)]
theorem zbp.of_own {w:World} {base:Nat} {e:TypeId} {b cap n:Nat} {l:List Out} (h:w.ownsRow base e 9 (.slice (some ⟨b,0,none⟩) n cap) n (l.flatMap Out.cells)):zbp w b 0 l:=by
 obtain ⟨hl,hr⟩:=h;rcases hr with ⟨h,-⟩ | ⟨g,cap',cur,hv,hbase,hb,h1,h2,h3,h4⟩
 . cases h
 . simp only [Value.slice.injEq,Option.some.injEq,Addr.mk.injEq,and_true,true_and] at hv;obtain ⟨rfl,rfl⟩:=hv;intro j hj;have hj':j < l.length * 9:=by simpa using hj
   refine ⟨?_,by simp [World.frozen?,hb]⟩;rw [zdi] at hl;have e1:(cur.toList.take (n * 9))[j]? = (flatK Out.cells 9 l.toArray).toList[j]?:=by rw [h4,zjc]
   rw [List.getElem?_take_of_lt (by omega),Array.getElem?_toList,Array.getElem?_toList] at e1;simp only [World.cell?,hb,Nat.zero_add];have hs:j < (flatK Out.cells 9 l.toArray).size:=hj;rw [e1,getElem!_pos _ j hs,Array.getElem?_eq_getElem hs];rfl
theorem zbp.keep {w w':World} {b off:Nat} {l:List Out} (h:zbp w b off l) (hb:w'.heap[b]? = w.heap[b]?):zbp w' b off l:=by
 intro j hj;obtain ⟨h1,h2⟩:=h j hj;exact ⟨(World.cell?_of_block (w:=w) (w':=w') (a:=⟨b,off + j,none⟩) hb).trans h1,(World.frozen?_of_block (w:=w) (w':=w') (a:=⟨b,off + j,none⟩) hb).trans h2⟩
theorem ze9 {w:World} {b n:Nat} {d:Array Out} {os:Array Obj}:ExtM (fun k=>k = b) w (sortWorldK Out.cells 9 w b 0 n d os):=by
 refine ⟨rfl,rfl,rfl,by simp [sortWorldK,putRowK],fun k hk hne=>?_⟩;unfold sortWorldK putRowK;rw [heap_grow_old _ _ (by simpa using hk)];have:b ≠ k:=fun e=>hne e.symm;simp [putRow,mapBlock,Sort.ahead,Array.getElem?_modify,this]
theorem zip (w:World):(isAgg 86).run Tryz.prog w = .ok true w:=by kernel_rfl
theorem zjJ (w:World):(Go.sizeOf 86).run Tryz.prog w = .ok 9 w:=by kernel_rfl
def OTag (w:World) (b:Nat):Prop:=∃ c,w.heap[b]? = some (.cells c 86 (0,0))
theorem znW {w:World} {b n:Nat} {d:Array Out} {os:Array Obj} (h:OTag w b):OTag (sortWorldK Out.cells 9 w b 0 n d os) b:=by
 obtain ⟨c,hc⟩:=h;have hlt:=(Array.getElem?_eq_some_iff.1 hc).1;unfold sortWorldK putRowK OTag;rw [heap_grow_old _ _ (by simpa using hlt)];simp only [putRow,mapBlock,Sort.ahead,Array.getElem?_modify,hc,if_pos,Option.map_some];exact ⟨_,rfl⟩
theorem zkP (b cap:Nat) (l:List Out) (w:World) (hH:zbp w b 0 l) (hb:b < w.heap.size) (hsz:l.length < 4611686018427387904) :
 Calls Tryz.prog 106 #[.slice (some ⟨b,0,none⟩) l.length cap,.func (.func 107) #[] #[]] w fun e w' =>
  e = .returned (.tuple #[]) /\ ExtM (fun k=>k = b) w w' /\ zbp w' b 0 (sortO l) /\ (OTag w b -> OTag w' b):=by
 have eg:∀ args w,(callFunc 107 args).run Tryz.prog w = .ok (.enter 107 args) w:=enters_of Tryz.func107 (by kernel_rfl) rfl;have hcmp:CmpLays Tryz.prog 107 #[] Out.cells 9 zad b 0 l.toArray.size w:=fun _ _ _ _ x y=>zgw x y _;have hcon:=AnyQ.slices_SortFunc_total Tryz.shSortOut 9 zip zjJ Out.cells zas zb0 zad zl4 107 #[] b 0 cap l.toArray w eg hcmp hH hb (by simpa using hsz) znp;have e1:l.toArray.size = l.length:=by simp
 rw [e1] at hcon;refine hcon.mono fun e w' hh=>?_;obtain ⟨he,n,os,hw⟩:=hh;have e2:(l.toArray.toList.mergeSort fun x y=>!(ltOf zad) y x).toArray = (sortO l).toArray:=rfl;rw [e2] at hw;subst hw;exact ⟨he,ze9,holdsK_sortWorldK_c Out.cells 9 w b 0 l.toArray (sortO l).toArray n os hH hb (by simp [zaA]),znW⟩
theorem zeL (p:Option Addr) (cap:Nat) (w:World) :
 Calls Tryz.prog 106 #[.slice p 0 cap,.func (.func 107) #[] #[]] w fun e w'=>e = .returned (.tuple #[]) /\ w = w' :=
 (AnyF.slices_SortFunc_none (P:=Tryz.prog) (ρ:=Tryz.shSortOut_ren) Tryz.shSortOut p cap (.func (.func 107) #[] #[]) w).mono fun _ _ h=>⟨h.1,h.2.symm⟩
end Go.Proofs.YtmcgnnmffeojpabGreatDoor
