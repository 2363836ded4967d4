import Derived.Test.YtmcgnnmffeojpabGreatDoorPk6
import Derived.Test.YtmcgnnmffeojpabGreatDoorPk8
import Derived.Shelf.Spec.SlicesInsertGrow
import Derived.Shelf.Spec.SlicesInsert
import Derived.Shelf.Slices.SearchI
import Derived.Shelf.Slices.Delete
import Derived.Shelf.Slices.Cells
import Derived.Shelf.Slices.Empties
import Derived.Ground.Names2Prog
import Derived.Lib.LazyBuf
set_option maxRecDepth 100000
set_option maxHeartbeats 8000000
namespace Go.Proofs
open Go.Shelf
def Tryz.shSearch_ren:Go.Shelf.Ren:=⟨fun | 25=>135 | 31=>181 | 32=>182 | 37=>197 | n=>n,fun | 22=>81 | 3=>3 | 4=>4 | 40=>235 | 0=>0 | n=>n,fun | n=>n⟩
theorem Tryz.shSearch:Go.Proofs.Lays2.n25 Tryz.prog Tryz.shSearch_ren:={
 mixed:=by kernel_rfl
 f25:=Tryz.func135.trans (congrArg some (by kernel_rfl))
 f31:=Tryz.func181.trans (congrArg some (by kernel_rfl))
 f32:=Tryz.func182.trans (congrArg some (by kernel_rfl))
 f37:=Tryz.func197.trans (congrArg some (by kernel_rfl))
 t0:=Tryz.underlying0
 a0:=Tryz.isAgg0
 z0:=Tryz.sizeOf0
 v0:=Tryz.zeroValue0
 t3:=Tryz.underlying3
 a3:=Tryz.isAgg3
 z3:=Tryz.sizeOf3
 v3:=Tryz.zeroValue3
 t4:=Tryz.underlying4
 a4:=Tryz.isAgg4
 z4:=Tryz.sizeOf4
 v4:=Tryz.zeroValue4
 t22:=Tryz.underlying81
 a22:=Tryz.isAgg81
 z22:=Tryz.sizeOf81
 v22:=Tryz.zeroValue81
 t40:=Tryz.underlying235
 a40:=Tryz.isAgg235
 z40:=Tryz.sizeOf235
 v40:=Tryz.zeroValue235 }
def Tryz.shDelete_ren:Go.Shelf.Ren:=⟨fun | 23=>180 | n=>n,fun | 22=>81 | 3=>3 | 4=>4 | 0=>0 | n=>n,fun | n=>n⟩
theorem Tryz.shDelete:Go.Proofs.Lays2.n23 Tryz.prog Tryz.shDelete_ren:={
 mixed:=by kernel_rfl
 f23:=Tryz.func180.trans (congrArg some (by kernel_rfl))
 t0:=Tryz.underlying0
 a0:=Tryz.isAgg0
 z0:=Tryz.sizeOf0
 v0:=Tryz.zeroValue0
 t3:=Tryz.underlying3
 a3:=Tryz.isAgg3
 z3:=Tryz.sizeOf3
 v3:=Tryz.zeroValue3
 t4:=Tryz.underlying4
 a4:=Tryz.isAgg4
 z4:=Tryz.sizeOf4
 v4:=Tryz.zeroValue4
 t22:=Tryz.underlying81
 a22:=Tryz.isAgg81
 z22:=Tryz.sizeOf81
 v22:=Tryz.zeroValue81
 i3:=by kernel_rfl }
def Tryz.shInsert_ren:Go.Shelf.Ren:=⟨fun | 21=>136 | 27=>183 | 28=>184 | 35=>226 | 39=>247 | n=>n,fun | 22=>81 | 3=>3 | 4=>4 | 0=>0 | n=>n,fun | n=>n⟩
theorem Tryz.shInsert:Go.Proofs.Lays2.n21 Tryz.prog Tryz.shInsert_ren:={
 mixed:=by kernel_rfl
 f21:=Tryz.func136.trans (congrArg some (by kernel_rfl))
 f27:=Tryz.func183.trans (congrArg some (by kernel_rfl))
 f28:=Tryz.func184.trans (congrArg some (by kernel_rfl))
 f35:=Tryz.func226.trans (congrArg some (by kernel_rfl))
 f39:=Tryz.func247.trans (congrArg some (by kernel_rfl))
 t0:=Tryz.underlying0
 a0:=Tryz.isAgg0
 z0:=Tryz.sizeOf0
 v0:=Tryz.zeroValue0
 t3:=Tryz.underlying3
 a3:=Tryz.isAgg3
 z3:=Tryz.sizeOf3
 v3:=Tryz.zeroValue3
 t4:=Tryz.underlying4
 a4:=Tryz.isAgg4
 z4:=Tryz.sizeOf4
 v4:=Tryz.zeroValue4
 t22:=Tryz.underlying81
 a22:=Tryz.isAgg81
 z22:=Tryz.sizeOf81
 v22:=Tryz.zeroValue81
 i3:=by kernel_rfl }
end Go.Proofs
namespace Go.Proofs.YtmcgnnmffeojpabGreatDoor
open Go.RowKit Go.Plan Go.Shelf Go.Sort
def IRow (w:World) (v:Value) (xs:List Int):Prop :=
 (v = .slice none 0 0 /\ xs = []) \/ ∃ g cap f,v = .slice (some ⟨g,0,none⟩) xs.length cap /\ w.rowIs g 3 cap f /\ xs.length <= cap /\ cap <= maxLen /\ 0 < cap /\ ∀ j,j < xs.length -> f j = .int .i64 (xs.getD j 0)
theorem IRow.nil (w:World):IRow w (.slice none 0 0) []:=.inl ⟨rfl,rfl⟩
theorem IRow.keep {w w':World} {v:Value} {xs:List Int} (h:IRow w v xs) (hb:∀ k,v.ownBlock = some k -> w'.heap[k]? = w.heap[k]?):IRow w' v xs:=by
 rcases h with h | ⟨g,cap,f,rfl,h1,h2⟩
 . exact .inl h
 . exact .inr ⟨g,cap,f,rfl,h1.of_block (hb g rfl),h2⟩
theorem IRow.lt {w:World} {v:Value} {xs:List Int} (h:IRow w v xs) (k:Nat) (hk:v.ownBlock = some k):k < w.heap.size:=by
 rcases h with ⟨rfl,-⟩ | ⟨g,cap,f,rfl,h1,h2⟩
 . cases hk
 . obtain rfl:=Option.some.inj hk;exact h1.lt
theorem IRow.len {w:World} {v:Value} {xs:List Int} (h:IRow w v xs):∃ p cap,v = .slice p xs.length cap:=by
 rcases h with ⟨rfl,rfl⟩ | ⟨g,cap,f,rfl,h1,h2⟩
 . exact ⟨none,0,rfl⟩
 . exact ⟨_,cap,rfl⟩
theorem zjF (w:World) (q:Nat):Grw w (w.drewN q):=⟨q,#[],by rw [grow_empty]⟩
theorem zhR (v:Value) (xs:List Int) (x:Int) (w:World) (h:IRow w v xs) (hs:xs.Pairwise (. <= ·)) (hl:xs.length < 1000000000) :
 Calls Tryz.prog 135 #[v,.int .i64 x] w fun e w'=>e = .returned (.tuple #[.int .i64 (xs.countP (. < x):Nat),.bool (xs.contains x)]) /\ Grw w w':=by
 rcases h with ⟨rfl,rfl⟩ | ⟨g,cap,f,rfl,h1,h2,h3,h4,h5⟩
 . exact (Any.slices_BinarySearch_int_empty Tryz.shSearch none 0 x w).mono fun e w' hh=>⟨by rw [hh.1];rfl,hh.2 ▸ Grw.refl _⟩
 . have hc:∀ j,j < xs.length -> w.cell? ⟨g,0 + j,none⟩ = some (.int .i64 (xs.getD j 0)):=fun j hj=>by rw [Nat.zero_add,h1.cell (by omega),h5 j hj]
   refine (Any.slices_BinarySearch_int Tryz.shSearch g 0 xs.length cap xs x w (Nat.le_refl _) (by omega) hc (by rw [List.take_length];exact hs)).mono fun e w' hh=>?_;rw [List.take_length] at hh;obtain ⟨he,q,rfl⟩:=hh;exact ⟨he,zjF w q⟩
def rowM (v:Value) (k:Nat):Prop:=v.ownBlock = some k
theorem zmm (v:Value) (xs:List Int) (i:Nat) (w:World) (h:IRow w v xs) (hi:i < xs.length) :
 Calls Tryz.prog 180 #[v,.int .i64 (i:Int),.int .i64 ((i:Int) + 1)] w fun e w'=>∃ v',e = .returned v' /\ ExtM (rowM v) w w' /\ IRow w' v' (xs.eraseIdx i) /\ v'.ownBlock = v.ownBlock:=by
 rcases h with ⟨rfl,rfl⟩ | ⟨g,cap,f,rfl,h1,h2,h3,h4,h5⟩
 . simp at hi
 have hH:Holds (Value.int .i64) w g 0 xs.toArray:=by
  intro j hj;have hj':j < xs.length:=by simpa using hj
  rw [Nat.zero_add];refine ⟨?_,h1.frozen j⟩;rw [h1.cell (by omega),h5 j hj'];simp [hj',List.getD]
 have hcon:=Any.slices_Delete_int Tryz.shDelete g 0 cap i (i + 1) xs w hH h2 (by unfold maxLen at h3;omega) (by omega) (by omega);have e1:((i + 1:Nat):Int) = (i:Int) + 1:=by omega
 rw [e1] at hcon;refine hcon.mono fun e w' hh=>?_;obtain ⟨he,q,rfl⟩:=hh;have e2:xs.length - (i + 1 - i) = (xs.eraseIdx i).length:=by rw [List.length_eraseIdx,if_pos hi];omega
 have e3:xs.take i ++ xs.drop (i + 1) = xs.eraseIdx i:=(List.eraseIdx_eq_take_drop_succ xs i).symm;rw [e2] at he;rw [e3];generalize hd:(xs.eraseIdx i ++ List.replicate (i + 1 - i) (0:Int)).toArray = d;have hds:d.size = xs.length:=by rw [<- hd];simp;omega
 refine ⟨_,he,?_,.inr ⟨g,cap,fun j=>if j < d.size then .int .i64 d[j]! else f j,rfl,?_,by omega,h3,h4,fun j hj=>?_⟩,rfl⟩
 . refine ⟨rfl,rfl,rfl,by simp [putRow,mapBlock,Sort.ahead],fun k hk hne=>?_⟩;have:g ≠ k:=fun e=>hne (by rw [e];rfl);simp [putRow,mapBlock,Sort.ahead,Array.getElem?_modify,this]
 . obtain ⟨c,hb,hc,hf⟩:=h1;refine ⟨putCells (Value.int .i64) 0 d c,?_,by simp [putCells,hc],fun j hj=>?_⟩
   . simp [putRow,mapBlock,Sort.ahead,Array.getElem?_modify,hb,onCells]
   . simp only [putCells,Array.getElem?_mapIdx,hf j hj,Option.map_some,Nat.zero_add,Nat.zero_le,true_and,Nat.sub_zero]
 . have hj':j < d.size:=by omega
   simp only [if_pos hj'];congr 1;rw [<- hd];simp only [List.getElem!_toArray,List.getElem!_eq_getElem?_getD,List.getElem?_append_left hj,List.getD];rfl
def insI (xs:List Int) (i:Nat) (x:Int):List Int:=xs.take i ++ x :: xs.drop i
theorem zmS (xs:List Int) (i:Nat) (x:Int) (hi:i <= xs.length):(insI xs i x).length = xs.length + 1:=by simp [insI];omega
theorem zfo (xs:List Int) (i:Nat) (x:Int) (hi:i <= xs.length) (j:Nat) (hj:j < xs.length + 1):(insI xs i x).getD j 0 = if j < i then xs.getD j 0 else if j = i then x else xs.getD (j - 1) 0:=by
 unfold insI List.getD;rcases Nat.lt_trichotomy j i with h | h | h
 . rw [if_pos h,List.getElem?_append_left (by simp;omega),List.getElem?_take_of_lt h]
 . subst h;rw [if_neg (by omega),if_pos rfl,List.getElem?_append_right (by simp;omega)];simp [Nat.min_eq_left hi]
 . rw [if_neg (by omega),if_neg (by omega),List.getElem?_append_right (by simp;omega)];simp only [List.length_take,Nat.min_eq_left hi];rw [show j - i = (j - 1 - i) + 1 by omega,List.getElem?_cons_succ,List.getElem?_drop];congr 2;omega
theorem zgA {w:World} {g cap:Nat} {f:Nat -> Value} {xs:List Int} {i:Nat} {x:Int} (h1:w.rowIs g 3 cap f) (_hroom:xs.length + 1 <= cap) (hi:i < xs.length) (h5:∀ j,j < xs.length -> f j = .int .i64 (xs.getD j 0)) :
 ∃ f',((w.drew.setCells g (0 + (i + 1)) ((xs.map (Value.int .i64)).drop i)).setCells g (0 + i) [.int .i64 x]).rowIs g 3 cap f' /\ ∀ j,j < xs.length + 1 -> f' j = .int .i64 ((insI xs i x).getD j 0):=by
 have r1:=rowIs_setCells ((xs.map (Value.int .i64)).drop i) (0 + (i + 1)) w.drew f h1.drew;have r2:=rowIs_setCells [.int .i64 x] (0 + i) _ _ r1;refine ⟨_,r2,fun j hj=>?_⟩;rw [zfo xs i x (by omega) j hj];simp only [List.length_singleton,List.length_drop,List.length_map];rcases Nat.lt_trichotomy j i with h | h | h
 . rw [if_neg (by omega),if_neg (by omega),if_pos h];exact h5 j (by omega)
 . subst h;rw [if_pos (by omega),if_neg (by omega),if_pos rfl];simp
 . rw [if_neg (by omega),if_pos (by omega),if_neg (by omega),if_neg (by omega),List.getElem?_drop,List.getElem?_map];have e:i + (j - (0 + (i + 1))) = j - 1:=by omega
   have hj1:j - 1 < xs.length:=by omega
   rw [e,List.getElem?_eq_getElem hj1];simp [List.getD,hj1]
theorem oneI (xs:List Int):∀ v ∈ xs.map (Value.int .i64),v.oneCell' = true:=by
 intro v hv;obtain ⟨x,-,rfl⟩:=List.mem_map.1 hv;rfl
theorem zlQ {xs:List Int} {j:Nat} {v:Value} (h:(xs.map (Value.int .i64))[j]? = some v):j < xs.length /\ v = .int .i64 (xs.getD j 0):=by
 have hj:j < xs.length:=by simpa using (List.getElem?_eq_some_iff.1 h).1
 refine ⟨hj,?_⟩;rw [List.getElem?_map,List.getElem?_eq_getElem hj] at h;simp only [Option.map_some,Option.some.injEq] at h;rw [<- h];simp [List.getD,hj]
theorem zmZ (xs:List Int) (x:Int):insI xs xs.length x = xs ++ [x]:=by simp [insI]
theorem zpm (w:World) (ys:List Int) (gc:Nat) (hg:ys.length <= gc):(w.alloc (.cells ((ys.map (Value.int .i64)).toArray ++ Builtin.zeroCells (Value.int .i64 0).cells (gc - ys.length)) 3)).rowIs w.heap.size 3 gc (fun j=>.int .i64 (ys.getD j 0)):=by
 refine ⟨_,heap_alloc_new _ _,?_,fun j hj=>?_⟩
 . simp only [Array.size_append,List.size_toArray,List.length_map,size_zeroCells];have:(Value.int .i64 0).cells.size = 1:=rfl;rw [this];omega
 . rcases Nat.lt_or_ge j ys.length with h | h
   . rw [Array.getElem?_append_left (by simpa using h)];simp [h,List.getD]
   . rw [Array.getElem?_append_right (by simpa using h)];have hz:∀ k n,k < n -> (Builtin.zeroCells (Value.int .i64 0).cells n)[k]? = some (.int .i64 0):=by
      intro k n hk;simp [Builtin.zeroCells,Value.cells,hk,Nat.mod_one]
     rw [hz _ _ (by simp;omega)];simp [List.getD,List.getElem?_eq_none h]
theorem zbi (g:Nat):∀ (vs:List Value) (o:Nat) (w:World),ExtM (fun k=>k = g) w (w.setCells g o vs)
 | [],_,w=>ExtM.refl w
 | v :: r,o,w=>ExtM.trans _ _ _ (ExtM.setCell (M:=fun k=>k = g) (ExtM.refl w) (p:=⟨g,o,none⟩) (.inr rfl) v) (zbi g r (o + 1) _)
theorem zhc {w:World} {xs:List Int} {i gc:Nat} {x:Int} (hi:i < xs.length) (hg:xs.length + 1 <= gc) :
 ∃ f',((((w.alloc (.cells (((xs.map (Value.int .i64)).take i).toArray ++ Builtin.zeroCells (Value.int .i64 0).cells (xs.length + 1 - i) ++ Builtin.zeroCells (Value.int .i64 0).cells (gc - (xs.length + 1))) 3)).drew.setCells w.heap.size i [.int .i64 x]).drew).setCells w.heap.size (i + 1) ((xs.map (Value.int .i64)).drop i)).rowIs w.heap.size 3 gc f' /\
   ∀ j,j < xs.length + 1 -> f' j = .int .i64 ((insI xs i x).getD j 0):=by
 generalize hc:(((xs.map (Value.int .i64)).take i).toArray ++ Builtin.zeroCells (Value.int .i64 0).cells (xs.length + 1 - i) ++ Builtin.zeroCells (Value.int .i64 0).cells (gc - (xs.length + 1)):Array Value) = c;have hs:c.size = gc:=by
  rw [<- hc];simp only [Array.size_append,List.size_toArray,List.length_take,List.length_map,size_zeroCells];have:(Value.int .i64 0).cells.size = 1:=rfl;rw [this];omega
 have r0:=World.rowIs_alloc w c 3 (fun j=>(c[j]?).getD default) (fun j hj=>by rw [Array.getElem?_eq_getElem hj];rfl);rw [hs] at r0;have r1:=rowIs_setCells [.int .i64 x] i _ _ r0.drew;have r2:=rowIs_setCells ((xs.map (Value.int .i64)).drop i) (i + 1) _ _ r1.drew;refine ⟨_,r2,fun j hj=>?_⟩;rw [zfo xs i x (by omega) j hj];simp only [List.length_singleton,List.length_drop,List.length_map];rcases Nat.lt_trichotomy j i with h | h | h
 . rw [if_neg (by omega),if_neg (by omega),if_pos h,<- hc];have hji:j < ((xs.map (Value.int .i64)).take i).toArray.size:=by simp;omega
   have hjx:j < xs.length:=by omega
   rw [Array.getElem?_append_left (by rw [Array.size_append];omega),Array.getElem?_append_left hji];simp [h,hjx,List.getD]
 . subst h;rw [if_neg (by omega),if_pos (by omega),if_neg (by omega),if_pos rfl];simp
 . rw [if_pos (by omega),if_neg (by omega),if_neg (by omega),List.getElem?_drop,List.getElem?_map];have e:i + (j - (i + 1)) = j - 1:=by omega
   have hj1:j - 1 < xs.length:=by omega
   rw [e,List.getElem?_eq_getElem hj1];simp [List.getD,hj1]
theorem zmi (v:Value) (xs:List Int) (i nb:Nat) (x:Int) (w:World) (h:IRow w v xs) (hi:i <= xs.length) (hb:w.rowIs nb 3 1 (fun _=>.int .i64 x)) (hne:v.ownBlock ≠ some nb) (hl:xs.length < 1000000000) :
 Calls Tryz.prog 136 #[v,.int .i64 (i:Int),.slice (some ⟨nb,0,none⟩) 1 1] w fun e w'=>∃ v',e = .returned v' /\ ExtM (rowM v) w w' /\ IRow w' v' (insI xs i x) /\ (v'.ownBlock = v.ownBlock \/ ∃ k,v'.ownBlock = some k /\ w.heap.size <= k):=by
 have hvs:∀ (j:Nat) (u:Value),([.int .i64 x]:List Value)[j]? = some u -> w.cell? ⟨nb,0 + j,none⟩ = some u:=by
  intro j u hj;have h1:=(List.getElem?_eq_some_iff.1 hj).1;obtain rfl:j = 0:=by simpa using h1
  simp only [List.getElem?_cons_zero,Option.some.injEq] at hj;subst hj;exact hb.cell (by omega)
 have h1v:∀ u ∈ ([.int .i64 x]:List Value),u.oneCell' = true:=by
  intro u hu;obtain rfl:=List.mem_singleton.1 hu;rfl
 have hlI:=zmS xs i x hi;have endGrow:∀ (base:Option Addr) (cap:Nat),v = .slice base xs.length cap -> i = xs.length -> xs.length <= cap -> cap < xs.length + 1 -> (base = none -> xs.length = 0) -> (∀ a,base = some a -> ∀ j u,(xs.map (Value.int .i64))[j]? = some u -> w.cell? (a.add j) = some u) ->
  Calls Tryz.prog 136 #[v,.int .i64 (i:Int),.slice (some ⟨nb,0,none⟩) 1 1] w fun e w'=>∃ v',e = .returned v' /\ ExtM (rowM v) w w' /\ IRow w' v' (insI xs i x) /\ (v'.ownBlock = v.ownBlock \/ ∃ k,v'.ownBlock = some k /\ w.heap.size <= k):=by
  intro base cap hv hin hc1 hc2 hnil hcs;subst hin;subst hv;have hcon:=Any2.slices_Insert_int_end_grow Tryz.shInsert base xs.length cap nb 0 1 1 (xs.map (Value.int .i64)) [.int .i64 x] w (by decide) hc1 hc2 (by omega) (by simp) rfl hnil hcs hvs h1v;refine hcon.mono fun e w' hh=>?_;obtain ⟨he,rfl⟩:=hh;have hg:=grownCap_ge w (xs.length + 1) cap 3;have hm:grownCap w (xs.length + 1) cap 3 <= maxLen:=grownCap_le_maxLen w (xs.length + 1) cap 3 (by unfold maxLen;omega);have hnr:=zpm w.drew (insI xs xs.length x) (grownCap w (xs.length + 1) cap 3) (by omega);have e1:(insI xs xs.length x).map (Value.int .i64) = xs.map (Value.int .i64) ++ [.int .i64 x]:=by rw [zmZ];simp
  rw [e1,hlI] at hnr;refine ⟨_,he,((ExtM.refl _).drew).alloc _,.inr ⟨w.heap.size,_,_,?_,hnr,by omega,hm,by omega,fun j _=>rfl⟩,.inr ⟨w.heap.size,rfl,Nat.le_refl _⟩⟩;rw [hlI];rfl
 rcases h with ⟨rfl,rfl⟩ | ⟨g,cap,f,rfl,h1,h2,h3,h4,h5⟩
 . exact endGrow none 0 rfl (by simpa using hi) (Nat.le_refl _) (by simp) (fun _=>rfl) (fun a ha=>by cases ha)
 have hcell:∀ (j:Nat) (u:Value),(xs.map (Value.int .i64))[j]? = some u -> w.cell? ⟨g,0 + j,none⟩ = some u:=fun j u hj=>by
  obtain ⟨hj1,rfl⟩:=zlQ hj;rw [Nat.zero_add,h1.cell (by omega),h5 j hj1]
 have hc63:cap <= 9223372036854775807:=by unfold maxLen at h3;omega
 have hgn:nb ≠ g:=fun e=>hne (by rw [e];rfl);rcases Nat.lt_or_ge i xs.length with hin | hin
 . rcases Nat.lt_or_ge cap (xs.length + 1) with hroom | hroom
   . -- no room
     have hcon:=Any2.slices_Insert_int_grow Tryz.shInsert g 0 xs.length cap i nb 0 1 1 (xs.map (Value.int .i64)) [.int .i64 x] w hin (by decide) h2 hroom (by omega) (by simp) rfl hcell hvs (oneI xs) h1v;refine hcon.mono fun e w' hh=>?_;obtain ⟨he,rfl⟩:=hh;have hg:=grownCap_ge w (xs.length + 1) cap 3;have hm:grownCap w (xs.length + 1) cap 3 <= maxLen:=grownCap_le_maxLen w (xs.length + 1) cap 3 (by unfold maxLen;omega);obtain ⟨f',hr,hf⟩:=zhc (w:=w) (x:=x) hin hg;refine ⟨_,he,?_,.inr ⟨w.heap.size,_,f',by rw [hlI];rfl,hr,by omega,hm,by omega,fun j hj=>hf j (by omega)⟩,.inr ⟨w.heap.size,rfl,Nat.le_refl _⟩⟩;refine ⟨?_,?_,?_,?_,fun k hk _=>?_⟩
     all_goals
      have q1:=zbi w.heap.size [.int .i64 x] i (w.alloc (.cells (((xs.map (Value.int .i64)).take i).toArray ++ Builtin.zeroCells (Value.int .i64 0).cells (xs.length + 1 - i) ++ Builtin.zeroCells (Value.int .i64 0).cells (grownCap w (xs.length + 1) cap 3 - (xs.length + 1))) 3)).drew;have q2:=zbi w.heap.size ((xs.map (Value.int .i64)).drop i) (i + 1) ((w.alloc (.cells (((xs.map (Value.int .i64)).take i).toArray ++ Builtin.zeroCells (Value.int .i64 0).cells (xs.length + 1 - i) ++ Builtin.zeroCells (Value.int .i64 0).cells (grownCap w (xs.length + 1) cap 3 - (xs.length + 1))) 3)).drew.setCells w.heap.size i [.int .i64 x]).drew;have q0:Ext w (w.alloc (.cells (((xs.map (Value.int .i64)).take i).toArray ++ Builtin.zeroCells (Value.int .i64 0).cells (xs.length + 1 - i) ++ Builtin.zeroCells (Value.int .i64 0).cells (grownCap w (xs.length + 1) cap 3 - (xs.length + 1))) 3)).drew:=((ExtM.refl _).alloc _).drew;have q3:=ExtM.trans _ _ _ (ExtM.mono q0 (fun _ _ h=>h.elim)) (ExtM.trans _ _ _ q1 (ExtM.trans _ _ _ ((ExtM.refl _).drew) q2))
     . exact q3.os
     . exact q3.tape
     . exact q3.output
     . exact q3.size
     . exact q3.block k hk (by omega)
   . have hcon:=Any2.slices_Insert_int_shift Tryz.shInsert g 0 xs.length cap i nb 0 1 1 (xs.map (Value.int .i64)) [.int .i64 x] w hin (by decide) hroom hc63 hgn (by simp) rfl hcell (fun j hj=>by rw [Nat.zero_add,h1.cell (by omega)];rfl) (fun j _=>h1.frozen _) hvs (oneI xs) h1v
      3 3 1 cap (by obtain ⟨c,hc,hs,-⟩:=hb;simp [World.shape?,hc,hs]) (by obtain ⟨c,hc,hs,-⟩:=h1;simp [World.shape?,hc,hs]) (by omega) (hb.frozen _) (hb.frozen _)
     refine hcon.mono fun e w' hh=>?_;obtain ⟨he,rfl⟩:=hh;obtain ⟨f',hr,hf⟩:=zgA (x:=x) h1 hroom hin h5;refine ⟨_,he,?_,.inr ⟨g,cap,f',by rw [hlI],hr,by omega,h3,h4,fun j hj=>hf j (by omega)⟩,.inl rfl⟩;exact ExtM.mono (ExtM.trans _ _ _ (ExtM.trans _ _ _ ((ExtM.refl _).drew) (zbi g _ _ _)) (zbi g _ _ _)) (fun k _ h=>by rw [h];rfl)
 . obtain rfl:i = xs.length:=by omega
   rcases Nat.lt_or_ge cap (xs.length + 1) with hroom | hroom
   . exact endGrow (some ⟨g,0,none⟩) cap rfl rfl h2 hroom (fun e=>by cases e) (fun a ha j u hj=>by
      obtain rfl:=Option.some.inj ha
      have:=hcell j u hj
      rw [Nat.zero_add] at this;have e1:(⟨g,0,none⟩:Addr).add j = ⟨g,j,none⟩:=by unfold Addr.add;split <;> simp_all
      rw [e1];exact this)
   . have hcon:=Any2.slices_Insert_int_end_room Tryz.shInsert g 0 xs.length cap nb 0 1 1 [.int .i64 x] w (by decide) hroom hc63 rfl (fun j hj=>by rw [show 0 + xs.length + j = xs.length by omega,h1.cell (by omega)];rfl) (fun j _=>h1.frozen _) hvs h1v;refine hcon.mono fun e w' hh=>?_;obtain ⟨he,rfl⟩:=hh;have r:=rowIs_setCells [.int .i64 x] (0 + xs.length) w f h1;refine ⟨_,he,?_,.inr ⟨g,cap,_,by rw [hlI],r,by omega,h3,h4,fun j hj=>?_⟩,.inl rfl⟩
     . exact ExtM.mono (zbi g _ _ _) (fun k _ h=>by rw [h];rfl)
     . rw [zfo xs xs.length x (Nat.le_refl _) j (by omega)];simp only [List.length_singleton];rcases Nat.lt_or_ge j xs.length with h | h
       . rw [if_neg (by omega),if_pos h];exact h5 j h
       . obtain rfl:j = xs.length:=by omega
         rw [if_pos (by omega),if_neg (by omega),if_pos rfl];simp
open Go.RowKit Go.Plan
structure GS where
 cnt:Int
 sum:Int
 right:List Int
structure Ent where
 key:Int
 S:Nat
 v:Value
 a:GS
def fb (e:Ent) (k:Nat):Prop:=k = e.S \/ e.v.ownBlock = some k
structure AllC (w:World) (S:Nat) (cnt sum:Int) (v:Value):Prop where
 c0:w.cell? ⟨S,0,none⟩ = some (.int .i64 cnt)
 c1:w.cell? ⟨S,1,none⟩ = some (.int .i64 sum)
 c2:w.cell? ⟨S,2,none⟩ = some v
 f0:w.frozen? ⟨S,0,none⟩ = false
 f1:w.frozen? ⟨S,1,none⟩ = false
 f2:w.frozen? ⟨S,2,none⟩ = false
theorem AllC.lt {w:World} {S:Nat} {cnt sum:Int} {v:Value} (h:AllC w S cnt sum v):S < w.heap.size:=by
 have:=h.c0
 unfold World.cell? at this;split at this
 . rename_i hb;exact (Array.getElem?_eq_some_iff.1 hb).1
 . cases this
theorem AllC.keep {w w':World} {S:Nat} {cnt sum:Int} {v:Value} (h:AllC w S cnt sum v) (hb:w'.heap[S]? = w.heap[S]?):AllC w' S cnt sum v:=by
 have r:∀ i,w'.cell? ⟨S,i,none⟩ = w.cell? ⟨S,i,none⟩:=fun i=>World.cell?_of_block (w:=w) (w':=w') (a:=⟨S,i,none⟩) hb;have q:∀ i,w'.frozen? ⟨S,i,none⟩ = w.frozen? ⟨S,i,none⟩:=fun i=>World.frozen?_of_block (w:=w) (w':=w') (a:=⟨S,i,none⟩) hb;exact ⟨(r 0).trans h.c0,(r 1).trans h.c1,(r 2).trans h.c2,(q 0).trans h.f0,(q 1).trans h.f1,(q 2).trans h.f2⟩
theorem AllC.set0 {w:World} {S:Nat} {cnt sum:Int} {v:Value} (h:AllC w S cnt sum v) (n:Int):AllC (w.setCell ⟨S,0,none⟩ (.int .i64 n)) S n sum v:=by
 obtain ⟨c0,c1,c2,f0,f1,f2⟩:=h;constructor <;> go_simp
theorem AllC.set1 {w:World} {S:Nat} {cnt sum:Int} {v:Value} (h:AllC w S cnt sum v) (n:Int):AllC (w.setCell ⟨S,1,none⟩ (.int .i64 n)) S cnt n v:=by
 obtain ⟨c0,c1,c2,f0,f1,f2⟩:=h;constructor <;> go_simp
theorem AllC.set2 {w:World} {S:Nat} {cnt sum:Int} {v:Value} (h:AllC w S cnt sum v) (u:Value):AllC (w.setCell ⟨S,2,none⟩ u) S cnt sum u:=by
 obtain ⟨c0,c1,c2,f0,f1,f2⟩:=h;constructor <;> go_simp
structure zdF (w:World) (e:Ent):Prop where
 cells:AllC w e.S e.a.cnt e.a.sum e.v
 row:IRow w e.v e.a.right
 srt:e.a.right.Pairwise (. <= ·)
 own:e.v.ownBlock ≠ some e.S
theorem zdF.keep {w w':World} {e:Ent} (h:zdF w e) (hb:∀ k,fb e k -> w'.heap[k]? = w.heap[k]?):zdF w' e :=
 ⟨h.cells.keep (hb _ (.inl rfl)),h.row.keep (fun k hk=>hb k (.inr hk)),h.srt,h.own⟩
theorem zdF.lt {w:World} {e:Ent} (h:zdF w e) (k:Nat) (hk:fb e k):k < w.heap.size:=by
 rcases hk with rfl | hk
 . exact h.cells.lt
 . exact h.row.lt k hk
def prs (ents:List Ent):List (Int × Value):=ents.map fun e=>(e.key,.pointer (some ⟨e.S,0,none⟩))
def st (ents:List Ent) (k:Int):Option GS:=(ents.find? fun e=>decide (e.key = k)).map (·.a)
structure za6 (w:World) (G o:Nat) (D:Option Nat) (ents:List Ent):Prop where
 c0:w.cell? ⟨G,o,none⟩ = some (.map D)
 f0:w.frozen? ⟨G,o,none⟩ = false
 mp:(D = none /\ ents = []) \/ ∃ d,D = some d /\ d ≠ G /\ zav Tryz.prog 3 (Value.int .i64) w d (prs ents)
 all:∀ e ∈ ents,zdF w e
 apart:ents.Pairwise fun e f=>∀ k,fb e k -> ¬ fb f k
 away:∀ e ∈ ents,∀ k,fb e k -> k ≠ G /\ D ≠ some k
 ok:∀ e ∈ ents,I64 e.key
def grpM (G:Nat) (D:Option Nat) (ents:List Ent) (k:Nat):Prop:=k = G \/ D = some k \/ ∃ e ∈ ents,fb e k
theorem zm4 {w:World} {a:Addr} {v:Value} (h:w.cell? a = some v):a.block < w.heap.size:=by
 unfold World.cell? at h;split at h
 . rename_i hb;exact (Array.getElem?_eq_some_iff.1 hb).1
 . cases h
theorem za6.ltG {w:World} {G o:Nat} {D:Option Nat} {ents:List Ent} (h:za6 w G o D ents):G < w.heap.size:=zm4 h.c0
theorem za6.foot {w:World} {G o:Nat} {D:Option Nat} {ents:List Ent} (h:za6 w G o D ents) (k:Nat) (hk:grpM G D ents k):k < w.heap.size:=by
 rcases hk with rfl | hk | ⟨e,he,hk⟩
 . exact h.ltG
 . rcases h.mp with ⟨h1,-⟩ | ⟨d,h1,-,h3⟩
   . rw [h1] at hk;cases hk
   . rw [h1] at hk;obtain rfl:=Option.some.inj hk;exact h3.lt
 . exact (h.all e he).lt k hk
theorem za6.of {M:Nat -> Prop} {w w':World} {G o:Nat} {D:Option Nat} {ents:List Ent} (h:za6 w G o D ents) (hx:ExtM M w w') (hM:∀ k,grpM G D ents k -> ¬ M k):za6 w' G o D ents where
 c0:=(hx.cell (p:=⟨G,o,none⟩) h.ltG (hM _ (.inl rfl))).trans h.c0
 f0:=(hx.frozen (p:=⟨G,o,none⟩) h.ltG (hM _ (.inl rfl))).trans h.f0
 mp:=by
  rcases h.mp with h | ⟨d,h1,h2,h3⟩
  . exact .inl h
  . exact .inr ⟨d,h1,h2,h3.of hx (hM d (.inr (.inl h1)))⟩
 all:=fun e he=>(h.all e he).keep fun k hk=>hx.block k ((h.all e he).lt k hk) (hM k (.inr (.inr ⟨e,he,hk⟩)))
 apart:=h.apart
 away:=h.away
 ok:=h.ok
theorem zcn:Go.Maps.Keyed Tryz.prog 3:=Go.Maps.int_keyed Tryz.underlying3
theorem keyI (k:Int) (h:I64 k):∃ l,keyOf Tryz.prog 3 (.int .i64 k) = some l:=⟨_,Go.Maps.keyOf_int_mk Tryz.underlying3 h.wf⟩
theorem zcB (x y:Int) (h:Value.int .i64 x = Value.int .i64 y):x = y:=by simpa using h
theorem zht (w:World):(zeroValue 224).run Tryz.prog w = .ok (.pointer none) w:=by kernel_rfl
theorem zf1 (ents:List Ent) (k:Int):mlook (prs ents) k = (ents.find? fun e=>decide (e.key = k)).map fun e=>.pointer (some ⟨e.S,0,none⟩):=by
 unfold mlook prs;rw [List.find?_map];simp [Function.comp_def]
theorem za6.upd {w w':World} {G o:Nat} {D:Option Nat} {pre post:List Ent} {e e':Ent} (h:za6 w G o D (pre ++ e :: post)) (hx:ExtM (fb e) w w') (hk:e'.key = e.key) (hS:e'.S = e.S) (ha:zdF w' e') (hf:∀ k,fb e' k -> fb e k \/ w.heap.size <= k) :
 za6 w' G o D (pre ++ e' :: post):=by
 have hE:e ∈ pre ++ e :: post:=by simp
 have hap:=h.apart;rw [List.pairwise_append,List.pairwise_cons] at hap;obtain ⟨a1,⟨a2,a3⟩,a4⟩:=hap;have hother:∀ f ∈ pre ++ post,∀ k,fb f k -> ¬ fb e k:=by
  intro f hf' k h1 h2;rcases List.mem_append.1 hf' with hp | hp
  . exact a4 f hp e (by simp) k h1 h2
  . exact a2 f hp k h2 h1
 have hmem:∀ f,f ∈ pre ++ e' :: post -> f = e' \/ f ∈ pre ++ post:=by
  intro f hf';simp only [List.mem_append,List.mem_cons] at hf' ⊢;rcases hf' with h | h | h
  . exact .inr (.inl h)
  . exact .inl h
  . exact .inr (.inr h)
 have hsub:∀ f,f ∈ pre ++ post -> f ∈ pre ++ e :: post:=by
  intro f hf';simp only [List.mem_append,List.mem_cons] at hf' ⊢;rcases hf' with h | h
  . exact .inl h
  . exact .inr (.inr h)
 have hG:¬ fb e G:=fun hk=>(h.away e hE G hk).1 rfl;have hdis:∀ f ∈ pre ++ post,∀ k,fb f k -> ¬ fb e' k:=by
  intro f hf' k h1 h2;rcases hf k h2 with h3 | h3
  . exact hother f hf' k h1 h3
  . have:=(h.all f (hsub f hf')).lt k h1;omega
 refine ⟨(hx.cell (p:=⟨G,o,none⟩) h.ltG hG).trans h.c0,(hx.frozen (p:=⟨G,o,none⟩) h.ltG hG).trans h.f0,?_,?_,?_,?_,?_⟩
 . rcases h.mp with ⟨-,h2⟩ | ⟨d,h1,h2,h3⟩
   . simp at h2
   . refine .inr ⟨d,h1,h2,?_⟩;have:prs (pre ++ e' :: post) = prs (pre ++ e :: post):=by simp [prs,hk,hS]
     rw [this];exact h3.of hx (fun hk=>(h.away e hE d hk).2 h1)
 . intro f hf';rcases hmem f hf' with rfl | hf2
   . exact ha
   . exact (h.all f (hsub f hf2)).keep fun k hk=>hx.block k ((h.all f (hsub f hf2)).lt k hk) (hother f hf2 k hk)
 . rw [List.pairwise_append,List.pairwise_cons];refine ⟨a1,⟨fun f hf' k h1 h2=>hdis f (by simp [hf']) k h2 h1,a3⟩,fun f hf' g hg k h1 h2=>?_⟩;rcases List.mem_cons.1 hg with rfl | hg
   . exact hdis f (by simp [hf']) k h1 h2
   . exact a4 f hf' g (by simp [hg]) k h1 h2
 . intro f hf' k h1;rcases hmem f hf' with rfl | hf2
   . rcases hf k h1 with h3 | h3
     . exact h.away e hE k h3
     . refine ⟨fun e1=>?_,fun e1=>?_⟩
       . have:=h.ltG;omega
       . have:=h.foot k (.inr (.inl e1));omega
   . exact h.away f (hsub f hf2) k h1
 . intro f hf';rcases hmem f hf' with rfl | hf2
   . rw [hk];exact h.ok e hE
   . exact h.ok f (hsub f hf2)
theorem zhY {G:Nat} {D:Option Nat} {pre post:List Ent} {e e':Ent} {n:Nat} (hf:∀ k,fb e' k -> fb e k \/ n <= k) (k:Nat) (hk:grpM G D (pre ++ e' :: post) k):grpM G D (pre ++ e :: post) k \/ n <= k:=by
 rcases hk with h | h | ⟨f,hf',h⟩
 . exact .inl (.inl h)
 . exact .inl (.inr (.inl h))
 . simp only [List.mem_append,List.mem_cons] at hf';rcases hf' with h1 | rfl | h1
   . exact .inl (.inr (.inr ⟨f,by simp [h1],h⟩))
   . rcases hf k h with h2 | h2
     . exact .inl (.inr (.inr ⟨e,by simp,h2⟩))
     . exact .inr h2
   . exact .inl (.inr (.inr ⟨f,by simp [h1],h⟩))
theorem za6.push {w w':World} {G o d:Nat} {ents:List Ent} {e:Ent} (h:za6 w G o (some d) ents) (ha:zdF w e) (hok:I64 e.key) (hn:∀ f ∈ ents,f.key ≠ e.key) (hfr:∀ k,fb e k -> ¬ grpM G (some d) ents k)
 (hx:ExtB d w w') (hm:zav Tryz.prog 3 (Value.int .i64) w' d (putK (prs ents) e.key (.pointer (some ⟨e.S,0,none⟩)))):za6 w' G o (some d) (ents ++ [e]):=by
 have hdG:d ≠ G:=by
  rcases h.mp with ⟨h1,-⟩ | ⟨d',h1,h2,-⟩
  . cases h1
  . obtain rfl:=Option.some.inj h1;exact h2
 have hnl:mlook (prs ents) e.key = none:=by
  refine zbR fun p hp=>?_;obtain ⟨f,hf,rfl⟩:=List.mem_map.1 hp;exact hn f hf
 rw [zdd hnl] at hm;have keepA:∀ f,zdF w f -> (∀ k,fb f k -> k ≠ d) -> zdF w' f:=fun f hf hd=>hf.keep fun k hk=>hx.block k (hf.lt k hk) (hd k hk);refine ⟨(hx.rules.1 G o h.ltG (fun e=>hdG e.symm)).trans h.c0,(hx.rules.2.1 G o h.ltG (fun e=>hdG e.symm)).trans h.f0,.inr ⟨d,rfl,hdG,?_⟩,?_,?_,?_,?_⟩
 . have:prs (ents ++ [e]) = prs ents ++ [(e.key,.pointer (some ⟨e.S,0,none⟩))]:=by simp [prs]
   rw [this];exact hm
 . intro f hf;rcases List.mem_append.1 hf with hf | hf
   . exact keepA f (h.all f hf) fun k hk e1=>(h.away f hf k hk).2 (by rw [e1])
   . obtain rfl:=List.mem_singleton.1 hf;exact keepA _ ha fun k hk e1=>hfr k hk (.inr (.inl (by rw [e1])))
 . rw [List.pairwise_append];refine ⟨h.apart,by simp,fun f hf g hg k h1 h2=>?_⟩;obtain rfl:=List.mem_singleton.1 hg;exact hfr k h2 (.inr (.inr ⟨f,hf,h1⟩))
 . intro f hf k hk;rcases List.mem_append.1 hf with hf | hf
   . exact h.away f hf k hk
   . obtain rfl:=List.mem_singleton.1 hf;exact ⟨fun e1=>hfr k hk (.inl e1),fun e1=>hfr k hk (.inr (.inl e1))⟩
 . intro f hf;rcases List.mem_append.1 hf with hf | hf
   . exact h.ok f hf
   . obtain rfl:=List.mem_singleton.1 hf;exact hok
theorem za6.pop {w w':World} {G o d:Nat} {ents:List Ent} {key:Int} (h:za6 w G o (some d) ents) (hx:ExtB d w w')
 (hm:zav Tryz.prog 3 (Value.int .i64) w' d (delK (prs ents) key)):za6 w' G o (some d) (ents.filter fun e=>!decide (e.key = key)):=by
 have hdG:d ≠ G:=by
  rcases h.mp with ⟨h1,-⟩ | ⟨d',h1,h2,-⟩
  . cases h1
  . obtain rfl:=Option.some.inj h1;exact h2
 refine ⟨(hx.rules.1 G o h.ltG (fun e=>hdG e.symm)).trans h.c0,(hx.rules.2.1 G o h.ltG (fun e=>hdG e.symm)).trans h.f0,.inr ⟨d,rfl,hdG,?_⟩,?_,h.apart.filter _,?_,?_⟩
 . have:prs (ents.filter fun e=>!decide (e.key = key)) = delK (prs ents) key:=by
    unfold prs delK;rw [List.filter_map];rfl
   rw [this];exact hm
 . intro f hf;have hf':=(List.mem_filter.1 hf).1;exact (h.all f hf').keep fun k hk=>hx.block k ((h.all f hf').lt k hk) fun e1=>(h.away f hf' k hk).2 (by rw [e1])
 . intro f hf k hk;exact h.away f (List.mem_filter.1 hf).1 k hk
 . intro f hf;exact h.ok f (List.mem_filter.1 hf).1
theorem za6.nodup {w:World} {G o:Nat} {D:Option Nat} {ents:List Ent} (h:za6 w G o D ents):(ents.map (·.key)).Nodup:=by
 rcases h.mp with ⟨-,rfl⟩ | ⟨d,-,-,hm⟩
 . simp
 . have:=hm.nodup
   simpa [prs,List.map_map,Function.comp_def] using this
theorem zoW {pre post:List Ent} {e:Ent} (hn:((pre ++ e :: post).map (·.key)).Nodup) (e':Ent) (hk:e'.key = e.key):st (pre ++ e' :: post) e.key = some e'.a:=by
 have hp:∀ f ∈ pre,f.key ≠ e.key:=by
  intro f hf e1;rw [List.map_append,List.map_cons,List.nodup_append] at hn;exact hn.2.2 f.key (List.mem_map.2 ⟨f,hf,rfl⟩) e.key (by simp) e1
 unfold st;rw [List.find?_append,List.find?_eq_none.2 (fun f hf=>by simpa using hp f hf)];simp [hk]
theorem zlM {pre post:List Ent} {e e':Ent} (hk:e'.key = e.key) (k:Int) (hne:k ≠ e.key):st (pre ++ e' :: post) k = st (pre ++ e :: post) k:=by
 unfold st;have h1:¬ e.key = k:=fun e1=>hne e1.symm;rw [List.find?_append,List.find?_append];simp [hk,h1]
theorem zkx {ents:List Ent} {e:Ent} (hn:∀ f ∈ ents,f.key ≠ e.key) (k:Int):st (ents ++ [e]) k = if k = e.key then some e.a else st ents k:=by
 unfold st;rw [List.find?_append];by_cases hk:k = e.key
 . subst hk;rw [if_pos rfl,List.find?_eq_none.2 (fun f hf=>by simpa using hn f hf)];simp
 . have h1:¬ e.key = k:=fun e1=>hk e1.symm;rw [if_neg hk];simp [h1]
theorem zpj (ents:List Ent) (key k:Int):st (ents.filter fun e=>!decide (e.key = key)) k = if k = key then none else st ents k:=by
 unfold st;by_cases hk:k = key
 . subst hk
   rw [if_pos rfl,List.find?_eq_none.2 (fun f hf=>by
    have:=(List.mem_filter.1 hf).2
    simpa using this)]
   rfl
 . rw [if_neg hk];induction ents with
   | nil=>rfl
   | cons e r ih =>
     by_cases he:e.key = key
     . have h1:¬ e.key = k:=fun e1=>hk (e1.symm.trans he);rw [List.filter_cons_of_neg (by simp [he]),ih];simp [h1]
     . rw [List.filter_cons_of_pos (by simp [he])];by_cases h1:e.key = k
       . simp [h1]
       . simp only [List.find?_cons,h1,decide_false] at ih ⊢;exact ih
theorem zhG {ents:List Ent} {k:Int}:st ents k = none ↔ ∀ e ∈ ents,e.key ≠ k:=by
 unfold st;rw [Option.map_eq_none_iff,List.find?_eq_none];simp
theorem zio {ents:List Ent} {k:Int} {e:Ent} (h:ents.find? (fun e=>decide (e.key = k)) = some e):∃ pre post,ents = pre ++ e :: post /\ e.key = k:=by
 have hm:=List.mem_of_find?_eq_some h;obtain ⟨pre,post,rfl⟩:=List.append_of_mem hm;exact ⟨pre,post,rfl,by simpa using List.find?_some h⟩
end Go.Proofs.YtmcgnnmffeojpabGreatDoor
