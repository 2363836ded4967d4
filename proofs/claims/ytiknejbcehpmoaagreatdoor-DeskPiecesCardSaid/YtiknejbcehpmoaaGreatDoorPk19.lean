import Derived.Test.YtiknejbcehpmoaaGreatDoorPk5
import Derived.Shelf.Sort.Plain
import Derived.Shelf.Slices.In.SortNone
import Derived.Ground.NamesProg
import Derived.Test.YtiknejbcehpmoaaGreatDoorProg
import Derived.Maps.AppendAt
import Derived.OwnWalk
import Derived.Lib.OwnBridge
set_option maxRecDepth 100000
set_option maxHeartbeats 8000000
namespace Go.Proofs
open Go.Shelf
def Tryz.shSortI_ren:Go.Shelf.Ren:=⟨fun | 189=>122 | 125=>166 | 257=>165 | 128=>198 | 129=>147 | 294=>189 | 295=>190 | 296=>191 | 297=>192 | 298=>193 | 299=>194 | 216=>195 | 300=>196 | 301=>197 | 328=>224 | 329=>225 | 330=>226 | 331=>227 | 332=>228 | 215=>229 | 343=>250 | n=>n,fun | 28=>56 | 3=>3 | 46=>174 | 0=>0 | 51=>232 | 53=>171 | 4=>4 | 183=>269 | 182=>268 | 131=>55 | 5=>5 | 9=>9 | 218=>297 | 222=>301 | 228=>316 | 229=>137 | n=>n,fun | n=>n⟩
theorem Tryz.shSortI:Go.Proofs.Lays.n189 Tryz.prog Tryz.shSortI_ren:={
 mixed:=by kernel_rfl
 f125:=Tryz.func166.trans (congrArg some (by kernel_rfl))
 f128:=Tryz.func198.trans (congrArg some (by kernel_rfl))
 f129:=Tryz.func147.trans (congrArg some (by kernel_rfl))
 f189:=Tryz.func122.trans (congrArg some (by kernel_rfl))
 f215:=Tryz.func229.trans (congrArg some (by kernel_rfl))
 f216:=Tryz.func195.trans (congrArg some (by kernel_rfl))
 f257:=Tryz.func165.trans (congrArg some (by kernel_rfl))
 f294:=Tryz.func189.trans (congrArg some (by kernel_rfl))
 f295:=Tryz.func190.trans (congrArg some (by kernel_rfl))
 f296:=Tryz.func191.trans (congrArg some (by kernel_rfl))
 f297:=Tryz.func192.trans (congrArg some (by kernel_rfl))
 f298:=Tryz.func193.trans (congrArg some (by kernel_rfl))
 f299:=Tryz.func194.trans (congrArg some (by kernel_rfl))
 f300:=Tryz.func196.trans (congrArg some (by kernel_rfl))
 f301:=Tryz.func197.trans (congrArg some (by kernel_rfl))
 f328:=Tryz.func224.trans (congrArg some (by kernel_rfl))
 f329:=Tryz.func225.trans (congrArg some (by kernel_rfl))
 f330:=Tryz.func226.trans (congrArg some (by kernel_rfl))
 f331:=Tryz.func227.trans (congrArg some (by kernel_rfl))
 f332:=Tryz.func228.trans (congrArg some (by kernel_rfl))
 f343:=Tryz.func250.trans (congrArg some (by kernel_rfl))
 t0:=Tryz.underlying0
 a0:=Tryz.isAgg0
 z0:=Tryz.sizeOf0
 v0:=Tryz.zeroValue0
 t3:=Tryz.underlying3
 a3:=Tryz.isAgg3
 z3:=Tryz.sizeOf3
 v3:=Tryz.zeroValue3
 t4:=Tryz.underlying4
 a4:=Tryz.isAgg4
 z4:=Tryz.sizeOf4
 v4:=Tryz.zeroValue4
 t5:=Tryz.underlying5
 a5:=Tryz.isAgg5
 z5:=Tryz.sizeOf5
 v5:=Tryz.zeroValue5
 t9:=Tryz.underlying9
 a9:=Tryz.isAgg9
 z9:=Tryz.sizeOf9
 v9:=Tryz.zeroValue9
 t28:=Tryz.underlying56
 a28:=Tryz.isAgg56
 z28:=Tryz.sizeOf56
 v28:=Tryz.zeroValue56
 t46:=Tryz.underlying174
 a46:=Tryz.isAgg174
 z46:=Tryz.sizeOf174
 v46:=Tryz.zeroValue174
 t51:=Tryz.underlying232
 a51:=Tryz.isAgg232
 z51:=Tryz.sizeOf232
 v51:=Tryz.zeroValue232
 t53:=Tryz.underlying171
 a53:=Tryz.isAgg171
 z53:=Tryz.sizeOf171
 v53:=Tryz.zeroValue171
 t131:=Tryz.underlying55
 a131:=Tryz.isAgg55
 z131:=Tryz.sizeOf55
 v131:=Tryz.zeroValue55
 t182:=Tryz.underlying268
 a182:=Tryz.isAgg268
 z182:=Tryz.sizeOf268
 v182:=Tryz.zeroValue268
 t183:=Tryz.underlying269
 a183:=Tryz.isAgg269
 z183:=Tryz.sizeOf269
 v183:=Tryz.zeroValue269
 t218:=Tryz.underlying297
 a218:=Tryz.isAgg297
 z218:=Tryz.sizeOf297
 v218:=Tryz.zeroValue297
 t222:=Tryz.underlying301
 a222:=Tryz.isAgg301
 z222:=Tryz.sizeOf301
 v222:=Tryz.zeroValue301
 t228:=Tryz.underlying316
 a228:=Tryz.isAgg316
 z228:=Tryz.sizeOf316
 v228:=Tryz.zeroValue316
 t229:=Tryz.underlying137
 a229:=Tryz.isAgg137
 z229:=Tryz.sizeOf137
 v229:=Tryz.zeroValue137 }
end Go.Proofs
namespace Go.Proofs.YtiknejbcehpmoaaGreatDoor
open Go.RowKit Go.Plan Go.Sort Go.Shelf
theorem zhf:(Tryz.prog.info? 3).map (fun i=>(i.zero,i.size,i.bytes)) = some (some (.int .i64 0),1,8):=by kernel_rfl
theorem zed (W:World) (base nb c:Nat) (v:Value) (acc:List Int) (x:Int) (ty:TypeId) (hown:W.ownsRow base 3 1 v acc.length (acc.map (Value.int .i64)))
 (hx:W.cell? ⟨nb,0,none⟩ = some (.int .i64 x)) (hl:acc.length < 1000000000) (hb:base <= W.heap.size) :
 ∃ v' w',(Builtin.append_ #[56,56] ty #[v,.slice (some ⟨nb,0,none⟩) 1 c]).run Tryz.prog W = .ok v' w' /\ w'.ownsRow base 3 1 v' (acc ++ [x]).length ((acc ++ [x]).map (Value.int .i64)) /\ W.grownBy w' v.ownBlock /\
   (v'.ownBlock = v.ownBlock \/ v'.ownBlock = some W.heap.size):=by
 obtain ⟨i0,hi,hz0,hz1,hz2⟩:=info_parts zhf;obtain ⟨v',w',h1,h2,h3,-,h5⟩:=run_append_own_at (P:=Tryz.prog) W base 56 ty 3 i0 (.int .i64 0) 1 8 Tryz.underlying56 hi hz0 hz1 hz2 rfl (by decide) v acc.length _ hown ⟨nb,0,none⟩ 1 c [.int .i64 x] rfl
  (fun j u hj=>by
    have hj':j < 1:=(List.getElem?_eq_some_iff.1 hj).1;obtain rfl:j = 0:=by omega
    simp only [List.getElem?_cons_zero,Option.some.injEq] at hj;subst hj
    exact hx) (by intro u hu;obtain rfl:=List.mem_singleton.1 hu;rfl) (by unfold maxLen;omega) (by omega) hb
 refine ⟨v',w',h1,?_,h3,h5⟩;rw [List.map_append,List.length_append];simpa using h2
def zbO (ks:List Int):List Int:=ks.mergeSort fun x y=>decide (x <= y)
theorem zaM (ks:List Int):(zbO ks).Perm ks:=List.mergeSort_perm _ _
theorem zaQ (ks:List Int):(zbO ks).Pairwise (. <= ·):=by
 have:=List.pairwise_mergeSort (le:=fun x y:Int=>decide (x <= y)) (fun a b c h1 h2=>by simp at *;omega) (fun a b=>by simp;omega) ks
 exact this.imp (fun h=>by simpa using h)
theorem zbN {xs ys:List Int} (h:xs.Perm ys) (hx:xs.Pairwise (. <= ·)) (hy:ys.Pairwise (. <= ·)):xs = ys :=
 h.eq_of_pairwise (fun _a _b _ _ h1 h2=>Int.le_antisymm h1 h2) hx hy
theorem zfE {xs ys:List Int} (h:xs.Perm ys):zbO xs = zbO ys :=
 zbN ((zaM xs).trans (h.trans (zaM ys).symm)) (zaQ xs) (zaQ ys)
theorem zbj (ks:List Int):(zbO ks).length = ks.length:=(zaM ks).length_eq
def zec (w:World) (p:Option Addr) (ks:List Int):Prop:=ks = [] \/ ∃ g,p = some ⟨g,0,none⟩ /\ g < w.heap.size /\ ∀ j,j < ks.length -> w.cell? ⟨g,j,none⟩ = some (.int .i64 (ks.getD j 0))
theorem zec.of {w w':World} {p:Option Addr} {ks:List Int} (h:zec w p ks) (hx:Ext w w'):zec w' p ks:=by
 rcases h with h | ⟨g,h1,h2,h3⟩
 . exact .inl h
 . exact .inr ⟨g,h1,Nat.lt_of_lt_of_le h2 hx.size,fun j hj=>(hx.cell (p:=⟨g,j,none⟩) h2 id).trans (h3 j hj)⟩
theorem zle (base:Nat) (v:Value) (ks:List Int) (w:World) (hown:w.ownsRow base 3 1 v ks.length (ks.map (Value.int .i64))) (hl:ks.length < 1000000000) :
 Calls Tryz.prog 122 #[v] w fun e w'=>e = .returned (.tuple #[]) /\ ExtR v.ownBlock w w' /\ ∃ p cap,v = .slice p ks.length cap /\ zec w' p (zbO ks):=by
 by_cases hv:v = .slice none 0 0
 . subst hv;have h0:ks = []:=by
    rcases hown.2 with ⟨-,h⟩ | ⟨g,cap,cur,h,-⟩
    . exact List.eq_nil_of_length_eq_zero h
    . cases h
   subst h0;exact (Any.slices_Sort_int_none Tryz.shSortI none 0 w).mono fun e w' ⟨he,hw⟩=>⟨he,hw ▸ ExtR.refl _,none,0,rfl,.inl (List.eq_nil_of_length_eq_zero (by rw [zbj];rfl))⟩
 . obtain ⟨g,cap,rfl,-,hg,-,-,-,hH⟩:=Lib.holds_of_ownsRow hown hv;refine (Any.slices_Sort_int Tryz.shSortI g 0 cap ks w hH hg (by omega)).mono fun e w' ⟨he,n,os,hw⟩=>?_;have hs:(zbO ks).toArray.size = ks.toArray.size:=by simp [zbj]
   have hw':w' = grow (putRow (Value.int .i64) (Sort.ahead w n) g 0 (zbO ks).toArray) os:=hw;have hH2:Holds (Value.int .i64) w' g 0 (zbO ks).toArray:=by
    rw [hw'];exact holds_grow _ _ _ _ _ _ (by simpa [putRow,mapBlock,Sort.ahead] using hg) (holds_putRow _ _ _ _ _ _ (holds_ahead _ _ _ _ _ _ hH) hs)
   have hx:ExtR (some g) w w':=by
    rw [hw'];refine ⟨rfl,rfl,rfl,by simp [grow,putRow,mapBlock,Sort.ahead],fun k hk hne=>?_⟩;have:g ≠ k:=fun e=>hne (by rw [e]);rw [heap_grow_old _ _ (by simpa [putRow,mapBlock,Sort.ahead] using hk)];simp [putRow,mapBlock,Sort.ahead,Array.getElem?_modify,this]
   refine ⟨he,hx,some ⟨g,0,none⟩,cap,rfl,.inr ⟨g,rfl,Nat.lt_of_lt_of_le hg hx.size,fun j hj=>?_⟩⟩
   have:=(hH2 j (by simpa using hj)).1
   rw [Nat.zero_add] at this;rw [this];simp [List.getD,hj]
end Go.Proofs.YtiknejbcehpmoaaGreatDoor
