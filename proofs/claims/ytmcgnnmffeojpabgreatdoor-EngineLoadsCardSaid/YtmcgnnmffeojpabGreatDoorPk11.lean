import Derived.Test.YtmcgnnmffeojpabGreatDoorPk3
import Derived.Test.YtmcgnnmffeojpabGreatDoorPk5
import Derived.Maps.AppendAt
import Derived.Lib.LazyBuf
import Derived.Laws.IdiomCopy
import Derived.Lib.Overlaps
import Derived.Lib.AppendZerosOnto
import Derived.Lib.AppendZeros
import Derived.Laws.NewBlocks
import Derived.Laws.Externs
import Derived.Laws.IdiomRangeMap
import Derived.WalkSpells
import Derived.Carry
import Derived.OwnWalk
import Derived.Lib.Hide
import Derived.Deep.LoopGhost
set_option maxRecDepth 100000
set_option maxHeartbeats 8000000
namespace Go.Plan
open Go.RowKit
section
variable {α:Type} {enc:α -> List Value} {K:Nat} {T:TypeId}
theorem zfR (hK:∀ x,(enc x).length = K) (l:List α):(l.flatMap enc).length = l.length * K:=by
 induction l with
 | nil=>simp
 | cons x r ih=>rw [List.flatMap_cons,List.length_append,ih,hK,List.length_cons,Nat.succ_mul];omega
theorem zmz (hK:∀ x,(enc x).length = K) (l:List α) (i c:Nat) (hi:i < l.length) (hc:c < K):(l.flatMap enc)[i * K + c]? = (enc (l[i]'hi))[c]?:=by
 induction l generalizing i with
 | nil=>simp at hi
 | cons x r ih =>
   rw [List.flatMap_cons];cases i with
   | zero=>rw [List.getElem?_append_left (by rw [hK];omega)];simp
   | succ i =>
     rw [List.getElem?_append_right (by rw [hK,Nat.succ_mul];omega),hK]
     have:=ih i (by simpa using hi)
     rw [show (i + 1) * K + c - K = i * K + c by rw [Nat.succ_mul];omega,this];simp
theorem zgu (hK:∀ x,(enc x).length = K) (l:List α) (i:Nat):(l.take i).flatMap enc = (l.flatMap enc).take (i * K):=by
 induction l generalizing i with
 | nil=>simp
 | cons x r ih =>
   cases i with
   | zero=>simp
   | succ i =>
     have e1:(enc x).take (i * K + K) = enc x:=List.take_of_length_le (by rw [hK];omega);have e2:i * K + K - K = i * K:=by omega
     rw [List.take_succ_cons,List.flatMap_cons,List.flatMap_cons,ih,List.take_append,hK,Nat.succ_mul,e1,e2]
theorem zk1 (hK:∀ x,(enc x).length = K) (l:List α) (i:Nat):(l.drop i).flatMap enc = (l.flatMap enc).drop (i * K):=by
 induction l generalizing i with
 | nil=>simp
 | cons x r ih =>
   cases i with
   | zero=>simp
   | succ i =>
     have e1:(enc x).drop (i * K + K) = []:=List.drop_of_length_le (by rw [hK];omega);have e2:i * K + K - K = i * K:=by omega
     rw [List.drop_succ_cons,List.flatMap_cons,ih,List.drop_append,hK,Nat.succ_mul,e1,e2,List.nil_append]
theorem zcx {w:World} {g cap n b:Nat} {f:Nat -> Value} {xs:List Value} (h:w.rowIs g T (cap * K) f) (hb:b <= g) (hn:n <= cap) (hc:cap <= maxLen) (hl:xs.length = n * K) (hf:∀ j,j < n * K -> xs[j]? = some (f j)):w.ownsRow b T K (.slice (some ⟨g,0,none⟩) n cap) n xs:=by
 obtain ⟨c,h1,h2,h3⟩:=h;have hnc:n * K <= cap * K:=Nat.mul_le_mul_right K hn;refine ⟨hl,.inr ⟨g,cap,c,rfl,hb,h1,hn,hc,h2,?_⟩⟩;apply List.ext_getElem?;intro j;rcases Nat.lt_or_ge j (n * K) with hj | hj
 . rw [List.getElem?_take_of_lt hj,Array.getElem?_toList,h3 j (by omega),hf j hj]
 . rw [List.getElem?_eq_none (by rw [List.length_take,Array.length_toList];omega),List.getElem?_eq_none (by omega)]
theorem zbJ {w:World} {b n:Nat} {v:Value} {xs:List Value} (h:w.ownsRow b T K v n xs):(v = .slice none 0 0 /\ n = 0) \/ ∃ g cap f,v = .slice (some ⟨g,0,none⟩) n cap /\ b <= g /\ w.rowIs g T (cap * K) f /\ n <= cap /\ cap <= maxLen /\ ∀ j,j < n * K -> xs[j]? = some (f j):=by
 obtain ⟨hl,h⟩:=h;rcases h with h | ⟨g,cap,cur,rfl,e1,e2,e3,e4,e5,e6⟩
 . exact .inl h
 . refine .inr ⟨g,cap,fun j=>(cur[j]?).getD default,rfl,e1,⟨cur,e2,e5,fun j hj=>?_⟩,e3,e4,fun j hj=>?_⟩
   . simp only [Array.getElem?_eq_getElem (show j < cur.size by omega)];rfl
   . have hnc:n * K <= cap * K:=Nat.mul_le_mul_right K e3;rw [<- e6,List.getElem?_take_of_lt hj,Array.getElem?_toList];simp only [Array.getElem?_eq_getElem (show j < cur.size by omega)];rfl
theorem zag {w w':World} {b n sz:Nat} {e:TypeId} {v:Value} {xs:List Value} {M:Nat -> Prop} (h:w.ownsRow b e sz v n xs) (hx:ExtM M w w') (hM:∀ k,v.ownBlock = some k -> ¬ M k):w'.ownsRow b e sz v n xs:=by
 obtain ⟨h1,h2⟩:=h;refine ⟨h1,?_⟩;rcases h2 with h2 | ⟨g,cap,cur,rfl,e2,e3,e4⟩
 . exact .inl h2
 . exact .inr ⟨g,cap,cur,rfl,e2,(hx.block g (Array.getElem?_eq_some_iff.1 e3).1 (hM g rfl)).trans e3,e4⟩
theorem zaf {w:World} {b n sz:Nat} {e:TypeId} {v:Value} {xs:List Value} (h:w.ownsRow b e sz v n xs) (k:Nat) (hk:v.ownBlock = some k):b <= k /\ k < w.heap.size:=by
 rcases h.2 with ⟨rfl,-⟩ | ⟨g,cap,cur,rfl,e2,e3,e4⟩
 . cases hk
 . have:=Option.some.inj hk
   simp at this;subst this;exact ⟨e2,(Array.getElem?_eq_some_iff.1 e3).1⟩
theorem zak {w:World} {b b' n sz:Nat} {e:TypeId} {v:Value} {xs:List Value} (h:w.ownsRow b e sz v n xs) (hb:b' <= b):w.ownsRow b' e sz v n xs:=by
 obtain ⟨h1,h2⟩:=h;refine ⟨h1,?_⟩;rcases h2 with h2 | ⟨g,cap,cur,e1,e2,e3⟩
 . exact .inl h2
 . exact .inr ⟨g,cap,cur,e1,by omega,e3⟩
theorem zaa {w:World} {b n sz:Nat} {e:TypeId} {v:Value} {xs:List Value} (h:w.ownsRow b e sz v n xs):∃ p cap,v = .slice p n cap /\ n <= cap:=by
 rcases h.2 with ⟨rfl,h0⟩ | ⟨g,cap,cur,rfl,e2,e3,e4,e5⟩
 . exact ⟨none,0,by rw [h0],by omega⟩
 . exact ⟨_,cap,rfl,e4⟩
theorem zaJ {w:World} {b:Nat} {v:Value} {xs:List α} (hK:∀ x,(enc x).length = K) (h:w.ownsRow b T K v xs.length (xs.flatMap enc)) (j c:Nat) (hj:j < xs.length) (hc:c < K) :
 ∃ g cap,v = .slice (some ⟨g,0,none⟩) xs.length cap /\ g < w.heap.size /\ w.cell? ⟨g,j * K + c,none⟩ = (enc (xs[j]'hj))[c]? /\ w.frozen? ⟨g,j * K + c,none⟩ = false:=by
 rcases h.2 with ⟨rfl,h0⟩ | ⟨g,cap,cur,rfl,e2,e3,e4,e5,e6,e7⟩
 . omega
 . refine ⟨g,cap,rfl,(Array.getElem?_eq_some_iff.1 e3).1,?_,by simp [World.frozen?,e3]⟩;have e1:=zmz hK xs j c hj hc;have hlt:j * K + c < xs.length * K:=by
    have:(j + 1) * K <= xs.length * K:=Nat.mul_le_mul_right K hj;rw [Nat.succ_mul] at this;omega
   rw [<- e7,List.getElem?_take_of_lt hlt,Array.getElem?_toList] at e1;simpa [World.cell?,e3] using e1
end
section
variable {P:Program}
theorem zc6 (k:Nat) (w:World) (dT sT ty elem:TypeId) (b o dLen dCap:Nat) (a:Addr) (sLen sCap:Nat) (cs:List Value)
 (hu:P.underlying dT = some (.slice elem)) (hs:(P.info? elem).map (·.size) = some k) (m:Nat) (hm:m = Nat.min sLen dLen) (hn:cs.length = m * k)
 (hsrc:∀ j v,cs[j]? = some v -> w.cell? (a.add j) = some v) (hc:∀ j,j < cs.length -> (w.cell? ⟨b,o + j,none⟩).isSome = true) (hf:∀ j,j < cs.length -> w.frozen? ⟨b,o + j,none⟩ = false) (h1:∀ v ∈ cs,v.oneCell' = true) :
 (Builtin.copy_ #[dT,sT] ty #[.slice (some ⟨b,o,none⟩) dLen dCap,.slice (some a) sLen sCap]).run P w = .ok (goInt m) (w.setCells b o cs):=by
 have hl:=run_loadCells_list (P:=P) w a cs hsrc;have hst:=run_storeCells_cells (P:=P) b o cs 0 w (by simpa using hc) (by simpa using hf) h1;cases hq:P.info? elem with
 | none=>simp [hq] at hs
 | some i =>
   have hi:i.size = k:=by simpa [hq] using hs
   rw [hn] at hl;simp [Builtin.copy_,run_underlying hu,Builtin.lenOf,Builtin.firstCells,sizeOf,typeInfo,hq,hi,<- hm,hl,hst]
theorem za8 (g:Nat):∀ (vs:List Value) (o:Nat) (w:World),ExtM (fun k=>k = g) w (w.setCells g o vs)
 | [],_,w=>ExtM.refl w
 | v :: r,o,w=>ExtM.trans _ _ _ (ExtM.setCell (M:=fun k=>k = g) (ExtM.refl w) (p:=⟨g,o,none⟩) (.inr rfl) v) (za8 g r (o + 1) _)
theorem zdA (w:World) {o:Oper} {a:Act} {K:Act -> World -> Prop} {Q:Exit -> Act -> World -> Prop} (d s:Operand) (t t':TypeId)
 (ho:o.op = .call { callee:=.builtin .copy,args:=#[d,s],argTypes:=#[t,t'] }) (v u:Value) (hd:a.eval d = v) (hs:a.eval s = u) {v':Value} {w':World}
 (hr:(Builtin.copy_ #[t,t'] o.type #[v,u]).run P w = .ok v' w') (h:K (a.put o.dst v') w'):o.wp P a w K Q:=by
 unfold Oper.wp execOp;simp only [ho,resolve,invoke,builtin,Sem.run_bind,Sem.run_pure,Result.andThen_ok,List.map_toArray,List.map_cons,List.map_nil,hd,hs,hr];exact h
theorem wpList_append_run {w w':World} {ops:Array Oper} {rest:List Oper} {o:Oper} {a:Act} {Q:Exit -> Act -> World -> Prop} {t ty:TypeId} {v x v':Value} (hr:(Builtin.append_ #[t,t] ty #[v,x]).run P w = .ok v' w') (hgd:o.guard = none) (hty:o.type = ty) (so xo:Operand)
 (ho:o.op = .call { callee:=.builtin .append,args:=#[so,xo],argTypes:=#[t,t] }) (hs:a.eval so = v) (hx:a.eval xo = x) (h:wpList P ops Q rest (a.put o.dst v') w'):wpList P ops Q (o :: rest) a w:=by
 refine wpList_plain hgd fun K hK'=>?_;subst hty;unfold Oper.wp execOp;simp only [ho,resolve,invoke,builtin,Sem.run_bind,Sem.run_pure,Result.andThen_ok,List.map_toArray,List.map_cons,List.map_nil,hs,hx,hr];exact hK' _ _ h
theorem zaw {w w':World} {o:Oper} {a:Act} {K:Act -> World -> Prop} {Q:Exit -> Act -> World -> Prop} {t ty:TypeId} {v x v':Value} (hr:(Builtin.append_ #[t,t] ty #[v,x]).run P w = .ok v' w') (hty:o.type = ty) (so xo:Operand)
 (ho:o.op = .call { callee:=.builtin .append,args:=#[so,xo],argTypes:=#[t,t] }) (hs:a.eval so = v) (hx:a.eval xo = x) (h:K (a.put o.dst v') w'):o.wp P a w K Q:=by
 subst hty;unfold Oper.wp execOp;simp only [ho,resolve,invoke,builtin,Sem.run_bind,Sem.run_pure,Result.andThen_ok,List.map_toArray,List.map_cons,List.map_nil,hs,hx,hr];exact h
end
section
variable {P:Program} {α:Type} {enc:α -> List Value} {K:Nat} {T:TypeId}
theorem zb8 (hK:∀ x,(enc x).length = K) (h1:∀ x,∀ u ∈ enc x,u.oneCell' = true) (ts:TypeId) (z:Value) (bytes:Nat) (hinfo:(P.info? T).map (fun i=>(i.zero,i.size,i.bytes)) = some (some z,K,bytes)) (hz:z.cells.size = K) (hK0:0 < K) (hu:P.underlying ts = some (.slice T)) (hby:bytes <= 1000)
 (W:World) (base nb c:Nat) (v:Value) (acc:List α) (x:α) (ty:TypeId) (hown:W.ownsRow base T K v acc.length (acc.flatMap enc)) (hx:∀ j u,(enc x)[j]? = some u -> W.cell? ⟨nb,j,none⟩ = some u) (hl:acc.length < 1000000) (hb:base <= W.heap.size) :
 ∃ v' w',(Builtin.append_ #[ts,ts] ty #[v,.slice (some ⟨nb,0,none⟩) 1 c]).run P W = .ok v' w' /\ w'.ownsRow base T K v' (acc ++ [x]).length ((acc ++ [x]).flatMap enc) /\ ExtM (fun k=>v.ownBlock = some k) W w' /\ (v'.ownBlock = v.ownBlock \/ ∃ k,v'.ownBlock = some k /\ W.heap.size <= k):=by
 obtain ⟨i0,hi,hz0,hz1,hz2⟩:=info_parts hinfo;obtain ⟨v',w',h1',h2,h3,-,h5⟩:=run_append_own_at (P:=P) W base ts ty T i0 z K bytes hu hi hz0 hz1 hz2 hz hK0 v acc.length _ hown ⟨nb,0,none⟩ 1 c (enc x) (by rw [hK,Nat.one_mul])
  (fun j u hj=>by
    have e1:(⟨nb,0,none⟩:Addr).add j = ⟨nb,j,none⟩:=by unfold Addr.add;split <;> simp_all
    rw [e1];exact hx j u hj) (h1 x) (by unfold maxLen;omega) (by
     have h9:(acc.length + 1) * bytes <= (acc.length + 1) * 1000:=Nat.mul_le_mul_left _ hby
     omega) hb
 refine ⟨v',w',h1',?_,⟨h3.os,h3.tape,h3.output,h3.size,fun k hk hn=>h3.block k hk (fun e=>hn e.symm)⟩,?_⟩
 . rw [List.flatMap_append,List.length_append];simpa using h2
 . rcases h5 with h | h
   . exact .inl h
   . exact .inr ⟨_,h,Nat.le_refl _⟩
theorem zl8 (hK:∀ x,(enc x).length = K) (l:List α) (i c:Nat) (hi:i < l.length) (hc:c < K) (u:Value) (x':α) (hx:enc x' = (enc (l[i]'hi)).set c u):(l.set i x').flatMap enc = (l.flatMap enc).set (i * K + c) u:=by
 induction l generalizing i with
 | nil=>simp at hi
 | cons x r ih =>
   cases i with
   | zero =>
     rw [List.set_cons_zero,List.flatMap_cons,List.flatMap_cons,List.set_append_left _ _ (by rw [hK];omega),hx];simp
   | succ i =>
     rw [List.set_cons_succ,List.flatMap_cons,List.flatMap_cons,List.set_append_right _ _ (by rw [hK,Nat.succ_mul];omega),hK,ih i (by simpa using hi) (by simpa using hx)];congr 2;rw [Nat.succ_mul];omega
theorem zbB (hK:∀ x,(enc x).length = K) {w:World} {b g cap:Nat} {xs:List α} (h:w.ownsRow b T K (.slice (some ⟨g,0,none⟩) xs.length cap) xs.length (xs.flatMap enc)) (i c:Nat) (hi:i < xs.length) (hc:c < K) (u:Value) (x':α) (hx:enc x' = (enc (xs[i]'hi)).set c u) :
 (w.setCell ⟨g,i * K + c,none⟩ u).ownsRow b T K (.slice (some ⟨g,0,none⟩) xs.length cap) (xs.set i x').length ((xs.set i x').flatMap enc):=by
 obtain ⟨hl,h⟩:=h;rcases h with ⟨h0,-⟩ | ⟨g',cap',cur,he,e1,e2,e3,e4,e5,e6⟩
 . cases h0
 injection he with he1 he2 he3;injection he1 with he1;injection he1 with he1;subst he1;subst he3;rw [zl8 hK xs i c hi hc u x' hx,List.length_set];refine ⟨by rw [List.length_set,hl],.inr ⟨g,cap,cur.setIfInBounds (i * K + c) u,rfl,e1,?_,e3,e4,by rw [Array.size_setIfInBounds,e5],?_⟩⟩
 . simp [World.setCell,Array.getElem?_modify,e2]
 . rw [Array.toList_setIfInBounds,<- e6,List.take_set]
end
section
variable {P:Program} {α:Type} {enc:α -> List Value} {K:Nat} {T:TypeId}
theorem zcK (hK:∀ x,(enc x).length = K) (h1:∀ x,∀ u ∈ enc x,u.oneCell' = true) (ts:TypeId) (z:Value) (bytes:Nat) (hinfo:(P.info? T).map (fun i=>(i.zero,i.size,i.bytes)) = some (some z,K,bytes)) (hz:z.cells.size = K) (hK0:0 < K) (hu:P.underlying ts = some (.slice T)) (hby:bytes <= 1000)
 (W:World) (base bs:Nat) (v s:Value) (acc xs:List α) (ty:TypeId) (hown:W.ownsRow base T K v acc.length (acc.flatMap enc)) (hs:W.ownsRow bs T K s xs.length (xs.flatMap enc)) (hl:acc.length + xs.length < 1000000) (hb:base <= W.heap.size) :
 ∃ v' w',(Builtin.append_ #[ts,ts] ty #[v,s]).run P W = .ok v' w' /\ w'.ownsRow base T K v' (acc ++ xs).length ((acc ++ xs).flatMap enc) /\ ExtM (fun k=>v.ownBlock = some k) W w' /\ (v'.ownBlock = v.ownBlock \/ ∃ k,v'.ownBlock = some k /\ W.heap.size <= k):=by
 obtain ⟨i0,hi,hz0,hz1,hz2⟩:=info_parts hinfo;rcases zbJ hs with ⟨rfl,h0⟩ | ⟨g,cap,f,rfl,-,hg,hn,hc63,hf⟩
 . obtain rfl:=List.eq_nil_of_length_eq_zero h0;obtain ⟨p,c,rfl,hpc⟩:=zaa hown;refine ⟨.slice p acc.length c,W,?_,by simpa using hown,ExtM.refl _,.inl rfl⟩;cases p with
   | none=>simp [Builtin.append_,run_underlying hu,Builtin.lenOf,Builtin.firstCells,sizeOf,typeInfo,hi,hpc]
   | some a=>simp [Builtin.append_,run_underlying hu,Builtin.lenOf,Builtin.firstCells,sizeOf,typeInfo,hi,hpc,storeCells]
 . obtain ⟨v',w',h1',h2,h3,-,h5⟩:=run_append_own_at (P:=P) W base ts ty T i0 z K bytes hu hi hz0 hz1 hz2 hz hK0 v acc.length _ hown ⟨g,0,none⟩ xs.length cap (xs.flatMap enc) (zfR hK xs)
    (fun j u hj=>by
      have e1:(⟨g,0,none⟩:Addr).add j = ⟨g,j,none⟩:=by unfold Addr.add;split <;> simp_all
      have hj2:j < xs.length * K:=by rw [<- zfR hK xs];exact (List.getElem?_eq_some_iff.1 hj).1
      have hle:xs.length * K <= cap * K:=Nat.mul_le_mul_right K hn
      rw [e1,hg.cell (by omega),<- hf j hj2,hj])
    (fun u hu=>by obtain ⟨x,-,hx⟩:=List.mem_flatMap.1 hu;exact h1 x u hx) (by unfold maxLen;omega) (by
      have h9:(acc.length + xs.length) * bytes <= (acc.length + xs.length) * 1000:=Nat.mul_le_mul_left _ hby
      omega) hb
   refine ⟨v',w',h1',?_,⟨h3.os,h3.tape,h3.output,h3.size,fun k hk hn=>h3.block k hk (fun e=>hn e.symm)⟩,?_⟩
   . rw [List.flatMap_append,List.length_append];exact h2
   . rcases h5 with h | h
     . exact .inl h
     . exact .inr ⟨_,h,Nat.le_refl _⟩
theorem zau {w:World} {o:Oper} {a:Act} {K:Act -> World -> Prop} {Q:Exit -> Act -> World -> Prop} {t:TypeId} {v x:Value} {R:Value -> World -> Prop} (hr:∃ v' w',(Builtin.append_ #[t,t] o.type #[v,x]).run P w = .ok v' w' /\ R v' w') (so xo:Operand)
 (ho:o.op = .call { callee:=.builtin .append,args:=#[so,xo],argTypes:=#[t,t] }) (hs:a.eval so = v) (hx:a.eval xo = x) (h:∀ v' w',R v' w' -> K (a.put o.dst v') w'):o.wp P a w K Q:=by
 obtain ⟨v',w',hr,hR⟩:=hr;exact zaw hr rfl so xo ho hs hx (h v' w' hR)
end
end Go.Plan
namespace Go.Proofs.YtmcgnnmffeojpabGreatDoor
open Go.RowKit Go.Plan
structure Hd where
 r:Row
 m:Int
def Hd.cells (h:Hd):List Value:=[.int .i64 h.r.k,.int .i64 h.r.t,.int .i64 h.r.v,.int .i64 h.m]
theorem zb9 (h:Hd):h.cells.length = 4:=rfl
theorem zgg (x:Hd):∀ v ∈ x.cells,v.oneCell' = true:=by
 intro v hv;simp only [Hd.cells,List.mem_cons,List.not_mem_nil,or_false] at hv;rcases hv with rfl | rfl | rfl | rfl <;> rfl
theorem zjN (l:List Hd):∀ v ∈ l.flatMap Hd.cells,v.oneCell' = true:=by
 intro v hv;obtain ⟨x,-,hx⟩:=List.mem_flatMap.1 hv;exact zgg x v hx
theorem zbL (l:List Hd):(l.flatMap Hd.cells).length = l.length * 4:=zfR zb9 l
def HRow (w:World) (v:Value) (hs:List Hd):Prop:=w.ownsRow 0 214 4 v hs.length (hs.flatMap Hd.cells)
structure BoxH (w:World) (n:Nat) (x:Hd):Prop where
 hb:w.heap[n]? = some (.cells #[.int .i64 x.r.k,.int .i64 x.r.t,.int .i64 x.r.v,.int .i64 x.m] 214 (0,0))
theorem BoxH.cell {w:World} {n:Nat} {x:Hd} (h:BoxH w n x) (j:Nat):w.cell? ⟨n,j,none⟩ = x.cells[j]?:=by
 simp [World.cell?,h.hb,Hd.cells]
theorem BoxH.lt {w:World} {n:Nat} {x:Hd} (h:BoxH w n x):n < w.heap.size:=(Array.getElem?_eq_some_iff.1 h.hb).1
def insH (hs:List Hd) (i:Nat) (x:Hd):List Hd:=hs.take i ++ x :: hs.drop i
theorem zde (hs:List Hd) (i:Nat) (x:Hd) (hi:i <= hs.length):(insH hs i x).length = hs.length + 1:=by simp [insH];omega
theorem zgi (hs:List Hd) (i:Nat) (x:Hd):(insH hs i x).flatMap Hd.cells = (hs.flatMap Hd.cells).take (i * 4) ++ x.cells ++ (hs.flatMap Hd.cells).drop (i * 4):=by
 unfold insH;rw [List.flatMap_append,List.flatMap_cons,zgu zb9,zk1 zb9,List.append_assoc]
theorem zmc (hs:List Hd) (i:Nat) (x:Hd) (hi:i <= hs.length) (j:Nat):((insH hs i x).flatMap Hd.cells)[j]? = if j < i * 4 then (hs.flatMap Hd.cells)[j]? else if j < i * 4 + 4 then x.cells[j - i * 4]? else (hs.flatMap Hd.cells)[j - 4]?:=by
 have hl:=zbL hs;have hx:x.cells.length = 4:=rfl;have h4:i * 4 <= hs.length * 4:=Nat.mul_le_mul_right 4 hi;have ht:((hs.flatMap Hd.cells).take (i * 4)).length = i * 4:=by rw [List.length_take,hl];omega
 rw [zgi];rcases Nat.lt_or_ge j (i * 4) with h | h
 . rw [if_pos h,List.getElem?_append_left (by rw [List.length_append];omega),List.getElem?_append_left (by omega),List.getElem?_take_of_lt h]
 . rw [if_neg (by omega)];rcases Nat.lt_or_ge j (i * 4 + 4) with h2 | h2
   . rw [if_pos h2,List.getElem?_append_left (by rw [List.length_append];omega),List.getElem?_append_right (by omega),ht]
   . rw [if_neg (by omega),List.getElem?_append_right (by rw [List.length_append];omega),List.length_append,ht,hx,List.getElem?_drop];congr 1;omega
theorem zfp:(Tryz.prog.info? 214).map (fun i=>(i.zero,i.size,i.bytes)) = some (some (.agg #[.int .i64 0,.int .i64 0,.int .i64 0,.int .i64 0]),4,32):=by kernel_rfl
def zdm (w w':World) (v:Value) (hs:List Hd) (i:Nat) (x:Hd) (e:Ending):Prop :=
 ∃ p n cap,e = .returned (.slice p n cap) /\ ExtM (fun k=>v.ownBlock = some k) w w' /\ HRow w' (.slice p n cap) (insH hs i x) /\ ((Value.slice p n cap).ownBlock = v.ownBlock \/ ∃ k,(Value.slice p n cap).ownBlock = some k /\ w.heap.size <= k)
theorem zhe (v:Value) (hs:List Hd) (nb:Nat) (x:Hd) (w:World) (h:HRow w v hs) (hb:BoxH w nb x) (hl:hs.length < 1000000) :
 Calls Tryz.prog 130 #[v,.int .i64 (hs.length:Int),.slice (some ⟨nb,0,none⟩) 1 1] w fun e w'=>zdm w w' v hs hs.length x e:=by
 obtain ⟨i0,hi,hz0,hz1,hz2⟩:=info_parts zfp;obtain ⟨v',w',happ,hown',hgr,-,hloc⟩:=run_append_own_at (P:=Tryz.prog) w 0 163 163 214 i0 (.agg #[.int .i64 0,.int .i64 0,.int .i64 0,.int .i64 0]) 4 32 Tryz.underlying163 hi hz0 hz1 hz2 rfl (by decide) v hs.length _ h ⟨nb,0,none⟩ 1 1 x.cells rfl
  (fun j u hj=>by
    have e1:(⟨nb,0,none⟩:Addr).add j = ⟨nb,j,none⟩:=by unfold Addr.add;split <;> simp_all
    rw [e1,hb.cell,hj]) (zgg x) (by unfold maxLen;omega) (by omega) (Nat.zero_le _)
 obtain ⟨p,cap,rfl,hcap⟩:=zaa h;obtain ⟨p',cap',rfl,-⟩:=zaa hown';have hP:zdm w w' (.slice p hs.length cap) hs hs.length x (.returned (.slice p' (hs.length + 1) cap')):=by
  refine ⟨p',hs.length + 1,cap',rfl,⟨hgr.os,hgr.tape,hgr.output,hgr.size,fun k hk hn=>hgr.block k hk (fun e=>hn e.symm)⟩,?_,?_⟩
  . unfold HRow;rw [zde _ _ _ (Nat.le_refl _),zgi,<- zbL,List.take_length,List.drop_length,List.append_nil];exact hown'
  . rcases hloc with h | h
    . exact .inl h
    . exact .inr ⟨_,h,Nat.le_refl _⟩
 clear hown' hgr hloc i0 hi hz0 hz1 hz2;by_cases hc:cap = hs.length
 . subst hc;go_enter Tryz.func130,Tryz.ntmps130;go_wp2_with (at_builtin;refine wpList_append_run happ rfl rfl _ _ rfl rfl rfl ?_;clear happ);go_ret;exact hP
 . go_enter Tryz.func130,Tryz.ntmps130;go_wp2_with (at_builtin;refine wpList_append_run happ rfl rfl _ _ rfl rfl rfl ?_;clear happ);go_ret;exact hP
theorem zi3 {a b m:Nat} (h:(a <= b /\ a = m) \/ (b <= a /\ b = m)):Nat.min a b = m:=by
 simp only [Nat.min_def];split <;> omega
theorem zlT (w:World):(Go.sizeOf 214).run Tryz.prog w = .ok 4 w:=by kernel_rfl
theorem zft (g cap:Nat) (f:Nat -> Value) (hs:List Hd) (i nb:Nat) (x:Hd) (w:World) (hg:w.rowIs g 214 (cap * 4) f) (hf:∀ j,j < hs.length * 4 -> (hs.flatMap Hd.cells)[j]? = some (f j)) (hi:i < hs.length) (hcap:hs.length + 1 <= cap) (hc63:cap <= maxLen) (hb:BoxH w nb x) (hne:nb ≠ g) (hl:hs.length < 1000000) :
 Calls Tryz.prog 130 #[.slice (some ⟨g,0,none⟩) hs.length cap,.int .i64 (i:Int),.slice (some ⟨nb,0,none⟩) 1 1] w fun e w' =>
  e = .returned (.slice (some ⟨g,0,none⟩) (hs.length + 1) cap) /\ w' = (w.drew.setCells g ((i + 1) * 4) ((hs.flatMap Hd.cells).drop (i * 4))).setCells g (i * 4) x.cells:=by
 unfold maxLen at hc63;have hz2:((i:Int) == (hs.length:Int)) = false:=by simp;omega
 have hz3:decide ((cap:Int) < (hs.length:Int) + 1) = false:=by simp;omega
 have hov:∀ lb cb,(callFunc 175 #[.slice (some ⟨nb,0,none⟩) 1 1,.slice (some ⟨g,(i + 1) * 4,none⟩) lb cb]).run Tryz.prog w = .ok (.value (.bool false)) w:=fun lb cb=>by
  obtain ⟨c,hc1,hc2,hc3⟩:=hg
  rw [run_callFunc_extern Tryz.func175 (by kernel_rfl) (by kernel_rfl) (by kernel_rfl) (e:=Extern.SlicesOverlaps.overlaps #[163,163] #[4]) (by kernel_rfl),
   Lib.run_overlaps_apart w 163 4 214 Tryz.underlying163 4 zlT ⟨nb,0,none⟩ ⟨g,(i + 1) * 4,none⟩ 1 1 lb cb hne 214 214 4 (cap * 4)
    (by simp [World.shape?,hb.hb]) (by simp [World.shape?,hc1,hc2]) (by omega) (by simp [World.frozen?,hb.hb]) (by simp [World.frozen?,hb.hb])]
  rfl
 have hsz:(Tryz.prog.info? 214).map (·.size) = some 4:=by
  obtain ⟨i0,hi,hz0,hz1,hz2⟩:=info_parts zfp;rw [hi];simp [hz1]
 have hdl:((hs.flatMap Hd.cells).drop (i * 4)).length = (hs.length - i) * 4:=by rw [List.length_drop,zbL,Nat.sub_mul]
 have hcell:∀ j,j < cap * 4 -> w.cell? ⟨g,j,none⟩ = some (f j):=fun j hj=>hg.cell hj;have hcp1:∀ ty dL dC sL sC,Nat.min sL dL = hs.length - i -> (Builtin.copy_ #[163,163] ty #[.slice (some ⟨g,(i + 1) * 4,none⟩) dL dC,.slice (some ⟨g,i * 4,none⟩) sL sC]).run Tryz.prog w.drew = .ok (goInt ((hs.length - i:Nat):Int)) (w.drew.setCells g ((i + 1) * 4) ((hs.flatMap Hd.cells).drop (i * 4))):=fun ty dL dC sL sC hm =>
  zc6 4 w.drew _ _ ty 214 g ((i + 1) * 4) dL dC ⟨g,i * 4,none⟩ sL sC _ Tryz.underlying163 hsz _ hm.symm hdl
   (fun j v hj=>by
     have e1:(⟨g,i * 4,none⟩:Addr).add j = ⟨g,i * 4 + j,none⟩:=by unfold Addr.add;split <;> simp_all
     have hj2:j < (hs.length - i) * 4:=by rw [<- hdl];exact (List.getElem?_eq_some_iff.1 hj).1
     rw [List.getElem?_drop,hf _ (by omega)] at hj;rw [e1]
     exact (hcell _ (by omega)).trans hj)
   (fun j hj=>by rw [hdl] at hj;have:=hcell ((i + 1) * 4 + j) (by omega);rw [show w.drew.cell? ⟨g,(i + 1) * 4 + j,none⟩ = _ from this];rfl) (fun j _=>hg.frozen _) (fun v hv=>zjN hs v (List.mem_of_mem_drop hv))
 obtain ⟨W1,hW1⟩:∃ W1,w.drew.setCells g ((i + 1) * 4) ((hs.flatMap Hd.cells).drop (i * 4)) = W1:=⟨_,rfl⟩
 rw [hW1] at hcp1 ⊢;have hgW:∃ f',W1.rowIs g 214 (cap * 4) f':=⟨_,hW1 ▸ rowIs_setCells _ _ _ _ hg.drew⟩
 have hbW:BoxH W1 nb x:=⟨by rw [<- hW1,(za8 g _ _ w.drew).block nb hb.lt hne];exact hb.hb⟩
 obtain ⟨f',hgW⟩:=hgW;have hxm:ExtR (some g) w.drew W1:=by
  rw [<- hW1];exact (za8 g _ _ w.drew).mono (fun k _ e=>by rw [e])
 have hcp2:∀ ty dL dC sL sC,Nat.min sL dL = 1 -> (Builtin.copy_ #[163,163] ty #[.slice (some ⟨g,i * 4,none⟩) dL dC,.slice (some ⟨nb,0,none⟩) sL sC]).run Tryz.prog W1 = .ok (goInt 1) (W1.setCells g (i * 4) x.cells):=fun ty dL dC sL sC hm =>
  zc6 4 W1 _ _ ty 214 g (i * 4) dL dC ⟨nb,0,none⟩ sL sC x.cells Tryz.underlying163 hsz _ hm.symm rfl
   (fun j v hj=>by
     have e1:(⟨nb,0,none⟩:Addr).add j = ⟨nb,j,none⟩:=by unfold Addr.add;split <;> simp_all
     rw [e1,hbW.cell,hj])
   (fun j hj=>by have hj4:j < 4:=hj;rw [hgW.cell (show i * 4 + j < cap * 4 by omega)];rfl) (fun j _=>hgW.frozen _) (zgg x)
 go_enter Tryz.func130,Tryz.ntmps130;go_wp2_with (simp only [hov]);refine Plan.b0 (Plan.ExtR (some g)) 9 ?_;refine Plan.qs 8 [0,1,2,3,4,5,6,7] ?_;iterate 8 go_big_quiet_step (fail)
 refine Plan.o1 8 fun K hK=>?_;refine zdA _ _ _ _ _ rfl _ _ rfl rfl (hcp1 _ _ _ _ _ (zi3 (by omega))) ?_;refine hK _ _ (hxm) ?_;clear hK K;refine Plan.dn ?_;go_wp2;rw [hcp2 _ _ _ _ _ (zi3 (by omega))];go_wp2;go_ret;exact ⟨rfl,rfl⟩
theorem zgx (hs:List Hd) (i:Nat) (x:Hd) (hi:i <= hs.length) (F:Nat -> Value) (h1:∀ j,j < i * 4 -> (hs.flatMap Hd.cells)[j]? = some (F j)) (h2:∀ c,c < 4 -> x.cells[c]? = some (F (i * 4 + c))) (h3:∀ j,j < (hs.length - i) * 4 -> (hs.flatMap Hd.cells)[i * 4 + j]? = some (F ((i + 1) * 4 + j))) :
 ∀ j,j < (hs.length + 1) * 4 -> ((insH hs i x).flatMap Hd.cells)[j]? = some (F j):=by
 intro j hj;rw [zmc hs i x hi];split
 . rename_i h;exact h1 j h
 . split
   . rename_i h h';rw [h2 (j - i * 4) (by omega)];congr 2;omega
   . rename_i h h'
     have:=h3 (j - 4 - i * 4) (by rw [Nat.sub_mul];omega)
     rw [show i * 4 + (j - 4 - i * 4) = j - 4 by omega] at this;rw [this];congr 2;omega
theorem zen (k:Nat):(Builtin.zeroCells (Value.agg #[.int .i64 0,.int .i64 0,.int .i64 0,.int .i64 0]).cells k).size = k * 4:=by
 simp [Builtin.zeroCells,Value.cells]
theorem zf3 {xs:List Value} {j:Nat} (h:j < xs.length):xs[j]? = some (xs[j]?.getD default):=by
 rw [List.getElem?_eq_getElem h];rfl
theorem zgL (g cap:Nat) (f:Nat -> Value) (hs:List Hd) (i nb:Nat) (x:Hd) (w:World) (hg:w.rowIs g 214 (cap * 4) f) (hf:∀ j,j < hs.length * 4 -> (hs.flatMap Hd.cells)[j]? = some (f j)) (hi:i < hs.length) (hcl:hs.length <= cap) (hcap:cap < hs.length + 1) (hb:BoxH w nb x) (hl:hs.length < 1000000) :
 Calls Tryz.prog 130 #[.slice (some ⟨g,0,none⟩) hs.length cap,.int .i64 (i:Int),.slice (some ⟨nb,0,none⟩) 1 1] w fun e w'=>zdm w w' (.slice (some ⟨g,0,none⟩) hs.length cap) hs i x e:=by
 obtain ⟨i0,hi0,hz0,hzs,hzb⟩:=info_parts zfp;have hz2:((i:Int) == (hs.length:Int)) = false:=by simp;omega
 have hz3:decide ((cap:Int) < (hs.length:Int) + 1) = true:=by simp;omega
 have hsz:(Tryz.prog.info? 214).map (·.size) = some 4:=by rw [hi0];simp [hzs]
 have hgw:g < w.heap.size:=by obtain ⟨c,hc,-⟩:=hg;exact (Array.getElem?_eq_some_iff.1 hc).1
 have hbw:=hb.lt;have hcl':=zbL hs;have hkk:(hs.length:Int) + 1 - (i:Int) = ((hs.length + 1 - i:Nat):Int):=by omega
 have hik:i + (hs.length + 1 - i) = hs.length + 1:=by omega
 have h4:i * 4 <= hs.length * 4:=Nat.mul_le_mul_right 4 (by omega);have hcap4:cap * 4 = hs.length * 4:=by rw [show cap = hs.length by omega]
 have hold:(Builtin.firstCells i0.size i (.slice (some ⟨g,0,none⟩) i cap)).run Tryz.prog w.drew = .ok ((hs.flatMap Hd.cells).take (i * 4)).toArray w.drew:=by
  rw [hzs]
  exact run_firstCells_some w.drew 4 i ⟨g,0,none⟩ i cap _ (by rw [List.length_take];omega) (fun j v hj=>by
   have e1:(⟨g,0,none⟩:Addr).add j = ⟨g,j,none⟩:=by unfold Addr.add;split <;> simp_all
   rw [e1];rw [List.getElem?_take] at hj;split at hj
   . rw [hf _ (by omega)] at hj;exact (hg.cell (by omega)).trans hj
   . cases hj)
 obtain ⟨G,hG⟩:∃ G,G = grownCap w (hs.length + 1) cap 214:=⟨_,rfl⟩
 have hGn:hs.length + 1 <= G:=by rw [hG];exact grownCap_ge w _ _ _
 have hG63:G <= maxLen:=by rw [hG];exact grownCap_le_maxLen w (hs.length + 1) cap _ (by unfold maxLen;omega)
 obtain ⟨ROW,hROW⟩:∃ ROW:Array Value,ROW = ((hs.flatMap Hd.cells).take (i * 4)).toArray ++ Builtin.zeroCells (Value.agg #[.int .i64 0,.int .i64 0,.int .i64 0,.int .i64 0]).cells (hs.length + 1 - i) ++ Builtin.zeroCells (Value.agg #[.int .i64 0,.int .i64 0,.int .i64 0,.int .i64 0]).cells (G - (hs.length + 1)):=⟨_,rfl⟩
 have hrz:∀ ty,(Builtin.append_ #[163,3] ty #[.slice (some ⟨g,0,none⟩) i cap,.int .i64 ((hs.length:Int) + 1 - (i:Int))]).run Tryz.prog w =
  .ok (.slice (some ⟨w.heap.size,0,none⟩) (hs.length + 1) G) (w.drew.alloc (.cells ROW 214)):=fun ty=>by
  have h:=Lib.run_append_grow_zeros w 163 3 ty 214 i0 _ .i64 .i64 Tryz.underlying163 Tryz.underlying3 hi0 hz0 (some ⟨g,0,none⟩) i cap _ hold (hs.length + 1 - i) (by omega) (by omega) (by omega) (by omega) (by rw [hzb];omega) (by rw [hzb,hik];exact growslice_fits hcap (by omega));rw [hik] at h;rw [hkk,hROW,hG];exact h
 have hRs:ROW.size = G * 4:=by
  rw [hROW,Array.size_append,Array.size_append,zen,zen,List.size_toArray,List.length_take,hcl'];omega
 have hR1:∀ j,j < i * 4 -> ROW[j]? = (hs.flatMap Hd.cells)[j]?:=fun j hj=>by
  rw [hROW,Array.append_assoc,Array.getElem?_append_left (by rw [List.size_toArray,List.length_take,hcl'];omega)];simp [List.getElem?_take_of_lt hj]
 clear hROW hG hold hzs hzb hz0 hkk;obtain ⟨W1,hW1⟩:∃ W1,W1 = w.drew.alloc (.cells ROW 214):=⟨_,rfl⟩
 rw [<- hW1] at hrz;have hx1:Ext w W1:=hW1 ▸ ExtM.alloc (ExtM.drew (ExtM.refl w)) _;have hr1:W1.rowIs w.heap.size 214 (G * 4) (fun j=>ROW[j]?.getD default):=by
  refine ⟨ROW,?_,hRs,fun j hj=>?_⟩
  . rw [hW1];exact heap_alloc_new w.drew _
  . show _ = some (ROW[j]?.getD default);rw [Array.getElem?_eq_getElem (by omega)];rfl
 clear hW1;have hb1:BoxH W1 nb x:=⟨by rw [hx1.block nb hbw (fun h=>h)];exact hb.hb⟩
 have hcp2:∀ ty dL dC sL sC,Nat.min sL dL = 1 -> (Builtin.copy_ #[163,163] ty #[.slice (some ⟨w.heap.size,i * 4,none⟩) dL dC,.slice (some ⟨nb,0,none⟩) sL sC]).run Tryz.prog W1 = .ok (goInt 1) (W1.setCells w.heap.size (i * 4) x.cells):=fun ty dL dC sL sC hm =>
  zc6 4 W1 _ _ ty 214 w.heap.size (i * 4) dL dC ⟨nb,0,none⟩ sL sC x.cells Tryz.underlying163 hsz _ hm.symm rfl
   (fun j v hj=>by
     have e1:(⟨nb,0,none⟩:Addr).add j = ⟨nb,j,none⟩:=by unfold Addr.add;split <;> simp_all
     rw [e1,hb1.cell,hj])
   (fun j hj=>by have hj4:j < 4:=hj;rw [hr1.cell (show i * 4 + j < G * 4 by omega)];rfl) (fun j _=>hr1.frozen _) (zgg x)
 obtain ⟨W2,hW2⟩:∃ W2,W2 = W1.setCells w.heap.size (i * 4) x.cells:=⟨_,rfl⟩
 have hr2:W2.rowIs w.heap.size 214 (G * 4) _:=hW2 ▸ rowIs_setCells x.cells (i * 4) W1 _ hr1;have hx2:ExtM (fun k=>k = w.heap.size) W1 W2:=hW2 ▸ za8 _ _ _ _;rw [<- hW2] at hcp2;have hg2:W2.rowIs g 214 (cap * 4) f:=by
  obtain ⟨c,hc1,hc2⟩:=hg;exact ⟨c,by rw [hx2.block g (by have:=hx1.size;omega) (by omega),hx1.block g hgw (fun h=>h)];exact hc1,hc2⟩
 clear hW2;have hdl:((hs.flatMap Hd.cells).drop (i * 4)).length = (hs.length - i) * 4:=by rw [List.length_drop,zbL,Nat.sub_mul]
 have hcp3:∀ ty dL dC sL sC,Nat.min sL dL = hs.length - i -> (Builtin.copy_ #[163,163] ty #[.slice (some ⟨w.heap.size,(i + 1) * 4,none⟩) dL dC,.slice (some ⟨g,i * 4,none⟩) sL sC]).run Tryz.prog W2.drew = .ok (goInt ((hs.length - i:Nat):Int)) (W2.drew.setCells w.heap.size ((i + 1) * 4) ((hs.flatMap Hd.cells).drop (i * 4))):=fun ty dL dC sL sC hm =>
  zc6 4 W2.drew _ _ ty 214 w.heap.size ((i + 1) * 4) dL dC ⟨g,i * 4,none⟩ sL sC _ Tryz.underlying163 hsz _ hm.symm hdl
   (fun j v hj=>by
     have e1:(⟨g,i * 4,none⟩:Addr).add j = ⟨g,i * 4 + j,none⟩:=by unfold Addr.add;split <;> simp_all
     have hj2:j < (hs.length - i) * 4:=by rw [<- hdl];exact (List.getElem?_eq_some_iff.1 hj).1
     rw [List.getElem?_drop,hf _ (by omega)] at hj;rw [e1]
     exact (hg2.cell (by omega)).trans hj)
   (fun j hj=>by rw [hdl] at hj;have:=hr2.cell (i:=(i + 1) * 4 + j) (by omega);rw [show W2.drew.cell? ⟨w.heap.size,(i + 1) * 4 + j,none⟩ = _ from this];rfl) (fun j _=>hr2.frozen _) (fun v hv=>zjN hs v (List.mem_of_mem_drop hv))
 obtain ⟨W3,hW3⟩:∃ W3,W3 = W2.drew.setCells w.heap.size ((i + 1) * 4) ((hs.flatMap Hd.cells).drop (i * 4)):=⟨_,rfl⟩
 have hr3:W3.rowIs w.heap.size 214 (G * 4) _:=hW3 ▸ rowIs_setCells _ ((i + 1) * 4) W2.drew _ hr2.drew;have hx3:ExtM (fun k=>k = w.heap.size) W2.drew W3:=hW3 ▸ za8 _ _ _ _;rw [<- hW3] at hcp3;clear hW3;have hxm:ExtR (some w.heap.size) W2.drew W3:=hx3.mono (fun k _ e=>by rw [e]);have hx123:ExtM (fun k=>k = w.heap.size) w W3:=ExtM.trans _ _ _ (ExtM.trans _ _ _ (hx1.mono (fun _ _ h=>h.elim)) hx2) (ExtM.trans _ _ _ (ExtM.drew (ExtM.refl _)) hx3);have hP:zdm w W3 (.slice (some ⟨g,0,none⟩) hs.length cap) hs i x (.returned (.slice (some ⟨w.heap.size,0,none⟩) (hs.length + 1) G)):=by
  refine ⟨_,_,_,rfl,hx123.mono (fun k hk e=>by omega),?_,.inr ⟨_,rfl,Nat.le_refl _⟩⟩;unfold HRow;rw [zde _ _ _ (by omega)];refine zcx hr3 (Nat.zero_le _) hGn hG63 (by rw [zbL,zde _ _ _ (by omega)]) (zgx hs i x (by omega) _ ?_ ?_ ?_)
  . intro j hj;rw [if_neg (by omega),if_neg (by omega),<- hR1 j hj,Array.getElem?_eq_getElem (by omega)];rfl
  . intro c hc;rw [if_neg (by omega),if_pos (by have:x.cells.length = 4:=rfl;omega),show i * 4 + c - i * 4 = c by omega];exact zf3 hc
  . intro j hj;rw [if_pos (by omega),show (i + 1) * 4 + j - (i + 1) * 4 = j by omega,<- List.getElem?_drop];exact zf3 (by omega)
 clear hx1 hx2 hx3 hx123 hr1 hr2 hr3 hR1 hRs hg hf hg2 hb hb1 hgw hbw;unfold maxLen at hG63;go_enter Tryz.func130,Tryz.ntmps130;go_wp2_with (at_builtin;refine Lib.wpList_append_run _ rfl _ _ _ _ rfl _ _ rfl rfl _ _ (hrz _) ?_);go_wp2;rw [hcp2 _ _ _ _ _ (zi3 (by omega))];go_wp2;refine Plan.b0 (Plan.ExtR (some w.heap.size)) 9 ?_;refine Plan.qs 8 [0,1,2,3,4,5,6,7] ?_;iterate 8 go_big_quiet_step (fail)
 refine Plan.o1 8 fun K hK=>?_;refine zdA _ _ _ _ _ rfl _ _ rfl rfl (hcp3 _ _ _ _ _ (zi3 (by omega))) ?_;refine hK _ _ (hxm) ?_;clear hK K;refine Plan.dn ?_;go_wp2;go_ret;exact hP
theorem ziw (v:Value) (hs:List Hd) (i nb:Nat) (x:Hd) (w:World) (h:HRow w v hs) (hb:BoxH w nb x) (hi:i <= hs.length) (hne:v.ownBlock ≠ some nb) (hl:hs.length < 1000000) :
 Calls Tryz.prog 130 #[v,.int .i64 (i:Int),.slice (some ⟨nb,0,none⟩) 1 1] w fun e w'=>zdm w w' v hs i x e:=by
 by_cases hin:i = hs.length
 . subst hin;exact zhe v hs nb x w h hb hl
 rcases zbJ h with ⟨rfl,h0⟩ | ⟨g,cap,f,rfl,-,hg,hcl,hc63,hf⟩
 . omega
 have hgn:nb ≠ g:=fun e=>hne (by rw [e];rfl);by_cases hcap:hs.length + 1 <= cap
 . refine (zft g cap f hs i nb x w hg hf (by omega) hcap hc63 hb hgn hl).mono fun e w' ⟨he,hw⟩=>?_;have hdl:((hs.flatMap Hd.cells).drop (i * 4)).length = (hs.length - i) * 4:=by rw [List.length_drop,zbL,Nat.sub_mul]
   have hcl':=zbL hs;have hr2:=rowIs_setCells ((hs.flatMap Hd.cells).drop (i * 4)) ((i + 1) * 4) w.drew _ hg.drew;have hr3:=rowIs_setCells x.cells (i * 4) _ _ hr2;have hx:ExtM (fun k=>k = g) w w':=by
    rw [hw];exact ExtM.trans _ _ _ (ExtM.trans _ _ _ (ExtM.drew (ExtM.refl _)) (za8 _ _ _ _)) (za8 _ _ _ _)
   rw [<- hw] at hr3;refine ⟨_,_,_,he,hx.mono (fun k hk e=>by rw [e];rfl),?_,.inl rfl⟩;unfold HRow;rw [zde _ _ _ (by omega)];refine zcx hr3 (Nat.zero_le _) hcap hc63 (by rw [zbL,zde _ _ _ (by omega)]) (zgx hs i x (by omega) _ ?_ ?_ ?_)
   . intro j hj;rw [if_neg (by omega),if_neg (by omega)];exact hf j (by omega)
   . intro c hc;rw [if_pos (by have:x.cells.length = 4:=rfl;omega),show i * 4 + c - i * 4 = c by omega];exact zf3 hc
   . intro j hj;have:x.cells.length = 4:=rfl;rw [if_neg (by omega),if_pos (by omega),show (i + 1) * 4 + j - (i + 1) * 4 = j by omega,<- List.getElem?_drop];exact zf3 (by omega)
 . exact zgL g cap f hs i nb x w hg hf (by omega) hcl (by omega) hb hl
def za2 (key time:Int) (h:Hd):Bool:=decide (zaF h.r.k h.r.t 0 key time 0 < 0)
theorem zjX (a b c m key time val:Int) (w:World) :
 Calls Tryz.prog 174 #[.agg #[.int .i64 a,.int .i64 b,.int .i64 c,.int .i64 m],.agg #[.int .i64 key,.int .i64 time,.int .i64 val]] w fun e w'=>e = .returned (.int .i64 (if zaF a b 0 key time 0 < 0 then -1 else 1)) /\ Ext w w':=by
 by_cases hq:zaF a b 0 key time 0 < 0
 . rw [if_pos hq];go_enter Tryz.func174,Tryz.ntmps174;go_wp2_with (go_at_call 146;refine (zgZ _ _ _ _ _ _ _).mono ?_;rintro e w1 ⟨rfl,hx⟩);go_ret;exact ⟨rfl,ExtM.trans _ _ _ (((ExtM.refl _).alloc _).alloc _) hx⟩
 . rw [if_neg hq];go_enter Tryz.func174,Tryz.ntmps174;go_wp2_with (go_at_call 146;refine (zgZ _ _ _ _ _ _ _).mono ?_;rintro e w1 ⟨rfl,hx⟩);go_ret;exact ⟨rfl,ExtM.trans _ _ _ (((ExtM.refl _).alloc _).alloc _) hx⟩
theorem zgp (h:Hd) (key time val:Int) (w:World) :
 Calls Tryz.prog 174 #[.agg #[.int .i64 h.r.k,.int .i64 h.r.t,.int .i64 h.r.v,.int .i64 h.m],.agg #[.int .i64 key,.int .i64 time,.int .i64 val]] w fun e w'=>e = .returned (.int .i64 (if za2 key time h = true then -1 else 1)) /\ Ext w w':=by
 have:=zjX h.r.k h.r.t h.r.v h.m key time val w
 unfold za2;by_cases hq:zaF h.r.k h.r.t 0 key time 0 < 0
 . simpa [hq] using this
 . simpa [hq] using this
structure zpg (w:World) (g j:Nat) (h:Hd):Prop where
 e0:w.cell? ⟨g,j * 4,none⟩ = some (.int .i64 h.r.k)
 e1:w.cell? ⟨g,j * 4 + 1,none⟩ = some (.int .i64 h.r.t)
 e2:w.cell? ⟨g,j * 4 + 2,none⟩ = some (.int .i64 h.r.v)
 e3:w.cell? ⟨g,j * 4 + 3,none⟩ = some (.int .i64 h.m)
 fz:∀ o,w.frozen? ⟨g,o,none⟩ = false
theorem HRow.ext {w w':World} {v:Value} {hs:List Hd} {M:Nat -> Prop} (h:HRow w v hs) (hx:ExtM M w w') (hM:∀ k,v.ownBlock = some k -> ¬ M k):HRow w' v hs:=zag h hx hM
theorem HRow.at' {w:World} {p:Option Addr} {cap:Nat} {hs:List Hd} (h:HRow w (.slice p hs.length cap) hs) (j:Nat) (hj:j < hs.length):∃ g,p = some ⟨g,0,none⟩ /\ g < w.heap.size /\ zpg w g j (hs[j]'hj):=by
 obtain ⟨g,cap',he,hlt,hc0,-⟩:=zaJ zb9 h j 0 hj (by omega);injection he with hp hn hcap;obtain ⟨g1,cap1,he1,-,hc1,-⟩:=zaJ zb9 h j 1 hj (by omega);injection he1 with hp1;rw [hp] at hp1;obtain rfl:g = g1:=by injection hp1 with hp1;injection hp1
 obtain ⟨g1,cap1,he1,-,hc2,-⟩:=zaJ zb9 h j 2 hj (by omega);injection he1 with hp1;rw [hp] at hp1;obtain rfl:g = g1:=by injection hp1 with hp1;injection hp1
 obtain ⟨g1,cap1,he1,-,hc3,-⟩:=zaJ zb9 h j 3 hj (by omega);injection he1 with hp1;rw [hp] at hp1;obtain rfl:g = g1:=by injection hp1 with hp1;injection hp1
 refine ⟨g,hp,hlt,hc0,hc1,hc2,hc3,fun o=>?_⟩;rcases h.2 with ⟨h1,-⟩ | ⟨g',cap2,cur,h1,-,h2,-⟩
 . rw [hp] at h1;cases h1
 . rw [hp] at h1;injection h1 with h1;injection h1 with h1;injection h1 with h1;subst h1;simp [World.frozen?,h2]
theorem zkt (v:Value) (hs:List Hd) (key time val:Int) (w:World) (h:HRow w v hs) (hl:hs.length < 1000000)
 (hmono:∀ a b (ha:a < hs.length) (hb:b < hs.length),a <= b -> za2 key time hs[b] = true -> za2 key time hs[a] = true) :
 Calls Tryz.prog 173 #[v,.agg #[.int .i64 key,.int .i64 time,.int .i64 val],.func (.func 174) #[] #[]] w fun e w' =>
  ∃ (k:Nat) (b:Bool),e = .returned (.tuple #[.int .i64 k,.bool b]) /\ k <= hs.length /\ (∀ i (hi:i < hs.length),za2 key time hs[i] = decide (i < k)) /\ Ext w w':=by
 obtain ⟨p,cap,rfl,-⟩:=zaa h;have hvl:∀ k,(Value.slice p hs.length cap).ownBlock = some k -> k < w.heap.size:=fun k hk=>(zaf h k hk).2;go_enter Tryz.func173,Tryz.ntmps173;go_wp2
 go_loopg [9,10] hs.length (fun kx s9 s10 wr=>∃ lo hi:Nat,s9 = .int .i64 lo /\ s10 = .int .i64 hi /\ lo <= hi /\ hi <= hs.length /\ hi - lo <= kx /\ Ext w wr /\ wr.cell? ⟨w.heap.size,0,none⟩ = some (.int .i64 key) /\ wr.cell? ⟨w.heap.size,1,none⟩ = some (.int .i64 time) /\ wr.cell? ⟨w.heap.size,2,none⟩ = some (.int .i64 val) /\ w.heap.size < wr.heap.size /\
  (∀ t (ht:t < hs.length),t < lo -> za2 key time hs[t] = true) /\ (∀ t (ht:t < hs.length),hi <= t -> za2 key time hs[t] = false))
 case atStart=>exact ⟨0,hs.length,rfl,rfl,Nat.zero_le _,Nat.le_refl _,by omega,(ExtM.refl _).alloc _,by go_simp,by go_simp,by go_simp,by simp,fun t ht h=>absurd h (Nat.not_lt_zero _),fun t ht h=>by omega⟩
 case round =>
  obtain ⟨lo,hi,rfl,rfl,hlh,hin,hg,hx,b0,b1,b2,hlt,I1,I2⟩:=hrel;by_cases hlt':lo < hi
  . have hm:(lo + hi) / 2 < hs.length:=by omega
    obtain ⟨g,rfl,hgl,⟨e0,e1,e2,e3,fz⟩⟩:=(h.ext hx (fun _ _ h=>h)).at' _ hm;have hcmp:=fun u=>zgp (hs[(lo + hi) / 2]'hm) key time val u;by_cases hq:za2 key time (hs[(lo + hi) / 2]'hm) = true
    . rw [if_pos hq] at hcmp;go_wp2_with fail;refine Plan.b0 Plan.Ext 8 ?_;refine Plan.qs 6 [0,1,2,3,4,5] ?_;iterate 6 go_big_quiet_step (fail)
      refine Plan.o1 6 fun K hK=>?_;go_wp2_with (fail);refine (hcmp _).mono ?_;rintro e w1 ⟨rfl,h1⟩;have H1:=ExtM.trans _ _ _ (ExtM.refl _).drew h1;obtain ⟨hc1,hf1,-⟩:=Ext.rules H1;have hs1_0:w.heap.size < w1.heap.size:=by have:=H1.size;(try simp at this);omega
      have hs1_1:g < w1.heap.size:=by have:=H1.size;(try simp at this);omega
      go_wp2_with (fail);refine hK _ _ h1 ?_;clear hK K;refine Plan.qs 1 [7] ?_;go_big_quiet_step (fail);refine Plan.dn ?_;go_wp2;go_roundg (hi - ((lo + hi) / 2 + 1))
      case measure=>omega
      case rel =>
       refine ⟨(lo + hi) / 2 + 1,hi,by rw [show ((lo:Int) + (hi:Int)) / 2 + 1 = (((lo + hi) / 2 + 1:Nat):Int) by omega],rfl,by omega,hin,Nat.le_refl _,ExtM.trans _ _ _ hx H1,(hc1 _ _ hlt).trans b0,(hc1 _ _ hlt).trans b1,(hc1 _ _ hlt).trans b2,hs1_0,fun t ht h=>?_,I2⟩;exact hmono t _ ht hm (by omega) hq
    . rw [if_neg hq] at hcmp;go_wp2_with fail;refine Plan.b0 Plan.Ext 8 ?_;refine Plan.qs 6 [0,1,2,3,4,5] ?_;iterate 6 go_big_quiet_step (fail)
      refine Plan.o1 6 fun K hK=>?_;go_wp2_with (fail);refine (hcmp _).mono ?_;rintro e w1 ⟨rfl,h1⟩;have H1:=ExtM.trans _ _ _ (ExtM.refl _).drew h1;obtain ⟨hc1,hf1,-⟩:=Ext.rules H1;have hs1_0:w.heap.size < w1.heap.size:=by have:=H1.size;(try simp at this);omega
      have hs1_1:g < w1.heap.size:=by have:=H1.size;(try simp at this);omega
      go_wp2_with (fail);refine hK _ _ h1 ?_;clear hK K;refine Plan.qs 1 [7] ?_;go_big_quiet_step (fail);refine Plan.dn ?_;go_wp2;go_roundg ((lo + hi) / 2 - lo)
      case measure=>omega
      case rel =>
       refine ⟨lo,(lo + hi) / 2,rfl,by rw [show ((lo:Int) + (hi:Int)) / 2 = (((lo + hi) / 2:Nat):Int) by omega],by omega,by omega,Nat.le_refl _,ExtM.trans _ _ _ hx H1,(hc1 _ _ hlt).trans b0,(hc1 _ _ hlt).trans b1,(hc1 _ _ hlt).trans b2,hs1_0,I1,fun t ht h=>?_⟩;cases hb:za2 key time hs[t] with
       | false=>rfl
       | true=>exact absurd (hmono _ t hm ht h hb) hq
  . obtain rfl:hi = lo:=by omega
    have hfin:∀ i (hi':i < hs.length),za2 key time hs[i] = decide (i < hi):=fun i hi'=>by
     by_cases h:i < hi
     . rw [I1 i hi' h,decide_eq_true h]
     . rw [I2 i hi' (by omega),decide_eq_false h]
    by_cases hn:hi < hs.length
    . obtain ⟨g,rfl,hgl,⟨e0,e1,e2,e3,fz⟩⟩:=(h.ext hx (fun _ _ h=>h)).at' _ hn;have hcmp:=fun u=>zgp (hs[hi]'hn) key time val u;go_wp2_with fail;refine Plan.b0 Plan.Ext 16 ?_;refine Plan.qs 11 [0,1,2,3,4,5,6,7,8,9,10] ?_;iterate 11 go_big_quiet_step (fail)
      refine Plan.ow 11 fun K hK=>?_;go_wp2_with (fail);refine (hcmp _).mono ?_;rintro e w1 ⟨rfl,h1⟩;have H1:=ExtM.trans _ _ _ (ExtM.refl _).drew h1;obtain ⟨hc1,hf1,-⟩:=Ext.rules H1;have hs1_0:w.heap.size < w1.heap.size:=by have:=H1.size;(try simp at this);omega
      have hs1_1:g < w1.heap.size:=by have:=H1.size;(try simp at this);omega
      go_wp2_with (fail);refine hK _ _ h1 ?_;clear hK K;refine Plan.qs 4 [12,13,14,15] ?_;iterate 4 go_big_quiet_step (fail)
      refine Plan.dn ?_;go_wp2;go_ret2;exact ⟨hi,_,rfl,hin,hfin,ExtM.trans _ _ _ hx H1⟩
    . go_wp2_with fail;refine Plan.b0 Plan.Ext 16 ?_;refine Plan.qs 11 [0,1,2,3,4,5,6,7,8,9,10] ?_;iterate 11 go_big_quiet_step (fail)
      refine Plan.zaZ 11 (by kernel_rfl) (by rfl) (Plan.skip ExtM.refl rfl ?_);simp only [Act.put,List.setIfInBounds_toArray,List.set_cons_succ,List.set_cons_zero];refine Plan.qs 4 [12,13,14,15] ?_;iterate 4 go_big_quiet_step (fail)
      refine Plan.dn ?_;go_wp2;go_ret2;exact ⟨hi,_,rfl,hin,hfin,hx.drew⟩
def errV (e:Int):Value:=if e = 0 then .nilIface else .iface 24 (.int .i64 e)
theorem zaN (key time:Int) (h:Hd):za2 key time h = true ↔ h.r.k < key \/ (h.r.k = key /\ h.r.t < time):=by
 unfold za2 zaF;simp only [orI,cmpI];rcases Int.lt_trichotomy h.r.k key with h1 | h1 | h1
 . simp [h1]
 . rcases Int.lt_trichotomy h.r.t time with h2 | h2 | h2
   . simp [h1,h2]
   . simp [h1,h2]
   . have h3:¬ h.r.t < time:=by omega
     have h4:¬ h.r.t = time:=by omega
     simp [h1,h2,h3]
 . have h3:¬ h.r.k < key:=by omega
   have h4:¬ h.r.k = key:=by omega
   simp [h1,h3,h4]
def leKT (a b:Hd):Prop:=a.r.k < b.r.k \/ (a.r.k = b.r.k /\ a.r.t <= b.r.t)
def zaD (hs:List Hd):Prop:=hs.Pairwise leKT
theorem zgV {hs:List Hd} (h:zaD hs) (key time:Int):∀ a b (ha:a < hs.length) (hb:b < hs.length),a <= b -> za2 key time hs[b] = true -> za2 key time hs[a] = true:=by
 intro a b ha hb hab hq;rcases Nat.lt_or_eq_of_le hab with h1 | rfl
 . have h2:=(List.pairwise_iff_getElem.1 h) a b ha hb h1;rw [zaN] at hq ⊢;unfold leKT at h2;omega
 . exact hq
theorem zeG {α:Type} (p:α -> Bool):∀ (l:List α) (k:Nat),k <= l.length -> (∀ i (hi:i < l.length),p l[i] = decide (i < k)) -> l.countP p = k
 | [],k,hk,_=>by simp at hk ⊢;omega
 | a :: r,0,_,h=>by
   rw [List.countP_eq_zero];intro x hx;obtain ⟨i,hi,rfl⟩:=List.mem_iff_getElem.1 hx;rw [h i hi];simp
 | a :: r,k + 1,hk,h=>by
   have ha:p a = true:=by have:=h 0 (by simp);simpa using this
   rw [List.countP_cons_of_pos ha,zeG p r k (by simpa using hk) (fun i hi=>by have:=h (i + 1) (by simpa using hi);simpa using this)]
def fromN (key time:Int) (hs:List Hd):Nat:=hs.countP (za2 key time)
theorem HRow.extF {w w':World} {v:Value} {hs:List Hd} (h:HRow w v hs) (hx:Ext w w'):HRow w' v hs:=h.ext hx (fun _ _ h=>h)
theorem HRow.ne {w:World} {v:Value} {hs:List Hd} (h:HRow w v hs) {n:Nat} (hn:w.heap.size <= n):v.ownBlock ≠ some n:=fun e=>by have:=(zaf h _ e).2;omega
structure zaz (w:World) (S o:Nat) (v:Value) (hs:List Hd):Prop where
 c0:w.cell? ⟨S,o,none⟩ = some v
 fz:w.frozen? ⟨S,o,none⟩ = false
 row:HRow w v hs
 srt:zaD hs
 own:v.ownBlock ≠ some S
theorem zaz.lt {w:World} {S o:Nat} {v:Value} {hs:List Hd} (h:zaz w S o v hs):S < w.heap.size:=by
 have:=h.c0
 unfold World.cell? at this;split at this
 . rename_i hb;exact (Array.getElem?_eq_some_iff.1 hb).1
 . cases this
theorem zaz.ext {w w':World} {S o:Nat} {v:Value} {hs:List Hd} (h:zaz w S o v hs) (hx:Ext w w'):zaz w' S o v hs :=
 ⟨(hx.cell (p:=⟨S,o,none⟩) h.lt (fun h=>h)).trans h.c0,(hx.frozen (p:=⟨S,o,none⟩) h.lt (fun h=>h)).trans h.fz,h.row.ext hx (fun _ _ h=>h),h.srt,h.own⟩
theorem zll (S o:Nat) (v:Value) (hs:List Hd) (key time:Int) (w:World) (h:zaz w S o v hs) (hl:hs.length < 1000000) :
 Calls Tryz.prog 129 #[.pointer (some ⟨S,o,none⟩),.int .i64 key,.int .i64 time] w fun e w'=>e = .returned (.int .i64 (fromN key time hs:Nat)) /\ Ext w w':=by
 have c0:=h.c0;have hb:=zkt v hs key time 0 w h.row hl (zgV h.srt key time);go_enter Tryz.func129,Tryz.ntmps129;go_wp2_with (go_at_call 173;refine hb.mono ?_;rintro e w1 ⟨k,b,rfl,hk,hka,hx⟩);go_ret;exact ⟨by rw [show fromN key time hs = k from zeG _ _ _ hk hka];rfl,hx⟩
structure zco (w w':World) (S o:Nat) (v:Value) (hs':List Hd):Prop where
 is:∃ v',zaz w' S o v' hs' /\ (v'.ownBlock = v.ownBlock \/ ∃ k,v'.ownBlock = some k /\ w.heap.size <= k)
 ext:ExtM (fun k=>k = S \/ v.ownBlock = some k) w w'
 cell:∀ o',o' ≠ o -> w'.cell? ⟨S,o',none⟩ = w.cell? ⟨S,o',none⟩
 froz:∀ o',w'.frozen? ⟨S,o',none⟩ = w.frozen? ⟨S,o',none⟩
def addH (hs:List Hd) (x:Hd):List Hd:=insH hs (fromN x.r.k (x.r.t + 1) hs) x
def addE (hs:List Hd) (x:Hd):Int:=if (za3 x.r.k x.r.t x.r.v && decide (0 <= x.m)) = false then 1 else if 300 <= hs.length then 12 else 0
def addL (hs:List Hd) (x:Hd):List Hd:=if addE hs x = 0 then addH hs x else hs
theorem zcT {hs:List Hd} (h:zaD hs) (key time:Int):(∀ a ∈ hs.take (fromN key time hs),za2 key time a = true) /\ (∀ a ∈ hs.drop (fromN key time hs),za2 key time a = false):=by
 induction hs with
 | nil=>exact ⟨fun a ha=>by simp at ha,fun a ha=>by simp at ha⟩
 | cons x r ih =>
   have h2:=List.pairwise_cons.1 h;have ih:=ih h2.2;by_cases hx:za2 key time x = true
   . have e:fromN key time (x :: r) = fromN key time r + 1:=List.countP_cons_of_pos hx;rw [e];refine ⟨fun a ha=>?_,fun a ha=>ih.2 a (by simpa using ha)⟩;rw [List.take_succ_cons] at ha;rcases List.mem_cons.1 ha with rfl | ha
     . exact hx
     . exact ih.1 a ha
   . have hall:∀ a ∈ x :: r,za2 key time a = false:=by
      intro a ha;rcases List.mem_cons.1 ha with rfl | ha
      . exact Bool.eq_false_iff.2 hx
      . cases hq:za2 key time a with
        | false=>rfl
        | true =>
          exfalso;apply hx;have h3:=h2.1 a ha;rw [zaN] at hq ⊢;unfold leKT at h3;omega
     have e:fromN key time (x :: r) = 0:=List.countP_eq_zero.2 (fun a ha=>by rw [hall a ha];decide);rw [e];exact ⟨fun a ha=>by simp at ha,fun a ha=>hall a (by simpa using ha)⟩
theorem zhJ {hs:List Hd} (h:zaD hs) (x:Hd):zaD (addH hs x):=by
 obtain ⟨h1,h2⟩:=zcT h x.r.k (x.r.t + 1);unfold addH insH zaD;have hp:(hs.take (fromN x.r.k (x.r.t + 1) hs) ++ hs.drop (fromN x.r.k (x.r.t + 1) hs)).Pairwise leKT:=by rw [List.take_append_drop];exact h
 obtain ⟨p1,p2,p3⟩:=List.pairwise_append.1 hp;refine List.pairwise_append.2 ⟨p1,List.pairwise_cons.2 ⟨fun a ha=>?_,p2⟩,fun a ha b hb=>?_⟩
 . have:=h2 a ha
   have h4:¬ (za2 x.r.k (x.r.t + 1) a = true):=by rw [this];decide
   rw [zaN] at h4;unfold leKT;omega
 . rcases List.mem_cons.1 hb with rfl | hb
   . have:=h1 a ha
     rw [zaN] at this;unfold leKT;omega
   . exact p3 a ha b hb
theorem zhQ {w w3:World} {S o:Nat} {v v':Value} {hs hs':List Hd} (h:zaz w S o v hs) (hx:ExtM (fun k=>v.ownBlock = some k) w w3) (hr:HRow w3 v' hs') (ho:v'.ownBlock = v.ownBlock \/ ∃ k,v'.ownBlock = some k /\ w.heap.size <= k) (hs2:zaD hs') :
 zco w (w3.setCell ⟨S,o,none⟩ v') S o v hs':=by
 have hlt:=h.lt;have hS3:w3.heap[S]? = w.heap[S]?:=hx.block S hlt h.own;have hc:∀ o',w3.cell? ⟨S,o',none⟩ = w.cell? ⟨S,o',none⟩:=fun o'=>World.cell?_of_block (w:=w) (w':=w3) (a:=⟨S,o',none⟩) hS3;have hf:∀ o',w3.frozen? ⟨S,o',none⟩ = w.frozen? ⟨S,o',none⟩:=fun o'=>World.frozen?_of_block (w:=w) (w':=w3) (a:=⟨S,o',none⟩) hS3;have hoS:v'.ownBlock ≠ some S:=fun e=>by
  rcases ho with h1 | ⟨k,h1,h2⟩
  . exact h.own (h1 ▸ e)
  . rw [h1] at e
    have:=Option.some.inj e
    omega
 refine ⟨⟨v',⟨?_,?_,?_,hs2,hoS⟩,ho⟩,?_,?_,?_⟩
 . have:=hc o
   rw [h.c0] at this;exact World.cell?_setCell_same _ _ _ this
 . rw [World.frozen?_setCell,hf,h.fz]
 . exact hr.ext (M:=fun k=>S = k) (ExtM.setCell (M:=fun k=>S = k) (ExtM.refl w3) (p:=⟨S,o,none⟩) (.inr rfl) v') (fun k hk (e:S = k)=>hoS (by rw [hk,e]))
 . exact ExtM.setCell (ExtM.mono hx (fun _ _ h=>.inr h)) (.inr (.inl rfl)) _
 . intro o' ho';rw [World.cell?_setCell_other _ _ _ _ (fun e=>ho' (by injection e with _ e _;exact e.symm)),hc]
 . intro o';rw [World.frozen?_setCell,hf]
theorem zdJ (key time:Int) (hs:List Hd):fromN key time hs <= hs.length:=List.countP_le_length
theorem znT (S o:Nat) (v:Value) (hs:List Hd) (k t q m:Int) (w:World) (h:zaz w S o v hs) (hg:za3 k t q = true) (hm:0 <= m) (hl:hs.length < 300) :
 Calls Tryz.prog 94 #[.pointer (some ⟨S,o,none⟩),.agg #[.int .i64 k,.int .i64 t,.int .i64 q],.int .i64 m] w fun e w'=>e = .returned .nilIface /\ zco w w' S o v (addH hs ⟨⟨k,t,q⟩,m⟩):=by
 have hlt:=h.lt;have hd1:decide (m < 0) = false:=by simp;omega
 have hd2:decide ((300:Int) <= (hs.length:Int)) = false:=by simp;omega
 have hS1:=h.ext ((ExtM.refl w).alloc (.cells #[.int .i64 k,.int .i64 t,.int .i64 q] 37));have c0:=h.c0;have fz:=h.fz;obtain ⟨p,cap,rfl,-⟩:=zaa h.row;go_enter Tryz.func94,Tryz.ntmps94
 go_wp2_with (
  go_at_call 85;refine (zdq _ _ _ _).mono ?_;rintro e w1 ⟨rfl,hx⟩;rw [hg];have hS2:=hS1.ext hx;have c1:=hS2.c0;have fz1:=hS2.fz;have b0:w1.cell? ⟨w.heap.size,0,none⟩ = some (.int .i64 k):=(hx.rules.1 _ _ (by simp)).trans (by go_simp);have b1:w1.cell? ⟨w.heap.size,1,none⟩ = some (.int .i64 t):=(hx.rules.1 _ _ (by simp)).trans (by go_simp);have b2:w1.cell? ⟨w.heap.size,2,none⟩ = some (.int .i64 q):=(hx.rules.1 _ _ (by simp)).trans (by go_simp);have hsz:w.heap.size < w1.heap.size:=by have:=ExtM.size hx;simp at this;omega
  have hx0:Ext w w1:=ExtM.trans _ _ _ ((ExtM.refl _).alloc _) hx
  clear hx c0 fz hS1)
 have ht:-1099511627776 <= t /\ t <= 1099511627776:=by
  unfold za3 inB at hg;simp at hg;omega
 have hw5:IntKind.i64.wrap (t + 1) = t + 1:=by rw [IntKind.wrap_i64];omega
 have hrow2:=hS2.row;have hlt1:=hS2.lt;have hne:¬ (Value.slice p hs.length cap).ownBlock = some S:=hS2.own;have hnx:¬ (Value.slice p hs.length cap).ownBlock = some w.heap.size:=h.row.ne (Nat.le_refl _);have hxd:Ext w1 w1.drew:=(ExtM.refl w1).drew;refine Plan.bT (Plan.ExtR (Value.slice p hs.length cap).ownBlock) [19] 20 ?_;refine Plan.qs 12 [0,1,2,3,4,5,6,7,8,9,10,12] ?_;iterate 12 go_big_quiet_step (fail)
 refine Plan.qs 2 [13,14] ?_;iterate 2 go_big_quiet_step (fail)
 refine Plan.o2 11 15 (fun K hK=>?_) fun K hK=>?_
 focus
  go_wp2_with (fail);refine (zll S o _ hs k (t + 1) _ (by first | exact hS2.ext hxd | exact hS2.ext (hxd.alloc _)) (by omega)).mono ?_;rintro e w2 ⟨rfl,h2⟩;have H2:=ExtR.trans _ _ _ (ExtR.refl _).drew (ExtR.of_ext (R:=(Value.slice p hs.length cap).ownBlock) h2);go_wp2_with (fail);refine hK _ _ (ExtR.of_ext (R:=(Value.slice p hs.length cap).ownBlock) h2) ?_;clear hK K;refine Plan.o1 15 fun K hK=>?_;go_wp2_with (fail);refine hK _ _ ((ExtM.refl _).alloc _) ?_;clear hK K;refine Plan.o1 16 fun K hK=>?_;go_wp2_with (fail);refine (ziw _ hs (fromN k (t + 1) hs) _ ⟨⟨k,t,q⟩,m⟩ _ (by first | exact hrow2.extF (ExtM.alloc (ExtM.trans _ _ _ hxd h2) _) | exact hrow2.extF (ExtM.trans _ _ _ (hxd.alloc _) h2)) (by first | exact ⟨heap_alloc_new _ _⟩ | exact ⟨(h2.block _ (by simp) id).trans (heap_alloc_new _ _)⟩) (zdJ _ _ _) (hrow2.ne (by have h9:=h2.size;(try simp at h9 ⊢);(try omega))) (by omega)).mono ?_;rintro e w3 ⟨p',n',cap',rfl,h3,hrow3,hown3⟩;have H3:=ExtR.trans _ _ _ (H2.alloc _) h3;obtain ⟨hc3,hf3,-⟩:=ExtR.rules H3;have hs3_0:S < w3.heap.size:=by have:=H3.size;(try simp at this);omega
  have hs3_1:w.heap.size < w3.heap.size:=by have:=H3.size;(try simp at this);omega
  go_wp2_with (fail);refine hK _ _ h3 ?_;clear hK K;refine Plan.o1 17 fun K hK=>?_;go_wp2_with (fail);refine hK _ _ (ExtM.refl _) ?_;clear hK K;refine Plan.qs 1 [18] ?_;go_big_quiet_step (fail);refine Plan.ol 19 fun K hK=>?_;go_wp2_with (fail);refine Plan.dn ?_
 rotate_left
 focus
  go_wp2_with (fail);refine hK _ _ ((ExtM.refl _).alloc _) ?_;clear hK K;refine Plan.o1 11 fun K hK=>?_;go_wp2_with (fail);refine (zll S o _ hs k (t + 1) _ (by first | exact hS2.ext hxd | exact hS2.ext (hxd.alloc _)) (by omega)).mono ?_;rintro e w2 ⟨rfl,h2⟩;have H2:=ExtR.trans _ _ _ ((ExtR.refl _).drew.alloc _) (ExtR.of_ext (R:=(Value.slice p hs.length cap).ownBlock) h2);go_wp2_with (fail);refine hK _ _ (ExtR.of_ext (R:=(Value.slice p hs.length cap).ownBlock) h2) ?_;clear hK K;refine Plan.o1 16 fun K hK=>?_;go_wp2_with (fail);refine (ziw _ hs (fromN k (t + 1) hs) _ ⟨⟨k,t,q⟩,m⟩ _ (by first | exact hrow2.extF (ExtM.alloc (ExtM.trans _ _ _ hxd h2) _) | exact hrow2.extF (ExtM.trans _ _ _ (hxd.alloc _) h2)) (by first | exact ⟨heap_alloc_new _ _⟩ | exact ⟨(h2.block _ (by simp) id).trans (heap_alloc_new _ _)⟩) (zdJ _ _ _) (hrow2.ne (by have h9:=h2.size;(try simp at h9 ⊢);(try omega))) (by omega)).mono ?_;rintro e w3 ⟨p',n',cap',rfl,h3,hrow3,hown3⟩;have H3:=ExtR.trans _ _ _ H2 h3;obtain ⟨hc3,hf3,-⟩:=ExtR.rules H3;have hs3_0:S < w3.heap.size:=by have:=H3.size;(try simp at this);omega
  have hs3_1:w.heap.size < w3.heap.size:=by have:=H3.size;(try simp at this);omega
  go_wp2_with (fail);refine hK _ _ h3 ?_;clear hK K;refine Plan.o1 17 fun K hK=>?_;go_wp2_with (fail);refine hK _ _ (ExtM.refl _) ?_;clear hK K;refine Plan.qs 1 [18] ?_;go_big_quiet_step (fail);refine Plan.ol 19 fun K hK=>?_;go_wp2_with (fail);refine Plan.dn ?_
 all_goals
  go_wp2;go_ret;refine ⟨rfl,zhQ h (ExtM.trans _ _ _ (hx0.mono (fun _ _ h=>h.elim)) H3) hrow3 ?_ (zhJ h.srt _)⟩;rcases hown3 with h4 | ⟨k',h4,h5⟩
  . exact .inl h4
  . have:=h2.size
    simp at h5 this;exact .inr ⟨k',h4,by omega⟩
theorem zeg {w w':World} {S o:Nat} {v:Value} {hs:List Hd} (h:zaz w S o v hs) (hx:Ext w w'):zco w w' S o v hs :=
 ⟨⟨v,h.ext hx,.inl rfl⟩,hx.mono (fun _ _ h=>h.elim),fun _ _=>hx.rules.1 _ _ h.lt,fun _=>hx.rules.2.1 _ _ h.lt⟩
theorem zmk (S o:Nat) (v:Value) (hs:List Hd) (k t q m:Int) (w:World) (h:zaz w S o v hs) (hb:(za3 k t q && decide (0 <= m)) = false) :
 Calls Tryz.prog 94 #[.pointer (some ⟨S,o,none⟩),.agg #[.int .i64 k,.int .i64 t,.int .i64 q],.int .i64 m] w fun e w'=>e = .returned (errV 1) /\ zco w w' S o v hs:=by
 cases hg:za3 k t q with
 | false =>
   go_enter Tryz.func94,Tryz.ntmps94
   go_wp2_with (
    go_at_call 85;refine (zdq _ _ _ _).mono ?_;rintro e w1 ⟨rfl,hx⟩
    rw [hg])
   go_ret;exact ⟨rfl,zeg h (ExtM.trans _ _ _ ((ExtM.refl _).alloc _) hx)⟩
 | true =>
   have hd1:decide (m < 0) = true:=by
    rw [hg] at hb;simp at hb ⊢;omega
   go_enter Tryz.func94,Tryz.ntmps94
   go_wp2_with (
    go_at_call 85;refine (zdq _ _ _ _).mono ?_;rintro e w1 ⟨rfl,hx⟩
    rw [hg])
   go_ret;exact ⟨rfl,zeg h (ExtM.trans _ _ _ ((ExtM.refl _).alloc _) hx)⟩
theorem zke (S o:Nat) (v:Value) (hs:List Hd) (k t q m:Int) (w:World) (h:zaz w S o v hs) (hg:za3 k t q = true) (hm:0 <= m) (hl:300 <= hs.length) :
 Calls Tryz.prog 94 #[.pointer (some ⟨S,o,none⟩),.agg #[.int .i64 k,.int .i64 t,.int .i64 q],.int .i64 m] w fun e w'=>e = .returned (errV 12) /\ zco w w' S o v hs:=by
 have hd1:decide (m < 0) = false:=by simp;omega
 have hd2:decide ((300:Int) <= (hs.length:Int)) = true:=by simp;omega
 have h0:=h;have c0:=h.c0;have hlt:=h.lt;obtain ⟨p,cap,rfl,-⟩:=zaa h.row;clear h;go_enter Tryz.func94,Tryz.ntmps94
 go_wp2_with (
  go_at_call 85;refine (zdq _ _ _ _).mono ?_;rintro e w1 ⟨rfl,hx⟩;rw [hg]
  have c1:w1.cell? ⟨S,o,none⟩ = some (.slice p hs.length cap):=((h0.ext ((ExtM.refl w).alloc _)).ext hx).c0)
 go_ret;exact ⟨rfl,zeg h0 (ExtM.trans _ _ _ ((ExtM.refl _).alloc _) hx)⟩
theorem zp0 (S o:Nat) (v:Value) (hs:List Hd) (x:Hd) (w:World) (h:zaz w S o v hs) :
 Calls Tryz.prog 94 #[.pointer (some ⟨S,o,none⟩),.agg #[.int .i64 x.r.k,.int .i64 x.r.t,.int .i64 x.r.v],.int .i64 x.m] w fun e w'=>e = .returned (errV (addE hs x)) /\ zco w w' S o v (addL hs x):=by
 unfold addL addE;split
 . rename_i hb;exact zmk S o v hs _ _ _ _ w h hb
 . rename_i hb;have hg:za3 x.r.k x.r.t x.r.v = true /\ 0 <= x.m:=by simpa using hb
   split
   . rename_i hf;exact zke S o v hs _ _ _ _ w h hg.1 hg.2 hf
   . rename_i hf;exact znT S o v hs _ _ _ _ w h hg.1 hg.2 (by omega)
theorem zia (S o:Nat) (v:Value) (hs:List Hd) (w:World) (h:zaz w S o v hs) :
 Calls Tryz.prog 89 #[.pointer (some ⟨S,o,none⟩)] w fun e w'=>e = .returned (.int .i64 (hs.length:Nat)) /\ w' = w:=by
 have c0:=h.c0;obtain ⟨p,cap,rfl,-⟩:=zaa h.row;go_enter Tryz.func89,Tryz.ntmps89;go_wp2;go_ret;exact ⟨rfl,rfl⟩
end Go.Proofs.YtmcgnnmffeojpabGreatDoor
