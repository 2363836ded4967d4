import Derived.Test.YtmcgnnmffeojpabGreatDoorPk2
import Derived.Test.YtmcgnnmffeojpabGreatDoorPk3
import Derived.Test.YtmcgnnmffeojpabGreatDoorPk5
import Derived.Maps.Keyed
import Derived.Maps.RangeRun
import Derived.WideKeyEntry
import Derived.Deep.Strs
import Derived.Deep.Slices
import Derived.DeepKeys4
set_option maxRecDepth 100000
set_option maxHeartbeats 8000000
namespace Go.Plan
open Go.Maps (Keyed)
open Go.ChangeMaps (setBlock)
open Go.MapKept (Stamped)
open Go.RowKit
theorem zaC {w:World} {D:Nat} {o:Obj}:ExtB D w (setBlock w D o) :=
 ⟨rfl,rfl,rfl,by simp [setBlock],fun k _ hk=>by
  have hk':¬ k = D:=hk
  simp [setBlock,Ne.symm hk']⟩
theorem zal {w:World} {D:Nat} {o o':Obj} (h:w.heap[D]? = some o'):(setBlock w D o).heap[D]? = some o:=by
 have hlt:=(Array.getElem?_eq_some_iff.1 h).1;simp [setBlock,hlt]
theorem zax {w:World} {D:Nat} {o:Obj}:(setBlock w D o).heap.size = w.heap.size:=by simp [setBlock]
section
variable {P:Program} {t k e:TypeId} {α:Type} {enc:α -> Value}
structure zav (P:Program) (k:TypeId) (enc:α -> Value) (w:World) (D:Nat) (m:List (α × Value)):Prop where
 ex:∃ (es:Array MapEntry) (clock:Nat),w.heap[D]? = some (.map es clock) /\ es.toList.map (fun e=>(e.key,e.val)) = m.map (fun p=>(enc p.1,p.2)) /\ Stamped es clock
 keys:∀ p ∈ m,∃ l,keyOf P k (enc p.1) = some l
theorem zav.lt {w:World} {D:Nat} {m:List (α × Value)} (h:zav P k enc w D m):D < w.heap.size:=by
 obtain ⟨es,clock,hb,-⟩:=h.ex;exact (Array.getElem?_eq_some_iff.1 hb).1
theorem zav.keep {w w':World} {D:Nat} {m:List (α × Value)} (h:zav P k enc w D m) (hb:w'.heap[D]? = w.heap[D]?):zav P k enc w' D m:=by
 obtain ⟨es,clock,h1,h2,h3⟩:=h.ex;exact ⟨⟨es,clock,hb.trans h1,h2,h3⟩,h.keys⟩
theorem zav.of {M:Nat -> Prop} {w w':World} {D:Nat} {m:List (α × Value)} (h:zav P k enc w D m) (hx:ExtM M w w') (hD:¬ M D):zav P k enc w' D m:=h.keep (hx.block D h.lt hD)
theorem zav.made (w:World):zav P k enc (w.alloc (.map #[] 0)) w.heap.size [] :=
 ⟨⟨#[],0,heap_alloc_new _ _,rfl,MapKept.stamped_empty 0⟩,by simp⟩
theorem zhd {es:List MapEntry} {m:List (α × Value)} (h2:es.map (fun e=>(e.key,e.val)) = m.map (fun p=>(enc p.1,p.2))) (hk:(es.map (·.key)).Nodup):(m.map (·.1)).Nodup:=by
 have e1:es.map (·.key) = m.map (fun p=>enc p.1):=by
  have:=congrArg (List.map (·.1)) h2
  simpa [List.map_map,Function.comp_def] using this
 rw [e1] at hk;have:(m.map (fun p=>enc p.1)) = (m.map (·.1)).map enc:=by simp [List.map_map,Function.comp_def]
 rw [this] at hk;exact List.Pairwise.of_map enc (fun a b h e=>h (by rw [e])) hk
theorem zav.nodup {w:World} {D:Nat} {m:List (α × Value)} (h:zav P k enc w D m):(m.map (·.1)).Nodup:=by
 obtain ⟨es,clock,-,h2,h3⟩:=h.ex;exact zhd h2 h3.2.2
theorem zkv {es:List MapEntry} {m:List (α × Value)} (h2:es.map (fun e=>(e.key,e.val)) = m.map (fun p=>(enc p.1,p.2))) {j:Nat} {e0:MapEntry} (hj:es[j]? = some e0):∃ p,m[j]? = some p /\ e0.key = enc p.1 /\ e0.val = p.2:=by
 have:=congrArg (fun l=>l[j]?) h2
 simp only [List.getElem?_map,hj,Option.map_some] at this;obtain ⟨p,hp,he⟩:=Option.map_eq_some_iff.1 this.symm;simp only [Prod.mk.injEq] at he;exact ⟨p,hp,he.1.symm,he.2.symm⟩
theorem zn3 {es:List MapEntry} {m:List (α × Value)} (h2:es.map (fun e=>(e.key,e.val)) = m.map (fun p=>(enc p.1,p.2))) (hk:∀ p ∈ m,∃ l,keyOf P k (enc p.1) = some l):∀ e ∈ es,∃ l,keyOf P k e.key = some l:=by
 intro e0 he;obtain ⟨j,hj⟩:=List.mem_iff_getElem?.1 he;obtain ⟨p,hp,h1,-⟩:=zkv h2 hj;rw [h1];exact hk p (List.mem_of_getElem? hp)
theorem znu {es:List MapEntry} {m:List (α × Value)} (h2:es.map (fun e=>(e.key,e.val)) = m.map (fun p=>(enc p.1,p.2))) {x:α} (h:∀ e ∈ es,e.key ≠ enc x):∀ p ∈ m,p.1 ≠ x:=by
 intro p hp hx;obtain ⟨j,hj⟩:=List.mem_iff_getElem?.1 hp
 have:=congrArg (fun l=>l[j]?) h2
 simp only [List.getElem?_map,hj,Option.map_some] at this;obtain ⟨e0,he,heq⟩:=Option.map_eq_some_iff.1 this;simp only [Prod.mk.injEq] at heq;exact h e0 (List.mem_of_getElem? he) (by rw [heq.1,hx])
variable [DecidableEq α]
def mlook (m:List (α × Value)) (x:α):Option Value:=(m.find? fun p=>decide (p.1 = x)).map (·.2)
def putK (m:List (α × Value)) (x:α) (v:Value):List (α × Value):=if (mlook m x).isSome then m.map (fun p=>if p.1 = x then (x,v) else p) else m ++ [(x,v)]
def delK (m:List (α × Value)) (x:α):List (α × Value):=m.filter fun p=>!decide (p.1 = x)
theorem zbR {m:List (α × Value)} {x:α} (h:∀ p ∈ m,p.1 ≠ x):mlook m x = none:=by
 unfold mlook;rw [List.find?_eq_none.2 (fun p hp=>by simpa using h p hp)];rfl
theorem ze8 {m:List (α × Value)} {x:α}:mlook m x = none ↔ ∀ p ∈ m,p.1 ≠ x:=by
 refine ⟨fun h p hp hx=>?_,zbR⟩;unfold mlook at h;simp only [Option.map_eq_none_iff,List.find?_eq_none,decide_eq_true_eq] at h;exact h p hp hx
theorem zcp {m:List (α × Value)} {x:α} {v:Value} (hn:(m.map (·.1)).Nodup) (h:(x,v) ∈ m):mlook m x = some v:=by
 induction m with
 | nil=>simp at h
 | cons p r ih =>
   simp only [List.map_cons,List.nodup_cons] at hn;rcases List.mem_cons.1 h with h1 | h1
   . subst h1;simp [mlook]
   . have hne:p.1 ≠ x:=fun hp=>hn.1 (List.mem_map.2 ⟨_,h1,hp.symm⟩)
     have:=ih hn.2 h1
     simpa [mlook,List.find?_cons,hne] using this
theorem zav.find (K:Keyed P k) (hinj:∀ x y,enc x = enc y -> x = y) {w:World} {es:Array MapEntry} {m:List (α × Value)} (h2:es.toList.map (fun e=>(e.key,e.val)) = m.map (fun p=>(enc p.1,p.2))) (hks:∀ p ∈ m,∃ l,keyOf P k (enc p.1) = some l)
 (hn:(m.map (·.1)).Nodup) (x:α) (hk:∃ l,keyOf P k (enc x) = some l) :
 ((Instr.findKey k (enc x) es.toList).run P w = .ok none w /\ (∀ e ∈ es.toList,e.key ≠ enc x) /\ mlook m x = none /\ ∀ p ∈ m,p.1 ≠ x) \/
 ∃ j e0,(Instr.findKey k (enc x) es.toList).run P w = .ok (some (j,e0.val)) w /\ es.toList[j]? = some e0 /\ e0.key = enc x /\ mlook m x = some e0.val /\ m[j]? = some (x,e0.val):=by
 obtain ⟨l,hl⟩:=hk;rcases K.find w hl es.toList (zn3 h2 hks) with ⟨h1,h3⟩ | ⟨j,e0,h1,h3,h4⟩
 . exact .inl ⟨h1,h3,zbR (znu h2 h3),znu h2 h3⟩
 . obtain ⟨p,hp,h5,h6⟩:=zkv h2 h3;have hx:p.1 = x:=hinj _ _ (h5.symm.trans h4);have hp':m[j]? = some (x,e0.val):=by rw [hp,<- hx,h6]
   exact .inr ⟨j,e0,h1,h3,h4,zcp hn (List.mem_of_getElem? hp'),hp'⟩
theorem zav.run_look (c:Bool) (K:Keyed P k) (hinj:∀ x y,enc x = enc y -> x = y) (ht:P.underlying t = some (.map k e)) {z:Value} (hz:∀ w,(zeroValue e).run P w = .ok z w) {w:World} {D:Nat} {m:List (α × Value)} (h:zav P k enc w D m)
 (x:α) (hk:∃ l,keyOf P k (enc x) = some l) :
 (Instr.lookup t (.map (some D)) (enc x) c).run P w = .ok (if c then .tuple #[(mlook m x).getD z,.bool (mlook m x).isSome] else (mlook m x).getD z) w:=by
 obtain ⟨es,clock,hb,h2,h3⟩:=h.ex;obtain ⟨l,hl⟩:=hk;rcases zav.find K hinj (w:=w) h2 h.keys h.nodup x ⟨l,hl⟩ with ⟨h1,-,hlk,-⟩ | ⟨j,e0,h1,h5,h4,hlk,-⟩
 . simp [Instr.lookup,run_underlying ht,MapKept.run_getObj_map hb,K.check w _ hl,h1,hz,hlk,Result.andThen]
 . simp [Instr.lookup,run_underlying ht,MapKept.run_getObj_map hb,K.check w _ hl,h1,hlk,Result.andThen]
theorem zdd {m:List (α × Value)} {x:α} {v:Value} (h:mlook m x = none):putK m x v = m ++ [(x,v)]:=by simp [putK,h]
theorem znM {m:List (α × Value)} {x:α} {v u:Value} (hn:(m.map (·.1)).Nodup) {j:Nat} (h:m[j]? = some (x,u)):m.map (fun p=>if p.1 = x then (x,v) else p) = m.set j (x,v):=by
 induction m generalizing j with
 | nil=>simp at h
 | cons p r ih =>
   simp only [List.map_cons,List.nodup_cons] at hn;cases j with
   | zero =>
     simp only [List.getElem?_cons_zero,Option.some.injEq] at h;subst h;have:∀ q ∈ r,(if q.1 = x then (x,v) else q) = q:=fun q hq=>if_neg (fun hx=>hn.1 (List.mem_map.2 ⟨q,hq,hx⟩));simp [List.map_congr_left this]
   | succ j =>
     simp only [List.getElem?_cons_succ] at h;have hne:p.1 ≠ x:=fun hp=>hn.1 (List.mem_map.2 ⟨_,List.mem_of_getElem? h,hp.symm⟩);simp [hne,ih hn.2 h]
theorem zfG {m:List (α × Value)} {x:α} {v u:Value} (hn:(m.map (·.1)).Nodup) {j:Nat} (h:m[j]? = some (x,u)):putK m x v = m.set j (x,v):=by
 have hl:=zcp hn (List.mem_of_getElem? h);unfold putK;rw [hl];simp only [Option.isSome_some,if_true];exact znM hn h
theorem zcH {w1:World} {D st i:Nat} {es:Array MapEntry} {clock:Nat} (v:Value) (hb:w1.heap[D]? = some (.map es clock)) (hidx:es.findIdx? (fun e=>((e.born:Nat):Int) == ((st:Nat):Int)) = some i) :
 (Instr.entryStore t (.map (some D)) (.int .i64 (st:Int)) v).run P w1 = .ok () (setBlock w1 D (.map (es.modify i fun e=>{ e with val:=v }) clock)):=by
 simp [Instr.entryStore,MapKept.run_getObj_map hb,asInt,asIntOf,hidx,MapKept.run_setObj_map _ hb,Result.andThen,setBlock]
theorem zav.run_entry (K:Keyed P k) (hinj:∀ x y,enc x = enc y -> x = y) (ht:P.underlying t = some (.map k e)) {z:Value} (hz:∀ w,(zeroValue e).run P w = .ok z w) {w:World} {D:Nat} {m:List (α × Value)} (h:zav P k enc w D m)
 (x:α) (hk:∃ l,keyOf P k (enc x) = some l) :
 ∃ (st:Nat) (w1:World),(Instr.mapEntry t (.map (some D)) (enc x)).run P w = .ok (.tuple #[(mlook m x).getD z,Value.int .i64 (st:Int)]) w1 /\ ExtB D w w1 /\ w1.heap.size = w.heap.size /\ (Instr.lookup t (.map (some D)) (enc x) false).run P w1 = .ok ((mlook m x).getD z) w1 /\
   ∀ (v:Value),∃ w2,(Instr.entryStore t (.map (some D)) (.int .i64 (st:Int)) v).run P w1 = .ok () w2 /\ ExtB D w1 w2 /\ w2.heap.size = w1.heap.size /\ zav P k enc w2 D (putK m x v):=by
 obtain ⟨es,clock,hb,h2,h3⟩:=h.ex;obtain ⟨l,hl⟩:=hk;obtain ⟨s1,s2,s3⟩:=h3;rcases zav.find K hinj (w:=w) h2 h.keys h.nodup x ⟨l,hl⟩ with ⟨h1,hab,hlk,-⟩ | ⟨j,e0,h1,h5,h4,hlk,hm⟩
 . refine ⟨clock,setBlock w D (.map (es.push ⟨enc x,z,clock⟩) (clock + 1)),?_,zaC,zax,?_,fun v=>?_⟩
   . simp [Instr.mapEntry,run_underlying ht,MapKept.run_getObj_map hb,K.check w false hl,h1,hz,MapKept.run_setObj_map _ hb,hlk,goInt,Result.andThen,setBlock]
   . have hm1:zav P k enc (setBlock w D (.map (es.push ⟨enc x,z,clock⟩) (clock + 1))) D (m ++ [(x,z)]):=by
      refine ⟨⟨_,_,zal hb,by simp [h2],MapKept.stamped_push ⟨s1,s2,s3⟩ hab⟩,fun p hp=>?_⟩;rcases List.mem_append.1 hp with hp | hp
      . exact h.keys p hp
      . obtain rfl:=List.mem_singleton.1 hp;exact ⟨l,hl⟩
     have:=hm1.run_look false K hinj ht hz x ⟨l,hl⟩
     rw [zcp hm1.nodup (x:=x) (v:=z) (by simp)] at this;rw [hlk];simpa using this
   . have hw2:(setBlock w D (.map (es.push ⟨enc x,z,clock⟩) (clock + 1))).heap[D]? = some (.map (es.push ⟨enc x,z,clock⟩) (clock + 1)):=zal hb;have hidx:(es.push ⟨enc x,z,clock⟩).findIdx? (fun e=>((e.born:Nat):Int) == ((clock:Nat):Int)) = some es.size:=by
      rw [WideElems.findIdx_arr]
      have:=WideElems.findIdx_born (l:=(es.push ⟨enc x,z,clock⟩).toList) (j:=es.size) (e0:=⟨enc x,z,clock⟩) (by
       simp only [Array.toList_push,List.map_append,List.map_cons,List.map_nil];refine List.nodup_append.2 ⟨s2,by simp,fun a ha c hc e1=>?_⟩;simp only [List.mem_singleton] at hc;obtain ⟨y,hy,rfl⟩:=List.mem_map.1 ha
       have:=s1 y hy
       omega) (by simp)
      exact this
     have hmod:(es.push ⟨enc x,z,clock⟩).modify es.size (fun e=>{ e with val:=v }) = es.push ⟨enc x,v,clock⟩:=by
      apply Array.ext';rw [Array.toList_modify,Array.toList_push,Array.toList_push,<- Array.length_toList,WideElems.modify_last]
     refine ⟨setBlock (setBlock w D (.map (es.push ⟨enc x,z,clock⟩) (clock + 1))) D (.map (es.push ⟨enc x,v,clock⟩) (clock + 1)),?_,zaC,zax,⟨⟨_,_,zal hw2,?_,MapKept.stamped_push ⟨s1,s2,s3⟩ hab⟩,?_⟩⟩
     . rw [zcH v hw2 hidx,hmod]
     . rw [zdd hlk];simp [h2]
     . rw [zdd hlk];intro p hp;rcases List.mem_append.1 hp with hp | hp
       . exact h.keys p hp
       . obtain rfl:=List.mem_singleton.1 hp;exact ⟨l,hl⟩
 . have hj:es[j]? = some e0:=by simpa using h5
   have hsame:es.modify j (fun e=>{ e with key:=enc x }) = es:=by
    apply Array.ext';rw [Array.toList_modify,ChangeMaps.modify_eq_set _ _ _ _ h5];have:({ e0 with key:=enc x }:MapEntry) = e0:=by rw [<- h4]
    rw [this];exact WideElems.set_self _ _ _ h5
   refine ⟨e0.born,setBlock w D (.map es clock),?_,zaC,zax,?_,fun v=>?_⟩
   . simp [Instr.mapEntry,run_underlying ht,MapKept.run_getObj_map hb,K.check w false hl,h1,hj,h4,K.stays w hl,hsame,MapKept.run_setObj_map _ hb,hlk,goInt,Result.andThen,setBlock]
   . have hm1:zav P k enc (setBlock w D (.map es clock)) D m:=⟨⟨_,_,zal hb,h2,⟨s1,s2,s3⟩⟩,h.keys⟩
     simpa using hm1.run_look false K hinj ht hz x ⟨l,hl⟩
   . have hw2:(setBlock w D (.map es clock)).heap[D]? = some (.map es clock):=zal hb;have hidx:es.findIdx? (fun e=>((e.born:Nat):Int) == ((e0.born:Nat):Int)) = some j:=by
      rw [WideElems.findIdx_arr];exact WideElems.findIdx_born s2 h5
     refine ⟨setBlock (setBlock w D (.map es clock)) D (.map (es.modify j (fun e=>{ e with val:=v })) clock),?_,zaC,zax,
      ⟨⟨_,_,zal hw2,?_,MapKept.stamped_modify ⟨s1,s2,s3⟩ _ _ (fun _ _=>rfl) (fun _ _ _=>rfl)⟩,?_⟩⟩
     . exact zcH v hw2 hidx
     . rw [zfG h.nodup hm,Array.toList_modify,ChangeMaps.modify_eq_set _ _ _ _ h5,List.map_set,List.map_set,h2,h4]
     . rw [zfG h.nodup hm];intro p hp;rcases List.mem_or_eq_of_mem_set hp with hp | rfl
       . exact h.keys p hp
       . exact ⟨l,hl⟩
theorem zav.run_update (K:Keyed P k) (hinj:∀ x y,enc x = enc y -> x = y) (ht:P.underlying t = some (.map k e)) {w:World} {D:Nat} {m:List (α × Value)} (h:zav P k enc w D m)
 (x:α) (hk:∃ l,keyOf P k (enc x) = some l) (v:Value) :
 ∃ w1,(Instr.mapUpdate t (.map (some D)) (enc x) v).run P w = .ok () w1 /\ ExtB D w w1 /\ w1.heap.size = w.heap.size /\ zav P k enc w1 D (putK m x v):=by
 obtain ⟨es,clock,hb,h2,h3⟩:=h.ex;obtain ⟨l,hl⟩:=hk;obtain ⟨s1,s2,s3⟩:=h3;rcases zav.find K hinj (w:=w) h2 h.keys h.nodup x ⟨l,hl⟩ with ⟨h1,hab,hlk,-⟩ | ⟨j,e0,h1,h5,h4,hlk,hm⟩
 . refine ⟨setBlock w D (.map (es.push ⟨enc x,v,clock⟩) (clock + 1)),?_,zaC,zax,⟨⟨_,_,zal hb,?_,MapKept.stamped_push ⟨s1,s2,s3⟩ hab⟩,?_⟩⟩
   . simp [Instr.mapUpdate,run_underlying ht,MapKept.run_getObj_map hb,K.check w false hl,h1,MapKept.run_setObj_map _ hb,Result.andThen,setBlock]
   . rw [zdd hlk];simp [h2]
   . rw [zdd hlk];intro p hp;rcases List.mem_append.1 hp with hp | hp
     . exact h.keys p hp
     . obtain rfl:=List.mem_singleton.1 hp;exact ⟨l,hl⟩
 . have hj:es[j]? = some e0:=by simpa using h5
   have hlist:(es.modify j (fun e=>{ e with key:=enc x,val:=v })).toList = es.toList.set j { e0 with key:=enc x,val:=v }:=by rw [Array.toList_modify,ChangeMaps.modify_eq_set _ _ _ _ h5]
   refine ⟨setBlock w D (.map (es.modify j (fun e=>{ e with key:=enc x,val:=v })) clock),?_,zaC,zax,
    ⟨⟨_,_,zal hb,?_,MapKept.stamped_modify ⟨s1,s2,s3⟩ _ _ (fun _ _=>rfl) (fun e' _ he'=>by rw [hj] at he';cases he';exact h4.symm)⟩,?_⟩⟩
   . simp [Instr.mapUpdate,run_underlying ht,MapKept.run_getObj_map hb,K.check w false hl,h1,hj,h4,K.stays w hl,MapKept.run_setObj_map _ hb,Result.andThen,setBlock]
   . rw [zfG h.nodup hm,hlist,List.map_set,List.map_set,h2]
   . rw [zfG h.nodup hm];intro p hp;rcases List.mem_or_eq_of_mem_set hp with hp | rfl
     . exact h.keys p hp
     . exact ⟨l,hl⟩
theorem zem {m:List (α × Value)} {x:α} (h:∀ p ∈ m,p.1 ≠ x):delK m x = m:=List.filter_eq_self.2 (fun p hp=>by simpa using h p hp)
theorem zks {m:List (α × Value)} {x:α} {u:Value} (hn:(m.map (·.1)).Nodup) {j:Nat} (h:m[j]? = some (x,u)):delK m x = m.eraseIdx j:=by
 induction m generalizing j with
 | nil=>simp at h
 | cons p r ih =>
   simp only [List.map_cons,List.nodup_cons] at hn;cases j with
   | zero =>
     simp only [List.getElem?_cons_zero,Option.some.injEq] at h;subst h;have:∀ q ∈ r,q.1 ≠ x:=fun q hq hx=>hn.1 (List.mem_map.2 ⟨q,hq,hx⟩);have h2:=zem this;unfold delK at h2 ⊢;simp [h2]
   | succ j =>
     simp only [List.getElem?_cons_succ] at h;have hne:p.1 ≠ x:=fun hp=>hn.1 (List.mem_map.2 ⟨_,List.mem_of_getElem? h,hp.symm⟩)
     have:=ih hn.2 h
     unfold delK at this ⊢;simp [hne,this]
theorem zav.run_delete (K:Keyed P k) (hinj:∀ x y,enc x = enc y -> x = y) (ht:P.underlying t = some (.map k e)) {w:World} {D:Nat} {m:List (α × Value)} (h:zav P k enc w D m)
 (x:α) (hk:∃ l,keyOf P k (enc x) = some l) :
 ∃ w1,(∀ ty,(Builtin.delete_ #[t,k] ty #[.map (some D),enc x]).run P w = .ok (.tuple #[]) w1) /\ ExtB D w w1 /\ w1.heap.size = w.heap.size /\ zav P k enc w1 D (delK m x):=by
 obtain ⟨es,clock,hb,h2,h3⟩:=h.ex;obtain ⟨l,hl⟩:=hk;rcases zav.find K hinj (w:=w) h2 h.keys h.nodup x ⟨l,hl⟩ with ⟨h1,hab,hlk,hp⟩ | ⟨j,e0,h1,h5,h4,hlk,hm⟩
 . refine ⟨setBlock w D (.map es clock),?_,zaC,zax,⟨⟨_,_,zal hb,?_,h3⟩,?_⟩⟩
   . intro ty;simp [Builtin.delete_,run_underlying ht,MapKept.run_getObj_map hb,K.check w _ hl,h1,MapKept.run_setObj_map _ hb,Result.andThen,setBlock]
   . rw [zem hp];exact h2
   . rw [zem hp];exact h.keys
 . have hjs:j < es.size:=by simpa using (List.getElem?_eq_some_iff.1 h5).1
   have hsub:(es.eraseIdxIfInBounds j).toList = es.toList.eraseIdx j:=by
    unfold Array.eraseIdxIfInBounds;rw [dif_pos hjs];simp
   refine ⟨setBlock w D (.map (es.eraseIdxIfInBounds j) clock),?_,zaC,zax,⟨⟨_,_,zal hb,?_,MapKept.stamped_erase h3 j⟩,?_⟩⟩
   . intro ty;simp [Builtin.delete_,run_underlying ht,MapKept.run_getObj_map hb,K.check w _ hl,h1,MapKept.run_setObj_map _ hb,Result.andThen,setBlock]
   . rw [zks h.nodup hm,hsub,ChangeMaps.map_eraseIdx,ChangeMaps.map_eraseIdx,h2]
   . rw [zks h.nodup hm];exact fun p hp=>h.keys p ((List.eraseIdx_sublist _ _).subset hp)
end
section
variable {P:Program} {t k e:TypeId} {α:Type} {enc:α -> Value}
structure zaW (P:Program) (k:TypeId) (enc:α -> Value) (w:World) (D R:Nat) (m left:List (α × Value)):Prop where
 ex:∃ (es:Array MapEntry) (clock:Nat) (seen:Array Nat),w.heap[D]? = some (.map es clock) /\ es.toList.map (fun e=>(e.key,e.val)) = m.map (fun p=>(enc p.1,p.2)) /\ Stamped es clock /\
  w.heap[R]? = some (.mapIter (some D) clock seen clock) /\ (leftOf es seen).toList.map (fun e=>(e.key,e.val)) = left.map (fun p=>(enc p.1,p.2))
 keys:∀ p ∈ m,∃ l,keyOf P k (enc p.1) = some l
theorem zaW.ltR {w:World} {D R:Nat} {m left:List (α × Value)} (h:zaW P k enc w D R m left):R < w.heap.size:=by
 obtain ⟨es,clock,seen,-,-,-,hb,-⟩:=h.ex;exact (Array.getElem?_eq_some_iff.1 hb).1
theorem zaW.ltD {w:World} {D R:Nat} {m left:List (α × Value)} (h:zaW P k enc w D R m left):D < w.heap.size:=by
 obtain ⟨es,clock,seen,hb,-⟩:=h.ex;exact (Array.getElem?_eq_some_iff.1 hb).1
theorem zaW.keep {w w':World} {D R:Nat} {m left:List (α × Value)} (h:zaW P k enc w D R m left) (hb:w'.heap[D]? = w.heap[D]?) (hr:w'.heap[R]? = w.heap[R]?):zaW P k enc w' D R m left:=by
 obtain ⟨es,clock,seen,h1,h2,h3,h4,h5⟩:=h.ex;exact ⟨⟨es,clock,seen,hb.trans h1,h2,h3,hr.trans h4,h5⟩,h.keys⟩
theorem zaW.map {w:World} {D R:Nat} {m left:List (α × Value)} (h:zaW P k enc w D R m left):zav P k enc w D m:=by
 obtain ⟨es,clock,seen,h1,h2,h3,h4,h5⟩:=h.ex;exact ⟨⟨es,clock,h1,h2,h3⟩,h.keys⟩
theorem zav.run_range (ht:P.underlying t = some (.map k e)) {w:World} {D:Nat} {m:List (α × Value)} (h:zav P k enc w D m) :
 ∃ o,(Instr.range t (.map (some D))).run P w = .ok (.pointer (some ⟨w.heap.size,0,none⟩)) (w.alloc o) /\ zaW P k enc (w.alloc o) D w.heap.size m m:=by
 have hlt:=h.lt;obtain ⟨es,clock,hb,h2,h3⟩:=h.ex;refine ⟨.mapIter (some D) clock #[] clock,?_,⟨⟨es,clock,#[],(Below.heap_alloc _ _ _ hlt).trans hb,h2,h3,heap_alloc_new _ _,?_⟩,h.keys⟩⟩
 . simp [Instr.range,run_underlying ht,MapKept.run_getObj_map hb,newObj,Sem.run,Result.andThen]
 . have e1:(leftOf es #[]).toList = es.toList:=by
    unfold leftOf;rw [Array.toList_filter];exact List.filter_eq_self.2 (by simp)
   rw [<- h2,e1]
theorem zaW.run_next {w:World} {D R:Nat} {m left:List (α × Value)} (h:zaW P k enc w D R m left) (ty:TypeId) :
 (left = [] /\ (Instr.next (.pointer (some ⟨R,0,none⟩)) false ty).run P w = .ok (.tuple #[.bool false]) w) \/
 ∃ (p:α × Value) (left':List (α × Value)) (w':World),left.Perm (p :: left') /\ (Instr.next (.pointer (some ⟨R,0,none⟩)) false ty).run P w = .ok (.tuple #[.bool true,enc p.1,p.2]) w' /\ ExtB R w w' /\ w'.heap.size = w.heap.size /\
   zaW P k enc w' D R m left' /\ (Instr.entry (.pointer (some ⟨R,0,none⟩))).run P w' = .ok (.tuple #[enc p.1,p.2]) w':=by
 obtain ⟨es,clock,seen,h1,h2,h3,h4,h5⟩:=h.ex;rcases run_next_at (P:=P) w ty R D clock clock seen es clock h4 h1 h3.1 (Nat.le_refl _) with ⟨h0,hr⟩ | ⟨e0,he,w1,hw1,hr⟩
 . left
   have:(leftOf es seen).toList = []:=List.eq_nil_of_length_eq_zero (by simpa using h0);rw [this] at h5;exact ⟨List.map_eq_nil_iff.1 h5.symm,hr⟩
 . right
   have hes:e0 ∈ es.toList:=by unfold leftOf at he;simp at he ⊢;exact he.1
   obtain ⟨A,B,hAB⟩:=List.append_of_mem he;rw [hAB,List.map_append,List.map_cons] at h5;obtain ⟨A',B1,hl,hA,hB⟩:=List.map_eq_append_iff.1 h5.symm;obtain ⟨p,B',rfl,hp,hB'⟩:=List.map_eq_cons_iff.1 hB;simp only [Prod.mk.injEq] at hp;have hn:((leftOf es seen).toList.map (·.born)).Nodup:=by
    unfold leftOf;rw [Array.toList_filter];exact (List.filter_sublist.map _).nodup h3.2.1
   have hleft:(leftOf es (seen.push e0.born)).toList = A ++ B:=by
    have e1:(leftOf es (seen.push e0.born)).toList = (leftOf es seen).toList.filter fun x=>!(x.born == e0.born):=by
     unfold leftOf;rw [Array.toList_filter,Array.toList_filter,List.filter_filter];congr 1;funext x
     rw [Bool.eq_iff_iff];simp [and_comm]
    rw [e1,hAB,List.filter_append,List.filter_cons];rw [hAB,List.map_append,List.map_cons] at hn;have hd:=List.nodup_append.1 hn;have hc:=List.nodup_cons.1 hd.2.1
    rw [List.filter_eq_self.2 (fun x hx=>by
     have:=hd.2.2 x.born (List.mem_map.2 ⟨x,hx,rfl⟩) e0.born (by simp)
     simpa using this)]
    rw [List.filter_eq_self.2 (fun x hx=>by
     have:x.born ≠ e0.born:=fun e1=>hc.1 (List.mem_map.2 ⟨x,hx,e1⟩)
     simpa using this)]
    simp
   have hRD:R ≠ D:=fun e1=>by subst e1;rw [h1] at h4;cases h4
   have hw1h:w1.heap = w.heap:=by rcases hw1 with rfl | rfl <;> rfl
   have hbD:(setBlock w1 R (.mapIter (some D) clock (seen.push e0.born) clock)).heap[D]? = some (.map es clock):=by
    simp [setBlock,hRD,hw1h,h1]
   have hbR:(setBlock w1 R (.mapIter (some D) clock (seen.push e0.born) clock)).heap[R]? = some (.mapIter (some D) clock (seen.push e0.born) clock):=zal (by rw [hw1h];exact h4);have hx1:ExtB R w w1:=by rcases hw1 with rfl | rfl;exact ExtB.refl _;exact ExtM.drew (ExtM.refl _)
   refine ⟨p,A' ++ B',_,?_,?_,ExtB.trans _ _ _ hx1 zaC,?_,⟨⟨es,clock,seen.push e0.born,hbD,h2,h3,hbR,?_⟩,h.keys⟩,?_⟩
   . rw [hl];exact List.perm_middle
   . rw [hr,hp.1,hp.2]
   . rw [zax,hw1h]
   . rw [hleft,List.map_append,List.map_append,<- hA,<- hB']
   . rw [hp.1,hp.2];exact run_entry_at (P:=P) _ R D clock seen es clock e0 hbR hbD hes h3.2.1
end
end Go.Plan
namespace Go.Proofs.YtmcgnnmffeojpabGreatDoor
open Go.ChangeShapes Go.WideShapes Go.ChangeAt Go.RowKit Go.Joins Go.Plan Go.Deep
def I64 (n:Int):Prop:=-9223372036854775808 <= n /\ n <= 9223372036854775807
theorem zpd {n:Int} (h:(Lit.int .i64 n).wf = true):I64 n:=by
 simp only [Lit.wf,Bool.and_eq_true,decide_eq_true_eq] at h;have e1:IntKind.min .i64 = -9223372036854775808:=by decide
 have e2:IntKind.max .i64 = 9223372036854775807:=by decide
 rw [e1,e2] at h;exact h
theorem zdH:Tryz.prog.cellsOf 37 = 3:=by kernel_rfl
theorem zhN:Tryz.prog.cellsOf 86 = 9:=by kernel_rfl
theorem zaP:Tryz.prog.cellsOf 3 = 1:=by kernel_rfl
theorem zla:Tryz.prog.cellsOf 4 = 1:=by kernel_rfl
section
variable {H:Type} {enc:TypeId × Value -> H} {w:World} {base:Nat} {spare:Nat -> Bool} {held:Bool}
theorem zba {n:Nat} {c:Value} {y:DataW H × List MemPlace} (h:DataW.trod enc Tryz.prog w base spare held n 3 [c] = some y):∃ k,c = .int .i64 k /\ I64 k:=by
 obtain ⟨k,e,-,hw⟩:=DataW.trod_int Tryz.underlying3 h;simp only [List.cons.injEq,and_true] at e;exact ⟨k,e,zpd hw⟩
theorem zkk {fuel:Nat} {cs:List Value} {x:DataW H × List MemPlace} (h:DataW.trod enc Tryz.prog w base spare held fuel 37 cs = some x) :
 ∃ r:Row,cs = [.int .i64 r.k,.int .i64 r.t,.int .i64 r.v] /\ I64 r.k /\ I64 r.t /\ I64 r.v:=by
 obtain ⟨y0,y1,y2,n,-,hl,h0,h1,h2⟩:=trod_struct3 Tryz.underlying37 h;rw [zdH] at hl;match cs,hl with
 | [c0,c1,c2],_ =>
   obtain ⟨a,rfl,wa⟩:=zba (c:=c0) (by simpa [zaP] using h0);obtain ⟨b,rfl,wb⟩:=zba (c:=c1) (by simpa [zaP] using h1);obtain ⟨c,rfl,wc⟩:=zba (c:=c2) (by simpa [zaP] using h2);exact ⟨⟨a,b,c⟩,rfl,wa,wb,wc⟩
def Row.ok (r:Row):Prop:=I64 r.k /\ I64 r.t /\ I64 r.v
def Out.ok (o:Out):Prop:=I64 o.key /\ o.l.ok /\ o.r.ok
def Row.cells (r:Row):List Value:=[.int .i64 r.k,.int .i64 r.t,.int .i64 r.v]
def Out.cells (o:Out):List Value:=[.int .i64 o.key,.int .i64 o.l.k,.int .i64 o.l.t,.int .i64 o.l.v,.int .i64 o.r.k,.int .i64 o.r.t,.int .i64 o.r.v,.bool o.hl,.bool o.hr]
end
section
variable {H:Type} {enc:TypeId × Value -> H} {w:World} {base:Nat} {spare:Nat -> Bool} {held:Bool}
theorem zjZ {r:Reach} {b0:Nat} {t e:TypeId} {v:Value} {d:DataW H} {p:List MemPlace} (C:Nat) (hC:0 < C) (ht:Tryz.prog.underlying t = some (.slice e)) (hc:Tryz.prog.cellsOf e = C)
 (hv:Value.okWide Tryz.prog w r b0 t v) (h:DataW.Trod enc Tryz.prog w base spare held t v d p) :
 ∃ (a:Option Addr) (len cap:Nat),v = .slice a len cap /\ len <= cap /\ cap <= maxLen /\ (len = 0 \/ ∃ b off,a = some ⟨b,off,none⟩ /\
   ∀ k,k < len -> ∃ (cs:List Value) (n:Nat) (y:DataW H × List MemPlace),cs.length = C /\ (∀ j,j < C -> w.cell? ⟨b,off + k * C + j,none⟩ = cs[j]?) /\ DataW.trod enc Tryz.prog w base spare held n e cs = some y):=by
 obtain ⟨a0,len,cap,rfl⟩:=okWide_slice ht hv;obtain ⟨fuel,hf⟩:=h;rcases open_slice ht hf with ⟨hcs,-⟩ | ⟨a,len',cap',m,n,D,Pl,hcs,-,hl,hm,hmm,-,hi⟩
 . simp only [Value.cells,List.cons.injEq,and_true,Value.slice.injEq] at hcs;obtain ⟨rfl,rfl,rfl⟩:=hcs;exact ⟨_,_,_,rfl,Nat.le_refl _,Nat.zero_le _,.inl rfl⟩
 . simp only [Value.cells,List.cons.injEq,and_true,Value.slice.injEq] at hcs;obtain ⟨rfl,rfl,rfl⟩:=hcs;refine ⟨_,_,_,rfl,hl,hm,?_⟩;rcases Nat.eq_zero_or_pos len with h0 | h0
   . exact .inl h0
   refine .inr ?_;have hml:len <= m:=by rw [hmm];split <;> omega
   rw [hc] at hi;obtain ⟨b,off,sp⟩:=a;have hsp:sp = none:=by
    obtain ⟨cs',h1,-⟩:=hi 0 (by omega);obtain ⟨-,hcl,hat⟩:=World.cells?_some h1;have h2:=hat 0 hC;rw [List.getElem?_eq_getElem (by omega)] at h2;simpa [Addr.add] using World.cell?_spot h2
   subst hsp;refine ⟨b,off,rfl,fun k hk=>?_⟩;obtain ⟨cs',h1,h2⟩:=hi k (by omega);obtain ⟨-,hcl,hat⟩:=World.cells?_some h1;refine ⟨cs',n,_,hcl,fun j hj=>?_,h2⟩;rw [<- hat j hj];congr 1;simp only [Addr.add];split <;> split <;> simp_all <;> omega
end
open Go.RowKit Go.Plan Go.ChangeShapes Go.WideShapes
def encO (x:Out):Value:=.agg #[.int .i64 x.key,.int .i64 x.l.k,.int .i64 x.l.t,.int .i64 x.l.v,.int .i64 x.r.k,.int .i64 x.r.t,.int .i64 x.r.v,.bool x.hl,.bool x.hr]
theorem zaT (x y:Out) (h:encO x = encO y):x = y:=by
 obtain ⟨a,⟨b,c,d⟩,⟨e,f,g⟩,i,j⟩:=x;obtain ⟨a',⟨b',c',d'⟩,⟨e',f',g'⟩,i',j'⟩:=y;simp only [encO,Value.agg.injEq,Array.mk.injEq,List.cons.injEq,Value.int.injEq,Value.bool.injEq,true_and,and_true] at h;obtain ⟨rfl,rfl,rfl,rfl,rfl,rfl,rfl,rfl,rfl⟩:=h;rfl
theorem I64.wf {n:Int} (h:I64 n):(Lit.int .i64 n).wf = true:=by
 simp only [Lit.wf,Bool.and_eq_true,decide_eq_true_eq];have e1:IntKind.min .i64 = -9223372036854775808:=by decide
 have e2:IntKind.max .i64 = 9223372036854775807:=by decide
 rw [e1,e2];exact h
theorem zo8 (d:Nat) (n:Int) (h:I64 n):Tryz.prog.keyLits (d + 1) 3 [.int .i64 n] = some [.int .i64 n]:=by
 simp [Program.keyLits,Tryz.underlying3,h.wf]
theorem zoc (d:Nat) (b:Bool):Tryz.prog.keyLits (d + 1) 4 [.bool b] = some [.bool b]:=by
 simp [Program.keyLits,Tryz.underlying4]
theorem znq (d:Nat) (r:Row) (h:r.ok):Tryz.prog.keyLits (d + 2) 37 [.int .i64 r.k,.int .i64 r.t,.int .i64 r.v] = some [.int .i64 r.k,.int .i64 r.t,.int .i64 r.v]:=by
 obtain ⟨h1,h2,h3⟩:=h;simp [Program.keyLits,Tryz.underlying37,Tryz.underlying3,zdH,zaP,h1.wf,h2.wf,h3.wf]
theorem zoA (d:Nat) (x:Out) (h:x.ok):∃ ls,Tryz.prog.keyLits (d + 3) 86 x.cells = some ls:=by
 obtain ⟨h1,h2,h3⟩:=h;rw [Program.keyLits.eq_def];simp [Tryz.underlying86,Out.cells,zhN,zdH,zaP,zla,zo8 (d + 1) _ h1,znq d _ h2,znq d _ h3,zoc (d + 1)]
theorem znQ:∃ d,Tryz.prog.types.size + 1 = d + 3:=⟨Tryz.prog.types.size - 2,by
 have:2 <= Tryz.prog.types.size:=of_decide_eq_true (by kernel_rfl)
 omega⟩
theorem zje:Tryz.prog.keyType 86 = true:=by kernel_rfl
theorem keyO (x:Out) (h:x.ok):∃ l,keyOf Tryz.prog 86 (encO x) = some l:=by
 obtain ⟨d,hd⟩:=znQ;obtain ⟨ls,hl⟩:=zoA d x h;unfold keyOf;rw [Tryz.underlying86];have hf:(encO x).formed Tryz.prog 86 = true:=by simp [encO,Value.formed,Tryz.underlying86,zhN]
 have hc:(encO x).cells.toList = x.cells:=rfl;simp only [zje,hf,hc,Bool.and_self,if_true];rw [hd,hl];exact ⟨_,rfl⟩
theorem zbV:Go.Maps.Keyed Tryz.prog 86 :=
 Go.Maps.Keyed.of_law (deep_law_laid zl2 (m:=3) (by omega) (of_decide_eq_true (by kernel_rfl)) (by kernel_rfl) (by kernel_rfl))
theorem zb4 (w:World):(zeroValue 3).run Tryz.prog w = .ok (.int .i64 0) w:=by kernel_rfl
def zbk (m:List (Out × Value)) (l:List Out):Prop:=∀ x,mlook m x = if l.count x = 0 then none else some (.int .i64 (l.count x))
theorem zbk.getD {m:List (Out × Value)} {l:List Out} (h:zbk m l) (x:Out):(mlook m x).getD (.int .i64 0) = .int .i64 (l.count x):=by
 rw [h x];split
 . rename_i h0;rw [h0];rfl
 . rfl
theorem look_putK {α:Type} [DecidableEq α] (m:List (α × Value)) (x y:α) (v:Value):mlook (putK m x v) y = if y = x then some v else mlook m y:=by
 unfold putK;by_cases hs:(mlook m x).isSome = true
 . rw [if_pos hs];by_cases hy:y = x
   . subst hy;rw [if_pos rfl];have:∀ l:List (α × Value),(mlook l y).isSome = true -> mlook (l.map fun p=>if p.1 = y then (y,v) else p) y = some v:=by
      intro l;induction l with
      | nil=>simp [mlook]
      | cons p r ih =>
        intro h;by_cases hp:p.1 = y
        . simp [mlook,hp]
        . have h':(mlook r y).isSome = true:=by simpa [mlook,List.find?_cons,hp] using h
          have:=ih h'
          simpa [mlook,List.find?_cons,hp] using this
     exact this m hs
   . rw [if_neg hy];clear hs;induction m with
     | nil=>rfl
     | cons p r ih =>
       by_cases hp:p.1 = x
       . have hpy:¬ p.1 = y:=fun e=>hy (e.symm.trans hp);simp only [mlook,List.map_cons,hp,if_true,List.find?_cons] at ih ⊢;have hxy:¬ x = y:=fun e=>hy e.symm;simp only [hxy,decide_false];exact ih
       . by_cases hpy:p.1 = y
         . simp [mlook,hpy,hy]
         . simp only [mlook,List.map_cons,hp,if_false,List.find?_cons,hpy,decide_false] at ih ⊢;exact ih
 . rw [if_neg hs];have hn:mlook m x = none:=by simpa using hs
   by_cases hy:y = x
   . subst hy;rw [if_pos rfl];have hab:=ze8.1 hn;unfold mlook;rw [List.find?_append,List.find?_eq_none.2 (fun p hp=>by simpa using hab p hp)];simp
   . rw [if_neg hy];have hxy:¬ x = y:=fun e=>hy e.symm;unfold mlook;rw [List.find?_append];simp [hxy]
theorem look_delK {α:Type} [DecidableEq α] (m:List (α × Value)) (x y:α):mlook (delK m x) y = if y = x then none else mlook m y:=by
 by_cases hy:y = x
 . subst hy;rw [if_pos rfl];exact zbR (fun p hp=>by unfold delK at hp;simpa using (List.mem_filter.1 hp).2)
 . rw [if_neg hy];unfold delK;induction m with
   | nil=>rfl
   | cons p r ih =>
     by_cases hp:p.1 = x
     . have hpy:¬ p.1 = y:=fun e=>hy (e.symm.trans hp);rw [List.filter_cons_of_neg (by simp [hp])];rw [ih];simp [mlook,hpy]
     . rw [List.filter_cons_of_pos (by simp [hp])];by_cases hpy:p.1 = y
       . simp [mlook,hpy]
       . simp only [mlook,List.find?_cons,hpy,decide_false] at ih ⊢;exact ih
theorem zbk.nil:zbk [] []:=fun x=>by simp [mlook]
theorem zbk.add {m:List (Out × Value)} {l:List Out} (h:zbk m l) (x:Out):zbk (putK m x (.int .i64 (((l.count x:Nat):Int) + 1))) (x :: l):=by
 intro y;rw [look_putK];by_cases hy:y = x
 . subst hy;simp
 . have hxy:¬ x = y:=fun e=>hy e.symm;simp only [if_neg hy,h y];simp [hxy]
theorem zbZ {l:List Out} {x y:Out} (h:¬ y = x):(l.erase x).count y = l.count y:=by
 rw [List.count_erase_of_ne];exact fun e=>h (by simpa using e)
theorem zbk.dec {m:List (Out × Value)} {l:List Out} (h:zbk m l) (x:Out) (hx:1 < l.count x):zbk (putK m x (.int .i64 (((l.count x:Nat):Int) - 1))) (l.erase x):=by
 intro y;rw [look_putK];by_cases hy:y = x
 . subst hy;rw [if_pos rfl,List.count_erase_self,if_neg (by omega)];congr 2;omega
 . simp only [if_neg hy,h y,zbZ hy]
theorem zbk.del {m:List (Out × Value)} {l:List Out} (h:zbk m l) (x:Out) (v:Value) (hx:l.count x = 1):zbk (delK (putK m x v) x) (l.erase x):=by
 intro y;rw [look_delK,look_putK];by_cases hy:y = x
 . subst hy;rw [if_pos rfl,List.count_erase_self,if_pos (by omega)]
 . simp only [if_neg hy,h y,zbZ hy]
def zlJ (p:Out × Value):List Out:=match p.2 with | .int _ n=>List.replicate n.toNat p.1 | _=>[]
def flat (m:List (Out × Value)):List Out:=m.flatMap zlJ
theorem zbk.perm {m:List (Out × Value)} {l:List Out} (h:zbk m l) (hn:(m.map (·.1)).Nodup):(flat m).Perm l:=by
 rw [List.perm_iff_count];intro x;have key:∀ m:List (Out × Value),(m.map (·.1)).Nodup -> (∀ p ∈ m,∃ c:Nat,p.2 = .int .i64 c) -> (flat m).count x = match mlook m x with | some (.int _ n)=>n.toNat | _=>0:=by
  intro m;induction m with
  | nil=>intro _ _;simp [flat,mlook]
  | cons p r ih =>
    intro hn hp;simp only [List.map_cons,List.nodup_cons] at hn;obtain ⟨c,hc⟩:=hp p (by simp);have hr:=ih hn.2 (fun q hq=>hp q (by simp [hq]));have e1:flat (p :: r) = List.replicate c p.1 ++ flat r:=by simp [flat,zlJ,hc]
    rw [e1,List.count_append,hr];by_cases hx:p.1 = x
    . have hno:mlook r x = none:=zbR (fun q hq e=>hn.1 (List.mem_map.2 ⟨q,hq,e.trans hx.symm⟩));rw [hno];simp [mlook,hx,hc]
    . rw [List.count_replicate];simp [mlook,hx]
 have hv:∀ p ∈ m,∃ c:Nat,p.2 = .int .i64 c:=by
  intro p hp
  have:=zcp hn (x:=p.1) (v:=p.2) hp
  rw [h p.1] at this;split at this
  . cases this
  . exact ⟨_,(Option.some.inj this).symm⟩
 rw [key m hn hv,h x];by_cases h0:l.count x = 0
 . rw [if_pos h0,h0]
 . rw [if_neg h0];simp
end Go.Proofs.YtmcgnnmffeojpabGreatDoor
