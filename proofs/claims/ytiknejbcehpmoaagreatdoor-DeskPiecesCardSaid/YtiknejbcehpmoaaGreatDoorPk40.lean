import Derived.Test.YtiknejbcehpmoaaGreatDoorPk10
import Derived.Test.YtiknejbcehpmoaaGreatDoorPk20
import Derived.Deep.DeepCutAuto
set_option maxRecDepth 100000
set_option maxHeartbeats 8000000
namespace Go.Proofs.YtiknejbcehpmoaaGreatDoor
open Go.RowKit Go.Plan
def zaY (m:List Out):List Int:=(m.filter (·.hr)).map (·.r.v)
structure LoHi (rs:List Int) (lo hi:Int) (b:Bool):Prop where
 none:rs = [] -> lo = 0 /\ hi = 0 /\ b = false
 some:rs ≠ [] -> b = true /\ lo ∈ rs /\ hi ∈ rs /\ ∀ x ∈ rs,lo <= x /\ x <= hi
theorem LoHi.nil:LoHi [] 0 0 false:=⟨fun _=>⟨rfl,rfl,rfl⟩,fun h=>absurd rfl h⟩
theorem LoHi.more (v lo hi lo' hi':Int) {rs:List Int} (h:LoHi rs lo hi true) (h1:lo' = if v < lo then v else lo) (h2:hi' = if hi < v then v else hi):LoHi (rs ++ [v]) lo' hi' true:=by
 have hne:rs ≠ []:=fun e=>by have:=(h.none e).2.2;cases this
 obtain ⟨-,a1,a2,a3⟩:=h.some hne;refine ⟨fun h=>by simp at h,fun _=>⟨rfl,?_,?_,fun x hx=>?_⟩⟩
 . rw [h1];split
   . simp
   . exact List.mem_append_left _ a1
 . rw [h2];split
   . simp
   . exact List.mem_append_left _ a2
 . rw [h1,h2];rcases List.mem_append.1 hx with hx | hx
   . have:=a3 x hx
     split <;> split <;> omega
   . have:x = v:=by simpa using hx
     subst this;split <;> split <;> omega
theorem LoHi.sorted {rs ss:List Int} {lo hi:Int} {b:Bool} (h:LoHi rs lo hi b) (hp:ss.Perm rs) (hs:ss.Pairwise (. <= ·)):lo = ss.getD 0 0 /\ hi = ss.getD (ss.length - 1) 0 /\ b = decide (0 < ss.length):=by
 by_cases hn:rs = []
 . obtain ⟨rfl,rfl,rfl⟩:=h.none hn;rw [hn] at hp;rw [hp.eq_nil];exact ⟨rfl,rfl,rfl⟩
 . obtain ⟨rfl,a1,a2,a3⟩:=h.some hn;have hne:ss ≠ []:=fun e=>hn (by rw [e] at hp;exact hp.nil_eq.symm);have hl:0 < ss.length:=List.length_pos_iff.2 hne;have g0:ss.getD 0 0 = ss[0]:=by simp [List.getD,hl]
   have g1:ss.getD (ss.length - 1) 0 = ss[ss.length - 1]'(by omega):=by
    have:ss.length - 1 < ss.length:=by omega
    simp [List.getD,this]
   have m0:=(a3 _ (hp.mem_iff.1 (List.getElem_mem hl)))
   have m1:=(a3 _ (hp.mem_iff.1 (List.getElem_mem (show ss.length - 1 < ss.length by omega))))
   obtain ⟨i,hi1,hi2⟩:=List.mem_iff_getElem.1 (hp.mem_iff.2 a1);obtain ⟨j,hj1,hj2⟩:=List.mem_iff_getElem.1 (hp.mem_iff.2 a2);rw [List.pairwise_iff_getElem] at hs;refine ⟨?_,?_,by simp [hl]⟩
   . rw [g0];rcases Nat.eq_zero_or_pos i with rfl | hi0
     . exact hi2.symm
     . have:=hs 0 i hl hi1 hi0;omega
   . rw [g1];rcases Nat.lt_or_ge j (ss.length - 1) with hj0 | hj0
     . have:=hs j (ss.length - 1) hj1 (by omega) hj0;omega
     . have:j = ss.length - 1:=by omega
       subst this;exact hj2.symm
structure Acc (w:World) (M:Nat) (key:Int) (m:List Out) (lo hi:Int) (b:Bool):Prop where
 box:BoxG w M key m.length (wrap64 (lsum m)) lo hi b
 lohi:LoHi (zaY m) lo hi b
def grow (key:Int) (m:List Out):GRow:=zd3 key ⟨m.length,wrap64 (lsum m),zbO (zaY m)⟩
theorem Acc.row {w:World} {M:Nat} {key:Int} {m:List Out} {lo hi:Int} {b:Bool} (h:Acc w M key m lo hi b):grow key m = ⟨key,m.length,wrap64 (lsum m),lo,hi,b⟩:=by
 obtain ⟨h1,h2,h3⟩:=h.lohi.sorted (zaM _) (zaQ _);unfold grow zd3;rw [<- h1,<- h2,<- h3]
theorem zmL {key:Int} {m:List Out} {a:GS} (h:RepA a m):zd3 key a = grow key m:=by
 have:RepA ⟨m.length,wrap64 (lsum m),zbO (zaY m)⟩ m:=⟨rfl,rfl,zaM _,zaQ _⟩
 rw [h.eq this];rfl
theorem BoxG.other {w:World} {n M:Nat} {k c s l m:Int} {b:Bool} (h:BoxG w n k c s l m b) (hn:n ≠ M) (i:Nat) (v:Value):BoxG (w.setCell ⟨M,i,none⟩ v) n k c s l m b:=h.keep (Below.heap_setCell _ _ _ _ hn)
def GRow.val (r:GRow):Value:=.agg #[.int .i64 r.key,.int .i64 r.cnt,.int .i64 r.sum,.int .i64 r.least,.int .i64 r.most,.bool r.some]
theorem zhm {α:Type} {p:List α -> Prop} (h0:p []) (h1:∀ l a,p l -> p (l ++ [a])) (l:List α):p l:=by
 have:∀ l:List α,p l.reverse:=by
  intro l;induction l with
  | nil=>exact h0
  | cons a l ih=>rw [List.reverse_cons];exact h1 _ _ ih
 simpa using this l.reverse
def ddF (acc:List Int) (k:Int):List Int:=if acc.getLast? = some k then acc else acc ++ [k]
def dd (ks:List Int):List Int:=ks.foldl ddF []
theorem zf4 (ks:List Int) (k:Int):dd (ks ++ [k]) = ddF (dd ks) k:=by simp [dd]
theorem zlz (ks:List Int):(dd ks).getLast? = ks.getLast?:=by
 refine zhm (p:=fun ks=>(dd ks).getLast? = ks.getLast?) rfl (fun ks k ih=>?_) ks
 . rw [zf4];unfold ddF;split
   . rename_i h;rw [h];simp
   . simp
theorem dd_mem (ks:List Int) (x:Int):x ∈ dd ks ↔ x ∈ ks:=by
 refine zhm (p:=fun ks=>x ∈ dd ks ↔ x ∈ ks) Iff.rfl (fun ks k ih=>?_) ks
 . rw [zf4];unfold ddF;split
   . rename_i h;rw [ih];have:k ∈ ks:=by rw [zlz] at h;exact List.mem_of_getLast? h
     simp only [List.mem_append,List.mem_singleton];exact ⟨.inl,fun h=>h.elim id (fun e=>e ▸ this)⟩
   . simp [ih]
theorem zgt (ks:List Int) (h:ks.Pairwise (. <= ·)):(dd ks).Pairwise (. < ·):=by
 revert h
 refine zhm (p:=fun ks=>ks.Pairwise (. <= ·) -> (dd ks).Pairwise (. < ·)) (fun _=>.nil) (fun ks k ih h=>?_) ks
 . rw [List.pairwise_append] at h;obtain ⟨h1,-,h3⟩:=h;rw [zf4];unfold ddF;split
   . exact ih h1
   . rename_i hl;rw [List.pairwise_append];refine ⟨ih h1,by simp,fun a ha b hb=>?_⟩;obtain rfl:=List.mem_singleton.1 hb;have h4:=h3 a ((dd_mem _ _).1 ha) _ hb;rcases Int.lt_or_eq_of_le h4 with h5 | rfl
     . exact h5
     . exfalso;have hne:dd ks ≠ []:=fun e=>by rw [e] at ha;cases ha
       obtain ⟨i,hi,rfl⟩:=List.mem_iff_getElem.1 ha;have hs:=ih h1;rw [List.pairwise_iff_getElem] at hs;have hlast:(dd ks).getLast? = some ((dd ks)[(dd ks).length - 1]'(by omega)):=by
        rw [List.getLast?_eq_getElem?];exact List.getElem?_eq_getElem (by omega)
       rcases Nat.lt_or_ge i ((dd ks).length - 1) with h6 | h6
       . have h7:=hs i _ hi (by omega) h6;have h8:=h3 ((dd ks)[(dd ks).length - 1]'(by omega)) ((dd_mem _ _).1 (List.getElem_mem _)) _ hb;omega
       . have:i = (dd ks).length - 1:=by omega
         subst this;exact hl hlast
theorem zpz {xs:List Int} (h:xs.Pairwise (. < ·)):xs.Pairwise (. <= ·):=h.imp (fun h=>Int.le_of_lt h)
theorem zin {xs:List Int} (h:xs.Pairwise (. < ·)):xs.Nodup:=h.imp (fun h e=>by omega)
theorem zol {ents:List Ent} {l:List Out} (h:za7 ents l) (hn:(ents.map (·.key)).Nodup):dd (zbO (l.map (·.key))) = zbO (ents.map (·.key)):=by
 have hs:=zgt _ (zaQ (l.map (·.key)));refine zbN ?_ (zpz hs) (zaQ _);refine List.Perm.trans ?_ (zaM _).symm;refine (List.perm_ext_iff_of_nodup (zin hs) hn).2 fun k=>?_;rw [dd_mem,(zaM _).mem_iff,zfm];have hk:=h k;constructor
 . intro h1 h2;obtain ⟨x,hx,rfl⟩:=List.mem_map.1 h1;rw [h2] at hk;have:x ∈ zqc l x.key:=List.mem_filter.2 ⟨hx,by simp⟩;rw [(hk:_ = [])] at this;cases this
 . intro h1;cases ho:st ents k with
   | none=>exact absurd ho h1
   | some a =>
     rw [ho] at hk;obtain ⟨x,hx⟩:=List.exists_mem_of_ne_nil _ hk.1;obtain ⟨hx1,hx2⟩:=List.mem_filter.1 hx;exact List.mem_map.2 ⟨x,hx1,by simpa using hx2⟩
def refGs (l:List Out):List GRow:=(dd (zbO (l.map (·.key)))).map fun k=>grow k (zqc l k)
theorem zi6 {ents:List Ent} {l:List Out} (h:za7 ents l) (hn:(ents.map (·.key)).Nodup):refGs l = allG ents:=by
 unfold refGs allG;rw [zol h hn];refine List.map_congr_left fun k hk=>?_;have hk2:=zfm.1 ((zaM _).mem_iff.1 hk);have hr:=h k;cases ho:st ents k with
 | none=>exact absurd ho hk2
 | some a=>rw [ho] at hr;exact (zmL hr.2).symm
structure zfX (w wr:World) (p:Option Addr) (ks:List Int) (rows:List GRow) (M:Nat) (v:Value):Prop where
 ext:Ext w wr
 keys:zec wr p ks
 own:wr.ownsRow M 108 6 v rows.length (rows.flatMap GRow.cells)
 sz:M <= wr.heap.size
 low:w.heap.size <= M
 apart:∀ g,p = some ⟨g,0,none⟩ -> ks = [] \/ g < M
theorem zfX.of {w wr w':World} {p:Option Addr} {ks:List Int} {rows:List GRow} {M:Nat} {v:Value} (h:zfX w wr p ks rows M v) (hx:Ext wr w'):zfX w w' p ks rows M v where
 ext:=ExtM.trans _ _ _ h.ext hx
 keys:=h.keys.of hx
 own:=h.own.kept (row:=none) (w':=w') ⟨hx.os,hx.tape,hx.output,hx.size,fun k hk hne=>hx.block k hk id⟩ (by
  by_cases h:v.ownBlock = none
  . exact .inl h
  . exact .inr h)
 sz:=Nat.le_trans h.sz hx.size
 low:=h.low
 apart:=h.apart
end Go.Proofs.YtiknejbcehpmoaaGreatDoor
