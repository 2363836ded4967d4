import Derived.Test.YtmcgnnmffeojpabGreatDoorPk8
import Derived.Test.YtmcgnnmffeojpabGreatDoorPk20
import Derived.Deep.DeepCutAuto
set_option maxRecDepth 100000
set_option maxHeartbeats 8000000
namespace Go.Proofs.YtmcgnnmffeojpabGreatDoor
open Go.RowKit Go.Plan
def zaY (m : List Out) : List Int := (m.filter (·.hr)).map (·.r.v)
theorem zbb (m : List Out) (x : Out) : zaY (m ++ [x]) = if x.hr then zaY m ++ [x.r.v] else zaY m := by
 unfold zaY;by_cases h : x.hr = true
 . rw [if_pos h,List.filter_append,List.filter_cons_of_pos h];simp
 . rw [if_neg h,List.filter_append,List.filter_cons_of_neg h];simp
theorem zgC (m : List Out) (x : Out) : lsum (m ++ [x]) = lsum m + if x.hl then x.l.v else 0 := by
 rw [zg8 (List.perm_append_singleton x m)];simp only [lsum];omega
theorem zjw {l : List Out} {j : Nat} {x : Out} (h : l[j]? = some x) (k : Int) : ofKey (l.take (j + 1)) k = if x.key = k then ofKey (l.take j) k ++ [x] else ofKey (l.take j) k := by
 obtain ⟨hj,rfl⟩ := List.getElem?_eq_some_iff.1 h;rw [List.take_succ_eq_append_getElem hj];unfold ofKey;by_cases hk : l[j].key = k
 . rw [if_pos hk,List.filter_append,List.filter_cons_of_pos (by simp [hk])];rfl
 . rw [if_neg hk,List.filter_append,List.filter_cons_of_neg (by simp [hk])];simp
structure LoHi (rs : List Int) (lo hi : Int) (b : Bool) : Prop where
 none : rs = [] -> lo = 0 /\ hi = 0 /\ b = false
 some : rs ≠ [] -> b = true /\ lo ∈ rs /\ hi ∈ rs /\ ∀ x ∈ rs,lo <= x /\ x <= hi
theorem LoHi.nil : LoHi [] 0 0 false := ⟨fun _ => ⟨rfl,rfl,rfl⟩,fun h => absurd rfl h⟩
theorem LoHi.one (v lo hi : Int) {rs : List Int} (h : LoHi rs lo hi false) : LoHi (rs ++ [v]) v v true := by
 have : rs = [] := by
  cases rs with
  | nil => rfl
  | cons a r => exact absurd (h.some (by simp)).1 (by decide)
 subst this;exact ⟨fun h => by simp at h,fun _ => ⟨rfl,by simp,by simp,fun x hx => by simp at hx;omega⟩⟩
theorem LoHi.more (v lo hi lo' hi' : Int) {rs : List Int} (h : LoHi rs lo hi true) (h1 : lo' = if v < lo then v else lo) (h2 : hi' = if hi < v then v else hi) : LoHi (rs ++ [v]) lo' hi' true := by
 have hne : rs ≠ [] := fun e => by have := (h.none e).2.2;cases this
 obtain ⟨-,a1,a2,a3⟩ := h.some hne;refine ⟨fun h => by simp at h,fun _ => ⟨rfl,?_,?_,fun x hx => ?_⟩⟩
 . rw [h1];split
   . simp
   . exact List.mem_append_left _ a1
 . rw [h2];split
   . simp
   . exact List.mem_append_left _ a2
 . rw [h1,h2];rcases List.mem_append.1 hx with hx | hx
   . have := a3 x hx
     split <;> split <;> omega
   . have : x = v := by simpa using hx
     subst this;split <;> split <;> omega
theorem LoHi.sorted {rs ss : List Int} {lo hi : Int} {b : Bool} (h : LoHi rs lo hi b) (hp : ss.Perm rs) (hs : ss.Pairwise (. <= ·)) : lo = ss.getD 0 0 /\ hi = ss.getD (ss.length - 1) 0 /\ b = decide (0 < ss.length) := by
 by_cases hn : rs = []
 . obtain ⟨rfl,rfl,rfl⟩ := h.none hn;rw [hn] at hp;rw [hp.eq_nil];exact ⟨rfl,rfl,rfl⟩
 . obtain ⟨rfl,a1,a2,a3⟩ := h.some hn;have hne : ss ≠ [] := fun e => hn (by rw [e] at hp;exact hp.nil_eq.symm);have hl : 0 < ss.length := List.length_pos_iff.2 hne;have g0 : ss.getD 0 0 = ss[0] := by simp [List.getD,hl]
   have g1 : ss.getD (ss.length - 1) 0 = ss[ss.length - 1]'(by omega) := by
    have : ss.length - 1 < ss.length := by omega
    simp [List.getD,this]
   have m0 := (a3 _ (hp.mem_iff.1 (List.getElem_mem hl)))
   have m1 := (a3 _ (hp.mem_iff.1 (List.getElem_mem (show ss.length - 1 < ss.length by omega))))
   obtain ⟨i,hi1,hi2⟩ := List.mem_iff_getElem.1 (hp.mem_iff.2 a1);obtain ⟨j,hj1,hj2⟩ := List.mem_iff_getElem.1 (hp.mem_iff.2 a2);rw [List.pairwise_iff_getElem] at hs;refine ⟨?_,?_,by simp [hl]⟩
   . rw [g0];rcases Nat.eq_zero_or_pos i with rfl | hi0
     . exact hi2.symm
     . have := hs 0 i hl hi1 hi0;omega
   . rw [g1];rcases Nat.lt_or_ge j (ss.length - 1) with hj0 | hj0
     . have := hs j (ss.length - 1) hj1 (by omega) hj0;omega
     . have : j = ss.length - 1 := by omega
       subst this;exact hj2.symm
structure Acc (w : World) (M : Nat) (key : Int) (m : List Out) (lo hi : Int) (b : Bool) : Prop where
 box : BoxG w M key m.length (wrap64 (lsum m)) lo hi b
 lohi : LoHi (zaY m) lo hi b
def grow (key : Int) (m : List Out) : GRow := zd3 key ⟨m.length,wrap64 (lsum m),zbO (zaY m)⟩
theorem Acc.row {w : World} {M : Nat} {key : Int} {m : List Out} {lo hi : Int} {b : Bool} (h : Acc w M key m lo hi b) : grow key m = ⟨key,m.length,wrap64 (lsum m),lo,hi,b⟩ := by
 obtain ⟨h1,h2,h3⟩ := h.lohi.sorted (zaM _) (zaQ _);unfold grow zd3;rw [<- h1,<- h2,<- h3]
theorem zmL {key : Int} {m : List Out} {a : GS} (h : RepA a m) : zd3 key a = grow key m := by
 have : RepA ⟨m.length,wrap64 (lsum m),zbO (zaY m)⟩ m := ⟨rfl,rfl,zaM _,zaQ _⟩
 rw [h.eq this];rfl
theorem BoxG.other {w : World} {n M : Nat} {k c s l m : Int} {b : Bool} (h : BoxG w n k c s l m b) (hn : n ≠ M) (i : Nat) (v : Value) : BoxG (w.setCell ⟨M,i,none⟩ v) n k c s l m b := h.keep (Below.heap_setCell _ _ _ _ hn)
def GRow.val (r : GRow) : Value := .agg #[.int .i64 r.key,.int .i64 r.cnt,.int .i64 r.sum,.int .i64 r.least,.int .i64 r.most,.bool r.some]
def zki (l : List Out) (key : Int) : Value := if ofKey l key = [] then .tuple #[.agg #[.int .i64 0,.int .i64 0,.int .i64 0,.int .i64 0,.int .i64 0,.bool false],.int .i64 8] else .tuple #[(grow key (ofKey l key)).val,.int .i64 0]
theorem zeM (p : Option Addr) (cap : Nat) (l : List Out) (key : Int) (w : World) (h : zbq w p l) (hl : l.length < 1000000) :
 Calls Tryz.prog 72 #[.slice p l.length cap,.int .i64 key] w fun e w' => Ext w w' /\ e = .returned (zki l key) := by
 go_enter Tryz.func72,Tryz.ntmps72;go_wp2_with fail;have bN : BoxG ((w.alloc (.cells #[.int .i64 0,.int .i64 0,.int .i64 0,.int .i64 0,.int .i64 0,.bool false] 140)).alloc (.cells #[.int .i64 key,.int .i64 0,.int .i64 0,.int .i64 0,.int .i64 0,.bool false] 140)) w.heap.size 0 0 0 0 0 false :=
  (BoxG.mk' w 0 0 0 0 0 false 140).keep (zah (by rw [World.size_alloc];omega))
 have bM : Acc ((w.alloc (.cells #[.int .i64 0,.int .i64 0,.int .i64 0,.int .i64 0,.int .i64 0,.bool false] 140)).alloc (.cells #[.int .i64 key,.int .i64 0,.int .i64 0,.int .i64 0,.int .i64 0,.bool false] 140)) (w.heap.size + 1) key [] 0 0 false := by
  have := BoxG.mk' (w.alloc (.cells #[.int .i64 0,.int .i64 0,.int .i64 0,.int .i64 0,.int .i64 0,.bool false] 140)) key 0 0 0 0 false 140
  rw [World.size_alloc] at this;exact ⟨by rw [show wrap64 (lsum []) = 0 from by show wrap64 0 = 0;unfold wrap64;decide];exact this,LoHi.nil⟩
 have x0 : Ext w ((w.alloc (.cells #[.int .i64 0,.int .i64 0,.int .i64 0,.int .i64 0,.int .i64 0,.bool false] 140)).alloc (.cells #[.int .i64 key,.int .i64 0,.int .i64 0,.int .i64 0,.int .i64 0,.bool false] 140)) := ((ExtM.refl _).alloc _).alloc _;generalize (w.alloc (.cells #[.int .i64 0,.int .i64 0,.int .i64 0,.int .i64 0,.int .i64 0,.bool false] 140)).alloc (.cells #[.int .i64 key,.int .i64 0,.int .i64 0,.int .i64 0,.int .i64 0,.bool false] 140) = w1 at *;have hNM : w.heap.size < w.heap.size + 1 := by omega
 have hMw : w.heap.size <= w.heap.size + 1 := by omega
 go_loopw [14] (fun i wr => ∃ (j : Nat) (lo hi : Int) (b : Bool),j <= l.length /\ i = .int .i64 j /\ Ext w wr /\ Acc wr (w.heap.size + 1) key (ofKey (l.take j) key) lo hi b /\ BoxG wr w.heap.size 0 0 0 0 0 false) (fun i _ => l.length - (intOf i).toNat)
 case atStart => exact ⟨0,0,0,false,Nat.zero_le _,rfl,x0,bM,bN⟩
 case round =>
  clear bN bM x0;obtain ⟨j,lo,hi,b,hj,rfl,hx,bM,bN⟩ := hrel;by_cases hjl : j < l.length
  . have hd : decide ((j : Int) < l.length) = true := by simp;omega
    have hlj : l[j]? = some l[j] := List.getElem?_eq_getElem hjl;rcases h.of hx with hn | ⟨g,rfl,hel⟩
    . rw [hn] at hjl;simp at hjl
    have el := hel j hjl;have lb := el.lt;generalize l[j] = x at *;have hot := zjw hlj key;have HOT := Lib.hid hot;clear hlj hel hot;obtain ⟨e0,e1,e2,e3,e4,e5,e6,e7,e8⟩ := id el;have bx := BoxO.mk' wr x 86;have bM1 : Acc (wr.alloc (.cells #[.int .i64 x.key,.int .i64 x.l.k,.int .i64 x.l.t,.int .i64 x.l.v,.int .i64 x.r.k,.int .i64 x.r.t,.int .i64 x.r.v,.bool x.hl,.bool x.hr] 86)) (w.heap.size + 1) key (ofKey (l.take j) key) lo hi b := ⟨bM.box.keep (zah bM.box.lt),bM.lohi⟩
    have bN1 := bN.keep (w' := wr.alloc (.cells #[.int .i64 x.key,.int .i64 x.l.k,.int .i64 x.l.t,.int .i64 x.l.v,.int .i64 x.r.k,.int .i64 x.r.t,.int .i64 x.r.v,.bool x.hl,.bool x.hr] 86)) (zah bN.lt);have hx1 : Ext w (wr.alloc (.cells #[.int .i64 x.key,.int .i64 x.l.k,.int .i64 x.l.t,.int .i64 x.l.v,.int .i64 x.r.k,.int .i64 x.r.t,.int .i64 x.r.v,.bool x.hl,.bool x.hr] 86)) := hx.alloc _;have hMl := bM.box.lt;have hn8 : w.heap.size + 1 < wr.heap.size := hMl;have hm0 : (ofKey (l.take j) key).length <= j := by
     have := List.length_filter_le (fun x : Out => decide (x.key = key)) (l.take j)
     rw [List.length_take] at this;unfold ofKey;omega
    by_cases hk : x.key = key
    . have hkb : (x.key != key) = false := by simp [hk]
      have hot : ofKey (l.take (j + 1)) key = ofKey (l.take j) key ++ [x] := by rw [HOT.out,if_pos hk]
      have HOT2 := Lib.hid hot;have HK := Lib.hid hk;clear hot hk HOT;generalize ofKey (l.take j) key = m at *;obtain ⟨q0,q1,q2,q3,q4,q5,f0,f1,f2,f3,f4,f5⟩ := id bM.box;have hMn : ¬ w.heap.size + 1 = wr.heap.size := by omega
      have hNn : ¬ w.heap.size = wr.heap.size := by omega
      go_upto_if 27 with fail;have cM : BoxG ((wr.setCell ⟨w.heap.size + 1,1,none⟩ (.int .i64 ((m.length : Int) + 1))).alloc (.cells #[.int .i64 x.key,.int .i64 x.l.k,.int .i64 x.l.t,.int .i64 x.l.v,.int .i64 x.r.k,.int .i64 x.r.t,.int .i64 x.r.v,.bool x.hl,.bool x.hr] 86)) (w.heap.size + 1) key (m.length + 1) (wrap64 (lsum m)) lo hi b := by
       constructor <;> go_simp
      have cN : BoxG ((wr.setCell ⟨w.heap.size + 1,1,none⟩ (.int .i64 ((m.length : Int) + 1))).alloc (.cells #[.int .i64 x.key,.int .i64 x.l.k,.int .i64 x.l.t,.int .i64 x.l.v,.int .i64 x.r.k,.int .i64 x.r.t,.int .i64 x.r.v,.bool x.hl,.bool x.hr] 86)) w.heap.size 0 0 0 0 0 false := by
       refine bN.keep ?_;rw [zah (by rw [World.size_setCell];exact bN.lt)];exact Below.heap_setCell _ _ _ _ (by show w.heap.size ≠ w.heap.size + 1;omega)
      have cx : BoxO ((wr.setCell ⟨w.heap.size + 1,1,none⟩ (.int .i64 ((m.length : Int) + 1))).alloc (.cells #[.int .i64 x.key,.int .i64 x.l.k,.int .i64 x.l.t,.int .i64 x.l.v,.int .i64 x.r.k,.int .i64 x.r.t,.int .i64 x.r.v,.bool x.hl,.bool x.hr] 86)) wr.heap.size x := by
       have := BoxO.mk' (wr.setCell ⟨w.heap.size + 1,1,none⟩ (.int .i64 ((m.length : Int) + 1))) x 86
       rwa [World.size_setCell] at this
      have cw : Ext w ((wr.setCell ⟨w.heap.size + 1,1,none⟩ (.int .i64 ((m.length : Int) + 1))).alloc (.cells #[.int .i64 x.key,.int .i64 x.l.k,.int .i64 x.l.t,.int .i64 x.l.v,.int .i64 x.r.k,.int .i64 x.r.t,.int .i64 x.r.v,.bool x.hl,.bool x.hr] 86)) := (ExtM.setCell hx (.inl hMw) _).alloc _;have hlh := bM.lohi;clear bM bM1 bN bN1 bx hx hx1 q0 q1 q2 q3 q4 q5 f0 f1 f2 f3 f4 f5 e0 e1 e2 e3 e4 e5 e6 e7 e8 el lb hMl hn8;generalize (wr.setCell ⟨w.heap.size + 1,1,none⟩ (.int .i64 ((m.length : Int) + 1))).alloc (.cells #[.int .i64 x.key,.int .i64 x.l.k,.int .i64 x.l.t,.int .i64 x.l.v,.int .i64 x.r.k,.int .i64 x.r.t,.int .i64 x.r.v,.bool x.hl,.bool x.hr] 86) = w4 at *;generalize wr.heap.size = n8 at *;generalize Value.agg #[.int .i64 x.key,.int .i64 x.l.k,.int .i64 x.l.t,.int .i64 x.l.v,.int .i64 x.r.k,.int .i64 x.r.t,.int .i64 x.r.v,.bool x.hl,.bool x.hr] = V2;go_cut [] (fun wx => BoxG wx (w.heap.size + 1) key (m.length + 1) (wrap64 (lsum (m ++ [x]))) lo hi b /\ BoxG wx w.heap.size 0 0 0 0 0 false /\ BoxO wx n8 x /\ Ext w wx)
      case first =>
       obtain ⟨q0,q1,q2,q3,q4,q5,f0,f1,f2,f3,f4,f5⟩ := id cM;obtain ⟨e0,e1,e2,e3,e4,e5,e6,e7,e8⟩ := id cx;have hMl := cM.lt;have hnl := cx.lt;go_wp2_with fail
       . have hhl : x.hl = true := by assumption
         go_meet
         case rel =>
          have hsum : wrap64 (lsum (m ++ [x])) = wrap64 (wrap64 (lsum m) + x.l.v) := by
           rw [zgC,if_pos hhl];unfold wrap64;omega
          rw [hsum];generalize wrap64 (wrap64 (lsum m) + x.l.v) = s at *;refine ⟨by constructor <;> go_simp,cN.keep (Below.heap_setCell _ _ _ _ (by show w.heap.size ≠ w.heap.size + 1;omega)),cx.keep (Below.heap_setCell _ _ _ _ (fun e => hMn e.symm)),ExtM.setCell cw (.inl hMw) _⟩
       . have hhl : x.hl = false := by assumption
         go_meet
         case rel =>
          have hsum : wrap64 (lsum (m ++ [x])) = wrap64 (lsum m) := by
           rw [zgC,if_neg (by rw [hhl];decide),Int.add_zero]
          rw [hsum];exact ⟨cM,cN,cx,cw⟩
      case rest =>
       clear cM cN cx cw;obtain ⟨cM,cN,cx,cw⟩ := hcut;have hlen : (((m ++ [x]).length : Nat) : Int) = (m.length : Int) + 1 := by simp
       have HLEN := Lib.hid hlen;clear hlen;generalize hs : wrap64 (lsum (m ++ [x])) = s at *;have HS := Lib.hid hs;clear hs;obtain ⟨q0,q1,q2,q3,q4,q5,f0,f1,f2,f3,f4,f5⟩ := id cM;obtain ⟨e0,e1,e2,e3,e4,e5,e6,e7,e8⟩ := id cx;have hMl := cM.lt;have hnl := cx.lt;cases b
       . go_wp2_with fail
         . have hhr : x.hr = true := by assumption
           have hpf : LoHi (if x.hr = true then zaY m ++ [x.r.v] else zaY m) (x.r.v) (x.r.v) true := by (rw [if_pos hhr];exact hlh.one _ _ _)
           refine ⟨⟨j + 1,x.r.v,x.r.v,true,by omega,by go_num,?_,?_,?_⟩,by simp [intOf];omega⟩
           . iterate 3 (refine ExtM.setCell ?_ (.inl hMw) _)
             exact cw
           . rw [HOT2.out];refine ⟨?_,?_⟩
             . rw [HLEN.out,HS.out];constructor <;> go_simp
             . rw [zbb];exact hpf
           . iterate 3 (refine BoxG.other ?_ (by omega) _ _)
             exact cN
         . have hhr : x.hr = false := by assumption
           have hpf : LoHi (if x.hr = true then zaY m ++ [x.r.v] else zaY m) (lo) (hi) false := by (rw [if_neg (by rw [hhr];decide)];exact hlh)
           refine ⟨⟨j + 1,lo,hi,false,by omega,by go_num,?_,?_,?_⟩,by simp [intOf];omega⟩
           . iterate 0 (refine ExtM.setCell ?_ (.inl hMw) _)
             exact cw
           . rw [HOT2.out];refine ⟨?_,?_⟩
             . rw [HLEN.out,HS.out];constructor <;> go_simp
             . rw [zbb];exact hpf
           . iterate 0 (refine BoxG.other ?_ (by omega) _ _)
             exact cN
       . go_wp2_with fail
         . have hhr : x.hr = true := by assumption
           have g1 : x.r.v < lo := by assumption
           have g2 : hi < x.r.v := by assumption
           have hpf : LoHi (if x.hr = true then zaY m ++ [x.r.v] else zaY m) (x.r.v) (x.r.v) true := by (rw [if_pos hhr];exact hlh.more _ _ _ _ _ (by rw [if_pos g1]) (by rw [if_pos g2]))
           refine ⟨⟨j + 1,x.r.v,x.r.v,true,by omega,by go_num,?_,?_,?_⟩,by simp [intOf];omega⟩
           . iterate 3 (refine ExtM.setCell ?_ (.inl hMw) _)
             exact cw
           . rw [HOT2.out];refine ⟨?_,?_⟩
             . rw [HLEN.out,HS.out];constructor <;> go_simp
             . rw [zbb];exact hpf
           . iterate 3 (refine BoxG.other ?_ (by omega) _ _)
             exact cN
         . have hhr : x.hr = true := by assumption
           have g1 : x.r.v < lo := by assumption
           have g2 : x.r.v <= hi := by assumption
           have hpf : LoHi (if x.hr = true then zaY m ++ [x.r.v] else zaY m) (x.r.v) (hi) true := by (rw [if_pos hhr];exact hlh.more _ _ _ _ _ (by rw [if_pos g1]) (by rw [if_neg (by omega)]))
           refine ⟨⟨j + 1,x.r.v,hi,true,by omega,by go_num,?_,?_,?_⟩,by simp [intOf];omega⟩
           . iterate 2 (refine ExtM.setCell ?_ (.inl hMw) _)
             exact cw
           . rw [HOT2.out];refine ⟨?_,?_⟩
             . rw [HLEN.out,HS.out];constructor <;> go_simp
             . rw [zbb];exact hpf
           . iterate 2 (refine BoxG.other ?_ (by omega) _ _)
             exact cN
         . have hhr : x.hr = true := by assumption
           have g1 : lo <= x.r.v := by assumption
           have g2 : hi < x.r.v := by assumption
           have hpf : LoHi (if x.hr = true then zaY m ++ [x.r.v] else zaY m) (lo) (x.r.v) true := by (rw [if_pos hhr];exact hlh.more _ _ _ _ _ (by rw [if_neg (by omega)]) (by rw [if_pos g2]))
           refine ⟨⟨j + 1,lo,x.r.v,true,by omega,by go_num,?_,?_,?_⟩,by simp [intOf];omega⟩
           . iterate 2 (refine ExtM.setCell ?_ (.inl hMw) _)
             exact cw
           . rw [HOT2.out];refine ⟨?_,?_⟩
             . rw [HLEN.out,HS.out];constructor <;> go_simp
             . rw [zbb];exact hpf
           . iterate 2 (refine BoxG.other ?_ (by omega) _ _)
             exact cN
         . have hhr : x.hr = true := by assumption
           have g1 : lo <= x.r.v := by assumption
           have g2 : x.r.v <= hi := by assumption
           have hpf : LoHi (if x.hr = true then zaY m ++ [x.r.v] else zaY m) (lo) (hi) true := by (rw [if_pos hhr];exact hlh.more _ _ _ _ _ (by rw [if_neg (by omega)]) (by rw [if_neg (by omega)]))
           refine ⟨⟨j + 1,lo,hi,true,by omega,by go_num,?_,?_,?_⟩,by simp [intOf];omega⟩
           . iterate 1 (refine ExtM.setCell ?_ (.inl hMw) _)
             exact cw
           . rw [HOT2.out];refine ⟨?_,?_⟩
             . rw [HLEN.out,HS.out];constructor <;> go_simp
             . rw [zbb];exact hpf
           . iterate 1 (refine BoxG.other ?_ (by omega) _ _)
             exact cN
         . have hhr : x.hr = false := by assumption
           have hpf : LoHi (if x.hr = true then zaY m ++ [x.r.v] else zaY m) (lo) (hi) true := by (rw [if_neg (by rw [hhr];decide)];exact hlh)
           refine ⟨⟨j + 1,lo,hi,true,by omega,by go_num,?_,?_,?_⟩,by simp [intOf];omega⟩
           . iterate 0 (refine ExtM.setCell ?_ (.inl hMw) _)
             exact cw
           . rw [HOT2.out];refine ⟨?_,?_⟩
             . rw [HLEN.out,HS.out];constructor <;> go_simp
             . rw [zbb];exact hpf
           . iterate 0 (refine BoxG.other ?_ (by omega) _ _)
             exact cN
    . have hkb : (x.key != key) = true := by simp [hk]
      have hot : ofKey (l.take (j + 1)) key = ofKey (l.take j) key := by rw [HOT.out,if_neg hk]
      have HOT2 := Lib.hid hot;clear hot hk HOT bx bM bN hx hMl hn8;go_wp2_with fail;go_roundw
      case rel => exact ⟨j + 1,lo,hi,b,by omega,by go_num,hx1,HOT2.out ▸ bM1,bN1⟩
      case measure => simp [intOf];omega
  . obtain rfl : j = l.length := by omega
    have hd : decide ((l.length : Int) < l.length) = false := by simp
    rw [List.take_length] at bM;have hml : (ofKey l key).length <= l.length := List.length_filter_le _ _;obtain ⟨v,hv⟩ : ∃ v,zki l key = v := ⟨_,rfl⟩
    have hrow := bM.row;have hvd := hv;unfold zki at hvd;generalize ofKey l key = m at *;rw [hrow] at hvd;have HV := Lib.hid hv;clear hrow hv;obtain ⟨e0,e1,e2,e3,e4,e5,f0,f1,f2,f3,f4,f5⟩ := id bM.box;obtain ⟨g0,g1,g2,g3,g4,g5,n0,n1,n2,n3,n4,n5⟩ := id bN;have hMl := bM.box.lt;by_cases hmn : m = []
    . have hz : ((m.length : Int) == 0) = true := by rw [hmn];rfl
      rw [if_pos hmn] at hvd;have HVD := Lib.hid hvd;clear hmn hvd;go_wp2_with fail;rw [HV.out,<- HVD.out]
      exact bodyPost_ret (v := .tuple #[.agg #[.int .i64 0,.int .i64 0,.int .i64 0,.int .i64 0,.int .i64 0,.bool false],.int .i64 8]) (by simp [results,Tryz.results72,go_sem,g0,g1,g2,g3,g4,g5]) rfl ⟨by
       iterate 6 (refine ExtM.setCell ?_ (.inl (Nat.le_refl _)) _)
       exact hx,rfl⟩
    . have hz : ((m.length : Int) == 0) = false := by
       have : 0 < m.length := List.length_pos_iff.2 hmn;simp;omega
      rw [if_neg hmn] at hvd;have HVD := Lib.hid hvd;clear hmn hvd;go_wp2_with fail;rw [HV.out,<- HVD.out]
      exact bodyPost_ret (v := .tuple #[(⟨key,m.length,wrap64 (lsum m),lo,hi,b⟩ : GRow).val,.int .i64 0]) (by simp [GRow.val,results,Tryz.results72,go_sem,g0,g1,g2,g3,g4,g5]) rfl ⟨by
       iterate 6 (refine ExtM.setCell ?_ (.inl (Nat.le_refl _)) _)
       exact hx,rfl⟩
theorem ziY (base : Nat) (v : Value) (ks : List Int) (w : World) (hown : w.ownsRow base 3 1 v ks.length (ks.map (Value.int .i64))) (hl : ks.length < 1000000000) :
 Calls Tryz.prog 71 #[v] w fun e w' => e = .returned (.tuple #[]) /\ ExtR v.ownBlock w w' /\ ∃ p cap,v = .slice p ks.length cap /\ zec w' p (zbO ks) := by
 go_enter Tryz.func71,Tryz.ntmps71;go_wp2_with fail;refine (zle base v ks w hown hl).mono ?_;rintro e w' ⟨rfl,h1,h2⟩;have H2 := Lib.hid h2;clear h2;go_wp2_with fail;go_end0;exact ⟨rfl,h1,H2.out⟩
theorem zhm {α : Type} {p : List α -> Prop} (h0 : p []) (h1 : ∀ l a,p l -> p (l ++ [a])) (l : List α) : p l := by
 have : ∀ l : List α,p l.reverse := by
  intro l;induction l with
  | nil => exact h0
  | cons a l ih => rw [List.reverse_cons];exact h1 _ _ ih
 simpa using this l.reverse
def ddF (acc : List Int) (k : Int) : List Int := if acc.getLast? = some k then acc else acc ++ [k]
def dd (ks : List Int) : List Int := ks.foldl ddF []
theorem zf4 (ks : List Int) (k : Int) : dd (ks ++ [k]) = ddF (dd ks) k := by simp [dd]
theorem zlz (ks : List Int) : (dd ks).getLast? = ks.getLast? := by
 refine zhm (p := fun ks => (dd ks).getLast? = ks.getLast?) rfl (fun ks k ih => ?_) ks
 . rw [zf4];unfold ddF;split
   . rename_i h;rw [h];simp
   . simp
theorem dd_mem (ks : List Int) (x : Int) : x ∈ dd ks ↔ x ∈ ks := by
 refine zhm (p := fun ks => x ∈ dd ks ↔ x ∈ ks) Iff.rfl (fun ks k ih => ?_) ks
 . rw [zf4];unfold ddF;split
   . rename_i h;rw [ih];have : k ∈ ks := by rw [zlz] at h;exact List.mem_of_getLast? h
     simp only [List.mem_append,List.mem_singleton];exact ⟨.inl,fun h => h.elim id (fun e => e ▸ this)⟩
   . simp [ih]
theorem zgt (ks : List Int) (h : ks.Pairwise (. <= ·)) : (dd ks).Pairwise (. < ·) := by
 revert h
 refine zhm (p := fun ks => ks.Pairwise (. <= ·) -> (dd ks).Pairwise (. < ·)) (fun _ => .nil) (fun ks k ih h => ?_) ks
 . rw [List.pairwise_append] at h;obtain ⟨h1,-,h3⟩ := h;rw [zf4];unfold ddF;split
   . exact ih h1
   . rename_i hl;rw [List.pairwise_append];refine ⟨ih h1,by simp,fun a ha b hb => ?_⟩;obtain rfl := List.mem_singleton.1 hb;have h4 := h3 a ((dd_mem _ _).1 ha) _ hb;rcases Int.lt_or_eq_of_le h4 with h5 | rfl
     . exact h5
     . exfalso;have hne : dd ks ≠ [] := fun e => by rw [e] at ha;cases ha
       obtain ⟨i,hi,rfl⟩ := List.mem_iff_getElem.1 ha;have hs := ih h1;rw [List.pairwise_iff_getElem] at hs;have hlast : (dd ks).getLast? = some ((dd ks)[(dd ks).length - 1]'(by omega)) := by
        rw [List.getLast?_eq_getElem?];exact List.getElem?_eq_getElem (by omega)
       rcases Nat.lt_or_ge i ((dd ks).length - 1) with h6 | h6
       . have h7 := hs i _ hi (by omega) h6;have h8 := h3 ((dd ks)[(dd ks).length - 1]'(by omega)) ((dd_mem _ _).1 (List.getElem_mem _)) _ hb;omega
       . have : i = (dd ks).length - 1 := by omega
         subst this;exact hl hlast
theorem zpz {xs : List Int} (h : xs.Pairwise (. < ·)) : xs.Pairwise (. <= ·) := h.imp (fun h => Int.le_of_lt h)
theorem zin {xs : List Int} (h : xs.Pairwise (. < ·)) : xs.Nodup := h.imp (fun h e => by omega)
theorem zol {ents : List Ent} {l : List Out} (h : za7 ents l) (hn : (ents.map (·.key)).Nodup) : dd (zbO (l.map (·.key))) = zbO (ents.map (·.key)) := by
 have hs := zgt _ (zaQ (l.map (·.key)));refine zbN ?_ (zpz hs) (zaQ _);refine List.Perm.trans ?_ (zaM _).symm;refine (List.perm_ext_iff_of_nodup (zin hs) hn).2 fun k => ?_;rw [dd_mem,(zaM _).mem_iff,zfm];have hk := h k;constructor
 . intro h1 h2;obtain ⟨x,hx,rfl⟩ := List.mem_map.1 h1;rw [h2] at hk;have : x ∈ ofKey l x.key := List.mem_filter.2 ⟨hx,by simp⟩;rw [(hk : _ = [])] at this;cases this
 . intro h1;cases ho : st ents k with
   | none => exact absurd ho h1
   | some a =>
     rw [ho] at hk;obtain ⟨x,hx⟩ := List.exists_mem_of_ne_nil _ hk.1;obtain ⟨hx1,hx2⟩ := List.mem_filter.1 hx;exact List.mem_map.2 ⟨x,hx1,by simpa using hx2⟩
def refGs (l : List Out) : List GRow := (dd (zbO (l.map (·.key)))).map fun k => grow k (ofKey l k)
theorem zi6 {ents : List Ent} {l : List Out} (h : za7 ents l) (hn : (ents.map (·.key)).Nodup) : refGs l = allG ents := by
 unfold refGs allG;rw [zol h hn];refine List.map_congr_left fun k hk => ?_;have hk2 := zfm.1 ((zaM _).mem_iff.1 hk);have hr := h k;cases ho : st ents k with
 | none => exact absurd ho hk2
 | some a => rw [ho] at hr;exact (zmL hr.2).symm
structure zfX (w wr : World) (p : Option Addr) (ks : List Int) (rows : List GRow) (M : Nat) (v : Value) : Prop where
 ext : Ext w wr
 keys : zec wr p ks
 own : wr.ownsRow M 140 6 v rows.length (rows.flatMap GRow.cells)
 sz : M <= wr.heap.size
 low : w.heap.size <= M
 apart : ∀ g,p = some ⟨g,0,none⟩ -> ks = [] \/ g < M
theorem zfX.of {w wr w' : World} {p : Option Addr} {ks : List Int} {rows : List GRow} {M : Nat} {v : Value} (h : zfX w wr p ks rows M v) (hx : Ext wr w') : zfX w w' p ks rows M v where
 ext := ExtM.trans _ _ _ h.ext hx
 keys := h.keys.of hx
 own := h.own.kept (row := none) (w' := w') ⟨hx.os,hx.tape,hx.output,hx.size,fun k hk hne => hx.block k hk id⟩ (by
  by_cases h : v.ownBlock = none
  . exact .inl h
  . exact .inr h)
 sz := Nat.le_trans h.sz hx.size
 low := h.low
 apart := h.apart
theorem zfX.push {w w5 : World} {p : Option Addr} {ks : List Int} {rows : List GRow} {M : Nat} {v : Value} (h : zfX w w5 p ks rows M v) (r : GRow) (hl : rows.length < 1000000000) :
 ∃ v' w',(Builtin.append_ #[74,74] 74 #[v,.slice (some ⟨w5.heap.size + 1,0,none⟩) 1 1]).run Tryz.prog ((w5.alloc (.cells #[.int .i64 r.key,.int .i64 r.cnt,.int .i64 r.sum,.int .i64 r.least,.int .i64 r.most,.bool r.some] 140)).alloc (.cells #[.int .i64 r.key,.int .i64 r.cnt,.int .i64 r.sum,.int .i64 r.least,.int .i64 r.most,.bool r.some] 140)) = .ok v' w' /\ zfX w w' p ks (rows ++ [r]) M v' := by
 have hel : zd5 ((w5.alloc (.cells #[.int .i64 r.key,.int .i64 r.cnt,.int .i64 r.sum,.int .i64 r.least,.int .i64 r.most,.bool r.some] 140)).alloc (.cells #[.int .i64 r.key,.int .i64 r.cnt,.int .i64 r.sum,.int .i64 r.least,.int .i64 r.most,.bool r.some] 140)) (w5.heap.size + 1) 0 r := by
  have := zd5.mk' (w5.alloc (.cells #[.int .i64 r.key,.int .i64 r.cnt,.int .i64 r.sum,.int .i64 r.least,.int .i64 r.most,.bool r.some] 140)) r 140
  rwa [World.size_alloc] at this
 obtain ⟨hx,hks,hown,hMs,hMw,hpM⟩ := h;obtain ⟨v',w',happ,hown',hgr,hloc⟩ := zei ((w5.alloc (.cells #[.int .i64 r.key,.int .i64 r.cnt,.int .i64 r.sum,.int .i64 r.least,.int .i64 r.most,.bool r.some] 140)).alloc (.cells #[.int .i64 r.key,.int .i64 r.cnt,.int .i64 r.sum,.int .i64 r.least,.int .i64 r.most,.bool r.some] 140)) M (w5.heap.size + 1) 1 v rows r 74 ((hown.alloc _).alloc _) hel hl (by rw [World.size_alloc,World.size_alloc];omega);have hown0 : ∀ k,some k = v.ownBlock -> M <= k := fun k hk => by
  rcases hown.2 with ⟨rfl,h0⟩ | ⟨g,cap,cur,rfl,hbase,-⟩
  . cases hk
  . have := Option.some.inj hk
    simp at this;omega
 have hkeep : ∀ k,k < w5.heap.size -> k < M -> w'.heap[k]? = w5.heap[k]? := fun k hk hM => by
  rw [hgr.block k (by rw [World.size_alloc,World.size_alloc];omega) (fun e => by have := hown0 k e;omega),zah (by rw [World.size_alloc];omega),zah hk]
 have hsz := hgr.size;rw [World.size_alloc,World.size_alloc] at hsz;refine ⟨v',w',happ,⟨⟨hgr.os.trans hx.os,hgr.tape.trans hx.tape,hgr.output.trans hx.output,by have := hx.size;omega,fun k hk _ => (hkeep k (Nat.lt_of_lt_of_le hk hx.size) (by omega)).trans (hx.block k hk id)⟩,?_,hown',by omega,hMw,hpM⟩⟩;rcases hks with hks | ⟨g,rfl,hg,hcell⟩
 . exact .inl hks
 . rcases hpM g rfl with h | hgM
   . exact .inl h
   . refine .inr ⟨g,rfl,by omega,fun i hi => ?_⟩;have q : ∀ o,w'.cell? ⟨g,o,none⟩ = w5.cell? ⟨g,o,none⟩ := fun o => World.cell?_of_block (w := w5) (w' := w') (a := ⟨g,o,none⟩) (hkeep g (by omega) hgM);rw [q];exact hcell i hi
theorem zgF {α : Type} {l : List α} {j : Nat} {x : α} (h : l[j]? = some x) : l.take (j + 1) = l.take j ++ [x] := by
 obtain ⟨hj,rfl⟩ := List.getElem?_eq_some_iff.1 h;exact List.take_succ_eq_append_getElem hj
theorem zhB (p : Option Addr) (cap : Nat) (l : List Out) (w : World) (h : zbq w p l) (hl : l.length < 1000000) :
 Calls Tryz.prog 29 #[.slice p l.length cap] w (zgd w (refGs l)) := by
 go_enter Tryz.func29,Tryz.ntmps29;go_wp2_with fail;go_loopw [3,13] (fun v i wr => ∃ j : Nat,j <= l.length /\ i = .int .i64 j /\ wr.ownsRow w.heap.size 3 1 v ((l.take j).map (·.key)).length (((l.take j).map (·.key)).map (Value.int .i64)) /\ Ext w wr) (fun _ i _ => l.length - (intOf i).toNat)
 case atStart => exact ⟨0,Nat.zero_le _,rfl,⟨by simp,.inl ⟨rfl,by simp⟩⟩,ExtM.refl _⟩
 case round =>
  obtain ⟨j,hj,rfl,hown,hx⟩ := hrel;by_cases hjl : j < l.length
  . have hd : decide ((j : Int) < l.length) = true := by simp;omega
    have hlj : l[j]? = some l[j] := List.getElem?_eq_getElem hjl;rcases h.of hx with hn | ⟨g,rfl,hel⟩
    . rw [hn] at hjl;simp at hjl
    have el := hel j hjl;have lb := el.lt;generalize l[j] = x at *;have hts := zgF hlj;have HTS := Lib.hid hts;clear hlj hel hts;have hs := hx.size;have hlen : ((l.take j).map (·.key)).length < 1000000000 := by rw [List.length_map,List.length_take];omega
    obtain ⟨v',w',happ,hown',hgr,hloc⟩ := zed ((wr.alloc (.cells #[.int .i64 x.key,.int .i64 x.l.k,.int .i64 x.l.t,.int .i64 x.l.v,.int .i64 x.r.k,.int .i64 x.r.t,.int .i64 x.r.v,.bool x.hl,.bool x.hr] 86)).alloc (.cells #[.int .i64 x.key] 3)) w.heap.size (wr.heap.size + 1) 1 u3 _ x.key 81 ((hown.alloc _).alloc _)
     (by have := World.size_alloc wr (.cells #[.int .i64 x.key,.int .i64 x.l.k,.int .i64 x.l.t,.int .i64 x.l.v,.int .i64 x.r.k,.int .i64 x.r.t,.int .i64 x.r.v,.bool x.hl,.bool x.hr] 86);rw [<- this];go_simp) hlen (by rw [World.size_alloc,World.size_alloc];omega)
    have hx' : Ext w w' := by
     refine ⟨hgr.os.trans hx.os,hgr.tape.trans hx.tape,hgr.output.trans hx.output,?_,fun k hk _ => ?_⟩
     . have := hgr.size;rw [World.size_alloc,World.size_alloc] at this;omega
     . rw [hgr.block k (by rw [World.size_alloc,World.size_alloc];omega) (fun e => by
        rcases hown.2 with ⟨rfl,h0⟩ | ⟨g,cap,cur,rfl,hbase,-⟩
        . cases e
        . have := Option.some.inj e
          simp at this;omega),zah (by rw [World.size_alloc];omega),zah (by omega)]
       exact hx.block k hk id
    have hown2 : w'.ownsRow w.heap.size 3 1 v' ((l.take (j + 1)).map (·.key)).length (((l.take (j + 1)).map (·.key)).map (Value.int .i64)) := by
     rw [HTS.out,List.map_append];exact hown'
    obtain ⟨e0,e1,e2,e3,e4,e5,e6,e7,e8⟩ := id el;clear hown' hgr hloc hown hx hlen HTS hs;go_wp2_with (at_builtin;refine wpList_append_run happ rfl rfl _ _ rfl rfl rfl ?_;clear happ);go_roundw
    case rel => exact ⟨j + 1,by omega,by go_num,hown2,hx'⟩
    case measure => simp [intOf];omega
  . obtain rfl : j = l.length := by omega
    have hd : decide ((l.length : Int) < l.length) = false := by simp
    rw [List.take_length] at hown;go_wp2_with fail;refine (ziY w.heap.size u3 _ wr hown (by rw [List.length_map];omega)).mono ?_;rintro e w2 ⟨rfl,xr,pk,cap2,rfl,hks⟩
    have hx2 : Ext w w2 := ⟨xr.os.trans hx.os,xr.tape.trans hx.tape,xr.output.trans hx.output,Nat.le_trans hx.size xr.size,fun k hk _ => (xr.block k (Nat.lt_of_lt_of_le hk hx.size) (fun e => by
     rcases hown.2 with ⟨h1,-⟩ | ⟨g,cap',cur,h1,hbase,-⟩
     . rw [h1] at e;cases e
     . rw [h1] at e
       have := Option.some.inj e
       simp at this
       omega)).trans (hx.block k hk id)⟩
    have hkl : (zbO (l.map (·.key))).length = l.length := by rw [zbj,List.length_map]
    have hnl : (l.map (·.key)).length = l.length := List.length_map _;obtain ⟨ks,hke⟩ : ∃ ks,zbO (l.map (·.key)) = ks := ⟨_,rfl⟩
    have hmem : ∀ k ∈ ks,ofKey l k ≠ [] := fun k hk e => by
     obtain ⟨x,hx,rfl⟩ := List.mem_map.1 ((zaM _).mem_iff.1 (hke ▸ hk));have : x ∈ ofKey l x.key := List.mem_filter.2 ⟨hx,by simp⟩;rw [e] at this;cases this
    have hsrt : ks.Pairwise (. <= ·) := hke ▸ zaQ _;rw [hke] at hks hkl;rw [hnl];obtain ⟨rows,hrw⟩ : ∃ rows,refGs l = rows := ⟨_,rfl⟩
    have hrows : rows = (dd ks).map fun k => grow k (ofKey l k) := by rw [<- hrw];unfold refGs;rw [hke]
    have HROW := Lib.hid hrows;have HRW := Lib.hid hrw
    have hT : zfX w w2 pk ks [] w2.heap.size (.slice none 0 0) := ⟨hx2,hks,⟨rfl,.inl ⟨rfl,rfl⟩⟩,Nat.le_refl _,hx2.size,fun g hg => by
     rcases hks with h | ⟨g',h1,h2,-⟩
     . exact .inl h
     . rw [h1] at hg
       have := congrArg Addr.block (Option.some.inj hg)
       exact .inr (by have h3 : g' = g := this;omega)⟩
    have HKL := Lib.hid hkl;clear hke hrows hrw hkl hks hx2 xr hx hown hnl;generalize w2.heap.size = M at *;go_wp2_with fail;go_loopw [6,27] (fun v i wr => ∃ j : Nat,j <= l.length /\ i = .int .i64 j /\ zfX w wr pk ks ((dd (ks.take j)).map fun k => grow k (ofKey l k)) M v) (fun _ i _ => l.length - (intOf i).toNat)
    case atStart => exact ⟨0,Nat.zero_le _,rfl,hT⟩
    case round =>
     clear hT;obtain ⟨j,hj,rfl,hT⟩ := hrel;by_cases hjl : j < l.length
     . have hd : decide ((j : Int) < l.length) = true := by simp;omega
       have hkl := HKL.out;rcases hT.keys with hks | ⟨g,rfl,hg,hcell⟩
       . rw [hks] at hkl;simp at hkl;omega
       have hcj := hcell j (by omega);have hjk : j < ks.length := by omega
       have hkj : ks[j]? = some (ks.getD j 0) := by simp [List.getD,hjk]
       have hne := hmem _ (List.mem_of_getElem? hkj);have hrl : ((dd (ks.take j)).map fun k => grow k (ofKey l k)).length < 1000000000 := by
        rw [List.length_map]
        have := zfB (zin (zgt (ks.take j) (hsrt.sublist (List.take_sublist _ _)))) (fun x hx => (dd_mem _ _).1 hx)
        rw [List.length_take] at this;omega
       have hdd : dd (ks.take (j + 1)) = ddF (dd (ks.take j)) (ks.getD j 0) := by rw [zgF hkj,zf4]
       have hlast : (dd (ks.take j)).getLast? = if j = 0 then none else some (ks.getD (j - 1) 0) := by
        rw [zlz];by_cases hj0 : j = 0
        . subst hj0;simp
        . rw [if_neg hj0,List.getLast?_eq_getElem?,List.length_take,Nat.min_eq_left (by omega),List.getElem?_take_of_lt (by omega)];have : j - 1 < ks.length := by omega
          simp [List.getD,this]
       have hx := hT.ext;have hGV : zki l (ks.getD j 0) = .tuple #[(grow (ks.getD j 0) (ofKey l (ks.getD j 0))).val,.int .i64 0] := by unfold zki;rw [if_neg hne]
       unfold GRow.val at hGV;have HGV := Lib.hid hGV;have HCELL := Lib.hid hcell;have HDD := Lib.hid hdd;have HLAST := Lib.hid hlast;clear hGV hkj hne hcell hdd hlast hkl hjk;by_cases hj0 : j = 0
       . have hz : ((j : Int) == 0) = true := by simp [hj0]
         have hdd2 : dd (ks.take (j + 1)) = dd (ks.take j) ++ [ks.getD j 0] := by
          rw [HDD.out];unfold ddF;rw [HLAST.out,if_pos hj0,if_neg (by simp)]
         have HDD2 := Lib.hid hdd2;clear hdd2 hj0 HLAST HDD;generalize ks.getD j 0 = key at *;go_wp2_with fail;refine (zeM p cap l key _ (h.of hx) hl).mono ?_;rintro e w5 ⟨x5,rfl⟩;rw [HGV.out];generalize hr : grow key (ofKey l key) = r at *;have HR := Lib.hid hr;clear hr;obtain ⟨v',w',happ,hT'⟩ := (hT.of x5).push r hrl;clear hT x5 hx;go_wp2_with (at_builtin;refine wpList_append_run happ rfl rfl _ _ rfl rfl rfl ?_;clear happ);go_roundw
         case rel => exact ⟨j + 1,by omega,by go_num,by rw [HDD2.out,List.map_append,List.map_singleton,HR.out];exact hT'⟩
         case measure => simp [intOf];omega
       . have hz : ((j : Int) == 0) = false := by simp [hj0]
         have hj1 : (1 : Int) <= j := by omega
         have hj2 : 0 < j := by omega
         have hcp := HCELL.out (j - 1) (by have := HKL.out;omega);by_cases hpk : ks.getD (j - 1) 0 = ks.getD j 0
         . have hdd2 : dd (ks.take (j + 1)) = dd (ks.take j) := by
            rw [HDD.out];unfold ddF;rw [HLAST.out,if_neg hj0,if_pos (by rw [hpk])]
           have HDD2 := Lib.hid hdd2;rw [hpk] at hcp;clear hdd2 hj0 HLAST HDD hpk;have hb : (ks.getD j 0 != ks.getD j 0) = false := by simp
           generalize ks.getD j 0 = key at *;go_wp2_with fail;go_roundw
           case rel => exact ⟨j + 1,by omega,by go_num,by rw [HDD2.out];exact hT⟩
           case measure => simp [intOf];omega
         . have hdd2 : dd (ks.take (j + 1)) = dd (ks.take j) ++ [ks.getD j 0] := by
            rw [HDD.out];unfold ddF;rw [HLAST.out,if_neg hj0,if_neg (fun e => hpk (Option.some.inj e))]
           have HDD2 := Lib.hid hdd2;have hb : (ks.getD (j - 1) 0 != ks.getD j 0) = true := by simpa using hpk
           clear hdd2 hj0 HLAST HDD hpk;generalize ks.getD (j - 1) 0 = prev at *;generalize ks.getD j 0 = key at *;go_wp2_with fail;refine (zeM p cap l key _ (h.of hx) hl).mono ?_;rintro e w5 ⟨x5,rfl⟩;rw [HGV.out];generalize hr : grow key (ofKey l key) = r at *;have HR := Lib.hid hr;clear hr;obtain ⟨v',w',happ,hT'⟩ := (hT.of x5).push r hrl;clear hT x5 hx;go_wp2_with (at_builtin;refine wpList_append_run happ rfl rfl _ _ rfl rfl rfl ?_;clear happ);go_roundw
           case rel => exact ⟨j + 1,by omega,by go_num,by rw [HDD2.out,List.map_append,List.map_singleton,HR.out];exact hT'⟩
           case measure => simp [intOf];omega
     . obtain rfl : j = l.length := by omega
       have hd : decide ((l.length : Int) < l.length) = false := by simp
       have hkl := HKL.out;obtain ⟨hx,hks,hown,hMs,hMw,hpM⟩ := hT;rw [<- hkl,List.take_length,<- HROW.out] at hown;obtain ⟨p',cap',rfl,hG'⟩ := zcG.own hown rfl;clear hkl hown hks hpM;go_wp2_with fail;go_ret;rw [HRW.out];exact ⟨p',cap',rfl,hx,hG'⟩
end Go.Proofs.YtmcgnnmffeojpabGreatDoor
