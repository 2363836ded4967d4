import Derived.Test.YtmcgnnmffeojpabGreatDoorPk19
import Derived.Test.YtmcgnnmffeojpabGreatDoorPk35
set_option maxRecDepth 100000
set_option maxHeartbeats 8000000
namespace Go.Proofs.YtmcgnnmffeojpabGreatDoor
open Go.RowKit Go.Plan
structure RHd where
 r:Row
 m:Int
 c:Int
def RHd.hd (x:RHd):Hd:=⟨x.r,x.m⟩
def ltR (a b:RHd):Prop:=a.r.k < b.r.k \/ (a.r.k = b.r.k /\ (a.r.t < b.r.t \/ (a.r.t = b.r.t /\ a.c < b.c)))
theorem zgS {a b c:RHd} (h:ltR a b) (k:ltR b c):ltR a c:=by unfold ltR at *;omega
theorem zeN (a:RHd):¬ ltR a a:=by unfold ltR;omega
theorem zcJ:∀ {xs ys:List RHd},xs.Perm ys -> xs.Pairwise ltR -> ys.Pairwise ltR -> xs = ys
 | [],ys,hp,_,_=>(List.nil_perm.1 hp).symm
 | x :: xs,ys,hp,hx,hy=>by
   cases ys with
   | nil=>exact absurd (List.perm_nil.1 hp) (by simp)
   | cons y ys =>
     have h1:=List.pairwise_cons.1 hx;have h2:=List.pairwise_cons.1 hy;have e:x = y:=by
      have hxm:x ∈ y :: ys:=hp.subset (List.mem_cons_self);have hym:y ∈ x :: xs:=hp.symm.subset (List.mem_cons_self);rcases List.mem_cons.1 hxm with h | h
      . exact h
      . rcases List.mem_cons.1 hym with h' | h'
        . exact h'.symm
        . exact absurd (zgS (h2.1 x h) (h1.1 y h')) (zeN y)
     subst e;rw [zcJ (List.Perm.cons_inv hp) h1.2 h2.2]
structure RelS (hs:List Hd) (S L:List RHd) (came:Int):Prop where
 perm:S.Perm L
 srt:S.Pairwise ltR
 eq:hs = S.map RHd.hd
 lt:∀ x ∈ L,x.c <= came
theorem RelS.len {hs:List Hd} {S L:List RHd} {came:Int} (h:RelS hs S L came):hs.length = L.length:=by
 rw [h.eq,List.length_map,h.perm.length_eq]
theorem RelS.nil (came:Int):RelS [] [] [] came:=⟨List.Perm.refl _,List.Pairwise.nil,rfl,fun x hx=>by cases hx⟩
theorem RelS.sorted {hs:List Hd} {S L:List RHd} {came:Int} (h:RelS hs S L came):zaD hs:=by
 unfold zaD;rw [h.eq,List.pairwise_map];refine h.srt.imp ?_;intro a b hab;unfold ltR at hab;unfold leKT RHd.hd;simp only;omega
theorem RelS.add {hs:List Hd} {S L:List RHd} {came:Int} (h:RelS hs S L came) (r:Row) (m:Int):∃ S',RelS (addH hs ⟨r,m⟩) S' (L ++ [⟨r,m,came + 1⟩]) (came + 1):=by
 obtain ⟨h1,h2⟩:=zcT h.sorted r.k (r.t + 1);have hn:=zdJ r.k (r.t + 1) hs;unfold addH insH;simp only;generalize fromN r.k (r.t + 1) hs = n at *;rw [h.eq,<- List.map_take] at h1;rw [h.eq,<- List.map_drop] at h2;have hp:(S.take n ++ S.drop n).Pairwise ltR:=by rw [List.take_append_drop];exact h.srt
 obtain ⟨p1,p2,p3⟩:=List.pairwise_append.1 hp;have hc:∀ a ∈ S,a.c <= came:=fun a ha=>h.lt a (h.perm.subset ha);refine ⟨S.take n ++ ⟨r,m,came + 1⟩ :: S.drop n,?_,?_,?_,?_⟩
 . refine List.Perm.trans List.perm_middle ?_;rw [List.take_append_drop];exact (List.Perm.cons _ h.perm).trans (by simpa using (List.perm_append_comm (l₁:=[(⟨r,m,came + 1⟩:RHd)]) (l₂:=L)))
 . refine List.pairwise_append.2 ⟨p1,List.pairwise_cons.2 ⟨fun a ha=>?_,p2⟩,fun a ha b hb=>?_⟩
   . have h3:=h2 a.hd (List.mem_map.2 ⟨a,ha,rfl⟩);have h4:¬ (za2 r.k (r.t + 1) a.hd = true):=by rw [h3];decide
     rw [zaN] at h4;unfold RHd.hd at h4;unfold ltR;simp only at h4 ⊢;omega
   . rcases List.mem_cons.1 hb with rfl | hb
     . have h3:=h1 a.hd (List.mem_map.2 ⟨a,ha,rfl⟩);rw [zaN] at h3;have h4:=hc a (List.mem_of_mem_take ha);unfold RHd.hd at h3;unfold ltR;simp only at h3 ⊢;omega
     . exact p3 a ha b hb
 . rw [h.eq,List.map_append,List.map_cons,List.map_take,List.map_drop];rfl
 . intro x hx;rcases List.mem_append.1 hx with hx | hx
   . have:=h.lt x hx;omega
   . rw [List.mem_singleton.1 hx];exact Int.le_refl _
theorem RelS.map {hs:List Hd} {S L:List RHd} {came:Int} (h:RelS hs S L came) (f:Hd -> Hd) (g:RHd -> RHd) (hg:∀ x,(g x).r = x.r /\ (g x).c = x.c /\ (g x).hd = f x.hd):RelS (hs.map f) (S.map g) (L.map g) came:=by
 refine ⟨h.perm.map g,?_,?_,?_⟩
 . rw [List.pairwise_map];refine h.srt.imp ?_;intro a b hab;unfold ltR at *;rw [(hg a).1,(hg b).1,(hg a).2.1,(hg b).2.1];exact hab
 . rw [h.eq,List.map_map,List.map_map];exact List.map_congr_left (fun a _=>(hg a).2.2.symm)
 . intro x hx;obtain ⟨y,hy,rfl⟩:=List.mem_map.1 hx;rw [(hg y).2.1];exact h.lt y hy
theorem RelS.filter {hs:List Hd} {S L:List RHd} {came:Int} (h:RelS hs S L came) (p:Hd -> Bool):RelS (hs.filter p) (S.filter (fun x=>p x.hd)) (L.filter (fun x=>p x.hd)) came:=by
 refine ⟨h.perm.filter _,h.srt.sublist List.filter_sublist,?_,fun x hx=>h.lt x (List.mem_filter.1 hx).1⟩;rw [h.eq,List.filter_map];rfl
def RHd.cells (x:RHd):List Value:=[.int .i64 x.r.k,.int .i64 x.r.t,.int .i64 x.r.v,.int .i64 x.m,.int .i64 x.c]
theorem zcV (h:RHd):h.cells.length = 5:=rfl
theorem zkK (x:RHd):∀ v ∈ x.cells,v.oneCell' = true:=by
 intro v hv;simp only [RHd.cells,List.mem_cons,List.not_mem_nil,or_false] at hv;rcases hv with rfl | rfl | rfl | rfl | rfl <;> rfl
def JRow (w:World) (base:Nat) (v:Value) (l:List RHd):Prop:=w.ownsRow base 118 5 v l.length (l.flatMap RHd.cells)
theorem znn:(Tryz.prog.info? 118).map (fun i=>(i.zero,i.size,i.bytes)) = some (some (.agg #[.int .i64 0,.int .i64 0,.int .i64 0,.int .i64 0,.int .i64 0]),5,40):=by kernel_rfl
theorem zbu (W:World) (base nb c:Nat) (v:Value) (acc:List RHd) (x:RHd) (ty:TypeId) (hown:JRow W base v acc) (hx:∀ j u,x.cells[j]? = some u -> W.cell? ⟨nb,j,none⟩ = some u) (hl:acc.length < 1000000) (hb:base <= W.heap.size) :
 ∃ v' w',(Builtin.append_ #[62,62] ty #[v,.slice (some ⟨nb,0,none⟩) 1 c]).run Tryz.prog W = .ok v' w' /\ JRow w' base v' (acc ++ [x]) /\ ExtR v.ownBlock W w' /\ (v'.ownBlock = v.ownBlock \/ ∃ k,v'.ownBlock = some k /\ W.heap.size <= k) :=
 zb8 zcV zkK 62 _ 40 znn rfl (by decide) Tryz.underlying62 (by decide) W base nb c v acc x ty hown hx hl hb
theorem zct (W:World) (base bs:Nat) (v s:Value) (acc xs:List RHd) (ty:TypeId) (hown:JRow W base v acc) (hs:JRow W bs s xs) (hl:acc.length + xs.length < 1000000) (hb:base <= W.heap.size) :
 ∃ v' w',(Builtin.append_ #[62,62] ty #[v,s]).run Tryz.prog W = .ok v' w' /\ JRow w' base v' (acc ++ xs) /\ ExtR v.ownBlock W w' /\ (v'.ownBlock = v.ownBlock \/ ∃ k,v'.ownBlock = some k /\ W.heap.size <= k) :=
 zcK zcV zkK 62 _ 40 znn rfl (by decide) Tryz.underlying62 (by decide) W base bs v s acc xs ty hown hs hl hb
theorem zd2 {W:World} {N nb:Nat} (h:W.heap[nb]? = some (.cells #[] 118 (0,0))) (hN:N <= nb):JRow W N (.slice (some ⟨nb,0,none⟩) 0 0) [] :=
 ⟨rfl,.inr ⟨nb,0,#[],rfl,hN,h,Nat.le_refl _,Nat.zero_le _,rfl,rfl⟩⟩
theorem zcc {N:Nat} {R:Option Nat} {W W':World} (h:ExtR R W W') (hR:∀ k,R = some k -> N <= k):ExtF N W W':=h.mono (fun k _ e=>hR k e)
theorem JRow.ext {w w':World} {b:Nat} {v:Value} {hs:List RHd} {M:Nat -> Prop} (h:JRow w b v hs) (hx:ExtM M w w') (hM:∀ k,v.ownBlock = some k -> ¬ M k):JRow w' b v hs:=zag h hx hM
theorem JRow.extF {w w':World} {b:Nat} {v:Value} {hs:List RHd} (h:JRow w b v hs) (hx:Ext w w'):JRow w' b v hs:=zag h hx (fun _ _ h=>h)
theorem ziv {w:World} {N:Nat} {v:Value} {hs:List RHd} (h:JRow w N v hs):∀ k,v.ownBlock = some k -> N <= k:=fun k hk=>(zaf h k hk).1
theorem zk3 (W:World) (o:Obj):(W.alloc o).heap[W.heap.size]? = some o:=heap_alloc_new W o
theorem zjW (W:World) (o o':Obj):((W.alloc o).alloc o').heap[W.heap.size]? = some o:=(heap_alloc_old _ _ (by simp)).trans (heap_alloc_new W o)
theorem zjD (W:World) (o o':Obj):((W.alloc o').alloc o).heap[W.heap.size + 1]? = some o:=by
 have:=heap_alloc_new (W.alloc o') o
 simpa using this
theorem zc7 {a b:Nat} (h:a ≠ b):¬ (Value.slice (some ⟨a,0,none⟩) 0 0).ownBlock = some b:=fun e=>h (Option.some.inj e)
theorem newA (W:World) (x:RHd):∀ j u,x.cells[j]? = some u -> (W.alloc (.cells #[.int .i64 x.r.k,.int .i64 x.r.t,.int .i64 x.r.v,.int .i64 x.m,.int .i64 x.c] 118)).cell? ⟨W.heap.size,j,none⟩ = some u:=fun j u hj =>
 (World.cell?_alloc_at _ _ _ j rfl).trans (by simpa [RHd.cells] using hj)
theorem newB (W:World) (o:Obj) (x:RHd):∀ j u,x.cells[j]? = some u -> ((W.alloc o).alloc (.cells #[.int .i64 x.r.k,.int .i64 x.r.t,.int .i64 x.r.v,.int .i64 x.m,.int .i64 x.c] 118)).cell? ⟨W.heap.size + 1,j,none⟩ = some u:=fun j u hj =>
 (World.cell?_alloc_at _ _ _ j (by simp)).trans (by simpa [RHd.cells] using hj)
theorem newC (W:World) (o:Obj) (x:RHd):∀ j u,x.cells[j]? = some u -> ((W.alloc (.cells #[.int .i64 x.r.k,.int .i64 x.r.t,.int .i64 x.r.v,.int .i64 x.m,.int .i64 x.c] 118)).alloc o).cell? ⟨W.heap.size,j,none⟩ = some u:=fun j u hj =>
 (World.cell?_alloc_past _ _ _ (by simp)).trans (newA W x j u hj)
theorem zoe (W:World) (o:Obj) (x:RHd):∀ j u,x.cells[j]? = some u -> ((W.alloc o).alloc (.cells #[.int .i64 x.r.k,.int .i64 x.r.t,.int .i64 x.r.v,.int .i64 x.m,.int .i64 x.c] 118)).drew.cell? ⟨W.heap.size + 1,j,none⟩ = some u:=newB W o x
theorem znI (W:World) (o:Obj) (x:RHd):∀ j u,x.cells[j]? = some u -> ((W.alloc (.cells #[.int .i64 x.r.k,.int .i64 x.r.t,.int .i64 x.r.v,.int .i64 x.m,.int .i64 x.c] 118)).alloc o).drew.cell? ⟨W.heap.size,j,none⟩ = some u:=newC W o x
theorem zbU {W W':World} {R:Option Nat} {nb:Nat} {x:RHd} (h:∀ j u,x.cells[j]? = some u -> W.cell? ⟨nb,j,none⟩ = some u) (hx:ExtR R W W') (hne:¬ R = some nb):∀ j u,x.cells[j]? = some u -> W'.cell? ⟨nb,j,none⟩ = some u:=fun j u hj=>by
 have h0:=h j u hj;have hlt:nb < W.heap.size:=by
  unfold World.cell? at h0;split at h0
  . rename_i hb;exact (Array.getElem?_eq_some_iff.1 hb).1
  . cases h0
 exact (ExtM.cell hx (p:=⟨nb,j,none⟩) hlt hne).trans h0
structure RJ (w:World) (J s:Nat) (v:Value) (L:List RHd) (came:Int):Prop where
 hs:s < 2
 c3:w.cell? ⟨J,3 + s,none⟩ = some v
 c8:w.cell? ⟨J,8,none⟩ = some (.int .i64 came)
 f3:∀ o,w.frozen? ⟨J,o,none⟩ = false
 row:JRow w 0 v L
 own:v.ownBlock ≠ some J
theorem znz {w W1 w18:World} {J s:Nat} {v18:Value} {L:List RHd} {came:Int} (hs:s < 2) (hx1:ExtM (fun k=>k = J) w W1) (d8:W1.cell? ⟨J,8,none⟩ = some (.int .i64 came)) (fz1:∀ o,W1.frozen? ⟨J,o,none⟩ = false) (hcell:∀ o,o ≠ 8 -> W1.cell? ⟨J,o,none⟩ = w.cell? ⟨J,o,none⟩)
 {v:Value} (hd3:W1.cell? ⟨J,3 + s,none⟩ = some v) (_:J < w.heap.size) (hJ1:J < W1.heap.size) (hN1:w.heap.size < W1.heap.size) (X18:ExtF W1.heap.size W1 w18) {x:RHd} (o18:JRow w18 W1.heap.size v18 (L ++ [x])) :
 ExtM (fun k=>k = J) w (w18.setCell ⟨J,3 + s,none⟩ v18) /\ ∃ v',RJ (w18.setCell ⟨J,3 + s,none⟩ v18) J s v' (L ++ [x]) came /\ (∃ k,v'.ownBlock = some k /\ w.heap.size <= k) /\ ∀ o,o ≠ 3 + s -> o ≠ 8 -> (w18.setCell ⟨J,3 + s,none⟩ v18).cell? ⟨J,o,none⟩ = w.cell? ⟨J,o,none⟩:=by
 have hc:=fun o=>X18.rules.1 J o hJ1 hJ1;have hf:=fun o=>X18.rules.2 J o hJ1 hJ1;have hx18:ExtM (fun k=>k = J) w w18:=hx1.fresh X18 (fun k hk e=>by omega);have hge:=ziv o18;obtain ⟨k,hk⟩:∃ k,v18.ownBlock = some k:=by
  rcases zbJ o18 with ⟨-,h0⟩ | ⟨g,cap,f,rfl,-⟩
  . simp at h0
  . exact ⟨g,rfl⟩
 have hkw:=hge k hk;have hex:∃ u,w18.cell? ⟨J,3 + s,none⟩ = some u:=by
  exact ⟨_,(hc _).trans hd3⟩
 obtain ⟨u,hu⟩:=hex;refine ⟨ExtM.setCell (p:=⟨J,3 + s,none⟩) hx18 (.inr rfl) _,v18,⟨hs,World.cell?_setCell_same _ _ _ hu,?_,fun o=>?_,?_,fun e=>?_⟩,⟨k,hk,by omega⟩,fun o ho ho8=>?_⟩
 . rw [World.cell?_setCell_other _ _ _ _ (fun e=>by injection e with _ e _;omega)];exact (hc 8).trans d8
 . rw [World.frozen?_setCell];exact (hf o).trans (fz1 o)
 . exact JRow.ext (zak o18 (Nat.zero_le _):JRow w18 0 v18 (L ++ [x])) (ExtM.setCell (M:=fun k=>k = J) (ExtM.refl w18) (p:=⟨J,3 + s,none⟩) (.inr rfl) v18) (fun k' hk' e=>by rw [hk] at hk';have:=Option.some.inj hk';omega)
 . rw [hk] at e
   have:=Option.some.inj e
   omega
 . rw [World.cell?_setCell_other _ _ _ _ (fun e=>ho (by injection e with _ e _;exact e.symm))];exact (hc o).trans (hcell o ho8)
theorem zpC (J s:Nat) (v:Value) (L:List RHd) (came k t q m:Int) (w:World) (h:RJ w J s v L came) (hl:L.length < 1000) (hc:0 <= came /\ came < 1000000) :
 Calls Tryz.prog 78 #[.pointer (some ⟨J,0,none⟩),.int .i64 (s:Int),.agg #[.int .i64 k,.int .i64 t,.int .i64 q],.int .i64 m] w fun e w'=>e = .returned (.tuple #[]) /\ ExtM (fun k=>k = J) w w' /\
  ∃ v',RJ w' J s v' (L ++ [⟨⟨k,t,q⟩,m,came + 1⟩]) (came + 1) /\ (∃ k,v'.ownBlock = some k /\ w.heap.size <= k) /\ ∀ o,o ≠ 3 + s -> o ≠ 8 -> w'.cell? ⟨J,o,none⟩ = w.cell? ⟨J,o,none⟩:=by
 obtain ⟨hs,c3,c8,f3,row,own⟩:=h;have hJ:J < w.heap.size:=by
  unfold World.cell? at c8;split at c8
  . rename_i hb;exact (Array.getElem?_eq_some_iff.1 hb).1
  . cases c8
 have hw1:IntKind.i64.wrap (came + 1) = came + 1:=by rw [IntKind.wrap_i64];omega
 have hfz:=f3;go_enter Tryz.func78,Tryz.ntmps78;go_wp2_with fail;have hx1:ExtM (fun k=>k = J) w ((w.setCell ⟨J,8,none⟩ (.int .i64 (came + 1))).alloc (.cells #[.int .i64 k,.int .i64 t,.int .i64 q] 37)):=ExtM.alloc (ExtM.setCell (M:=fun k=>k = J) (ExtM.refl w) (p:=⟨J,8,none⟩) (.inr rfl) _) _;have d8:((w.setCell ⟨J,8,none⟩ (.int .i64 (came + 1))).alloc (.cells #[.int .i64 k,.int .i64 t,.int .i64 q] 37)).cell? ⟨J,8,none⟩ = some (.int .i64 (came + 1)):=by go_simp
 have hcell:∀ o,o ≠ 8 -> ((w.setCell ⟨J,8,none⟩ (.int .i64 (came + 1))).alloc (.cells #[.int .i64 k,.int .i64 t,.int .i64 q] 37)).cell? ⟨J,o,none⟩ = w.cell? ⟨J,o,none⟩:=fun o ho=>by
  rw [World.cell?_alloc_past _ _ _ (by rw [World.size_setCell];exact hJ),World.cell?_setCell_other _ _ _ _ (fun e=>ho (by injection e with _ e _;exact e.symm))]
 have fz1:∀ o,((w.setCell ⟨J,8,none⟩ (.int .i64 (came + 1))).alloc (.cells #[.int .i64 k,.int .i64 t,.int .i64 q] 37)).frozen? ⟨J,o,none⟩ = false:=fun o=>by
  rw [World.frozen?_alloc_past _ _ _ (by rw [World.size_setCell];exact hJ),World.frozen?_setCell];exact f3 o
 have b0:((w.setCell ⟨J,8,none⟩ (.int .i64 (came + 1))).alloc (.cells #[.int .i64 k,.int .i64 t,.int .i64 q] 37)).cell? ⟨w.heap.size,0,none⟩ = some (.int .i64 k):=by go_simp
 have b1:((w.setCell ⟨J,8,none⟩ (.int .i64 (came + 1))).alloc (.cells #[.int .i64 k,.int .i64 t,.int .i64 q] 37)).cell? ⟨w.heap.size,1,none⟩ = some (.int .i64 t):=by go_simp
 have b2:((w.setCell ⟨J,8,none⟩ (.int .i64 (came + 1))).alloc (.cells #[.int .i64 k,.int .i64 t,.int .i64 q] 37)).cell? ⟨w.heap.size,2,none⟩ = some (.int .i64 q):=by go_simp
 have hN1:w.heap.size < ((w.setCell ⟨J,8,none⟩ (.int .i64 (came + 1))).alloc (.cells #[.int .i64 k,.int .i64 t,.int .i64 q] 37)).heap.size:=by simp
 generalize (w.setCell ⟨J,8,none⟩ (.int .i64 (came + 1))).alloc (.cells #[.int .i64 k,.int .i64 t,.int .i64 q] 37) = W1 at *;have d3:W1.cell? ⟨J,3 + s,none⟩ = some v:=(hcell _ (by omega)).trans c3;have hJ1:J < W1.heap.size:=by omega
 have row1:JRow W1 0 v L:=row.ext hx1 (fun k hk e=>own (by rw [hk,e]));clear c3 c8 f3 hfz;refine Plan.bT (Plan.ExtF W1.heap.size) [22] 23 ?_;refine Plan.qs 12 [0,1,3,4,5,6,7,8,10,11,12,13] ?_;iterate 12 go_big_quiet_step (fail)
 refine Plan.qs 3 [14,15,16] ?_;iterate 3 go_big_quiet_step (fail)
 refine Plan.zaU 19 (by rfl) (by kernel_rfl) ?_;go_big_quiet_step (fail);refine wpQuiet_nil ?_;refine Plan.zaU 20 (by rfl) (by kernel_rfl) ?_;go_big_quiet_step (fail);refine wpQuiet_nil ?_;refine Plan.o2 2 17 (fun K hK=>?_) fun K hK=>?_
 focus
  go_wp2_with (fail);refine hK _ _ ((ExtM.refl _).alloc _) ?_;clear hK K;refine Plan.o2 9 17 (fun K hK=>?_) fun K hK=>?_
  focus
   refine zau (zct _ W1.heap.size 0 _ _ [] L _ (zd2 (by first | exact zk3 W1 _ | exact zjW W1 _ _ | exact zjD W1 _ _) (by simp)) (row1.extF (by first | exact ((ExtM.refl W1).drew.alloc _) | exact (((ExtM.refl W1).drew.alloc _).alloc _))) (by simp;omega) (by (try simp);(try omega))) _ _ rfl rfl rfl ?_;rintro v9 w9 ⟨o9,x9,l9⟩;have y9:=zcc (N:=W1.heap.size) x9 (by rintro _ ⟨rfl⟩;simp);refine hK _ _ (y9) ?_;simp only [Act.put,List.setIfInBounds_toArray,List.set_cons_succ,List.set_cons_zero];clear hK K;refine Plan.o1 17 fun K hK=>?_;go_wp2_with (fail);refine hK _ _ ((ExtM.refl _).alloc _) ?_;clear hK K;refine Plan.o1 18 fun K hK=>?_;refine zau (zbu _ W1.heap.size _ _ _ L ⟨⟨k,t,q⟩,m,came + 1⟩ _ (by first | exact o9 | exact o9.extF ((ExtM.refl w9).alloc _)) (by first | exact newA w9 ⟨⟨k,t,q⟩,m,came + 1⟩ | exact zbU (zoe W1 _ ⟨⟨k,t,q⟩,m,came + 1⟩) x9 (zc7 (by omega)) | exact zbU (znI W1 _ ⟨⟨k,t,q⟩,m,came + 1⟩) x9 (zc7 (by omega))) (by omega) (by have s9:=y9.size;simp at s9 ⊢;omega)) _ _ rfl rfl rfl ?_;rintro v18 w18 ⟨o18,x18,l18⟩;have y18:=zcc (N:=W1.heap.size) x18 (ziv o9);have X9:Plan.ExtF W1.heap.size W1 w9:=by first | exact ExtF.trans _ _ _ ((ExtF.refl W1).drew.alloc _) y9 | exact ExtF.trans _ _ _ (((ExtF.refl W1).drew.alloc _).alloc _) y9
   have X18:Plan.ExtF W1.heap.size W1 w18:=by first | exact ExtF.trans _ _ _ X9 y18 | exact ExtF.trans _ _ _ (X9.alloc _) y18
   have c18:=(X18.rules.1 J (3 + s) hJ1 hJ1).trans d3;have f18:=(X18.rules.2 J (3 + s) hJ1 hJ1).trans (fz1 _);obtain ⟨p18,q18,rfl,-⟩:=zaa o18;refine hK _ _ (y18) ?_;simp only [Act.put,List.setIfInBounds_toArray,List.set_cons_succ,List.set_cons_zero];clear hK K;refine Plan.o1 21 fun K hK=>?_;go_wp2_with (fail);refine hK _ _ (ExtM.refl _) ?_;clear hK K;refine Plan.ol 22 fun K hK=>?_;go_wp2_with (fail);refine Plan.dn ?_
  rotate_left
  focus
   go_wp2_with (fail);refine hK _ _ ((ExtM.refl _).alloc _) ?_;clear hK K;refine Plan.o1 9 fun K hK=>?_;refine zau (zct _ W1.heap.size 0 _ _ [] L _ (zd2 (by first | exact zk3 W1 _ | exact zjW W1 _ _ | exact zjD W1 _ _) (by simp)) (row1.extF (by first | exact ((ExtM.refl W1).drew.alloc _) | exact (((ExtM.refl W1).drew.alloc _).alloc _))) (by simp;omega) (by (try simp);(try omega))) _ _ rfl rfl rfl ?_;rintro v9 w9 ⟨o9,x9,l9⟩;have y9:=zcc (N:=W1.heap.size) x9 (by rintro _ ⟨rfl⟩;simp);refine hK _ _ (y9) ?_;simp only [Act.put,List.setIfInBounds_toArray,List.set_cons_succ,List.set_cons_zero];clear hK K;refine Plan.o1 18 fun K hK=>?_;refine zau (zbu _ W1.heap.size _ _ _ L ⟨⟨k,t,q⟩,m,came + 1⟩ _ (by first | exact o9 | exact o9.extF ((ExtM.refl w9).alloc _)) (by first | exact newA w9 ⟨⟨k,t,q⟩,m,came + 1⟩ | exact zbU (zoe W1 _ ⟨⟨k,t,q⟩,m,came + 1⟩) x9 (zc7 (by omega)) | exact zbU (znI W1 _ ⟨⟨k,t,q⟩,m,came + 1⟩) x9 (zc7 (by omega))) (by omega) (by have s9:=y9.size;simp at s9 ⊢;omega)) _ _ rfl rfl rfl ?_;rintro v18 w18 ⟨o18,x18,l18⟩;have y18:=zcc (N:=W1.heap.size) x18 (ziv o9);have X9:Plan.ExtF W1.heap.size W1 w9:=by first | exact ExtF.trans _ _ _ ((ExtF.refl W1).drew.alloc _) y9 | exact ExtF.trans _ _ _ (((ExtF.refl W1).drew.alloc _).alloc _) y9
   have X18:Plan.ExtF W1.heap.size W1 w18:=by first | exact ExtF.trans _ _ _ X9 y18 | exact ExtF.trans _ _ _ (X9.alloc _) y18
   have c18:=(X18.rules.1 J (3 + s) hJ1 hJ1).trans d3;have f18:=(X18.rules.2 J (3 + s) hJ1 hJ1).trans (fz1 _);obtain ⟨p18,q18,rfl,-⟩:=zaa o18;refine hK _ _ (y18) ?_;simp only [Act.put,List.setIfInBounds_toArray,List.set_cons_succ,List.set_cons_zero];clear hK K;refine Plan.o1 21 fun K hK=>?_;go_wp2_with (fail);refine hK _ _ (ExtM.refl _) ?_;clear hK K;refine Plan.ol 22 fun K hK=>?_;go_wp2_with (fail);refine Plan.dn ?_
 rotate_left 2
 focus
  go_wp2_with (fail);refine hK _ _ ((ExtM.refl _).alloc _) ?_;clear hK K;refine Plan.o1 2 fun K hK=>?_;go_wp2_with (fail);refine hK _ _ ((ExtM.refl _).alloc _) ?_;clear hK K;refine Plan.o1 9 fun K hK=>?_;refine zau (zct _ W1.heap.size 0 _ _ [] L _ (zd2 (by first | exact zk3 W1 _ | exact zjW W1 _ _ | exact zjD W1 _ _) (by simp)) (row1.extF (by first | exact ((ExtM.refl W1).drew.alloc _) | exact (((ExtM.refl W1).drew.alloc _).alloc _))) (by simp;omega) (by (try simp);(try omega))) _ _ rfl rfl rfl ?_;rintro v9 w9 ⟨o9,x9,l9⟩;have y9:=zcc (N:=W1.heap.size) x9 (by rintro _ ⟨rfl⟩;simp);refine hK _ _ (y9) ?_;simp only [Act.put,List.setIfInBounds_toArray,List.set_cons_succ,List.set_cons_zero];clear hK K;refine Plan.o1 18 fun K hK=>?_;refine zau (zbu _ W1.heap.size _ _ _ L ⟨⟨k,t,q⟩,m,came + 1⟩ _ (by first | exact o9 | exact o9.extF ((ExtM.refl w9).alloc _)) (by first | exact newA w9 ⟨⟨k,t,q⟩,m,came + 1⟩ | exact zbU (zoe W1 _ ⟨⟨k,t,q⟩,m,came + 1⟩) x9 (zc7 (by omega)) | exact zbU (znI W1 _ ⟨⟨k,t,q⟩,m,came + 1⟩) x9 (zc7 (by omega))) (by omega) (by have s9:=y9.size;simp at s9 ⊢;omega)) _ _ rfl rfl rfl ?_;rintro v18 w18 ⟨o18,x18,l18⟩;have y18:=zcc (N:=W1.heap.size) x18 (ziv o9);have X9:Plan.ExtF W1.heap.size W1 w9:=by first | exact ExtF.trans _ _ _ ((ExtF.refl W1).drew.alloc _) y9 | exact ExtF.trans _ _ _ (((ExtF.refl W1).drew.alloc _).alloc _) y9
  have X18:Plan.ExtF W1.heap.size W1 w18:=by first | exact ExtF.trans _ _ _ X9 y18 | exact ExtF.trans _ _ _ (X9.alloc _) y18
  have c18:=(X18.rules.1 J (3 + s) hJ1 hJ1).trans d3;have f18:=(X18.rules.2 J (3 + s) hJ1 hJ1).trans (fz1 _);obtain ⟨p18,q18,rfl,-⟩:=zaa o18;refine hK _ _ (y18) ?_;simp only [Act.put,List.setIfInBounds_toArray,List.set_cons_succ,List.set_cons_zero];clear hK K;refine Plan.o1 21 fun K hK=>?_;go_wp2_with (fail);refine hK _ _ (ExtM.refl _) ?_;clear hK K;refine Plan.ol 22 fun K hK=>?_;go_wp2_with (fail);refine Plan.dn ?_
 all_goals
  go_end0;simp only [List.length_append,List.length_singleton] at o18;exact ⟨rfl,znz hs hx1 d8 fz1 hcell d3 hJ hJ1 hN1 X18 o18⟩
def putL (L:List RHd) (x:Hd) (came:Int):List RHd:=if addE (L.map RHd.hd) x = 0 then L ++ [⟨x.r,x.m,came + 1⟩] else L
def putN (L:List RHd) (x:Hd) (came:Int):Int:=if addE (L.map RHd.hd) x = 0 then came + 1 else came
structure RJUp (w w':World) (J s:Nat) (v:Value) (L':List RHd) (came':Int):Prop where
 is:∃ v',RJ w' J s v' L' came' /\ (v'.ownBlock = v.ownBlock \/ ∃ k,v'.ownBlock = some k /\ w.heap.size <= k)
 ext:ExtM (fun k=>k = J) w w'
 cell:∀ o,o ≠ 3 + s -> o ≠ 8 -> w'.cell? ⟨J,o,none⟩ = w.cell? ⟨J,o,none⟩
theorem RJ.lt {w:World} {J s:Nat} {v:Value} {L:List RHd} {came:Int} (h:RJ w J s v L came):J < w.heap.size:=by
 have:=h.c8
 unfold World.cell? at this;split at this
 . rename_i hb;exact (Array.getElem?_eq_some_iff.1 hb).1
 . cases this
theorem RJ.ext {w w':World} {J s:Nat} {v:Value} {L:List RHd} {came:Int} (h:RJ w J s v L came) (hx:Ext w w'):RJ w' J s v L came :=
 ⟨h.hs,(hx.cell (p:=⟨J,_,none⟩) h.lt id).trans h.c3,(hx.cell (p:=⟨J,_,none⟩) h.lt id).trans h.c8,fun o=>(hx.frozen (p:=⟨J,o,none⟩) h.lt id).trans (h.f3 o),h.row.extF hx,h.own⟩
theorem RJUp.same {w w':World} {J s:Nat} {v:Value} {L:List RHd} {came:Int} (h:RJ w J s v L came) (hx:Ext w w'):RJUp w w' J s v L came :=
 ⟨⟨v,h.ext hx,.inl rfl⟩,hx.mono (fun _ _ h=>h.elim),fun o _ _=>hx.cell (p:=⟨J,o,none⟩) h.lt id⟩
theorem JRow.slice {w:World} {b:Nat} {v:Value} {L:List RHd} (h:JRow w b v L):∃ p cap,v = .slice p L.length cap:=by
 obtain ⟨p,cap,e,-⟩:=zaa h;exact ⟨p,cap,e⟩
theorem zqW (J s:Nat) (v:Value) (L:List RHd) (came k t q m:Int) (w:World) (h:RJ w J s v L came) (hb:(za3 k t q && decide (0 <= m)) = false) :
 Calls Tryz.prog 33 #[.pointer (some ⟨J,0,none⟩),.int .i64 (s:Int),.agg #[.int .i64 k,.int .i64 t,.int .i64 q],.int .i64 m] w fun e w'=>e = .returned (.int .i64 1) /\ RJUp w w' J s v L came:=by
 have hin:decide ((0:Int) <= (s:Int) /\ (s:Int) <= 1) = true:=by simp;have:=h.hs;omega
 have hs2:=h.hs;have hx0:Ext w (w.alloc (.cells #[.int .i64 k,.int .i64 t,.int .i64 q] 37)):=(ExtM.refl w).alloc _;cases hg:za3 k t q with
 | false =>
   go_enter Tryz.func33,Tryz.ntmps33
   go_wp2_with (first
    | (go_at_call 50;refine (zdC _ _ _ _).mono ?_;rintro e w1 ⟨rfl,rfl⟩;rw [hin])
    | (go_at_call 36;refine (zlk _ _ _ _).mono ?_;rintro e w1 ⟨rfl,hx⟩;rw [hg]))
   go_ret;exact ⟨rfl,RJUp.same h (ExtM.trans _ _ _ hx0 hx)⟩
 | true =>
   have hd1:decide (m < 0) = true:=by
    rw [hg] at hb;simp at hb ⊢;omega
   go_enter Tryz.func33,Tryz.ntmps33
   go_wp2_with (first
    | (go_at_call 50;refine (zdC _ _ _ _).mono ?_;rintro e w1 ⟨rfl,rfl⟩;rw [hin])
    | (go_at_call 36;refine (zlk _ _ _ _).mono ?_;rintro e w1 ⟨rfl,hx⟩;rw [hg]))
   go_ret;exact ⟨rfl,RJUp.same h (ExtM.trans _ _ _ hx0 hx)⟩
theorem zqI (J s:Nat) (v:Value) (L:List RHd) (came k t q m:Int) (w:World) (h:RJ w J s v L came) (hg:za3 k t q = true) (hm:0 <= m) (hl:300 <= L.length) :
 Calls Tryz.prog 33 #[.pointer (some ⟨J,0,none⟩),.int .i64 (s:Int),.agg #[.int .i64 k,.int .i64 t,.int .i64 q],.int .i64 m] w fun e w'=>e = .returned (.int .i64 12) /\ RJUp w w' J s v L came:=by
 have hin:decide ((0:Int) <= (s:Int) /\ (s:Int) <= 1) = true:=by simp;have:=h.hs;omega
 have hs2:=h.hs;have hx0:Ext w (w.alloc (.cells #[.int .i64 k,.int .i64 t,.int .i64 q] 37)):=(ExtM.refl w).alloc _;have hd1:decide (m < 0) = false:=by simp;omega
 have hd2:decide ((300:Int) <= (L.length:Int)) = true:=by simp;omega
 obtain ⟨p,cap,rfl⟩:=h.row.slice;have h0:=h;clear h;go_enter Tryz.func33,Tryz.ntmps33
 go_wp2_with (first
  | (go_at_call 50;refine (zdC _ _ _ _).mono ?_;rintro e w1 ⟨rfl,rfl⟩;rw [hin])
  | (go_at_call 36;refine (zlk _ _ _ _).mono ?_;rintro e w1 ⟨rfl,hx⟩;rw [hg];have c1:=((h0.ext hx0).ext hx).c3))
 go_ret;exact ⟨rfl,RJUp.same h0 (ExtM.trans _ _ _ hx0 hx)⟩
theorem zr3 (J s:Nat) (v:Value) (L:List RHd) (came k t q m:Int) (w:World) (h:RJ w J s v L came) (hg:za3 k t q = true) (hm:0 <= m) (hl:L.length < 300) (hc:0 <= came /\ came < 1000000) :
 Calls Tryz.prog 33 #[.pointer (some ⟨J,0,none⟩),.int .i64 (s:Int),.agg #[.int .i64 k,.int .i64 t,.int .i64 q],.int .i64 m] w fun e w'=>e = .returned (.int .i64 0) /\ RJUp w w' J s v (L ++ [⟨⟨k,t,q⟩,m,came + 1⟩]) (came + 1):=by
 have hin:decide ((0:Int) <= (s:Int) /\ (s:Int) <= 1) = true:=by simp;have:=h.hs;omega
 have hs2:=h.hs;have hx0:Ext w (w.alloc (.cells #[.int .i64 k,.int .i64 t,.int .i64 q] 37)):=(ExtM.refl w).alloc _;have hd1:decide (m < 0) = false:=by simp;omega
 have hd2:decide ((300:Int) <= (L.length:Int)) = false:=by simp;omega
 obtain ⟨p,cap,rfl⟩:=h.row.slice;have h0:=h;have hlt:=h.lt;clear h;go_enter Tryz.func33,Tryz.ntmps33
 go_wp2_with (first
  | (go_at_call 50;refine (zdC _ _ _ _).mono ?_;rintro e w1 ⟨rfl,rfl⟩;rw [hin])
  | (go_at_call 36
     refine (zlk _ _ _ _).mono ?_;rintro e w1 ⟨rfl,hx⟩;rw [hg];have h1:=(h0.ext hx0).ext hx;have hxx:Ext w w1:=ExtM.trans _ _ _ hx0 hx;have c1:=h1.c3;have b0:w1.cell? ⟨w.heap.size,0,none⟩ = some (.int .i64 k):=(hx.rules.1 _ _ (by simp)).trans (by go_simp);have b1:w1.cell? ⟨w.heap.size,1,none⟩ = some (.int .i64 t):=(hx.rules.1 _ _ (by simp)).trans (by go_simp);have b2:w1.cell? ⟨w.heap.size,2,none⟩ = some (.int .i64 q):=(hx.rules.1 _ _ (by simp)).trans (by go_simp)
     clear hx)
  | (go_at_call 78
     refine (zpC J s _ L came k t q m _ h1 (by omega) hc).mono ?_
     rintro e w2 ⟨rfl,hx2,v',hr,⟨k',hk',hk2⟩,hce⟩))
 go_ret;have hsz:=hxx.size;exact ⟨rfl,⟨⟨v',hr,.inr ⟨k',hk',by omega⟩⟩,ExtM.trans _ _ _ (hxx.mono (fun _ _ h=>h.elim)) hx2,fun o ho1 ho2=>(hce o ho1 ho2).trans (hxx.cell (p:=⟨J,o,none⟩) hlt id)⟩⟩
theorem zrB (J s:Nat) (v:Value) (L:List RHd) (came:Int) (x:Hd) (w:World) (h:RJ w J s v L came) (hc:0 <= came /\ came < 1000000) :
 Calls Tryz.prog 33 #[.pointer (some ⟨J,0,none⟩),.int .i64 (s:Int),.agg #[.int .i64 x.r.k,.int .i64 x.r.t,.int .i64 x.r.v],.int .i64 x.m] w fun e w'=>e = .returned (.int .i64 (addE (L.map RHd.hd) x)) /\ RJUp w w' J s v (putL L x came) (putN L x came):=by
 unfold putL putN addE;rw [List.length_map];split
 . rename_i hb;exact zqW J s v L came _ _ _ _ w h hb
 . rename_i hb;have hg:za3 x.r.k x.r.t x.r.v = true /\ 0 <= x.m:=by simpa using hb
   split
   . rename_i hf;exact zqI J s v L came _ _ _ _ w h hg.1 hg.2 hf
   . rename_i hf;exact zr3 J s v L came _ _ _ _ w h hg.1 hg.2 (by omega) hc
open Go.RowKit Go.Plan Go.Sort
instance:Inhabited RHd:=⟨⟨⟨0,0,0⟩,0,0⟩⟩
def ltRB (a b:RHd):Bool:=decide (ordI [a.r.k,a.r.t,a.c] [b.r.k,b.r.t,b.c] < 0)
theorem zhW (a b:RHd):ltRB a b = true ↔ ltR a b:=by
 unfold ltRB ltR ordI ordI ordI ordI;simp only [decide_eq_true_eq];split
 . simp;omega
 . split
   . simp;omega
   . split
     . simp;omega
     . split
       . simp;omega
       . split
         . simp;omega
         . split
           . simp;omega
           . simp;omega
theorem zdz (a b:RHd):ltRB a b = false ↔ ¬ ltR a b:=by
 rw [<- zhW];simp
theorem znZ:SWO ltRB:=by
 refine ⟨fun x=>?_,fun x y z h1 h2=>?_,fun x y z h1 h2=>?_⟩
 . rw [zdz];exact zeN x
 . rw [zhW] at *;exact zgS h1 h2
 . rw [zdz] at *;unfold ltR at *;omega
theorem zbh {w:World} {v:Value} {L:List RHd} (h:JRow w 0 v L) (x:Nat) (hx:x < L.length) :
 ∃ g cap,v = .slice (some ⟨g,0,none⟩) L.length cap /\ g < w.heap.size /\ w.cell? ⟨g,x * 5,none⟩ = some (.int .i64 L[x]!.r.k) /\ w.cell? ⟨g,x * 5 + 1,none⟩ = some (.int .i64 L[x]!.r.t) /\ w.cell? ⟨g,x * 5 + 2,none⟩ = some (.int .i64 L[x]!.r.v) /\ w.cell? ⟨g,x * 5 + 3,none⟩ = some (.int .i64 L[x]!.m) /\ w.cell? ⟨g,x * 5 + 4,none⟩ = some (.int .i64 L[x]!.c):=by
 have e:L[x]! = L[x]:=getElem!_pos L x hx;rw [e];obtain ⟨g,cap,rfl,hg,h0,-⟩:=zaJ (enc:=RHd.cells) zcV h x 0 hx (by omega);have hh:=fun c (hc:c < 5)=>zaJ (enc:=RHd.cells) zcV h x c hx hc;have hk:∀ c,c < 5 -> w.cell? ⟨g,x * 5 + c,none⟩ = (L[x].cells)[c]?:=fun c hc=>by
  obtain ⟨g',cap',e1,-,e2,-⟩:=hh c hc;simp only [Value.slice.injEq,Option.some.injEq,Addr.mk.injEq,and_true,true_and] at e1;rw [e1.1];exact e2
 exact ⟨g,cap,rfl,hg,hk 0 (by omega),hk 1 (by omega),hk 2 (by omega),hk 3 (by omega),hk 4 (by omega)⟩
theorem zhb {w u v:World} (hu:Ext w u) (hv:Ext w v) (hs:u.heap.size <= v.heap.size):ExtF w.heap.size u v :=
 ⟨hv.os.trans hu.os.symm,hv.tape.trans hu.tape.symm,hv.output.trans hu.output.symm,hs,fun k _ hk=>(hv.block k (by omega) id).trans (hu.block k (by omega) id).symm⟩
theorem zfY (J s bj bs bl blk n cap i j x y:Nat) (v:Value) (L:List RHd) (w:World) (hs:s < 2) (h1:w.cell? ⟨bj,0,none⟩ = some (.pointer (some ⟨J,0,none⟩))) (h2:w.cell? ⟨bs,0,none⟩ = some (.int .i64 s)) (h3:w.cell? ⟨bl,0,none⟩ = some (.slice (some ⟨blk,0,none⟩) n cap))
 (h4:w.cell? ⟨J,3 + s,none⟩ = some v) (row:JRow w 0 v L) (hi:i < n) (hj:j < n) (ci:w.cell? ⟨blk,i,none⟩ = some (.int .i64 x)) (cj:w.cell? ⟨blk,j,none⟩ = some (.int .i64 y)) (hx:x < L.length) (hy:y < L.length) :
 Calls Tryz.prog 109 #[.int .i64 i,.int .i64 j,.pointer (some ⟨bj,0,none⟩),.pointer (some ⟨bs,0,none⟩),.pointer (some ⟨bl,0,none⟩)] w fun e w'=>e = .returned (.bool (ltRB L[x]! L[y]!)) /\ Ext w w':=by
 obtain ⟨g,rc,rfl,hg,x0,x1,x2,x3,x4⟩:=zbh row x hx;obtain ⟨g',rc',e',-,y0,y1,y2,y3,y4⟩:=zbh row y hy;simp only [Value.slice.injEq,Option.some.injEq,Addr.mk.injEq,and_true,true_and] at e';obtain ⟨rfl,rfl⟩:=e';have lt_of:∀ {b o u},w.cell? ⟨b,o,none⟩ = some u -> b < w.heap.size:=fun {b o u} h=>by
  unfold World.cell? at h;split at h
  . rename_i hb;exact (Array.getElem?_eq_some_iff.1 hb).1
  . cases h
 have l1:=lt_of h1;have l2:=lt_of h2;have l3:=lt_of h3;have l4:=lt_of h4;have l5:=lt_of ci;unfold ltRB;generalize L[x]! = X at *;generalize L[y]! = Y at *;go_enter Tryz.func109,Tryz.ntmps109;go_wp2_with fail;refine Plan.bT (Plan.ExtF w.heap.size) [27] 28 ?_;refine Plan.qs 12 [0,1,2,3,4,5,6,7,8,9,10,11] ?_;iterate 12 go_big_quiet_step (fail)
 refine Plan.qs 12 [12,13,14,15,16,17,18,19,20,21,22,23] ?_;iterate 12 go_big_quiet_step (fail)
 refine Plan.o2 24 25 (fun K hK=>?_) fun K hK=>?_
 focus
  go_wp2_with (fail);refine hK _ _ ((ExtF.refl _).alloc _) ?_;clear hK K;refine Plan.o1 25 fun K hK=>?_;go_wp2_with (fail);refine hK _ _ ((ExtF.refl _).alloc _) ?_;clear hK K;refine Plan.o1 26 fun K hK=>?_;go_wp2_with (fail);refine hK _ _ (zhb (((ExtM.refl w).alloc _).alloc _).drew (((ExtM.refl w).alloc _).alloc _).drew (by simp)) ?_;clear hK K;refine Plan.ol 27 fun K hK=>?_;go_wp2_with (fail);refine Plan.dn ?_
 rotate_left
 focus
  go_wp2_with (fail);refine hK _ _ ((ExtF.refl _).alloc _) ?_;clear hK K;refine Plan.o1 24 fun K hK=>?_;go_wp2_with (fail);refine hK _ _ ((ExtF.refl _).alloc _) ?_;clear hK K;refine Plan.o1 26 fun K hK=>?_;go_wp2_with (fail);refine hK _ _ (zhb (((ExtM.refl w).alloc _).alloc _).drew (((ExtM.refl w).alloc _).alloc _).drew (by simp)) ?_;clear hK K;refine Plan.ol 27 fun K hK=>?_;go_wp2_with (fail);refine Plan.dn ?_
 all_goals
  go_wp2_with (
   go_at_call 110;refine (zkL [X.r.k,X.r.t,X.c] [Y.r.k,Y.r.t,Y.c] _ _ _ _ _ _ _ (fun i hi=>by match i,hi with | 0,_=>go_simp | 1,_=>go_simp | 2,_=>go_simp) (fun i hi=>by match i,hi with | 0,_=>go_simp | 1,_=>go_simp | 2,_=>go_simp) rfl (by simp)).mono ?_
   rintro e w' ⟨rfl,q,rfl⟩)
  go_ret;exact ⟨rfl,(((((ExtM.refl w).alloc _).alloc _).alloc _).alloc _).drewN _⟩
def zhv (x:Int):List Value:=[.int .i64 x]
theorem zgc (x:Int):(zhv x).length = 1:=rfl
theorem zkm (x:Int):∀ u ∈ zhv x,u.oneCell' = true:=fun u hu=>by
 rw [zhv,List.mem_singleton] at hu;subst hu;rfl
def zjy (w:World) (base:Nat) (v:Value) (l:List Int):Prop:=w.ownsRow base 3 1 v l.length (l.flatMap zhv)
theorem zoH:(Tryz.prog.info? 3).map (fun i=>(i.zero,i.size,i.bytes)) = some (some (.int .i64 0),1,8):=by kernel_rfl
theorem zg5 (W:World) (base nb c:Nat) (v:Value) (acc:List Int) (x:Int) (ty:TypeId) (hown:zjy W base v acc) (hx:W.cell? ⟨nb,0,none⟩ = some (.int .i64 x)) (hl:acc.length < 1000000) (hb:base <= W.heap.size) :
 ∃ v' w',(Builtin.append_ #[81,81] ty #[v,.slice (some ⟨nb,0,none⟩) 1 c]).run Tryz.prog W = .ok v' w' /\ zjy w' base v' (acc ++ [x]) /\ ExtR v.ownBlock W w' /\ (v'.ownBlock = v.ownBlock \/ ∃ k,v'.ownBlock = some k /\ W.heap.size <= k) :=
 zb8 zgc zkm 81 _ 8 zoH rfl (by decide) Tryz.underlying81 (by decide) W base nb c v acc x ty hown (fun j u hj=>by
  match j,hj with
  | 0,hj=>rw [hx];simpa [zhv] using hj
  | j + 1,hj=>simp [zhv] at hj) hl hb
theorem zjy.holds {w:World} {base blk cap n:Nat} {l:List Int} (h:zjy w base (.slice (some ⟨blk,0,none⟩) n cap) l):Holds (Value.int .i64) w blk 0 l.toArray /\ blk < w.heap.size:=by
 refine ⟨fun j hj=>?_,(zaf h blk rfl).2⟩;have hj':j < l.length:=by simpa using hj
 obtain ⟨g,c2,e2,hg,hc,hf⟩:=zaJ (enc:=zhv) zgc h j 0 hj' (by omega);simp only [Value.slice.injEq,Option.some.injEq,Addr.mk.injEq,and_true] at e2;obtain ⟨rfl,-⟩:=e2;rw [Nat.mul_one,Nat.add_zero] at hc hf;rw [Nat.zero_add];refine ⟨?_,hf⟩;rw [hc,getElem!_pos _ j hj];rfl
def zfj (L:List RHd) (is:List Nat):Prop:=is.Perm (List.range L.length) /\ (is.map (fun i=>L[i]!)).Pairwise (fun a b=>¬ ltR b a)
def ziR (L:List RHd) (w:World) (e:Ending) (w':World):Prop :=
 ∃ (p:Option Addr) (cap:Nat) (is:List Nat),e = .returned (.slice p L.length cap) /\ Ext w w' /\ zfj L is /\ is.length = L.length /\ (L = [] \/ ∃ b,p = some ⟨b,0,none⟩ /\ w.heap.size <= b /\ b < w'.heap.size /\ ∀ i,i < L.length -> w'.cell? ⟨b,i,none⟩ = some (.int .i64 (is[i]!:Nat)))
theorem zkQ {L:List RHd} {d':Array Int} (hp:PermIn 0 L.length ((List.range L.length).map Int.ofNat).toArray d') (hs:SortedIn (fun x y:Int=>ltRB L[x.toNat]! L[y.toNat]!) 0 L.length d'):zfj L (d'.toList.map Int.toNat) /\ ∀ i,i < L.length -> d'[i]! = (((d'.toList.map Int.toNat)[i]!:Nat):Int):=by
 have hsz:d'.size = L.length:=by rw [hp.1];simp
 have hperm:d'.toList.Perm ((List.range L.length).map Int.ofNat):=by
  have h:=hp.2.2;rw [show d'.extract 0 L.length = d' by rw [<- hsz];simp,show (((List.range L.length).map Int.ofNat).toArray).extract 0 L.length = ((List.range L.length).map Int.ofNat).toArray by simp [List.take_of_length_le]] at h;simpa using h
 refine ⟨⟨?_,?_⟩,fun i hi=>?_⟩
 . have:=hperm.map Int.toNat
   rw [List.map_map] at this;have e:(Int.toNat ∘ Int.ofNat) = id:=by funext x;simp
   rw [e,List.map_id] at this;exact this
 . rw [List.map_map,List.pairwise_map,List.pairwise_iff_getElem];intro i j hi hj hij;have h:=hs i j (Nat.zero_le _) hij (by rw [<- hsz];simpa using hj);rw [zdz,getElem!_pos d' j (by simpa using hj),getElem!_pos d' i (by simpa using hi)] at h;simpa using h
 . have hi':i < d'.size:=by omega
   have hm:d'[i] ∈ (List.range L.length).map Int.ofNat:=hperm.mem_iff.1 (by simp);obtain ⟨q,-,hq⟩:=List.mem_map.1 hm;rw [getElem!_pos d' i hi',getElem!_pos _ i (by simpa using hi')];simp only [List.getElem_map,Array.getElem_toList,<- hq];simp
theorem zf0 (J s:Nat) (v:Value) (L:List RHd) (w:World) (hs:s < 2) (h4:w.cell? ⟨J,3 + s,none⟩ = some v) (row:JRow w 0 v L) (hl:L.length < 100000) :
 Calls Tryz.prog 66 #[.pointer (some ⟨J,0,none⟩),.int .i64 s] w (ziR L w):=by
 obtain ⟨p0,cap0,rfl,-⟩:=zaa row;have l4:=zaG h4;have hx3:Ext w (((w.alloc (.cells #[.pointer (some ⟨J,0,none⟩)] 49)).alloc (.cells #[.int .i64 s] 3)).alloc (.cells #[.slice none 0 0] 81)):=(((ExtM.refl w).alloc _).alloc _).alloc _;go_enter Tryz.func66,Tryz.ntmps66;go_wp2_with fail;have b0:(((w.alloc (.cells #[.pointer (some ⟨J,0,none⟩)] 49)).alloc (.cells #[.int .i64 s] 3)).alloc (.cells #[.slice none 0 0] 81)).cell? ⟨w.heap.size,0,none⟩ = some (.pointer (some ⟨J,0,none⟩)):=by go_simp
 have b1:(((w.alloc (.cells #[.pointer (some ⟨J,0,none⟩)] 49)).alloc (.cells #[.int .i64 s] 3)).alloc (.cells #[.slice none 0 0] 81)).cell? ⟨w.heap.size + 1,0,none⟩ = some (.int .i64 s):=by go_simp
 have b2:(((w.alloc (.cells #[.pointer (some ⟨J,0,none⟩)] 49)).alloc (.cells #[.int .i64 s] 3)).alloc (.cells #[.slice none 0 0] 81)).cell? ⟨w.heap.size + 2,0,none⟩ = some (.slice none 0 0):=by go_simp
 have f2:(((w.alloc (.cells #[.pointer (some ⟨J,0,none⟩)] 49)).alloc (.cells #[.int .i64 s] 3)).alloc (.cells #[.slice none 0 0] 81)).frozen? ⟨w.heap.size + 2,0,none⟩ = false:=by go_simp
 have sz:w.heap.size + 2 < (((w.alloc (.cells #[.pointer (some ⟨J,0,none⟩)] 49)).alloc (.cells #[.int .i64 s] 3)).alloc (.cells #[.slice none 0 0] 81)).heap.size:=by simp
 generalize ((w.alloc (.cells #[.pointer (some ⟨J,0,none⟩)] 49)).alloc (.cells #[.int .i64 s] 3)).alloc (.cells #[.slice none 0 0] 81) = W3 at *;have d4:W3.cell? ⟨J,3 + s,none⟩ = some (.slice p0 L.length cap0):=(hx3.cell (p:=⟨J,3 + s,none⟩) l4 (fun h=>h)).trans h4;go_quiet (fail);go_wp2_with fail
 go_loopg [14] (L.length + 1) (fun kx s14 wr=>∃ (i:Nat) (u:Value),s14 = .int .i64 i /\ i <= L.length /\ L.length - i <= kx /\ wr.cell? ⟨w.heap.size,0,none⟩ = some (.pointer (some ⟨J,0,none⟩)) /\ wr.cell? ⟨w.heap.size + 1,0,none⟩ = some (.int .i64 s) /\ wr.cell? ⟨w.heap.size + 2,0,none⟩ = some u /\ wr.frozen? ⟨w.heap.size + 2,0,none⟩ = false /\
  Ext w wr /\ w.heap.size + 2 < wr.heap.size /\ zjy wr (w.heap.size + 3) u ((List.range i).map Int.ofNat))
 case atStart=>exact ⟨0,.slice none 0 0,rfl,by omega,by omega,b0,b1,b2,f2,hx3.drewN _,sz,⟨rfl,.inl ⟨rfl,rfl⟩⟩⟩
 case round =>
  clear b0 b1 b2 f2 sz d4;obtain ⟨i,u,rfl,hi,hgk,b0,b1,b2,f2,hx,sz,hrow⟩:=hrel;by_cases hlt:i < L.length
  . have hJw:J < wr.heap.size:=by have:=hx.size;omega
    obtain ⟨v',w',happ,hown',hgr,hloc⟩:=zg5 (wr.alloc (.cells #[.int .i64 i] 3)) (w.heap.size + 3) wr.heap.size 1 u ((List.range i).map Int.ofNat) i 81 (zag hrow ((ExtM.refl wr).alloc _:Ext wr _) (fun _ _ h=>h)) (by go_simp) (by simp;omega) (by have:=hx.size;simp;omega);have hge:∀ k,u.ownBlock = some k -> w.heap.size + 3 <= k:=fun k hk=>(zaf hrow k hk).1;have hge':∀ k,v'.ownBlock = some k -> w.heap.size + 3 <= k:=fun k hk=>(zaf hown' k hk).1;have hc:∀ b o,b < w.heap.size + 3 -> w'.cell? ⟨b,o,none⟩ = wr.cell? ⟨b,o,none⟩:=fun b o hb=>by
     rw [hgr.cell (p:=⟨b,o,none⟩) (by simp;omega) (fun e=>by have:w.heap.size + 3 <= b:=hge _ e;omega),World.cell?_alloc_past _ _ _ (show b < wr.heap.size by omega)]
    have hf:∀ b o,b < w.heap.size + 3 -> w'.frozen? ⟨b,o,none⟩ = wr.frozen? ⟨b,o,none⟩:=fun b o hb=>by
     rw [hgr.frozen (p:=⟨b,o,none⟩) (by simp;omega) (fun e=>by have:w.heap.size + 3 <= b:=hge _ e;omega),World.frozen?_alloc_past _ _ _ (show b < wr.heap.size by omega)]
    have g0:=(hc _ 0 (by omega)).trans b0;have g1:=(hc _ 0 (by omega)).trans b1;have g2:=(hc _ 0 (by omega)).trans b2;have k2:=(hf _ 0 (by omega)).trans f2
    have hx':Ext w w':=⟨hgr.os.trans hx.os,hgr.tape.trans hx.tape,hgr.output.trans hx.output,Nat.le_trans hx.size (Nat.le_trans (by simp) hgr.size),fun k hk _=>by
     have h1:=hgr.block k (by simp;omega) (fun e=>by have:=hge _ e;omega);rw [h1,heap_alloc_old _ _ (by have:=hx.size;omega)]
     exact hx.block k hk id⟩
    have hlen:((List.range i).map Int.ofNat ++ [(i:Int)]).length = i + 1:=by simp
    obtain ⟨vp,vc,rfl,-⟩:=zaa hown';rw [hlen] at hown' hge';clear hc hf;go_wp2_with (at_builtin;refine wpList_append_run happ rfl rfl _ _ rfl rfl rfl ?_;clear happ);go_roundg (L.length - (i + 1))
    case measure=>omega
    case rel =>
     have hx2:=fun v'=>(show Ext w (w'.setCell ⟨w.heap.size + 2,0,none⟩ v') from ExtM.setCell (p:=⟨w.heap.size + 2,0,none⟩) hx' (.inl (by simp)) _)
     refine ⟨i + 1,_,by go_num,by omega,Nat.le_refl _,?_,?_,World.cell?_setCell_same _ _ _ g2,by simpa using k2,hx2 _,by simpa using (by have:=hgr.size;simp at this;omega:w.heap.size + 2 < w'.heap.size),?_⟩
     . rw [World.cell?_setCell_other _ _ _ _ (by intro e;simp only [Addr.mk.injEq,and_true] at e;omega)];exact g0
     . rw [World.cell?_setCell_other _ _ _ _ (by intro e;simp only [Addr.mk.injEq,and_true] at e;omega)];exact g1
     . rw [List.range_succ,List.map_append,List.map_singleton];exact zag hown' (ExtM.setCell (M:=fun k=>k = w.heap.size + 2) (ExtM.refl w') (p:=⟨w.heap.size + 2,0,none⟩) (.inr rfl) _) (fun k hk e=>by have:=hge' k hk;omega)
  . obtain rfl:i = L.length:=by omega
    have hp2:((List.range L.length).map Int.ofNat).length = L.length:=by simp
    obtain ⟨up,uc,rfl,huc⟩:=zaa hrow;rw [hp2] at hrow b2;have hge:∀ k,(Value.slice up L.length uc).ownBlock = some k -> w.heap.size + 3 <= k:=fun k hk=>(zaf hrow k hk).1;have hkind:(up = none /\ uc = 0 /\ L = []) \/ ∃ g,up = some ⟨g,0,none⟩:=by
     rcases hrow.2 with ⟨e,h0⟩ | ⟨g,cap,cur,e,-⟩
     . simp only [Value.slice.injEq] at e;exact .inl ⟨e.1,e.2.2,List.eq_nil_of_length_eq_zero (by simpa using h0)⟩
     . simp only [Value.slice.injEq] at e;exact .inr ⟨g,e.1⟩
    rcases hkind with ⟨rfl,rfl,rfl⟩ | ⟨g,rfl⟩
    . have hc0:=zlt (.func 109) #[] #[.pointer (some ⟨w.heap.size,0,none⟩),.pointer (some ⟨w.heap.size + 1,0,none⟩),.pointer (some ⟨w.heap.size + 1 + 1,0,none⟩)] wr
      go_wp2_with (
       go_at_call 108;refine hc0.mono ?_;rintro e w2 ⟨rfl,hx2⟩
       have b2':w2.cell? ⟨w.heap.size + 2,0,none⟩ = _:=(hx2.cell (p:=⟨w.heap.size + 2,0,none⟩) sz (fun h=>h)).trans b2)
      go_ret;exact ⟨none,0,[],rfl,ExtM.trans _ _ _ hx hx2,⟨by simp,by simp⟩,rfl,.inl rfl⟩
    . obtain ⟨hH,hg⟩:=zjy.holds hrow;have hg3:w.heap.size + 3 <= g:=hge g rfl;have hd:(((List.range L.length).map Int.ofNat).toArray).size = L.length:=by simp
      have swo:SWO (fun x y:Int=>ltRB L[x.toNat]! L[y.toNat]!):=⟨fun x=>znZ.irrefl _,fun x y z=>znZ.trans _ _ _,fun x y z=>znZ.ntrans _ _ _⟩
      have eg:∀ args w,(callFunc 109 args).run Tryz.prog w = .ok (.enter 109 args) w:=enters_of Tryz.func109 (by kernel_rfl) rfl;have hsl:=zml (P:=fun x=>0 <= x /\ x.toNat < L.length) swo 109 #[.pointer (some ⟨w.heap.size,0,none⟩),.pointer (some ⟨w.heap.size + 1,0,none⟩),.pointer (some ⟨w.heap.size + 1 + 1,0,none⟩)] g uc _ wr (by rw [hd];omega) eg hH
       (fun k hk=>by
         rw [hd] at hk;rw [getElem!_pos _ k (by rw [hd];exact hk)]
         simp;omega) hg
       (fun D W i j hD hW hi hj=>by
         obtain ⟨hHW,hPW,hxW⟩:=hW;rw [hd] at hi hj hPW hD;have keep:∀ b o,b < wr.heap.size -> b ≠ g -> W.cell? ⟨b,o,none⟩ = wr.cell? ⟨b,o,none⟩:=fun b o hb hne=>hxW.cell (p:=⟨b,o,none⟩) hb hne;have c4:wr.cell? ⟨J,3 + s,none⟩ = some (.slice p0 L.length cap0):=(hx.cell (p:=⟨J,3 + s,none⟩) l4 (fun h=>h)).trans h4;have rowW:JRow W 0 (.slice p0 L.length cap0) L:=(row.extF hx).ext hxW (fun k hk e=>by have:=(zaf row k hk).2;omega);have zi:=hPW i hi;have zj:=hPW j hj;have hci:=(hHW i (by omega)).1;have hcj:=(hHW j (by omega)).1;rw [Nat.zero_add,show D[i]! = ((D[i]!.toNat:Nat):Int) by omega] at hci;rw [Nat.zero_add,show D[j]! = ((D[j]!.toNat:Nat):Int) by omega] at hcj;exact zfY J s w.heap.size (w.heap.size + 1) (w.heap.size + 1 + 1) g L.length uc i j D[i]!.toNat D[j]!.toNat (.slice p0 L.length cap0) L W hs ((keep _ _ (by omega) (by omega)).trans b0) ((keep _ _ (by omega) (by omega)).trans b1) ((keep _ _ (by omega) (by omega)).trans b2)
          ((keep _ _ (by have:=hx.size;omega) (by omega)).trans c4) rowW hi hj hci hcj zi.2 zj.2)
      rw [hd] at hsl;have hgN:¬ g = w.heap.size + 2:=by omega
      have HSL:=Lib.hid hsl;clear hsl swo hH
      go_wp2_with (
       go_at_call 108;refine HSL.out.mono ?_;rintro e w2 ⟨rfl,d',hp,hso,hH2,hx2⟩;have b2':w2.cell? ⟨w.heap.size + 2,0,none⟩ = _:=(hx2.cell (p:=⟨w.heap.size + 2,0,none⟩) sz (fun h=>hgN h.symm)).trans b2;have H2:=Lib.hid (And.intro hp (And.intro hso hH2))
       clear hp hso hH2)
      go_ret;obtain ⟨hp,hso,hH2⟩:=H2.out;obtain ⟨q1,q2⟩:=zkQ hp hso;have hds:d'.size = L.length:=by rw [hp.1];exact hd
      exact ⟨some ⟨g,0,none⟩,uc,d'.toList.map Int.toNat,rfl,hx.fresh hx2 (fun k hk e=>by omega),q1,by simpa using hds,.inr ⟨g,rfl,by omega,Nat.lt_of_lt_of_le hg hx2.size,fun i hi=>by
       have:=(hH2 i (by omega)).1
       rw [Nat.zero_add,q2 i hi] at this
       exact this⟩⟩
theorem zg2 {α:Type} [Inhabited α] (L:List α):(List.range L.length).map (fun i=>L[i]!) = L:=by
 apply List.ext_getElem
 . simp
 . intro i h1 h2;simp only [List.getElem_map,List.getElem_range];exact getElem!_pos L i h2
theorem zhz {S R:List RHd} (hS:S.Pairwise ltR) (hp:R.Perm S) (hR:R.Pairwise (fun a b=>¬ ltR b a)):R = S:=by
 have hT:S.Pairwise (fun a b=>ltR a b \/ ltR b a):=hS.imp (fun h=>.inl h);have hT2:R.Pairwise (fun a b=>ltR a b \/ ltR b a):=(hp.pairwise_iff (fun h=>h.symm)).2 hT;have hR2:R.Pairwise ltR:=(List.pairwise_and_iff.2 ⟨hT2,hR⟩).imp (fun h=>h.1.resolve_right h.2);exact zcJ hp hR2 hS
def zdK (L:List RHd) (w:World) (e:Ending) (w':World):Prop :=
 ∃ (u:Value) (R:List RHd),e = .returned u /\ JRow w' w.heap.size u R /\ Ext w w' /\ R.Perm L /\ R.Pairwise (fun a b=>¬ ltR b a)
theorem zik (J s:Nat) (v:Value) (L:List RHd) (w:World) (hs:s < 2) (h4:w.cell? ⟨J,3 + s,none⟩ = some v) (row:JRow w 0 v L) (hl:L.length < 100000) :
 Calls Tryz.prog 22 #[.pointer (some ⟨J,0,none⟩),.int .i64 s] w (zdK L w):=by
 have hc:=zf0 J s v L w hs h4 row hl;have l4:=zaG h4;obtain ⟨p0,cap0,rfl,-⟩:=zaa row;go_enter Tryz.func22,Tryz.ntmps22
 go_wp2_with (
  go_at_call 66;refine hc.mono ?_;rintro e w1 ⟨p,cap,is,rfl,hx1,hsr,hlen,hcells⟩;have HSR:=Lib.hid hsr;have HCL:=Lib.hid hcells;have HLN:=Lib.hid hlen
  clear hsr hcells hlen)
 go_loopg [5,12] (L.length + 1) (fun kx s5 s12 wr=>∃ (i:Nat),s12 = .int .i64 i /\ i <= L.length /\ L.length - i <= kx /\ Ext w1 wr /\ JRow wr w1.heap.size s5 ((is.take i).map (fun q=>L[q]!)))
 case atStart=>exact ⟨0,rfl,by omega,by omega,ExtM.refl _,⟨rfl,.inl ⟨rfl,rfl⟩⟩⟩
 case round =>
  obtain ⟨i,rfl,hi,hgk,hx,hrow⟩:=hrel;by_cases hlt:i < L.length
  . obtain ⟨b,rfl,hb1,hb2,hbc⟩:∃ b,p = some ⟨b,0,none⟩ /\ w.heap.size <= b /\ b < w1.heap.size /\ ∀ i,i < L.length -> w1.cell? ⟨b,i,none⟩ = some (.int .i64 (is[i]!:Nat)):=by
     rcases HCL.out with h | h
     . subst h;simp at hlt
     . exact h
    have hil:i < is.length:=by have:=HLN.out;omega
    have hq:is[i]! < L.length:=by
     have:is[i] ∈ List.range L.length:=HSR.out.1.mem_iff.1 (List.getElem_mem hil);rw [getElem!_pos is i hil];simpa using this
    have hcell:wr.cell? ⟨b,i,none⟩ = some (.int .i64 (is[i]!:Nat)):=(hx.cell (p:=⟨b,i,none⟩) hb2 (fun h=>h)).trans (hbc i hlt);have htk:(is.take (i + 1)).map (fun q=>L[q]!) = (is.take i).map (fun q=>L[q]!) ++ [L[is[i]!]!]:=by
     rw [List.take_succ_eq_append_getElem hil,List.map_append,List.map_singleton,getElem!_pos is i hil]
    have HTK:=Lib.hid htk;clear htk hbc;generalize is[i]! = q at *;have hxw:Ext w wr:=ExtM.trans _ _ _ hx1 hx;have c4:wr.cell? ⟨J,3 + s,none⟩ = some (.slice p0 L.length cap0):=(hxw.cell (p:=⟨J,3 + s,none⟩) l4 (fun h=>h)).trans h4;obtain ⟨g,rc,e',hg,x0,x1,x2,x3,x4⟩:=zbh (row.extF hxw) q hq;simp only [Value.slice.injEq,true_and] at e';obtain ⟨rfl,rfl⟩:=e';have hlk:((is.take i).map (fun q=>L[q]!)).length < 1000000:=by simp;omega
    generalize L[q]! = X at *;obtain ⟨v',w',happ,hown',hgr,hloc⟩:=zbu (wr.alloc (.cells #[.int .i64 X.r.k,.int .i64 X.r.t,.int .i64 X.r.v,.int .i64 X.m,.int .i64 X.c] 118)) w1.heap.size wr.heap.size 1 u5 ((is.take i).map (fun q=>L[q]!)) X 62 (hrow.extF ((ExtM.refl wr).alloc _)) (newA wr X) hlk (by have:=hx.size;simp;omega);have hge:∀ k,u5.ownBlock = some k -> w1.heap.size <= k:=fun k hk=>(zaf hrow k hk).1;have hx':Ext w1 w':=(hx.alloc (.cells #[.int .i64 X.r.k,.int .i64 X.r.t,.int .i64 X.r.v,.int .i64 X.m,.int .i64 X.c] 118)).fresh hgr (fun k hk e=>by have:=hge k e;omega);have HX:=Lib.hid hx';have HOW:=Lib.hid hown';clear hx' hown' hgr hloc;go_wp2_with (at_builtin;refine wpList_append_run happ rfl rfl _ _ rfl rfl rfl ?_;clear happ);go_roundg (L.length - (i + 1))
    case measure=>omega
    case rel=>exact ⟨i + 1,by go_num,by omega,Nat.le_refl _,HX.out,by rw [HTK.out];exact HOW.out⟩
  . obtain rfl:i = L.length:=by omega
    have hxw:Ext w wr:=ExtM.trans _ _ _ hx1 hx;go_wp2_with fail;go_ret;refine ⟨_,_,rfl,zak hrow hx1.size,hxw,?_,?_⟩
    . rw [List.take_of_length_le (by have:=HLN.out;omega)]
      have:=HSR.out.1.map (fun i=>L[i]!)
      rwa [zg2] at this
    . rw [List.take_of_length_le (by have:=HLN.out;omega)];exact HSR.out.2
theorem RJ.extM {M:Nat -> Prop} {w w':World} {J s:Nat} {v:Value} {L:List RHd} {came:Int} (h:RJ w J s v L came) (hx:ExtM M w w') (hJ:¬ M J) (hr:∀ k,v.ownBlock = some k -> ¬ M k):RJ w' J s v L came :=
 ⟨h.hs,(hx.cell (p:=⟨J,_,none⟩) h.lt hJ).trans h.c3,(hx.cell (p:=⟨J,_,none⟩) h.lt hJ).trans h.c8,fun o=>(hx.frozen (p:=⟨J,o,none⟩) h.lt hJ).trans (h.f3 o),h.row.ext hx hr,h.own⟩
structure SPx (w u:World) (A J:Nat) (Av:Nat -> Prop) (v r:Value) (hs:List Hd) (L:List RHd) (came:Int):Prop where
 ext:Ext w u
 nA:w.heap.size <= A
 nJ:w.heap.size <= J
 ne:A ≠ J
 side:zaz u A 0 v hs
 ref:RJ u J 0 r L came
 hv:∀ k,v.ownBlock = some k -> w.heap.size <= k /\ k ≠ J /\ r.ownBlock ≠ some k /\ ¬ Av k
 hr:∀ k,r.ownBlock = some k -> w.heap.size <= k /\ k ≠ A /\ ¬ Av k
 av:∀ b,Av b -> b < u.heap.size /\ b ≠ A /\ b ≠ J
def SP0 (w u:World) (A J:Nat) (Av:Nat -> Prop) (hs:List Hd) (L:List RHd) (came:Int):Prop:=∃ v r,SPx w u A J Av v r hs L came
section
variable {w u u':World} {A J:Nat} {Av:Nat -> Prop} {v r:Value} {hs:List Hd} {L:List RHd} {came:Int}
theorem SPx.of (h:SPx w u A J Av v r hs L came) (hx:Ext u u'):SPx w u' A J Av v r hs L came :=
 ⟨ExtM.trans _ _ _ h.ext hx,h.nA,h.nJ,h.ne,h.side.ext hx,h.ref.ext hx,h.hv,h.hr,fun b hb=>⟨Nat.lt_of_lt_of_le (h.av b hb).1 hx.size,(h.av b hb).2⟩⟩
theorem SP0.of (h:SP0 w u A J Av hs L came) (hx:Ext u u'):SP0 w u' A J Av hs L came:=by
 obtain ⟨v,r,h⟩:=h;exact ⟨v,r,h.of hx⟩
theorem SP0.ext (h:SP0 w u A J Av hs L came):Ext w u:=by
 obtain ⟨v,r,h⟩:=h;exact h.ext
theorem JRow.setM {g n cap b:Nat} (h:JRow u b (.slice (some ⟨g,0,none⟩) n cap) L) (j:Nat) (x:RHd) (hj:L[j]? = some x) (m:Int):JRow (u.setCell ⟨g,j * 5 + 3,none⟩ (.int .i64 m)) b (.slice (some ⟨g,0,none⟩) n cap) (L.set j ⟨x.r,m,x.c⟩):=by
 obtain ⟨hj',rfl⟩:=List.getElem?_eq_some_iff.1 hj;obtain ⟨p',cap',he,-⟩:=zaa h;injection he with h1 h2 h3;subst h2;exact zbB zcV h j 3 hj' (by decide) _ _ rfl
end
theorem zpZ {hs:List Hd} {L:List RHd} {came:Int} (h:∃ S,RelS hs S L came) (x:Hd):∃ S,RelS (addL hs x) S (putL L x came) (putN L x came):=by
 obtain ⟨S,h⟩:=h;have hl:addE (L.map RHd.hd) x = addE hs x:=by unfold addE;rw [List.length_map,h.len]
 unfold addL putL putN;rw [hl];by_cases he:addE hs x = 0
 . rw [if_pos he,if_pos he,if_pos he];exact h.add x.r x.m
 . rw [if_neg he,if_neg he,if_neg he];exact ⟨S,h⟩
structure NewJ (u u':World) (J:Nat) (lo hi md:Int):Prop where
 ext:Ext u u'
 lt:J < u'.heap.size
 c0:u'.cell? ⟨J,0,none⟩ = some (.int .i64 lo)
 c1:u'.cell? ⟨J,1,none⟩ = some (.int .i64 hi)
 c2:u'.cell? ⟨J,2,none⟩ = some (.int .i64 md)
 c3:u'.cell? ⟨J,3,none⟩ = some (.slice none 0 0)
 c4:u'.cell? ⟨J,4,none⟩ = some (.slice none 0 0)
 c5:u'.cell? ⟨J,5,none⟩ = some (.int .i64 (-1099511627777))
 c6:u'.cell? ⟨J,6,none⟩ = some (.int .i64 (-1099511627777))
 c7:u'.cell? ⟨J,7,none⟩ = some (.int .i64 0)
 c8:u'.cell? ⟨J,8,none⟩ = some (.int .i64 0)
 fz:∀ o,u'.frozen? ⟨J,o,none⟩ = false
theorem zkH (lo hi md:Int) (u:World) :
 Calls Tryz.prog 48 #[.agg #[.int .i64 lo,.int .i64 hi,.int .i64 md]] u fun e u'=>e = .returned (.pointer (some ⟨u.heap.size + 1,0,none⟩)) /\ NewJ u u' (u.heap.size + 1) lo hi md:=by
 go_enter Tryz.func48,Tryz.ntmps48;go_wp2_with fail;go_ret;refine ⟨rfl,((ExtM.refl u).alloc _).alloc _,by simp,by go_simp,by go_simp,by go_simp,by go_simp,by go_simp,by go_simp,by go_simp,by go_simp,by go_simp,fun o=>?_⟩;rw [Go.RowKit.frozen?_alloc_cells];simp [World.frozen?]
theorem NewJ.rj {u u':World} {J:Nat} {lo hi md:Int} (h:NewJ u u' J lo hi md) (s:Nat) (hs:s < 2):RJ u' J s (.slice none 0 0) [] 0:=by
 refine ⟨hs,?_,h.c8,h.fz,⟨rfl,.inl ⟨rfl,rfl⟩⟩,fun e=>by cases e⟩;match s,hs with
 | 0,_=>exact h.c3
 | 1,_=>exact h.c4
structure RSt where
 a:List RHd
 b:List RHd
 x:Int
 y:Int
 late:Int
 came:Int
def RSt.of (st:RSt) (s:Nat):List RHd:=if s = 0 then st.a else st.b
def RSt.at (st:RSt) (s:Nat):Int:=if s = 0 then st.x else st.y
def RSt.put (st:RSt) (s:Nat) (l:List RHd):RSt:=if s = 0 then { st with a:=l } else { st with b:=l }
structure RelJ (j:JSt) (r:RSt):Prop where
 a:∃ S,RelS j.a S r.a r.came
 b:∃ S,RelS j.b S r.b r.came
 x:j.x = r.x
 y:j.y = r.y
 late:j.late = r.late
theorem RelJ.of {j:JSt} {r:RSt} (h:RelJ j r) (s:Nat):∃ S,RelS (j.of s) S (r.of s) r.came:=by
 unfold JSt.of RSt.of;split
 . exact h.a
 . exact h.b
theorem RelS.later {hs:List Hd} {S L:List RHd} {came came':Int} (h:RelS hs S L came) (hc:came <= came'):RelS hs S L came' :=
 ⟨h.perm,h.srt,h.eq,fun x hx=>Int.le_trans (h.lt x hx) hc⟩
def bumpQ (p:Hd -> Bool) (x:RHd):RHd:=if p x.hd then ⟨x.r,wrap64 (x.m + 1),x.c⟩ else x
theorem zfw (p:Hd -> Bool) (x:RHd):(bumpQ p x).r = x.r /\ (bumpQ p x).c = x.c /\ (bumpQ p x).hd = zao p x.hd:=by
 unfold bumpQ zao;split <;> exact ⟨rfl,rfl,rfl⟩
def mixL (p:Hd -> Bool) (L:List RHd) (is:List Nat):List RHd:=L.mapIdx fun i x=>if i ∈ is then bumpQ p x else x
theorem zfi (p:Hd -> Bool) (L:List RHd) (is:List Nat):(mixL p L is).length = L.length:=List.length_mapIdx
theorem zij (p:Hd -> Bool) (L:List RHd):mixL p L [] = L:=by
 apply List.ext_getElem
 . exact zfi _ _ _
 . intro i h1 h2;simp [mixL]
theorem mixL_get {p:Hd -> Bool} {L:List RHd} {is:List Nat} {q:Nat} (hq:q ∉ is) (hl:q < L.length):(mixL p L is)[q]? = some L[q]!:=by
 rw [getElem!_pos L q hl];simp [mixL,hq,hl]
theorem zii {p:Hd -> Bool} {L:List RHd} {is:List Nat} {q:Nat} (hl:q < L.length):(mixL p L is).set q (bumpQ p L[q]!) = mixL p L (is ++ [q]):=by
 rw [getElem!_pos L q hl];apply List.ext_getElem
 . simp [mixL]
 . intro i h1 h2;by_cases hi:q = i
   . subst hi;simp [mixL]
   . have hi':¬ i = q:=fun e=>hi e.symm;simp [mixL,hi,hi']
theorem zgn {p:Hd -> Bool} {L:List RHd} {is:List Nat} {q:Nat} (hl:q < L.length) (h:p L[q]!.hd = false):mixL p L (is ++ [q]) = mixL p L is:=by
 rw [getElem!_pos L q hl] at h;apply List.ext_getElem
 . simp [mixL]
 . intro i h1 h2;by_cases hi:i = q
   . subst hi;simp [mixL,bumpQ,h]
   . simp [mixL,hi]
theorem zhP {p:Hd -> Bool} {L:List RHd} {is:List Nat} (h:∀ i,i < L.length -> i ∈ is):mixL p L is = L.map (bumpQ p):=by
 apply List.ext_getElem
 . simp [mixL]
 . intro i h1 h2
   have:=h i (by simpa [mixL] using h1)
   simp [mixL,this]
def za4 (lo hi:Int) (s:Nat) (r:Row) (st:RSt):RSt :=
 let e:=feedE lo hi s r st.x st.y (st.of s).length
 if e = 10 then { st with late:=wrap64 (st.late + 1) }
 else if e = 0 then
  let p:=zab r.k (frI lo hi s r.t) (tilI lo hi s r.t)
  let st1:=st.put (1 - s) ((st.of (1 - s)).map (bumpQ p))
  if tilI lo hi s r.t > st.at (1 - s) then { st1.put s (st1.of s ++ [⟨r,(((st.of (1 - s)).filter (fun x=>p x.hd)).length:Nat),st.came + 1⟩]) with came:=st.came + 1 } else st1
 else st
theorem RelS.len_filter {hs:List Hd} {S L:List RHd} {came:Int} (h:RelS hs S L came) (p:Hd -> Bool):(hs.filter p).length = (L.filter (fun x=>p x.hd)).length:=(h.filter p).len
theorem RelJ.len {j:JSt} {r:RSt} (h:RelJ j r) (s:Nat):(j.of s).length = (r.of s).length:=by
 obtain ⟨S,hS⟩:=h.of s;exact hS.len
theorem zgv {j:JSt} {r:RSt} (h:RelJ j r) (lo hi:Int) (s:Nat) (hs:s < 2) (x:Row):RelJ (zam lo hi s x j) (za4 lo hi s x r):=by
 have hl:=h.len s;unfold zam za4;simp only [hl,h.x,h.y];generalize feedE lo hi s x r.x r.y (r.of s).length = e;by_cases h10:e = 10
 . rw [if_pos h10,if_pos h10];exact ⟨h.a,h.b,by first | rfl | exact h.x,by first | rfl | exact h.y,by show wrap64 _ = wrap64 _;rw [h.late]⟩
 rw [if_neg h10,if_neg h10];by_cases h0:e = 0
 . rw [if_pos h0,if_pos h0];have hs':s = 0 \/ s = 1:=by omega
   generalize hp:zab x.k (frI lo hi s x.t) (tilI lo hi s x.t) = p;obtain ⟨A,hA⟩:=h.a;obtain ⟨B,hB⟩:=h.b;have mA:=hA.map (zao p) (bumpQ p) (zfw p);have mB:=hB.map (zao p) (bumpQ p) (zfw p);rcases hs' with rfl | rfl
   . have e1:j.at (1 - 0) = r.at (1 - 0):=h.y;rw [e1];by_cases hh:tilI lo hi 0 x.t > r.at (1 - 0)
     . rw [if_pos hh,if_pos hh];have e2:((j.of (1 - 0)).filter p).length = ((r.of (1 - 0)).filter (fun x=>p x.hd)).length:=hB.len_filter p;rw [e2];exact ⟨hA.add _ _,⟨_,mB.later (by show r.came <= r.came + 1;omega)⟩,by first | rfl | exact h.x,by first | rfl | exact h.y,h.late⟩
     . rw [if_neg hh,if_neg hh];exact ⟨⟨_,hA⟩,⟨_,mB⟩,by first | rfl | exact h.x,by first | rfl | exact h.y,h.late⟩
   . have e1:j.at (1 - 1) = r.at (1 - 1):=h.x;rw [e1];by_cases hh:tilI lo hi 1 x.t > r.at (1 - 1)
     . rw [if_pos hh,if_pos hh];have e2:((j.of (1 - 1)).filter p).length = ((r.of (1 - 1)).filter (fun x=>p x.hd)).length:=hA.len_filter p;rw [e2];exact ⟨⟨_,mA.later (by show r.came <= r.came + 1;omega)⟩,hB.add _ _,by first | rfl | exact h.x,by first | rfl | exact h.y,h.late⟩
     . rw [if_neg hh,if_neg hh];exact ⟨⟨_,mA⟩,⟨_,hB⟩,by first | rfl | exact h.x,by first | rfl | exact h.y,h.late⟩
 . rw [if_neg h0,if_neg h0];exact h
def zrm (s:Nat) (x:Hd) (st:RSt):RSt:={ st.put s (putL (st.of s) x st.came) with came:=putN (st.of s) x st.came }
theorem zql {L:List RHd} {x:Hd} {came:Int}:came <= putN L x came /\ putN L x came <= came + 1:=by
 unfold putN;split <;> omega
theorem zq4 {j:JSt} {r:RSt} (h:RelJ j r) (s:Nat) (hs:s < 2) (x:Hd):RelJ (putJ s x j) (zrm s x r) /\ addE ((r.of s).map RHd.hd) x = addE (j.of s) x:=by
 have hs':s = 0 \/ s = 1:=by omega
 refine ⟨?_,by unfold addE;rw [List.length_map,h.len]⟩;rcases hs' with rfl | rfl
 . exact ⟨zpZ h.a x,let ⟨S,hS⟩:=h.b;⟨S,hS.later zql.1⟩,h.x,h.y,h.late⟩
 . exact ⟨let ⟨S,hS⟩:=h.a;⟨S,hS.later zql.1⟩,zpZ h.b x,h.x,h.y,h.late⟩
def zbS (lo hi:Int) (s:Nat) (t:Int) (st:RSt):RSt :=
 if s = 0 then { st with x:=t,b:=st.b.filter (fun h=>decide (tilI lo hi 1 h.r.t > t)) } else { st with y:=t,a:=st.a.filter (fun h=>decide (tilI lo hi 0 h.r.t > t)) }
theorem zkY {j:JSt} {r:RSt} (h:RelJ j r) (lo hi:Int) (s:Nat) (t:Int):RelJ (zbr lo hi s t j) (zbS lo hi s t r):=by
 unfold zbr zbS;obtain ⟨A,hA⟩:=h.a;obtain ⟨B,hB⟩:=h.b;split
 . exact ⟨⟨_,hA⟩,⟨_,hB.filter (fun h=>decide (tilI lo hi 1 h.r.t > t))⟩,rfl,h.y,h.late⟩
 . exact ⟨⟨_,hA.filter (fun h=>decide (tilI lo hi 0 h.r.t > t))⟩,⟨_,hB⟩,h.x,rfl,h.late⟩
structure RIs (u:World) (J:Nat) (r0 r1:Value) (lo hi md:Int) (st:RSt):Prop where
 c0:u.cell? ⟨J,0,none⟩ = some (.int .i64 lo)
 c1:u.cell? ⟨J,1,none⟩ = some (.int .i64 hi)
 c2:u.cell? ⟨J,2,none⟩ = some (.int .i64 md)
 j0:RJ u J 0 r0 st.a st.came
 j1:RJ u J 1 r1 st.b st.came
 c5:u.cell? ⟨J,5,none⟩ = some (.int .i64 st.x)
 c6:u.cell? ⟨J,6,none⟩ = some (.int .i64 st.y)
 c7:u.cell? ⟨J,7,none⟩ = some (.int .i64 st.late)
 sep:∀ k,r0.ownBlock = some k -> r1.ownBlock ≠ some k
section
variable {u u':World} {J:Nat} {r0 r1:Value} {lo hi md:Int} {st:RSt}
theorem RIs.lt (h:RIs u J r0 r1 lo hi md st):J < u.heap.size:=zaG h.c0
theorem RIs.fz (h:RIs u J r0 r1 lo hi md st) (o:Nat):u.frozen? ⟨J,o,none⟩ = false:=h.j0.f3 o
theorem RIs.extM {F:Nat -> Prop} (h:RIs u J r0 r1 lo hi md st) (hx:ExtM F u u') (hJ:¬ F J) (h0:∀ k,r0.ownBlock = some k -> ¬ F k) (h1:∀ k,r1.ownBlock = some k -> ¬ F k):RIs u' J r0 r1 lo hi md st:=by
 have k:=fun o=>hx.cell (p:=⟨J,o,none⟩) h.lt hJ;exact ⟨(k _).trans h.c0,(k _).trans h.c1,(k _).trans h.c2,h.j0.extM hx hJ h0,h.j1.extM hx hJ h1,(k _).trans h.c5,(k _).trans h.c6,(k _).trans h.c7,h.sep⟩
theorem RIs.ext (h:RIs u J r0 r1 lo hi md st) (hx:Ext u u'):RIs u' J r0 r1 lo hi md st:=h.extM hx id (fun _ _=>id) (fun _ _=>id)
end
def zaO (J:Nat) (r0 r1:Value) (k:Nat):Prop:=k = J \/ r0.ownBlock = some k \/ r1.ownBlock = some k
theorem RIs.foot {u:World} {J:Nat} {r0 r1:Value} {lo hi md:Int} {st:RSt} (h:RIs u J r0 r1 lo hi md st) (k:Nat) (hk:zaO J r0 r1 k):k < u.heap.size:=by
 rcases hk with rfl | hk | hk
 . exact h.lt
 . exact (zaf h.j0.row k hk).2
 . exact (zaf h.j1.row k hk).2
def RAt (u:World) (J:Nat) (Cs:Nat -> Prop) (lo hi md:Int) (st:RSt):Prop:=∃ r0 r1,RIs u J r0 r1 lo hi md st /\ Cs = zaO J r0 r1
def RUp (u u':World) (J:Nat) (Cs:Nat -> Prop) (lo hi md:Int) (st':RSt):Prop :=
 ExtM Cs u u' /\ ∃ Cs',RAt u' J Cs' lo hi md st' /\ ∀ k,Cs' k -> Cs k \/ u.heap.size <= k
theorem RAt.lt {u:World} {J:Nat} {Cs:Nat -> Prop} {lo hi md:Int} {st:RSt} (h:RAt u J Cs lo hi md st) (k:Nat) (hk:Cs k):k < u.heap.size:=by
 obtain ⟨v0,v1,h,rfl⟩:=h;exact h.foot k hk
theorem RAt.keep {F:Nat -> Prop} {u u':World} {J:Nat} {Cs:Nat -> Prop} {lo hi md:Int} {st:RSt} (h:RAt u J Cs lo hi md st) (hx:ExtM F u u') (hd:∀ k,Cs k -> ¬ F k):RAt u' J Cs lo hi md st:=by
 obtain ⟨v0,v1,h,rfl⟩:=h;exact ⟨v0,v1,h.extM hx (hd _ (.inl rfl)) (fun k hk=>hd k (.inr (.inl hk))) (fun k hk=>hd k (.inr (.inr hk))),rfl⟩
theorem RAt.ext {u u':World} {J:Nat} {Cs:Nat -> Prop} {lo hi md:Int} {st:RSt} (h:RAt u J Cs lo hi md st) (hx:Ext u u'):RAt u' J Cs lo hi md st:=h.keep hx (fun _ _=>id)
theorem RUp.same {u u':World} {J:Nat} {Cs:Nat -> Prop} {lo hi md:Int} {st:RSt} (h:RAt u J Cs lo hi md st) (hx:Ext u u'):RUp u u' J Cs lo hi md st :=
 ⟨hx.mono (fun _ _ h=>h.elim),Cs,h.ext hx,fun _k hk=>.inl hk⟩
theorem RUp.trans {u u1 u2:World} {J:Nat} {Cs:Nat -> Prop} {lo hi md:Int} {st2:RSt} (h:ExtM Cs u u1) {Cs1:Nat -> Prop} (hB:∀ k,Cs1 k -> Cs k \/ u.heap.size <= k) (h2:RUp u1 u2 J Cs1 lo hi md st2):RUp u u2 J Cs lo hi md st2:=by
 obtain ⟨hx,Cs2,ha,hb⟩:=h2;have hs:=h.size;refine ⟨h.fresh' hx (fun k hk e=>(hB k e).resolve_right (by omega)),Cs2,ha,fun k hk=>?_⟩;rcases hb k hk with e | e
 . exact hB k e
 . exact .inr (by omega)
theorem RJ.other {u u':World} {J:Nat} {s:Nat} {v:Value} {L:List RHd} {came came':Int} (h:RJ u J s v L came) (hx:ExtM (fun k=>k = J) u u') (hc:u'.cell? ⟨J,3 + s,none⟩ = u.cell? ⟨J,3 + s,none⟩) (h8:u'.cell? ⟨J,8,none⟩ = some (.int .i64 came')) (hf:∀ o,u'.frozen? ⟨J,o,none⟩ = false):RJ u' J s v L came' :=
 ⟨h.hs,hc.trans h.c3,h8,hf,h.row.ext hx (fun _ hk e=>h.own (e ▸ hk)),h.own⟩
theorem RIs.up0 {u u':World} {J:Nat} {r0 r1:Value} {lo hi md:Int} {st:RSt} {l:List RHd} {came:Int} (h:RIs u J r0 r1 lo hi md st) (hu:RJUp u u' J 0 r0 l came):RUp u u' J (zaO J r0 r1) lo hi md { st with a:=l,came:=came }:=by
 obtain ⟨⟨v',hS,ho⟩,hx,hc⟩:=hu;refine ⟨hx.mono (fun k _ hk=>.inl hk),_,⟨v',r1,⟨(hc 0 (by decide) (by decide)).trans h.c0,(hc 1 (by decide) (by decide)).trans h.c1,(hc 2 (by decide) (by decide)).trans h.c2,hS,h.j1.other hx (hc 4 (by decide) (by decide)) hS.c8 hS.f3,(hc 5 (by decide) (by decide)).trans h.c5,(hc 6 (by decide) (by decide)).trans h.c6,(hc 7 (by decide) (by decide)).trans h.c7,?_⟩,rfl⟩,fun k hk=>?_⟩
 . intro k hk e;rcases ho with ho | ⟨k',ho,hn⟩
   . exact h.sep k (ho ▸ hk) e
   . rw [ho] at hk
     have:=Option.some.inj hk
     have:=(zaf h.j1.row k e).2
     omega
 . rcases hk with hk | hk | hk
   . exact .inl (.inl hk)
   . rcases ho with ho | ⟨k',ho,hn⟩
     . exact .inl (.inr (.inl (ho ▸ hk)))
     . rw [ho] at hk
       have:=Option.some.inj hk
       exact .inr (by omega)
   . exact .inl (.inr (.inr hk))
theorem RIs.up1 {u u':World} {J:Nat} {r0 r1:Value} {lo hi md:Int} {st:RSt} {l:List RHd} {came:Int} (h:RIs u J r0 r1 lo hi md st) (hu:RJUp u u' J 1 r1 l came):RUp u u' J (zaO J r0 r1) lo hi md { st with b:=l,came:=came }:=by
 obtain ⟨⟨v',hS,ho⟩,hx,hc⟩:=hu;refine ⟨hx.mono (fun k _ hk=>.inl hk),_,⟨r0,v',⟨(hc 0 (by decide) (by decide)).trans h.c0,(hc 1 (by decide) (by decide)).trans h.c1,(hc 2 (by decide) (by decide)).trans h.c2,h.j0.other hx (hc 3 (by decide) (by decide)) hS.c8 hS.f3,hS,(hc 5 (by decide) (by decide)).trans h.c5,(hc 6 (by decide) (by decide)).trans h.c6,(hc 7 (by decide) (by decide)).trans h.c7,?_⟩,rfl⟩,fun k hk=>?_⟩
 . intro k hk e;rcases ho with ho | ⟨k',ho,hn⟩
   . exact h.sep k hk (ho ▸ e)
   . rw [ho] at e
     have:=Option.some.inj e
     have:=(zaf h.j0.row k hk).2
     omega
 . rcases hk with hk | hk | hk
   . exact .inl (.inl hk)
   . exact .inl (.inr (.inl hk))
   . rcases ho with ho | ⟨k',ho,hn⟩
     . exact .inl (.inr (.inr (ho ▸ hk)))
     . rw [ho] at hk
       have:=Option.some.inj hk
       exact .inr (by omega)
def RSt.setA (st:RSt) (L:List RHd):RSt:={ st with a:=L }
def RSt.setB (st:RSt) (L:List RHd):RSt:={ st with b:=L }
theorem RIs.setM0 {u:World} {J g n cap:Nat} {r1:Value} {lo hi md:Int} {st:RSt} (h:RIs u J (.slice (some ⟨g,0,none⟩) n cap) r1 lo hi md st) (j:Nat) (x:RHd) (hj:st.a[j]? = some x) (m:Int) :
 RIs (u.setCell ⟨g,j * 5 + 3,none⟩ (.int .i64 m)) J (.slice (some ⟨g,0,none⟩) n cap) r1 lo hi md (st.setA (st.a.set j ⟨x.r,m,x.c⟩)) /\ ExtM (fun k=>k = g) u (u.setCell ⟨g,j * 5 + 3,none⟩ (.int .i64 m)):=by
 have hx:ExtM (fun k=>k = g) u (u.setCell ⟨g,j * 5 + 3,none⟩ (.int .i64 m)):=ExtM.setCell (M:=fun k=>k = g) (ExtM.refl u) (p:=⟨g,j * 5 + 3,none⟩) (.inr rfl) _;have hgJ:¬ J = g:=fun e=>h.j0.own (by rw [e];rfl);have k:=fun o=>hx.cell (p:=⟨J,o,none⟩) h.lt hgJ;refine ⟨⟨(k _).trans h.c0,(k _).trans h.c1,(k _).trans h.c2,⟨h.j0.hs,(k _).trans h.j0.c3,(k _).trans h.j0.c8,fun o=>(hx.frozen (p:=⟨J,o,none⟩) h.lt hgJ).trans (h.j0.f3 o),h.j0.row.setM j x hj m,h.j0.own⟩,h.j1.extM hx hgJ (fun q hq e=>h.sep g rfl (e ▸ hq)),(k _).trans h.c5,(k _).trans h.c6,(k _).trans h.c7,h.sep⟩,hx⟩
theorem RIs.setM1 {u:World} {J g n cap:Nat} {r0:Value} {lo hi md:Int} {st:RSt} (h:RIs u J r0 (.slice (some ⟨g,0,none⟩) n cap) lo hi md st) (j:Nat) (x:RHd) (hj:st.b[j]? = some x) (m:Int) :
 RIs (u.setCell ⟨g,j * 5 + 3,none⟩ (.int .i64 m)) J r0 (.slice (some ⟨g,0,none⟩) n cap) lo hi md (st.setB (st.b.set j ⟨x.r,m,x.c⟩)) /\ ExtM (fun k=>k = g) u (u.setCell ⟨g,j * 5 + 3,none⟩ (.int .i64 m)):=by
 have hx:ExtM (fun k=>k = g) u (u.setCell ⟨g,j * 5 + 3,none⟩ (.int .i64 m)):=ExtM.setCell (M:=fun k=>k = g) (ExtM.refl u) (p:=⟨g,j * 5 + 3,none⟩) (.inr rfl) _;have hgJ:¬ J = g:=fun e=>h.j1.own (by rw [e];rfl);have k:=fun o=>hx.cell (p:=⟨J,o,none⟩) h.lt hgJ;refine ⟨⟨(k _).trans h.c0,(k _).trans h.c1,(k _).trans h.c2,h.j0.extM hx hgJ (fun q hq e=>h.sep q hq (by rw [e];rfl)),⟨h.j1.hs,(k _).trans h.j1.c3,(k _).trans h.j1.c8,fun o=>(hx.frozen (p:=⟨J,o,none⟩) h.lt hgJ).trans (h.j1.f3 o),h.j1.row.setM j x hj m,h.j1.own⟩,(k _).trans h.c5,(k _).trans h.c6,(k _).trans h.c7,h.sep⟩,hx⟩
theorem RIs.late {u:World} {J:Nat} {r0 r1:Value} {lo hi md:Int} {st:RSt} (h:RIs u J r0 r1 lo hi md st) (x:Int):RIs (u.setCell ⟨J,7,none⟩ (.int .i64 x)) J r0 r1 lo hi md { st with late:=x } /\ ExtM (fun k=>k = J) u (u.setCell ⟨J,7,none⟩ (.int .i64 x)):=by
 have hx:ExtM (fun k=>k = J) u (u.setCell ⟨J,7,none⟩ (.int .i64 x)):=ExtM.setCell (M:=fun k=>k = J) (ExtM.refl u) (p:=⟨J,7,none⟩) (.inr rfl) _;have hc:∀ o,o ≠ 7 -> (u.setCell ⟨J,7,none⟩ (.int .i64 x)).cell? ⟨J,o,none⟩ = u.cell? ⟨J,o,none⟩:=fun o ho=>World.cell?_setCell_other _ _ _ _ (by intro e;simp only [Addr.mk.injEq,and_true,true_and] at e;omega);have hf:∀ o,(u.setCell ⟨J,7,none⟩ (.int .i64 x)).frozen? ⟨J,o,none⟩ = false:=fun o=>(World.frozen?_setCell _ _ _ _).trans (h.fz o);exact ⟨⟨(hc 0 (by decide)).trans h.c0,(hc 1 (by decide)).trans h.c1,(hc 2 (by decide)).trans h.c2,h.j0.other hx (hc 3 (by decide)) ((hc 8 (by decide)).trans h.j0.c8) hf,h.j1.other hx (hc 4 (by decide)) ((hc 8 (by decide)).trans h.j0.c8) hf,(hc 5 (by decide)).trans h.c5,(hc 6 (by decide)).trans h.c6,World.cell?_setCell_same _ _ _ h.c7,h.sep⟩,hx⟩
end Go.Proofs.YtmcgnnmffeojpabGreatDoor
