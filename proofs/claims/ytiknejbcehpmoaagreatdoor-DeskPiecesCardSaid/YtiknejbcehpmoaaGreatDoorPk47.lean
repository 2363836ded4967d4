import Derived.Test.YtiknejbcehpmoaaGreatDoorPk3
import Derived.RangeFuncOwn
import Derived.RangeFuncBound
set_option maxRecDepth 100000
set_option maxHeartbeats 8000000
namespace Go.Plan
open Go.RowKit
theorem zs7 {M:Nat -> Prop} {w:World} {l:Nat} {o:Obj} (h:M l):ExtM M w (w.putObj l o):=⟨rfl,rfl,rfl,by simp,fun k _ hk=>World.putObj_heap_other (fun e=>hk (e ▸ h))⟩
theorem zue {F:Fence} {n:Nat} {P:Program} {α:Type} {g:Operand} {ps:Array Tmp} {assign body:Code} {Q:Exit -> Act -> World -> Prop} {a:Act} {w:World}
 (hro:F.round = none) (h1:1 <= n) {gf:Nat} {lb:Array Value} (hg:a.eval g = .func (.func gf) #[] lb) (hFg:F.fn gf) (eg:∀ args w,(callFunc gf args).run P w = .ok (.enter gf args) w)
 {encs:α -> Array Value} (hps:∀ x,(encs x).size = ps.size) (xs:List α) (Mi:Nat -> Prop) (hMi:∀ k,Mi k -> k < w.heap.size)
 (G:World -> Prop) (I:List α -> World -> Prop) (hG:∀ pre W,I pre W -> G W) (hI:∀ pre W W',I pre W -> ExtM (fun k=>k = w.heap.size \/ k = w.heap.size + 1 \/ Mi k) W W' -> I pre W')
 (hit:∀ (l:Nat) (J:List α -> World -> Prop) (W1:World),Ext w W1 -> (∀ pre W,J pre W -> G W) -> (∀ pre W W',J pre W -> ExtM Mi W W' -> J pre W') ->
   (∀ pre x W,J pre W -> (∃ r,xs = pre ++ x :: r) -> YieldAt F (n - 1 - 1) P l (encs x) W fun e W'=>e = .returned (.bool true) /\ J (pre ++ [x]) W' /\ ExtM (fun k=>¬ Mi k) W W') ->
   J [] W1 -> CallsIn F (n - 1) P gf (#[.func (.yield l) #[] #[]] ++ lb) W1 fun e W'=>(∃ v,e = .returned v) /\ J xs W')
 (h0:I [] w) (a₁:α -> Act)
 (hassign:∀ (l:Nat) (x:α) (W:World) (K:Act -> World -> Prop),K (a₁ x) W ->
   assign.wpIn (F.inRound l) (n - 1 - 1) P (Exit.then K (fun _ _ _=>False)) { tmps:=(ps.zip (encs x)).foldl (fun t (p,v)=>t.setIfInBounds p v) a.tmps,defers:=[] } W)
 (hbody:∀ (l:Nat) (pre:List α) (x:α) (W:World),I pre W -> (∃ r,xs = pre ++ x :: r) -> w.heap.size + 2 <= W.heap.size ->
   body.wpIn (F.inRound l) (n - 1 - 1) P (fun e _ W'=>e = .normal /\ I (pre ++ [x]) W' /\ ExtM (fun k=>k ≠ w.heap.size /\ k ≠ w.heap.size + 1 /\ ¬ Mi k) W W') (a₁ x) W)
 (hdone:∀ (W:World),I xs W -> W.heap[w.heap.size]? = some (.deferred (some [])) -> w.heap.size + 2 <= W.heap.size -> Q .normal { a with defers:={ target:=.collected w.heap.size,args:=#[] } :: a.defers } W) :
 (Code.rangeFunc g ps assign body).wpIn F n P Q a w:=by
 refine wpIn_rangeFunc ?_;intro fn hfn;rw [hro];obtain ⟨rec,hrec⟩:∃ rec:LoopState -> Option Code -> Loop,rec = fun st pe=>{ state:=st,pending:=pe,fn,tmps:=a.tmps,params:=ps,assign,body,defers:=w.heap.size }:=⟨_,rfl⟩
 obtain ⟨W1,hW1⟩:∃ W1,(w.alloc (.deferred (some []))).alloc (.loop (rec .ready none)) = W1:=⟨_,rfl⟩
 have hL1:W1.heap[w.heap.size + 1]? = some (.loop (rec .ready none)):=by
  rw [<- hW1];have:=World.alloc_heap_new (w.alloc (.deferred (some []))) (.loop (rec .ready none));rwa [World.size_alloc] at this
 have hK1:W1.heap[w.heap.size]? = some (.deferred (some [])):=by
  rw [<- hW1];exact (Below.heap_alloc _ _ _ (by simp)).trans (World.alloc_heap_new w _)
 have hx1:Ext w W1:=by rw [<- hW1];exact ((ExtM.refl w).alloc _).alloc _
 have hs1:W1.heap.size = w.heap.size + 2:=by rw [<- hW1,World.size_alloc,World.size_alloc]
 have hI1:I [] W1:=hI _ _ _ h0 (hx1.mono (fun _ _ h=>h.elim))
 refine ⟨w.heap.size + 1,[{ target:=.collected w.heap.size,args:=#[] }],W1,{ target:=.fn (.func gf) lb,args:=#[.func (.yield (w.heap.size + 1)) #[] #[]] },W1,gf,
  #[.func (.yield (w.heap.size + 1)) #[] #[]] ++ lb,W1,?_,?_,?_,?_,fun _=>h1,?_⟩
 . rw [<- hW1,hrec];exact run_enterLoop_outer _ _ _ _ _
 . simp only [resolve,hg];simp [go_sem]
 . intro f' hf';simp [Target.leads] at hf';subst hf';exact hFg
 . simp [invoke,go_sem,eg]
 . have hml:¬ Mi (w.heap.size + 1):=fun h=>by have:=hMi _ h;omega
   have hmd:¬ Mi w.heap.size:=fun h=>by have:=hMi _ h;omega
   refine (hit (w.heap.size + 1)
    (fun pre W=>I pre W /\ W.heap[w.heap.size + 1]? = some (.loop (rec .ready none)) /\ W.heap[w.heap.size]? = some (.deferred (some [])) /\ w.heap.size + 2 <= W.heap.size)
    W1 hx1 (fun pre W hj=>hG _ _ hj.1) (fun pre W W' hj hx=>⟨hI _ _ _ hj.1 (hx.mono fun k _ h=>.inr (.inr h)),(hx.block _ (by have:=hj.2.2.2;omega) hml).trans hj.2.1,(hx.block _ (by have:=hj.2.2.2;omega) hmd).trans hj.2.2.1,Nat.le_trans hj.2.2.2 hx.size⟩)
    ?_ ⟨hI1,hL1,hK1,by omega⟩).mono ?_
   . rintro pre x W ⟨hi,hl,hk,hsz⟩ hpre;have hlt:w.heap.size + 1 < W.heap.size:=by omega
     have hy:=run_yield (P:=P) (args:=encs x) hl (by rw [hrec];exact hps x);rw [hrec] at hy;refine ⟨fn,_,assign,body,hy,roundIn_of_wpIn hfn (hassign _ x W _ ⟨_,run_beginRound hl (by rw [hrec]),?_⟩)⟩;have hl2:(W.putObj (w.heap.size + 1) (.loop { rec .ready none with state:=.busy })).heap[w.heap.size + 1]? = some (.loop { rec .ready none with state:=.busy }):=World.putObj_heap_same hlt;have hk2:(W.putObj (w.heap.size + 1) (.loop { rec .ready none with state:=.busy })).heap[w.heap.size]? = some (.deferred (some [])):=(World.putObj_heap_other (by omega)).trans hk;have hx2:ExtM (fun k=>k = w.heap.size \/ k = w.heap.size + 1 \/ Mi k) W (W.putObj (w.heap.size + 1) (.loop { rec .ready none with state:=.busy })):=zs7 (.inr (.inl rfl));refine wpIn_mono (hbody _ pre x _ (hI _ _ _ hi hx2) hpre (Nat.le_trans hsz hx2.size)) ?_;rintro e a3 W3 ⟨rfl,hi3,hx3⟩;have hl3:W3.heap[w.heap.size + 1]? = some (.loop { rec .ready none with state:=.busy }):=(hx3.block _ (Nat.lt_of_lt_of_le hlt hx2.size) (fun h=>h.2.1 rfl)).trans hl2;have hk3:W3.heap[w.heap.size]? = some (.deferred (some [])):=(hx3.block _ (by rw [World.putObj_size];omega) (fun h=>h.1 rfl)).trans hk2;have hr:=run_endRound (P:=P) none hl3;have hs3:w.heap.size + 2 <= W3.heap.size:=Nat.le_trans (by rw [World.putObj_size];exact hsz) hx3.size;rw [hrec] at hr;refine ⟨_,_,hr,rfl,⟨hI _ _ _ hi3 (zs7 (.inr (.inl rfl))),?_,?_,?_⟩,?_⟩
     . rw [hrec];exact World.putObj_heap_same (by omega)
     . exact (World.putObj_heap_other (by omega)).trans hk3
     . rw [World.putObj_size];exact hs3
     . have e1:ExtM (fun k=>¬ Mi k) W (W.putObj (w.heap.size + 1) (.loop { rec .ready none with state:=.busy })):=zs7 hml;exact ExtM.trans _ _ _ e1 (ExtM.trans _ _ _ (hx3.mono fun k _ h=>h.2.2) (zs7 hml))
   . rintro e W2 ⟨⟨v,rfl⟩,hi,hl,hk,hsz⟩;exact ⟨none,_,by have:=run_endLoop (P:=P) hl (by rw [hrec];simp);rw [hrec] at this;exact this,hdone _ (hI _ _ _ hi (zs7 (.inr (.inl rfl)))) ((World.putObj_heap_other (by omega)).trans hk) (by rw [World.putObj_size];exact hsz)⟩
end Go.Plan
