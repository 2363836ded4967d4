import Derived.Test.YtmcgnnmffeojpabGreatDoorPk1
set_option maxRecDepth 100000
set_option maxHeartbeats 8000000
namespace Go.Plan
def ExtB (B:Nat) (w w':World):Prop:=ExtM (fun k=>k = B) w w'
theorem ExtB.refl {B:Nat} (w:World):ExtB B w w:=ExtM.refl w
theorem ExtB.trans {B:Nat} (a b c:World) (h:ExtB B a b) (k:ExtB B b c):ExtB B a c:=ExtM.trans _ _ _ h k
instance {B:Nat}:Std.Refl (ExtB B):=⟨ExtB.refl⟩
instance {B:Nat}:Trans (ExtB B) (ExtB B) (ExtB B):=⟨fun h k=>ExtB.trans _ _ _ h k⟩
theorem ExtB.of_ext {B:Nat} {w w':World} (h:Ext w w'):ExtB B w w':=ExtM.mono h (fun _ _ h=>h.elim)
theorem ExtB.rules {B:Nat} {w w':World} (h:ExtB B w w'):(∀ b o,b < w.heap.size -> ¬ b = B -> w'.cell? ⟨b,o,none⟩ = w.cell? ⟨b,o,none⟩) /\ (∀ b o,b < w.heap.size -> ¬ b = B -> w'.frozen? ⟨b,o,none⟩ = w.frozen? ⟨b,o,none⟩) /\ True :=
 ⟨fun b o hb hm=>ExtM.cell h (p:=⟨b,o,none⟩) hb hm,fun b o hb hm=>ExtM.frozen h (p:=⟨b,o,none⟩) hb hm,trivial⟩
@[go_sem] theorem cell?_extB (B:Nat) (w p:World) (b o:Nat) (hb:b < w.heap.size) (hm:¬ b = B):(Plan.ext (ExtB B) w p).cell? ⟨b,o,none⟩ = w.cell? ⟨b,o,none⟩ :=
  (zb7 ExtB.refl w p).rules.1 b o hb hm
@[go_sem] theorem frozen?_extB (B:Nat) (w p:World) (b o:Nat) (hb:b < w.heap.size) (hm:¬ b = B):(Plan.ext (ExtB B) w p).frozen? ⟨b,o,none⟩ = w.frozen? ⟨b,o,none⟩ :=
  (zb7 ExtB.refl w p).rules.2.1 b o hb hm
@[go_sem] theorem cell?_extB_drew (B:Nat) (w p:World) (b o:Nat) (hb:b < w.heap.size) (hm:¬ b = B):(Plan.ext (ExtB B) w.drew p).cell? ⟨b,o,none⟩ = w.cell? ⟨b,o,none⟩:=cell?_extB B w.drew p b o hb hm
@[go_sem] theorem frozen?_extB_drew (B:Nat) (w p:World) (b o:Nat) (hb:b < w.heap.size) (hm:¬ b = B):(Plan.ext (ExtB B) w.drew p).frozen? ⟨b,o,none⟩ = w.frozen? ⟨b,o,none⟩:=frozen?_extB B w.drew p b o hb hm
def ExtR (R:Option Nat) (w w':World):Prop:=ExtM (fun k=>R = some k) w w'
theorem ExtR.refl {R:Option Nat} (w:World):ExtR R w w:=ExtM.refl w
theorem ExtR.trans {R:Option Nat} (a b c:World) (h:ExtR R a b) (k:ExtR R b c):ExtR R a c:=ExtM.trans _ _ _ h k
instance {R:Option Nat}:Std.Refl (ExtR R):=⟨ExtR.refl⟩
instance {R:Option Nat}:Trans (ExtR R) (ExtR R) (ExtR R):=⟨fun h k=>ExtR.trans _ _ _ h k⟩
theorem ExtR.of_ext {R:Option Nat} {w w':World} (h:Ext w w'):ExtR R w w':=ExtM.mono h (fun _ _ h=>h.elim)
theorem ExtR.alloc {R:Option Nat} {a w:World} (h:ExtR R a w) (o:Obj):ExtR R a (w.alloc o):=ExtM.alloc h o
theorem ExtR.drew {R:Option Nat} {a w:World} (h:ExtR R a w):ExtR R a w.drew:=ExtM.drew h
theorem ExtR.rules {R:Option Nat} {w w':World} (h:ExtR R w w'):(∀ b o,b < w.heap.size -> ¬ R = some b -> w'.cell? ⟨b,o,none⟩ = w.cell? ⟨b,o,none⟩) /\ (∀ b o,b < w.heap.size -> ¬ R = some b -> w'.frozen? ⟨b,o,none⟩ = w.frozen? ⟨b,o,none⟩) /\ True :=
 ⟨fun b o hb h2=>ExtM.cell h (p:=⟨b,o,none⟩) hb h2,fun b o hb h2=>ExtM.frozen h (p:=⟨b,o,none⟩) hb h2,trivial⟩
theorem ExtR.size {R:Option Nat} {w w':World} (h:ExtR R w w'):w.heap.size <= w'.heap.size:=ExtM.size h
@[go_sem] theorem cell?_extR (R:Option Nat) (w p:World) (b o:Nat) (hb:b < w.heap.size) (h2:¬ R = some b):(Plan.ext (ExtR R) w p).cell? ⟨b,o,none⟩ = w.cell? ⟨b,o,none⟩ :=
  (zb7 ExtR.refl w p).rules.1 b o hb h2
@[go_sem] theorem cell?_extR_drew (R:Option Nat) (w p:World) (b o:Nat) (hb:b < w.heap.size) (h2:¬ R = some b):(Plan.ext (ExtR R) w.drew p).cell? ⟨b,o,none⟩ = w.cell? ⟨b,o,none⟩:=cell?_extR R w.drew p b o hb h2
@[go_sem] theorem frozen?_extR (R:Option Nat) (w p:World) (b o:Nat) (hb:b < w.heap.size) (h2:¬ R = some b):(Plan.ext (ExtR R) w p).frozen? ⟨b,o,none⟩ = w.frozen? ⟨b,o,none⟩ :=
  (zb7 ExtR.refl w p).rules.2.1 b o hb h2
@[go_sem] theorem frozen?_extR_drew (R:Option Nat) (w p:World) (b o:Nat) (hb:b < w.heap.size) (h2:¬ R = some b):(Plan.ext (ExtR R) w.drew p).frozen? ⟨b,o,none⟩ = w.frozen? ⟨b,o,none⟩:=frozen?_extR R w.drew p b o hb h2
variable {P:Program} {ops:Array Oper} {Q:Exit -> Act -> World -> Prop} {E:World -> World -> Prop} {T:List Nat}
theorem zfS {i:Nat} {oi:Oper} {v:Value} (hrefl:∀ w,E w w) (hi:ops[i]? = some oi) (hsel:∀ (j:Nat) (o:Oper) cs b,ops[j]? = some o -> o.op ≠ .select cs b)
 (hQ:∀ c a w,Q (.panic c) (a.put oi.dst v) w -> Q (.panic c) a w) :
 ∀ (fuel:Nat) (listed:Array Bool) (a:Act) (w:World),
   (∀ j oj,ops[j]? = some oj -> j ≠ i -> listed.getD j true = false -> (∀ e ∈ oj.after,Region.binds .any e = true -> e.on ≠ i) -> oi.apart ops oj = true) ->
   i ∈ Region.ready .any ops listed -> YieldsIf P ops (fun _=>True) oi v a ->
   zds P ops Q E T fuel (listed.setIfInBounds i true) (a.put oi.dst v) w -> zds P ops Q E T (fuel + 1) listed a w:=by
 intro fuel;induction fuel with
 | zero =>
   intro listed a w _ hr hy H;refine ⟨fun h=>(by rw [h] at hr;cases hr),fun j hj=>?_⟩;by_cases hji:j = i
   . subst hji;exact hy.wpOp hi trivial ⟨.inr (hrefl w),H⟩
   . have:=ready_mono hj hji
     rw [H.1] at this;cases this
 | succ fuel ih =>
   intro listed a w hfree hr hy H;refine ⟨fun h=>(by rw [h] at hr;cases hr),fun j hj=>?_⟩;by_cases hji:j = i
   . subst hji;exact hy.wpOp hi trivial ⟨.inr (hrefl w),H⟩
   . have h1:=H.2 j (ready_mono hj hji);obtain ⟨hjun,oj,hoj,hall⟩:=mem_ready.1 hj;have hnot:∀ e ∈ oj.after,Region.binds .any e = true -> e.on ≠ i:=fun e he hb heq=>by
      have h1:=hall e he hb;have h0:=(mem_ready.1 hr).1;rw [heq] at h1;rcases Nat.lt_or_ge i listed.size with h' | h'
      . simp [h'] at h0 h1;rw [h0] at h1;cases h1
      . simp [Array.getElem?_eq_none h'] at h1
     have h2:=wpOp_putIf hoj (hfree j oj hoj hji hjun hnot) (fun cs b=>hsel i oi cs b hi) (fun cs b=>hsel j oj cs b hoj) hQ hy h1;have hfree':∀ k ok,ops[k]? = some ok -> k ≠ i -> (listed.setIfInBounds j true).getD k true = false ->
      (∀ e ∈ ok.after,Region.binds .any e = true -> e.on ≠ i) -> oi.apart ops ok = true:=fun k ok hk hki hun hno=>by
      refine hfree k ok hk hki ?_ hno;by_cases hjk:j = k
      . subst hjk;exact hjun
      . rw [getD_set_ne true hjk] at hun;exact hun
     refine wpOp_mono (fun a' w' h3=>⟨h3.2.1,ih (listed.setIfInBounds j true) a' w' hfree' (ready_mono hr (Ne.symm hji)) ?_ ?_⟩) h2
     . exact h3.1.imp (fun ⟨x,y⟩=>⟨x,fun w2 _=>y w2 trivial⟩) id
     . rw [Array.setIfInBounds_comm _ _ hji];exact h3.2.2
theorem zaU {L:List Oper} [hr:Std.Refl E] (i:Nat) {o:Oper} {fuel:Nat} {done:List Nat} {a:Act} {w:World} (hi:nth L i = some o)
 (hb:(Region.noSelect L.toArray && zcQ L.toArray [] [i] done) = true) (h:wpQuiet P L.toArray (fun w'=>∃ p,w' = ext (fun _ _=>True) w p) (fun a'=>Left P L.toArray (zbc Q) E T fuel (done ++ [i]) a' w) [o] a):Left P L.toArray (zbc Q) E T (fuel + 1) done a w:=by
 simp only [Bool.and_eq_true] at hb;obtain ⟨hs,hb⟩:=hb;have hi:=zcy hi;simp only [zcQ,Bool.and_eq_true,hi,Option.map_some,Option.getD_some] at hb;obtain ⟨⟨⟨⟨hf,hrd⟩,hc⟩,-⟩,-⟩:=hb;have hq:qOp P L.toArray (fun w'=>∃ p,w' = ext (fun _ _=>True) w p) i (fun a'=>Left P L.toArray (zbc Q) E T fuel (done ++ [i]) a' w) a:=by
  unfold qOp;simp only [hi];simpa [wpQuiet] using h
 obtain ⟨v,hy,hK⟩:=yieldsIn_of_qOp hi hq;have ih:Left P L.toArray (zbc Q) E T fuel (done ++ [i]) (a.put o.dst v) w:=hK;unfold Left at *;rw [<- zch] at ih;exact zfS hr.refl hi (Region.noSelect_spec hs) (fun c a w h=>h.elim) fuel _ a w (Region.free_spec hi hf) (by simpa using hrd) (zdZ (E:=fun _ _=>True) hc hy) ih
end Go.Plan
