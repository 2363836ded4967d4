import Derived.OrdersHeld
import Derived.Deep.QuietTactic
import Derived.BigQuiet
import Derived.WalkKit
set_option maxRecDepth 100000
set_option maxHeartbeats 8000000
namespace Go.Plan
open Go.RowKit
section
variable {P:Program} {ops:Array Oper} {Q:Exit -> Act -> World -> Prop} {E:World -> World -> Prop} {T:List Nat}
def zds (P:Program) (ops:Array Oper) (Q:Exit -> Act -> World -> Prop) (E:World -> World -> Prop) (T:List Nat):Nat -> Array Bool -> Act -> World -> Prop
 | 0,listed,a,w=>Region.ready .any ops listed = [] /\ Q .normal a w
 | fuel + 1,listed,a,w =>
   (Region.ready .any ops listed = [] -> Q .normal a w) /\
   ∀ i ∈ Region.ready .any ops listed,wpOp P ops Q i (fun a' w'=>(i ∈ T \/ E w w') /\ zds P ops Q E T fuel (listed.setIfInBounds i true) a' w') a w
theorem zeH:∀ (fuel:Nat) (listed:Array Bool) (a:Act) (w:World),zds P ops Q E T fuel listed a w -> wpAny P .any ops Q fuel listed a w
 | 0,_,_,_,h=>h
 | fuel + 1,_,_,_,h=>⟨h.1,fun i hi=>wpOp_mono (fun a' w' h'=>zeH fuel _ a' w' h'.2) (h.2 i hi)⟩
def Region.waits (ops:Array Oper) (t i:Nat):Bool :=
 match ops[t]? with
 | some o=>o.after.any fun e=>Region.binds .any e && e.on == i
 | none=>true
theorem zlb {listed:Array Bool} {i t:Nat} (h:Region.waits ops t i = true) (hi:listed.getD i true = false):t ∉ Region.ready .any ops listed:=by
 intro hr;obtain ⟨_,o,ho,hall⟩:=mem_ready.1 hr;unfold Region.waits at h;simp only [ho] at h;obtain ⟨e,he,hb⟩:=Array.any_eq_true'.1 h;simp only [Bool.and_eq_true,beq_iff_eq] at hb;have h1:=hall e he hb.1;rw [hb.2] at h1;rcases Nat.lt_or_ge i listed.size with h' | h'
 . simp [h'] at hi h1;rw [hi] at h1;cases h1
 . simp [Array.getElem?_eq_none h'] at h1
theorem zgo (hrefl:∀ w,E w w) (htrans:∀ a b c,E a b -> E b c -> E a c) {i:Nat} {oi:Oper} {v:Value} (hi:ops[i]? = some oi) (hsel:∀ (j:Nat) (o:Oper) cs b,ops[j]? = some o -> o.op ≠ .select cs b)
 (hQ:∀ c a w,Q (.panic c) (a.put oi.dst v) w -> Q (.panic c) a w) (hT:∀ t ∈ T,Region.waits ops t i = true) :
 ∀ (fuel:Nat) (listed:Array Bool) (a:Act) (w:World),
   (∀ j oj,ops[j]? = some oj -> j ≠ i -> listed.getD j true = false -> (∀ e ∈ oj.after,Region.binds .any e = true -> e.on ≠ i) -> oi.apart ops oj = true) ->
   i ∈ Region.ready .any ops listed -> YieldsIf P ops (E w) oi v a ->
   zds P ops Q E T fuel (listed.setIfInBounds i true) (a.put oi.dst v) w -> zds P ops Q E T (fuel + 1) listed a w:=by
 intro fuel;induction fuel with
 | zero =>
   intro listed a w _ hr hy H;refine ⟨fun h=>(by rw [h] at hr;cases hr),fun j hj=>?_⟩;by_cases hji:j = i
   . subst hji;exact hy.wpOp hi (hrefl w) ⟨.inr (hrefl w),H⟩
   . have:=ready_mono hj hji
     rw [H.1] at this;cases this
 | succ fuel ih =>
   intro listed a w hfree hr hy H;refine ⟨fun h=>(by rw [h] at hr;cases hr),fun j hj=>?_⟩;by_cases hji:j = i
   . subst hji;exact hy.wpOp hi (hrefl w) ⟨.inr (hrefl w),H⟩
   . have h1:=H.2 j (ready_mono hj hji);obtain ⟨hjun,oj,hoj,hall⟩:=mem_ready.1 hj;have hnot:∀ e ∈ oj.after,Region.binds .any e = true -> e.on ≠ i:=fun e he hb heq=>by
      have h1:=hall e he hb;have h0:=(mem_ready.1 hr).1;rw [heq] at h1;rcases Nat.lt_or_ge i listed.size with h' | h'
      . simp [h'] at h0 h1;rw [h0] at h1;cases h1
      . simp [Array.getElem?_eq_none h'] at h1
     have h2:=wpOp_putIf hoj (hfree j oj hoj hji hjun hnot) (fun cs b=>hsel i oi cs b hi) (fun cs b=>hsel j oj cs b hoj) hQ hy h1;have hfree':∀ k ok,ops[k]? = some ok -> k ≠ i -> (listed.setIfInBounds j true).getD k true = false ->
      (∀ e ∈ ok.after,Region.binds .any e = true -> e.on ≠ i) -> oi.apart ops ok = true:=fun k ok hk hki hun hno=>by
      refine hfree k ok hk hki ?_ hno;by_cases hjk:j = k
      . subst hjk;exact hjun
      . rw [getD_set_ne true hjk] at hun;exact hun
     have hjT:j ∉ T:=fun ht=>zlb (hT j ht) (mem_ready.1 hr).1 hj;refine wpOp_mono (fun a' w' h3=>⟨.inr (h3.2.1.resolve_left hjT),ih (listed.setIfInBounds j true) a' w' hfree' (ready_mono hr (Ne.symm hji)) ?_ ?_⟩) h2
     . exact h3.1.imp (fun ⟨x,y⟩=>⟨x,fun w2 h=>y w2 (htrans _ _ _ (h3.2.1.resolve_left hjT) h)⟩) id
     . rw [Array.setIfInBounds_comm _ _ hji];exact h3.2.2
def za9 (n:Nat) (done:List Nat):Array Bool:=done.foldl (fun l i=>l.setIfInBounds i true) (Array.replicate n false)
theorem zch (n:Nat) (done:List Nat) (i:Nat):(za9 n done).setIfInBounds i true = za9 n (done ++ [i]):=by
 simp [za9,List.foldl_append]
def Left (P:Program) (ops:Array Oper) (Q:Exit -> Act -> World -> Prop) (E:World -> World -> Prop) (T:List Nat) (fuel:Nat) (done:List Nat) (a:Act) (w:World):Prop :=
 zds P ops Q E T fuel (za9 ops.size done) a w
def ziE:Op -> Bool
 | .call c=>match c.callee with | .builtin .len | .builtin .min | .builtin .max=>true | _=>false
 | .go _ | .defer _ | .send _ _ | .recv _ _ _ | .select _ _ | .panic _ | .store .. | .ready _ | .mapUpdate .. | .insert .. | .entryStore ..=>false
 | _=>true
theorem zdp {s:Result Value} {n:Next} {w':World} (h:(s.andThen fun x w=>Result.ok (Next.value x) w) = .ok n w'):∃ v,n = .value v:=by
 cases s <;> simp [Result.andThen] at h
 exact ⟨_,h.1.symm⟩
theorem zjf {o:Oper} (h:ziE o.op = true) (ρ:Operand -> Value) (w:World) (n:Next) (w':World) :
 (execOp ρ o).run P w = .ok n w' -> ∃ v,n = .value v:=by
 obtain ⟨dst,op,type,pos,after,guard⟩:=o;cases op <;> simp only [ziE,Bool.false_eq_true] at h <;> simp only [execOp,Sem.run_bind,Sem.run_pure] <;> (try exact zdp)
 case move=>rintro h;cases h;exact ⟨_,rfl⟩
 case assign=>rintro h;cases h;exact ⟨_,rfl⟩
 case pick=>cases (asBool (ρ _)).run P w <;> simp [Result.andThen];rintro rfl _;exact ⟨_,rfl⟩
 case nilCheck x =>
  split
  . simp [runtimePanic,goPanic,go_sem]
  . simp [runtimePanic,goPanic,go_sem]
  . simp [runtimePanic,goPanic,go_sem]
  . split
    . simp [runtimePanic,goPanic,go_sem]
    . simp only [Sem.run_bind];intro hh
      revert hh
      generalize (program).run P w = r1;cases r1 with
      | halt=>simp [Result.andThen]
      | ok p1 w1 =>
        simp only [Result.andThen];generalize (nilAhead _ _ _ _).run P w1 = r2;cases r2 with
        | halt=>simp
        | ok p2 w2 =>
          simp only;split
          . simp [unsupported,Result.andThen]
          . simp;rintro rfl _;exact ⟨_,rfl⟩
    . simp;rintro rfl _;exact ⟨_,rfl⟩
  . simp;rintro rfl _;exact ⟨_,rfl⟩
 case call c =>
  obtain ⟨callee,cargs,argTypes⟩:=c;cases callee <;> simp only [Bool.false_eq_true] at h
  rename_i b;cases b <;> simp only [Bool.false_eq_true] at h
  all_goals
   simp only [resolve,invoke,builtin,Sem.run_bind,Sem.run_pure,Result.andThen];exact zdp
def zcQ (ops:Array Oper) (T:List Nat):List Nat -> List Nat -> Bool
 | [],_=>true
 | i :: rest,done =>
   Region.free .any ops (za9 ops.size done) i && (Region.ready .any ops (za9 ops.size done)).contains i && ((ops[i]?).map fun o=>ziE o.op).getD false && T.all (fun t=>Region.waits ops t i) && zcQ ops T rest (done ++ [i])
noncomputable def ext (E:World -> World -> Prop) (w p:World):World:=open Classical in if E w p then p else w
theorem zb7 (hrefl:∀ w,E w w) (w p:World):E w (ext E w p):=by
 unfold ext;split
 . assumption
 . exact hrefl w
theorem zpn {w w':World} (h:E w w'):∃ p,w' = ext E w p:=⟨w',by simp [ext,h]⟩
theorem zdZ {o:Oper} (hc:ziE o.op = true) {a:Act} {v:Value} {w:World}
 (h:YieldsIn P ops (fun w'=>∃ p,w' = ext E w p) o v a):YieldsIf P ops (E w) o v a:=by
 rcases h with ⟨h1,h2⟩ | h
 . refine .inl ⟨h1,fun w' hw'=>?_⟩;have h3:=h2 w' (zpn hw');unfold Oper.quietAt at h3;generalize hr:(execOp a.eval o).run P w' = r at h3;cases r with
   | halt x w2=>simp [Oper.quietUpon] at h3
   | ok n w2 =>
     obtain ⟨u,rfl⟩:=zjf hc _ _ _ _ hr;simp only [Oper.quietUpon] at h3;obtain ⟨rfl,rfl⟩:=h3;rfl
 . exact .inr h
def nth:List Oper -> Nat -> Option Oper
 | [],_=>none
 | o :: _,0=>some o
 | _ :: l,n + 1=>nth l n
theorem zcy {L:List Oper} {i:Nat} {o:Oper} (h:nth L i = some o):L.toArray[i]? = some o:=by
 induction L generalizing i with
 | nil=>simp [nth] at h
 | cons x l ih =>
   cases i with
   | zero=>simpa [nth] using h
   | succ n=>simpa using ih (by simpa [nth] using h)
def At (L:List Oper):List Nat -> List Oper -> Prop
 | [],[]=>True
 | i :: qs,o :: l=>nth L i = some o /\ At L qs l
 | _,_=>False
theorem At.nil {L:List Oper}:At L [] []:=trivial
theorem At.cons {L:List Oper} {i:Nat} {o:Oper} {qs:List Nat} {l:List Oper} (h:nth L i = some o) (t:At L qs l):At L (i :: qs) (o :: l):=⟨h,t⟩
theorem zdt {L:List Oper} (hrefl:∀ w,E w w) (htrans:∀ a b c,E a b -> E b c -> E a c) (hs:Region.noSelect L.toArray = true) (hQ:∀ c a w,¬ Q (.panic c) a w) (fuel:Nat) (w:World) :
 ∀ (qs:List Nat) (l:List Oper) (done:List Nat) (a:Act),At L qs l -> zcQ L.toArray T qs done = true ->
 wpQuiet P L.toArray (fun w'=>∃ p,w' = ext E w p) (fun a'=>Left P L.toArray Q E T fuel (done ++ qs) a' w) l a -> Left P L.toArray Q E T (fuel + qs.length) done a w
 | [],[],done,a,_,_,h=>by simpa [wpQuiet] using h
 | [],_ :: _,_,_,hl,_,_=>hl.elim
 | _ :: _,[],_,_,hl,_,_=>hl.elim
 | i :: qs,o :: l,done,a,hl,hb,h=>by
   obtain ⟨hi,hl⟩:=hl;have hi:=zcy hi;simp only [zcQ,Bool.and_eq_true,hi,Option.map_some,Option.getD_some] at hb;obtain ⟨⟨⟨⟨hf,hr⟩,hc⟩,hT⟩,hb⟩:=hb;have hq:qOp P L.toArray (fun w'=>∃ p,w' = ext E w p) i (wpQuiet P L.toArray (fun w'=>∃ p,w' = ext E w p) (fun a'=>Left P L.toArray Q E T fuel (done ++ i :: qs) a' w) l) a:=by
    unfold qOp;simp only [hi];exact h
   obtain ⟨v,hy,hK⟩:=yieldsIn_of_qOp hi hq;have ih:=zdt hrefl htrans hs hQ fuel w qs l (done ++ [i]) (a.put o.dst v) hl hb (by simpa using hK);unfold Left at *;rw [<- zch] at ih;exact zgo hrefl htrans hi (Region.noSelect_spec hs) (fun c a w h=>absurd h (hQ c _ w)) (fun t ht=>List.all_eq_true.1 hT t ht) (fuel + qs.length) _ a w (Region.free_spec hi hf) (by simpa using hr) (zdZ hc hy) ih
def zbc (Q:Exit -> Act -> World -> Prop):Exit -> Act -> World -> Prop
 | .panic _,_,_=>False
 | e,a,w=>Q e a w
theorem left_q {L:List Oper} {Q:Exit -> Act -> World -> Prop} {E:World -> World -> Prop} {T:List Nat} [hr:Std.Refl E] [ht:Trans E E E] (i:Nat) {o:Oper} {fuel:Nat} {done:List Nat} {a:Act} {w:World} (hi:nth L i = some o)
 (hb:(Region.noSelect L.toArray && zcQ L.toArray T [i] done) = true) (h:wpQuiet P L.toArray (fun w'=>∃ p,w' = ext E w p) (fun a'=>Left P L.toArray (zbc Q) E T fuel (done ++ [i]) a' w) [o] a):Left P L.toArray (zbc Q) E T (fuel + 1) done a w:=by
 simp only [Bool.and_eq_true] at hb;exact zdt hr.refl (fun _ _ _=>ht.trans) hb.1 (fun _ _ _ h=>h) fuel w [i] [o] done a (At.cons hi At.nil) hb.2 h
def Act1 (P:Program) (ops:Array Oper) (Q:Exit -> Act -> World -> Prop) (E:World -> World -> Prop) (T:List Nat) (fuel:Nat) (done:List Nat) (i:Nat) (o:Oper) (a:Act) (w:World):Prop :=
 ∀ K:Act -> World -> Prop,(∀ a' w',(i ∈ T \/ E w w') -> Left P ops Q E T fuel (done ++ [i]) a' w' -> K a' w') ->
   if Region.wanted o (yielded ops a.tmps) then o.wp P a w K Q else K (a.put o.dst undef) w
theorem zbg {fuel:Nat} {done:List Nat} {i:Nat} {o:Oper} {a:Act} {w:World} (hi:ops[i]? = some o) (h:Act1 P ops Q E T fuel done i o a w) :
 wpOp P ops Q i (fun a' w'=>(i ∈ T \/ E w w') /\ zds P ops Q E T fuel ((za9 ops.size done).setIfInBounds i true) a' w') a w:=by
 have:=h (fun a' w'=>(i ∈ T \/ E w w') /\ zds P ops Q E T fuel ((za9 ops.size done).setIfInBounds i true) a' w') (fun a' w' he hl=>⟨he,by rw [zch];exact hl⟩)
 unfold wpOp;simp only [hi];split
 . rename_i hw;rw [if_pos hw] at this;exact .inl this
 . rename_i hw;rw [if_neg hw] at this;exact this
theorem zaZ {L:List Oper} {fuel:Nat} {done:List Nat} (i:Nat) {o:Oper} {a:Act} {w:World} (hr:(Region.ready .any L.toArray (za9 L.toArray.size done) == [i]) = true) (hi:nth L i = some o)
 (h:Act1 P L.toArray Q E T fuel done i o a w):Left P L.toArray Q E T (fuel + 1) done a w:=by
 have hr:=beq_iff_eq.1 hr;refine ⟨fun h0=>(by rw [hr] at h0;cases h0),?_⟩;rw [hr];intro j hj;obtain rfl:=List.mem_singleton.1 hj;exact zbg (zcy hi) h
theorem zcj {L:List Oper} {fuel:Nat} {done:List Nat} (i j:Nat) {o u:Oper} {a:Act} {w:World} (hr:(Region.ready .any L.toArray (za9 L.toArray.size done) == [i,j]) = true) (hi:nth L i = some o) (hj:nth L j = some u)
 (h:Act1 P L.toArray Q E T fuel done i o a w) (h':Act1 P L.toArray Q E T fuel done j u a w):Left P L.toArray Q E T (fuel + 1) done a w:=by
 have hr:=beq_iff_eq.1 hr;refine ⟨fun h0=>(by rw [hr] at h0;cases h0),?_⟩;rw [hr];intro k hk;simp only [List.mem_cons,List.not_mem_nil,or_false] at hk;rcases hk with rfl | rfl
 . exact zbg (zcy hi) h
 . exact zbg (zcy hj) h'
theorem zkw {done:List Nat} {a:Act} {w:World} (hr:(Region.ready .any ops (za9 ops.size done) == []) = true) (h:Q .normal a w):Left P ops (zbc Q) E T 0 done a w :=
 ⟨beq_iff_eq.1 hr,h⟩
theorem zkg {id:Nat} {a:Act} {w:World} (E:World -> World -> Prop) (T:List Nat) (n:Nat) (hn:ops.size = n) (hm:P.follows .mixedOrders = true) (h:Left P ops (zbc Q) E T n [] a w.drew):(Code.region id ops true).wp P Q a w:=by
 subst hn;refine Code.wp_mono (Q:=zbc Q) ?_ (wp_region_any hm (zeH _ _ _ _ h));intro e a w h;cases e <;> first | exact h | exact h.elim
theorem begin {id:Nat} {a:Act} {w:World} (E:World -> World -> Prop) (n:Nat) (hn:ops.size = n) (hm:P.follows .mixedOrders = true) (h:Left P ops (zbc Q) E [] n [] a w.drew):(Code.region id ops true).wp P Q a w:=zkg E [] n hn hm h
theorem plain {fuel:Nat} {done:List Nat} {i:Nat} {o:Oper} {a:Act} {w:World} (hg:o.guard = none)
 (h:∀ K:Act -> World -> Prop,(∀ a' w',E w w' -> Left P ops Q E T fuel (done ++ [i]) a' w' -> K a' w') -> o.wp P a w K Q):Act1 P ops Q E T fuel done i o a w :=
 fun K hK=>by rw [if_pos (by simp [Region.wanted,hg])];exact h K (fun a' w' he=>hK a' w' (.inr he))
theorem last {fuel:Nat} {done:List Nat} {i:Nat} {o:Oper} {a:Act} {w:World} (hg:o.guard = none) (hi:T.contains i = true)
 (h:∀ K:Act -> World -> Prop,(∀ a' w',Left P ops Q E T fuel (done ++ [i]) a' w' -> K a' w') -> o.wp P a w K Q):Act1 P ops Q E T fuel done i o a w :=
 fun K hK=>by rw [if_pos (by simp [Region.wanted,hg])];exact h K (fun a' w'=>hK a' w' (.inl (by simpa using hi)))
theorem want {fuel:Nat} {done:List Nat} {i:Nat} {o:Oper} {a:Act} {w:World} (hg:Region.wanted o (yielded ops a.tmps) = true)
 (h:∀ K:Act -> World -> Prop,(∀ a' w',E w w' -> Left P ops Q E T fuel (done ++ [i]) a' w' -> K a' w') -> o.wp P a w K Q):Act1 P ops Q E T fuel done i o a w :=
 fun K hK=>by rw [if_pos hg];exact h K (fun a' w' he=>hK a' w' (.inr he))
theorem skip (hrefl:∀ w,E w w) {fuel:Nat} {done:List Nat} {i:Nat} {o:Oper} {a:Act} {w:World} (hg:Region.wanted o (yielded ops a.tmps) = false)
 (h:Left P ops Q E T fuel (done ++ [i]) (a.put o.dst undef) w):Act1 P ops Q E T fuel done i o a w :=
 fun K hK=>by rw [if_neg (by rw [hg];simp)];exact hK _ _ (.inr (hrefl w)) h
def nths (L:List Oper):List Nat -> Option (List Oper)
 | []=>some []
 | i :: q=>match nth L i,nths L q with
   | some o,some l=>some (o :: l)
   | _,_=>none
theorem At.of:∀ {L:List Oper} {js:List Nat} {l:List Oper},nths L js = some l -> At L js l
 | L,[],l,h=>by cases h;exact At.nil
 | L,i :: q,l,h=>by
   unfold nths at h;split at h
   . rename_i o l' ho hl;cases h;exact At.cons ho (At.of hl)
   . cases h
theorem qs {L:List Oper} {Q:Exit -> Act -> World -> Prop} {E:World -> World -> Prop} {T:List Nat} [hr:Std.Refl E] [ht:Trans E E E] (n:Nat) (js:List Nat) {l:List Oper} {fuel:Nat} {done:List Nat} {a:Act} {w:World}
 (h:wpQuiet P L.toArray (fun w'=>∃ p,w' = ext E w p) (fun a'=>Left P L.toArray (zbc Q) E T fuel (done ++ js) a' w) l a) (hi:nths L js = some l:=by rfl) (hn:js.length = n:=by rfl) (hb:(Region.noSelect L.toArray && zcQ L.toArray T js done) = true:=by kernel_rfl):Left P L.toArray (zbc Q) E T (fuel + n) done a w:=by
 simp only [Bool.and_eq_true] at hb;subst hn;exact zdt hr.refl (fun _ _ _=>ht.trans) hb.1 (fun _ _ _ h=>h) fuel w js l done a (At.of hi) hb.2 h
theorem o1 {L:List Oper} {fuel:Nat} {done:List Nat} (i:Nat) {o:Oper} {a:Act} {w:World}
 (h:∀ K:Act -> World -> Prop,(∀ a' w',E w w' -> Left P L.toArray Q E T fuel (done ++ [i]) a' w' -> K a' w') -> o.wp P a w K Q)
 (hr:(Region.ready .any L.toArray (za9 L.toArray.size done) == [i]) = true:=by kernel_rfl) (hi:nth L i = some o:=by rfl) (hg:o.guard = none:=by rfl):Left P L.toArray Q E T (fuel + 1) done a w:=zaZ i hr hi (plain hg h)
theorem ol {L:List Oper} {fuel:Nat} {done:List Nat} (i:Nat) {o:Oper} {a:Act} {w:World}
 (h:∀ K:Act -> World -> Prop,(∀ a' w',Left P L.toArray Q E T fuel (done ++ [i]) a' w' -> K a' w') -> o.wp P a w K Q)
 (hr:(Region.ready .any L.toArray (za9 L.toArray.size done) == [i]) = true:=by kernel_rfl) (hi:nth L i = some o:=by rfl) (hg:o.guard = none:=by rfl) (ht:T.contains i = true:=by kernel_rfl):Left P L.toArray Q E T (fuel + 1) done a w:=zaZ i hr hi (last hg ht h)
theorem ow {L:List Oper} {fuel:Nat} {done:List Nat} (i:Nat) {o:Oper} {a:Act} {w:World}
 (h:∀ K:Act -> World -> Prop,(∀ a' w',E w w' -> Left P L.toArray Q E T fuel (done ++ [i]) a' w' -> K a' w') -> o.wp P a w K Q)
 (hr:(Region.ready .any L.toArray (za9 L.toArray.size done) == [i]) = true:=by kernel_rfl) (hi:nth L i = some o:=by rfl) (hg:Region.wanted o (yielded L.toArray a.tmps) = true:=by rfl):Left P L.toArray Q E T (fuel + 1) done a w:=zaZ i hr hi (want hg h)
theorem dn {done:List Nat} {a:Act} {w:World} (h:Q .normal a w) (hr:(Region.ready .any ops (za9 ops.size done) == []) = true:=by kernel_rfl):Left P ops (zbc Q) E T 0 done a w:=zkw hr h
theorem o2 {L:List Oper} {fuel:Nat} {done:List Nat} (i j:Nat) {o u:Oper} {a:Act} {w:World}
 (h:∀ K:Act -> World -> Prop,(∀ a' w',E w w' -> Left P L.toArray Q E T fuel (done ++ [i]) a' w' -> K a' w') -> o.wp P a w K Q) (h':∀ K:Act -> World -> Prop,(∀ a' w',E w w' -> Left P L.toArray Q E T fuel (done ++ [j]) a' w' -> K a' w') -> u.wp P a w K Q)
 (hr:(Region.ready .any L.toArray (za9 L.toArray.size done) == [i,j]) = true:=by kernel_rfl) (hi:nth L i = some o:=by rfl) (hj:nth L j = some u:=by rfl) (hg:o.guard = none:=by rfl) (hg':u.guard = none:=by rfl):Left P L.toArray Q E T (fuel + 1) done a w:=zcj i j hr hi hj (plain hg h) (plain hg' h')
theorem bT {id:Nat} {a:Act} {w:World} (E:World -> World -> Prop) (T:List Nat) (n:Nat) (h:Left P ops (zbc Q) E T n [] a w.drew) (hn:ops.size = n:=by rfl) (hm:P.follows .mixedOrders = true:=by kernel_rfl):(Code.region id ops true).wp P Q a w:=zkg E T n hn hm h
theorem b0 {id:Nat} {a:Act} {w:World} (E:World -> World -> Prop) (n:Nat) (h:Left P ops (zbc Q) E [] n [] a w.drew) (hn:ops.size = n:=by rfl) (hm:P.follows .mixedOrders = true:=by kernel_rfl):(Code.region id ops true).wp P Q a w:=zkg E [] n hn hm h
end
structure ExtM (M:Nat -> Prop) (w w':World):Prop where
 os:w'.os = w.os
 tape:w'.tape = w.tape
 output:w'.output = w.output
 size:w.heap.size <= w'.heap.size
 block:∀ k,k < w.heap.size -> ¬ M k -> w'.heap[k]? = w.heap[k]?
theorem ExtM.refl {M:Nat -> Prop} (w:World):ExtM M w w:=⟨rfl,rfl,rfl,Nat.le_refl _,fun _ _ _=>rfl⟩
theorem ExtM.trans {M:Nat -> Prop} (a b c:World) (h:ExtM M a b) (k:ExtM M b c):ExtM M a c :=
 ⟨k.os.trans h.os,k.tape.trans h.tape,k.output.trans h.output,Nat.le_trans h.size k.size,fun i hi hm=>(k.block i (Nat.lt_of_lt_of_le hi h.size) hm).trans (h.block i hi hm)⟩
instance {M:Nat -> Prop}:Std.Refl (ExtM M):=⟨ExtM.refl⟩
instance {M:Nat -> Prop}:Trans (ExtM M) (ExtM M) (ExtM M):=⟨fun h k=>ExtM.trans _ _ _ h k⟩
abbrev Ext (w w':World):Prop:=ExtM (fun _=>False) w w'
theorem ExtM.cell {M:Nat -> Prop} {w w':World} (h:ExtM M w w') {p:Addr} (hp:p.block < w.heap.size) (hm:¬ M p.block):w'.cell? p = w.cell? p:=World.cell?_of_block (w:=w) (h.block p.block hp hm)
theorem ExtM.frozen {M:Nat -> Prop} {w w':World} (h:ExtM M w w') {p:Addr} (hp:p.block < w.heap.size) (hm:¬ M p.block):w'.frozen? p = w.frozen? p:=World.frozen?_of_block (w:=w) (h.block p.block hp hm)
theorem ExtM.mono {M M':Nat -> Prop} {w w':World} (h:ExtM M w w') (hM:∀ k,k < w.heap.size -> M k -> M' k):ExtM M' w w' :=
 ⟨h.os,h.tape,h.output,h.size,fun k hk hm=>h.block k hk (fun h'=>hm (hM k hk h'))⟩
theorem Ext.below {w w':World} (h:Ext w w'):Below w.heap.size w w':=⟨h.os,h.tape,h.output,h.size,fun k hk=>h.block k hk id⟩
theorem ExtM.drew {M:Nat -> Prop} {a w:World} (h:ExtM M a w):ExtM M a w.drew:=⟨h.os,h.tape,h.output,h.size,h.block⟩
theorem ExtM.drewN {M:Nat -> Prop} {a w:World} (h:ExtM M a w) (n:Nat):ExtM M a (w.drewN n):=⟨h.os,h.tape,h.output,h.size,h.block⟩
theorem ExtM.alloc {M:Nat -> Prop} {a w:World} (h:ExtM M a w) (o:Obj):ExtM M a (w.alloc o) :=
 h.trans _ _ _ ⟨rfl,rfl,rfl,by simp,fun k hk _=>Below.heap_alloc _ _ _ hk⟩
theorem ExtM.setCell {M:Nat -> Prop} {a w:World} (h:ExtM M a w) {p:Addr} (hp:a.heap.size <= p.block \/ M p.block) (u:Value):ExtM M a (w.setCell p u) :=
 ⟨h.os,h.tape,h.output,by simpa [World.setCell] using h.size,fun k hk hm=>by
  rw [Below.heap_setCell _ _ _ _ (by rintro rfl;rcases hp with hp | hp;omega;exact hm hp)];exact h.block k hk hm⟩
theorem ExtM.grown {M:Nat -> Prop} {a w w':World} {row:Option Nat} (h:ExtM M a w) (hg:w.grownBy w' row) (hr:∀ k,row = some k -> a.heap.size <= k \/ M k):ExtM M a w' :=
 ⟨hg.os.trans h.os,hg.tape.trans h.tape,hg.output.trans h.output,Nat.le_trans h.size hg.size,fun k hk hm=>by
  rw [hg.block k (Nat.lt_of_lt_of_le hk h.size) (fun e=>by rcases hr k e.symm with h' | h';omega;exact hm h')];exact h.block k hk hm⟩
theorem Ext.rules {w w':World} (h:Ext w w'):(∀ b o,b < w.heap.size -> w'.cell? ⟨b,o,none⟩ = w.cell? ⟨b,o,none⟩) /\ (∀ b o,b < w.heap.size -> w'.frozen? ⟨b,o,none⟩ = w.frozen? ⟨b,o,none⟩) /\ (∀ b,b < w.heap.size -> b < w'.heap.size) :=
 ⟨fun b o hb=>h.cell (p:=⟨b,o,none⟩) hb id,fun b o hb=>h.frozen (p:=⟨b,o,none⟩) hb id,fun _ hb=>Nat.lt_of_lt_of_le hb h.size⟩
@[go_sem] theorem cell?_ext (w p:World) (b o:Nat) (hb:b < w.heap.size):(ext Ext w p).cell? ⟨b,o,none⟩ = w.cell? ⟨b,o,none⟩ :=
  (zb7 ExtM.refl w p).cell (p:=⟨b,o,none⟩) hb id
@[go_sem] theorem frozen?_ext (w p:World) (b o:Nat) (hb:b < w.heap.size):(ext Ext w p).frozen? ⟨b,o,none⟩ = w.frozen? ⟨b,o,none⟩ :=
  (zb7 ExtM.refl w p).frozen (p:=⟨b,o,none⟩) hb id
def ExtF (N:Nat) (w w':World):Prop:=ExtM (fun k=>N <= k) w w'
theorem ExtF.refl {N:Nat} (w:World):ExtF N w w:=ExtM.refl w
theorem ExtF.trans {N:Nat} (a b c:World) (h:ExtF N a b) (k:ExtF N b c):ExtF N a c:=ExtM.trans _ _ _ h k
instance {N:Nat}:Std.Refl (ExtF N):=⟨ExtF.refl⟩
instance {N:Nat}:Trans (ExtF N) (ExtF N) (ExtF N):=⟨fun h k=>ExtF.trans _ _ _ h k⟩
theorem ExtF.of_ext {N:Nat} {w w':World} (h:Ext w w'):ExtF N w w':=ExtM.mono h (fun _ _ h=>h.elim)
theorem ExtF.drew {N:Nat} {a w:World} (h:ExtF N a w):ExtF N a w.drew:=ExtM.drew h
theorem ExtF.alloc {N:Nat} {a w:World} (h:ExtF N a w) (o:Obj):ExtF N a (w.alloc o):=ExtM.alloc h o
theorem ExtF.grown {N:Nat} {a w w':World} {row:Option Nat} (h:ExtF N a w) (hg:w.grownBy w' row) (hr:∀ k,row = some k -> a.heap.size <= k \/ N <= k):ExtF N a w':=ExtM.grown h hg hr
theorem ExtF.rules {N:Nat} {w w':World} (h:ExtF N w w'):(∀ b o,b < w.heap.size -> b < N -> w'.cell? ⟨b,o,none⟩ = w.cell? ⟨b,o,none⟩) /\ (∀ b o,b < w.heap.size -> b < N -> w'.frozen? ⟨b,o,none⟩ = w.frozen? ⟨b,o,none⟩) :=
 ⟨fun b o hb hm=>ExtM.cell h (p:=⟨b,o,none⟩) hb (Nat.not_le.2 hm),fun b o hb hm=>ExtM.frozen h (p:=⟨b,o,none⟩) hb (Nat.not_le.2 hm)⟩
theorem ExtF.ext {N:Nat} {w w':World} (h:ExtF N w w') (hN:w.heap.size <= N):Ext w w':=⟨h.os,h.tape,h.output,h.size,fun k hk _=>h.block k hk (by omega)⟩
@[go_sem] theorem cell?_extF (N:Nat) (w p:World) (b o:Nat) (hb:b < w.heap.size) (hm:b < N):(Plan.ext (ExtF N) w p).cell? ⟨b,o,none⟩ = w.cell? ⟨b,o,none⟩ :=
  (zb7 ExtF.refl w p).rules.1 b o hb hm
@[go_sem] theorem frozen?_extF (N:Nat) (w p:World) (b o:Nat) (hb:b < w.heap.size) (hm:b < N):(Plan.ext (ExtF N) w p).frozen? ⟨b,o,none⟩ = w.frozen? ⟨b,o,none⟩ :=
  (zb7 ExtF.refl w p).rules.2 b o hb hm
@[go_sem] theorem cell?_ext_drew (w p:World) (b o:Nat) (hb:b < w.heap.size):(Plan.ext Ext w.drew p).cell? ⟨b,o,none⟩ = w.cell? ⟨b,o,none⟩:=cell?_ext w.drew p b o hb
@[go_sem] theorem frozen?_ext_drew (w p:World) (b o:Nat) (hb:b < w.heap.size):(Plan.ext Ext w.drew p).frozen? ⟨b,o,none⟩ = w.frozen? ⟨b,o,none⟩:=frozen?_ext w.drew p b o hb
@[go_sem] theorem cell?_ext_drewN (w p:World) (n:Nat) (b o:Nat) (hb:b < w.heap.size):(Plan.ext Ext (w.drewN n) p).cell? ⟨b,o,none⟩ = w.cell? ⟨b,o,none⟩:=cell?_ext (w.drewN n) p b o hb
@[go_sem] theorem frozen?_ext_drewN (w p:World) (n:Nat) (b o:Nat) (hb:b < w.heap.size):(Plan.ext Ext (w.drewN n) p).frozen? ⟨b,o,none⟩ = w.frozen? ⟨b,o,none⟩:=frozen?_ext (w.drewN n) p b o hb
@[go_sem] theorem cell?_extF_drew (N:Nat) (w p:World) (b o:Nat) (hb:b < w.heap.size) (hm:b < N):(Plan.ext (ExtF N) w.drew p).cell? ⟨b,o,none⟩ = w.cell? ⟨b,o,none⟩:=cell?_extF N w.drew p b o hb hm
@[go_sem] theorem frozen?_extF_drew (N:Nat) (w p:World) (b o:Nat) (hb:b < w.heap.size) (hm:b < N):(Plan.ext (ExtF N) w.drew p).frozen? ⟨b,o,none⟩ = w.frozen? ⟨b,o,none⟩:=frozen?_extF N w.drew p b o hb hm
@[go_sem] theorem cell?_extF_drewN (N:Nat) (w p:World) (n:Nat) (b o:Nat) (hb:b < w.heap.size) (hm:b < N):(Plan.ext (ExtF N) (w.drewN n) p).cell? ⟨b,o,none⟩ = w.cell? ⟨b,o,none⟩:=cell?_extF N (w.drewN n) p b o hb hm
@[go_sem] theorem frozen?_extF_drewN (N:Nat) (w p:World) (n:Nat) (b o:Nat) (hb:b < w.heap.size) (hm:b < N):(Plan.ext (ExtF N) (w.drewN n) p).frozen? ⟨b,o,none⟩ = w.frozen? ⟨b,o,none⟩:=frozen?_extF N (w.drewN n) p b o hb hm
end Go.Plan
