import Derived.Test.YtmcgnnmffeojpabGreatDoorPk4
import Derived.Deep.AppendLies
set_option maxRecDepth 100000
set_option maxHeartbeats 8000000
namespace Go.Proofs.YtmcgnnmffeojpabGreatDoor
open Go.RowKit Go.Plan
theorem zfc {w w':World} {b off:Nat} {xs:List Int} (h:zcu w b off xs) (he:Ext w w') (hb:b < w.heap.size):zcu w' b off xs :=
 fun i hi=>by rw [he.cell (p:=⟨b,off + i,none⟩) hb id];exact h i hi
theorem zju {w:World} {base:Nat} {e:TypeId} {g n cap:Nat} {xs:List Int} (h:w.ownsRow base e 1 (.slice (some ⟨g,0,none⟩) n cap) n (xs.map (Value.int .i64))) (hn:n = xs.length):zcu w g 0 xs:=by
 intro i hi;rw [Nat.zero_add,h.cellAt i (by omega)];simp [hi]
def Ints (w:World) (xs:List Int) (e:Ending) (w':World):Prop :=
 ∃ b cap,e = .returned (.slice (some ⟨b,0,none⟩) xs.length cap) /\ zcu w' b 0 xs /\ w.heap.size <= b /\ b < w'.heap.size /\ Ext w w'
theorem zgO (k t v:Int) (w:World) :
 Calls Tryz.prog 53 #[.agg #[.int .i64 k,.int .i64 t,.int .i64 v]] w (Ints w [k,t,v]):=by
 go_enter Tryz.func53,Tryz.ntmps53;go_wp2;go_ret;refine ⟨w.heap.size + 1,3,rfl,?_,by omega,by simp,((ExtM.refl _).alloc _).alloc _⟩;intro i hi;revert i;simp only [List.length_cons,List.length_nil];intro i hi
 match i,hi with
 | 0,_=>go_simp
 | 1,_=>go_simp
 | 2,_=>go_simp
def flagI (b:Bool):Int:=if b then 1 else 0
theorem ziF (b:Bool) (w:World):Calls Tryz.prog 145 #[.bool b] w fun e w'=>e = .returned (.int .i64 (flagI b)) /\ w = w':=by
 cases b
 . go_enter Tryz.func145,Tryz.ntmps145;go_wp2;go_ret;exact ⟨rfl,rfl⟩
 . go_enter Tryz.func145,Tryz.ntmps145;go_wp2;go_ret;exact ⟨rfl,rfl⟩
theorem zmX (b:Bool) (w:World):Calls Tryz.prog 54 #[.bool b] w fun e w'=>e = .returned (.int .i64 (flagI b)) /\ w = w':=by
 cases b
 . go_enter Tryz.func54,Tryz.ntmps54;go_wp2;go_ret;exact ⟨rfl,rfl⟩
 . go_enter Tryz.func54,Tryz.ntmps54;go_wp2;go_ret;exact ⟨rfl,rfl⟩
structure Row where
 k:Int
 t:Int
 v:Int
 deriving DecidableEq
structure Out where
 key:Int
 l:Row
 r:Row
 hl:Bool
 hr:Bool
 deriving DecidableEq
def zad (a b:Out):Int :=
 orI [cmpI a.key b.key,cmpI (flagI a.hl) (flagI b.hl),zaF a.l.k a.l.t a.l.v b.l.k b.l.t b.l.v,cmpI (flagI a.hr) (flagI b.hr),zaF a.r.k a.r.t a.r.v b.r.k b.r.t b.r.v]
theorem zhf:(Tryz.prog.info? 3).map (fun i=>(i.zero,i.size,i.bytes)) = some (some (.int .i64 0),1,8):=by kernel_rfl
theorem zkb {w:World} {b:Nat} {xs:List Int} (h:zcu w b 0 xs):∀ (j:Nat) (u:Value),(xs.map (Value.int .i64))[j]? = some u -> w.cell? ((⟨b,0,none⟩:Addr).add j) = some u:=fun j u hu=>by
 have hadd:(⟨b,0,none⟩:Addr).add j = ⟨b,j,none⟩:=by unfold Addr.add;split <;> simp_all
 rw [List.getElem?_map,Option.map_eq_some_iff] at hu;obtain ⟨x,hx,rfl⟩:=hu;have hj:j < xs.length:=(List.getElem?_eq_some_iff.1 hx).1
 have:=h j hj
 rw [Nat.zero_add] at this;rw [hadd,this];simp [List.getD,hx]
theorem zlC (xs:List Int):∀ u ∈ xs.map (Value.int .i64),u.oneCell' = true:=by
 intro u hu;obtain ⟨x,_,rfl⟩:=List.mem_map.1 hu;rfl
theorem zby {o:Oper} {a:Act} {w:World} {K:Act -> World -> Prop} {Q:Exit -> Act -> World -> Prop} (s x:Operand)
 (ho:o.op = .call { callee:=.builtin .append,args:=#[s,x],argTypes:=#[81,81] })
 (base g n c:Nat) (xs:List Int) (hs:a.eval s = .slice (some ⟨g,0,none⟩) n c) (hown:w.ownsRow base 3 1 (.slice (some ⟨g,0,none⟩) n c) n (xs.map (Value.int .i64)))
 (b m c2:Nat) (news:List Int) (hx:a.eval x = .slice (some ⟨b,0,none⟩) m c2) (hl:news.length = m) (hnews:zcu w b 0 news)
 (hm:0 < m) (h63:n + m <= 1000) (hbase:base <= w.heap.size)
 (h:∀ g' cap w',w'.ownsRow base 3 1 (.slice (some ⟨g',0,none⟩) (n + m) cap) (n + m) ((xs ++ news).map (Value.int .i64)) -> w.grownBy w' (some g) -> (g' = g \/ g' = w.heap.size) -> g' < w'.heap.size -> K (a.put o.dst (.slice (some ⟨g',0,none⟩) (n + m) cap)) w'):o.wp Tryz.prog a w K Q:=by
 obtain ⟨i0,hi,hz0,hz1,hz2⟩:=info_parts zhf;refine wp_append_lies w s x 81 ho base 3 i0 (.int .i64 0) 1 8 Tryz.underlying81 hi hz0 hz1 hz2 rfl (by decide) _ n _ hs hown ⟨b,0,none⟩ m c2 (news.map (Value.int .i64)) hx (by simp [hl]) (zkb hnews) (zlC _) hm (by unfold maxLen;omega) (by omega) hbase _ rfl ?_;intro g' cap w' h1 h2 h3 h4;refine h g' cap w' (by rw [List.map_append];exact h1) h2 (by rcases h3 with h3 | h3;left;simp [Value.ownBlock] at h3;exact h3.symm;right;exact h3) h4
theorem zhT {w:World} {xs:List Int} {n g:Nat} (hn:n = xs.length) (hm:n <= 1000) {base:Nat} (hb:base <= w.heap.size) (hg:w.heap.size = g):(w.alloc (.cells (xs.map (Value.int .i64)).toArray 3)).ownsRow base 3 1 (.slice (some ⟨g,0,none⟩) n n) n (xs.map (Value.int .i64)):=by
 subst hg;refine ⟨by simp [hn],.inr ⟨w.heap.size,n,_,rfl,hb,heap_alloc_new w _,Nat.le_refl _,by unfold maxLen;omega,by simp [hn],by simp [hn,List.take_of_length_le]⟩⟩
theorem zid {w w':World} {base:Nat} {e:TypeId} {size n:Nat} {v:Value} {xs:List Value} (h:w.ownsRow base e size v n xs) (he:Ext w w'):w'.ownsRow base e size v n xs :=
 h.kept (row:=none) ⟨he.os,he.tape,he.output,he.size,fun k hk _=>he.block k hk id⟩ (by cases hv:v.ownBlock <;> simp)
def outI (a:Out):List Int:=[a.key,flagI a.hl,a.l.k,a.l.t,a.l.v,flagI a.hr,a.r.k,a.r.t,a.r.v]
theorem zcL (a:Out) (w:World) :
 Calls Tryz.prog 115 #[.agg #[.int .i64 a.key,.int .i64 a.l.k,.int .i64 a.l.t,.int .i64 a.l.v,.int .i64 a.r.k,.int .i64 a.r.t,.int .i64 a.r.v,.bool a.hl,.bool a.hr]] w (Ints w (outI a)):=by
 unfold outI;obtain ⟨k,⟨lk,lt,lv⟩,⟨rk,rt,rv⟩,hl,hr⟩:=a;simp only;go_enter Tryz.func115,Tryz.ntmps115;go_wp2_with fail;refine Plan.b0 (Plan.ExtF (w.heap.size + 1)) 11 ?_;refine Plan.qs 6 [0,1,2,3,6,7] ?_;iterate 6 go_big_quiet_step (fail)
 refine Plan.o1 4 fun K hK=>?_;go_wp2_with (fail);refine (zmX _ _).mono ?_;rintro e w' ⟨rfl,rfl⟩;go_wp2_with (fail);refine hK _ _ (ExtF.refl _) ?_;clear hK K;generalize hX:Obj.cells #[.int .i64 k,.int .i64 lk,.int .i64 lt,.int .i64 lv,.int .i64 rk,.int .i64 rt,.int .i64 rv,.bool hl,.bool hr] 86 = X;have HX:Hid (Obj.cells #[.int .i64 k,.int .i64 lk,.int .i64 lt,.int .i64 lv,.int .i64 rk,.int .i64 rt,.int .i64 rv,.bool hl,.bool hr] 86 = X):=hX;clear hX;refine Plan.o2 5 8 (fun K hK=>?_) fun K hK=>?_
 case' refine_1 =>
  go_wp2_with (fail);refine hK _ _ ((ExtF.refl _).alloc _) ?_;clear hK K;have hO:=zhT (w:=(w.alloc X).drew) (xs:=[k,flagI hl]) (n:=2) (g:=w.heap.size + 1) rfl (by omega) (base:=w.heap.size + 1) (by simp) (by simp);refine Plan.o1 8 fun K hK=>?_;go_wp2_with (fail);refine (zgO _ _ _ _).mono ?_;rintro e w1 ⟨b2,c2,rfl,hN,l2,lt2,h1⟩;go_wp2_with (fail);refine hK _ _ (ExtF.of_ext h1) ?_;clear hK K;have hO:=zid hO h1;have hW:ExtF (w.heap.size + 1) (w.alloc X) w1:=ExtF.trans _ _ _ (((ExtF.refl _).drew).alloc _) (ExtF.of_ext h1);have hsz:w.heap.size + 1 < w1.heap.size:=by have:=h1.size;simp at this;omega
  have hne:b2 ≠ w.heap.size + 1:=by simp at l2;omega
  clear h1 l2;refine Plan.o1 9 fun K hK=>?_;refine zby _ _ rfl (w.heap.size + 1) _ 2 2 [k,flagI hl] rfl hO _ 3 _ [lk,lt,lv] rfl rfl hN (by omega) (by omega) (by omega) ?_;intro g3 c3 w3 hO3 hg3 hat3 hlt3;refine hK _ _ ((ExtF.refl _).grown hg3 (by simp)) ?_;clear hK K;have hW3:ExtF (w.heap.size + 1) (w.alloc X) w3:=hW.grown hg3 (by simp);have hsz3:w.heap.size + 1 < w3.heap.size:=by have:=hg3.size;omega
  clear hg3 hat3 hlt3 hN hO hne lt2 hW hsz;simp only [Act.put,List.setIfInBounds_toArray,List.set_cons_succ,List.set_cons_zero];refine Plan.qs 1 [10] ?_;go_big_quiet_step (fail);refine Plan.dn ?_;go_wp2_with (fail)
 case' refine_2 =>
  go_wp2_with (fail);refine (zgO _ _ _ _).mono ?_;rintro e w1 ⟨b2,c2,rfl,hN,l2,lt2,h1⟩;go_wp2_with (fail);refine hK _ _ (ExtF.of_ext h1) ?_;clear hK K;have hW:ExtF (w.heap.size + 1) (w.alloc X) w1:=ExtF.trans _ _ _ ((ExtF.refl _).drew) (ExtF.of_ext h1);have hsz:w.heap.size + 1 <= w1.heap.size:=by have:=h1.size;simp at this;omega
  clear h1 l2;refine Plan.o1 5 fun K hK=>?_;go_wp2_with (fail);refine hK _ _ ((ExtF.refl _).alloc _) ?_;clear hK K;have hO:=zhT (w:=w1) (xs:=[k,flagI hl]) (n:=2) (g:=w1.heap.size) rfl (by omega) (base:=w.heap.size + 1) (by omega) (by simp);have hN2:=zfc hN ((ExtM.refl w1).alloc (.cells ([k,flagI hl].map (Value.int .i64)).toArray 3)) lt2;refine Plan.o1 9 fun K hK=>?_;refine zby _ _ rfl (w.heap.size + 1) _ 2 2 [k,flagI hl] rfl hO _ 3 _ [lk,lt,lv] rfl rfl hN2 (by omega) (by omega) (by simp;omega) ?_;intro g3 c3 w3 hO3 hg3 hat3 hlt3;refine hK _ _ ((ExtF.refl _).grown hg3 (by simp;omega)) ?_;clear hK K;have hW3:ExtF (w.heap.size + 1) (w.alloc X) w3:=(hW.alloc _).grown hg3 (by simp;omega);have hsz3:w.heap.size + 1 < w3.heap.size:=by have:=hg3.size;simp at this;omega
  clear hg3 hat3 hlt3 hN2 hN hO lt2 hW hsz;simp only [Act.put,List.setIfInBounds_toArray,List.set_cons_succ,List.set_cons_zero];refine Plan.qs 1 [10] ?_;go_big_quiet_step (fail);refine Plan.dn ?_;go_wp2_with (fail)
 all_goals
  have hX:=HX.out;subst hX;have rb:=hW3.rules.1;have hlt3:w.heap.size < w3.heap.size:=by omega
  refine Plan.b0 (Plan.ExtF (w.heap.size + 1)) 11 ?_;refine Plan.qs 5 [0,1,2,6,7] ?_;iterate 5 go_big_quiet_step (fail)
  refine Plan.o1 3 fun K hK=>?_;go_wp2_with (fail);refine (zmX _ _).mono ?_;rintro e w' ⟨rfl,rfl⟩;go_wp2_with (fail);refine hK _ _ (ExtF.refl _) ?_;clear hK K;refine Plan.o1 4 fun K hK=>?_;go_wp2_with (fail);refine hK _ _ ((ExtF.refl _).alloc _) ?_;clear hK K rb;have hO4:=hO3.alloc (.cells ([flagI hr].map (Value.int .i64)).toArray 3);have hW4:=(hW3.alloc (.cells #[.int .i64 (flagI hr)] 3)).drew;have hN4:zcu (w3.alloc (.cells ([flagI hr].map (Value.int .i64)).toArray 3)) w3.heap.size 0 [flagI hr]:=by
   intro i hi;obtain rfl:i = 0:=by simpa using hi
   go_simp
  have hz4:(w3.alloc (.cells ([flagI hr].map (Value.int .i64)).toArray 3)).heap.size = w3.heap.size + 1:=by simp
  have hg3:=(hO3.lt g3 rfl).1;refine Plan.o1 5 fun K hK=>?_;refine zby _ _ rfl (w.heap.size + 1) g3 5 c3 ([k,flagI hl] ++ [lk,lt,lv]) rfl hO4 _ 1 _ [flagI hr] rfl rfl hN4 (by omega) (by omega) (by simp;omega) ?_;intro g5 c5 w5 hO5 hg5 hat5 hlt5;refine hK _ _ ((ExtF.refl _).grown hg5 (by simp;omega)) ?_;clear hK K;have hW5:ExtF (w.heap.size + 1) _ w5:=hW4.grown hg5 (by simp;omega);have hsz5:w.heap.size + 1 < w5.heap.size:=by have:=hg5.size;simp at this;omega
  clear hN4 hO4 hW4 hz4 hat5 hlt5 hO3 hW3 hg5;simp only [Act.put,List.setIfInBounds_toArray,List.set_cons_succ,List.set_cons_zero];refine Plan.o1 8 fun K hK=>?_;go_wp2_with (fail);refine (zgO _ _ _ _).mono ?_;rintro e w6 ⟨b6,c6,rfl,hN6,l6,lt6,h6⟩;go_wp2_with (fail);refine hK _ _ (ExtF.of_ext h6) ?_;clear hK K;have hO6:=zid hO5 h6;have hW6:=ExtF.trans _ _ _ hW5 (ExtF.of_ext h6);have hz6:=h6.size;have hg5':=(hO5.lt g5 rfl).1;refine Plan.o1 9 fun K hK=>?_;refine zby _ _ rfl (w.heap.size + 1) g5 6 c5 (([k,flagI hl] ++ [lk,lt,lv]) ++ [flagI hr]) rfl hO6 _ 3 _ [rk,rt,rv] rfl rfl hN6 (by omega) (by omega) (by omega) ?_;intro g7 c7 w7 hO7 hg7 hat7 hlt7;refine hK _ _ ((ExtF.refl _).grown hg7 (by simp;omega)) ?_;clear hK K;have hW7:=hW6.grown hg7 (by simp;omega);simp only [Act.put,List.setIfInBounds_toArray,List.set_cons_succ,List.set_cons_zero];refine Plan.qs 1 [10] ?_;go_big_quiet_step (fail);refine Plan.dn ?_;go_wp2_with (fail);go_ret;exact ⟨g7,c7,rfl,zju hO7 rfl,by have:=(hO7.lt g7 rfl).1;omega,hlt7,ExtM.trans _ _ _ ((ExtM.refl _).alloc _) (ExtF.ext hW7 (by simp))⟩
def zbK (a b:Out):Int:=ordI (outI a) (outI b)
theorem zf5 (a b:Out) (w:World) :
 Calls Tryz.prog 69 #[.agg #[.int .i64 a.key,.int .i64 a.l.k,.int .i64 a.l.t,.int .i64 a.l.v,.int .i64 a.r.k,.int .i64 a.r.t,.int .i64 a.r.v,.bool a.hl,.bool a.hr],.agg #[.int .i64 b.key,.int .i64 b.l.k,.int .i64 b.l.t,.int .i64 b.l.v,.int .i64 b.r.k,.int .i64 b.r.t,.int .i64 b.r.v,.bool b.hl,.bool b.hr]] w fun e w' =>
  e = .returned (.int .i64 (zbK a b)) /\ Ext w w':=by
 unfold zbK;go_enter Tryz.func69,Tryz.ntmps69;go_wp2_with fail;refine Plan.b0 Plan.Ext 8 ?_;refine Plan.qs 4 [0,1,3,4] ?_;iterate 4 go_big_quiet_step (fail)
 refine Plan.o1 2 fun K hK=>?_;go_wp2_with (fail);refine (zcL a _).mono ?_;rintro e w1 ⟨b1,c1,rfl,i1,l1,lt1,h1⟩;go_wp2_with (fail);refine hK _ _ h1 ?_;clear hK K;refine Plan.o1 5 fun K hK=>?_;go_wp2_with (fail);refine (zcL b _).mono ?_;rintro e w2 ⟨b2,c2,rfl,i2,l2,lt2,h2⟩;go_wp2_with (fail);refine hK _ _ h2 ?_;clear hK K;refine Plan.o1 6 fun K hK=>?_;go_wp2_with (fail);refine (zkL (outI a) (outI b) _ _ _ _ _ _ _ (zfc i1 h2 lt1) i2 rfl (by simp [outI])).mono ?_;rintro e w' ⟨rfl,n,rfl⟩;go_wp2_with (fail);refine hK _ _ ((ExtM.refl _).drewN _) ?_;clear hK K;refine Plan.qs 1 [7] ?_;go_big_quiet_step (fail);refine Plan.dn ?_;go_wp2;go_ret;exact ⟨rfl,(ExtM.trans _ _ _ (ExtM.trans _ _ _ (((ExtM.refl _).alloc _).alloc _).drew h1) h2).drewN _⟩
def inB (n:Int):Bool:=decide (-1099511627776 <= n /\ n <= 1099511627776)
theorem zn9 (n:Int) (w:World):Calls Tryz.prog 128 #[.int .i64 n] w fun e w'=>e = .returned (.bool (inB n)) /\ w = w':=by
 by_cases h1:-1099511627776 <= n
 . by_cases h2:n <= 1099511627776
   . have e1:inB n = true:=by simp [inB,h1,h2]
     rw [e1];go_enter Tryz.func128,Tryz.ntmps128;go_wp2;go_ret;exact ⟨zbF (by first | (simp;done) | (simp;omega)),rfl⟩
   . have e1:inB n = false:=by simp [inB];omega
     rw [e1];go_enter Tryz.func128,Tryz.ntmps128;go_wp2;go_ret;exact ⟨zbF (by first | (simp;done) | (simp;omega)),rfl⟩
 . have e1:inB n = false:=by simp [inB];omega
   rw [e1];go_enter Tryz.func128,Tryz.ntmps128;go_wp2;go_ret;exact ⟨zbF (by first | (simp;done) | (simp;omega)),rfl⟩
theorem zdC (n lo hi:Int) (w:World):Calls Tryz.prog 50 #[.int .i64 n,.int .i64 lo,.int .i64 hi] w fun e w'=>e = .returned (.bool (decide (lo <= n /\ n <= hi))) /\ w = w':=by
 by_cases h1:lo <= n
 . by_cases h2:n <= hi
   . have e1:decide (lo <= n /\ n <= hi) = true:=by simp [h1,h2]
     rw [e1];go_enter Tryz.func50,Tryz.ntmps50;go_wp2;go_ret;exact ⟨zbF (by first | (simp;done) | (simp;omega)),rfl⟩
   . have e1:decide (lo <= n /\ n <= hi) = false:=by simp;omega
     rw [e1];go_enter Tryz.func50,Tryz.ntmps50;go_wp2;go_ret;exact ⟨zbF (by first | (simp;done) | (simp;omega)),rfl⟩
 . have e1:decide (lo <= n /\ n <= hi) = false:=by simp;omega
   rw [e1];go_enter Tryz.func50,Tryz.ntmps50;go_wp2;go_ret;exact ⟨zbF (by first | (simp;done) | (simp;omega)),rfl⟩
def za3 (k t v:Int):Bool:=inB k && inB t && inB v
theorem zdq (k t v:Int) (w:World):Calls Tryz.prog 85 #[.agg #[.int .i64 k,.int .i64 t,.int .i64 v]] w fun e w'=>e = .returned (.bool (za3 k t v)) /\ Ext w w':=by
 unfold za3;generalize hk:inB k = bk;generalize ht:inB t = bt;generalize hv:inB v = bv;have ck:=fun w=>hk ▸ zn9 k w;have ct:=fun w=>ht ▸ zn9 t w;have cv:=fun w=>hv ▸ zn9 v w;clear hk ht hv;have Ck:Hid (∀ w,Calls Tryz.prog 128 #[.int .i64 k] w fun e w'=>e = .returned (.bool bk) /\ w = w'):=ck;have Ct:Hid (∀ w,Calls Tryz.prog 128 #[.int .i64 t] w fun e w'=>e = .returned (.bool bt) /\ w = w'):=ct;have Cv:Hid (∀ w,Calls Tryz.prog 128 #[.int .i64 v] w fun e w'=>e = .returned (.bool bv) /\ w = w'):=cv;clear ck ct cv;cases bk
 . go_enter Tryz.func85,Tryz.ntmps85;go_wp2_with (go_at_call 128;refine (Ck.out _).mono ?_;rintro e w' ⟨rfl,rfl⟩);go_ret;exact ⟨rfl,(ExtM.refl _).alloc _⟩
 . cases bt
   . go_enter Tryz.func85,Tryz.ntmps85;go_wp2_with fail;refine (Ck.out _).mono ?_;rintro e w' ⟨rfl,rfl⟩;go_wp2_with fail;refine (Ct.out _).mono ?_;rintro e w' ⟨rfl,rfl⟩;go_wp2_with fail;go_ret;exact ⟨rfl,(ExtM.refl _).alloc _⟩
   . go_enter Tryz.func85,Tryz.ntmps85;go_wp2_with fail;refine (Ck.out _).mono ?_;rintro e w' ⟨rfl,rfl⟩;go_wp2_with fail;refine (Ct.out _).mono ?_;rintro e w' ⟨rfl,rfl⟩;go_wp2_with fail;refine (Cv.out _).mono ?_;rintro e w' ⟨rfl,rfl⟩;go_wp2_with fail;go_ret;exact ⟨zbF (by simp),(ExtM.refl _).alloc _⟩
theorem zlk (k t v:Int) (w:World):Calls Tryz.prog 36 #[.agg #[.int .i64 k,.int .i64 t,.int .i64 v]] w fun e w'=>e = .returned (.bool (za3 k t v)) /\ Ext w w':=by
 unfold za3;generalize hk:inB k = bk;generalize ht:inB t = bt;generalize hv:inB v = bv;unfold inB at hk ht hv;have ck:=fun w=>hk ▸ zdC k (-1099511627776) 1099511627776 w;have ct:=fun w=>ht ▸ zdC t (-1099511627776) 1099511627776 w;have cv:=fun w=>hv ▸ zdC v (-1099511627776) 1099511627776 w;clear hk ht hv;have Ck:Hid (∀ w,Calls Tryz.prog 50 #[.int .i64 k,.int .i64 (-1099511627776),.int .i64 1099511627776] w fun e w'=>e = .returned (.bool bk) /\ w = w'):=ck;have Ct:Hid (∀ w,Calls Tryz.prog 50 #[.int .i64 t,.int .i64 (-1099511627776),.int .i64 1099511627776] w fun e w'=>e = .returned (.bool bt) /\ w = w'):=ct;have Cv:Hid (∀ w,Calls Tryz.prog 50 #[.int .i64 v,.int .i64 (-1099511627776),.int .i64 1099511627776] w fun e w'=>e = .returned (.bool bv) /\ w = w'):=cv;clear ck ct cv;cases bk
 . go_enter Tryz.func36,Tryz.ntmps36;go_wp2_with (go_at_call 50;refine (Ck.out _).mono ?_;rintro e w' ⟨rfl,rfl⟩);go_ret;exact ⟨rfl,(ExtM.refl _).alloc _⟩
 . cases bt
   . go_enter Tryz.func36,Tryz.ntmps36;go_wp2_with fail;refine (Ck.out _).mono ?_;rintro e w' ⟨rfl,rfl⟩;go_wp2_with fail;refine (Ct.out _).mono ?_;rintro e w' ⟨rfl,rfl⟩;go_wp2_with fail;go_ret;exact ⟨rfl,(ExtM.refl _).alloc _⟩
   . go_enter Tryz.func36,Tryz.ntmps36;go_wp2_with fail;refine (Ck.out _).mono ?_;rintro e w' ⟨rfl,rfl⟩;go_wp2_with fail;refine (Ct.out _).mono ?_;rintro e w' ⟨rfl,rfl⟩;go_wp2_with fail;refine (Cv.out _).mono ?_;rintro e w' ⟨rfl,rfl⟩;go_wp2_with fail;go_ret;exact ⟨zbF (by simp),(ExtM.refl _).alloc _⟩
theorem zkN (k1 t1 v1 k2 t2 v2:Int) (w:World) :
 Calls Tryz.prog 93 #[.agg #[.int .i64 k1,.int .i64 t1,.int .i64 v1],.agg #[.int .i64 k2,.int .i64 t2,.int .i64 v2]] w fun e w' =>
  e = .returned (.agg #[.int .i64 k1,.int .i64 k1,.int .i64 t1,.int .i64 v1,.int .i64 k2,.int .i64 t2,.int .i64 v2,.bool true,.bool true]) /\ Ext w w':=by
 go_enter Tryz.func93,Tryz.ntmps93;go_wp2;refine bodyPost_ret (v:=.agg #[.int .i64 k1,.int .i64 k1,.int .i64 t1,.int .i64 v1,.int .i64 k2,.int .i64 t2,.int .i64 v2,.bool true,.bool true]) (by simp [results,Tryz.results93,go_sem]) rfl ⟨rfl,?_⟩;exact (((ExtM.refl _).alloc _).alloc _).alloc _
theorem zes (k1 t1 v1 k2 t2 v2:Int) (w:World) :
 Calls Tryz.prog 35 #[.agg #[.int .i64 k1,.int .i64 t1,.int .i64 v1],.agg #[.int .i64 k2,.int .i64 t2,.int .i64 v2]] w fun e w' =>
  e = .returned (.agg #[.int .i64 k1,.int .i64 k1,.int .i64 t1,.int .i64 v1,.int .i64 k2,.int .i64 t2,.int .i64 v2,.bool true,.bool true]) /\ Ext w w':=by
 go_enter Tryz.func35,Tryz.ntmps35;go_wp2;refine bodyPost_ret (v:=.agg #[.int .i64 k1,.int .i64 k1,.int .i64 t1,.int .i64 v1,.int .i64 k2,.int .i64 t2,.int .i64 v2,.bool true,.bool true]) (by simp [results,Tryz.results35,go_sem]) rfl ⟨rfl,?_⟩;exact (((ExtM.refl _).alloc _).alloc _).alloc _
theorem zj9 (s k t v:Int) (w:World) :
 Calls Tryz.prog 92 #[.int .i64 s,.agg #[.int .i64 k,.int .i64 t,.int .i64 v]] w fun e w' =>
  e = .returned (if s = 0 then .agg #[.int .i64 k,.int .i64 k,.int .i64 t,.int .i64 v,.int .i64 0,.int .i64 0,.int .i64 0,.bool true,.bool false] else .agg #[.int .i64 k,.int .i64 0,.int .i64 0,.int .i64 0,.int .i64 k,.int .i64 t,.int .i64 v,.bool false,.bool true]) /\ Ext w w':=by
 by_cases hs:s = 0
 . rw [if_pos hs];subst hs;go_enter Tryz.func92,Tryz.ntmps92;go_wp2;refine bodyPost_ret (v:=.agg #[.int .i64 k,.int .i64 k,.int .i64 t,.int .i64 v,.int .i64 0,.int .i64 0,.int .i64 0,.bool true,.bool false]) (by simp [results,Tryz.results92,go_sem]) rfl ⟨rfl,?_⟩;exact ((ExtM.refl _).alloc _).alloc _
 . rw [if_neg hs];have hs':(s == 0) = false:=by simpa using hs
   go_enter Tryz.func92,Tryz.ntmps92;go_wp2;refine bodyPost_ret (v:=.agg #[.int .i64 k,.int .i64 0,.int .i64 0,.int .i64 0,.int .i64 k,.int .i64 t,.int .i64 v,.bool false,.bool true]) (by simp [results,Tryz.results92,go_sem]) rfl ⟨rfl,?_⟩;exact ((ExtM.refl _).alloc _).alloc _
theorem zkl (s k t v:Int) (w:World) :
 Calls Tryz.prog 34 #[.int .i64 s,.agg #[.int .i64 k,.int .i64 t,.int .i64 v]] w fun e w' =>
  e = .returned (if s = 0 then .agg #[.int .i64 k,.int .i64 k,.int .i64 t,.int .i64 v,.int .i64 0,.int .i64 0,.int .i64 0,.bool true,.bool false] else .agg #[.int .i64 k,.int .i64 0,.int .i64 0,.int .i64 0,.int .i64 k,.int .i64 t,.int .i64 v,.bool false,.bool true]) /\ Ext w w':=by
 by_cases hs:s = 0
 . rw [if_pos hs];subst hs;go_enter Tryz.func34,Tryz.ntmps34;go_wp2;refine bodyPost_ret (v:=.agg #[.int .i64 k,.int .i64 k,.int .i64 t,.int .i64 v,.int .i64 0,.int .i64 0,.int .i64 0,.bool true,.bool false]) (by simp [results,Tryz.results34,go_sem]) rfl ⟨rfl,?_⟩;exact ((((ExtM.refl _).alloc _).alloc _).alloc _)
 . rw [if_neg hs];have hs':(s == 0) = false:=by simpa using hs
   go_enter Tryz.func34,Tryz.ntmps34;go_wp2;refine bodyPost_ret (v:=.agg #[.int .i64 k,.int .i64 0,.int .i64 0,.int .i64 0,.int .i64 k,.int .i64 t,.int .i64 v,.bool false,.bool true]) (by simp [results,Tryz.results34,go_sem]) rfl ⟨rfl,?_⟩;exact ((((ExtM.refl _).alloc _).alloc _).alloc _)
end Go.Proofs.YtmcgnnmffeojpabGreatDoor
