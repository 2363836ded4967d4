import Derived.Test.YtmcgnnmffeojpabGreatDoorPk7
import Derived.Laws.AppendOwn
set_option maxRecDepth 100000
set_option maxHeartbeats 8000000
namespace Go.Proofs.YtmcgnnmffeojpabGreatDoor
open Go.RowKit Go.Plan
theorem zmU (a b:Out) (w:World):(binOp .eql 86 (.agg #[.int .i64 a.key,.int .i64 a.l.k,.int .i64 a.l.t,.int .i64 a.l.v,.int .i64 a.r.k,.int .i64 a.r.t,.int .i64 a.r.v,.bool a.hl,.bool a.hr]) (.agg #[.int .i64 b.key,.int .i64 b.l.k,.int .i64 b.l.t,.int .i64 b.l.v,.int .i64 b.r.k,.int .i64 b.r.t,.int .i64 b.r.v,.bool b.hl,.bool b.hr])).run Tryz.prog w = .ok (.bool (decide (a = b))) w:=by
 obtain ⟨a1,⟨a2,a3,a4⟩,⟨a5,a6,a7⟩,a8,a9⟩:=a;obtain ⟨b1,⟨b2,b3,b4⟩,⟨b5,b6,b7⟩,b8,b9⟩:=b;go_simp
 (repeat' split) <;> simp_all
theorem zaw {P:Program} {w w':World} {o:Oper} {a:Act} {K:Act -> World -> Prop} {Q:Exit -> Act -> World -> Prop} {t ty:TypeId} {v x v':Value} (hr:(Builtin.append_ #[t,t] ty #[v,x]).run P w = .ok v' w') (hty:o.type = ty) (so xo:Operand)
 (ho:o.op = .call { callee:=.builtin .append,args:=#[so,xo],argTypes:=#[t,t] }) (hs:a.eval so = v) (hx:a.eval xo = x) (h:K (a.put o.dst v') w'):o.wp P a w K Q:=by
 subst hty;unfold Oper.wp execOp;simp only [ho,resolve,invoke,builtin,Sem.run_bind,Sem.run_pure,Result.andThen_ok,List.map_toArray,List.map_cons,List.map_nil,hs,hx,hr];exact h
theorem zfg:(Tryz.prog.info? 86).map (fun i=>(i.zero,i.size,i.bytes)) = some (some (encO ⟨0,⟨0,0,0⟩,⟨0,0,0⟩,false,false⟩),9,64):=by kernel_rfl
theorem zjk (x:Out):∀ v ∈ x.cells,v.oneCell' = true:=by
 intro v hv;simp only [Out.cells,List.mem_cons,List.not_mem_nil,or_false] at hv;rcases hv with rfl | rfl | rfl | rfl | rfl | rfl | rfl | rfl | rfl <;> rfl
theorem zeS (l:List Out):(l.flatMap Out.cells).length = l.length * 9:=by
 induction l with
 | nil=>rfl
 | cons x r ih=>rw [List.flatMap_cons,List.length_append,ih,List.length_cons];have:x.cells.length = 9:=rfl;omega
theorem zeZ (l:List Out) (i c:Nat) (hi:i < l.length) (hc:c < 9):(l.flatMap Out.cells)[i * 9 + c]? = (l[i]'hi).cells[c]?:=by
 induction l generalizing i with
 | nil=>simp at hi
 | cons x r ih =>
   rw [List.flatMap_cons];have hx:x.cells.length = 9:=rfl;cases i with
   | zero=>rw [List.getElem?_append_left (by rw [hx];omega)];simp
   | succ i =>
     rw [List.getElem?_append_right (by rw [hx];omega),hx]
     have:=ih i (by simpa using hi)
     rw [show (i + 1) * 9 + c - 9 = i * 9 + c by omega,this];simp
theorem zc3 (W:World) (base:Nat) (v:Value) (acc ys:List Out) (a:Addr) (c:Nat) (ty:TypeId) (hown:W.ownsRow base 86 9 v acc.length (acc.flatMap Out.cells))
 (hx:∀ j u,(ys.flatMap Out.cells)[j]? = some u -> W.cell? (a.add j) = some u) (hl:acc.length + ys.length < 1000000000) (hb:base <= W.heap.size) :
 ∃ p n cap w',(Builtin.append_ #[50,50] ty #[v,.slice (some a) ys.length c]).run Tryz.prog W = .ok (.slice p n cap) w' /\ w'.ownsRow base 86 9 (.slice p n cap) (acc ++ ys).length ((acc ++ ys).flatMap Out.cells) /\ W.grownBy w' v.ownBlock /\
   ((Value.slice p n cap).ownBlock = v.ownBlock \/ (Value.slice p n cap).ownBlock = some W.heap.size):=by
 obtain ⟨i0,hi,hz0,hz1,hz2⟩:=info_parts zfg;obtain ⟨v',w',h1,h2,h3,-,h5⟩:=run_append_own_at (P:=Tryz.prog) W base 50 ty 86 i0 (encO ⟨0,⟨0,0,0⟩,⟨0,0,0⟩,false,false⟩) 9 64 Tryz.underlying50 hi hz0 hz1 hz2 rfl (by decide) v acc.length _ hown a ys.length c (ys.flatMap Out.cells) (zeS ys)
  hx (by
   intro v hv;obtain ⟨x,-,hx⟩:=List.mem_flatMap.1 hv
   exact zjk x v hx) (by unfold maxLen;omega) (by omega) hb
 have hsl:∃ p n cap,v' = .slice p n cap:=by
  rcases h2.2 with ⟨h,-⟩ | ⟨g,cap,cur,h,-⟩
  . exact ⟨_,_,_,h⟩
  . exact ⟨_,_,_,h⟩
 obtain ⟨p,n,cap,rfl⟩:=hsl;refine ⟨p,n,cap,w',h1,?_,h3,h5⟩;rw [List.flatMap_append,List.length_append];exact h2
theorem zgM {w:World} {b:Nat} {l:List Out} (h:∀ i (hi:i < l.length),zbI w b (i * 9) (l[i]'hi)) (ys:List Out) (k:Nat) (hy:∀ i,i < ys.length -> l[k + i]? = ys[i]?) (j:Nat) (u:Value) (hj:(ys.flatMap Out.cells)[j]? = some u):w.cell? ⟨b,k * 9 + j,none⟩ = some u:=by
 have hjl:j < ys.length * 9:=by rw [<- zeS];exact (List.getElem?_eq_some_iff.1 hj).1
 have hi:j / 9 < ys.length:=by omega
 have hk:=hy (j / 9) hi;rw [List.getElem?_eq_getElem hi] at hk;obtain ⟨hkl,he⟩:=List.getElem?_eq_some_iff.1 hk;have el:=h (k + j / 9) hkl;rw [he] at el;have hc:=zeZ ys (j / 9) (j % 9) hi (Nat.mod_lt _ (by decide));rw [show j / 9 * 9 + j % 9 = j by omega,hj] at hc;have ha:k * 9 + j = (k + j / 9) * 9 + j % 9:=by omega
 rw [ha];have hm:j % 9 < 9:=Nat.mod_lt _ (by decide);generalize ys[j / 9] = y at *;match hq:j % 9,hm with
 | 0,_=>rw [hq] at hc;rw [hc];exact el.e0
 | 1,_=>rw [hq] at hc;rw [hc];exact el.e1
 | 2,_=>rw [hq] at hc;rw [hc];exact el.e2
 | 3,_=>rw [hq] at hc;rw [hc];exact el.e3
 | 4,_=>rw [hq] at hc;rw [hc];exact el.e4
 | 5,_=>rw [hq] at hc;rw [hc];exact el.e5
 | 6,_=>rw [hq] at hc;rw [hc];exact el.e6
 | 7,_=>rw [hq] at hc;rw [hc];exact el.e7
 | 8,_=>rw [hq] at hc;rw [hc];exact el.e8
theorem zlA {l:List Out} {k:Nat} {x:Out} (h:l[k]? = some x) (hn:x ∉ l.take k):l.erase x = l.take k ++ l.drop (k + 1):=by
 have e:l = l.take k ++ x :: l.drop (k + 1):=by
  obtain ⟨hk,rfl⟩:=List.getElem?_eq_some_iff.1 h;have e:=List.take_append_drop k l;rw [List.drop_eq_getElem_cons hk] at e;exact e.symm
 generalize l.take k = a at *;generalize l.drop (k + 1) = b at *;subst e;rw [List.erase_append_right _ hn,List.erase_cons_head]
theorem zbq.own {w:World} {base n:Nat} {e:TypeId} {v:Value} {l:List Out} (h:w.ownsRow base e 9 v n (l.flatMap Out.cells)) (hn:n = l.length):∃ p cap,v = .slice p l.length cap /\ l.length <= cap /\ zbq w p l:=by
 subst hn;obtain ⟨hl,hr⟩:=h;rcases hr with ⟨rfl,h0⟩ | ⟨g,cap,cur,rfl,hbase,hb,h1,h2,h3,h4⟩
 . exact ⟨none,0,by rw [h0],by omega,.inl (List.eq_nil_of_length_eq_zero h0)⟩
 . refine ⟨_,cap,rfl,h1,.inr ⟨g,rfl,fun i hi=>?_⟩⟩;have r:∀ c,c < 9 -> w.cell? ⟨g,i * 9 + c,none⟩ = (l[i]'hi).cells[c]?:=fun c hc=>by
    have e1:=zeZ l i c hi hc;rw [<- h4,List.getElem?_take_of_lt (by omega),Array.getElem?_toList] at e1;simpa [World.cell?,hb] using e1
   exact ⟨r 0 (by omega),r 1 (by omega),r 2 (by omega),r 3 (by omega),r 4 (by omega),r 5 (by omega),r 6 (by omega),r 7 (by omega),r 8 (by omega)⟩
end Go.Proofs.YtmcgnnmffeojpabGreatDoor
