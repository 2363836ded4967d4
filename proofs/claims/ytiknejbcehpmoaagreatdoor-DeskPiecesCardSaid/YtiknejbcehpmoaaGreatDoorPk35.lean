import Derived.Test.YtiknejbcehpmoaaGreatDoorPk10
import Derived.Laws.AppendOwn
set_option maxRecDepth 100000
set_option maxHeartbeats 8000000
namespace Go.Proofs.YtiknejbcehpmoaaGreatDoor
open Go.RowKit Go.Plan
theorem zaw {P:Program} {w w':World} {o:Oper} {a:Act} {K:Act -> World -> Prop} {Q:Exit -> Act -> World -> Prop} {t ty:TypeId} {v x v':Value} (hr:(Builtin.append_ #[t,t] ty #[v,x]).run P w = .ok v' w') (hty:o.type = ty) (so xo:Operand)
 (ho:o.op = .call { callee:=.builtin .append,args:=#[so,xo],argTypes:=#[t,t] }) (hs:a.eval so = v) (hx:a.eval xo = x) (h:K (a.put o.dst v') w'):o.wp P a w K Q:=by
 subst hty;unfold Oper.wp execOp;simp only [ho,resolve,invoke,builtin,Sem.run_bind,Sem.run_pure,Result.andThen_ok,List.map_toArray,List.map_cons,List.map_nil,hs,hx,hr];exact h
theorem zeZ (l:List Out) (i c:Nat) (hi:i < l.length) (hc:c < 9):(l.flatMap Out.cells)[i * 9 + c]? = (l[i]'hi).cells[c]?:=by
 induction l generalizing i with
 | nil=>simp at hi
 | cons x r ih =>
   rw [List.flatMap_cons];have hx:x.cells.length = 9:=rfl;cases i with
   | zero=>rw [List.getElem?_append_left (by rw [hx];omega)];simp
   | succ i =>
     rw [List.getElem?_append_right (by rw [hx];omega),hx]
     have:=ih i (by simpa using hi)
     rw [show (i + 1) * 9 + c - 9 = i * 9 + c by omega,this];simp
theorem zbq.own {w:World} {base n:Nat} {e:TypeId} {v:Value} {l:List Out} (h:w.ownsRow base e 9 v n (l.flatMap Out.cells)) (hn:n = l.length):∃ p cap,v = .slice p l.length cap /\ l.length <= cap /\ zbq w p l:=by
 subst hn;obtain ⟨hl,hr⟩:=h;rcases hr with ⟨rfl,h0⟩ | ⟨g,cap,cur,rfl,hbase,hb,h1,h2,h3,h4⟩
 . exact ⟨none,0,by rw [h0],by omega,.inl (List.eq_nil_of_length_eq_zero h0)⟩
 . refine ⟨_,cap,rfl,h1,.inr ⟨g,rfl,fun i hi=>?_⟩⟩;have r:∀ c,c < 9 -> w.cell? ⟨g,i * 9 + c,none⟩ = (l[i]'hi).cells[c]?:=fun c hc=>by
    have e1:=zeZ l i c hi hc;rw [<- h4,List.getElem?_take_of_lt (by omega),Array.getElem?_toList] at e1;simpa [World.cell?,hb] using e1
   exact ⟨r 0 (by omega),r 1 (by omega),r 2 (by omega),r 3 (by omega),r 4 (by omega),r 5 (by omega),r 6 (by omega),r 7 (by omega),r 8 (by omega)⟩
end Go.Proofs.YtiknejbcehpmoaaGreatDoor
