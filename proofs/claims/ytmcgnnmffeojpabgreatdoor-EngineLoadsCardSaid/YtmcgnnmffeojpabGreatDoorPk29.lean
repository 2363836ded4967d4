import Derived.Test.YtmcgnnmffeojpabGreatDoorPk26
import Derived.Test.YtmcgnnmffeojpabGreatDoorPk27
import Derived.Test.YtmcgnnmffeojpabGreatDoorPk28
import Derived.Deep.DeepCutAuto
import Derived.Deep.CutBlock
set_option maxRecDepth 100000
set_option maxHeartbeats 8000000
namespace Go.Proofs.YtmcgnnmffeojpabGreatDoor
open Go.RowKit Go.Plan
structure LdIs (u:World) (L:Nat) (p:Option Addr) (b:Bool):Prop where
 c0:u.cell? ⟨L,0,none⟩ = some (.pointer p)
 c1:u.cell? ⟨L,1,none⟩ = some (.bool b)
 f:∀ q,u.frozen? ⟨L,q,none⟩ = false
theorem LdIs.lt {u:World} {L:Nat} {p:Option Addr} {b:Bool} (h:LdIs u L p b):L < u.heap.size:=zac h.c0
theorem LdIs.keep {F:Nat -> Prop} {u u':World} {L:Nat} {p:Option Addr} {b:Bool} (h:LdIs u L p b) (hx:ExtM F u u') (hF:¬ F L):LdIs u' L p b :=
 ⟨(hx.cell (p:=⟨L,0,none⟩) h.lt hF).trans h.c0,(hx.cell (p:=⟨L,1,none⟩) h.lt hF).trans h.c1,fun q=>(hx.frozen (p:=⟨L,q,none⟩) h.lt hF).trans (h.f q)⟩
theorem LdIs.set {u:World} {L:Nat} {p:Option Addr} {b:Bool} (h:LdIs u L p b) (c:Bool):LdIs (u.setCell ⟨L,1,none⟩ (.bool c)) L p c:=by
 have h0:=h.c0;have h1:=h.c1;refine ⟨?_,?_,fun q=>?_⟩
 . go_simp
 . go_simp
 . have:=h.f q
   go_simp
theorem zaq.cells {u:World} {b:Nat} {a:Option Addr} {n:List Int} (h:zaq u b a n) (hn:n ≠ []):∃ g,a = some ⟨g,0,none⟩ /\ g ≠ b /\ g < u.heap.size /\ ∀ (i:Nat) (v:Int),n[i]? = some v -> u.cell? ⟨g,i,none⟩ = some (.int .i64 v):=by
 rcases h with h | ⟨g,cur,t,fz,rfl,h1,h2,h3,h4⟩
 . exact absurd h hn
 . refine ⟨g,rfl,h1,(Array.getElem?_eq_some_iff.1 h3).1,fun i v hv=>?_⟩;obtain ⟨hi,rfl⟩:=List.getElem?_eq_some_iff.1 hv
   have:=h4 i hi
   simp only [World.cell?,h3];exact this
def RR (w:World) (b:Nat) (v:Value) (R:List Row):Prop:=w.ownsRow b 37 3 v R.length (R.flatMap Row.cells)
theorem zlh (r:Row):r.cells.length = 3:=rfl
theorem znS:(Tryz.prog.info? 37).map (fun i=>(i.zero,i.size,i.bytes)) = some (some (.agg #[.int .i64 0,.int .i64 0,.int .i64 0]),3,24):=by kernel_rfl
theorem zcg (W:World) (base nb c:Nat) (v:Value) (acc:List Row) (r:Row) (ty:TypeId) (hown:RR W base v acc) (hx:∀ j u,r.cells[j]? = some u -> W.cell? ⟨nb,j,none⟩ = some u) (hl:acc.length < 1000000) (hb:base <= W.heap.size) :
 ∃ v' w',(Builtin.append_ #[181,181] ty #[v,.slice (some ⟨nb,0,none⟩) 1 c]).run Tryz.prog W = .ok v' w' /\ RR w' base v' (acc ++ [r]) /\ ExtR v.ownBlock W w' /\ (v'.ownBlock = v.ownBlock \/ ∃ k,v'.ownBlock = some k /\ W.heap.size <= k):=by
 obtain ⟨i0,hi,hz0,hz1,hz2⟩:=info_parts znS;obtain ⟨v',w',h1',h2,h3,-,h5⟩:=run_append_own_at (P:=Tryz.prog) W base 181 ty 37 i0 (.agg #[.int .i64 0,.int .i64 0,.int .i64 0]) 3 24 Tryz.underlying181 hi hz0 hz1 hz2 rfl (by decide) v acc.length _ hown ⟨nb,0,none⟩ 1 c r.cells rfl
  (fun j u hj=>by
    have e1:(⟨nb,0,none⟩:Addr).add j = ⟨nb,j,none⟩:=by unfold Addr.add;split <;> simp_all
    rw [e1];exact hx j u hj) (fun u hu=>by simp only [Row.cells,List.mem_cons,List.not_mem_nil,or_false] at hu;rcases hu with rfl | rfl | rfl <;> rfl) (by unfold maxLen;omega) (by omega) hb
 refine ⟨v',w',h1',?_,⟨h3.os,h3.tape,h3.output,h3.size,fun k hk hn=>h3.block k hk (fun e=>hn e.symm)⟩,?_⟩
 . unfold RR;rw [List.flatMap_append,List.length_append];simpa using h2
 . rcases h5 with h | h
   . exact .inl h
   . exact .inr ⟨_,h,Nat.le_refl _⟩
def zdr (R:List Row):List Int:=R.flatMap fun r=>[r.k,r.t,r.v]
theorem RR.ext {w w':World} {b:Nat} {v:Value} {R:List Row} (h:RR w b v R) (hx:Ext w w'):RR w' b v R:=zag h hx (fun _ _ h=>h)
theorem zfs {w w' w0:World} {N:Nat} {v:Value} {R:List Row} (h:ExtR v.ownBlock w w') (hR:RR w0 N v R):Plan.ExtF N w w':=ExtM.mono h (fun k _ e=>(zaf hR k e).1)
theorem RR.setL {w:World} {N:Nat} {v:Value} {R:List Row} (h:RR w N v R) {L:Nat} (hL:L < N) (c:Bool):RR (w.setCell ⟨L,1,none⟩ (.bool c)) N v R :=
 zag (M:=fun k=>k = L) h (ExtM.setCell (M:=fun k=>k = L) (p:=⟨L,1,none⟩) (ExtM.refl _) (.inr rfl) _) (fun k hk e=>by have:=(zaf h k hk).1;omega)
theorem ExtM.trans9 {M:Nat -> Prop} {u w w':World} (h:ExtM M u w) (hx:Ext w w'):ExtM M u w':=h.fresh' hx (fun _ _ h=>h.elim)
theorem zfI (w:World) (x:Out):CRow (w.alloc (.cells #[.int .i64 x.key,.int .i64 x.l.k,.int .i64 x.l.t,.int .i64 x.l.v,.int .i64 x.r.k,.int .i64 x.r.t,.int .i64 x.r.v,.bool x.hl,.bool x.hr,.bool false] 92)).drew w.heap.size (.slice (some ⟨w.heap.size,0,none⟩) 1 1) [(x,false)] :=
 ⟨rfl,.inr ⟨w.heap.size,1,_,rfl,Nat.le_refl _,heap_alloc_new _ _,Nat.le_refl _,by unfold maxLen;decide,rfl,rfl⟩⟩
theorem za0.ok {r:Row} (h:za0 r):r.ok:=by
 have:=h.i64
 refine ⟨?_,?_,?_⟩ <;> unfold I64 <;> omega
theorem zrd:Row.ok ⟨0,0,0⟩:=by unfold Row.ok I64;decide
theorem zq8 {rk rt rv:Int} (h:Row.ok ⟨rk,rt,rv⟩):(⟨rk,⟨rk,rt,rv⟩,⟨0,0,0⟩,true,false⟩:Out).ok:=⟨h.1,h,zrd⟩
theorem zq3 {rk rt rv:Int} (h:Row.ok ⟨rk,rt,rv⟩):(⟨rk,⟨0,0,0⟩,⟨rk,rt,rv⟩,false,true⟩:Out).ok:=⟨h.1,zrd,h⟩
theorem zqG {rk rt rv sk s2 sv:Int} (h:Row.ok ⟨rk,rt,rv⟩) (h':Row.ok ⟨sk,s2,sv⟩):(⟨rk,⟨rk,rt,rv⟩,⟨sk,s2,sv⟩,true,true⟩:Out).ok:=⟨h.1,h,h'⟩
theorem zjP {rk rt rv:Int} (h:za0 ⟨rk,rt,rv⟩):(⟨rk,⟨rk,rt,rv⟩,⟨0,0,0⟩,true,false⟩:Out).ok:=zq8 h.ok
theorem zkW {rk rt rv:Int} (h:za0 ⟨rk,rt,rv⟩):(⟨rk,⟨0,0,0⟩,⟨rk,rt,rv⟩,false,true⟩:Out).ok:=zq3 h.ok
theorem zkj {rk rt rv sk s2 sv:Int} (h:za0 ⟨rk,rt,rv⟩) (h':za0 ⟨sk,s2,sv⟩):(⟨rk,⟨rk,rt,rv⟩,⟨sk,s2,sv⟩,true,true⟩:Out).ok:=zqG h.ok h'.ok
def badR (r:Row):Bool:=!za3 r.k r.t r.v
theorem zpW {R:List Row} (h:∀ r ∈ R,za0 r):R.any badR = false:=by
 rw [List.any_eq_false];intro r hr
 have:=h r hr
 unfold za0 at this;unfold badR;rw [this];decide
theorem zqn (R:List Row) (r:Row):(R ++ [r]).any badR = (R.any badR || badR r):=by simp
theorem ziu {h rk rt rv:Int} (g:za0 ⟨rk,rt,rv⟩) (hh:h = 1 \/ h = 2):outE (h :: zdr [⟨rk,rt,rv⟩]) = some (zan (if h = 1 then 0 else 1) ⟨rk,rt,rv⟩):=by
 have g1:za3 rk rt rv = true:=g;show (if (h = 1 \/ h = 2) /\ za3 rk rt rv = true then _ else _) = _;rw [if_pos ⟨hh,g1⟩]
theorem zlP {rk rt rv sk s2 sv:Int} (g:za0 ⟨rk,rt,rv⟩) (g':za0 ⟨sk,s2,sv⟩) (hk:rk = sk):outE (3 :: zdr [⟨rk,rt,rv⟩,⟨sk,s2,sv⟩]) = some (zbs ⟨rk,rt,rv⟩ ⟨sk,s2,sv⟩):=by
 have g1:za3 rk rt rv = true:=g;have g2:za3 sk s2 sv = true:=g';show (if (3:Int) = 3 /\ za3 rk rt rv = true /\ za3 sk s2 sv = true /\ rk = sk then _ else _) = _;rw [if_pos ⟨rfl,g1,g2,hk⟩]
theorem zoj (W:World) (r:Row) (t:TypeId):∀ j u,r.cells[j]? = some u -> (W.alloc (.cells #[.int .i64 r.k,.int .i64 r.t,.int .i64 r.v] t)).cell? ⟨W.heap.size,j,none⟩ = some u:=fun j u hj =>
 (World.cell?_alloc_at _ _ _ j rfl).trans (by simpa [Row.cells] using hj)
theorem zdX (R:List Row):∀ (j:Nat) (hj:j < R.length),(zdr R)[3 * j]? = some R[j].k /\ (zdr R)[3 * j + 1]? = some R[j].t /\ (zdr R)[3 * j + 2]? = some R[j].v:=by
 unfold zdr;induction R with
 | nil=>intro j hj;simp at hj
 | cons r R ih =>
   intro j hj;rw [List.flatMap_cons];cases j with
   | zero=>exact ⟨rfl,rfl,rfl⟩
   | succ j =>
     have:=ih j (by simpa using hj)
     rw [List.getElem_cons_succ];have e:∀ c,(([r.k,r.t,r.v]:List Int) ++ R.flatMap fun r=>[r.k,r.t,r.v])[3 * (j + 1) + c]? = (R.flatMap fun r=>[r.k,r.t,r.v])[3 * j + c]?:=fun c=>by
      rw [List.getElem?_append_right (by simp;omega)];congr 1;simp;omega
     exact ⟨(e 0).trans this.1,(e 1).trans this.2.1,(e 2).trans this.2.2⟩
def LUpB (u u':World) (L E:Nat) (Bs:Nat -> Prop) (lo hi md:Int) (st:JSt) (V:List Out) (f0 f1:Int) (b:Bool):Prop :=
 ExtM (fun k=>k = L \/ Bs k) u u' /\ LdIs u' L (some ⟨E,0,none⟩) b /\ ∃ Bs',EAt u' E Bs' lo hi md st V V f0 f1 /\ ∀ k,Bs' k -> Bs k \/ u.heap.size <= k
def LUp (u u':World) (L E:Nat) (Bs:Nat -> Prop) (lo hi md:Int) (st:JSt) (V:List Out) (f0 f1:Int):Prop:=LUpB u u' L E Bs lo hi md st V f0 f1 false
theorem zkJ {M:Nat -> Prop} {u w w':World} {N:Nat} (h:ExtM M u w) (hN:N = u.heap.size) (y:Plan.ExtF N w w'):ExtM M u w':=h.fresh' y (fun k hk e=>absurd (show N <= k from e) (by omega))
theorem zdW {w:World} {b:Nat} {v:Value} {R:List Row} {r:Row} (h:RR w b v (R ++ [r])) {j:Nat} (hj:R.length = j) :
 ∃ g cap,v = .slice (some ⟨g,0,none⟩) (j + 1) cap /\ g < w.heap.size /\ w.cell? ⟨g,j * 3,none⟩ = some (.int .i64 r.k) /\ w.cell? ⟨g,j * 3 + 1,none⟩ = some (.int .i64 r.t) /\ w.cell? ⟨g,j * 3 + 2,none⟩ = some (.int .i64 r.v):=by
 subst hj;have hlen:(R ++ [r]).length = R.length + 1:=by simp
 have hk:∀ c,c < 3 -> ∃ g cap,v = .slice (some ⟨g,0,none⟩) (R.length + 1) cap /\ g < w.heap.size /\ w.cell? ⟨g,R.length * 3 + c,none⟩ = r.cells[c]?:=fun c hc=>by
  obtain ⟨g,cap,h1,h2,h3,-⟩:=zaJ (enc:=Row.cells) zlh h R.length c (by omega) hc;rw [List.getElem_concat_length rfl,hlen] at *;exact ⟨g,cap,h1,h2,h3⟩
 obtain ⟨g,cap,rfl,h2,h3⟩:=hk 0 (by omega);refine ⟨g,cap,rfl,h2,h3,?_,?_⟩
 . obtain ⟨g',cap',e,-,h⟩:=hk 1 (by omega);simp only [Value.slice.injEq,Option.some.injEq,Addr.mk.injEq,and_true,true_and] at e;rw [e.1];exact h
 . obtain ⟨g',cap',e,-,h⟩:=hk 2 (by omega);simp only [Value.slice.injEq,Option.some.injEq,Addr.mk.injEq,and_true,true_and] at e;rw [e.1];exact h
theorem zhw {u w w1 w2:World} {L E:Nat} {Bs:Nat -> Prop} {lo hi md:Int} {st:JSt} {V:List Out} {f0 f1:Int} {b:Bool} (h:ExtM (fun k=>k = L) u w) (hx:Ext w w1) (hl:LdIs w L (some ⟨E,0,none⟩) b) (hn:¬ Bs L) (hu:EUp w1 w2 E Bs lo hi md st V V f0 f1):LUpB u w2 L E Bs lo hi md st V f0 f1 b:=by
 obtain ⟨h1,h2,h3,h4⟩:=EUp.before hx hu;exact ⟨(h.mono (fun _ _ h=>.inl h)).fresh' h1 (fun _ _ h=>.inr h),hl.keep h1 hn,h2,h3,fun k hk=>(h4 k hk).imp id (fun q=>Nat.le_trans h.size q)⟩
theorem zng {w:World} {b:Nat} {v:Value} {r:Row} (h:RR w b v [r]) :
 ∃ g cap,v = .slice (some ⟨g,0,none⟩) 1 cap /\ b <= g /\ g < w.heap.size /\ w.cell? ⟨g,0,none⟩ = some (.int .i64 r.k) /\ w.cell? ⟨g,1,none⟩ = some (.int .i64 r.t) /\ w.cell? ⟨g,2,none⟩ = some (.int .i64 r.v):=by
 obtain ⟨g,cap,rfl,h1,h2,h3,h4⟩:=zdW (R:=[]) (j:=0) h rfl;simp only [Nat.zero_mul,Nat.zero_add] at h2 h3 h4;exact ⟨g,cap,rfl,(zaf h g rfl).1,h1,h2,h3,h4⟩
theorem zox {α:Type} {R:List α} (h:R.length = 2):∃ a b,R = [a,b]:=by
 match R,h with
 | [a,b],_=>exact ⟨a,b,rfl⟩
theorem zoQ {w:World} {b:Nat} {v:Value} {r s:Row} (h:RR w b v [r,s]) :
 ∃ g cap,v = .slice (some ⟨g,0,none⟩) 2 cap /\ b <= g /\ g < w.heap.size /\ w.cell? ⟨g,0,none⟩ = some (.int .i64 r.k) /\ w.cell? ⟨g,1,none⟩ = some (.int .i64 r.t) /\ w.cell? ⟨g,2,none⟩ = some (.int .i64 r.v) /\ w.cell? ⟨g,3,none⟩ = some (.int .i64 s.k) /\ w.cell? ⟨g,4,none⟩ = some (.int .i64 s.t) /\ w.cell? ⟨g,5,none⟩ = some (.int .i64 s.v):=by
 obtain ⟨g,cap,rfl,h1,h2,h3,h4⟩:=zdW (R:=[r]) (r:=s) (j:=1) h rfl;have hk:∀ c,c < 3 -> w.cell? ⟨g,c,none⟩ = r.cells[c]?:=fun c hc=>by
  obtain ⟨g',cap',e,-,h3,-⟩:=zaJ (enc:=Row.cells) zlh h 0 c (by simp) hc;simp only [Value.slice.injEq,Option.some.injEq,Addr.mk.injEq,and_true] at e;rw [Nat.zero_mul,Nat.zero_add] at h3;rw [e.1];exact h3
 exact ⟨g,cap,rfl,(zaf h g rfl).1,h1,hk 0 (by omega),hk 1 (by omega),hk 2 (by omega),h2,h3,h4⟩
theorem zky (k t v:Int) (w:World):Calls Tryz.prog 92 #[.int .i64 2,.agg #[.int .i64 k,.int .i64 t,.int .i64 v]] w fun e w'=>e = .returned (.agg #[.int .i64 k,.int .i64 0,.int .i64 0,.int .i64 0,.int .i64 k,.int .i64 t,.int .i64 v,.bool false,.bool true]) /\ Ext w w':=by
 have:=zj9 2 k t v w
 rwa [if_neg (by decide)] at this
def znl (wc wx:World) (B:Nat) (l:List Value):Prop:=ExtM (fun k=>k = B) wc wx /\ ∀ j v,l[j]? = some v -> wx.cell? ⟨B,j,none⟩ = some v
theorem zpB {wc w8:World} {B:Nat} {o':Out} (o:Out) (hx:Ext wc w8) (hB:B < wc.heap.size) (hn:∀ j v,(outL o')[j]? = some v -> wc.cell? ⟨B,j,none⟩ = some v):znl wc (zdl w8 B 0 (outL o)) B (outL o):=by
 have hp:=zcE B (outL o) 0 w8;refine ⟨(hx.mono (fun _ _ h=>h.elim)).fresh' hp (fun _ _ h=>h),fun j v hj=>?_⟩
 have:=zcf B (outL o) 0 w8 (fun j hj=>by
  have hj':j < (outL o').length:=hj;refine ⟨(outL o')[j],?_⟩;rw [Nat.zero_add]
  exact (hx.cell (p:=⟨B,j,none⟩) hB id).trans (hn j _ (List.getElem?_eq_getElem hj'))) j v hj
 rwa [Nat.zero_add] at this
theorem zoR {u w w':World} {L B:Nat} (h:ExtM (fun k=>k = L) u w) (hx:ExtM (fun k=>k = B) w w') (hB:u.heap.size <= B):ExtM (fun k=>k = L) u w':=h.fresh' hx (fun k hk e=>by omega)
def zoX (wc wx:World) (L E:Nat) (b:Bool):Prop:=ExtM (fun k=>k = L) wc wx /\ LdIs wx L (some ⟨E,0,none⟩) b
theorem zp4 {wc w:World} {L E:Nat} {c:Bool} (hl:LdIs wc L (some ⟨E,0,none⟩) c) (hx:Ext wc w) (b:Bool):zoX wc (w.setCell ⟨L,1,none⟩ (.bool b)) L E b :=
 ⟨ExtM.setCell (M:=fun k=>k = L) (p:=⟨L,1,none⟩) (hx.mono (fun _ _ h=>h.elim)) (.inr rfl) _,(hl.keep hx id).set b⟩
def outG (h:Int) (R:List Row):Out:=match R with
 | [r]=>zan (if h = 1 then 0 else 1) r
 | [r,s]=>zbs r s
 | _=>⟨0,⟨0,0,0⟩,⟨0,0,0⟩,false,false⟩
def badO (h:Int) (R:List Row):Bool:=if h = 3 then (R.any badR || decide ((R.headD ⟨0,0,0⟩).k ≠ (R.getD 1 ⟨0,0,0⟩).k)) else R.any badR
theorem zrp {u:World} {L E:Nat} {Bs:Nat -> Prop} {lo hi md:Int} {st:JSt} {V:List Out} {f0 f1:Int} (hL:LdIs u L (some ⟨E,0,none⟩) false) (hE:EAt u E Bs lo hi md st V V f0 f1) (hnB:¬ Bs L) (R:List Row) (hRl:R.length = 1) (hg:∀ r ∈ R,r.ok) (a:Option Addr) (cap:Nat) (hnum:zaq u L a (1 :: zdr R)) (hV:V.length < 900000) :
 Calls Tryz.prog 83 #[.pointer (some ⟨L,0,none⟩),.slice a 4 cap] u fun e u'=>∃ x,e = .returned (.tuple #[]) /\ x = outG 1 R /\ LUpB u u' L E Bs lo hi md st (x :: V) f0 f1 (badO 1 R):=by
 obtain ⟨g,rfl,hgL,hgu,hgc⟩:=hnum.cells (by simp);have g0:=hgc 0 1 rfl;have hgr:∀ j (hj:j < R.length),u.cell? ⟨g,1 + 3 * j,none⟩ = some (.int .i64 R[j].k) /\ u.cell? ⟨g,1 + 3 * j + 1,none⟩ = some (.int .i64 R[j].t) /\ u.cell? ⟨g,1 + 3 * j + 2,none⟩ = some (.int .i64 R[j].v):=fun j hj=>by
  obtain ⟨h1,h2,h3⟩:=zdX R j hj;refine ⟨hgc _ _ ?_,hgc _ _ ?_,hgc _ _ ?_⟩
  . rw [Nat.add_comm,List.getElem?_cons_succ];exact h1
  . rw [show 1 + 3 * j + 1 = 3 * j + 1 + 1 by omega,List.getElem?_cons_succ];exact h2
  . rw [show 1 + 3 * j + 2 = 3 * j + 2 + 1 by omega,List.getElem?_cons_succ];exact h3
 clear hgc hnum;obtain ⟨N,hN⟩:∃ N,N = u.heap.size:=⟨_,rfl⟩
 have HN:=Lib.hid hN;have hgN:g < N:=by omega
 have hLN:L < N:=by have:=hL.lt;omega
 clear hN;have HRL:=Lib.hid hRl;have hlt:=hL.lt;have HE:=Lib.hid hE;clear hRl;go_enter Tryz.func83,Tryz.ntmps83;go_wp2_with fail;go_loopg [4,5] 3 (fun kx s4 s5 wr=>∃ j k:Nat,s5 = .int .i64 k /\ k = 1 + 3 * j /\ j <= R.length /\ R.length - j <= kx /\ RR wr N s4 (R.take j) /\ ExtM (fun k=>k = L) u wr /\ LdIs wr L (some ⟨E,0,none⟩) ((R.take j).any badR))
 case atStart=>exact ⟨0,1,rfl,rfl,by omega,by have:=HRL.out;omega,⟨rfl,.inl ⟨rfl,rfl⟩⟩,ExtM.refl _,by rw [List.take_zero];exact hL⟩
 case round =>
  obtain ⟨j,k,rfl,hk,hj,hgk,hR,hx,hl⟩:=hrel;have hRl:=HRL.out;have hNw:N <= wr.heap.size:=by have:=hx.size;have:=HN.out;omega
  have hgw:g < wr.heap.size:=by omega
  have hLw:L < wr.heap.size:=by omega
  have c0:=hl.c0;have c1:=hl.c1;have cf:=hl.f 1;by_cases hjl:j < R.length
  . have hkm:k + 2 < 4:=by omega
    obtain ⟨y0,y1,y2⟩:=hgr j hjl;rw [<- hk] at y0 y1 y2;have z0:=(hx.cell (p:=⟨g,k,none⟩) hgu hgL).trans y0;have z1:=(hx.cell (p:=⟨g,k + 1,none⟩) hgu hgL).trans y1;have z2:=(hx.cell (p:=⟨g,k + 2,none⟩) hgu hgL).trans y2;have HTK:=Lib.hid (List.take_succ_eq_append_getElem hjl);have HK:=Lib.hid hk;have htl:(R.take j).length = j:=by rw [List.length_take];omega
    clear y0 y1 y2 hk;generalize R[j] = r at *;obtain ⟨rk,rt,rv⟩:=r;simp only at z0 z1 z2;obtain ⟨p,c,rfl,-⟩:=zaa hR;have hR1:=hR;rw [htl] at hR1 ⊢;have HX:=Lib.hid hx;have HL:=Lib.hid hl;have HN2:=Lib.hid hNw;have hRs:∀ W,Ext wr W -> RR W N (.slice p j c) (R.take j):=fun W hW=>by have:=hR.ext hW;rwa [htl] at this
    have hjm:(R.take j).length < 1000000:=by omega
    clear hR hR1 hx hl hNw hgr hE hL;go_upto_region 6 with fail;refine Plan.b0 (Plan.ExtF N) 19 ?_;refine Plan.qs 12 [0,1,2,3,4,5,6,7,8,9,10,11] ?_;iterate 12 go_big_quiet_step (fail)
    refine Plan.qs 4 [12,13,14,15] ?_;iterate 4 go_big_quiet_step (fail)
    refine Plan.o1 16 fun K hK=>?_;go_wp2_with (fail);refine hK _ _ ((ExtM.refl _).alloc _) ?_;clear hK K;refine Plan.o1 17 fun K hK=>?_;refine zau (zcg _ N _ _ _ (R.take j) ⟨rk,rt,rv⟩ _ (hRs _ ((ExtM.refl wr).drew.alloc _)) (zoj _ ⟨rk,rt,rv⟩ _) hjm (by simp;have:=HN2.out;omega)) _ _ rfl rfl rfl ?_;rintro v17 w17 ⟨o17,x17,l17⟩;have y17:=zfs x17 (hRs _ (ExtM.refl wr));refine hK _ _ (y17) ?_;simp only [Act.put,List.setIfInBounds_toArray,List.set_cons_succ,List.set_cons_zero];clear hK K;refine Plan.qs 1 [18] ?_;go_big_quiet_step (fail);refine Plan.dn ?_;have yall:Plan.ExtF N wr w17:=ExtF.trans _ _ _ (((ExtM.refl _).alloc _).drew) y17;have hx17:=zkJ HX.out HN.out yall;have hl17:=HL.out.keep yall (by omega);have hsz:=yall.size;have hll:(R.take j ++ [(⟨rk,rt,rv⟩:Row)]).length = j + 1:=by rw [List.length_append,htl];rfl
    obtain ⟨g2,c2,rfl,hg2,q0,q1,q2⟩:=zdW o17 htl;skip;have HX:=Lib.hid hx17;have HL:=Lib.hid hl17;have z0:=(hx17.cell (p:=⟨g,0,none⟩) hgu hgL).trans g0;have hLw:L < w17.heap.size:=by omega
    have hgw:g < w17.heap.size:=by omega
    have HO:=Lib.hid o17;have c0:=hl17.c0;have c1:=hl17.c1;have cf:=hl17.f 1;have HAN:Hid ((R.take (j + 1)).any badR = ((R.take j).any badR || badR ⟨rk,rt,rv⟩)):=Lib.hid (by rw [HTK.out,zqn]);clear y17 x17 l17 yall hx17 hl17 hsz hll o17 hRs;generalize hbb:(R.take j).any badR = bb at *;have HBB:=Lib.hid hbb;clear hbb;cases bb with
    | true =>
      have hl5:=HL.out.set true;have hx5:=HX.out.setCell (p:=⟨L,1,none⟩) (.inr rfl) (.bool true);have hO5:=HO.out.setL hLN true;have HL5:=Lib.hid hl5;have HX5:=Lib.hid hx5;have HO5:=Lib.hid hO5;clear hl5 hx5 hO5 z0 q0 q1 q2;go_wp2_with fail;go_roundg (R.length - (j + 1))
      case measure=>omega
      case rel =>
       refine ⟨j + 1,k + 3,by go_num,by have:=HK.out;omega,by omega,Nat.le_refl _,?_,HX5.out,?_⟩
       . rw [HTK.out];exact HO5.out
       . rw [HAN.out];exact HL5.out
    | false =>
    have hgood:=zdq rk rt rv;generalize hgb:za3 rk rt rv = gb at *;have HGB:=Lib.hid hgb;clear hgb;go_wp2_with (go_at_call 85;refine (hgood _).mono ?_;rintro e w3 ⟨rfl,hx3⟩;refine Hid.out ?_);refine Lib.hid ?_;have hl3:=HL.out.keep hx3 id;have hx4:=ExtM.trans _ _ _ HX.out (hx3.mono (fun _ _ h=>h.elim));have c0:=hl3.c0;have c1:=hl3.c1;have cf:=hl3.f 1;have hs3:=hx3.size;have hLw:L < w3.heap.size:=by omega
    have hO3:=HO.out.ext hx3;have hl5:=hl3.set (!gb);have hx5:=hx4.setCell (p:=⟨L,1,none⟩) (.inr rfl) (.bool (!gb));have hO5:=hO3.setL hLN (!gb);have HL5:=Lib.hid hl5;have HX5:=Lib.hid hx5;have HO5:=Lib.hid hO5;clear hl3 hx4 hx3 hO3 hO5 hl5 hx5 z0 q0 q1 q2 hgood;go_wp2_with fail;go_roundg (R.length - (j + 1))
    case measure=>omega
    case rel =>
     refine ⟨j + 1,k + 3,by go_num,by have:=HK.out;omega,by omega,Nat.le_refl _,?_,HX5.out,?_⟩
     . rw [HTK.out];exact HO5.out
     . rw [HAN.out,show badR ⟨rk,rt,rv⟩ = !gb by unfold badR;rw [HGB.out]];exact HL5.out
  . obtain rfl:j = R.length:=by omega
    have hk4:k = 4:=by omega
    subst hk4;rw [List.take_length] at hR hl;obtain ⟨⟨rk,rt,rv⟩,rfl⟩:=List.length_eq_one_iff.1 hRl;obtain ⟨g2,c2,rfl,hgg,hgw2,q0,q1,q2⟩:=zng hR;simp only [List.length_cons,List.length_nil,Nat.zero_add] at *;have z0:=(hx.cell (p:=⟨g,0,none⟩) hgu hgL).trans g0;have HX:=Lib.hid hx;have HL:=Lib.hid hl;have HR:=Lib.hid hR;have HN2:=Lib.hid hNw;clear hx hl hR hNw hgr hE hL hj hgk hjl;go_upto_region 8 with fail;go_cut [6] (fun s6 wx=>zhA wr wx s6 (outL (⟨rk,⟨rk,rt,rv⟩,⟨0,0,0⟩,true,false⟩:Out)))
    case first =>
     refine Plan.bT Plan.Ext [9] 10 ?_;refine Plan.qs 7 [0,1,2,3,4,5,6] ?_;iterate 7 go_big_quiet_step (fail)
     refine Plan.o2 7 8 (fun K hK=>?_) fun K hK=>?_
     focus
      go_wp2_with (fail);refine (zfk rk rt rv _).mono ?_;rintro e w8 ⟨rfl,h8⟩;have H8:=ExtM.trans _ _ _ (ExtM.refl _).drew h8;obtain ⟨hc8,hf8,-⟩:=Ext.rules H8;have hs8_0:g < w8.heap.size:=by have:=H8.size;(try simp at this);omega
      have hs8_1:g2 < w8.heap.size:=by have:=H8.size;(try simp at this);omega
      go_wp2_with (fail);refine hK _ _ h8 ?_;clear hK K;refine Plan.o1 8 fun K hK=>?_;go_wp2_with (fail);refine hK _ _ ((ExtM.refl _).alloc _) ?_;clear hK K
     rotate_left
     focus
      go_wp2_with (fail);refine hK _ _ ((ExtM.refl _).alloc _) ?_;clear hK K;refine Plan.o1 7 fun K hK=>?_;go_wp2_with (fail);refine (zfk rk rt rv _).mono ?_;rintro e w8 ⟨rfl,h8⟩;have H8:=ExtM.trans _ _ _ ((ExtM.refl _).drew.alloc _) h8;obtain ⟨hc8,hf8,-⟩:=Ext.rules H8;have hs8_0:g < w8.heap.size:=by have:=H8.size;(try simp at this);omega
      have hs8_1:g2 < w8.heap.size:=by have:=H8.size;(try simp at this);omega
      go_wp2_with (fail);refine hK _ _ h8 ?_;clear hK K
     . obtain ⟨hbx,hfz,hlt⟩:=zbm h8;have n0:=hbx 0 _ rfl;have n1:=hbx 1 _ rfl;have n2:=hbx 2 _ rfl;have n3:=hbx 3 _ rfl;have n4:=hbx 4 _ rfl;have n5:=hbx 5 _ rfl;have n6:=hbx 6 _ rfl;have n7:=hbx 7 _ rfl;have n8:=hbx 8 _ rfl;refine Plan.ol 9 fun K hK=>?_;go_wp2_with (fail);refine Plan.dn ?_;go_wp2_with fail;go_meet
       case rel=>exact outA (⟨rk,⟨rk,rt,rv⟩,⟨0,0,0⟩,true,false⟩:Out) H8 hbx hfz hlt
     . refine Plan.ol 9 fun K hK=>?_;go_wp2_with (fail);refine Plan.dn ?_;go_wp2_with fail;go_meet
       case rel=>exact outB (⟨rk,⟨rk,rt,rv⟩,⟨0,0,0⟩,true,false⟩:Out) H8
    case rest =>
     obtain ⟨Bo,rfl,hBo,hBl,hx9,hno,hfo⟩:=hcut;have hX9:=ExtM.trans9 HX.out hx9;have hl9:=HL.out.keep hx9 id;have hat:=HE.out.keep hX9 (fun k hk e=>hnB (e ▸ hk));have z9:=(hx9.cell (p:=⟨g,0,none⟩) hgw id).trans z0;have hgw9:=Nat.lt_of_lt_of_le hgw hx9.size;have c0:=hl9.c0;have n0:=hno 0 _ rfl;have n1:=hno 1 _ rfl;have n2:=hno 2 _ rfl;have n3:=hno 3 _ rfl;have n4:=hno 4 _ rfl;have n5:=hno 5 _ rfl;have n6:=hno 6 _ rfl;have n7:=hno 7 _ rfl;have n8:=hno 8 _ rfl;have hLw9:=hl9.lt;have HFO:=Lib.hid hfo;have hno9:=hno;clear z0 hgw c1 cf hLw hno hfo;go_upto_region 12 with fail;refine Plan.bT Plan.Ext [7] 8 ?_;refine Plan.zaU 0 (by rfl) (by kernel_rfl) ?_;go_big_quiet_step (fail);refine wpQuiet_nil ?_;refine Plan.zaU 1 (by rfl) (by kernel_rfl) ?_;go_big_quiet_step (fail);refine wpQuiet_nil ?_;refine Plan.zaU 2 (by rfl) (by kernel_rfl) ?_;go_big_quiet_step (fail);refine wpQuiet_nil ?_;refine Plan.qs 1 [3] ?_;go_big_quiet_step (fail);refine Plan.o1 4 fun K hK=>?_;go_wp2_with (fail);refine hK _ _ (ExtM.refl _) ?_;clear hK K;refine Plan.o1 5 fun K hK=>?_;go_wp2_with (fail);refine hK _ _ (ExtM.refl _) ?_;clear hK K;refine Plan.o1 6 fun K hK=>?_;go_wp2_with (fail);refine hK _ _ ((ExtM.refl _).alloc _) ?_;clear hK K;refine Plan.ol 7 fun K hK=>?_;go_wp2_with (fail);refine (zc1 (hat.ext (((ExtM.refl _).alloc _).drew)) wc.heap.size _ [((⟨rk,⟨rk,rt,rv⟩,⟨0,0,0⟩,true,false⟩:Out),false)] (zfI _ _) (fun k hk e=>by have h1:=hat.lt _ e;have h2:wc.heap.size = k:=Option.some.inj hk;omega) (by intro c hc;rw [List.mem_singleton.1 hc];exact (zq8 (hg _ (by simp)))) (by simp [zb1]) (by simp only [List.length_cons,List.length_nil];omega)).mono ?_;rintro e w12 ⟨rfl,hu12⟩;go_wp2_with (fail);refine Plan.dn ?_;go_wp2_with fail;go_end0;exact ⟨_,rfl,rfl,zhw hX9 (((ExtM.refl _).alloc _).drew) hl9 hnB hu12⟩
theorem zqY {u:World} {L E:Nat} {Bs:Nat -> Prop} {lo hi md:Int} {st:JSt} {V:List Out} {f0 f1:Int} (hL:LdIs u L (some ⟨E,0,none⟩) false) (hE:EAt u E Bs lo hi md st V V f0 f1) (hnB:¬ Bs L) (R:List Row) (hRl:R.length = 1) (hg:∀ r ∈ R,r.ok) (a:Option Addr) (cap:Nat) (hnum:zaq u L a (2 :: zdr R)) (hV:V.length < 900000) :
 Calls Tryz.prog 83 #[.pointer (some ⟨L,0,none⟩),.slice a 4 cap] u fun e u'=>∃ x,e = .returned (.tuple #[]) /\ x = outG 2 R /\ LUpB u u' L E Bs lo hi md st (x :: V) f0 f1 (badO 2 R):=by
 obtain ⟨g,rfl,hgL,hgu,hgc⟩:=hnum.cells (by simp);have g0:=hgc 0 2 rfl;have hgr:∀ j (hj:j < R.length),u.cell? ⟨g,1 + 3 * j,none⟩ = some (.int .i64 R[j].k) /\ u.cell? ⟨g,1 + 3 * j + 1,none⟩ = some (.int .i64 R[j].t) /\ u.cell? ⟨g,1 + 3 * j + 2,none⟩ = some (.int .i64 R[j].v):=fun j hj=>by
  obtain ⟨h1,h2,h3⟩:=zdX R j hj;refine ⟨hgc _ _ ?_,hgc _ _ ?_,hgc _ _ ?_⟩
  . rw [Nat.add_comm,List.getElem?_cons_succ];exact h1
  . rw [show 1 + 3 * j + 1 = 3 * j + 1 + 1 by omega,List.getElem?_cons_succ];exact h2
  . rw [show 1 + 3 * j + 2 = 3 * j + 2 + 1 by omega,List.getElem?_cons_succ];exact h3
 clear hgc hnum;obtain ⟨N,hN⟩:∃ N,N = u.heap.size:=⟨_,rfl⟩
 have HN:=Lib.hid hN;have hgN:g < N:=by omega
 have hLN:L < N:=by have:=hL.lt;omega
 clear hN;have HRL:=Lib.hid hRl;have hlt:=hL.lt;have HE:=Lib.hid hE;clear hRl;go_enter Tryz.func83,Tryz.ntmps83;go_wp2_with fail;go_loopg [4,5] 3 (fun kx s4 s5 wr=>∃ j k:Nat,s5 = .int .i64 k /\ k = 1 + 3 * j /\ j <= R.length /\ R.length - j <= kx /\ RR wr N s4 (R.take j) /\ ExtM (fun k=>k = L) u wr /\ LdIs wr L (some ⟨E,0,none⟩) ((R.take j).any badR))
 case atStart=>exact ⟨0,1,rfl,rfl,by omega,by have:=HRL.out;omega,⟨rfl,.inl ⟨rfl,rfl⟩⟩,ExtM.refl _,by rw [List.take_zero];exact hL⟩
 case round =>
  obtain ⟨j,k,rfl,hk,hj,hgk,hR,hx,hl⟩:=hrel;have hRl:=HRL.out;have hNw:N <= wr.heap.size:=by have:=hx.size;have:=HN.out;omega
  have hgw:g < wr.heap.size:=by omega
  have hLw:L < wr.heap.size:=by omega
  have c0:=hl.c0;have c1:=hl.c1;have cf:=hl.f 1;by_cases hjl:j < R.length
  . have hkm:k + 2 < 4:=by omega
    obtain ⟨y0,y1,y2⟩:=hgr j hjl;rw [<- hk] at y0 y1 y2;have z0:=(hx.cell (p:=⟨g,k,none⟩) hgu hgL).trans y0;have z1:=(hx.cell (p:=⟨g,k + 1,none⟩) hgu hgL).trans y1;have z2:=(hx.cell (p:=⟨g,k + 2,none⟩) hgu hgL).trans y2;have HTK:=Lib.hid (List.take_succ_eq_append_getElem hjl);have HK:=Lib.hid hk;have htl:(R.take j).length = j:=by rw [List.length_take];omega
    clear y0 y1 y2 hk;generalize R[j] = r at *;obtain ⟨rk,rt,rv⟩:=r;simp only at z0 z1 z2;obtain ⟨p,c,rfl,-⟩:=zaa hR;have hR1:=hR;rw [htl] at hR1 ⊢;have HX:=Lib.hid hx;have HL:=Lib.hid hl;have HN2:=Lib.hid hNw;have hRs:∀ W,Ext wr W -> RR W N (.slice p j c) (R.take j):=fun W hW=>by have:=hR.ext hW;rwa [htl] at this
    have hjm:(R.take j).length < 1000000:=by omega
    clear hR hR1 hx hl hNw hgr hE hL;go_upto_region 6 with fail;refine Plan.b0 (Plan.ExtF N) 19 ?_;refine Plan.qs 12 [0,1,2,3,4,5,6,7,8,9,10,11] ?_;iterate 12 go_big_quiet_step (fail)
    refine Plan.qs 4 [12,13,14,15] ?_;iterate 4 go_big_quiet_step (fail)
    refine Plan.o1 16 fun K hK=>?_;go_wp2_with (fail);refine hK _ _ ((ExtM.refl _).alloc _) ?_;clear hK K;refine Plan.o1 17 fun K hK=>?_;refine zau (zcg _ N _ _ _ (R.take j) ⟨rk,rt,rv⟩ _ (hRs _ ((ExtM.refl wr).drew.alloc _)) (zoj _ ⟨rk,rt,rv⟩ _) hjm (by simp;have:=HN2.out;omega)) _ _ rfl rfl rfl ?_;rintro v17 w17 ⟨o17,x17,l17⟩;have y17:=zfs x17 (hRs _ (ExtM.refl wr));refine hK _ _ (y17) ?_;simp only [Act.put,List.setIfInBounds_toArray,List.set_cons_succ,List.set_cons_zero];clear hK K;refine Plan.qs 1 [18] ?_;go_big_quiet_step (fail);refine Plan.dn ?_;have yall:Plan.ExtF N wr w17:=ExtF.trans _ _ _ (((ExtM.refl _).alloc _).drew) y17;have hx17:=zkJ HX.out HN.out yall;have hl17:=HL.out.keep yall (by omega);have hsz:=yall.size;have hll:(R.take j ++ [(⟨rk,rt,rv⟩:Row)]).length = j + 1:=by rw [List.length_append,htl];rfl
    obtain ⟨g2,c2,rfl,hg2,q0,q1,q2⟩:=zdW o17 htl;skip;have HX:=Lib.hid hx17;have HL:=Lib.hid hl17;have z0:=(hx17.cell (p:=⟨g,0,none⟩) hgu hgL).trans g0;have hLw:L < w17.heap.size:=by omega
    have hgw:g < w17.heap.size:=by omega
    have HO:=Lib.hid o17;have c0:=hl17.c0;have c1:=hl17.c1;have cf:=hl17.f 1;have HAN:Hid ((R.take (j + 1)).any badR = ((R.take j).any badR || badR ⟨rk,rt,rv⟩)):=Lib.hid (by rw [HTK.out,zqn]);clear y17 x17 l17 yall hx17 hl17 hsz hll o17 hRs;generalize hbb:(R.take j).any badR = bb at *;have HBB:=Lib.hid hbb;clear hbb;cases bb with
    | true =>
      have hl5:=HL.out.set true;have hx5:=HX.out.setCell (p:=⟨L,1,none⟩) (.inr rfl) (.bool true);have hO5:=HO.out.setL hLN true;have HL5:=Lib.hid hl5;have HX5:=Lib.hid hx5;have HO5:=Lib.hid hO5;clear hl5 hx5 hO5 z0 q0 q1 q2;go_wp2_with fail;go_roundg (R.length - (j + 1))
      case measure=>omega
      case rel =>
       refine ⟨j + 1,k + 3,by go_num,by have:=HK.out;omega,by omega,Nat.le_refl _,?_,HX5.out,?_⟩
       . rw [HTK.out];exact HO5.out
       . rw [HAN.out];exact HL5.out
    | false =>
    have hgood:=zdq rk rt rv;generalize hgb:za3 rk rt rv = gb at *;have HGB:=Lib.hid hgb;clear hgb;go_wp2_with (go_at_call 85;refine (hgood _).mono ?_;rintro e w3 ⟨rfl,hx3⟩;refine Hid.out ?_);refine Lib.hid ?_;have hl3:=HL.out.keep hx3 id;have hx4:=ExtM.trans _ _ _ HX.out (hx3.mono (fun _ _ h=>h.elim));have c0:=hl3.c0;have c1:=hl3.c1;have cf:=hl3.f 1;have hs3:=hx3.size;have hLw:L < w3.heap.size:=by omega
    have hO3:=HO.out.ext hx3;have hl5:=hl3.set (!gb);have hx5:=hx4.setCell (p:=⟨L,1,none⟩) (.inr rfl) (.bool (!gb));have hO5:=hO3.setL hLN (!gb);have HL5:=Lib.hid hl5;have HX5:=Lib.hid hx5;have HO5:=Lib.hid hO5;clear hl3 hx4 hx3 hO3 hO5 hl5 hx5 z0 q0 q1 q2 hgood;go_wp2_with fail;go_roundg (R.length - (j + 1))
    case measure=>omega
    case rel =>
     refine ⟨j + 1,k + 3,by go_num,by have:=HK.out;omega,by omega,Nat.le_refl _,?_,HX5.out,?_⟩
     . rw [HTK.out];exact HO5.out
     . rw [HAN.out,show badR ⟨rk,rt,rv⟩ = !gb by unfold badR;rw [HGB.out]];exact HL5.out
  . obtain rfl:j = R.length:=by omega
    have hk4:k = 4:=by omega
    subst hk4;rw [List.take_length] at hR hl;obtain ⟨⟨rk,rt,rv⟩,rfl⟩:=List.length_eq_one_iff.1 hRl;obtain ⟨g2,c2,rfl,hgg,hgw2,q0,q1,q2⟩:=zng hR;simp only [List.length_cons,List.length_nil,Nat.zero_add] at *;have z0:=(hx.cell (p:=⟨g,0,none⟩) hgu hgL).trans g0;have HX:=Lib.hid hx;have HL:=Lib.hid hl;have HR:=Lib.hid hR;have HN2:=Lib.hid hNw;clear hx hl hR hNw hgr hE hL hj hgk hjl;go_upto_region 8 with fail;go_cut [6] (fun s6 wx=>zhA wr wx s6 (outL (⟨rk,⟨0,0,0⟩,⟨rk,rt,rv⟩,false,true⟩:Out)))
    case first =>
     refine Plan.bT Plan.Ext [9] 10 ?_;refine Plan.qs 7 [0,1,2,3,4,5,6] ?_;iterate 7 go_big_quiet_step (fail)
     refine Plan.o2 7 8 (fun K hK=>?_) fun K hK=>?_
     focus
      go_wp2_with (fail);refine (zfN rk rt rv _).mono ?_;rintro e w8 ⟨rfl,h8⟩;have H8:=ExtM.trans _ _ _ (ExtM.refl _).drew h8;obtain ⟨hc8,hf8,-⟩:=Ext.rules H8;have hs8_0:g < w8.heap.size:=by have:=H8.size;(try simp at this);omega
      have hs8_1:g2 < w8.heap.size:=by have:=H8.size;(try simp at this);omega
      go_wp2_with (fail);refine hK _ _ h8 ?_;clear hK K;refine Plan.o1 8 fun K hK=>?_;go_wp2_with (fail);refine hK _ _ ((ExtM.refl _).alloc _) ?_;clear hK K
     rotate_left
     focus
      go_wp2_with (fail);refine hK _ _ ((ExtM.refl _).alloc _) ?_;clear hK K;refine Plan.o1 7 fun K hK=>?_;go_wp2_with (fail);refine (zfN rk rt rv _).mono ?_;rintro e w8 ⟨rfl,h8⟩;have H8:=ExtM.trans _ _ _ ((ExtM.refl _).drew.alloc _) h8;obtain ⟨hc8,hf8,-⟩:=Ext.rules H8;have hs8_0:g < w8.heap.size:=by have:=H8.size;(try simp at this);omega
      have hs8_1:g2 < w8.heap.size:=by have:=H8.size;(try simp at this);omega
      go_wp2_with (fail);refine hK _ _ h8 ?_;clear hK K
     . obtain ⟨hbx,hfz,hlt⟩:=zbm h8;have n0:=hbx 0 _ rfl;have n1:=hbx 1 _ rfl;have n2:=hbx 2 _ rfl;have n3:=hbx 3 _ rfl;have n4:=hbx 4 _ rfl;have n5:=hbx 5 _ rfl;have n6:=hbx 6 _ rfl;have n7:=hbx 7 _ rfl;have n8:=hbx 8 _ rfl;refine Plan.ol 9 fun K hK=>?_;go_wp2_with (fail);refine Plan.dn ?_;go_wp2_with fail;go_meet
       case rel=>exact outA (⟨rk,⟨0,0,0⟩,⟨rk,rt,rv⟩,false,true⟩:Out) H8 hbx hfz hlt
     . refine Plan.ol 9 fun K hK=>?_;go_wp2_with (fail);refine Plan.dn ?_;go_wp2_with fail;go_meet
       case rel=>exact outB (⟨rk,⟨0,0,0⟩,⟨rk,rt,rv⟩,false,true⟩:Out) H8
    case rest =>
     obtain ⟨Bo,rfl,hBo,hBl,hx9,hno,hfo⟩:=hcut;have hX9:=ExtM.trans9 HX.out hx9;have hl9:=HL.out.keep hx9 id;have hat:=HE.out.keep hX9 (fun k hk e=>hnB (e ▸ hk));have z9:=(hx9.cell (p:=⟨g,0,none⟩) hgw id).trans z0;have hgw9:=Nat.lt_of_lt_of_le hgw hx9.size;have c0:=hl9.c0;have n0:=hno 0 _ rfl;have n1:=hno 1 _ rfl;have n2:=hno 2 _ rfl;have n3:=hno 3 _ rfl;have n4:=hno 4 _ rfl;have n5:=hno 5 _ rfl;have n6:=hno 6 _ rfl;have n7:=hno 7 _ rfl;have n8:=hno 8 _ rfl;have hLw9:=hl9.lt;have HFO:=Lib.hid hfo;have hno9:=hno;clear z0 hgw c1 cf hLw hno hfo;go_upto_region 12 with fail;refine Plan.bT Plan.Ext [7] 8 ?_;refine Plan.zaU 0 (by rfl) (by kernel_rfl) ?_;go_big_quiet_step (fail);refine wpQuiet_nil ?_;refine Plan.zaU 1 (by rfl) (by kernel_rfl) ?_;go_big_quiet_step (fail);refine wpQuiet_nil ?_;refine Plan.zaU 2 (by rfl) (by kernel_rfl) ?_;go_big_quiet_step (fail);refine wpQuiet_nil ?_;refine Plan.qs 1 [3] ?_;go_big_quiet_step (fail);refine Plan.o1 4 fun K hK=>?_;go_wp2_with (fail);refine hK _ _ (ExtM.refl _) ?_;clear hK K;refine Plan.o1 5 fun K hK=>?_;go_wp2_with (fail);refine hK _ _ (ExtM.refl _) ?_;clear hK K;refine Plan.o1 6 fun K hK=>?_;go_wp2_with (fail);refine hK _ _ ((ExtM.refl _).alloc _) ?_;clear hK K;refine Plan.ol 7 fun K hK=>?_;go_wp2_with (fail);refine (zc1 (hat.ext (((ExtM.refl _).alloc _).drew)) wc.heap.size _ [((⟨rk,⟨0,0,0⟩,⟨rk,rt,rv⟩,false,true⟩:Out),false)] (zfI _ _) (fun k hk e=>by have h1:=hat.lt _ e;have h2:wc.heap.size = k:=Option.some.inj hk;omega) (by intro c hc;rw [List.mem_singleton.1 hc];exact (zq3 (hg _ (by simp)))) (by simp [zb1]) (by simp only [List.length_cons,List.length_nil];omega)).mono ?_;rintro e w12 ⟨rfl,hu12⟩;go_wp2_with (fail);refine Plan.dn ?_;go_wp2_with fail;go_end0;exact ⟨_,rfl,rfl,zhw hX9 (((ExtM.refl _).alloc _).drew) hl9 hnB hu12⟩
theorem zra {u:World} {L E:Nat} {Bs:Nat -> Prop} {lo hi md:Int} {st:JSt} {V:List Out} {f0 f1:Int} (hL:LdIs u L (some ⟨E,0,none⟩) false) (hE:EAt u E Bs lo hi md st V V f0 f1) (hnB:¬ Bs L) (R:List Row) (hRl:R.length = 2) (hg:∀ r ∈ R,r.ok) (a:Option Addr) (cap:Nat) (hnum:zaq u L a (3 :: zdr R)) (hV:V.length < 900000) :
 Calls Tryz.prog 83 #[.pointer (some ⟨L,0,none⟩),.slice a 7 cap] u fun e u'=>∃ x,e = .returned (.tuple #[]) /\ x = outG 3 R /\ LUpB u u' L E Bs lo hi md st (x :: V) f0 f1 (badO 3 R):=by
 obtain ⟨g,rfl,hgL,hgu,hgc⟩:=hnum.cells (by simp);have g0:=hgc 0 3 rfl;have hgr:∀ j (hj:j < R.length),u.cell? ⟨g,1 + 3 * j,none⟩ = some (.int .i64 R[j].k) /\ u.cell? ⟨g,1 + 3 * j + 1,none⟩ = some (.int .i64 R[j].t) /\ u.cell? ⟨g,1 + 3 * j + 2,none⟩ = some (.int .i64 R[j].v):=fun j hj=>by
  obtain ⟨h1,h2,h3⟩:=zdX R j hj;refine ⟨hgc _ _ ?_,hgc _ _ ?_,hgc _ _ ?_⟩
  . rw [Nat.add_comm,List.getElem?_cons_succ];exact h1
  . rw [show 1 + 3 * j + 1 = 3 * j + 1 + 1 by omega,List.getElem?_cons_succ];exact h2
  . rw [show 1 + 3 * j + 2 = 3 * j + 2 + 1 by omega,List.getElem?_cons_succ];exact h3
 clear hgc hnum;obtain ⟨N,hN⟩:∃ N,N = u.heap.size:=⟨_,rfl⟩
 have HN:=Lib.hid hN;have hgN:g < N:=by omega
 have hLN:L < N:=by have:=hL.lt;omega
 clear hN;have HRL:=Lib.hid hRl;have hlt:=hL.lt;have HE:=Lib.hid hE;clear hRl;go_enter Tryz.func83,Tryz.ntmps83;go_wp2_with fail;go_loopg [4,5] 3 (fun kx s4 s5 wr=>∃ j k:Nat,s5 = .int .i64 k /\ k = 1 + 3 * j /\ j <= R.length /\ R.length - j <= kx /\ RR wr N s4 (R.take j) /\ ExtM (fun k=>k = L) u wr /\ LdIs wr L (some ⟨E,0,none⟩) ((R.take j).any badR))
 case atStart=>exact ⟨0,1,rfl,rfl,by omega,by have:=HRL.out;omega,⟨rfl,.inl ⟨rfl,rfl⟩⟩,ExtM.refl _,by rw [List.take_zero];exact hL⟩
 case round =>
  obtain ⟨j,k,rfl,hk,hj,hgk,hR,hx,hl⟩:=hrel;have hRl:=HRL.out;have hNw:N <= wr.heap.size:=by have:=hx.size;have:=HN.out;omega
  have hgw:g < wr.heap.size:=by omega
  have hLw:L < wr.heap.size:=by omega
  have c0:=hl.c0;have c1:=hl.c1;have cf:=hl.f 1;by_cases hjl:j < R.length
  . have hkm:k + 2 < 7:=by omega
    obtain ⟨y0,y1,y2⟩:=hgr j hjl;rw [<- hk] at y0 y1 y2;have z0:=(hx.cell (p:=⟨g,k,none⟩) hgu hgL).trans y0;have z1:=(hx.cell (p:=⟨g,k + 1,none⟩) hgu hgL).trans y1;have z2:=(hx.cell (p:=⟨g,k + 2,none⟩) hgu hgL).trans y2;have HTK:=Lib.hid (List.take_succ_eq_append_getElem hjl);have HK:=Lib.hid hk;have htl:(R.take j).length = j:=by rw [List.length_take];omega
    clear y0 y1 y2 hk;generalize R[j] = r at *;obtain ⟨rk,rt,rv⟩:=r;simp only at z0 z1 z2;obtain ⟨p,c,rfl,-⟩:=zaa hR;have hR1:=hR;rw [htl] at hR1 ⊢;have HX:=Lib.hid hx;have HL:=Lib.hid hl;have HN2:=Lib.hid hNw;have hRs:∀ W,Ext wr W -> RR W N (.slice p j c) (R.take j):=fun W hW=>by have:=hR.ext hW;rwa [htl] at this
    have hjm:(R.take j).length < 1000000:=by omega
    clear hR hR1 hx hl hNw hgr hE hL;go_upto_region 6 with fail;refine Plan.b0 (Plan.ExtF N) 19 ?_;refine Plan.qs 12 [0,1,2,3,4,5,6,7,8,9,10,11] ?_;iterate 12 go_big_quiet_step (fail)
    refine Plan.qs 4 [12,13,14,15] ?_;iterate 4 go_big_quiet_step (fail)
    refine Plan.o1 16 fun K hK=>?_;go_wp2_with (fail);refine hK _ _ ((ExtM.refl _).alloc _) ?_;clear hK K;refine Plan.o1 17 fun K hK=>?_;refine zau (zcg _ N _ _ _ (R.take j) ⟨rk,rt,rv⟩ _ (hRs _ ((ExtM.refl wr).drew.alloc _)) (zoj _ ⟨rk,rt,rv⟩ _) hjm (by simp;have:=HN2.out;omega)) _ _ rfl rfl rfl ?_;rintro v17 w17 ⟨o17,x17,l17⟩;have y17:=zfs x17 (hRs _ (ExtM.refl wr));refine hK _ _ (y17) ?_;simp only [Act.put,List.setIfInBounds_toArray,List.set_cons_succ,List.set_cons_zero];clear hK K;refine Plan.qs 1 [18] ?_;go_big_quiet_step (fail);refine Plan.dn ?_;have yall:Plan.ExtF N wr w17:=ExtF.trans _ _ _ (((ExtM.refl _).alloc _).drew) y17;have hx17:=zkJ HX.out HN.out yall;have hl17:=HL.out.keep yall (by omega);have hsz:=yall.size;have hll:(R.take j ++ [(⟨rk,rt,rv⟩:Row)]).length = j + 1:=by rw [List.length_append,htl];rfl
    obtain ⟨g2,c2,rfl,hg2,q0,q1,q2⟩:=zdW o17 htl;skip;have HX:=Lib.hid hx17;have HL:=Lib.hid hl17;have z0:=(hx17.cell (p:=⟨g,0,none⟩) hgu hgL).trans g0;have hLw:L < w17.heap.size:=by omega
    have hgw:g < w17.heap.size:=by omega
    have HO:=Lib.hid o17;have c0:=hl17.c0;have c1:=hl17.c1;have cf:=hl17.f 1;have HAN:Hid ((R.take (j + 1)).any badR = ((R.take j).any badR || badR ⟨rk,rt,rv⟩)):=Lib.hid (by rw [HTK.out,zqn]);clear y17 x17 l17 yall hx17 hl17 hsz hll o17 hRs;generalize hbb:(R.take j).any badR = bb at *;have HBB:=Lib.hid hbb;clear hbb;cases bb with
    | true =>
      have hl5:=HL.out.set true;have hx5:=HX.out.setCell (p:=⟨L,1,none⟩) (.inr rfl) (.bool true);have hO5:=HO.out.setL hLN true;have HL5:=Lib.hid hl5;have HX5:=Lib.hid hx5;have HO5:=Lib.hid hO5;clear hl5 hx5 hO5 z0 q0 q1 q2;go_wp2_with fail;go_roundg (R.length - (j + 1))
      case measure=>omega
      case rel =>
       refine ⟨j + 1,k + 3,by go_num,by have:=HK.out;omega,by omega,Nat.le_refl _,?_,HX5.out,?_⟩
       . rw [HTK.out];exact HO5.out
       . rw [HAN.out];exact HL5.out
    | false =>
    have hgood:=zdq rk rt rv;generalize hgb:za3 rk rt rv = gb at *;have HGB:=Lib.hid hgb;clear hgb;go_wp2_with (go_at_call 85;refine (hgood _).mono ?_;rintro e w3 ⟨rfl,hx3⟩;refine Hid.out ?_);refine Lib.hid ?_;have hl3:=HL.out.keep hx3 id;have hx4:=ExtM.trans _ _ _ HX.out (hx3.mono (fun _ _ h=>h.elim));have c0:=hl3.c0;have c1:=hl3.c1;have cf:=hl3.f 1;have hs3:=hx3.size;have hLw:L < w3.heap.size:=by omega
    have hO3:=HO.out.ext hx3;have hl5:=hl3.set (!gb);have hx5:=hx4.setCell (p:=⟨L,1,none⟩) (.inr rfl) (.bool (!gb));have hO5:=hO3.setL hLN (!gb);have HL5:=Lib.hid hl5;have HX5:=Lib.hid hx5;have HO5:=Lib.hid hO5;clear hl3 hx4 hx3 hO3 hO5 hl5 hx5 z0 q0 q1 q2 hgood;go_wp2_with fail;go_roundg (R.length - (j + 1))
    case measure=>omega
    case rel =>
     refine ⟨j + 1,k + 3,by go_num,by have:=HK.out;omega,by omega,Nat.le_refl _,?_,HX5.out,?_⟩
     . rw [HTK.out];exact HO5.out
     . rw [HAN.out,show badR ⟨rk,rt,rv⟩ = !gb by unfold badR;rw [HGB.out]];exact HL5.out
  . obtain rfl:j = R.length:=by omega
    have hk4:k = 7:=by omega
    subst hk4;rw [List.take_length] at hR hl;obtain ⟨⟨rk,rt,rv⟩,⟨sk,s2,sv⟩,rfl⟩:=zox hRl;obtain ⟨g2,c2,rfl,hgg,hgw2,q0,q1,q2,q3,q4,q5⟩:=zoQ hR;simp only [List.length_cons,List.length_nil,Nat.zero_add] at *;have z0:=(hx.cell (p:=⟨g,0,none⟩) hgu hgL).trans g0;have HX:=Lib.hid hx;have HL:=Lib.hid hl;have HR:=Lib.hid hR;have HN2:=Lib.hid hNw;clear hx hl hR hNw hgr hE hL hj hgk hjl;go_upto_region 8 with fail;go_cut [6] (fun s6 wx=>zhA wr wx s6 (outL (⟨rk,⟨0,0,0⟩,⟨rk,rt,rv⟩,false,true⟩:Out)))
    case first =>
     refine Plan.bT Plan.Ext [9] 10 ?_;refine Plan.qs 7 [0,1,2,3,4,5,6] ?_;iterate 7 go_big_quiet_step (fail)
     refine Plan.o2 7 8 (fun K hK=>?_) fun K hK=>?_
     focus
      go_wp2_with (fail);refine (zky rk rt rv _).mono ?_;rintro e w8 ⟨rfl,h8⟩;have H8:=ExtM.trans _ _ _ (ExtM.refl _).drew h8;obtain ⟨hc8,hf8,-⟩:=Ext.rules H8;have hs8_0:g < w8.heap.size:=by have:=H8.size;(try simp at this);omega
      have hs8_1:g2 < w8.heap.size:=by have:=H8.size;(try simp at this);omega
      go_wp2_with (fail);refine hK _ _ h8 ?_;clear hK K;refine Plan.o1 8 fun K hK=>?_;go_wp2_with (fail);refine hK _ _ ((ExtM.refl _).alloc _) ?_;clear hK K
     rotate_left
     focus
      go_wp2_with (fail);refine hK _ _ ((ExtM.refl _).alloc _) ?_;clear hK K;refine Plan.o1 7 fun K hK=>?_;go_wp2_with (fail);refine (zky rk rt rv _).mono ?_;rintro e w8 ⟨rfl,h8⟩;have H8:=ExtM.trans _ _ _ ((ExtM.refl _).drew.alloc _) h8;obtain ⟨hc8,hf8,-⟩:=Ext.rules H8;have hs8_0:g < w8.heap.size:=by have:=H8.size;(try simp at this);omega
      have hs8_1:g2 < w8.heap.size:=by have:=H8.size;(try simp at this);omega
      go_wp2_with (fail);refine hK _ _ h8 ?_;clear hK K
     . obtain ⟨hbx,hfz,hlt⟩:=zbm h8;have n0:=hbx 0 _ rfl;have n1:=hbx 1 _ rfl;have n2:=hbx 2 _ rfl;have n3:=hbx 3 _ rfl;have n4:=hbx 4 _ rfl;have n5:=hbx 5 _ rfl;have n6:=hbx 6 _ rfl;have n7:=hbx 7 _ rfl;have n8:=hbx 8 _ rfl;refine Plan.ol 9 fun K hK=>?_;go_wp2_with (fail);refine Plan.dn ?_;go_wp2_with fail;go_meet
       case rel=>exact outA (⟨rk,⟨0,0,0⟩,⟨rk,rt,rv⟩,false,true⟩:Out) H8 hbx hfz hlt
     . refine Plan.ol 9 fun K hK=>?_;go_wp2_with (fail);refine Plan.dn ?_;go_wp2_with fail;go_meet
       case rel=>exact outB (⟨rk,⟨0,0,0⟩,⟨rk,rt,rv⟩,false,true⟩:Out) H8
    case rest =>
     obtain ⟨Bo,rfl,hBo,hBl,hx9,hno,hfo⟩:=hcut;have hX9:=ExtM.trans9 HX.out hx9;have hl9:=HL.out.keep hx9 id;have hat:=HE.out.keep hX9 (fun k hk e=>hnB (e ▸ hk));have z9:=(hx9.cell (p:=⟨g,0,none⟩) hgw id).trans z0;have hgw9:=Nat.lt_of_lt_of_le hgw hx9.size;have c0:=hl9.c0;have n0:=hno 0 _ rfl;have n1:=hno 1 _ rfl;have n2:=hno 2 _ rfl;have n3:=hno 3 _ rfl;have n4:=hno 4 _ rfl;have n5:=hno 5 _ rfl;have n6:=hno 6 _ rfl;have n7:=hno 7 _ rfl;have n8:=hno 8 _ rfl;have hLw9:=hl9.lt;have HFO:=Lib.hid hfo;have hno9:=hno;clear z0 hgw c1 cf hLw hno hfo;go_upto_region 10 with fail;have k9:=fun o=>(hx9.cell (p:=⟨g2,o,none⟩) hgw2 id)
     have y0:=(k9 _).trans q0;have y1:=(k9 _).trans q1;have y2:=(k9 _).trans q2;have y3:=(k9 _).trans q3;have y4:=(k9 _).trans q4;have y5:=(k9 _).trans q5;have hg9:=Nat.lt_of_lt_of_le hgw2 hx9.size;have hfo9:=HFO.out;have hgBo:g2 ≠ Bo:=by omega
     have hLBo:L ≠ Bo:=by omega
     clear q0 q1 q2 q3 q4 q5 hgw2 k9;go_cut [] (fun wx=>znl wc wx Bo (outL (⟨rk,⟨rk,rt,rv⟩,⟨sk,s2,sv⟩,true,true⟩:Out)))
     case first =>
      refine Plan.bT Plan.Ext [7] 8 ?_;refine Plan.qs 6 [0,1,2,3,4,5] ?_;iterate 6 go_big_quiet_step (fail)
      refine Plan.o1 6 fun K hK=>?_;go_wp2_with (fail);refine (zkN rk rt rv sk s2 sv _).mono ?_;rintro e w11 ⟨rfl,h11⟩;have H11:=ExtM.trans _ _ _ (ExtM.refl _).drew h11;obtain ⟨hc11,hf11,-⟩:=Ext.rules H11;have hs11_0:g2 < w11.heap.size:=by have:=H11.size;(try simp at this);omega
      have hs11_1:Bo < w11.heap.size:=by have:=H11.size;(try simp at this);omega
      have hs11_2:L < w11.heap.size:=by have:=H11.size;(try simp at this);omega
      go_wp2_with (fail);refine hK _ _ h11 ?_;clear hK K;refine Plan.ol 7 fun K hK=>?_;go_wp2_with (fail);refine Plan.dn ?_;go_wp2_with fail;go_meet
      case rel=>exact zpB (⟨rk,⟨rk,rt,rv⟩,⟨sk,s2,sv⟩,true,true⟩:Out) H11 hBl hno9
     case rest =>
      obtain ⟨hxB,hno3⟩:=hcut;have hgB:g2 ≠ Bo:=hgBo;have hLB:L ≠ Bo:=hLBo;have hl10:=hl9.keep hxB hLB;have x0:=(hxB.cell (p:=⟨g2,0,none⟩) hg9 hgB).trans y0;have x3:=(hxB.cell (p:=⟨g2,3,none⟩) hg9 hgB).trans y3;have hg10:=Nat.lt_of_lt_of_le hg9 hxB.size;have hL10:=Nat.lt_of_lt_of_le hLw9 hxB.size;have hX10:=zoR hX9 hxB (Nat.le_trans HX.out.size hBo);have hBl10:=Nat.lt_of_lt_of_le hBl hxB.size;have c1:=hl10.c1;have cf:=hl10.f 1;have HG:=Lib.hid hg;clear y0 y1 y2 y3 y4 y5 hg9 hLw9 hX9 hxB hl9 hat c0 n0 n1 n2 n3 n4 n5 n6 n7 n8 z9 hgw9 hno9 hfo9 hx9 hBl hBo hg;go_upto_region 11 with fail;obtain ⟨b3,hb3⟩:∃ b3:Bool,b3 = ([(⟨rk,rt,rv⟩:Row),⟨sk,s2,sv⟩].any badR || decide (rk ≠ sk)):=⟨_,rfl⟩
      have HB3:=Lib.hid hb3;clear hb3;go_cut [] (fun wx=>zoX wc wx L E b3)
      case first =>
       have hl10':=hl10;generalize hbb:[(⟨rk,rt,rv⟩:Row),⟨sk,s2,sv⟩].any badR = bb at *;clear hbb;cases bb with
       | true =>
         obtain rfl:b3 = true:=HB3.out;refine Plan.bT Plan.Ext [18] 19 ?_;refine Plan.qs 12 [0,1,2,3,4,5,6,7,8,9,10,11] ?_;iterate 12 go_big_quiet_step (fail)
         refine Plan.qs 4 [12,13,14,15] ?_;iterate 4 go_big_quiet_step (fail)
         refine Plan.o1 16 fun K hK=>?_;go_wp2_with (fail);refine hK _ _ (ExtM.refl _) ?_;clear hK K;refine Plan.qs 1 [17] ?_;go_big_quiet_step (fail);refine Plan.ol 18 fun K hK=>?_;go_wp2_with (fail);refine Plan.dn ?_;go_wp2_with fail;go_meet
         case rel=>exact zp4 hl10' ((ExtM.refl _).drew) true
       | false =>
         by_cases hkk:rk = sk
         . have hne:(rk != sk) = false:=by simp [hkk]
           have hne2:decide (rk = sk) = true:=by simp [hkk]
           obtain rfl:b3 = false:=by rw [HB3.out];simp [hkk]
           clear hkk;refine Plan.bT Plan.Ext [18] 19 ?_;refine Plan.qs 12 [0,1,2,3,4,5,6,7,8,9,10,11] ?_;iterate 12 go_big_quiet_step (fail)
           refine Plan.qs 4 [12,13,14,15] ?_;iterate 4 go_big_quiet_step (fail)
           refine Plan.o1 16 fun K hK=>?_;go_wp2_with (fail);refine hK _ _ (ExtM.refl _) ?_;clear hK K;refine Plan.qs 1 [17] ?_;go_big_quiet_step (fail);refine Plan.ol 18 fun K hK=>?_;go_wp2_with (fail);refine Plan.dn ?_;go_wp2_with fail;go_meet
           case rel=>exact zp4 hl10' ((ExtM.refl _).drew) false
         . have hne:(rk != sk) = true:=by simp [hkk]
           have hne2:decide (rk = sk) = false:=by simp [hkk]
           obtain rfl:b3 = true:=by rw [HB3.out];simp [hkk]
           clear hkk;refine Plan.bT Plan.Ext [18] 19 ?_;refine Plan.qs 12 [0,1,2,3,4,5,6,7,8,9,10,11] ?_;iterate 12 go_big_quiet_step (fail)
           refine Plan.qs 4 [12,13,14,15] ?_;iterate 4 go_big_quiet_step (fail)
           refine Plan.o1 16 fun K hK=>?_;go_wp2_with (fail);refine hK _ _ (ExtM.refl _) ?_;clear hK K;refine Plan.qs 1 [17] ?_;go_big_quiet_step (fail);refine Plan.ol 18 fun K hK=>?_;go_wp2_with (fail);refine Plan.dn ?_;go_wp2_with fail;go_meet
           case rel=>exact zp4 hl10' ((ExtM.refl _).drew) true
      case rest =>
       obtain ⟨hxL,hl9⟩:=hcut;rw [HB3.out] at hl9;have hno:=fun j v hj=>(hxL.cell (p:=⟨Bo,j,none⟩) hBl10 (fun e=>hLB e.symm)).trans (hno3 j v hj);have hX9:=hX10.fresh' hxL (fun _ _ e=>e);have hat:=HE.out.keep hX9 (fun k hk e=>hnB (e ▸ hk));have c0:=hl9.c0;have n0:=hno 0 _ rfl;have n1:=hno 1 _ rfl;have n2:=hno 2 _ rfl;have n3:=hno 3 _ rfl;have n4:=hno 4 _ rfl;have n5:=hno 5 _ rfl;have n6:=hno 6 _ rfl;have n7:=hno 7 _ rfl;have n8:=hno 8 _ rfl;have hLw9:=hl9.lt;have hBl:=Nat.lt_of_lt_of_le hBl10 hxL.size;have hg:=HG.out;clear hno hno3 hxL hl10 hX10 hL10 hg10 x0 x3 hBl10 c1 cf;go_upto_region 12 with fail;refine Plan.bT Plan.Ext [7] 8 ?_;refine Plan.zaU 0 (by rfl) (by kernel_rfl) ?_;go_big_quiet_step (fail);refine wpQuiet_nil ?_;refine Plan.zaU 1 (by rfl) (by kernel_rfl) ?_;go_big_quiet_step (fail);refine wpQuiet_nil ?_;refine Plan.zaU 2 (by rfl) (by kernel_rfl) ?_;go_big_quiet_step (fail);refine wpQuiet_nil ?_;refine Plan.qs 1 [3] ?_;go_big_quiet_step (fail);refine Plan.o1 4 fun K hK=>?_;go_wp2_with (fail);refine hK _ _ (ExtM.refl _) ?_;clear hK K;refine Plan.o1 5 fun K hK=>?_;go_wp2_with (fail);refine hK _ _ (ExtM.refl _) ?_;clear hK K;refine Plan.o1 6 fun K hK=>?_;go_wp2_with (fail);refine hK _ _ ((ExtM.refl _).alloc _) ?_;clear hK K;refine Plan.ol 7 fun K hK=>?_;go_wp2_with (fail);refine (zc1 (hat.ext (((ExtM.refl _).alloc _).drew)) wc.heap.size _ [((⟨rk,⟨rk,rt,rv⟩,⟨sk,s2,sv⟩,true,true⟩:Out),false)] (zfI _ _) (fun k hk e=>by have h1:=hat.lt _ e;have h2:wc.heap.size = k:=Option.some.inj hk;omega) (by intro c hc;rw [List.mem_singleton.1 hc];exact (zqG (hg _ (by simp)) (hg _ (by simp)))) (by simp [zb1]) (by simp only [List.length_cons,List.length_nil];omega)).mono ?_;rintro e w12 ⟨rfl,hu12⟩;go_wp2_with (fail);refine Plan.dn ?_;go_wp2_with fail;go_end0;exact ⟨_,rfl,rfl,zhw hX9 (((ExtM.refl _).alloc _).drew) hl9 hnB hu12⟩
theorem zp9 {u:World} {L E:Nat} {Bs:Nat -> Prop} {lo hi md:Int} {st:JSt} {V:List Out} {f0 f1:Int} (hL:LdIs u L (some ⟨E,0,none⟩) false) (hE:EAt u E Bs lo hi md st V V f0 f1) (hn:¬ Bs L) (n:List Int) (a:Option Addr) (cap:Nat) (hnum:zaq u L a n) (hV:V.length < 900000) (x:Out) (hx:outE n = some x) :
 Calls Tryz.prog 83 #[.pointer (some ⟨L,0,none⟩),.slice a n.length cap] u fun e u'=>e = .returned (.tuple #[]) /\ LUp u u' L E Bs lo hi md st (x :: V) f0 f1:=by
 have hcase:(∃ h r,n = h :: zdr [r] /\ (h = 1 \/ h = 2) /\ za0 r) \/ (∃ r s,n = 3 :: zdr [r,s] /\ za0 r /\ za0 s /\ r.k = s.k):=by
  unfold outE at hx;split at hx
  . rename_i h a b c;split at hx
    . rename_i hh;exact .inl ⟨h,⟨a,b,c⟩,rfl,hh.1,hh.2⟩
    . cases hx
  . rename_i h a b c d e f;split at hx
    . rename_i hh;obtain ⟨rfl,h1,h2,h3⟩:=hh;exact .inr ⟨⟨a,b,c⟩,⟨d,e,f⟩,rfl,h1,h2,h3⟩
    . cases hx
  . cases hx
 rcases hcase with ⟨h,r,rfl,hh,hg⟩ | ⟨r,s,rfl,hg1,hg2,hk⟩
 . rcases hh with rfl | rfl
   . refine (zrp hL hE hn [r] rfl (by intro q hq;rw [List.mem_singleton.1 hq];exact hg.ok) a cap hnum hV).mono ?_;rintro e u' ⟨y,he,rfl,hu⟩;obtain rfl:x = outG 1 [r]:=Option.some.inj (hx.symm.trans (ziu hg (.inl rfl)));rw [show badO 1 [r] = false from zpW (R:=[r]) (by intro q hq;rw [List.mem_singleton.1 hq];exact hg)] at hu;exact ⟨he,hu⟩
   . refine (zqY hL hE hn [r] rfl (by intro q hq;rw [List.mem_singleton.1 hq];exact hg.ok) a cap hnum hV).mono ?_;rintro e u' ⟨y,he,rfl,hu⟩;obtain rfl:x = outG 2 [r]:=Option.some.inj (hx.symm.trans (ziu hg (.inr rfl)));rw [show badO 2 [r] = false from zpW (R:=[r]) (by intro q hq;rw [List.mem_singleton.1 hq];exact hg)] at hu;exact ⟨he,hu⟩
 . have hgs:∀ q ∈ [r,s],za0 q:=by
    intro q hq;simp only [List.mem_cons,List.not_mem_nil,or_false] at hq;rcases hq with rfl | rfl <;> assumption
   refine (zra hL hE hn [r,s] rfl (fun q hq=>(hgs q hq).ok) a cap hnum hV).mono ?_;rintro e u' ⟨y,he,rfl,hu⟩;obtain rfl:x = outG 3 [r,s]:=Option.some.inj (hx.symm.trans (zlP hg1 hg2 hk));rw [show badO 3 [r,s] = false by unfold badO;rw [if_pos rfl,zpW hgs];simp [hk]] at hu;exact ⟨he,hu⟩
def zeB:ByteArray:=⟨#[112,108,97,110]⟩
def sFed:ByteArray:=⟨#[102,101,100]⟩
def zcI:ByteArray:=⟨#[109,97,114,107,115]⟩
def sRow:ByteArray:=⟨#[114,111,119]⟩
def sOut:ByteArray:=⟨#[111,117,116]⟩
theorem zfW:Go.Maps.Keyed Tryz.prog 9:=Go.Maps.string_keyed Tryz.underlying9
theorem zea (x y:ByteArray) (h:Value.string x = Value.string y):x = y:=by simpa using h
theorem keyS (s:ByteArray) (h:s.size <= 1000000000):∃ l,keyOf Tryz.prog 9 (.string s) = some l:=by
 have hm:s.size <= maxLen:=by unfold maxLen;omega
 exact ⟨_,by simp only [keyOf,mapKey,Tryz.underlying9];rw [if_pos hm]⟩
theorem zp5 (w:World):(zeroValue 3).run Tryz.prog w = .ok (.int .i64 0) w:=by kernel_rfl
def zhj:List (ByteArray × Value):=putK (putK (putK (putK [] zeB (.int .i64 3)) sFed (.int .i64 3)) zcI (.int .i64 2)) sRow (.int .i64 5)
theorem zdk (u:World):∃ w1 w2 w3 w4,(Instr.mapUpdate 153 (.map (some u.heap.size)) (.string zeB) (.int .i64 3)).run Tryz.prog (u.alloc (.map #[] 0)) = .ok () w1 /\
 (Instr.mapUpdate 153 (.map (some u.heap.size)) (.string sFed) (.int .i64 3)).run Tryz.prog w1 = .ok () w2 /\
 (Instr.mapUpdate 153 (.map (some u.heap.size)) (.string zcI) (.int .i64 2)).run Tryz.prog w2 = .ok () w3 /\
 (Instr.mapUpdate 153 (.map (some u.heap.size)) (.string sRow) (.int .i64 5)).run Tryz.prog w3 = .ok () w4 /\ Ext u w4 /\
 ∀ s,s.size <= 1000000000 -> (Instr.lookup 153 (.map (some u.heap.size)) (.string s) true).run Tryz.prog w4 = .ok (.tuple #[(mlook zhj s).getD (.int .i64 0),.bool (mlook zhj s).isSome]) w4:=by
 have h0:zav Tryz.prog 9 Value.string (u.alloc (.map #[] 0)) u.heap.size []:=zav.made u;obtain ⟨w1,r1,x1,z1,h1⟩:=h0.run_update zfW zea Tryz.underlying153 zeB (keyS _ (by decide)) (.int .i64 3);obtain ⟨w2,r2,x2,z2,h2⟩:=h1.run_update zfW zea Tryz.underlying153 sFed (keyS _ (by decide)) (.int .i64 3);obtain ⟨w3,r3,x3,z3,h3⟩:=h2.run_update zfW zea Tryz.underlying153 zcI (keyS _ (by decide)) (.int .i64 2);obtain ⟨w4,r4,x4,z4,h4⟩:=h3.run_update zfW zea Tryz.underlying153 sRow (keyS _ (by decide)) (.int .i64 5);refine ⟨w1,w2,w3,w4,r1,r2,r3,r4,?_,fun s hs=>?_⟩
 . have hB:ExtB u.heap.size (u.alloc (.map #[] 0)) w4:=ExtB.trans _ _ _ x1 (ExtB.trans _ _ _ x2 (ExtB.trans _ _ _ x3 x4));exact ⟨hB.os,hB.tape,hB.output,Nat.le_trans (by simp) hB.size,fun k hk _=>(hB.block k (by simp;omega) (fun e=>by have e':k = u.heap.size:=e;omega)).trans (heap_alloc_old _ _ hk)⟩
 . exact h4.run_look true zfW zea Tryz.underlying153 zp5 s (keyS _ hs)
theorem zlf:mlook zhj zeB = some (.int .i64 3):=by rfl
theorem zmN:mlook zhj sFed = some (.int .i64 3):=by rfl
theorem zja:mlook zhj zcI = some (.int .i64 2):=by rfl
theorem zmE:mlook zhj sRow = some (.int .i64 5):=by rfl
theorem znb:mlook zhj sOut = none:=by rfl
end Go.Proofs.YtmcgnnmffeojpabGreatDoor
namespace Go.Plan
def Ext3 (A B C:Nat) (w w':World):Prop:=ExtM (fun k=>¬ (k = A \/ k = B \/ k = C)) w w'
theorem Ext3.refl {A B C:Nat} (w:World):Ext3 A B C w w:=ExtM.refl w
theorem Ext3.trans {A B C:Nat} (a b c:World) (h:Ext3 A B C a b) (k:Ext3 A B C b c):Ext3 A B C a c:=ExtM.trans _ _ _ h k
instance {A B C:Nat}:Std.Refl (Ext3 A B C):=⟨Ext3.refl⟩
instance {A B C:Nat}:Trans (Ext3 A B C) (Ext3 A B C) (Ext3 A B C):=⟨fun h k=>Ext3.trans _ _ _ h k⟩
theorem Ext3.of_M {M:Nat -> Prop} {A B C:Nat} {w w':World} (hA:¬ M A) (hB:¬ M B) (hC:¬ M C) (h:ExtM M w w'):Ext3 A B C w w':=ExtM.mono h (fun _ _ hk e=>by rcases e with e | e | e <;> subst e <;> contradiction)
theorem Ext3.drew {A B C:Nat} {a w:World} (h:Ext3 A B C a w):Ext3 A B C a w.drew:=ExtM.drew h
theorem Ext3.size {A B C:Nat} {w w':World} (h:Ext3 A B C w w'):w.heap.size <= w'.heap.size:=ExtM.size h
theorem Ext3.cells {A B C:Nat} {w w':World} (h:Ext3 A B C w w') (b o:Nat) (hb:b = A \/ b = B \/ b = C) (hl:b < w.heap.size):w'.cell? ⟨b,o,none⟩ = w.cell? ⟨b,o,none⟩ /\ w'.frozen? ⟨b,o,none⟩ = w.frozen? ⟨b,o,none⟩ :=
 ⟨ExtM.cell (p:=⟨b,o,none⟩) h hl (fun e=>e hb),ExtM.frozen (p:=⟨b,o,none⟩) h hl (fun e=>e hb)⟩
theorem Ext3.rules {A B C:Nat} {w w':World} (_:Ext3 A B C w w'):True /\ True /\ True:=⟨trivial,trivial,trivial⟩
@[go_sem] theorem cell?_ext3a (A B C:Nat) (w p:World) (o:Nat) (hb:A < w.heap.size):(Plan.ext (Ext3 A B C) w p).cell? ⟨A,o,none⟩ = w.cell? ⟨A,o,none⟩:=((zb7 Ext3.refl w p).cells A o (.inl rfl) hb).1
@[go_sem] theorem cell?_ext3b (A B C:Nat) (w p:World) (o:Nat) (hb:B < w.heap.size):(Plan.ext (Ext3 A B C) w p).cell? ⟨B,o,none⟩ = w.cell? ⟨B,o,none⟩:=((zb7 Ext3.refl w p).cells B o (.inr (.inl rfl)) hb).1
@[go_sem] theorem cell?_ext3c (A B C:Nat) (w p:World) (o:Nat) (hb:C < w.heap.size):(Plan.ext (Ext3 A B C) w p).cell? ⟨C,o,none⟩ = w.cell? ⟨C,o,none⟩:=((zb7 Ext3.refl w p).cells C o (.inr (.inr rfl)) hb).1
@[go_sem] theorem cell?_ext3a_drew (A B C:Nat) (w p:World) (o:Nat) (hb:A < w.heap.size):(Plan.ext (Ext3 A B C) w.drew p).cell? ⟨A,o,none⟩ = w.cell? ⟨A,o,none⟩:=cell?_ext3a A B C w.drew p o hb
@[go_sem] theorem cell?_ext3b_drew (A B C:Nat) (w p:World) (o:Nat) (hb:B < w.heap.size):(Plan.ext (Ext3 A B C) w.drew p).cell? ⟨B,o,none⟩ = w.cell? ⟨B,o,none⟩:=cell?_ext3b A B C w.drew p o hb
@[go_sem] theorem cell?_ext3c_drew (A B C:Nat) (w p:World) (o:Nat) (hb:C < w.heap.size):(Plan.ext (Ext3 A B C) w.drew p).cell? ⟨C,o,none⟩ = w.cell? ⟨C,o,none⟩:=cell?_ext3c A B C w.drew p o hb
end Go.Plan
namespace Go.Proofs.YtmcgnnmffeojpabGreatDoor
open Go.RowKit Go.Plan
theorem zqD {u w:World} {L E:Nat} {Bs:Nat -> Prop} {lo hi md:Int} {st:JSt} {V:List Out} {f0 f1:Int} {c:Bool} (h:EUp u w E Bs lo hi md st V V f0 f1) (hl:LdIs w L (some ⟨E,0,none⟩) c) (hn:¬ Bs L) (hL:L < u.heap.size) (b:Bool):LUpB u (w.setCell ⟨L,1,none⟩ (.bool b)) L E Bs lo hi md st V f0 f1 b:=by
 obtain ⟨h1,Bs',h3,h4⟩:=h;have hs:ExtM (fun k=>k = L) w (w.setCell ⟨L,1,none⟩ (.bool b)):=ExtM.setCell (M:=fun k=>k = L) (p:=⟨L,1,none⟩) (ExtM.refl _) (.inr rfl) _;refine ⟨(h1.mono (fun _ _ h=>.inr h)).fresh' hs (fun _ _ h=>.inl h),hl.set b,Bs',h3.keep hs (fun k hk e=>?_),h4⟩;subst e;rcases h4 _ hk with e | e
 . exact hn e
 . omega
theorem zkX {hs:List Hd} {x:Hd} (h:∀ y ∈ hs,y.r.ok) (he:addE hs x = 0):∀ y ∈ addL hs x,y.r.ok:=by
 have hx:x.r.ok:=by
  unfold addE at he;split at he
  . cases he
  . rename_i hg;have hg1:za0 x.r:=by
     unfold za0;simp only [Bool.and_eq_false_imp,Classical.not_imp,Bool.not_eq_false] at hg;exact hg.1
    have:=hg1.i64
    refine ⟨?_,?_,?_⟩ <;> unfold I64 <;> omega
 intro y hy;unfold addL at hy;rw [if_pos he] at hy;unfold addH insH at hy;simp only [List.mem_append,List.mem_cons] at hy;rcases hy with hy | rfl | hy
 . exact h y (List.mem_of_mem_take hy)
 . exact hx
 . exact h y (List.mem_of_mem_drop hy)
theorem zqU {hs:List Hd} {x:Hd} (h:addE hs x ≠ 0):addL hs x = hs:=if_neg h
theorem zo7 {u:World} {E:Nat} {Bs:Nat -> Prop} {lo hi md:Int} {st:JSt} {V W:List Out} {f0 f1:Int} (h:EAt u E Bs lo hi md st V W f0 f1) (s k t q m c:Int) (hp:zcF s ⟨⟨k,t,q⟩,m⟩ st = c) :
 ∃ P,u.cell? ⟨E,3,none⟩ = some (.pointer (some ⟨P,0,none⟩)) /\ ∀ U,Ext u U -> Calls Tryz.prog 82 #[.pointer (some ⟨P,0,none⟩),.int .i64 s,.agg #[.int .i64 k,.int .i64 t,.int .i64 q],.int .i64 m] U fun e U'=>e = .returned (errV c) /\ ExtM (fun k=>Bs k /\ k ≠ E) U U' /\ EUp U U' E Bs lo hi md (if c = 0 then putJ s.toNat ⟨⟨k,t,q⟩,m⟩ st else st) V W f0 f1:=by
 obtain ⟨P,M,v0,v1,D,DG,ents,hI,rfl⟩:=h;refine ⟨P,hI.c3,fun U hU=>?_⟩;have hIU:=hI.ext hU;have hnE:¬ zaE P M v0 v1 E:=fun e=>(hI.sJ E e).1 (.inl rfl);unfold zcF at hp;split at hp
 . rename_i h0;subst h0;refine (zot hIU.join k t q m).mono ?_;rintro e U' ⟨rfl,hj⟩;rw [hp];refine ⟨rfl,hj.1.mono (fun k _ hk=>⟨.inl hk,fun e=>hnE (e ▸ hk)⟩),?_⟩;by_cases hc:c = 0
   . rw [if_pos hc];exact hIU.upJ hj (zkX hI.okA (hp.trans hc)) hI.okB
   . rw [if_neg hc];have e:putJ 0 ⟨⟨k,t,q⟩,m⟩ st = st:=by show { st with a:=addL st.a _ } = st;rw [zqU (by rw [hp];exact hc)]
     rw [e] at hj;exact hIU.upJ hj hI.okA hI.okB
 . split at hp
   . rename_i h1;subst h1;refine (zob hIU.join k t q m).mono ?_;rintro e U' ⟨rfl,hj⟩;rw [hp];refine ⟨rfl,hj.1.mono (fun k _ hk=>⟨.inl hk,fun e=>hnE (e ▸ hk)⟩),?_⟩;by_cases hc:c = 0
     . rw [if_pos hc];exact hIU.upJ hj hI.okA (zkX hI.okB (hp.trans hc))
     . rw [if_neg hc];have e:putJ 1 ⟨⟨k,t,q⟩,m⟩ st = st:=by show { st with b:=addL st.b _ } = st;rw [zqU (by rw [hp];exact hc)]
       rw [e] at hj;exact hIU.upJ hj hI.okA hI.okB
   . rename_i h0 h1;subst hp;refine (zri P s k t q m U ⟨h0,h1⟩).mono ?_;rintro e U' ⟨rfl,hx⟩;exact ⟨rfl,hx.mono (fun _ _ h=>h.elim),EUp.same ⟨P,M,v0,v1,D,DG,ents,hIU,rfl⟩ hx⟩
theorem zqd {u:World} {L E:Nat} {Bs:Nat -> Prop} {lo hi md:Int} {st:JSt} {V:List Out} {f0 f1:Int} (hL:LdIs u L (some ⟨E,0,none⟩) false) (hE:EAt u E Bs lo hi md st V V f0 f1) (hnB:¬ Bs L) (i:Int) (hi3:3 <= i) (s k t q m:Int) (a:Option Addr) (cap:Nat) (hnum:zaq u L a [s,k,t,q,m]) (hgB:∀ g,a = some ⟨g,0,none⟩ -> ¬ Bs g) (c:Int) (hp:zcF s ⟨⟨k,t,q⟩,m⟩ st = c) (b:Bool) (hb:b = decide (c ≠ 0)) :
 Calls Tryz.prog 40 #[.pointer (some ⟨L,0,none⟩),.int .i64 i,.string ⟨#[114,111,119]⟩,.slice a 5 cap] u fun e u'=>e = .returned (.tuple #[]) /\ LUpB u u' L E Bs lo hi md (if c = 0 then putJ s.toNat ⟨⟨k,t,q⟩,m⟩ st else st) V f0 f1 b:=by
 obtain ⟨g,rfl,hgL,hgu,hgc⟩:=hnum.cells (by simp);have hgB:=hgB g rfl;have g0:=hgc 0 s rfl;have g1:=hgc 1 k rfl;have g2:=hgc 2 t rfl;have g3:=hgc 3 q rfl;have g4:=hgc 4 m rfl;clear hgc hnum;obtain ⟨w1,w2,w3,w4,r1,r2,r3,r4,hx4,hlk⟩:=zdk u;have hl:=hlk sRow (by decide);rw [zmE] at hl;simp only [Option.getD_some,Option.isSome_some] at hl;unfold sRow at hl r4;unfold zeB at r1;unfold sFed at r2;unfold zcI at r3;have hmm:=@run_makeMap Tryz.prog;have i0:(i == 0) = false:=by simp;omega
 have i1:(i == 1) = false:=by simp;omega
 have i2:(i == 2) = false:=by simp;omega
 have HI:=Lib.hid hi3;have HLK:=Lib.hid hlk;have HX:=Lib.hid hx4;have HL:=Lib.hid hL;have HE:=Lib.hid hE;have HP:=Lib.hid hp;have HBB:=Lib.hid hb;clear hi3 hlk hx4 hL hE hp hb;go_enter Tryz.func40,Tryz.ntmps40;go_upto_region 20 with fail;have hl4:=HL.out.keep HX.out id;have hat:=HE.out.ext HX.out;obtain ⟨P,c3,hput⟩:=zo7 hat s k t q m c HP.out;have c0:=hl4.c0;have lE:=hat.lt _ hat.mine;have lL:=hl4.lt;have hs4:=HX.out.size;have k4:=fun o=>HX.out.cell (p:=⟨g,o,none⟩) hgu id;have y0:=(k4 _).trans g0;have y1:=(k4 _).trans g1;have y2:=(k4 _).trans g2;have y3:=(k4 _).trans g3;have y4:=(k4 _).trans g4;have lg:g < w4.heap.size:=by omega
 clear k4 g0 g1 g2 g3 g4 r1 r2 r3 r4 hl hmm;have hnL3:¬ (Bs L /\ L ≠ E):=fun e=>hnB e.1;have hnE3:¬ (Bs E /\ E ≠ E):=fun e=>e.2 rfl;have hnG3:¬ (Bs g /\ g ≠ E):=fun e=>hgB e.1;refine Plan.b0 (Plan.Ext3 L E g) 25 ?_;refine Plan.qs 12 [0,1,2,3,4,5,6,7,8,9,10,11] ?_;iterate 12 go_big_quiet_step (fail)
 refine Plan.qs 11 [12,13,14,15,16,17,18,19,20,21,22] ?_;iterate 11 go_big_quiet_step (fail)
 refine Plan.o1 23 fun K hK=>?_;go_wp2_with (fail);refine (hput _ (ExtM.refl _).drew).mono ?_;rintro e w5 ⟨rfl,h5,hup⟩;have H5:=Ext3.trans _ _ _ (Ext3.refl _).drew (Ext3.of_M hnL3 hnE3 hnG3 h5);obtain ⟨hc5,hf5,-⟩:=Ext3.rules H5;have hs5_0:L < w5.heap.size:=by have:=H5.size;(try simp at this);omega
 have hs5_1:E < w5.heap.size:=by have:=H5.size;(try simp at this);omega
 have hs5_2:g < w5.heap.size:=by have:=H5.size;(try simp at this);omega
 go_wp2_with (fail);refine hK _ _ (Ext3.of_M hnL3 hnE3 hnG3 h5) ?_;clear hK K;refine Plan.qs 1 [24] ?_;go_big_quiet_step (fail);refine Plan.dn ?_;have hlu:=HL.out.lt;have hup1:=EUp.before (ExtM.trans _ _ _ HX.out ((ExtM.refl w4).drew)) hup;have hl5:=hl4.keep H5 (fun e=>e (.inl rfl));have c1:=hl5.c1;have cf:=hl5.f 1;have lL5:=hl5.lt;have hfin:=zqD hup1 hl5 hnB hlu b;have HF:=Lib.hid hfin;clear hfin hup hup1 hl5 h5 H5 hl4 hat hput c3 c0 lE lL hs4 y0 y1 y2 y3 y4 lg hnL3 hnE3 hnG3;by_cases hc:c = 0
 . subst hc;have er:errV 0 = .nilIface:=rfl;rw [er];obtain rfl:b = false:=HBB.out;go_wp2_with fail;go_end0;exact ⟨rfl,HF.out⟩
 . have er:errV c = .iface 24 (.int .i64 c):=if_neg hc;rw [er];obtain rfl:b = true:=by rw [HBB.out];simpa using hc
   clear er;have HN:=Lib.hid hc;clear hc;go_wp2_with fail;go_end0;refine ⟨rfl,?_⟩;have h:=HF.out;rw [if_neg HN.out] at h
   first | exact h | exact HF.out
theorem zlu {u:World} {L E:Nat} {Bs:Nat -> Prop} {lo hi md:Int} {st:JSt} {V:List Out} {f0 f1:Int} (hL:LdIs u L (some ⟨E,0,none⟩) false) (hE:EAt u E Bs lo hi md st V V f0 f1) (hnB:¬ Bs L) (i:Int) (hi3:3 <= i) (s k t q m:Int) (a:Option Addr) (cap:Nat) (hnum:zaq u L a [s,k,t,q,m]) (hgB:∀ g,a = some ⟨g,0,none⟩ -> ¬ Bs g) (hp:zcF s ⟨⟨k,t,q⟩,m⟩ st = 0) :
 Calls Tryz.prog 40 #[.pointer (some ⟨L,0,none⟩),.int .i64 i,.string ⟨#[114,111,119]⟩,.slice a 5 cap] u fun e u'=>e = .returned (.tuple #[]) /\ LUp u u' L E Bs lo hi md (putJ s.toNat ⟨⟨k,t,q⟩,m⟩ st) V f0 f1:=zqd hL hE hnB i hi3 s k t q m a cap hnum hgB 0 hp false rfl
theorem zaq.ext {w w':World} {b:Nat} {a:Option Addr} {ns:List Int} (h:zaq w b a ns) (hx:Ext w w'):zaq w' b a ns:=by
 rcases h with h | ⟨g,c,t,fz,h1,h2,h3,h4,h5⟩
 . exact .inl h
 . exact .inr ⟨g,c,t,fz,h1,h2,h3,(hx.block g (Array.getElem?_eq_some_iff.1 h4).1 id).trans h4,h5⟩
theorem zpS {u w0 w:World} {L E:Nat} {Bs:Nat -> Prop} {lo hi md:Int} {st:JSt} {V:List Out} {f0 f1:Int} {c:Bool} (hx:Ext u w0) (h:LUpB w0 w L E Bs lo hi md st V f0 f1 c) (hn:¬ Bs L) (hL:L < u.heap.size) (b:Bool):LUpB u (w.setCell ⟨L,1,none⟩ (.bool b)) L E Bs lo hi md st V f0 f1 b:=by
 obtain ⟨h1,h2,Bs',h3,h4⟩:=h;have hz:=hx.size;have hs:ExtM (fun k=>k = L) w (w.setCell ⟨L,1,none⟩ (.bool b)):=ExtM.setCell (M:=fun k=>k = L) (p:=⟨L,1,none⟩) (ExtM.refl _) (.inr rfl) _;refine ⟨((hx.mono (fun _ _ h=>h.elim)).fresh' h1 (fun _ _ h=>h)).fresh' hs (fun _ _ h=>.inl h),h2.set b,Bs',h3.keep hs (fun k hk e=>?_),fun k hk=>(h4 k hk).imp id (fun q=>Nat.le_trans hz q)⟩;subst e;rcases h4 _ hk with e | e
 . exact hn e
 . omega
theorem zdI {u w0 w:World} {L E:Nat} {Bs:Nat -> Prop} {lo hi md:Int} {st:JSt} {V:List Out} {f0 f1:Int} (hx:Ext u w0) (h:LUp w0 w L E Bs lo hi md st V f0 f1) (hn:¬ Bs L) (hL:L < u.heap.size):LUp u (w.setCell ⟨L,1,none⟩ (.bool false)) L E Bs lo hi md st V f0 f1:=zpS hx h hn hL false
theorem zkZ {u:World} {L E:Nat} {Bs:Nat -> Prop} {lo hi md:Int} {st:JSt} {V:List Out} {f0 f1:Int} (hL:LdIs u L (some ⟨E,0,none⟩) false) (hE:EAt u E Bs lo hi md st V V f0 f1) (hnB:¬ Bs L) (i:Int) (hi3:3 <= i) (n:List Int) (a:Option Addr) (cap:Nat) (hnum:zaq u L a n) (hV:V.length < 900000) (x:Out) (hx:outE n = some x) :
 Calls Tryz.prog 40 #[.pointer (some ⟨L,0,none⟩),.int .i64 i,.string ⟨#[111,117,116]⟩,.slice a n.length cap] u fun e u'=>e = .returned (.tuple #[]) /\ LUp u u' L E Bs lo hi md st (x :: V) f0 f1:=by
 obtain ⟨w1,w2,w3,w4,r1,r2,r3,r4,hx4,hlk⟩:=zdk u;have hl:=hlk sOut (by decide);rw [znb] at hl;simp only [Option.getD_none,Option.isSome_none] at hl;unfold sOut at hl;unfold sRow at r4;unfold zeB at r1;unfold sFed at r2;unfold zcI at r3;have hmm:=@run_makeMap Tryz.prog;have i0:(i == 0) = false:=by simp;omega
 have i1:(i == 1) = false:=by simp;omega
 have i2:(i == 2) = false:=by simp;omega
 have hout:=zp9 (hL.keep hx4 id) (hE.ext hx4) hnB n a cap (hnum.ext hx4) hV x hx;have hlu:=hL.lt;have HLU:=Lib.hid hlu;have HX:=Lib.hid hx4;clear hi3 hlk hx4 hL hE hnum hx hlu;go_enter Tryz.func40,Tryz.ntmps40;go_wp2_with (go_at_call 83;refine hout.mono ?_;rintro e w5 ⟨rfl,hup⟩;refine Hid.out ?_);refine Lib.hid ?_;have hl5:=hup.2.1;have c1:=hl5.c1;have cf:=hl5.f 1;have lL5:=hl5.lt;have hfin:=zdI HX.out hup hnB HLU.out;clear hup hl5 r1 r2 r3 r4 hl hmm hout;go_wp2_with fail;go_end0;exact ⟨rfl,hfin⟩
theorem setB (L o:Nat) (v:Value) (w:World):Plan.ExtB L w (w.setCell ⟨L,o,none⟩ v):=ExtM.setCell (M:=fun k=>k = L) (p:=⟨L,o,none⟩) (ExtM.refl _) (.inr rfl) _
theorem LdIs.rules {u w:World} {L:Nat} {p:Option Addr} {b:Bool} (h:LdIs u L p b) (hx:Ext u w):w.cell? ⟨L,0,none⟩ = some (.pointer p) /\ w.frozen? ⟨L,0,none⟩ = false /\ True:=⟨(h.keep hx id).c0,(h.keep hx id).f 0,trivial⟩
theorem LdIs.setE {u:World} {L:Nat} {p:Option Addr} {b:Bool} (h:LdIs u L p b) (q:Option Addr):LdIs (u.setCell ⟨L,0,none⟩ (.pointer q)) L q b:=by
 have h0:=h.c0;have h1:=h.c1;refine ⟨?_,?_,fun o=>?_⟩
 . go_simp
 . go_simp
 . have:=h.f o
   go_simp
theorem zjn {u:World} {L:Nat} (hL:LdIs u L none false) (b c d:Int) (a:Option Addr) (cap:Nat) (hnum:zaq u L a [b,c,d]) (hc:checkI b c d = 0) :
 Calls Tryz.prog 40 #[.pointer (some ⟨L,0,none⟩),.int .i64 0,.string ⟨#[112,108,97,110]⟩,.slice a 3 cap] u fun e u'=>e = .returned (.tuple #[]) /\ ∃ E Bs,ExtM (fun k=>k = L) u u' /\ LdIs u' L (some ⟨E,0,none⟩) false /\ EAt u' E Bs b c d ⟨[],[],-1099511627777,-1099511627777,0⟩ [] [] 0 0 /\ ∀ k,Bs k -> u.heap.size <= k:=by
 obtain ⟨g,rfl,hgL,hgu,hgc⟩:=hnum.cells (by simp);have g0:=hgc 0 b rfl;have g1:=hgc 1 c rfl;have g2:=hgc 2 d rfl;clear hgc hnum;obtain ⟨w1,w2,w3,w4,r1,r2,r3,r4,hx4,hlk⟩:=zdk u;have hl:=hlk zeB (by decide);rw [zlf] at hl;simp only [Option.getD_some,Option.isSome_some] at hl;unfold sRow at r4;unfold zeB at r1 hl;unfold sFed at r2;unfold zcI at r3;have hmm:=@run_makeMap Tryz.prog;have HLK:=Lib.hid hlk;have HX:=Lib.hid hx4;have HL:=Lib.hid hL;have HC:=Lib.hid hc;clear hlk hx4 hL hc;go_enter Tryz.func40,Tryz.ntmps40;go_upto_region 7 with fail;have hl4:=HL.out.keep HX.out id;have k4:=fun o=>HX.out.cell (p:=⟨g,o,none⟩) hgu id;have y0:=(k4 _).trans g0;have y1:=(k4 _).trans g1;have y2:=(k4 _).trans g2;have lL:=hl4.lt;have lg:g < w4.heap.size:=Nat.lt_of_lt_of_le hgu HX.out.size;clear k4 g0 g1 g2 r1 r2 r3 r4 hl hmm;have hrul:∀ {W:World},Ext w4.drew W -> Plan.ExtB L w4 W -> W.cell? ⟨L,0,none⟩ = some (.pointer none) /\ W.frozen? ⟨L,0,none⟩ = false /\ True:=fun h _=>hl4.rules (ExtM.trans _ _ _ (ExtM.refl _).drew h);refine Plan.b0 (Plan.ExtB L) 19 ?_;refine Plan.qs 11 [0,1,2,3,4,5,6,7,8,9,10] ?_;iterate 11 go_big_quiet_step (fail)
 refine Plan.o1 11 fun K hK=>?_;go_wp2_with (fail);refine (znc b c d _ HC.out).mono ?_;rintro e w5 ⟨E,Bs,rfl,h5,hnew,hat⟩;have H5:=(ExtB.trans (B:=L)) _ _ _ (ExtB.of_ext (ExtM.refl _).drew) (ExtB.of_ext h5);obtain ⟨hc5,hf5,-⟩:=hrul h5 H5;have hs5_0:L < w5.heap.size:=by have:=H5.size;(try simp at this);omega
 have hs5_1:g < w5.heap.size:=by have:=H5.size;(try simp at this);omega
 go_wp2_with (fail);refine hK _ _ (ExtB.of_ext h5) ?_;clear hK K;refine Plan.qs 5 [12,13,14,15,16] ?_;iterate 5 go_big_quiet_step (fail)
 refine Plan.o1 17 fun K hK=>?_;go_wp2_with (fail);refine hK _ _ (setB L 0 _ _) ?_;clear hK K;refine Plan.qs 1 [18] ?_;go_big_quiet_step (fail);refine Plan.dn ?_;have hx5:Ext w4 w5:=ExtM.trans _ _ _ (ExtM.refl w4).drew h5;have hl5:=(hl4.keep hx5 id).setE (some ⟨E,0,none⟩);have hnL:∀ k,Bs k -> u.heap.size <= k:=fun k hk=>Nat.le_trans HX.out.size (hnew k hk);have hLu:=HL.out.lt;have hnB:¬ Bs L:=fun e=>by have:=hnL L e;omega
 have hS1:ExtM (fun k=>k = L) w5 (w5.setCell ⟨L,0,none⟩ (.pointer (some ⟨E,0,none⟩))):=setB L 0 _ _;have hup:LUp w5 (w5.setCell ⟨L,0,none⟩ (.pointer (some ⟨E,0,none⟩))) L E Bs b c d ⟨[],[],-1099511627777,-1099511627777,0⟩ [] 0 0 :=
  ⟨hS1.mono (fun _ _ h=>.inl h),hl5,Bs,hat.keep hS1 (fun k hk e=>hnB (e ▸ hk)),fun k hk=>.inl hk⟩
 have hfin:=zdI (u:=u) (ExtM.trans _ _ _ HX.out hx5) hup hnB hLu;have c1:=hl5.c1;have cf:=hl5.f 1;have lL5:=hl5.lt;have HF:=Lib.hid hfin;have HNL:=Lib.hid hnL;clear hfin hnL hup hl5 hl4 hat hnew hrul hx5 hS1 h5 H5 hc5 hf5 hs5_0 hs5_1 y0 y1 y2 lL lg;go_wp2_with fail;go_end0;obtain ⟨f1,f2,Bs',f3,f4⟩:=HF.out;exact ⟨rfl,E,Bs',f1.mono (fun k hk h=>h.elim id (fun e=>absurd (HNL.out k e) (by omega))),f2,f3,fun k hk=>(f4 k hk).elim (HNL.out k) id⟩
theorem zn8 {u:World} {E:Nat} {Bs:Nat -> Prop} {lo hi md:Int} {st:JSt} {V W:List Out} {f0 f1:Int} (h:EAt u E Bs lo hi md st V W f0 f1) (n:Int) :
 ∃ P,u.cell? ⟨E,3,none⟩ = some (.pointer (some ⟨P,0,none⟩)) /\ ∀ U,Ext u U -> Calls Tryz.prog 81 #[.pointer (some ⟨P,0,none⟩),.int .i64 n] U fun e U'=>e = .returned (.tuple #[]) /\ ExtM (fun k=>Bs k /\ k ≠ E) U U' /\ EUp U U' E Bs lo hi md { st with late:=max n 0 } V W f0 f1:=by
 obtain ⟨P,M,v0,v1,D,DG,ents,hI,rfl⟩:=h;refine ⟨P,hI.c3,fun U hU=>?_⟩;have hIU:=hI.ext hU;have hnE:¬ zaE P M v0 v1 E:=fun e=>(hI.sJ E e).1 (.inl rfl);refine (zh5 hIU.join n).mono ?_;rintro e U' ⟨rfl,hj,hx⟩;have hjx:ExtM (zaE P M v0 v1) U U':=hx.mono (fun k _ e=>.inl e);have hju:JUp U U' P M (zaE P M v0 v1) lo hi md { st with late:=max n 0 }:=⟨hjx,_,⟨v0,v1,hj,rfl⟩,fun k hk=>.inl hk⟩
 exact ⟨rfl,hjx.mono (fun k _ hk=>⟨.inl hk,fun e=>hnE (e ▸ hk)⟩),hIU.upJ hju hI.okA hI.okB⟩
theorem zqg {u:World} {L E:Nat} {Bs:Nat -> Prop} {lo hi md:Int} {st:JSt} {V:List Out} {f0 f1:Int} (hL:LdIs u L (some ⟨E,0,none⟩) false) (hE:EAt u E Bs lo hi md st V V f0 f1) (hnB:¬ Bs L) (b c d:Int) (a:Option Addr) (cap:Nat) (hnum:zaq u L a [b,c,d]) (hgB:∀ g,a = some ⟨g,0,none⟩ -> ¬ Bs g) (bb:Bool) (hbb:bb = decide (b < 0 \/ c < 0 \/ d < 0)) :
 Calls Tryz.prog 40 #[.pointer (some ⟨L,0,none⟩),.int .i64 1,.string ⟨#[102,101,100]⟩,.slice a 3 cap] u fun e u'=>e = .returned (.tuple #[]) /\ LUpB u u' L E Bs lo hi md { st with late:=max d 0 } V b c bb:=by
 obtain ⟨g,rfl,hgL,hgu,hgc⟩:=hnum.cells (by simp);have hgB:=hgB g rfl;have g0:=hgc 0 b rfl;have g1:=hgc 1 c rfl;have g2:=hgc 2 d rfl;clear hgc hnum;obtain ⟨w1,w2,w3,w4,r1,r2,r3,r4,hx4,hlk⟩:=zdk u;have hl:=hlk sFed (by decide);rw [zmN] at hl;simp only [Option.getD_some,Option.isSome_some] at hl;unfold sRow at r4;unfold zeB at r1;unfold sFed at r2 hl;unfold zcI at r3;have hmm:=@run_makeMap Tryz.prog;have HLK:=Lib.hid hlk;have HX:=Lib.hid hx4;have HL:=Lib.hid hL;have HE:=Lib.hid hE;have HBB:=Lib.hid hbb;clear hlk hx4 hL hE hbb;go_enter Tryz.func40,Tryz.ntmps40;go_upto_region 9 with fail;have hl4:=HL.out.keep HX.out id;have hat:=HE.out.ext HX.out;have hcell:w4.frozen? ⟨E,7,none⟩ = false /\ w4.frozen? ⟨E,8,none⟩ = false /\ w4.cell? ⟨E,7,none⟩ = some (.int .i64 f0) /\ w4.cell? ⟨E,8,none⟩ = some (.int .i64 f1):=by
  obtain ⟨P,M,v0,v1,D,DG,ents,hI,-⟩:=hat;exact ⟨hI.fz 7,hI.fz 8,hI.c7,hI.c8⟩
 obtain ⟨e7,e8,c7,c8⟩:=hcell;have c0:=hl4.c0;have lE:=hat.lt _ hat.mine;have lL:=hl4.lt;have k4:=fun o=>HX.out.cell (p:=⟨g,o,none⟩) hgu id;have y0:=(k4 _).trans g0;have y1:=(k4 _).trans g1;have y2:=(k4 _).trans g2;have lg:g < w4.heap.size:=Nat.lt_of_lt_of_le hgu HX.out.size;clear k4 g0 g1 g2 r1 r2 r3 r4 hl hmm;go_cut [] (fun wx=>EUp w4 wx E Bs lo hi md st V V b c)
 case first =>
  refine Plan.bT Plan.Ext [13] 14 ?_;refine Plan.qs 11 [0,1,2,3,4,5,6,7,8,9,10] ?_;iterate 11 go_big_quiet_step (fail)
  refine Plan.o1 11 fun K hK=>?_;go_wp2_with (fail);refine hK _ _ (ExtM.refl _) ?_;clear hK K;refine Plan.qs 1 [12] ?_;go_big_quiet_step (fail);refine Plan.ol 13 fun K hK=>?_;go_wp2_with (fail);refine Plan.dn ?_;go_wp2_with fail;go_meet
  case rel=>exact EUp.fed hat.mine (EUp.fed hat.mine (EUp.same hat ((ExtM.refl _).drew)) 7 b (.inl ⟨rfl,rfl,rfl⟩)) 8 c (.inr ⟨rfl,rfl,rfl⟩)
 case rest =>
  have HC4:=Lib.hid hcut;obtain ⟨hx9,Bs1,hat9,hB1⟩:=hcut;have hlw:=hl4.lt;have n1:∀ k,k < w4.heap.size -> ¬ Bs k -> ¬ Bs1 k:=fun k hk hn e=>(hB1 k e).elim hn (fun q=>by omega);have hl9:=hl4.keep hx9 hnB;have hnL3:¬ (Bs1 L /\ L ≠ E):=fun e=>n1 L hlw hnB e.1;have hnE3:¬ (Bs1 E /\ E ≠ E):=fun e=>e.2 rfl;have hnG3:¬ (Bs1 g /\ g ≠ E):=fun e=>n1 g lg hgB e.1;obtain ⟨P,c3,hlate⟩:=zn8 hat9 d;have z0:=(hx9.cell (p:=⟨g,0,none⟩) lg hgB).trans y0;have z1:=(hx9.cell (p:=⟨g,1,none⟩) lg hgB).trans y1;have z2:=(hx9.cell (p:=⟨g,2,none⟩) lg hgB).trans y2;have lE9:=hat9.lt _ hat9.mine;have lL9:=hl9.lt;have lg9:=Nat.lt_of_lt_of_le lg hx9.size;have HX9:=Lib.hid hx9;have HB1:=Lib.hid hB1;have HL4:=Lib.hid hl4;clear c0 y0 y1 y2 e7 e8 c7 c8 lE lL lg hl4 hat n1 hx9 hB1;have c0:=hl9.c0;go_upto_region 10 with fail;refine Plan.b0 (Plan.Ext3 L E g) 11 ?_;refine Plan.qs 10 [0,1,2,3,4,5,6,7,8,9] ?_;iterate 10 go_big_quiet_step (fail)
  refine Plan.o1 10 fun K hK=>?_;go_wp2_with (fail);refine (hlate _ (ExtM.refl _).drew).mono ?_;rintro e w6 ⟨rfl,h6,hup⟩;have H6:=Ext3.trans _ _ _ (Ext3.refl _).drew (Ext3.of_M hnL3 hnE3 hnG3 h6);obtain ⟨hc6,hf6,-⟩:=Ext3.rules H6;have hs6_0:L < w6.heap.size:=by have:=H6.size;(try simp at this);omega
  have hs6_1:E < w6.heap.size:=by have:=H6.size;(try simp at this);omega
  have hs6_2:g < w6.heap.size:=by have:=H6.size;(try simp at this);omega
  go_wp2_with (fail);refine hK _ _ (Ext3.of_M hnL3 hnE3 hnG3 h6) ?_;clear hK K;refine Plan.dn ?_;have hl6:=hl9.keep H6 (fun e=>e (.inl rfl));have x0:=(H6.cells g 0 (.inr (.inr rfl)) lg9).1.trans z0;have x1:=(H6.cells g 1 (.inr (.inr rfl)) lg9).1.trans z1;have x2:=(H6.cells g 2 (.inr (.inr rfl)) lg9).1.trans z2;have c1:=hl6.c1;have cf:=hl6.f 1;have lL6:=hl6.lt;have hupA:=EUp.trans HX9.out HB1.out (EUp.before ((ExtM.refl _).drew) hup);have hfin:=zpS HX.out (zqD hupA hl6 hnB hlw bb) hnB HL.out.lt bb;have HF:=Lib.hid hfin;clear hfin hupA hup h6 H6 hl6 hl9 hat9 hlate c3 z0 z1 z2 c0 lE9 lL9 hnL3 hnE3 hnG3;by_cases q0:b < 0
  . obtain rfl:bb = true:=by rw [HBB.out];simp [q0]
    have b0:decide (b < 0) = true:=by simpa using q0
    clear q0;go_wp2_with fail;go_end0;exact ⟨rfl,HF.out⟩
  have b0:decide (b < 0) = false:=by simpa using q0
  by_cases q1:c < 0
  . obtain rfl:bb = true:=by rw [HBB.out];simp [q1]
    have b1:decide (c < 0) = true:=by simpa using q1
    clear q0 q1;go_wp2_with fail;go_end0;exact ⟨rfl,HF.out⟩
  have b1:decide (c < 0) = false:=by simpa using q1
  by_cases q2:d < 0
  . obtain rfl:bb = true:=by rw [HBB.out];simp [q2]
    have b2:decide (d < 0) = true:=by simpa using q2
    clear q0 q1 q2;go_wp2_with fail;go_end0;exact ⟨rfl,HF.out⟩
  have b2:decide (d < 0) = false:=by simpa using q2
  obtain rfl:bb = false:=by rw [HBB.out];simp [q0,q1,q2]
  clear q0 q1 q2;go_wp2_with fail;go_end0;exact ⟨rfl,HF.out⟩
theorem zli {u:World} {L E:Nat} {Bs:Nat -> Prop} {lo hi md:Int} {st:JSt} {V:List Out} {f0 f1:Int} (hL:LdIs u L (some ⟨E,0,none⟩) false) (hE:EAt u E Bs lo hi md st V V f0 f1) (hnB:¬ Bs L) (b c d:Int) (a:Option Addr) (cap:Nat) (hnum:zaq u L a [b,c,d]) (hgB:∀ g,a = some ⟨g,0,none⟩ -> ¬ Bs g) (hb:0 <= b) (hc:0 <= c) (hd:0 <= d) :
 Calls Tryz.prog 40 #[.pointer (some ⟨L,0,none⟩),.int .i64 1,.string ⟨#[102,101,100]⟩,.slice a 3 cap] u fun e u'=>e = .returned (.tuple #[]) /\ LUp u u' L E Bs lo hi md { st with late:=d } V b c:=by
 have h:=zqg hL hE hnB b c d a cap hnum hgB false (by simp;omega);rw [show max d 0 = d by omega] at h;exact h
theorem zi2 {lo hi:Int} {s:Nat} {t:Int} {st:JSt} (hA:∀ h ∈ st.a,h.r.ok) (hB:∀ h ∈ st.b,h.r.ok):(∀ h ∈ (zbr lo hi s t st).a,h.r.ok) /\ ∀ h ∈ (zbr lo hi s t st).b,h.r.ok:=by
 unfold zbr;split
 . exact ⟨hA,fun h hh=>hB h (List.mem_filter.1 hh).1⟩
 . exact ⟨fun h hh=>hA h (List.mem_filter.1 hh).1,hB⟩
theorem ziC {u:World} {E:Nat} {Bs:Nat -> Prop} {lo hi md:Int} {st:JSt} {V W:List Out} {f0 f1:Int} (h:EAt u E Bs lo hi md st V W f0 f1) (hp:zay lo hi) (t:Int) (hl:st.b.length < 1000000) :
 ∃ P,u.cell? ⟨E,3,none⟩ = some (.pointer (some ⟨P,0,none⟩)) /\ ∀ U,Ext u U -> Calls Tryz.prog 49 #[.pointer (some ⟨P,0,none⟩),.int .i64 0,.int .i64 t] U fun e U'=>e = .returned (errV (zpG 0 t st.x st.y)) /\ ExtM (fun k=>Bs k /\ k ≠ E) U U' /\ EUp U U' E Bs lo hi md (if zpG 0 t st.x st.y = 0 then zbr lo hi 0 t st else st) V W f0 f1:=by
 obtain ⟨P,M,v0,v1,D,DG,ents,hI,rfl⟩:=h;refine ⟨P,hI.c3,fun U hU=>?_⟩;have hIU:=hI.ext hU;have hnE:¬ zaE P M v0 v1 E:=fun e=>(hI.sJ E e).1 (.inl rfl);refine (zmG hIU.join hp t hl).mono ?_;rintro e U' ⟨rfl,hj⟩;have hok:=zi2 (lo:=lo) (hi:=hi) (s:=0) (t:=t) hI.okA hI.okB;refine ⟨rfl,hj.1.mono (fun k _ hk=>⟨.inl hk,fun e=>hnE (e ▸ hk)⟩),hIU.upJ hj ?_ ?_⟩
 . split
   . exact hok.1
   . exact hI.okA
 . split
   . exact hok.2
   . exact hI.okB
theorem ziB {u:World} {E:Nat} {Bs:Nat -> Prop} {lo hi md:Int} {st:JSt} {V W:List Out} {f0 f1:Int} (h:EAt u E Bs lo hi md st V W f0 f1) (hp:zay lo hi) (t:Int) (hl:st.a.length < 1000000) :
 ∃ P,u.cell? ⟨E,3,none⟩ = some (.pointer (some ⟨P,0,none⟩)) /\ ∀ U,Ext u U -> Calls Tryz.prog 49 #[.pointer (some ⟨P,0,none⟩),.int .i64 1,.int .i64 t] U fun e U'=>e = .returned (errV (zpG 1 t st.x st.y)) /\ ExtM (fun k=>Bs k /\ k ≠ E) U U' /\ EUp U U' E Bs lo hi md (if zpG 1 t st.x st.y = 0 then zbr lo hi 1 t st else st) V W f0 f1:=by
 obtain ⟨P,M,v0,v1,D,DG,ents,hI,rfl⟩:=h;refine ⟨P,hI.c3,fun U hU=>?_⟩;have hIU:=hI.ext hU;have hnE:¬ zaE P M v0 v1 E:=fun e=>(hI.sJ E e).1 (.inl rfl);refine (zlW hIU.join hp t hl).mono ?_;rintro e U' ⟨rfl,hj⟩;have hok:=zi2 (lo:=lo) (hi:=hi) (s:=1) (t:=t) hI.okA hI.okB;refine ⟨rfl,hj.1.mono (fun k _ hk=>⟨.inl hk,fun e=>hnE (e ▸ hk)⟩),hIU.upJ hj ?_ ?_⟩
 . split
   . exact hok.1
   . exact hI.okA
 . split
   . exact hok.2
   . exact hI.okB
end Go.Proofs.YtmcgnnmffeojpabGreatDoor
