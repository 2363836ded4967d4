import Derived.Test.YtiknejbcehpmoaaGreatDoorPk27
import Derived.Deep.DeepCutAuto
import Derived.Deep.CutBlock
set_option maxRecDepth 100000
set_option maxHeartbeats 8000000
namespace Go.Proofs.YtiknejbcehpmoaaGreatDoor
open Go.RowKit Go.Plan
def zdl (w:World) (B:Nat):Nat -> List Value -> World
 | _,[]=>w
 | i,v :: l=>zdl (w.setCell ⟨B,i,none⟩ v) B (i + 1) l
theorem zcE (B:Nat):∀ (l:List Value) (i:Nat) (w:World),ExtM (fun k=>k = B) w (zdl w B i l)
 | [],_,w=>ExtM.refl w
 | v :: l,i,w=>(ExtM.setCell (M:=fun k=>k = B) (ExtM.refl w) (p:=⟨B,i,none⟩) (.inr rfl) v).fresh' (zcE B l (i + 1) _) (fun _ _ h=>h)
theorem zdo (B:Nat):∀ (l:List Value) (i:Nat) (w:World) (o:Nat),(zdl w B i l).frozen? ⟨B,o,none⟩ = w.frozen? ⟨B,o,none⟩
 | [],_,_,_=>rfl
 | _v :: l,i,_w,o=>(zdo B l (i + 1) _ o).trans (World.frozen?_setCell _ _ _ _)
theorem zff (B:Nat):∀ (l:List Value) (i:Nat) (w:World) (o:Nat),o < i -> (zdl w B i l).cell? ⟨B,o,none⟩ = w.cell? ⟨B,o,none⟩
 | [],_,_,_,_=>rfl
 | _v :: l,i,w,o,ho=>(zff B l (i + 1) _ o (by omega)).trans (World.cell?_setCell_other _ _ _ _ (by intro e;simp only [Addr.mk.injEq,and_true,true_and] at e;omega))
theorem zcf (B:Nat):∀ (l:List Value) (i:Nat) (w:World),(∀ j,j < l.length -> ∃ z,w.cell? ⟨B,i + j,none⟩ = some z) -> ∀ j v,l[j]? = some v -> (zdl w B i l).cell? ⟨B,i + j,none⟩ = some v
 | [],_,_,_,_,_,h=>by simp at h
 | x :: l,i,w,hz,0,v,h=>by
   obtain ⟨z,hz0⟩:=hz 0 (by simp);have e:x = v:=by simpa using h
   subst e;exact (zff B l (i + 1) _ i (by omega)).trans (World.cell?_setCell_same _ _ _ hz0)
 | x :: l,i,w,hz,j + 1,v,h=>by
   have:=zcf B l (i + 1) (w.setCell ⟨B,i,none⟩ x) (fun j hj=>by
    obtain ⟨z,hz0⟩:=hz (j + 1) (by simp;omega);refine ⟨z,(World.cell?_setCell_other _ _ _ _ (by intro e;simp only [Addr.mk.injEq,and_true,true_and] at e;omega)).trans ?_⟩
    rw [show i + 1 + j = i + (j + 1) by omega];exact hz0) j v (by simpa using h)
   rw [show i + (j + 1) = i + 1 + j by omega];exact this
def outZ:List Value:=[.int .i64 0,.int .i64 0,.int .i64 0,.int .i64 0,.int .i64 0,.int .i64 0,.int .i64 0,.bool false,.bool false]
theorem zgr {w w8:World} {t:TypeId} (hx:Ext (w.alloc (.cells #[.int .i64 0,.int .i64 0,.int .i64 0,.int .i64 0,.int .i64 0,.int .i64 0,.int .i64 0,.bool false,.bool false] t)) w8) :
 (∀ j v,outZ[j]? = some v -> w8.cell? ⟨w.heap.size,j,none⟩ = some v) /\ (∀ o,w8.frozen? ⟨w.heap.size,o,none⟩ = false) /\ w.heap.size < w8.heap.size:=by
 have hl:w.heap.size < (w.alloc (.cells #[.int .i64 0,.int .i64 0,.int .i64 0,.int .i64 0,.int .i64 0,.int .i64 0,.int .i64 0,.bool false,.bool false] t)).heap.size:=by simp
 refine ⟨fun j v hj=>(hx.cell (p:=⟨w.heap.size,j,none⟩) hl (fun h=>h)).trans ((World.cell?_alloc_at _ _ _ j (by simp)).trans (by simpa [outZ] using hj)),fun o=>(hx.frozen (p:=⟨w.heap.size,o,none⟩) hl (fun h=>h)).trans ?_,Nat.lt_of_lt_of_le hl hx.size⟩;rw [Go.RowKit.frozen?_alloc_cells];simp [World.frozen?]
theorem zbm {w w8:World} {t:TypeId} (hx:Ext (w.alloc (.cells #[.int .i64 0,.int .i64 0,.int .i64 0,.int .i64 0,.int .i64 0,.int .i64 0,.int .i64 0,.bool false,.bool false] t)).drew w8) :
 (∀ j v,outZ[j]? = some v -> w8.cell? ⟨w.heap.size,j,none⟩ = some v) /\ (∀ o,w8.frozen? ⟨w.heap.size,o,none⟩ = false) /\ w.heap.size < w8.heap.size:=zgr (ExtM.trans _ _ _ (ExtM.refl _).drew hx)
def zhA (wc wx:World) (s17:Value) (l:List Value):Prop:=∃ B,s17 = .pointer (some ⟨B,0,none⟩) /\ wc.heap.size <= B /\ B < wx.heap.size /\ Ext wc wx /\ (∀ j v,l[j]? = some v -> wx.cell? ⟨B,j,none⟩ = some v) /\ ∀ o,wx.frozen? ⟨B,o,none⟩ = false
theorem zlx {w:World} {B:Nat} (hn:∀ j v,outZ[j]? = some v -> w.cell? ⟨B,j,none⟩ = some v) (j:Nat) (hj:j < 9):∃ z,w.cell? ⟨B,0 + j,none⟩ = some z:=by
 have hl:j < outZ.length:=hj;refine ⟨outZ[j],?_⟩;rw [Nat.zero_add];exact hn j _ (List.getElem?_eq_getElem hl)
theorem outA {wc w8:World} (o:Out) (hx:Ext wc w8) (hn:∀ j v,outZ[j]? = some v -> w8.cell? ⟨wc.heap.size,j,none⟩ = some v) (hfz:∀ o,w8.frozen? ⟨wc.heap.size,o,none⟩ = false) (hlt:wc.heap.size < w8.heap.size) :
 zhA wc (zdl w8 wc.heap.size 0 (outL o)) (.pointer (some ⟨wc.heap.size,0,none⟩)) (outL o):=by
 have hp:=zcE wc.heap.size (outL o) 0 w8;refine ⟨wc.heap.size,rfl,Nat.le_refl _,Nat.lt_of_lt_of_le hlt hp.size,hx.fresh hp (fun k hk e=>by omega),fun j v hj=>?_,fun q=>(zdo _ _ _ _ _).trans (hfz q)⟩
 have:=zcf wc.heap.size (outL o) 0 w8 (fun j hj=>zlx hn j hj) j v hj
 rwa [Nat.zero_add] at this
theorem outB {wc w8:World} {t:TypeId} (o:Out) (hx:Ext wc w8) :
 zhA wc (w8.alloc (.cells #[.int .i64 o.key,.int .i64 o.l.k,.int .i64 o.l.t,.int .i64 o.l.v,.int .i64 o.r.k,.int .i64 o.r.t,.int .i64 o.r.v,.bool o.hl,.bool o.hr] t)) (.pointer (some ⟨w8.heap.size,0,none⟩)) (outL o):=by
 refine ⟨w8.heap.size,rfl,hx.size,by simp,hx.alloc _,fun j v hj=>(World.cell?_alloc_at _ _ _ j (by simp)).trans (by simpa [outL] using hj),fun q=>?_⟩;rw [Go.RowKit.frozen?_alloc_cells];simp [World.frozen?]
def zdr (R:List Row):List Int:=R.flatMap fun r=>[r.k,r.t,r.v]
theorem RR.ext {w w':World} {b:Nat} {v:Value} {R:List Row} (h:RR w b v R) (hx:Ext w w'):RR w' b v R:=zag h hx (fun _ _ h=>h)
theorem zfs {w w' w0:World} {N:Nat} {v:Value} {R:List Row} (h:ExtR v.ownBlock w w') (hR:RR w0 N v R):Plan.ExtF N w w':=ExtM.mono h (fun k _ e=>(zaf hR k e).1)
theorem RR.setL {w:World} {N:Nat} {v:Value} {R:List Row} (h:RR w N v R) {L:Nat} (hL:L < N) (c:Bool):RR (w.setCell ⟨L,1,none⟩ (.bool c)) N v R :=
 zag (M:=fun k=>k = L) h (ExtM.setCell (M:=fun k=>k = L) (p:=⟨L,1,none⟩) (ExtM.refl _) (.inr rfl) _) (fun k hk e=>by have:=(zaf h k hk).1;omega)
theorem ExtM.trans9 {M:Nat -> Prop} {u w w':World} (h:ExtM M u w) (hx:Ext w w'):ExtM M u w':=h.fresh' hx (fun _ _ h=>h.elim)
theorem zfI (w:World) (x:Out):CRow (w.alloc (.cells #[.int .i64 x.key,.int .i64 x.l.k,.int .i64 x.l.t,.int .i64 x.l.v,.int .i64 x.r.k,.int .i64 x.r.t,.int .i64 x.r.v,.bool x.hl,.bool x.hr,.bool false] 96)).drew w.heap.size (.slice (some ⟨w.heap.size,0,none⟩) 1 1) [(x,false)] :=
 ⟨rfl,.inr ⟨w.heap.size,1,_,rfl,Nat.le_refl _,heap_alloc_new _ _,Nat.le_refl _,by unfold maxLen;decide,rfl,rfl⟩⟩
theorem za0.ok {r:Row} (h:za0 r):r.ok:=by
 have:=h.i64
 refine ⟨?_,?_,?_⟩ <;> unfold I64 <;> omega
theorem zrd:Row.ok ⟨0,0,0⟩:=by unfold Row.ok I64;decide
theorem zq8 {rk rt rv:Int} (h:Row.ok ⟨rk,rt,rv⟩):(⟨rk,⟨rk,rt,rv⟩,⟨0,0,0⟩,true,false⟩:Out).ok:=⟨h.1,h,zrd⟩
theorem zq3 {rk rt rv:Int} (h:Row.ok ⟨rk,rt,rv⟩):(⟨rk,⟨0,0,0⟩,⟨rk,rt,rv⟩,false,true⟩:Out).ok:=⟨h.1,zrd,h⟩
theorem zqG {rk rt rv sk s2 sv:Int} (h:Row.ok ⟨rk,rt,rv⟩) (h':Row.ok ⟨sk,s2,sv⟩):(⟨rk,⟨rk,rt,rv⟩,⟨sk,s2,sv⟩,true,true⟩:Out).ok:=⟨h.1,h,h'⟩
theorem zjP {rk rt rv:Int} (h:za0 ⟨rk,rt,rv⟩):(⟨rk,⟨rk,rt,rv⟩,⟨0,0,0⟩,true,false⟩:Out).ok:=zq8 h.ok
theorem zkW {rk rt rv:Int} (h:za0 ⟨rk,rt,rv⟩):(⟨rk,⟨0,0,0⟩,⟨rk,rt,rv⟩,false,true⟩:Out).ok:=zq3 h.ok
theorem zkj {rk rt rv sk s2 sv:Int} (h:za0 ⟨rk,rt,rv⟩) (h':za0 ⟨sk,s2,sv⟩):(⟨rk,⟨rk,rt,rv⟩,⟨sk,s2,sv⟩,true,true⟩:Out).ok:=zqG h.ok h'.ok
def badR (r:Row):Bool:=!za3 r.k r.t r.v
theorem zpW {R:List Row} (h:∀ r ∈ R,za0 r):R.any badR = false:=by
 rw [List.any_eq_false];intro r hr
 have:=h r hr
 unfold za0 at this;unfold badR;rw [this];decide
theorem zqn (R:List Row) (r:Row):(R ++ [r]).any badR = (R.any badR || badR r):=by simp
theorem ziu {h rk rt rv:Int} (g:za0 ⟨rk,rt,rv⟩) (hh:h = 1 \/ h = 2):outE (h :: zdr [⟨rk,rt,rv⟩]) = some (zan (if h = 1 then 0 else 1) ⟨rk,rt,rv⟩):=by
 have g1:za3 rk rt rv = true:=g;show (if (h = 1 \/ h = 2) /\ za3 rk rt rv = true then _ else _) = _;rw [if_pos ⟨hh,g1⟩]
theorem zlP {rk rt rv sk s2 sv:Int} (g:za0 ⟨rk,rt,rv⟩) (g':za0 ⟨sk,s2,sv⟩) (hk:rk = sk):outE (3 :: zdr [⟨rk,rt,rv⟩,⟨sk,s2,sv⟩]) = some (zbs ⟨rk,rt,rv⟩ ⟨sk,s2,sv⟩):=by
 have g1:za3 rk rt rv = true:=g;have g2:za3 sk s2 sv = true:=g';show (if (3:Int) = 3 /\ za3 rk rt rv = true /\ za3 sk s2 sv = true /\ rk = sk then _ else _) = _;rw [if_pos ⟨rfl,g1,g2,hk⟩]
theorem zoj (W:World) (r:Row) (t:TypeId):∀ j u,r.cells[j]? = some u -> (W.alloc (.cells #[.int .i64 r.k,.int .i64 r.t,.int .i64 r.v] t)).cell? ⟨W.heap.size,j,none⟩ = some u:=fun j u hj =>
 (World.cell?_alloc_at _ _ _ j rfl).trans (by simpa [Row.cells] using hj)
theorem zdX (R:List Row):∀ (j:Nat) (hj:j < R.length),(zdr R)[3 * j]? = some R[j].k /\ (zdr R)[3 * j + 1]? = some R[j].t /\ (zdr R)[3 * j + 2]? = some R[j].v:=by
 unfold zdr;induction R with
 | nil=>intro j hj;simp at hj
 | cons r R ih =>
   intro j hj;rw [List.flatMap_cons];cases j with
   | zero=>exact ⟨rfl,rfl,rfl⟩
   | succ j =>
     have:=ih j (by simpa using hj)
     rw [List.getElem_cons_succ];have e:∀ c,(([r.k,r.t,r.v]:List Int) ++ R.flatMap fun r=>[r.k,r.t,r.v])[3 * (j + 1) + c]? = (R.flatMap fun r=>[r.k,r.t,r.v])[3 * j + c]?:=fun c=>by
      rw [List.getElem?_append_right (by simp;omega)];congr 1;simp;omega
     exact ⟨(e 0).trans this.1,(e 1).trans this.2.1,(e 2).trans this.2.2⟩
def LUpB (u u':World) (L E:Nat) (Bs:Nat -> Prop) (lo hi md:Int) (st:JSt) (V:List Out) (f0 f1:Int) (b:Bool):Prop :=
 ExtM (fun k=>k = L \/ Bs k) u u' /\ LdIs u' L (some ⟨E,0,none⟩) b /\ ∃ Bs',EAt u' E Bs' lo hi md st V V f0 f1 /\ ∀ k,Bs' k -> Bs k \/ u.heap.size <= k
def LUp (u u':World) (L E:Nat) (Bs:Nat -> Prop) (lo hi md:Int) (st:JSt) (V:List Out) (f0 f1:Int):Prop:=LUpB u u' L E Bs lo hi md st V f0 f1 false
theorem zkJ {M:Nat -> Prop} {u w w':World} {N:Nat} (h:ExtM M u w) (hN:N = u.heap.size) (y:Plan.ExtF N w w'):ExtM M u w':=h.fresh' y (fun k hk e=>absurd (show N <= k from e) (by omega))
theorem zdW {w:World} {b:Nat} {v:Value} {R:List Row} {r:Row} (h:RR w b v (R ++ [r])) {j:Nat} (hj:R.length = j) :
 ∃ g cap,v = .slice (some ⟨g,0,none⟩) (j + 1) cap /\ g < w.heap.size /\ w.cell? ⟨g,j * 3,none⟩ = some (.int .i64 r.k) /\ w.cell? ⟨g,j * 3 + 1,none⟩ = some (.int .i64 r.t) /\ w.cell? ⟨g,j * 3 + 2,none⟩ = some (.int .i64 r.v):=by
 subst hj;have hlen:(R ++ [r]).length = R.length + 1:=by simp
 have hk:∀ c,c < 3 -> ∃ g cap,v = .slice (some ⟨g,0,none⟩) (R.length + 1) cap /\ g < w.heap.size /\ w.cell? ⟨g,R.length * 3 + c,none⟩ = r.cells[c]?:=fun c hc=>by
  obtain ⟨g,cap,h1,h2,h3,-⟩:=zaJ (enc:=Row.cells) zlh h R.length c (by omega) hc;rw [List.getElem_concat_length rfl,hlen] at *;exact ⟨g,cap,h1,h2,h3⟩
 obtain ⟨g,cap,rfl,h2,h3⟩:=hk 0 (by omega);refine ⟨g,cap,rfl,h2,h3,?_,?_⟩
 . obtain ⟨g',cap',e,-,h⟩:=hk 1 (by omega);simp only [Value.slice.injEq,Option.some.injEq,Addr.mk.injEq,and_true,true_and] at e;rw [e.1];exact h
 . obtain ⟨g',cap',e,-,h⟩:=hk 2 (by omega);simp only [Value.slice.injEq,Option.some.injEq,Addr.mk.injEq,and_true,true_and] at e;rw [e.1];exact h
theorem zhw {u w w1 w2:World} {L E:Nat} {Bs:Nat -> Prop} {lo hi md:Int} {st:JSt} {V:List Out} {f0 f1:Int} {b:Bool} (h:ExtM (fun k=>k = L) u w) (hx:Ext w w1) (hl:LdIs w L (some ⟨E,0,none⟩) b) (hn:¬ Bs L) (hu:EUp w1 w2 E Bs lo hi md st V V f0 f1):LUpB u w2 L E Bs lo hi md st V f0 f1 b:=by
 obtain ⟨h1,h2,h3,h4⟩:=EUp.before hx hu;exact ⟨(h.mono (fun _ _ h=>.inl h)).fresh' h1 (fun _ _ h=>.inr h),hl.keep h1 hn,h2,h3,fun k hk=>(h4 k hk).imp id (fun q=>Nat.le_trans h.size q)⟩
theorem zng {w:World} {b:Nat} {v:Value} {r:Row} (h:RR w b v [r]) :
 ∃ g cap,v = .slice (some ⟨g,0,none⟩) 1 cap /\ b <= g /\ g < w.heap.size /\ w.cell? ⟨g,0,none⟩ = some (.int .i64 r.k) /\ w.cell? ⟨g,1,none⟩ = some (.int .i64 r.t) /\ w.cell? ⟨g,2,none⟩ = some (.int .i64 r.v):=by
 obtain ⟨g,cap,rfl,h1,h2,h3,h4⟩:=zdW (R:=[]) (j:=0) h rfl;simp only [Nat.zero_mul,Nat.zero_add] at h2 h3 h4;exact ⟨g,cap,rfl,(zaf h g rfl).1,h1,h2,h3,h4⟩
theorem zox {α:Type} {R:List α} (h:R.length = 2):∃ a b,R = [a,b]:=by
 match R,h with
 | [a,b],_=>exact ⟨a,b,rfl⟩
theorem zoQ {w:World} {b:Nat} {v:Value} {r s:Row} (h:RR w b v [r,s]) :
 ∃ g cap,v = .slice (some ⟨g,0,none⟩) 2 cap /\ b <= g /\ g < w.heap.size /\ w.cell? ⟨g,0,none⟩ = some (.int .i64 r.k) /\ w.cell? ⟨g,1,none⟩ = some (.int .i64 r.t) /\ w.cell? ⟨g,2,none⟩ = some (.int .i64 r.v) /\ w.cell? ⟨g,3,none⟩ = some (.int .i64 s.k) /\ w.cell? ⟨g,4,none⟩ = some (.int .i64 s.t) /\ w.cell? ⟨g,5,none⟩ = some (.int .i64 s.v):=by
 obtain ⟨g,cap,rfl,h1,h2,h3,h4⟩:=zdW (R:=[r]) (r:=s) (j:=1) h rfl;have hk:∀ c,c < 3 -> w.cell? ⟨g,c,none⟩ = r.cells[c]?:=fun c hc=>by
  obtain ⟨g',cap',e,-,h3,-⟩:=zaJ (enc:=Row.cells) zlh h 0 c (by simp) hc;simp only [Value.slice.injEq,Option.some.injEq,Addr.mk.injEq,and_true] at e;rw [Nat.zero_mul,Nat.zero_add] at h3;rw [e.1];exact h3
 exact ⟨g,cap,rfl,(zaf h g rfl).1,h1,hk 0 (by omega),hk 1 (by omega),hk 2 (by omega),h2,h3,h4⟩
theorem zky (k t v:Int) (w:World):Calls Tryz.prog 204 #[.int .i64 2,.agg #[.int .i64 k,.int .i64 t,.int .i64 v]] w fun e w'=>e = .returned (.agg #[.int .i64 k,.int .i64 0,.int .i64 0,.int .i64 0,.int .i64 k,.int .i64 t,.int .i64 v,.bool false,.bool true]) /\ Ext w w':=by
 have:=zj9 2 k t v w
 rwa [if_neg (by decide)] at this
def znl (wc wx:World) (B:Nat) (l:List Value):Prop:=ExtM (fun k=>k = B) wc wx /\ ∀ j v,l[j]? = some v -> wx.cell? ⟨B,j,none⟩ = some v
theorem zpB {wc w8:World} {B:Nat} {o':Out} (o:Out) (hx:Ext wc w8) (hB:B < wc.heap.size) (hn:∀ j v,(outL o')[j]? = some v -> wc.cell? ⟨B,j,none⟩ = some v):znl wc (zdl w8 B 0 (outL o)) B (outL o):=by
 have hp:=zcE B (outL o) 0 w8;refine ⟨(hx.mono (fun _ _ h=>h.elim)).fresh' hp (fun _ _ h=>h),fun j v hj=>?_⟩
 have:=zcf B (outL o) 0 w8 (fun j hj=>by
  have hj':j < (outL o').length:=hj;refine ⟨(outL o')[j],?_⟩;rw [Nat.zero_add]
  exact (hx.cell (p:=⟨B,j,none⟩) hB id).trans (hn j _ (List.getElem?_eq_getElem hj'))) j v hj
 rwa [Nat.zero_add] at this
theorem zoR {u w w':World} {L B:Nat} (h:ExtM (fun k=>k = L) u w) (hx:ExtM (fun k=>k = B) w w') (hB:u.heap.size <= B):ExtM (fun k=>k = L) u w':=h.fresh' hx (fun k hk e=>by omega)
def zoX (wc wx:World) (L E:Nat) (b:Bool):Prop:=ExtM (fun k=>k = L) wc wx /\ LdIs wx L (some ⟨E,0,none⟩) b
theorem zp4 {wc w:World} {L E:Nat} {c:Bool} (hl:LdIs wc L (some ⟨E,0,none⟩) c) (hx:Ext wc w) (b:Bool):zoX wc (w.setCell ⟨L,1,none⟩ (.bool b)) L E b :=
 ⟨ExtM.setCell (M:=fun k=>k = L) (p:=⟨L,1,none⟩) (hx.mono (fun _ _ h=>h.elim)) (.inr rfl) _,(hl.keep hx id).set b⟩
def outG (h:Int) (R:List Row):Out:=match R with
 | [r]=>zan (if h = 1 then 0 else 1) r
 | [r,s]=>zbs r s
 | _=>⟨0,⟨0,0,0⟩,⟨0,0,0⟩,false,false⟩
def badO (h:Int) (R:List Row):Bool:=if h = 3 then (R.any badR || decide ((R.headD ⟨0,0,0⟩).k ≠ (R.getD 1 ⟨0,0,0⟩).k)) else R.any badR
theorem zrp {u:World} {L E:Nat} {Bs:Nat -> Prop} {lo hi md:Int} {st:JSt} {V:List Out} {f0 f1:Int} (hL:LdIs u L (some ⟨E,0,none⟩) false) (hE:EAt u E Bs lo hi md st V V f0 f1) (hnB:¬ Bs L) (R:List Row) (hRl:R.length = 1) (hg:∀ r ∈ R,r.ok) (a:Option Addr) (cap:Nat) (hnum:zaq u L a (1 :: zdr R)) (hV:V.length < 900000) :
 Calls Tryz.prog 184 #[.pointer (some ⟨L,0,none⟩),.slice a 4 cap] u fun e u'=>∃ x,e = .returned (.tuple #[]) /\ x = outG 1 R /\ LUpB u u' L E Bs lo hi md st (x :: V) f0 f1 (badO 1 R):=by
 obtain ⟨g,rfl,hgL,hgu,hgc⟩:=hnum.cells (by simp);have g0:=hgc 0 1 rfl;have hgr:∀ j (hj:j < R.length),u.cell? ⟨g,1 + 3 * j,none⟩ = some (.int .i64 R[j].k) /\ u.cell? ⟨g,1 + 3 * j + 1,none⟩ = some (.int .i64 R[j].t) /\ u.cell? ⟨g,1 + 3 * j + 2,none⟩ = some (.int .i64 R[j].v):=fun j hj=>by
  obtain ⟨h1,h2,h3⟩:=zdX R j hj;refine ⟨hgc _ _ ?_,hgc _ _ ?_,hgc _ _ ?_⟩
  . rw [Nat.add_comm,List.getElem?_cons_succ];exact h1
  . rw [show 1 + 3 * j + 1 = 3 * j + 1 + 1 by omega,List.getElem?_cons_succ];exact h2
  . rw [show 1 + 3 * j + 2 = 3 * j + 2 + 1 by omega,List.getElem?_cons_succ];exact h3
 clear hgc hnum;obtain ⟨N,hN⟩:∃ N,N = u.heap.size:=⟨_,rfl⟩
 have HN:=Lib.hid hN;have hgN:g < N:=by omega
 have hLN:L < N:=by have:=hL.lt;omega
 clear hN;have HRL:=Lib.hid hRl;have hlt:=hL.lt;have HE:=Lib.hid hE;clear hRl;go_enter Tryz.func184,Tryz.ntmps184;go_wp2_with fail;go_loopg [4,5] 3 (fun kx s4 s5 wr=>∃ j k:Nat,s5 = .int .i64 k /\ k = 1 + 3 * j /\ j <= R.length /\ R.length - j <= kx /\ RR wr N s4 (R.take j) /\ ExtM (fun k=>k = L) u wr /\ LdIs wr L (some ⟨E,0,none⟩) ((R.take j).any badR))
 case atStart=>exact ⟨0,1,rfl,rfl,by omega,by have:=HRL.out;omega,⟨rfl,.inl ⟨rfl,rfl⟩⟩,ExtM.refl _,by rw [List.take_zero];exact hL⟩
 case round =>
  obtain ⟨j,k,rfl,hk,hj,hgk,hR,hx,hl⟩:=hrel;have hRl:=HRL.out;have hNw:N <= wr.heap.size:=by have:=hx.size;have:=HN.out;omega
  have hgw:g < wr.heap.size:=by omega
  have hLw:L < wr.heap.size:=by omega
  have c0:=hl.c0;have c1:=hl.c1;have cf:=hl.f 1;by_cases hjl:j < R.length
  . have hkm:k + 2 < 4:=by omega
    obtain ⟨y0,y1,y2⟩:=hgr j hjl;rw [<- hk] at y0 y1 y2;have z0:=(hx.cell (p:=⟨g,k,none⟩) hgu hgL).trans y0;have z1:=(hx.cell (p:=⟨g,k + 1,none⟩) hgu hgL).trans y1;have z2:=(hx.cell (p:=⟨g,k + 2,none⟩) hgu hgL).trans y2;have HTK:=Lib.hid (List.take_succ_eq_append_getElem hjl);have HK:=Lib.hid hk;have htl:(R.take j).length = j:=by rw [List.length_take];omega
    clear y0 y1 y2 hk;generalize R[j] = r at *;obtain ⟨rk,rt,rv⟩:=r;simp only at z0 z1 z2;obtain ⟨p,c,rfl,-⟩:=zaa hR;have hR1:=hR;rw [htl] at hR1 ⊢;have HX:=Lib.hid hx;have HL:=Lib.hid hl;have HN2:=Lib.hid hNw;have hRs:∀ W,Ext wr W -> RR W N (.slice p j c) (R.take j):=fun W hW=>by have:=hR.ext hW;rwa [htl] at this
    have hjm:(R.take j).length < 1000000:=by omega
    clear hR hR1 hx hl hNw hgr hE hL;go_upto_region 6 with fail;refine Plan.b0 (Plan.ExtF N) 19 ?_;refine Plan.qs 12 [0,1,2,3,4,5,6,7,8,9,10,11] ?_;iterate 12 go_big_quiet_step (fail)
    refine Plan.qs 4 [12,13,14,15] ?_;iterate 4 go_big_quiet_step (fail)
    refine Plan.o1 16 fun K hK=>?_;go_wp2_with (fail);refine hK _ _ ((ExtM.refl _).alloc _) ?_;clear hK K;refine Plan.o1 17 fun K hK=>?_;refine zau (zcg _ N _ _ _ (R.take j) ⟨rk,rt,rv⟩ _ (hRs _ ((ExtM.refl wr).drew.alloc _)) (zoj _ ⟨rk,rt,rv⟩ _) hjm (by simp;have:=HN2.out;omega)) _ _ rfl rfl rfl ?_;rintro v17 w17 ⟨o17,x17,l17⟩;have y17:=zfs x17 (hRs _ (ExtM.refl wr));refine hK _ _ (y17) ?_;simp only [Act.put,List.setIfInBounds_toArray,List.set_cons_succ,List.set_cons_zero];clear hK K;refine Plan.qs 1 [18] ?_;go_big_quiet_step (fail);refine Plan.dn ?_;have yall:Plan.ExtF N wr w17:=ExtF.trans _ _ _ (((ExtM.refl _).alloc _).drew) y17;have hx17:=zkJ HX.out HN.out yall;have hl17:=HL.out.keep yall (by omega);have hsz:=yall.size;have hll:(R.take j ++ [(⟨rk,rt,rv⟩:Row)]).length = j + 1:=by rw [List.length_append,htl];rfl
    obtain ⟨g2,c2,rfl,hg2,q0,q1,q2⟩:=zdW o17 htl;skip;have HX:=Lib.hid hx17;have HL:=Lib.hid hl17;have z0:=(hx17.cell (p:=⟨g,0,none⟩) hgu hgL).trans g0;have hLw:L < w17.heap.size:=by omega
    have hgw:g < w17.heap.size:=by omega
    have HO:=Lib.hid o17;have c0:=hl17.c0;have c1:=hl17.c1;have cf:=hl17.f 1;have HAN:Hid ((R.take (j + 1)).any badR = ((R.take j).any badR || badR ⟨rk,rt,rv⟩)):=Lib.hid (by rw [HTK.out,zqn]);clear y17 x17 l17 yall hx17 hl17 hsz hll o17 hRs;generalize hbb:(R.take j).any badR = bb at *;have HBB:=Lib.hid hbb;clear hbb;cases bb with
    | true =>
      have hl5:=HL.out.set true;have hx5:=HX.out.setCell (p:=⟨L,1,none⟩) (.inr rfl) (.bool true);have hO5:=HO.out.setL hLN true;have HL5:=Lib.hid hl5;have HX5:=Lib.hid hx5;have HO5:=Lib.hid hO5;clear hl5 hx5 hO5 z0 q0 q1 q2;go_wp2_with fail;go_roundg (R.length - (j + 1))
      case measure=>omega
      case rel =>
       refine ⟨j + 1,k + 3,by go_num,by have:=HK.out;omega,by omega,Nat.le_refl _,?_,HX5.out,?_⟩
       . rw [HTK.out];exact HO5.out
       . rw [HAN.out];exact HL5.out
    | false =>
    have hgood:=zdq rk rt rv;generalize hgb:za3 rk rt rv = gb at *;have HGB:=Lib.hid hgb;clear hgb;go_wp2_with (go_at_call 199;refine (hgood _).mono ?_;rintro e w3 ⟨rfl,hx3⟩;refine Hid.out ?_);refine Lib.hid ?_;have hl3:=HL.out.keep hx3 id;have hx4:=ExtM.trans _ _ _ HX.out (hx3.mono (fun _ _ h=>h.elim));have c0:=hl3.c0;have c1:=hl3.c1;have cf:=hl3.f 1;have hs3:=hx3.size;have hLw:L < w3.heap.size:=by omega
    have hO3:=HO.out.ext hx3;have hl5:=hl3.set (!gb);have hx5:=hx4.setCell (p:=⟨L,1,none⟩) (.inr rfl) (.bool (!gb));have hO5:=hO3.setL hLN (!gb);have HL5:=Lib.hid hl5;have HX5:=Lib.hid hx5;have HO5:=Lib.hid hO5;clear hl3 hx4 hx3 hO3 hO5 hl5 hx5 z0 q0 q1 q2 hgood;go_wp2_with fail;go_roundg (R.length - (j + 1))
    case measure=>omega
    case rel =>
     refine ⟨j + 1,k + 3,by go_num,by have:=HK.out;omega,by omega,Nat.le_refl _,?_,HX5.out,?_⟩
     . rw [HTK.out];exact HO5.out
     . rw [HAN.out,show badR ⟨rk,rt,rv⟩ = !gb by unfold badR;rw [HGB.out]];exact HL5.out
  . obtain rfl:j = R.length:=by omega
    have hk4:k = 4:=by omega
    subst hk4;rw [List.take_length] at hR hl;obtain ⟨⟨rk,rt,rv⟩,rfl⟩:=List.length_eq_one_iff.1 hRl;obtain ⟨g2,c2,rfl,hgg,hgw2,q0,q1,q2⟩:=zng hR;simp only [List.length_cons,List.length_nil,Nat.zero_add] at *;have z0:=(hx.cell (p:=⟨g,0,none⟩) hgu hgL).trans g0;have HX:=Lib.hid hx;have HL:=Lib.hid hl;have HR:=Lib.hid hR;have HN2:=Lib.hid hNw;clear hx hl hR hNw hgr hE hL hj hgk hjl;go_upto_region 8 with fail;go_cut [6] (fun s6 wx=>zhA wr wx s6 (outL (⟨rk,⟨rk,rt,rv⟩,⟨0,0,0⟩,true,false⟩:Out)))
    case first =>
     refine Plan.bT Plan.Ext [9] 10 ?_;refine Plan.qs 7 [0,1,2,3,4,5,6] ?_;iterate 7 go_big_quiet_step (fail)
     refine Plan.o2 7 8 (fun K hK=>?_) fun K hK=>?_
     focus
      go_wp2_with (fail);refine (zfk rk rt rv _).mono ?_;rintro e w8 ⟨rfl,h8⟩;have H8:=ExtM.trans _ _ _ (ExtM.refl _).drew h8;obtain ⟨hc8,hf8,-⟩:=Ext.rules H8;have hs8_0:g < w8.heap.size:=by have:=H8.size;(try simp at this);omega
      have hs8_1:g2 < w8.heap.size:=by have:=H8.size;(try simp at this);omega
      go_wp2_with (fail);refine hK _ _ h8 ?_;clear hK K;refine Plan.o1 8 fun K hK=>?_;go_wp2_with (fail);refine hK _ _ ((ExtM.refl _).alloc _) ?_;clear hK K
     rotate_left
     focus
      go_wp2_with (fail);refine hK _ _ ((ExtM.refl _).alloc _) ?_;clear hK K;refine Plan.o1 7 fun K hK=>?_;go_wp2_with (fail);refine (zfk rk rt rv _).mono ?_;rintro e w8 ⟨rfl,h8⟩;have H8:=ExtM.trans _ _ _ ((ExtM.refl _).drew.alloc _) h8;obtain ⟨hc8,hf8,-⟩:=Ext.rules H8;have hs8_0:g < w8.heap.size:=by have:=H8.size;(try simp at this);omega
      have hs8_1:g2 < w8.heap.size:=by have:=H8.size;(try simp at this);omega
      go_wp2_with (fail);refine hK _ _ h8 ?_;clear hK K
     . obtain ⟨hbx,hfz,hlt⟩:=zbm h8;have n0:=hbx 0 _ rfl;have n1:=hbx 1 _ rfl;have n2:=hbx 2 _ rfl;have n3:=hbx 3 _ rfl;have n4:=hbx 4 _ rfl;have n5:=hbx 5 _ rfl;have n6:=hbx 6 _ rfl;have n7:=hbx 7 _ rfl;have n8:=hbx 8 _ rfl;refine Plan.ol 9 fun K hK=>?_;go_wp2_with (fail);refine Plan.dn ?_;go_wp2_with fail;go_meet
       case rel=>exact outA (⟨rk,⟨rk,rt,rv⟩,⟨0,0,0⟩,true,false⟩:Out) H8 hbx hfz hlt
     . refine Plan.ol 9 fun K hK=>?_;go_wp2_with (fail);refine Plan.dn ?_;go_wp2_with fail;go_meet
       case rel=>exact outB (⟨rk,⟨rk,rt,rv⟩,⟨0,0,0⟩,true,false⟩:Out) H8
    case rest =>
     obtain ⟨Bo,rfl,hBo,hBl,hx9,hno,hfo⟩:=hcut;have hX9:=ExtM.trans9 HX.out hx9;have hl9:=HL.out.keep hx9 id;have hat:=HE.out.keep hX9 (fun k hk e=>hnB (e ▸ hk));have z9:=(hx9.cell (p:=⟨g,0,none⟩) hgw id).trans z0;have hgw9:=Nat.lt_of_lt_of_le hgw hx9.size;have c0:=hl9.c0;have n0:=hno 0 _ rfl;have n1:=hno 1 _ rfl;have n2:=hno 2 _ rfl;have n3:=hno 3 _ rfl;have n4:=hno 4 _ rfl;have n5:=hno 5 _ rfl;have n6:=hno 6 _ rfl;have n7:=hno 7 _ rfl;have n8:=hno 8 _ rfl;have hLw9:=hl9.lt;have HFO:=Lib.hid hfo;have hno9:=hno;clear z0 hgw c1 cf hLw hno hfo;go_upto_region 12 with fail;refine Plan.bT Plan.Ext [7] 8 ?_;refine Plan.zaU 0 (by rfl) (by kernel_rfl) ?_;go_big_quiet_step (fail);refine wpQuiet_nil ?_;refine Plan.zaU 1 (by rfl) (by kernel_rfl) ?_;go_big_quiet_step (fail);refine wpQuiet_nil ?_;refine Plan.zaU 2 (by rfl) (by kernel_rfl) ?_;go_big_quiet_step (fail);refine wpQuiet_nil ?_;refine Plan.qs 1 [3] ?_;go_big_quiet_step (fail);refine Plan.o1 4 fun K hK=>?_;go_wp2_with (fail);refine hK _ _ (ExtM.refl _) ?_;clear hK K;refine Plan.o1 5 fun K hK=>?_;go_wp2_with (fail);refine hK _ _ (ExtM.refl _) ?_;clear hK K;refine Plan.o1 6 fun K hK=>?_;go_wp2_with (fail);refine hK _ _ ((ExtM.refl _).alloc _) ?_;clear hK K;refine Plan.ol 7 fun K hK=>?_;go_wp2_with (fail);refine (zc1 (hat.ext (((ExtM.refl _).alloc _).drew)) wc.heap.size _ [((⟨rk,⟨rk,rt,rv⟩,⟨0,0,0⟩,true,false⟩:Out),false)] (zfI _ _) (fun k hk e=>by have h1:=hat.lt _ e;have h2:wc.heap.size = k:=Option.some.inj hk;omega) (by intro c hc;rw [List.mem_singleton.1 hc];exact (zq8 (hg _ (by simp)))) (by simp [zb1]) (by simp only [List.length_cons,List.length_nil];omega)).mono ?_;rintro e w12 ⟨rfl,hu12⟩;go_wp2_with (fail);refine Plan.dn ?_;go_wp2_with fail;go_end0;exact ⟨_,rfl,rfl,zhw hX9 (((ExtM.refl _).alloc _).drew) hl9 hnB hu12⟩
theorem zqY {u:World} {L E:Nat} {Bs:Nat -> Prop} {lo hi md:Int} {st:JSt} {V:List Out} {f0 f1:Int} (hL:LdIs u L (some ⟨E,0,none⟩) false) (hE:EAt u E Bs lo hi md st V V f0 f1) (hnB:¬ Bs L) (R:List Row) (hRl:R.length = 1) (hg:∀ r ∈ R,r.ok) (a:Option Addr) (cap:Nat) (hnum:zaq u L a (2 :: zdr R)) (hV:V.length < 900000) :
 Calls Tryz.prog 184 #[.pointer (some ⟨L,0,none⟩),.slice a 4 cap] u fun e u'=>∃ x,e = .returned (.tuple #[]) /\ x = outG 2 R /\ LUpB u u' L E Bs lo hi md st (x :: V) f0 f1 (badO 2 R):=by
 obtain ⟨g,rfl,hgL,hgu,hgc⟩:=hnum.cells (by simp);have g0:=hgc 0 2 rfl;have hgr:∀ j (hj:j < R.length),u.cell? ⟨g,1 + 3 * j,none⟩ = some (.int .i64 R[j].k) /\ u.cell? ⟨g,1 + 3 * j + 1,none⟩ = some (.int .i64 R[j].t) /\ u.cell? ⟨g,1 + 3 * j + 2,none⟩ = some (.int .i64 R[j].v):=fun j hj=>by
  obtain ⟨h1,h2,h3⟩:=zdX R j hj;refine ⟨hgc _ _ ?_,hgc _ _ ?_,hgc _ _ ?_⟩
  . rw [Nat.add_comm,List.getElem?_cons_succ];exact h1
  . rw [show 1 + 3 * j + 1 = 3 * j + 1 + 1 by omega,List.getElem?_cons_succ];exact h2
  . rw [show 1 + 3 * j + 2 = 3 * j + 2 + 1 by omega,List.getElem?_cons_succ];exact h3
 clear hgc hnum;obtain ⟨N,hN⟩:∃ N,N = u.heap.size:=⟨_,rfl⟩
 have HN:=Lib.hid hN;have hgN:g < N:=by omega
 have hLN:L < N:=by have:=hL.lt;omega
 clear hN;have HRL:=Lib.hid hRl;have hlt:=hL.lt;have HE:=Lib.hid hE;clear hRl;go_enter Tryz.func184,Tryz.ntmps184;go_wp2_with fail;go_loopg [4,5] 3 (fun kx s4 s5 wr=>∃ j k:Nat,s5 = .int .i64 k /\ k = 1 + 3 * j /\ j <= R.length /\ R.length - j <= kx /\ RR wr N s4 (R.take j) /\ ExtM (fun k=>k = L) u wr /\ LdIs wr L (some ⟨E,0,none⟩) ((R.take j).any badR))
 case atStart=>exact ⟨0,1,rfl,rfl,by omega,by have:=HRL.out;omega,⟨rfl,.inl ⟨rfl,rfl⟩⟩,ExtM.refl _,by rw [List.take_zero];exact hL⟩
 case round =>
  obtain ⟨j,k,rfl,hk,hj,hgk,hR,hx,hl⟩:=hrel;have hRl:=HRL.out;have hNw:N <= wr.heap.size:=by have:=hx.size;have:=HN.out;omega
  have hgw:g < wr.heap.size:=by omega
  have hLw:L < wr.heap.size:=by omega
  have c0:=hl.c0;have c1:=hl.c1;have cf:=hl.f 1;by_cases hjl:j < R.length
  . have hkm:k + 2 < 4:=by omega
    obtain ⟨y0,y1,y2⟩:=hgr j hjl;rw [<- hk] at y0 y1 y2;have z0:=(hx.cell (p:=⟨g,k,none⟩) hgu hgL).trans y0;have z1:=(hx.cell (p:=⟨g,k + 1,none⟩) hgu hgL).trans y1;have z2:=(hx.cell (p:=⟨g,k + 2,none⟩) hgu hgL).trans y2;have HTK:=Lib.hid (List.take_succ_eq_append_getElem hjl);have HK:=Lib.hid hk;have htl:(R.take j).length = j:=by rw [List.length_take];omega
    clear y0 y1 y2 hk;generalize R[j] = r at *;obtain ⟨rk,rt,rv⟩:=r;simp only at z0 z1 z2;obtain ⟨p,c,rfl,-⟩:=zaa hR;have hR1:=hR;rw [htl] at hR1 ⊢;have HX:=Lib.hid hx;have HL:=Lib.hid hl;have HN2:=Lib.hid hNw;have hRs:∀ W,Ext wr W -> RR W N (.slice p j c) (R.take j):=fun W hW=>by have:=hR.ext hW;rwa [htl] at this
    have hjm:(R.take j).length < 1000000:=by omega
    clear hR hR1 hx hl hNw hgr hE hL;go_upto_region 6 with fail;refine Plan.b0 (Plan.ExtF N) 19 ?_;refine Plan.qs 12 [0,1,2,3,4,5,6,7,8,9,10,11] ?_;iterate 12 go_big_quiet_step (fail)
    refine Plan.qs 4 [12,13,14,15] ?_;iterate 4 go_big_quiet_step (fail)
    refine Plan.o1 16 fun K hK=>?_;go_wp2_with (fail);refine hK _ _ ((ExtM.refl _).alloc _) ?_;clear hK K;refine Plan.o1 17 fun K hK=>?_;refine zau (zcg _ N _ _ _ (R.take j) ⟨rk,rt,rv⟩ _ (hRs _ ((ExtM.refl wr).drew.alloc _)) (zoj _ ⟨rk,rt,rv⟩ _) hjm (by simp;have:=HN2.out;omega)) _ _ rfl rfl rfl ?_;rintro v17 w17 ⟨o17,x17,l17⟩;have y17:=zfs x17 (hRs _ (ExtM.refl wr));refine hK _ _ (y17) ?_;simp only [Act.put,List.setIfInBounds_toArray,List.set_cons_succ,List.set_cons_zero];clear hK K;refine Plan.qs 1 [18] ?_;go_big_quiet_step (fail);refine Plan.dn ?_;have yall:Plan.ExtF N wr w17:=ExtF.trans _ _ _ (((ExtM.refl _).alloc _).drew) y17;have hx17:=zkJ HX.out HN.out yall;have hl17:=HL.out.keep yall (by omega);have hsz:=yall.size;have hll:(R.take j ++ [(⟨rk,rt,rv⟩:Row)]).length = j + 1:=by rw [List.length_append,htl];rfl
    obtain ⟨g2,c2,rfl,hg2,q0,q1,q2⟩:=zdW o17 htl;skip;have HX:=Lib.hid hx17;have HL:=Lib.hid hl17;have z0:=(hx17.cell (p:=⟨g,0,none⟩) hgu hgL).trans g0;have hLw:L < w17.heap.size:=by omega
    have hgw:g < w17.heap.size:=by omega
    have HO:=Lib.hid o17;have c0:=hl17.c0;have c1:=hl17.c1;have cf:=hl17.f 1;have HAN:Hid ((R.take (j + 1)).any badR = ((R.take j).any badR || badR ⟨rk,rt,rv⟩)):=Lib.hid (by rw [HTK.out,zqn]);clear y17 x17 l17 yall hx17 hl17 hsz hll o17 hRs;generalize hbb:(R.take j).any badR = bb at *;have HBB:=Lib.hid hbb;clear hbb;cases bb with
    | true =>
      have hl5:=HL.out.set true;have hx5:=HX.out.setCell (p:=⟨L,1,none⟩) (.inr rfl) (.bool true);have hO5:=HO.out.setL hLN true;have HL5:=Lib.hid hl5;have HX5:=Lib.hid hx5;have HO5:=Lib.hid hO5;clear hl5 hx5 hO5 z0 q0 q1 q2;go_wp2_with fail;go_roundg (R.length - (j + 1))
      case measure=>omega
      case rel =>
       refine ⟨j + 1,k + 3,by go_num,by have:=HK.out;omega,by omega,Nat.le_refl _,?_,HX5.out,?_⟩
       . rw [HTK.out];exact HO5.out
       . rw [HAN.out];exact HL5.out
    | false =>
    have hgood:=zdq rk rt rv;generalize hgb:za3 rk rt rv = gb at *;have HGB:=Lib.hid hgb;clear hgb;go_wp2_with (go_at_call 199;refine (hgood _).mono ?_;rintro e w3 ⟨rfl,hx3⟩;refine Hid.out ?_);refine Lib.hid ?_;have hl3:=HL.out.keep hx3 id;have hx4:=ExtM.trans _ _ _ HX.out (hx3.mono (fun _ _ h=>h.elim));have c0:=hl3.c0;have c1:=hl3.c1;have cf:=hl3.f 1;have hs3:=hx3.size;have hLw:L < w3.heap.size:=by omega
    have hO3:=HO.out.ext hx3;have hl5:=hl3.set (!gb);have hx5:=hx4.setCell (p:=⟨L,1,none⟩) (.inr rfl) (.bool (!gb));have hO5:=hO3.setL hLN (!gb);have HL5:=Lib.hid hl5;have HX5:=Lib.hid hx5;have HO5:=Lib.hid hO5;clear hl3 hx4 hx3 hO3 hO5 hl5 hx5 z0 q0 q1 q2 hgood;go_wp2_with fail;go_roundg (R.length - (j + 1))
    case measure=>omega
    case rel =>
     refine ⟨j + 1,k + 3,by go_num,by have:=HK.out;omega,by omega,Nat.le_refl _,?_,HX5.out,?_⟩
     . rw [HTK.out];exact HO5.out
     . rw [HAN.out,show badR ⟨rk,rt,rv⟩ = !gb by unfold badR;rw [HGB.out]];exact HL5.out
  . obtain rfl:j = R.length:=by omega
    have hk4:k = 4:=by omega
    subst hk4;rw [List.take_length] at hR hl;obtain ⟨⟨rk,rt,rv⟩,rfl⟩:=List.length_eq_one_iff.1 hRl;obtain ⟨g2,c2,rfl,hgg,hgw2,q0,q1,q2⟩:=zng hR;simp only [List.length_cons,List.length_nil,Nat.zero_add] at *;have z0:=(hx.cell (p:=⟨g,0,none⟩) hgu hgL).trans g0;have HX:=Lib.hid hx;have HL:=Lib.hid hl;have HR:=Lib.hid hR;have HN2:=Lib.hid hNw;clear hx hl hR hNw hgr hE hL hj hgk hjl;go_upto_region 8 with fail;go_cut [6] (fun s6 wx=>zhA wr wx s6 (outL (⟨rk,⟨0,0,0⟩,⟨rk,rt,rv⟩,false,true⟩:Out)))
    case first =>
     refine Plan.bT Plan.Ext [9] 10 ?_;refine Plan.qs 7 [0,1,2,3,4,5,6] ?_;iterate 7 go_big_quiet_step (fail)
     refine Plan.o2 7 8 (fun K hK=>?_) fun K hK=>?_
     focus
      go_wp2_with (fail);refine (zfN rk rt rv _).mono ?_;rintro e w8 ⟨rfl,h8⟩;have H8:=ExtM.trans _ _ _ (ExtM.refl _).drew h8;obtain ⟨hc8,hf8,-⟩:=Ext.rules H8;have hs8_0:g < w8.heap.size:=by have:=H8.size;(try simp at this);omega
      have hs8_1:g2 < w8.heap.size:=by have:=H8.size;(try simp at this);omega
      go_wp2_with (fail);refine hK _ _ h8 ?_;clear hK K;refine Plan.o1 8 fun K hK=>?_;go_wp2_with (fail);refine hK _ _ ((ExtM.refl _).alloc _) ?_;clear hK K
     rotate_left
     focus
      go_wp2_with (fail);refine hK _ _ ((ExtM.refl _).alloc _) ?_;clear hK K;refine Plan.o1 7 fun K hK=>?_;go_wp2_with (fail);refine (zfN rk rt rv _).mono ?_;rintro e w8 ⟨rfl,h8⟩;have H8:=ExtM.trans _ _ _ ((ExtM.refl _).drew.alloc _) h8;obtain ⟨hc8,hf8,-⟩:=Ext.rules H8;have hs8_0:g < w8.heap.size:=by have:=H8.size;(try simp at this);omega
      have hs8_1:g2 < w8.heap.size:=by have:=H8.size;(try simp at this);omega
      go_wp2_with (fail);refine hK _ _ h8 ?_;clear hK K
     . obtain ⟨hbx,hfz,hlt⟩:=zbm h8;have n0:=hbx 0 _ rfl;have n1:=hbx 1 _ rfl;have n2:=hbx 2 _ rfl;have n3:=hbx 3 _ rfl;have n4:=hbx 4 _ rfl;have n5:=hbx 5 _ rfl;have n6:=hbx 6 _ rfl;have n7:=hbx 7 _ rfl;have n8:=hbx 8 _ rfl;refine Plan.ol 9 fun K hK=>?_;go_wp2_with (fail);refine Plan.dn ?_;go_wp2_with fail;go_meet
       case rel=>exact outA (⟨rk,⟨0,0,0⟩,⟨rk,rt,rv⟩,false,true⟩:Out) H8 hbx hfz hlt
     . refine Plan.ol 9 fun K hK=>?_;go_wp2_with (fail);refine Plan.dn ?_;go_wp2_with fail;go_meet
       case rel=>exact outB (⟨rk,⟨0,0,0⟩,⟨rk,rt,rv⟩,false,true⟩:Out) H8
    case rest =>
     obtain ⟨Bo,rfl,hBo,hBl,hx9,hno,hfo⟩:=hcut;have hX9:=ExtM.trans9 HX.out hx9;have hl9:=HL.out.keep hx9 id;have hat:=HE.out.keep hX9 (fun k hk e=>hnB (e ▸ hk));have z9:=(hx9.cell (p:=⟨g,0,none⟩) hgw id).trans z0;have hgw9:=Nat.lt_of_lt_of_le hgw hx9.size;have c0:=hl9.c0;have n0:=hno 0 _ rfl;have n1:=hno 1 _ rfl;have n2:=hno 2 _ rfl;have n3:=hno 3 _ rfl;have n4:=hno 4 _ rfl;have n5:=hno 5 _ rfl;have n6:=hno 6 _ rfl;have n7:=hno 7 _ rfl;have n8:=hno 8 _ rfl;have hLw9:=hl9.lt;have HFO:=Lib.hid hfo;have hno9:=hno;clear z0 hgw c1 cf hLw hno hfo;go_upto_region 12 with fail;refine Plan.bT Plan.Ext [7] 8 ?_;refine Plan.zaU 0 (by rfl) (by kernel_rfl) ?_;go_big_quiet_step (fail);refine wpQuiet_nil ?_;refine Plan.zaU 1 (by rfl) (by kernel_rfl) ?_;go_big_quiet_step (fail);refine wpQuiet_nil ?_;refine Plan.zaU 2 (by rfl) (by kernel_rfl) ?_;go_big_quiet_step (fail);refine wpQuiet_nil ?_;refine Plan.qs 1 [3] ?_;go_big_quiet_step (fail);refine Plan.o1 4 fun K hK=>?_;go_wp2_with (fail);refine hK _ _ (ExtM.refl _) ?_;clear hK K;refine Plan.o1 5 fun K hK=>?_;go_wp2_with (fail);refine hK _ _ (ExtM.refl _) ?_;clear hK K;refine Plan.o1 6 fun K hK=>?_;go_wp2_with (fail);refine hK _ _ ((ExtM.refl _).alloc _) ?_;clear hK K;refine Plan.ol 7 fun K hK=>?_;go_wp2_with (fail);refine (zc1 (hat.ext (((ExtM.refl _).alloc _).drew)) wc.heap.size _ [((⟨rk,⟨0,0,0⟩,⟨rk,rt,rv⟩,false,true⟩:Out),false)] (zfI _ _) (fun k hk e=>by have h1:=hat.lt _ e;have h2:wc.heap.size = k:=Option.some.inj hk;omega) (by intro c hc;rw [List.mem_singleton.1 hc];exact (zq3 (hg _ (by simp)))) (by simp [zb1]) (by simp only [List.length_cons,List.length_nil];omega)).mono ?_;rintro e w12 ⟨rfl,hu12⟩;go_wp2_with (fail);refine Plan.dn ?_;go_wp2_with fail;go_end0;exact ⟨_,rfl,rfl,zhw hX9 (((ExtM.refl _).alloc _).drew) hl9 hnB hu12⟩
theorem zra {u:World} {L E:Nat} {Bs:Nat -> Prop} {lo hi md:Int} {st:JSt} {V:List Out} {f0 f1:Int} (hL:LdIs u L (some ⟨E,0,none⟩) false) (hE:EAt u E Bs lo hi md st V V f0 f1) (hnB:¬ Bs L) (R:List Row) (hRl:R.length = 2) (hg:∀ r ∈ R,r.ok) (a:Option Addr) (cap:Nat) (hnum:zaq u L a (3 :: zdr R)) (hV:V.length < 900000) :
 Calls Tryz.prog 184 #[.pointer (some ⟨L,0,none⟩),.slice a 7 cap] u fun e u'=>∃ x,e = .returned (.tuple #[]) /\ x = outG 3 R /\ LUpB u u' L E Bs lo hi md st (x :: V) f0 f1 (badO 3 R):=by
 obtain ⟨g,rfl,hgL,hgu,hgc⟩:=hnum.cells (by simp);have g0:=hgc 0 3 rfl;have hgr:∀ j (hj:j < R.length),u.cell? ⟨g,1 + 3 * j,none⟩ = some (.int .i64 R[j].k) /\ u.cell? ⟨g,1 + 3 * j + 1,none⟩ = some (.int .i64 R[j].t) /\ u.cell? ⟨g,1 + 3 * j + 2,none⟩ = some (.int .i64 R[j].v):=fun j hj=>by
  obtain ⟨h1,h2,h3⟩:=zdX R j hj;refine ⟨hgc _ _ ?_,hgc _ _ ?_,hgc _ _ ?_⟩
  . rw [Nat.add_comm,List.getElem?_cons_succ];exact h1
  . rw [show 1 + 3 * j + 1 = 3 * j + 1 + 1 by omega,List.getElem?_cons_succ];exact h2
  . rw [show 1 + 3 * j + 2 = 3 * j + 2 + 1 by omega,List.getElem?_cons_succ];exact h3
 clear hgc hnum;obtain ⟨N,hN⟩:∃ N,N = u.heap.size:=⟨_,rfl⟩
 have HN:=Lib.hid hN;have hgN:g < N:=by omega
 have hLN:L < N:=by have:=hL.lt;omega
 clear hN;have HRL:=Lib.hid hRl;have hlt:=hL.lt;have HE:=Lib.hid hE;clear hRl;go_enter Tryz.func184,Tryz.ntmps184;go_wp2_with fail;go_loopg [4,5] 3 (fun kx s4 s5 wr=>∃ j k:Nat,s5 = .int .i64 k /\ k = 1 + 3 * j /\ j <= R.length /\ R.length - j <= kx /\ RR wr N s4 (R.take j) /\ ExtM (fun k=>k = L) u wr /\ LdIs wr L (some ⟨E,0,none⟩) ((R.take j).any badR))
 case atStart=>exact ⟨0,1,rfl,rfl,by omega,by have:=HRL.out;omega,⟨rfl,.inl ⟨rfl,rfl⟩⟩,ExtM.refl _,by rw [List.take_zero];exact hL⟩
 case round =>
  obtain ⟨j,k,rfl,hk,hj,hgk,hR,hx,hl⟩:=hrel;have hRl:=HRL.out;have hNw:N <= wr.heap.size:=by have:=hx.size;have:=HN.out;omega
  have hgw:g < wr.heap.size:=by omega
  have hLw:L < wr.heap.size:=by omega
  have c0:=hl.c0;have c1:=hl.c1;have cf:=hl.f 1;by_cases hjl:j < R.length
  . have hkm:k + 2 < 7:=by omega
    obtain ⟨y0,y1,y2⟩:=hgr j hjl;rw [<- hk] at y0 y1 y2;have z0:=(hx.cell (p:=⟨g,k,none⟩) hgu hgL).trans y0;have z1:=(hx.cell (p:=⟨g,k + 1,none⟩) hgu hgL).trans y1;have z2:=(hx.cell (p:=⟨g,k + 2,none⟩) hgu hgL).trans y2;have HTK:=Lib.hid (List.take_succ_eq_append_getElem hjl);have HK:=Lib.hid hk;have htl:(R.take j).length = j:=by rw [List.length_take];omega
    clear y0 y1 y2 hk;generalize R[j] = r at *;obtain ⟨rk,rt,rv⟩:=r;simp only at z0 z1 z2;obtain ⟨p,c,rfl,-⟩:=zaa hR;have hR1:=hR;rw [htl] at hR1 ⊢;have HX:=Lib.hid hx;have HL:=Lib.hid hl;have HN2:=Lib.hid hNw;have hRs:∀ W,Ext wr W -> RR W N (.slice p j c) (R.take j):=fun W hW=>by have:=hR.ext hW;rwa [htl] at this
    have hjm:(R.take j).length < 1000000:=by omega
    clear hR hR1 hx hl hNw hgr hE hL;go_upto_region 6 with fail;refine Plan.b0 (Plan.ExtF N) 19 ?_;refine Plan.qs 12 [0,1,2,3,4,5,6,7,8,9,10,11] ?_;iterate 12 go_big_quiet_step (fail)
    refine Plan.qs 4 [12,13,14,15] ?_;iterate 4 go_big_quiet_step (fail)
    refine Plan.o1 16 fun K hK=>?_;go_wp2_with (fail);refine hK _ _ ((ExtM.refl _).alloc _) ?_;clear hK K;refine Plan.o1 17 fun K hK=>?_;refine zau (zcg _ N _ _ _ (R.take j) ⟨rk,rt,rv⟩ _ (hRs _ ((ExtM.refl wr).drew.alloc _)) (zoj _ ⟨rk,rt,rv⟩ _) hjm (by simp;have:=HN2.out;omega)) _ _ rfl rfl rfl ?_;rintro v17 w17 ⟨o17,x17,l17⟩;have y17:=zfs x17 (hRs _ (ExtM.refl wr));refine hK _ _ (y17) ?_;simp only [Act.put,List.setIfInBounds_toArray,List.set_cons_succ,List.set_cons_zero];clear hK K;refine Plan.qs 1 [18] ?_;go_big_quiet_step (fail);refine Plan.dn ?_;have yall:Plan.ExtF N wr w17:=ExtF.trans _ _ _ (((ExtM.refl _).alloc _).drew) y17;have hx17:=zkJ HX.out HN.out yall;have hl17:=HL.out.keep yall (by omega);have hsz:=yall.size;have hll:(R.take j ++ [(⟨rk,rt,rv⟩:Row)]).length = j + 1:=by rw [List.length_append,htl];rfl
    obtain ⟨g2,c2,rfl,hg2,q0,q1,q2⟩:=zdW o17 htl;skip;have HX:=Lib.hid hx17;have HL:=Lib.hid hl17;have z0:=(hx17.cell (p:=⟨g,0,none⟩) hgu hgL).trans g0;have hLw:L < w17.heap.size:=by omega
    have hgw:g < w17.heap.size:=by omega
    have HO:=Lib.hid o17;have c0:=hl17.c0;have c1:=hl17.c1;have cf:=hl17.f 1;have HAN:Hid ((R.take (j + 1)).any badR = ((R.take j).any badR || badR ⟨rk,rt,rv⟩)):=Lib.hid (by rw [HTK.out,zqn]);clear y17 x17 l17 yall hx17 hl17 hsz hll o17 hRs;generalize hbb:(R.take j).any badR = bb at *;have HBB:=Lib.hid hbb;clear hbb;cases bb with
    | true =>
      have hl5:=HL.out.set true;have hx5:=HX.out.setCell (p:=⟨L,1,none⟩) (.inr rfl) (.bool true);have hO5:=HO.out.setL hLN true;have HL5:=Lib.hid hl5;have HX5:=Lib.hid hx5;have HO5:=Lib.hid hO5;clear hl5 hx5 hO5 z0 q0 q1 q2;go_wp2_with fail;go_roundg (R.length - (j + 1))
      case measure=>omega
      case rel =>
       refine ⟨j + 1,k + 3,by go_num,by have:=HK.out;omega,by omega,Nat.le_refl _,?_,HX5.out,?_⟩
       . rw [HTK.out];exact HO5.out
       . rw [HAN.out];exact HL5.out
    | false =>
    have hgood:=zdq rk rt rv;generalize hgb:za3 rk rt rv = gb at *;have HGB:=Lib.hid hgb;clear hgb;go_wp2_with (go_at_call 199;refine (hgood _).mono ?_;rintro e w3 ⟨rfl,hx3⟩;refine Hid.out ?_);refine Lib.hid ?_;have hl3:=HL.out.keep hx3 id;have hx4:=ExtM.trans _ _ _ HX.out (hx3.mono (fun _ _ h=>h.elim));have c0:=hl3.c0;have c1:=hl3.c1;have cf:=hl3.f 1;have hs3:=hx3.size;have hLw:L < w3.heap.size:=by omega
    have hO3:=HO.out.ext hx3;have hl5:=hl3.set (!gb);have hx5:=hx4.setCell (p:=⟨L,1,none⟩) (.inr rfl) (.bool (!gb));have hO5:=hO3.setL hLN (!gb);have HL5:=Lib.hid hl5;have HX5:=Lib.hid hx5;have HO5:=Lib.hid hO5;clear hl3 hx4 hx3 hO3 hO5 hl5 hx5 z0 q0 q1 q2 hgood;go_wp2_with fail;go_roundg (R.length - (j + 1))
    case measure=>omega
    case rel =>
     refine ⟨j + 1,k + 3,by go_num,by have:=HK.out;omega,by omega,Nat.le_refl _,?_,HX5.out,?_⟩
     . rw [HTK.out];exact HO5.out
     . rw [HAN.out,show badR ⟨rk,rt,rv⟩ = !gb by unfold badR;rw [HGB.out]];exact HL5.out
  . obtain rfl:j = R.length:=by omega
    have hk4:k = 7:=by omega
    subst hk4;rw [List.take_length] at hR hl;obtain ⟨⟨rk,rt,rv⟩,⟨sk,s2,sv⟩,rfl⟩:=zox hRl;obtain ⟨g2,c2,rfl,hgg,hgw2,q0,q1,q2,q3,q4,q5⟩:=zoQ hR;simp only [List.length_cons,List.length_nil,Nat.zero_add] at *;have z0:=(hx.cell (p:=⟨g,0,none⟩) hgu hgL).trans g0;have HX:=Lib.hid hx;have HL:=Lib.hid hl;have HR:=Lib.hid hR;have HN2:=Lib.hid hNw;clear hx hl hR hNw hgr hE hL hj hgk hjl;go_upto_region 8 with fail;go_cut [6] (fun s6 wx=>zhA wr wx s6 (outL (⟨rk,⟨0,0,0⟩,⟨rk,rt,rv⟩,false,true⟩:Out)))
    case first =>
     refine Plan.bT Plan.Ext [9] 10 ?_;refine Plan.qs 7 [0,1,2,3,4,5,6] ?_;iterate 7 go_big_quiet_step (fail)
     refine Plan.o2 7 8 (fun K hK=>?_) fun K hK=>?_
     focus
      go_wp2_with (fail);refine (zky rk rt rv _).mono ?_;rintro e w8 ⟨rfl,h8⟩;have H8:=ExtM.trans _ _ _ (ExtM.refl _).drew h8;obtain ⟨hc8,hf8,-⟩:=Ext.rules H8;have hs8_0:g < w8.heap.size:=by have:=H8.size;(try simp at this);omega
      have hs8_1:g2 < w8.heap.size:=by have:=H8.size;(try simp at this);omega
      go_wp2_with (fail);refine hK _ _ h8 ?_;clear hK K;refine Plan.o1 8 fun K hK=>?_;go_wp2_with (fail);refine hK _ _ ((ExtM.refl _).alloc _) ?_;clear hK K
     rotate_left
     focus
      go_wp2_with (fail);refine hK _ _ ((ExtM.refl _).alloc _) ?_;clear hK K;refine Plan.o1 7 fun K hK=>?_;go_wp2_with (fail);refine (zky rk rt rv _).mono ?_;rintro e w8 ⟨rfl,h8⟩;have H8:=ExtM.trans _ _ _ ((ExtM.refl _).drew.alloc _) h8;obtain ⟨hc8,hf8,-⟩:=Ext.rules H8;have hs8_0:g < w8.heap.size:=by have:=H8.size;(try simp at this);omega
      have hs8_1:g2 < w8.heap.size:=by have:=H8.size;(try simp at this);omega
      go_wp2_with (fail);refine hK _ _ h8 ?_;clear hK K
     . obtain ⟨hbx,hfz,hlt⟩:=zbm h8;have n0:=hbx 0 _ rfl;have n1:=hbx 1 _ rfl;have n2:=hbx 2 _ rfl;have n3:=hbx 3 _ rfl;have n4:=hbx 4 _ rfl;have n5:=hbx 5 _ rfl;have n6:=hbx 6 _ rfl;have n7:=hbx 7 _ rfl;have n8:=hbx 8 _ rfl;refine Plan.ol 9 fun K hK=>?_;go_wp2_with (fail);refine Plan.dn ?_;go_wp2_with fail;go_meet
       case rel=>exact outA (⟨rk,⟨0,0,0⟩,⟨rk,rt,rv⟩,false,true⟩:Out) H8 hbx hfz hlt
     . refine Plan.ol 9 fun K hK=>?_;go_wp2_with (fail);refine Plan.dn ?_;go_wp2_with fail;go_meet
       case rel=>exact outB (⟨rk,⟨0,0,0⟩,⟨rk,rt,rv⟩,false,true⟩:Out) H8
    case rest =>
     obtain ⟨Bo,rfl,hBo,hBl,hx9,hno,hfo⟩:=hcut;have hX9:=ExtM.trans9 HX.out hx9;have hl9:=HL.out.keep hx9 id;have hat:=HE.out.keep hX9 (fun k hk e=>hnB (e ▸ hk));have z9:=(hx9.cell (p:=⟨g,0,none⟩) hgw id).trans z0;have hgw9:=Nat.lt_of_lt_of_le hgw hx9.size;have c0:=hl9.c0;have n0:=hno 0 _ rfl;have n1:=hno 1 _ rfl;have n2:=hno 2 _ rfl;have n3:=hno 3 _ rfl;have n4:=hno 4 _ rfl;have n5:=hno 5 _ rfl;have n6:=hno 6 _ rfl;have n7:=hno 7 _ rfl;have n8:=hno 8 _ rfl;have hLw9:=hl9.lt;have HFO:=Lib.hid hfo;have hno9:=hno;clear z0 hgw c1 cf hLw hno hfo;go_upto_region 10 with fail;have k9:=fun o=>(hx9.cell (p:=⟨g2,o,none⟩) hgw2 id)
     have y0:=(k9 _).trans q0;have y1:=(k9 _).trans q1;have y2:=(k9 _).trans q2;have y3:=(k9 _).trans q3;have y4:=(k9 _).trans q4;have y5:=(k9 _).trans q5;have hg9:=Nat.lt_of_lt_of_le hgw2 hx9.size;have hfo9:=HFO.out;have hgBo:g2 ≠ Bo:=by omega
     have hLBo:L ≠ Bo:=by omega
     clear q0 q1 q2 q3 q4 q5 hgw2 k9;go_cut [] (fun wx=>znl wc wx Bo (outL (⟨rk,⟨rk,rt,rv⟩,⟨sk,s2,sv⟩,true,true⟩:Out)))
     case first =>
      refine Plan.bT Plan.Ext [7] 8 ?_;refine Plan.qs 6 [0,1,2,3,4,5] ?_;iterate 6 go_big_quiet_step (fail)
      refine Plan.o1 6 fun K hK=>?_;go_wp2_with (fail);refine (zkN rk rt rv sk s2 sv _).mono ?_;rintro e w11 ⟨rfl,h11⟩;have H11:=ExtM.trans _ _ _ (ExtM.refl _).drew h11;obtain ⟨hc11,hf11,-⟩:=Ext.rules H11;have hs11_0:g2 < w11.heap.size:=by have:=H11.size;(try simp at this);omega
      have hs11_1:Bo < w11.heap.size:=by have:=H11.size;(try simp at this);omega
      have hs11_2:L < w11.heap.size:=by have:=H11.size;(try simp at this);omega
      go_wp2_with (fail);refine hK _ _ h11 ?_;clear hK K;refine Plan.ol 7 fun K hK=>?_;go_wp2_with (fail);refine Plan.dn ?_;go_wp2_with fail;go_meet
      case rel=>exact zpB (⟨rk,⟨rk,rt,rv⟩,⟨sk,s2,sv⟩,true,true⟩:Out) H11 hBl hno9
     case rest =>
      obtain ⟨hxB,hno3⟩:=hcut;have hgB:g2 ≠ Bo:=hgBo;have hLB:L ≠ Bo:=hLBo;have hl10:=hl9.keep hxB hLB;have x0:=(hxB.cell (p:=⟨g2,0,none⟩) hg9 hgB).trans y0;have x3:=(hxB.cell (p:=⟨g2,3,none⟩) hg9 hgB).trans y3;have hg10:=Nat.lt_of_lt_of_le hg9 hxB.size;have hL10:=Nat.lt_of_lt_of_le hLw9 hxB.size;have hX10:=zoR hX9 hxB (Nat.le_trans HX.out.size hBo);have hBl10:=Nat.lt_of_lt_of_le hBl hxB.size;have c1:=hl10.c1;have cf:=hl10.f 1;have HG:=Lib.hid hg;clear y0 y1 y2 y3 y4 y5 hg9 hLw9 hX9 hxB hl9 hat c0 n0 n1 n2 n3 n4 n5 n6 n7 n8 z9 hgw9 hno9 hfo9 hx9 hBl hBo hg;go_upto_region 11 with fail;obtain ⟨b3,hb3⟩:∃ b3:Bool,b3 = ([(⟨rk,rt,rv⟩:Row),⟨sk,s2,sv⟩].any badR || decide (rk ≠ sk)):=⟨_,rfl⟩
      have HB3:=Lib.hid hb3;clear hb3;go_cut [] (fun wx=>zoX wc wx L E b3)
      case first =>
       have hl10':=hl10;generalize hbb:[(⟨rk,rt,rv⟩:Row),⟨sk,s2,sv⟩].any badR = bb at *;clear hbb;cases bb with
       | true =>
         obtain rfl:b3 = true:=HB3.out;refine Plan.bT Plan.Ext [18] 19 ?_;refine Plan.qs 12 [0,1,2,3,4,5,6,7,8,9,10,11] ?_;iterate 12 go_big_quiet_step (fail)
         refine Plan.qs 4 [12,13,14,15] ?_;iterate 4 go_big_quiet_step (fail)
         refine Plan.o1 16 fun K hK=>?_;go_wp2_with (fail);refine hK _ _ (ExtM.refl _) ?_;clear hK K;refine Plan.qs 1 [17] ?_;go_big_quiet_step (fail);refine Plan.ol 18 fun K hK=>?_;go_wp2_with (fail);refine Plan.dn ?_;go_wp2_with fail;go_meet
         case rel=>exact zp4 hl10' ((ExtM.refl _).drew) true
       | false =>
         by_cases hkk:rk = sk
         . have hne:(rk != sk) = false:=by simp [hkk]
           have hne2:decide (rk = sk) = true:=by simp [hkk]
           obtain rfl:b3 = false:=by rw [HB3.out];simp [hkk]
           clear hkk;refine Plan.bT Plan.Ext [18] 19 ?_;refine Plan.qs 12 [0,1,2,3,4,5,6,7,8,9,10,11] ?_;iterate 12 go_big_quiet_step (fail)
           refine Plan.qs 4 [12,13,14,15] ?_;iterate 4 go_big_quiet_step (fail)
           refine Plan.o1 16 fun K hK=>?_;go_wp2_with (fail);refine hK _ _ (ExtM.refl _) ?_;clear hK K;refine Plan.qs 1 [17] ?_;go_big_quiet_step (fail);refine Plan.ol 18 fun K hK=>?_;go_wp2_with (fail);refine Plan.dn ?_;go_wp2_with fail;go_meet
           case rel=>exact zp4 hl10' ((ExtM.refl _).drew) false
         . have hne:(rk != sk) = true:=by simp [hkk]
           have hne2:decide (rk = sk) = false:=by simp [hkk]
           obtain rfl:b3 = true:=by rw [HB3.out];simp [hkk]
           clear hkk;refine Plan.bT Plan.Ext [18] 19 ?_;refine Plan.qs 12 [0,1,2,3,4,5,6,7,8,9,10,11] ?_;iterate 12 go_big_quiet_step (fail)
           refine Plan.qs 4 [12,13,14,15] ?_;iterate 4 go_big_quiet_step (fail)
           refine Plan.o1 16 fun K hK=>?_;go_wp2_with (fail);refine hK _ _ (ExtM.refl _) ?_;clear hK K;refine Plan.qs 1 [17] ?_;go_big_quiet_step (fail);refine Plan.ol 18 fun K hK=>?_;go_wp2_with (fail);refine Plan.dn ?_;go_wp2_with fail;go_meet
           case rel=>exact zp4 hl10' ((ExtM.refl _).drew) true
      case rest =>
       obtain ⟨hxL,hl9⟩:=hcut;rw [HB3.out] at hl9;have hno:=fun j v hj=>(hxL.cell (p:=⟨Bo,j,none⟩) hBl10 (fun e=>hLB e.symm)).trans (hno3 j v hj);have hX9:=hX10.fresh' hxL (fun _ _ e=>e);have hat:=HE.out.keep hX9 (fun k hk e=>hnB (e ▸ hk));have c0:=hl9.c0;have n0:=hno 0 _ rfl;have n1:=hno 1 _ rfl;have n2:=hno 2 _ rfl;have n3:=hno 3 _ rfl;have n4:=hno 4 _ rfl;have n5:=hno 5 _ rfl;have n6:=hno 6 _ rfl;have n7:=hno 7 _ rfl;have n8:=hno 8 _ rfl;have hLw9:=hl9.lt;have hBl:=Nat.lt_of_lt_of_le hBl10 hxL.size;have hg:=HG.out;clear hno hno3 hxL hl10 hX10 hL10 hg10 x0 x3 hBl10 c1 cf;go_upto_region 12 with fail;refine Plan.bT Plan.Ext [7] 8 ?_;refine Plan.zaU 0 (by rfl) (by kernel_rfl) ?_;go_big_quiet_step (fail);refine wpQuiet_nil ?_;refine Plan.zaU 1 (by rfl) (by kernel_rfl) ?_;go_big_quiet_step (fail);refine wpQuiet_nil ?_;refine Plan.zaU 2 (by rfl) (by kernel_rfl) ?_;go_big_quiet_step (fail);refine wpQuiet_nil ?_;refine Plan.qs 1 [3] ?_;go_big_quiet_step (fail);refine Plan.o1 4 fun K hK=>?_;go_wp2_with (fail);refine hK _ _ (ExtM.refl _) ?_;clear hK K;refine Plan.o1 5 fun K hK=>?_;go_wp2_with (fail);refine hK _ _ (ExtM.refl _) ?_;clear hK K;refine Plan.o1 6 fun K hK=>?_;go_wp2_with (fail);refine hK _ _ ((ExtM.refl _).alloc _) ?_;clear hK K;refine Plan.ol 7 fun K hK=>?_;go_wp2_with (fail);refine (zc1 (hat.ext (((ExtM.refl _).alloc _).drew)) wc.heap.size _ [((⟨rk,⟨rk,rt,rv⟩,⟨sk,s2,sv⟩,true,true⟩:Out),false)] (zfI _ _) (fun k hk e=>by have h1:=hat.lt _ e;have h2:wc.heap.size = k:=Option.some.inj hk;omega) (by intro c hc;rw [List.mem_singleton.1 hc];exact (zqG (hg _ (by simp)) (hg _ (by simp)))) (by simp [zb1]) (by simp only [List.length_cons,List.length_nil];omega)).mono ?_;rintro e w12 ⟨rfl,hu12⟩;go_wp2_with (fail);refine Plan.dn ?_;go_wp2_with fail;go_end0;exact ⟨_,rfl,rfl,zhw hX9 (((ExtM.refl _).alloc _).drew) hl9 hnB hu12⟩
end Go.Proofs.YtiknejbcehpmoaaGreatDoor
