import Derived.Test.YtmcgnnmffeojpabGreatDoorPk20
set_option maxRecDepth 100000
set_option maxHeartbeats 8000000
namespace Go.Proofs.YtmcgnnmffeojpabGreatDoor
open Go.RowKit Go.Plan
def zdl (w:World) (B:Nat):Nat -> List Value -> World
 | _,[]=>w
 | i,v :: l=>zdl (w.setCell ⟨B,i,none⟩ v) B (i + 1) l
theorem zcE (B:Nat):∀ (l:List Value) (i:Nat) (w:World),ExtM (fun k=>k = B) w (zdl w B i l)
 | [],_,w=>ExtM.refl w
 | v :: l,i,w=>(ExtM.setCell (M:=fun k=>k = B) (ExtM.refl w) (p:=⟨B,i,none⟩) (.inr rfl) v).fresh' (zcE B l (i + 1) _) (fun _ _ h=>h)
theorem zdo (B:Nat):∀ (l:List Value) (i:Nat) (w:World) (o:Nat),(zdl w B i l).frozen? ⟨B,o,none⟩ = w.frozen? ⟨B,o,none⟩
 | [],_,_,_=>rfl
 | _v :: l,i,_w,o=>(zdo B l (i + 1) _ o).trans (World.frozen?_setCell _ _ _ _)
theorem zff (B:Nat):∀ (l:List Value) (i:Nat) (w:World) (o:Nat),o < i -> (zdl w B i l).cell? ⟨B,o,none⟩ = w.cell? ⟨B,o,none⟩
 | [],_,_,_,_=>rfl
 | _v :: l,i,w,o,ho=>(zff B l (i + 1) _ o (by omega)).trans (World.cell?_setCell_other _ _ _ _ (by intro e;simp only [Addr.mk.injEq,and_true,true_and] at e;omega))
theorem zcf (B:Nat):∀ (l:List Value) (i:Nat) (w:World),(∀ j,j < l.length -> ∃ z,w.cell? ⟨B,i + j,none⟩ = some z) -> ∀ j v,l[j]? = some v -> (zdl w B i l).cell? ⟨B,i + j,none⟩ = some v
 | [],_,_,_,_,_,h=>by simp at h
 | x :: l,i,w,hz,0,v,h=>by
   obtain ⟨z,hz0⟩:=hz 0 (by simp);have e:x = v:=by simpa using h
   subst e;exact (zff B l (i + 1) _ i (by omega)).trans (World.cell?_setCell_same _ _ _ hz0)
 | x :: l,i,w,hz,j + 1,v,h=>by
   have:=zcf B l (i + 1) (w.setCell ⟨B,i,none⟩ x) (fun j hj=>by
    obtain ⟨z,hz0⟩:=hz (j + 1) (by simp;omega);refine ⟨z,(World.cell?_setCell_other _ _ _ _ (by intro e;simp only [Addr.mk.injEq,and_true,true_and] at e;omega)).trans ?_⟩
    rw [show i + 1 + j = i + (j + 1) by omega];exact hz0) j v (by simpa using h)
   rw [show i + (j + 1) = i + 1 + j by omega];exact this
def outZ:List Value:=[.int .i64 0,.int .i64 0,.int .i64 0,.int .i64 0,.int .i64 0,.int .i64 0,.int .i64 0,.bool false,.bool false]
theorem zgr {w w8:World} {t:TypeId} (hx:Ext (w.alloc (.cells #[.int .i64 0,.int .i64 0,.int .i64 0,.int .i64 0,.int .i64 0,.int .i64 0,.int .i64 0,.bool false,.bool false] t)) w8) :
 (∀ j v,outZ[j]? = some v -> w8.cell? ⟨w.heap.size,j,none⟩ = some v) /\ (∀ o,w8.frozen? ⟨w.heap.size,o,none⟩ = false) /\ w.heap.size < w8.heap.size:=by
 have hl:w.heap.size < (w.alloc (.cells #[.int .i64 0,.int .i64 0,.int .i64 0,.int .i64 0,.int .i64 0,.int .i64 0,.int .i64 0,.bool false,.bool false] t)).heap.size:=by simp
 refine ⟨fun j v hj=>(hx.cell (p:=⟨w.heap.size,j,none⟩) hl (fun h=>h)).trans ((World.cell?_alloc_at _ _ _ j (by simp)).trans (by simpa [outZ] using hj)),fun o=>(hx.frozen (p:=⟨w.heap.size,o,none⟩) hl (fun h=>h)).trans ?_,Nat.lt_of_lt_of_le hl hx.size⟩;rw [Go.RowKit.frozen?_alloc_cells];simp [World.frozen?]
theorem zbm {w w8:World} {t:TypeId} (hx:Ext (w.alloc (.cells #[.int .i64 0,.int .i64 0,.int .i64 0,.int .i64 0,.int .i64 0,.int .i64 0,.int .i64 0,.bool false,.bool false] t)).drew w8) :
 (∀ j v,outZ[j]? = some v -> w8.cell? ⟨w.heap.size,j,none⟩ = some v) /\ (∀ o,w8.frozen? ⟨w.heap.size,o,none⟩ = false) /\ w.heap.size < w8.heap.size:=zgr (ExtM.trans _ _ _ (ExtM.refl _).drew hx)
def zhA (wc wx:World) (s17:Value) (l:List Value):Prop:=∃ B,s17 = .pointer (some ⟨B,0,none⟩) /\ wc.heap.size <= B /\ B < wx.heap.size /\ Ext wc wx /\ (∀ j v,l[j]? = some v -> wx.cell? ⟨B,j,none⟩ = some v) /\ ∀ o,wx.frozen? ⟨B,o,none⟩ = false
theorem zlx {w:World} {B:Nat} (hn:∀ j v,outZ[j]? = some v -> w.cell? ⟨B,j,none⟩ = some v) (j:Nat) (hj:j < 9):∃ z,w.cell? ⟨B,0 + j,none⟩ = some z:=by
 have hl:j < outZ.length:=hj;refine ⟨outZ[j],?_⟩;rw [Nat.zero_add];exact hn j _ (List.getElem?_eq_getElem hl)
theorem outA {wc w8:World} (o:Out) (hx:Ext wc w8) (hn:∀ j v,outZ[j]? = some v -> w8.cell? ⟨wc.heap.size,j,none⟩ = some v) (hfz:∀ o,w8.frozen? ⟨wc.heap.size,o,none⟩ = false) (hlt:wc.heap.size < w8.heap.size) :
 zhA wc (zdl w8 wc.heap.size 0 (outL o)) (.pointer (some ⟨wc.heap.size,0,none⟩)) (outL o):=by
 have hp:=zcE wc.heap.size (outL o) 0 w8;refine ⟨wc.heap.size,rfl,Nat.le_refl _,Nat.lt_of_lt_of_le hlt hp.size,hx.fresh hp (fun k hk e=>by omega),fun j v hj=>?_,fun q=>(zdo _ _ _ _ _).trans (hfz q)⟩
 have:=zcf wc.heap.size (outL o) 0 w8 (fun j hj=>zlx hn j hj) j v hj
 rwa [Nat.zero_add] at this
theorem outB {wc w8:World} {t:TypeId} (o:Out) (hx:Ext wc w8) :
 zhA wc (w8.alloc (.cells #[.int .i64 o.key,.int .i64 o.l.k,.int .i64 o.l.t,.int .i64 o.l.v,.int .i64 o.r.k,.int .i64 o.r.t,.int .i64 o.r.v,.bool o.hl,.bool o.hr] t)) (.pointer (some ⟨w8.heap.size,0,none⟩)) (outL o):=by
 refine ⟨w8.heap.size,rfl,hx.size,by simp,hx.alloc _,fun j v hj=>(World.cell?_alloc_at _ _ _ j (by simp)).trans (by simpa [outL] using hj),fun q=>?_⟩;rw [Go.RowKit.frozen?_alloc_cells];simp [World.frozen?]
end Go.Proofs.YtmcgnnmffeojpabGreatDoor
