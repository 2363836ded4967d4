/- What all rows come to, put together pair by pair: plainly, and its state in memory. -/
import Derived.Test.YtmcgnnmffeojpaaGreatDoorPk43
import Derived.Deep.DeepCutAuto
import Derived.Deep.CutBlock
/- Whether a view is what it should be: the walk. -/
namespace Go.Proofs.YtmcgnnmffeojpaaGreatDoor
open Go.RowKit Go.Plan

set_option maxRecDepth 100000 in
set_option maxHeartbeats 4000000 in
theorem right_c (a : Option Addr) (cap : Nat) (l W : List Out) (D : Nat) (m : List (Out × Value)) (w : World) (hin : OutsOf w a l) (hok : ∀ x ∈ l, x.ok) (hm : MapIs Tryz.prog 58 encO w D m) (hcz : CountsZ m W) (hp : l.Perm W) (hl : l.length < 1000000) :
    Calls Tryz.prog 11 #[.slice a l.length cap, .map (some D)] w fun e w' => e = .returned (.bool true) ∧ Ext w w' := by
  have hmm := @run_makeMap Tryz.prog
  go_enter Tryz.func11, Tryz.ntmps11
  go_wp2_with fail
  have x0 : Ext w (w.alloc (.map #[] 0)) := (ExtM.refl _).alloc _
  have m0 : MapIs Tryz.prog 58 encO (w.alloc (.map #[] 0)) w.heap.size ([] : List (Out × Value)) := MapIs.made w
  clear hmm
  generalize w.alloc (.map #[] 0) = w0 at *
  generalize hG : w.heap.size = G at *
  have HG := Lib.hid hG
  clear hG
  go_loopg [7] (l.length + 1) (fun kx s7 wr => ∃ (i : Nat) (mg : List (Out × Value)), s7 = .int .i64 i ∧ i ≤ l.length ∧ l.length - i ≤ kx ∧ MapIs Tryz.prog 58 encO wr G mg ∧ CountsZ mg (l.take i) ∧ Ext w wr)
  case atStart => exact ⟨0, [], rfl, by omega, by omega, m0, (fun x => rfl), x0⟩
  case round =>
    clear m0 x0
    obtain ⟨i, mg, rfl, hli, hgk, hmg, hcg, hx⟩ := hrel
    by_cases hil : i < l.length
    · rcases hin with hor | ⟨b, rfl, hel⟩
      · rw [hor] at hil; simp at hil
      have hel := hel i hil
      have hbG : ¬ b = G := fun e => by have h1 := hel.lt; have h2 := HG.out; omega
      have hel := hel.of hx
      have hck := hok _ (List.getElem_mem hil)
      have HTK := Lib.hid (List.take_succ_eq_append_getElem hil)
      generalize l[i] = x at *
      have hcb1 : (((l.take i).count x : Nat) : Int) < 1000000000 := by have := List.count_le_length (a := x) (l := l.take i); rw [List.length_take] at this; omega
      have hcb0 : 0 ≤ (((l.take i).count x : Nat) : Int) := Int.natCast_nonneg _
      have hadd := hcg.add x
      have hc1 := hcg x
      have hlk := (hmg.of (ExtM.drew (ExtM.refl wr) : Ext wr wr.drew) id).run_look false outLaw encO_inj Tryz.underlying36 zeroInt x (keyO x hck)
      obtain ⟨stp, w2', hme, x2, z2, hlk2, hst⟩ := (hmg.of (ExtM.drew (ExtM.refl wr) : Ext wr wr.drew) id).run_entry outLaw encO_inj Tryz.underlying36 zeroInt x (keyO x hck)
      obtain ⟨w3', hst3, x3, z3, hm3⟩ := hst (.int .i64 (((l.take i).count x : Int) + 1))
      rw [hc1] at hlk hme hlk2
      simp only [encO_run, Bool.false_eq_true, if_false] at hlk hme hlk2
      have y3 : ExtB G wr w3' := ExtB.trans _ _ _ (ExtB.of_ext ((ExtM.refl _).drew)) (ExtB.trans _ _ _ x2 x3)
      have hx3 : Ext w w3' := ext_ofN HG.out hx y3
      have hpm : (x :: l.take i).Perm (l.take (i + 1)) := by rw [HTK.out]; exact (List.perm_append_singleton _ _).symm
      have HNX := Lib.hid (⟨hm3, hadd.perm hpm, hx3⟩ : _ ∧ _ ∧ _)
      have hlG := hmg.lt
      have hlb := hel.lt
      obtain ⟨e0, e1, e2, e3, e4, e5, e6, e7, e8⟩ := id hel
      clear hadd hc1 hcg hmg hm3 hst z2 z3 hx3 y3 hpm hx
      generalize (((l.take i).count x : Nat) : Int) = cc at *
      go_upto_region 6 with fail
      refine Plan.begin (Plan.ExtB G) 10 rfl (by kernel_rfl) ?_
      refine Plan.left_q 0 (by rfl) (by kernel_rfl) ?_; go_big_quiet_step (fail); refine wpQuiet_nil ?_
      refine Plan.left_q 1 (by rfl) (by kernel_rfl) ?_; go_big_quiet_step (fail); refine wpQuiet_nil ?_
      refine Plan.left_q 2 (by rfl) (by kernel_rfl) ?_; go_big_quiet_step (fail); refine wpQuiet_nil ?_
      refine Plan.left_q 3 (by rfl) (by kernel_rfl) ?_; go_big_quiet_step (fail); refine wpQuiet_nil ?_
      refine Plan.left_q 4 (by rfl) (by kernel_rfl) ?_; go_big_quiet_step (fail); refine wpQuiet_nil ?_
      refine Plan.left_two 5 7 (by kernel_rfl) (by rfl) (by rfl) (Plan.plain rfl fun K hK => ?_) (Plan.plain rfl fun K hK => ?_)
      focus
        go_wp2_with (fail)
        refine hK _ _ (ExtM.refl _) ?_
        clear hK K
        refine Plan.left_q 6 (by rfl) (by kernel_rfl) ?_; go_big_quiet_step (fail); refine wpQuiet_nil ?_
        refine Plan.left_one 7 (by kernel_rfl) (by rfl) (Plan.plain rfl fun K hK => ?_)
        go_wp2_with (fail)
        refine hK _ _ (x2) ?_
        clear hK K
        refine Plan.left_q 8 (by rfl) (by kernel_rfl) ?_; go_big_quiet_step (fail); refine wpQuiet_nil ?_
        refine Plan.left_one 9 (by kernel_rfl) (by rfl) (Plan.plain rfl fun K hK => ?_)
        go_wp2_with (fail)
        refine hK _ _ (x3) ?_
        clear hK K
        refine Plan.left_done (by kernel_rfl) ?_
      rotate_left
      focus
        go_wp2_with (fail)
        refine hK _ _ (x2) ?_
        clear hK K
        refine Plan.left_q 8 (by rfl) (by kernel_rfl) ?_; go_big_quiet_step (fail); refine wpQuiet_nil ?_
        refine Plan.left_one 5 (by kernel_rfl) (by rfl) (Plan.plain rfl fun K hK => ?_)
        go_wp2_with (fail)
        refine hK _ _ (ExtM.refl _) ?_
        clear hK K
        refine Plan.left_q 6 (by rfl) (by kernel_rfl) ?_; go_big_quiet_step (fail); refine wpQuiet_nil ?_
        refine Plan.left_one 9 (by kernel_rfl) (by rfl) (Plan.plain rfl fun K hK => ?_)
        go_wp2_with (fail)
        refine hK _ _ (x3) ?_
        clear hK K
        refine Plan.left_done (by kernel_rfl) ?_
      all_goals
        clear e0 e1 e2 e3 e4 e5 e6 e7 e8
        go_wp2_with fail
        go_roundg (l.length - (i + 1))
        case measure => omega
        case rel =>
          obtain ⟨q1, q2, q3⟩ := HNX.out
          exact ⟨i + 1, _, by go_num, by omega, Nat.le_refl _, q1, q2, q3⟩
    · obtain rfl : i = l.length := by omega
      have hz : decide (l.length < l.length) = false := by simp
      have hz2 : decide ((l.length : Int) < l.length) = false := by simp
      rw [List.take_length] at hcg
      have hmr := hm.of hx id
      obtain ⟨ob, hrun, hrg⟩ := hmr.run_range Tryz.underlying36
      have hxo : Ext wr (wr.alloc ob) := (ExtM.refl _).alloc _
      have hmg2 := hmg.of hxo id
      have hxw : Ext w (wr.alloc ob) := ExtM.trans _ _ _ hx hxo
      have hfl : (flat m).length = W.length := (hcz.flat hm.nodup).length_eq
      have HP := Lib.hid hp
      have HFL := Lib.hid hfl
      have HWl : Hid (W.length = l.length) := Lib.hid hp.length_eq.symm
      have hGR : G < wr.heap.size := hmg.lt
      clear hp hfl hmg hx hxo hmr
      go_wp2_with fail
      clear hrun
      generalize wr.alloc ob = w1 at *
      generalize wr.heap.size = R at *
      go_loopw [5] (fun s5 wr => ∃ (left : List (Out × Value)) (nn : Nat), s5 = .int .i64 nn ∧ RangeIs Tryz.prog 58 encO wr D R m left ∧ MapIs Tryz.prog 58 encO wr G mg ∧ Ext w wr ∧ nn + (flat left).length = (flat m).length ∧ ∀ p ∈ left, p ∈ m) (fun _ wr => wr.rangeLeft D R)
      case atStart => exact ⟨m, 0, rfl, hrg, hmg2, hxw, by omega, fun p hp => hp⟩
      case round =>
        clear hrg hmg2 hxw
        obtain ⟨left, nn, rfl, hrg, hmg, hx, hnn, hsub⟩ := hrel
        rcases hrg.run_next 0 with ⟨rfl, hn⟩ | ⟨p, left', w1, hpm, hn, x1, z1, hrg1, hen⟩
        · have hnl : nn = l.length := by
            have h1 := HFL.out
            have h2 := HWl.out
            simp [flat] at hnn
            simp [flat] at h1
            omega
          subst hnl
          clear hrg hmg hnn
          go_wp2_with fail
          go_ret
          exact ⟨by simp, hx⟩
        · obtain ⟨x, cv⟩ := p
          have hmem := hsub (x, cv) (hpm.mem_iff.2 (by simp))
          have hkey := hm.keys (x, cv) hmem
          have hcv := hcz.vals hm.nodup _ hmem
          simp only at hcv hkey
          subst hcv
          have hlx : (mlook mg x).getD (.int .i64 0) = .int .i64 ((W.count x : Nat) : Int) := by rw [hcg x, HP.out.count_eq x]
          have hcl : W.count x ≤ W.length := List.count_le_length
          have hWl := HWl.out
          have HL := Lib.hid (rangeLeft_eq hrg)
          have hll : left'.length < left.length := by have := hpm.length_eq; simp at this; omega
          have hfl : (flat left).length = W.count x + (flat left').length := by
            have h1 : (flat left).Perm (flat ((x, .int .i64 ((W.count x : Nat) : Int)) :: left')) := hpm.flatMap_right flat1
            have h2 : flat ((x, .int .i64 ((W.count x : Nat) : Int)) :: left') = List.replicate (W.count x) x ++ flat left' := by simp [flat, flat1]
            rw [h2] at h1
            rw [h1.length_eq, List.length_append, List.length_replicate]
          have hbnd : nn + W.count x < 1000000 := by have := HFL.out; omega
          have hnn2 : (nn + W.count x) + (flat left').length = (flat m).length := by omega
          have hgR := HG.out
          have hx1 : Ext w w1 := hx.fresh' x1 (fun k hk e => by have e' : k = R := e; omega)
          have hmg1 := hmg.of x1 (fun e => by have e' : G = R := e; omega)
          have bx := BoxO.mk' w1 x 58
          have hxa : Ext w1 (w1.alloc (.cells #[.int .i64 x.key, .int .i64 x.l.k, .int .i64 x.l.t, .int .i64 x.l.v, .int .i64 x.r.k, .int .i64 x.r.t, .int .i64 x.r.v, .bool x.hl, .bool x.hr] 58)) := (ExtM.refl _).alloc _
          have hrg2 := hrg1.keep (w' := w1.alloc (.cells #[.int .i64 x.key, .int .i64 x.l.k, .int .i64 x.l.t, .int .i64 x.l.v, .int .i64 x.r.k, .int .i64 x.r.t, .int .i64 x.r.v, .bool x.hl, .bool x.hr] 58)) (heap_alloc_lt hrg1.ltD) (heap_alloc_lt hrg1.ltR)
          have hmg2 := hmg1.of hxa id
          have hlk := hmg2.run_look false outLaw encO_inj Tryz.underlying36 zeroInt x hkey
          rw [hlx] at hlk
          simp only [encO_run, Bool.false_eq_true, if_false] at hn hen hlk
          have HNX := Lib.hid (⟨hrg2, hmg2, ExtM.trans _ _ _ hx1 hxa, hnn2⟩ : _ ∧ _ ∧ _ ∧ _)
          have hcz0 : 0 ≤ ((W.count x : Nat) : Int) := Int.natCast_nonneg _
          clear hfl hnn hnn2 hrg hmg hx x1 z1 hrg1 hx1 hmg1 hrg2 hmg2 hlx hcl hWl
          generalize W.count x = c at *
          obtain ⟨e0, e1, e2, e3, e4, e5, e6, e7, e8⟩ := id bx
          go_wp2_with fail
          go_roundw
          case rel =>
            obtain ⟨q1, q2, q3, q4⟩ := HNX.out
            exact ⟨left', nn + c, by go_num, q1, q2, q3, q4, fun p hp => hsub p (hpm.mem_iff.2 (List.mem_cons_of_mem _ hp))⟩
          case measure =>
            obtain ⟨q1, q2, q3, q4⟩ := HNX.out
            rw [rangeLeft_eq q1, HL.out]; exact hll
end Go.Proofs.YtmcgnnmffeojpaaGreatDoor
namespace Go.Proofs.YtmcgnnmffeojpaaGreatDoor
open Go.RowKit Go.Plan

def prL (lo hi : Int) (l : Row) (Y : List Row) : List Out := (Y.filter (mtL lo hi l)).map (pairO l)
def lnL (lo hi md : Int) (l : Row) (Y : List Row) : List Out := if tellsB md 0 = true ∧ Y.any (mtL lo hi l) = false then [loneS 0 l] else []
def lnR (lo hi md : Int) (X : List Row) (r : Row) : List Out := if tellsB md 1 = true ∧ X.any (fun l => mtL lo hi l r) = false then [loneS 1 r] else []
def outLX (lo hi md : Int) (X Y : List Row) : List Out := X.flatMap fun l => prL lo hi l Y ++ lnL lo hi md l Y
def lonR (lo hi md : Int) (X Y : List Row) : List Out := Y.flatMap (lnR lo hi md X)
theorem flat_if {α β : Type} (t : Bool) (p : α → Bool) (f : α → β) : ∀ X : List α, (X.flatMap fun x => if t = true ∧ p x = false then [f x] else []) = if t = true then (X.filter fun x => !p x).map f else []
  | [] => by simp
  | x :: X => by
    rw [List.flatMap_cons, flat_if t p f X]
    cases t <;> cases hp : p x <;> simp [hp]
theorem shouldX_perm (lo hi md : Int) (X Y : List Row) : (outLX lo hi md X Y ++ lonR lo hi md X Y).Perm (should lo hi md 0 X Y) := by
  unfold should
  rw [← List.append_assoc]
  refine List.Perm.append ?_ ?_
  · unfold outLX
    refine (flat_cons _ _ X).trans (List.Perm.append ?_ ?_)
    · exact List.Perm.refl _
    · unfold lonesL lnL
      rw [flat_if]
      exact List.Perm.refl _
  · unfold lonR lnR lonesL
    rw [flat_if]
    exact List.Perm.refl _
theorem outLX_succ {lo hi md : Int} {X Y : List Row} (i : Nat) (h : i < X.length) : outLX lo hi md (X.take (i + 1)) Y = outLX lo hi md (X.take i) Y ++ (prL lo hi X[i] Y ++ lnL lo hi md X[i] Y) := by
  unfold outLX
  rw [List.take_succ_eq_append_getElem h, List.flatMap_append]
  simp
theorem lonR_succ {lo hi md : Int} {X Y : List Row} (i : Nat) (h : i < Y.length) : lonR lo hi md X (Y.take (i + 1)) = lonR lo hi md X (Y.take i) ++ lnR lo hi md X Y[i] := by
  unfold lonR
  rw [List.take_succ_eq_append_getElem h, List.flatMap_append]
  simp
theorem prL_succ {lo hi : Int} {l : Row} {Y : List Row} (k : Nat) (h : k < Y.length) : prL lo hi l (Y.take (k + 1)) = prL lo hi l (Y.take k) ++ (if mtL lo hi l Y[k] = true then [pairO l Y[k]] else []) := by
  unfold prL
  rw [List.take_succ_eq_append_getElem h, List.filter_append, List.map_append]
  congr 1
  by_cases hm : mtL lo hi l Y[k] = true
  · simp [hm]
  · simp [hm]
theorem any_succ {α : Type} {p : α → Bool} {Y : List α} (k : Nat) (h : k < Y.length) : (Y.take (k + 1)).any p = ((Y.take k).any p || p Y[k]) := by
  rw [List.take_succ_eq_append_getElem h, List.any_append]
  simp
theorem outLX_len (lo hi md : Int) (X Y : List Row) : (outLX lo hi md X Y).length ≤ X.length * (Y.length + 1) := by
  unfold outLX
  induction X with
  | nil => simp
  | cons x X ih =>
    rw [List.flatMap_cons, List.length_append, List.length_append, List.length_cons, Nat.add_mul, Nat.one_mul]
    have h1 : (prL lo hi x Y).length ≤ Y.length := by unfold prL; rw [List.length_map]; exact List.length_filter_le _ _
    have h2 : (lnL lo hi md x Y).length ≤ 1 := by unfold lnL; split <;> simp
    omega

/-- In memory, while it is put together: the map D counts A; the row Mt tells which rows of the other side were met. -/
structure ShIs (u w : World) (D Mt n : Nat) (m : List (Out × Value)) (A : List Out) (f : Nat → Bool) : Prop where
  ext : Ext u w
  mp : MapIs Tryz.prog 58 encO w D m
  cz : CountsZ m A
  met : ∀ k, k < n → w.cell? ⟨Mt, k, none⟩ = some (.bool (f k)) ∧ w.frozen? ⟨Mt, k, none⟩ = false
  ne : D ≠ Mt
  hD : u.heap.size ≤ D
  hM : u.heap.size ≤ Mt
  lM : Mt < w.heap.size
section
variable {u w w' : World} {D Mt n : Nat} {m : List (Out × Value)} {A : List Out} {f : Nat → Bool}
theorem ShIs.of (h : ShIs u w D Mt n m A f) (hx : Ext w w') : ShIs u w' D Mt n m A f :=
  ⟨ExtM.trans _ _ _ h.ext hx, h.mp.of hx id, h.cz, fun k hk => ⟨(hx.cell (p := ⟨Mt, k, none⟩) h.lM id).trans (h.met k hk).1, (hx.frozen (p := ⟨Mt, k, none⟩) h.lM id).trans (h.met k hk).2⟩, h.ne, h.hD, h.hM, Nat.lt_of_lt_of_le h.lM hx.size⟩
theorem ShIs.up {m' : List (Out × Value)} {A' : List Out} (h : ShIs u w D Mt n m A f) (hx : ExtB D w w') (hm : MapIs Tryz.prog 58 encO w' D m') (hz : CountsZ m' A') : ShIs u w' D Mt n m' A' f :=
  ⟨h.ext.fresh' hx (fun k hk e => by have e' : k = D := e; have := h.hD; omega), hm, hz, fun k hk => ⟨(hx.cell (p := ⟨Mt, k, none⟩) h.lM (fun e => h.ne e.symm)).trans (h.met k hk).1, (hx.frozen (p := ⟨Mt, k, none⟩) h.lM (fun e => h.ne e.symm)).trans (h.met k hk).2⟩, h.ne, h.hD, h.hM, Nat.lt_of_lt_of_le h.lM hx.size⟩
theorem ShIs.tell {f' : Nat → Bool} (h : ShIs u w D Mt n m A f) (j : Nat) (hj : j < n) (hf : ∀ k, k < n → f' k = if k = j then true else f k) : ShIs u (w.setCell ⟨Mt, j, none⟩ (.bool true)) D Mt n m A f' := by
  have hs : ExtM (fun k => k = Mt) w (w.setCell ⟨Mt, j, none⟩ (.bool true)) := ExtM.setCell (M := fun k => k = Mt) (ExtM.refl w) (p := ⟨Mt, j, none⟩) (.inr rfl) _
  refine ⟨h.ext.fresh' hs (fun k hk e => by have := h.hM; omega), h.mp.of hs h.ne, h.cz, fun k hk => ?_, h.ne, h.hD, h.hM, Nat.lt_of_lt_of_le h.lM hs.size⟩
  rw [hf k hk]
  refine ⟨?_, (World.frozen?_setCell _ _ _ _).trans (h.met k hk).2⟩
  by_cases hkj : k = j
  · subst hkj
    rw [if_pos rfl]
    exact World.cell?_setCell_same _ _ _ (h.met k hj).1
  · rw [if_neg hkj]
    exact (World.cell?_setCell_other _ _ _ _ (by intro e; simp only [Addr.mk.injEq, and_true, true_and] at e; omega)).trans (h.met k hk).1
theorem ShIs.perm {A' : List Out} (h : ShIs u w D Mt n m A f) (hp : A.Perm A') : ShIs u w D Mt n m A' f := ⟨h.ext, h.mp, h.cz.perm hp, h.met, h.ne, h.hD, h.hM, h.lM⟩
theorem ShIs.same {f' : Nat → Bool} (h : ShIs u w D Mt n m A f) (hf : ∀ k, k < n → f' k = f k) : ShIs u w D Mt n m A f' := ⟨h.ext, h.mp, h.cz, fun k hk => by rw [hf k hk]; exact h.met k hk, h.ne, h.hD, h.hM, h.lM⟩
/-- One more of x: what the map's steps are. -/
theorem ShIs.inc (h : ShIs u w D Mt n m A f) (x : Out) (hx : x.ok) (hl : A.length < 1000000000) :
    ∃ (stp : Nat) (w2' w3' : World) (m' : List (Out × Value)), (Instr.lookup 36 (.map (some D)) (encO x) false).run Tryz.prog w.drew = .ok (.int .i64 ((A.count x : Nat) : Int)) w.drew ∧
      (Instr.mapEntry 36 (.map (some D)) (encO x)).run Tryz.prog w.drew = .ok (.tuple #[.int .i64 ((A.count x : Nat) : Int), .int .i64 stp]) w2' ∧ ExtB D w.drew w2' ∧
      (Instr.lookup 36 (.map (some D)) (encO x) false).run Tryz.prog w2' = .ok (.int .i64 ((A.count x : Nat) : Int)) w2' ∧
      (Instr.entryStore 36 (.map (some D)) (.int .i64 stp) (.int .i64 (((A.count x : Nat) : Int) + 1))).run Tryz.prog w2' = .ok () w3' ∧ ExtB D w2' w3' ∧ ShIs u w3' D Mt n m' (x :: A) f ∧ (0 ≤ ((A.count x : Nat) : Int) ∧ ((A.count x : Nat) : Int) < 1000000000) := by
  have hd : Ext w w.drew := (ExtM.refl w).drew
  have hm := h.mp.of hd id
  have hc := h.cz x
  have hlk := hm.run_look false outLaw encO_inj Tryz.underlying36 zeroInt x (keyO x hx)
  obtain ⟨stp, w2', hme, x2, z2, hlk2, hst⟩ := hm.run_entry outLaw encO_inj Tryz.underlying36 zeroInt x (keyO x hx)
  obtain ⟨w3', hst3, x3, z3, hm3⟩ := hst (.int .i64 (((A.count x : Nat) : Int) + 1))
  rw [hc] at hlk hme hlk2
  simp only [Bool.false_eq_true, if_false] at hlk
  have hle := List.count_le_length (a := x) (l := A)
  exact ⟨stp, w2', w3', _, hlk, hme, x2, hlk2, hst3, x3, h.up (ExtB.trans _ _ _ (ExtB.of_ext hd) (ExtB.trans _ _ _ x2 x3)) hm3 (h.cz.add x), Int.natCast_nonneg _, by omega⟩
end
end Go.Proofs.YtmcgnnmffeojpaaGreatDoor
