/- Loading a line of a row that is held. -/
import Derived.Test.YtmcgnnmffeojpaaGreatDoorPk23
import Derived.Test.YtmcgnnmffeojpaaGreatDoorPk38
import Derived.Deep.DeepCutAuto
import Derived.Deep.CutBlock
/- Loading what came of rows: what the numbers say. -/
namespace Go.Proofs.YtmcgnnmffeojpaaGreatDoor
open Go.RowKit Go.Plan

theorem out_c {u : World} {L E : Nat} {Bs : Nat → Prop} {lo hi md : Int} {st : JSt} {V : List Out} {f0 f1 : Int} (hL : LdIs u L (some ⟨E, 0, none⟩) false) (hE : EAt u E Bs lo hi md st V V f0 f1) (hn : ¬ Bs L) (n : List Int) (a : Option Addr) (cap : Nat) (hnum : NumsIn u L a n) (hV : V.length < 900000) (x : Out) (hx : outE n = some x) :
    Calls Tryz.prog 88 #[.pointer (some ⟨L, 0, none⟩), .slice a n.length cap] u fun e u' => e = .returned (.tuple #[]) ∧ LUp u u' L E Bs lo hi md st (x :: V) f0 f1 := by
  have hcase : (∃ h r, n = h :: rowsN [r] ∧ (h = 1 ∨ h = 2) ∧ goodR r) ∨ (∃ r s, n = 3 :: rowsN [r, s] ∧ goodR r ∧ goodR s ∧ r.k = s.k) := by
    unfold outE at hx
    split at hx
    · rename_i h a b c
      split at hx
      · rename_i hh
        exact .inl ⟨h, ⟨a, b, c⟩, rfl, hh.1, hh.2⟩
      · cases hx
    · rename_i h a b c d e f
      split at hx
      · rename_i hh
        obtain ⟨rfl, h1, h2, h3⟩ := hh
        exact .inr ⟨⟨a, b, c⟩, ⟨d, e, f⟩, rfl, h1, h2, h3⟩
      · cases hx
    · cases hx
  rcases hcase with ⟨h, r, rfl, hh, hg⟩ | ⟨r, s, rfl, hg1, hg2, hk⟩
  · rcases hh with rfl | rfl
    · refine (out1_c hL hE hn [r] rfl (by intro q hq; rw [List.mem_singleton.1 hq]; exact hg) a cap hnum hV).mono ?_
      rintro e u' ⟨y, he, hy, hu⟩
      rw [hx] at hy; cases hy
      exact ⟨he, hu⟩
    · refine (out2_c hL hE hn [r] rfl (by intro q hq; rw [List.mem_singleton.1 hq]; exact hg) a cap hnum hV).mono ?_
      rintro e u' ⟨y, he, hy, hu⟩
      rw [hx] at hy; cases hy
      exact ⟨he, hu⟩
  · refine (out3_c hL hE hn [r, s] rfl (by intro q hq; simp only [List.mem_cons, List.not_mem_nil, or_false] at hq; rcases hq with rfl | rfl <;> assumption) a cap hnum hV (by
      intro p hp q hq
      simp only [List.mem_cons, List.not_mem_nil, or_false] at hp hq
      rcases hp with rfl | rfl <;> rcases hq with rfl | rfl <;> simp [hk])).mono ?_
    rintro e u' ⟨y, he, hy, hu⟩
    rw [hx] at hy; cases hy
    exact ⟨he, hu⟩
end Go.Proofs.YtmcgnnmffeojpaaGreatDoor
/- Loading a line: how many numbers a word wants. -/
namespace Go.Proofs.YtmcgnnmffeojpaaGreatDoor
open Go.RowKit Go.Plan

def sPlan : ByteArray := ⟨#[112, 108, 97, 110]⟩
def sFed : ByteArray := ⟨#[102, 101, 100]⟩
def sMarks : ByteArray := ⟨#[109, 97, 114, 107, 115]⟩
def sRow : ByteArray := ⟨#[114, 111, 119]⟩
def sOut : ByteArray := ⟨#[111, 117, 116]⟩
theorem strLaw : Go.Maps.Keyed Tryz.prog 9 := Go.Maps.string_keyed Tryz.underlying9
theorem str_inj (x y : ByteArray) (h : Value.string x = Value.string y) : x = y := by simpa using h
theorem keyS (s : ByteArray) (h : s.size ≤ 1000000000) : ∃ l, keyOf Tryz.prog 9 (.string s) = some l := by
  have hm : s.size ≤ maxLen := by unfold maxLen; omega
  exact ⟨_, by simp only [keyOf, mapKey, Tryz.underlying9]; rw [if_pos hm]⟩
theorem zeroI (w : World) : (zeroValue 3).run Tryz.prog w = .ok (.int .i64 0) w := by kernel_rfl
/-- The map of them. -/
def wantM : List (ByteArray × Value) := putK (putK (putK (putK [] sPlan (.int .i64 3)) sFed (.int .i64 3)) sMarks (.int .i64 2)) sRow (.int .i64 5)
theorem want_map (u : World) : ∃ w1 w2 w3 w4, (Instr.mapUpdate 162 (.map (some u.heap.size)) (.string sPlan) (.int .i64 3)).run Tryz.prog (u.alloc (.map #[] 0)) = .ok () w1 ∧
    (Instr.mapUpdate 162 (.map (some u.heap.size)) (.string sFed) (.int .i64 3)).run Tryz.prog w1 = .ok () w2 ∧
    (Instr.mapUpdate 162 (.map (some u.heap.size)) (.string sMarks) (.int .i64 2)).run Tryz.prog w2 = .ok () w3 ∧
    (Instr.mapUpdate 162 (.map (some u.heap.size)) (.string sRow) (.int .i64 5)).run Tryz.prog w3 = .ok () w4 ∧ Ext u w4 ∧
    ∀ s, s.size ≤ 1000000000 → (Instr.lookup 162 (.map (some u.heap.size)) (.string s) true).run Tryz.prog w4 = .ok (.tuple #[(mlook wantM s).getD (.int .i64 0), .bool (mlook wantM s).isSome]) w4 := by
  have h0 : MapIs Tryz.prog 9 Value.string (u.alloc (.map #[] 0)) u.heap.size [] := MapIs.made u
  obtain ⟨w1, r1, x1, z1, h1⟩ := h0.run_update strLaw str_inj Tryz.underlying162 sPlan (keyS _ (by decide)) (.int .i64 3)
  obtain ⟨w2, r2, x2, z2, h2⟩ := h1.run_update strLaw str_inj Tryz.underlying162 sFed (keyS _ (by decide)) (.int .i64 3)
  obtain ⟨w3, r3, x3, z3, h3⟩ := h2.run_update strLaw str_inj Tryz.underlying162 sMarks (keyS _ (by decide)) (.int .i64 2)
  obtain ⟨w4, r4, x4, z4, h4⟩ := h3.run_update strLaw str_inj Tryz.underlying162 sRow (keyS _ (by decide)) (.int .i64 5)
  refine ⟨w1, w2, w3, w4, r1, r2, r3, r4, ?_, fun s hs => ?_⟩
  · have hB : ExtB u.heap.size (u.alloc (.map #[] 0)) w4 := ExtB.trans _ _ _ x1 (ExtB.trans _ _ _ x2 (ExtB.trans _ _ _ x3 x4))
    exact ⟨hB.os, hB.tape, hB.output, Nat.le_trans (by simp) hB.size, fun k hk _ => (hB.block k (by simp; omega) (fun e => by have e' : k = u.heap.size := e; omega)).trans (heap_alloc_old _ _ hk)⟩
  · exact h4.run_look true strLaw str_inj Tryz.underlying162 zeroI s (keyS _ hs)
theorem want_plan : mlook wantM sPlan = some (.int .i64 3) := by rfl
theorem want_fed : mlook wantM sFed = some (.int .i64 3) := by rfl
theorem want_marks : mlook wantM sMarks = some (.int .i64 2) := by rfl
theorem want_row : mlook wantM sRow = some (.int .i64 5) := by rfl
theorem want_out : mlook wantM sOut = none := by rfl
end Go.Proofs.YtmcgnnmffeojpaaGreatDoor
/- The join's Put, Move, Feed of no side, Lateness, Held and Rows and Mark of no side. -/
namespace Go.Plan
/-- Nothing is known but that the first three cells of block B are what they were. -/
def ExtC (B : Nat) (w w' : World) : Prop := ∀ o, o ≤ 2 → w'.cell? ⟨B, o, none⟩ = w.cell? ⟨B, o, none⟩
theorem ExtC.refl {B : Nat} (w : World) : ExtC B w w := fun _ _ => rfl
theorem ExtC.trans {B : Nat} (a b c : World) (h : ExtC B a b) (k : ExtC B b c) : ExtC B a c := fun o ho => (k o ho).trans (h o ho)
instance {B : Nat} : Std.Refl (ExtC B) := ⟨ExtC.refl⟩
instance {B : Nat} : Trans (ExtC B) (ExtC B) (ExtC B) := ⟨fun h k => ExtC.trans _ _ _ h k⟩
@[go_sem] theorem cell?_extC (B : Nat) (w p : World) (o : Nat) (ho : o ≤ 2) : (Plan.ext (ExtC B) w p).cell? ⟨B, o, none⟩ = w.cell? ⟨B, o, none⟩ := ext_E ExtC.refl w p o ho
end Go.Plan
namespace Go.Proofs.YtmcgnnmffeojpaaGreatDoor
open Go.RowKit Go.Plan

theorem JUp.after {u u' u'' : World} {P M : Nat} {Bs : Nat → Prop} {lo hi md : Int} {st : JSt} (h : JUp u u' P M Bs lo hi md st) (hx : Ext u' u'') : JUp u u'' P M Bs lo hi md st := by
  obtain ⟨j1, j2, j3, j4⟩ := h
  exact ⟨j1.fresh' hx (fun _ _ h => h.elim), j2, j3.ext hx, j4⟩
theorem JUp.before {u u0 u' : World} {P M : Nat} {Bs : Nat → Prop} {lo hi md : Int} {st : JSt} (hx : Ext u u0) (h : JUp u0 u' P M Bs lo hi md st) : JUp u u' P M Bs lo hi md st :=
  JUp.trans (_st1 := st) (hx.mono (fun _ _ h => h.elim)) (fun _k hk => .inl hk) h


theorem moveOk_c (B : Nat) (s t x y : Int) (w : World) (h : Mk w B x y) (he : moveI s t x y = 0) : Calls Tryz.prog 72 #[.pointer (some ⟨B, 0, none⟩), .int .i64 s, .int .i64 t] w fun e w' => e = .returned .nilIface ∧ w' = w.setCell ⟨B, if s = 0 then 0 else 1, none⟩ (.int .i64 t) :=
  (move_c B s t x y w h).mono fun e w' hh => by rw [he] at hh; unfold moveW at hh; rw [if_pos he] at hh; exact hh
theorem moveBad_c (B : Nat) (s t x y c : Int) (w : World) (h : Mk w B x y) (he : moveI s t x y = c) (hc : c ≠ 0) : Calls Tryz.prog 72 #[.pointer (some ⟨B, 0, none⟩), .int .i64 s, .int .i64 t] w fun e w' => e = .returned (.iface 48 (.int .i64 c)) ∧ w = w' :=
  (move_c B s t x y w h).mono fun e w' hh => by subst he; unfold moveW errV at hh; rw [if_neg hc, if_neg hc] at hh; exact ⟨hh.1, hh.2.symm⟩
theorem JIs.mark {u : World} {P M : Nat} {v0 v1 : Value} {lo hi md : Int} {st : JSt} (h : JIs u P M v0 v1 lo hi md st) (s : Nat) (hs : s < 2) (t : Int) :
    JIs (u.setCell ⟨M, s, none⟩ (.int .i64 t)) P M v0 v1 lo hi md (if s = 0 then { st with x := t } else { st with y := t }) ∧ ExtM (fun k => k = M) u (u.setCell ⟨M, s, none⟩ (.int .i64 t)) := by
  have hx : ExtM (fun k => k = M) u (u.setCell ⟨M, s, none⟩ (.int .i64 t)) := ExtM.setCell (M := fun k => k = M) (ExtM.refl u) (p := ⟨M, s, none⟩) (.inr rfl) _
  have k := fun o => hx.cell (p := ⟨P, o, none⟩) h.lt h.ne
  have hf : ∀ o, (u.setCell ⟨M, s, none⟩ (.int .i64 t)).frozen? ⟨M, o, none⟩ = u.frozen? ⟨M, o, none⟩ := fun o => World.frozen?_setCell _ _ _ _
  have s0 := h.s0.extM hx h.ne (fun k hk e => h.m0 (e ▸ hk))
  have s1 := h.s1.extM hx h.ne (fun k hk e => h.m1 (e ▸ hk))
  have f6 := (hx.frozen (p := ⟨P, 6, none⟩) h.lt h.ne).trans h.f6
  refine ⟨?_, hx⟩
  have hs' : s = 0 ∨ s = 1 := by omega
  rcases hs' with rfl | rfl
  · exact ⟨(k _).trans h.c0, (k _).trans h.c1, (k _).trans h.c2, s0, s1, (k _).trans h.c5, (k _).trans h.c6, f6, ⟨World.cell?_setCell_same _ _ _ h.mks.c0, (World.cell?_setCell_other _ _ _ _ (by simp)).trans h.mks.c1, (hf 0).trans h.mks.f0, (hf 1).trans h.mks.f1⟩, h.ne, h.m0, h.m1, h.sep⟩
  · exact ⟨(k _).trans h.c0, (k _).trans h.c1, (k _).trans h.c2, s0, s1, (k _).trans h.c5, (k _).trans h.c6, f6, ⟨(World.cell?_setCell_other _ _ _ _ (by simp)).trans h.mks.c0, World.cell?_setCell_same _ _ _ h.mks.c1, (hf 0).trans h.mks.f0, (hf 1).trans h.mks.f1⟩, h.ne, h.m0, h.m1, h.sep⟩
theorem moveI_range {s t x y : Int} (h : moveI s t x y = 0) : -1099511627776 ≤ t ∧ t ≤ 1099511627776 := by
  unfold moveI at h
  split at h
  · cases h
  · split at h
    · cases h
    · omega

theorem jmoveBad_c {u : World} {P M : Nat} {v0 v1 : Value} {lo hi md : Int} {st : JSt} (h : JIs u P M v0 v1 lo hi md st) (s t c : Int) (hc : moveI s t st.x st.y = c) (h0 : c ≠ 0) :
    Calls Tryz.prog 47 #[.pointer (some ⟨P, 0, none⟩), .int .i64 s, .int .i64 t] u fun e u' => e = .returned (errV c) ∧ JUp u u' P M (JFoot P M v0 v1) lo hi md st := by
  have c5 := h.c5
  go_enter Tryz.func47, Tryz.ntmps47
  go_wp2_with (go_at_call 72; refine (moveBad_c M s t st.x st.y c _ h.mks hc h0).mono ?_; rintro e w1 ⟨rfl, rfl⟩)
  go_ret
  exact ⟨by rw [errV, if_neg h0]; rfl, JUp.same ⟨v0, v1, h, rfl⟩ (ExtM.refl _)⟩
theorem jputBad_c (P : Nat) (s k t q m : Int) (u : World) (hs : s ≠ 0 ∧ s ≠ 1) :
    Calls Tryz.prog 87 #[.pointer (some ⟨P, 0, none⟩), .int .i64 s, .agg #[.int .i64 k, .int .i64 t, .int .i64 q], .int .i64 m] u fun e u' => e = .returned (errV 1) ∧ Ext u u' := by
  have d0 : (s != 0) = true := by simp [hs.1]
  have d1 : (s != 1) = true := by simp [hs.2]
  clear hs
  go_enter Tryz.func87, Tryz.ntmps87
  go_wp2_with fail
  go_ret
  exact ⟨rfl, (ExtM.refl _).alloc _⟩
theorem jfeedBad_c (P : Nat) (s k t q : Int) (u : World) (hs : s ≠ 0 ∧ s ≠ 1) :
    Calls Tryz.prog 49 #[.pointer (some ⟨P, 0, none⟩), .int .i64 s, .agg #[.int .i64 k, .int .i64 t, .int .i64 q]] u fun e u' => e = .returned (.tuple #[.slice none 0 0, errV 1]) ∧ Ext u u' := by
  have d0 : (s != 0) = true := by simp [hs.1]
  have d1 : (s != 1) = true := by simp [hs.2]
  clear hs
  go_enter Tryz.func49, Tryz.ntmps49
  go_wp2_with fail
  go_ret2
  exact ⟨rfl, (ExtM.refl _).alloc _⟩
theorem jlateness_c {u : World} {P M : Nat} {v0 v1 : Value} {lo hi md : Int} {st : JSt} (h : JIs u P M v0 v1 lo hi md st) (n : Int) :
    Calls Tryz.prog 86 #[.pointer (some ⟨P, 0, none⟩), .int .i64 n] u fun e u' => e = .returned (.tuple #[]) ∧ JIs u' P M v0 v1 lo hi md { st with late := max n 0 } ∧ ExtM (fun k => k = P) u u' := by
  have f6 := h.f6
  have c6 := h.c6
  obtain ⟨h1, hx⟩ := h.late (max n 0)
  go_enter Tryz.func86, Tryz.ntmps86
  go_wp2_with fail
  all_goals
    go_end0
    first
    | exact ⟨rfl, h1, hx⟩
    | (rw [show max n 0 = 0 by omega] at h1 hx ⊢; exact ⟨rfl, h1, hx⟩)
    | (rw [show max n 0 = n by omega] at h1 hx ⊢; exact ⟨rfl, h1, hx⟩)
theorem jheldBad_c (P : Nat) (u : World) :
    Calls Tryz.prog 41 #[.pointer (some ⟨P, 0, none⟩), .int .i64 2] u fun e u' => e = .returned (.int .i64 0) ∧ u = u' := by
  go_enter Tryz.func41, Tryz.ntmps41
  go_wp2_with fail
  go_ret
  exact ⟨rfl, rfl⟩
theorem jrowsBad_c (P : Nat) (u : World) :
    Calls Tryz.prog 36 #[.pointer (some ⟨P, 0, none⟩), .int .i64 7] u fun e u' => e = .returned (.slice none 0 0) ∧ u = u' := by
  go_enter Tryz.func36, Tryz.ntmps36
  go_wp2_with fail
  go_ret
  exact ⟨rfl, rfl⟩

section
variable {u : World} {P M : Nat} {v0 v1 : Value} {lo hi md : Int} {st : JSt}
set_option maxHeartbeats 1000000 in
theorem jput0_c (h : JIs u P M v0 v1 lo hi md st) (k t q m : Int) :
    Calls Tryz.prog 87 #[.pointer (some ⟨P, 0, none⟩), .int .i64 0, .agg #[.int .i64 k, .int .i64 t, .int .i64 q], .int .i64 m] u fun e u' => e = .returned (errV (addE st.a ⟨⟨k, t, q⟩, m⟩)) ∧ JUp u u' P M (JFoot P M v0 v1) lo hi md (putJ 0 ⟨⟨k, t, q⟩, m⟩ st) := by
  have hx0 : Ext u (u.alloc (.cells #[.int .i64 k, .int .i64 t, .int .i64 q] 56)) := (ExtM.refl u).alloc _
  have b0 : (u.alloc (.cells #[.int .i64 k, .int .i64 t, .int .i64 q] 56)).cell? ⟨u.heap.size, 0, none⟩ = some (.int .i64 k) := by go_simp
  have b1 : (u.alloc (.cells #[.int .i64 k, .int .i64 t, .int .i64 q] 56)).cell? ⟨u.heap.size, 1, none⟩ = some (.int .i64 t) := by go_simp
  have b2 : (u.alloc (.cells #[.int .i64 k, .int .i64 t, .int .i64 q] 56)).cell? ⟨u.heap.size, 2, none⟩ = some (.int .i64 q) := by go_simp
  have lB : u.heap.size < (u.alloc (.cells #[.int .i64 k, .int .i64 t, .int .i64 q] 56)).heap.size := by simp
  have hne : P ≠ u.heap.size := by have := h.lt; omega
  have nb : v0.ownBlock ≠ some u.heap.size := fun e => by have := h.foot _ (.inr (.inr (.inl e))); omega
  have h1 := h.ext hx0
  go_enter Tryz.func87, Tryz.ntmps87
  go_upto_region 3 with fail
  generalize u.alloc (.cells #[.int .i64 k, .int .i64 t, .int .i64 q] 56) = W at *
  refine Plan.begin (Plan.ExtK u.heap.size) 9 rfl (by kernel_rfl) ?_
  refine Plan.left_q 0 (by rfl) (by kernel_rfl) ?_; go_big_quiet_step (fail); refine wpQuiet_nil ?_
  refine Plan.left_q 1 (by rfl) (by kernel_rfl) ?_; go_big_quiet_step (fail); refine wpQuiet_nil ?_
  refine Plan.left_q 2 (by rfl) (by kernel_rfl) ?_; go_big_quiet_step (fail); refine wpQuiet_nil ?_
  refine Plan.left_q 3 (by rfl) (by kernel_rfl) ?_; go_big_quiet_step (fail); refine wpQuiet_nil ?_
  refine Plan.left_q 4 (by rfl) (by kernel_rfl) ?_; go_big_quiet_step (fail); refine wpQuiet_nil ?_
  refine Plan.left_q 5 (by rfl) (by kernel_rfl) ?_; go_big_quiet_step (fail); refine wpQuiet_nil ?_
  refine Plan.left_q 6 (by rfl) (by kernel_rfl) ?_; go_big_quiet_step (fail); refine wpQuiet_nil ?_
  refine Plan.left_one 7 (by kernel_rfl) (by rfl) (Plan.plain rfl fun K hK => ?_)
  go_wp2_with (fail)
  refine (addK_c u.heap.size P 3 v0 st.a ⟨⟨k, t, q⟩, m⟩ _ (h1.s0.ext (ExtM.refl _).drew) nb hne).mono ?_
  rintro e w9 ⟨rfl, h9, hu⟩
  have H9 := ExtK.trans _ _ _ (ExtK.refl _).drew h9
  obtain ⟨hc9, hf9, -⟩ := ExtK.rules H9
  have hs9_0 : u.heap.size < w9.heap.size := by have := H9.size; (try simp at this); omega
  go_wp2_with (fail)
  refine hK _ _ h9 ?_
  clear hK K
  refine Plan.left_q 8 (by rfl) (by kernel_rfl) ?_; go_big_quiet_step (fail); refine wpQuiet_nil ?_
  refine Plan.left_done (by kernel_rfl) ?_
  go_wp2_with fail
  go_ret
  exact ⟨rfl, JUp.before (hx0.drew) ((h1.ext (ExtM.refl _).drew).up0 hu)⟩
set_option maxHeartbeats 1000000 in
theorem jput1_c (h : JIs u P M v0 v1 lo hi md st) (k t q m : Int) :
    Calls Tryz.prog 87 #[.pointer (some ⟨P, 0, none⟩), .int .i64 1, .agg #[.int .i64 k, .int .i64 t, .int .i64 q], .int .i64 m] u fun e u' => e = .returned (errV (addE st.b ⟨⟨k, t, q⟩, m⟩)) ∧ JUp u u' P M (JFoot P M v0 v1) lo hi md (putJ 1 ⟨⟨k, t, q⟩, m⟩ st) := by
  have hx0 : Ext u (u.alloc (.cells #[.int .i64 k, .int .i64 t, .int .i64 q] 56)) := (ExtM.refl u).alloc _
  have b0 : (u.alloc (.cells #[.int .i64 k, .int .i64 t, .int .i64 q] 56)).cell? ⟨u.heap.size, 0, none⟩ = some (.int .i64 k) := by go_simp
  have b1 : (u.alloc (.cells #[.int .i64 k, .int .i64 t, .int .i64 q] 56)).cell? ⟨u.heap.size, 1, none⟩ = some (.int .i64 t) := by go_simp
  have b2 : (u.alloc (.cells #[.int .i64 k, .int .i64 t, .int .i64 q] 56)).cell? ⟨u.heap.size, 2, none⟩ = some (.int .i64 q) := by go_simp
  have lB : u.heap.size < (u.alloc (.cells #[.int .i64 k, .int .i64 t, .int .i64 q] 56)).heap.size := by simp
  have hne : P ≠ u.heap.size := by have := h.lt; omega
  have nb : v1.ownBlock ≠ some u.heap.size := fun e => by have := h.foot _ (.inr (.inr (.inr e))); omega
  have h1 := h.ext hx0
  go_enter Tryz.func87, Tryz.ntmps87
  go_upto_region 3 with fail
  generalize u.alloc (.cells #[.int .i64 k, .int .i64 t, .int .i64 q] 56) = W at *
  refine Plan.begin (Plan.ExtK u.heap.size) 9 rfl (by kernel_rfl) ?_
  refine Plan.left_q 0 (by rfl) (by kernel_rfl) ?_; go_big_quiet_step (fail); refine wpQuiet_nil ?_
  refine Plan.left_q 1 (by rfl) (by kernel_rfl) ?_; go_big_quiet_step (fail); refine wpQuiet_nil ?_
  refine Plan.left_q 2 (by rfl) (by kernel_rfl) ?_; go_big_quiet_step (fail); refine wpQuiet_nil ?_
  refine Plan.left_q 3 (by rfl) (by kernel_rfl) ?_; go_big_quiet_step (fail); refine wpQuiet_nil ?_
  refine Plan.left_q 4 (by rfl) (by kernel_rfl) ?_; go_big_quiet_step (fail); refine wpQuiet_nil ?_
  refine Plan.left_q 5 (by rfl) (by kernel_rfl) ?_; go_big_quiet_step (fail); refine wpQuiet_nil ?_
  refine Plan.left_q 6 (by rfl) (by kernel_rfl) ?_; go_big_quiet_step (fail); refine wpQuiet_nil ?_
  refine Plan.left_one 7 (by kernel_rfl) (by rfl) (Plan.plain rfl fun K hK => ?_)
  go_wp2_with (fail)
  refine (addK_c u.heap.size P 4 v1 st.b ⟨⟨k, t, q⟩, m⟩ _ (h1.s1.ext (ExtM.refl _).drew) nb hne).mono ?_
  rintro e w9 ⟨rfl, h9, hu⟩
  have H9 := ExtK.trans _ _ _ (ExtK.refl _).drew h9
  obtain ⟨hc9, hf9, -⟩ := ExtK.rules H9
  have hs9_0 : u.heap.size < w9.heap.size := by have := H9.size; (try simp at this); omega
  go_wp2_with (fail)
  refine hK _ _ h9 ?_
  clear hK K
  refine Plan.left_q 8 (by rfl) (by kernel_rfl) ?_; go_big_quiet_step (fail); refine wpQuiet_nil ?_
  refine Plan.left_done (by kernel_rfl) ?_
  go_wp2_with fail
  go_ret
  exact ⟨rfl, JUp.before (hx0.drew) ((h1.ext (ExtM.refl _).drew).up1 hu)⟩
set_option maxHeartbeats 1000000 in
theorem jmove0_c (h : JIs u P M v0 v1 lo hi md st) (hp : PlanOk lo hi) (t : Int) (hl : st.b.length < 1000000) :
    Calls Tryz.prog 47 #[.pointer (some ⟨P, 0, none⟩), .int .i64 0, .int .i64 t] u fun e u' => e = .returned (errV (moveI 0 t st.x st.y)) ∧ JUp u u' P M (JFoot P M v0 v1) lo hi md (if moveI 0 t st.x st.y = 0 then moveJ lo hi 0 t st else st) := by
  have c5 := h.c5
  by_cases hE : moveI 0 t st.x st.y = 0
  · rw [if_pos hE, hE]
    have ht := moveI_range hE
    obtain ⟨p1, p2, p3, p4⟩ := hp
    have hwr : IntKind.i64.wrap (t + lo) = t + lo := by rw [IntKind.wrap_i64]; omega
    obtain ⟨h1, hx1⟩ := h.mark 0 (by omega) t
    have lM : M < (u.setCell ⟨M, 0, none⟩ (.int .i64 t)).heap.size := by rw [World.size_setCell]; exact h.mks.lt
    have lP : P < (u.setCell ⟨M, 0, none⟩ (.int .i64 t)).heap.size := by rw [World.size_setCell]; exact h.lt
    have c0 := h1.c0
    go_enter Tryz.func47, Tryz.ntmps47
    go_upto_region 4 with (go_at_call 72; refine (moveOk_c M 0 t st.x st.y _ h.mks hE).mono ?_; rintro e w1 ⟨rfl, rfl⟩)
    simp only [if_true] at *
    generalize u.setCell ⟨M, 0, none⟩ (.int .i64 t) = W at *
    go_wp2_with fail
    refine Plan.begin (Plan.ExtC P) 12 rfl (by kernel_rfl) ?_
    refine Plan.left_q 0 (by rfl) (by kernel_rfl) ?_; go_big_quiet_step (fail); refine wpQuiet_nil ?_
    refine Plan.left_q 1 (by rfl) (by kernel_rfl) ?_; go_big_quiet_step (fail); refine wpQuiet_nil ?_
    refine Plan.left_q 2 (by rfl) (by kernel_rfl) ?_; go_big_quiet_step (fail); refine wpQuiet_nil ?_
    refine Plan.left_q 3 (by rfl) (by kernel_rfl) ?_; go_big_quiet_step (fail); refine wpQuiet_nil ?_
    refine Plan.left_q 4 (by rfl) (by kernel_rfl) ?_; go_big_quiet_step (fail); refine wpQuiet_nil ?_
    refine Plan.left_q 5 (by rfl) (by kernel_rfl) ?_; go_big_quiet_step (fail); refine wpQuiet_nil ?_
    refine Plan.left_q 6 (by rfl) (by kernel_rfl) ?_; go_big_quiet_step (fail); refine wpQuiet_nil ?_
    refine Plan.left_q 7 (by rfl) (by kernel_rfl) ?_; go_big_quiet_step (fail); refine wpQuiet_nil ?_
    refine Plan.left_q 8 (by rfl) (by kernel_rfl) ?_; go_big_quiet_step (fail); refine wpQuiet_nil ?_
    refine Plan.left_q 9 (by rfl) (by kernel_rfl) ?_; go_big_quiet_step (fail); refine wpQuiet_nil ?_
    refine Plan.left_q 10 (by rfl) (by kernel_rfl) ?_; go_big_quiet_step (fail); refine wpQuiet_nil ?_
    refine Plan.left_one 11 (by kernel_rfl) (by rfl) (Plan.plain rfl fun K hK => ?_)
    go_wp2_with (fail)
    refine (drop_c P 4 v1 st.b (t + lo) _ (h1.s1.ext (ExtM.refl _).drew) hl).mono ?_
    rintro e w2 ⟨rfl, hu⟩
    go_wp2_with (fail)
    refine hK _ _ (fun o ho => hu.cell o (by omega)) ?_
    clear hK K
    refine Plan.left_done (by kernel_rfl) ?_
    go_wp2_with fail
    go_ret
    have e : moveJ lo hi 0 t st = { st with x := t, b := dropL (t + lo) st.b } := by unfold moveJ; rw [if_pos rfl, move0_drop]
    rw [e]
    exact ⟨rfl, JUp.trans (_st1 := st) ((hx1.mono (fun k _ hk => .inr (.inl hk)) : ExtM (JFoot P M v0 v1) u W).drew) (fun k hk => .inl hk) ((h1.ext (ExtM.refl _).drew).up1 hu)⟩
  · rw [if_neg hE]
    exact jmoveBad_c h 0 t _ rfl hE
set_option maxHeartbeats 1000000 in
theorem jmove1_c (h : JIs u P M v0 v1 lo hi md st) (hp : PlanOk lo hi) (t : Int) (hl : st.a.length < 1000000) :
    Calls Tryz.prog 47 #[.pointer (some ⟨P, 0, none⟩), .int .i64 1, .int .i64 t] u fun e u' => e = .returned (errV (moveI 1 t st.x st.y)) ∧ JUp u u' P M (JFoot P M v0 v1) lo hi md (if moveI 1 t st.x st.y = 0 then moveJ lo hi 1 t st else st) := by
  have c5 := h.c5
  by_cases hE : moveI 1 t st.x st.y = 0
  · rw [if_pos hE, hE]
    have ht := moveI_range hE
    obtain ⟨p1, p2, p3, p4⟩ := hp
    have hwr : IntKind.i64.wrap (t - hi) = t - hi := by rw [IntKind.wrap_i64]; omega
    obtain ⟨h1, hx1⟩ := h.mark 1 (by omega) t
    have lM : M < (u.setCell ⟨M, 1, none⟩ (.int .i64 t)).heap.size := by rw [World.size_setCell]; exact h.mks.lt
    have lP : P < (u.setCell ⟨M, 1, none⟩ (.int .i64 t)).heap.size := by rw [World.size_setCell]; exact h.lt
    have c1 := h1.c1
    go_enter Tryz.func47, Tryz.ntmps47
    go_upto_region 4 with (go_at_call 72; refine (moveOk_c M 1 t st.x st.y _ h.mks hE).mono ?_; rintro e w1 ⟨rfl, rfl⟩)
    simp only [if_neg (show ¬ (1 : Nat) = 0 by decide)] at *
    generalize u.setCell ⟨M, 1, none⟩ (.int .i64 t) = W at *
    go_wp2_with fail
    refine Plan.begin (Plan.ExtC P) 12 rfl (by kernel_rfl) ?_
    refine Plan.left_q 0 (by rfl) (by kernel_rfl) ?_; go_big_quiet_step (fail); refine wpQuiet_nil ?_
    refine Plan.left_q 1 (by rfl) (by kernel_rfl) ?_; go_big_quiet_step (fail); refine wpQuiet_nil ?_
    refine Plan.left_q 2 (by rfl) (by kernel_rfl) ?_; go_big_quiet_step (fail); refine wpQuiet_nil ?_
    refine Plan.left_q 3 (by rfl) (by kernel_rfl) ?_; go_big_quiet_step (fail); refine wpQuiet_nil ?_
    refine Plan.left_q 4 (by rfl) (by kernel_rfl) ?_; go_big_quiet_step (fail); refine wpQuiet_nil ?_
    refine Plan.left_q 5 (by rfl) (by kernel_rfl) ?_; go_big_quiet_step (fail); refine wpQuiet_nil ?_
    refine Plan.left_q 6 (by rfl) (by kernel_rfl) ?_; go_big_quiet_step (fail); refine wpQuiet_nil ?_
    refine Plan.left_q 7 (by rfl) (by kernel_rfl) ?_; go_big_quiet_step (fail); refine wpQuiet_nil ?_
    refine Plan.left_q 8 (by rfl) (by kernel_rfl) ?_; go_big_quiet_step (fail); refine wpQuiet_nil ?_
    refine Plan.left_q 9 (by rfl) (by kernel_rfl) ?_; go_big_quiet_step (fail); refine wpQuiet_nil ?_
    refine Plan.left_q 10 (by rfl) (by kernel_rfl) ?_; go_big_quiet_step (fail); refine wpQuiet_nil ?_
    refine Plan.left_one 11 (by kernel_rfl) (by rfl) (Plan.plain rfl fun K hK => ?_)
    go_wp2_with (fail)
    refine (drop_c P 3 v0 st.a (t - hi) _ (h1.s0.ext (ExtM.refl _).drew) hl).mono ?_
    rintro e w2 ⟨rfl, hu⟩
    go_wp2_with (fail)
    refine hK _ _ (fun o ho => hu.cell o (by omega)) ?_
    clear hK K
    refine Plan.left_done (by kernel_rfl) ?_
    go_wp2_with fail
    go_ret
    have e : moveJ lo hi 1 t st = { st with y := t, a := dropL (t - hi) st.a } := by unfold moveJ; rw [if_neg (show ¬ (1 : Nat) = 0 by decide), move1_drop]
    rw [e]
    exact ⟨rfl, JUp.trans (_st1 := st) ((hx1.mono (fun k _ hk => .inr (.inl hk)) : ExtM (JFoot P M v0 v1) u W).drew) (fun k hk => .inl hk) ((h1.ext (ExtM.refl _).drew).up0 hu)⟩
  · rw [if_neg hE]
    exact jmoveBad_c h 1 t _ rfl hE
end
end Go.Proofs.YtmcgnnmffeojpaaGreatDoor
namespace Go.Plan
/-- The blocks A, B, C are what they were. -/
def Ext3 (A B C : Nat) (w w' : World) : Prop := ExtM (fun k => ¬ (k = A ∨ k = B ∨ k = C)) w w'
theorem Ext3.refl {A B C : Nat} (w : World) : Ext3 A B C w w := ExtM.refl w
theorem Ext3.trans {A B C : Nat} (a b c : World) (h : Ext3 A B C a b) (k : Ext3 A B C b c) : Ext3 A B C a c := ExtM.trans _ _ _ h k
instance {A B C : Nat} : Std.Refl (Ext3 A B C) := ⟨Ext3.refl⟩
instance {A B C : Nat} : Trans (Ext3 A B C) (Ext3 A B C) (Ext3 A B C) := ⟨fun h k => Ext3.trans _ _ _ h k⟩
theorem Ext3.of_M {M : Nat → Prop} {A B C : Nat} {w w' : World} (hA : ¬ M A) (hB : ¬ M B) (hC : ¬ M C) (h : ExtM M w w') : Ext3 A B C w w' := ExtM.mono h (fun _ _ hk e => by rcases e with e | e | e <;> subst e <;> contradiction)
theorem Ext3.drew {A B C : Nat} {a w : World} (h : Ext3 A B C a w) : Ext3 A B C a w.drew := ExtM.drew h
theorem Ext3.size {A B C : Nat} {w w' : World} (h : Ext3 A B C w w') : w.heap.size ≤ w'.heap.size := ExtM.size h
theorem Ext3.cells {A B C : Nat} {w w' : World} (h : Ext3 A B C w w') (b o : Nat) (hb : b = A ∨ b = B ∨ b = C) (hl : b < w.heap.size) : w'.cell? ⟨b, o, none⟩ = w.cell? ⟨b, o, none⟩ ∧ w'.frozen? ⟨b, o, none⟩ = w.frozen? ⟨b, o, none⟩ :=
  ⟨ExtM.cell (p := ⟨b, o, none⟩) h hl (fun e => e hb), ExtM.frozen (p := ⟨b, o, none⟩) h hl (fun e => e hb)⟩
theorem Ext3.rules {A B C : Nat} {w w' : World} (_ : Ext3 A B C w w') : True ∧ True ∧ True := ⟨trivial, trivial, trivial⟩
@[go_sem] theorem cell?_ext3a (A B C : Nat) (w p : World) (o : Nat) (hb : A < w.heap.size) : (Plan.ext (Ext3 A B C) w p).cell? ⟨A, o, none⟩ = w.cell? ⟨A, o, none⟩ := ((ext_E Ext3.refl w p).cells A o (.inl rfl) hb).1
@[go_sem] theorem cell?_ext3b (A B C : Nat) (w p : World) (o : Nat) (hb : B < w.heap.size) : (Plan.ext (Ext3 A B C) w p).cell? ⟨B, o, none⟩ = w.cell? ⟨B, o, none⟩ := ((ext_E Ext3.refl w p).cells B o (.inr (.inl rfl)) hb).1
@[go_sem] theorem cell?_ext3c (A B C : Nat) (w p : World) (o : Nat) (hb : C < w.heap.size) : (Plan.ext (Ext3 A B C) w p).cell? ⟨C, o, none⟩ = w.cell? ⟨C, o, none⟩ := ((ext_E Ext3.refl w p).cells C o (.inr (.inr rfl)) hb).1
@[go_sem] theorem cell?_ext3a_drew (A B C : Nat) (w p : World) (o : Nat) (hb : A < w.heap.size) : (Plan.ext (Ext3 A B C) w.drew p).cell? ⟨A, o, none⟩ = w.cell? ⟨A, o, none⟩ := cell?_ext3a A B C w.drew p o hb
@[go_sem] theorem cell?_ext3b_drew (A B C : Nat) (w p : World) (o : Nat) (hb : B < w.heap.size) : (Plan.ext (Ext3 A B C) w.drew p).cell? ⟨B, o, none⟩ = w.cell? ⟨B, o, none⟩ := cell?_ext3b A B C w.drew p o hb
@[go_sem] theorem cell?_ext3c_drew (A B C : Nat) (w p : World) (o : Nat) (hb : C < w.heap.size) : (Plan.ext (Ext3 A B C) w.drew p).cell? ⟨C, o, none⟩ = w.cell? ⟨C, o, none⟩ := cell?_ext3c A B C w.drew p o hb
end Go.Plan
namespace Go.Proofs.YtmcgnnmffeojpaaGreatDoor
open Go.RowKit Go.Plan

theorem lup_set {u w : World} {L E : Nat} {Bs : Nat → Prop} {lo hi md : Int} {st : JSt} {V : List Out} {f0 f1 : Int} (h : EUp u w E Bs lo hi md st V V f0 f1) (hl : LdIs w L (some ⟨E, 0, none⟩) false) (hn : ¬ Bs L) (hL : L < u.heap.size) : LUp u (w.setCell ⟨L, 1, none⟩ (.bool false)) L E Bs lo hi md st V f0 f1 := by
  obtain ⟨h1, Bs', h3, h4⟩ := h
  have hs : ExtM (fun k => k = L) w (w.setCell ⟨L, 1, none⟩ (.bool false)) := ExtM.setCell (M := fun k => k = L) (p := ⟨L, 1, none⟩) (ExtM.refl _) (.inr rfl) _
  refine ⟨(h1.mono (fun _ _ h => .inr h)).fresh' hs (fun _ _ h => .inl h), hl.set false, Bs', h3.keep hs (fun k hk e => ?_), h4⟩
  subst e
  rcases h4 _ hk with e | e
  · exact hn e
  · omega
theorem addL_ok {hs : List Hd} {x : Hd} (h : ∀ y ∈ hs, y.r.ok) (he : addE hs x = 0) : ∀ y ∈ addL hs x, y.r.ok := by
  have hx : x.r.ok := by
    unfold addE at he
    split at he
    · cases he
    · rename_i hg
      have hg1 : goodR x.r := by
        unfold goodR
        simp only [Bool.and_eq_false_imp, Classical.not_imp, Bool.not_eq_false] at hg
        exact hg.1
      have := hg1.i64
      refine ⟨?_, ?_, ?_⟩ <;> unfold I64 <;> omega
  intro y hy
  unfold addL at hy
  rw [if_pos he] at hy
  unfold addH insH at hy
  simp only [List.mem_append, List.mem_cons] at hy
  rcases hy with hy | rfl | hy
  · exact h y (List.mem_of_mem_take hy)
  · exact hx
  · exact h y (List.mem_of_mem_drop hy)
theorem en_put {u : World} {E : Nat} {Bs : Nat → Prop} {lo hi md : Int} {st : JSt} {V W : List Out} {f0 f1 : Int} (h : EAt u E Bs lo hi md st V W f0 f1) (s k t q m : Int) (hp : putE2 s ⟨⟨k, t, q⟩, m⟩ st = 0) :
    ∃ P, u.cell? ⟨E, 3, none⟩ = some (.pointer (some ⟨P, 0, none⟩)) ∧ ∀ U, Ext u U → Calls Tryz.prog 87 #[.pointer (some ⟨P, 0, none⟩), .int .i64 s, .agg #[.int .i64 k, .int .i64 t, .int .i64 q], .int .i64 m] U fun e U' => e = .returned .nilIface ∧ ExtM (fun k => Bs k ∧ k ≠ E) U U' ∧ EUp U U' E Bs lo hi md (putJ s.toNat ⟨⟨k, t, q⟩, m⟩ st) V W f0 f1 := by
  obtain ⟨P, M, v0, v1, D, DG, ents, hI, rfl⟩ := h
  refine ⟨P, hI.c3, fun U hU => ?_⟩
  have hIU := hI.ext hU
  have hnE : ¬ JFoot P M v0 v1 E := fun e => (hI.sJ E e).1 (.inl rfl)
  unfold putE2 at hp
  split at hp
  · rename_i h0
    subst h0
    refine (jput0_c hIU.join k t q m).mono ?_
    rintro e U' ⟨rfl, hj⟩
    rw [hp]
    exact ⟨rfl, hj.1.mono (fun k _ hk => ⟨.inl hk, fun e => hnE (e ▸ hk)⟩), hIU.upJ hj (addL_ok hI.okA hp) hI.okB⟩
  · split at hp
    · rename_i h1
      subst h1
      refine (jput1_c hIU.join k t q m).mono ?_
      rintro e U' ⟨rfl, hj⟩
      rw [hp]
      exact ⟨rfl, hj.1.mono (fun k _ hk => ⟨.inl hk, fun e => hnE (e ▸ hk)⟩), hIU.upJ hj hI.okA (addL_ok hI.okB hp)⟩
    · cases hp
set_option maxRecDepth 100000 in
set_option maxHeartbeats 4000000 in
theorem lineRow_c {u : World} {L E : Nat} {Bs : Nat → Prop} {lo hi md : Int} {st : JSt} {V : List Out} {f0 f1 : Int} (hL : LdIs u L (some ⟨E, 0, none⟩) false) (hE : EAt u E Bs lo hi md st V V f0 f1) (hnB : ¬ Bs L) (i : Int) (hi3 : 3 ≤ i) (s k t q m : Int) (a : Option Addr) (cap : Nat) (hnum : NumsIn u L a [s, k, t, q, m]) (hgB : ∀ g, a = some ⟨g, 0, none⟩ → ¬ Bs g) (hp : putE2 s ⟨⟨k, t, q⟩, m⟩ st = 0) :
    Calls Tryz.prog 53 #[.pointer (some ⟨L, 0, none⟩), .int .i64 i, .string ⟨#[114, 111, 119]⟩, .slice a 5 cap] u fun e u' => e = .returned (.tuple #[]) ∧ LUp u u' L E Bs lo hi md (putJ s.toNat ⟨⟨k, t, q⟩, m⟩ st) V f0 f1 := by
  obtain ⟨g, rfl, hgL, hgu, hgc⟩ := hnum.cells (by simp)
  have hgB := hgB g rfl
  have g0 := hgc 0 s rfl
  have g1 := hgc 1 k rfl
  have g2 := hgc 2 t rfl
  have g3 := hgc 3 q rfl
  have g4 := hgc 4 m rfl
  clear hgc hnum
  obtain ⟨w1, w2, w3, w4, r1, r2, r3, r4, hx4, hlk⟩ := want_map u
  have hl := hlk sRow (by decide)
  rw [want_row] at hl
  simp only [Option.getD_some, Option.isSome_some] at hl
  unfold sRow at hl r4
  unfold sPlan at r1
  unfold sFed at r2
  unfold sMarks at r3
  have hmm := @run_makeMap Tryz.prog
  have i0 : (i == 0) = false := by simp; omega
  have i1 : (i == 1) = false := by simp; omega
  have i2 : (i == 2) = false := by simp; omega
  have HI := Lib.hid hi3
  have HLK := Lib.hid hlk
  have HX := Lib.hid hx4
  have HL := Lib.hid hL
  have HE := Lib.hid hE
  have HP := Lib.hid hp
  clear hi3 hlk hx4 hL hE hp
  go_enter Tryz.func53, Tryz.ntmps53
  go_upto_region 20 with fail
  have hl4 := HL.out.keep HX.out id
  have hat := HE.out.ext HX.out
  obtain ⟨P, c3, hput⟩ := en_put hat s k t q m HP.out
  have c0 := hl4.c0
  have lE := hat.lt _ hat.mine
  have lL := hl4.lt
  have hs4 := HX.out.size
  have k4 := fun o => HX.out.cell (p := ⟨g, o, none⟩) hgu id
  have y0 := (k4 _).trans g0
  have y1 := (k4 _).trans g1
  have y2 := (k4 _).trans g2
  have y3 := (k4 _).trans g3
  have y4 := (k4 _).trans g4
  have lg : g < w4.heap.size := by omega
  clear k4 g0 g1 g2 g3 g4 r1 r2 r3 r4 hl hmm
  have hnL3 : ¬ (Bs L ∧ L ≠ E) := fun e => hnB e.1
  have hnE3 : ¬ (Bs E ∧ E ≠ E) := fun e => e.2 rfl
  have hnG3 : ¬ (Bs g ∧ g ≠ E) := fun e => hgB e.1
  refine Plan.begin (Plan.Ext3 L E g) 25 rfl (by kernel_rfl) ?_
  refine Plan.left_q 0 (by rfl) (by kernel_rfl) ?_; go_big_quiet_step (fail); refine wpQuiet_nil ?_
  refine Plan.left_q 1 (by rfl) (by kernel_rfl) ?_; go_big_quiet_step (fail); refine wpQuiet_nil ?_
  refine Plan.left_q 2 (by rfl) (by kernel_rfl) ?_; go_big_quiet_step (fail); refine wpQuiet_nil ?_
  refine Plan.left_q 3 (by rfl) (by kernel_rfl) ?_; go_big_quiet_step (fail); refine wpQuiet_nil ?_
  refine Plan.left_q 4 (by rfl) (by kernel_rfl) ?_; go_big_quiet_step (fail); refine wpQuiet_nil ?_
  refine Plan.left_q 5 (by rfl) (by kernel_rfl) ?_; go_big_quiet_step (fail); refine wpQuiet_nil ?_
  refine Plan.left_q 6 (by rfl) (by kernel_rfl) ?_; go_big_quiet_step (fail); refine wpQuiet_nil ?_
  refine Plan.left_q 7 (by rfl) (by kernel_rfl) ?_; go_big_quiet_step (fail); refine wpQuiet_nil ?_
  refine Plan.left_q 8 (by rfl) (by kernel_rfl) ?_; go_big_quiet_step (fail); refine wpQuiet_nil ?_
  refine Plan.left_q 9 (by rfl) (by kernel_rfl) ?_; go_big_quiet_step (fail); refine wpQuiet_nil ?_
  refine Plan.left_q 10 (by rfl) (by kernel_rfl) ?_; go_big_quiet_step (fail); refine wpQuiet_nil ?_
  refine Plan.left_q 11 (by rfl) (by kernel_rfl) ?_; go_big_quiet_step (fail); refine wpQuiet_nil ?_
  refine Plan.left_q 12 (by rfl) (by kernel_rfl) ?_; go_big_quiet_step (fail); refine wpQuiet_nil ?_
  refine Plan.left_q 13 (by rfl) (by kernel_rfl) ?_; go_big_quiet_step (fail); refine wpQuiet_nil ?_
  refine Plan.left_q 14 (by rfl) (by kernel_rfl) ?_; go_big_quiet_step (fail); refine wpQuiet_nil ?_
  refine Plan.left_q 15 (by rfl) (by kernel_rfl) ?_; go_big_quiet_step (fail); refine wpQuiet_nil ?_
  refine Plan.left_q 16 (by rfl) (by kernel_rfl) ?_; go_big_quiet_step (fail); refine wpQuiet_nil ?_
  refine Plan.left_q 17 (by rfl) (by kernel_rfl) ?_; go_big_quiet_step (fail); refine wpQuiet_nil ?_
  refine Plan.left_q 18 (by rfl) (by kernel_rfl) ?_; go_big_quiet_step (fail); refine wpQuiet_nil ?_
  refine Plan.left_q 19 (by rfl) (by kernel_rfl) ?_; go_big_quiet_step (fail); refine wpQuiet_nil ?_
  refine Plan.left_q 20 (by rfl) (by kernel_rfl) ?_; go_big_quiet_step (fail); refine wpQuiet_nil ?_
  refine Plan.left_q 21 (by rfl) (by kernel_rfl) ?_; go_big_quiet_step (fail); refine wpQuiet_nil ?_
  refine Plan.left_q 22 (by rfl) (by kernel_rfl) ?_; go_big_quiet_step (fail); refine wpQuiet_nil ?_
  refine Plan.left_one 23 (by kernel_rfl) (by rfl) (Plan.plain rfl fun K hK => ?_)
  go_wp2_with (fail)
  refine (hput _ (ExtM.refl _).drew).mono ?_
  rintro e w5 ⟨rfl, h5, hup⟩
  have H5 := Ext3.trans _ _ _ (Ext3.refl _).drew (Ext3.of_M hnL3 hnE3 hnG3 h5)
  obtain ⟨hc5, hf5, -⟩ := Ext3.rules H5
  have hs5_0 : L < w5.heap.size := by have := H5.size; (try simp at this); omega
  have hs5_1 : E < w5.heap.size := by have := H5.size; (try simp at this); omega
  have hs5_2 : g < w5.heap.size := by have := H5.size; (try simp at this); omega
  go_wp2_with (fail)
  refine hK _ _ (Ext3.of_M hnL3 hnE3 hnG3 h5) ?_
  clear hK K
  refine Plan.left_q 24 (by rfl) (by kernel_rfl) ?_; go_big_quiet_step (fail); refine wpQuiet_nil ?_
  refine Plan.left_done (by kernel_rfl) ?_
  have hlu := HL.out.lt
  have hup1 := EUp.before (ExtM.trans _ _ _ HX.out ((ExtM.refl w4).drew)) hup
  have hl5 := hl4.keep H5 (fun e => e (.inl rfl))
  have c1 := hl5.c1
  have cf := hl5.f 1
  have lL5 := hl5.lt
  have hfin := lup_set hup1 hl5 hnB hlu
  clear hup hup1 hl5 h5 H5 hl4 hat hput c3 c0 lE lL hs4 y0 y1 y2 y3 y4 lg hnL3 hnE3 hnG3
  go_wp2_with fail
  go_end0
  exact ⟨rfl, hfin⟩
end Go.Proofs.YtmcgnnmffeojpaaGreatDoor
