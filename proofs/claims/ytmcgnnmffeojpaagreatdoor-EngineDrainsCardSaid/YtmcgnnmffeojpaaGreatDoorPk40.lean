/- Loading a line: all five. -/
import Derived.Test.YtmcgnnmffeojpaaGreatDoorPk39
import Derived.Deep.DeepCutAuto
import Derived.Deep.CutBlock
/- Loading a line of what came of rows. -/
namespace Go.Proofs.YtmcgnnmffeojpaaGreatDoor
open Go.RowKit Go.Plan

theorem NumsIn.ext {w w' : World} {b : Nat} {a : Option Addr} {ns : List Int} (h : NumsIn w b a ns) (hx : Ext w w') : NumsIn w' b a ns := by
  rcases h with h | ⟨g, c, t, fz, h1, h2, h3, h4, h5⟩
  · exact .inl h
  · exact .inr ⟨g, c, t, fz, h1, h2, h3, (hx.block g (Array.getElem?_eq_some_iff.1 h4).1 id).trans h4, h5⟩
theorem lup_set2 {u w0 w : World} {L E : Nat} {Bs : Nat → Prop} {lo hi md : Int} {st : JSt} {V : List Out} {f0 f1 : Int} (hx : Ext u w0) (h : LUp w0 w L E Bs lo hi md st V f0 f1) (hn : ¬ Bs L) (hL : L < u.heap.size) : LUp u (w.setCell ⟨L, 1, none⟩ (.bool false)) L E Bs lo hi md st V f0 f1 := by
  obtain ⟨h1, h2, Bs', h3, h4⟩ := h
  have hz := hx.size
  have hs : ExtM (fun k => k = L) w (w.setCell ⟨L, 1, none⟩ (.bool false)) := ExtM.setCell (M := fun k => k = L) (p := ⟨L, 1, none⟩) (ExtM.refl _) (.inr rfl) _
  refine ⟨((hx.mono (fun _ _ h => h.elim)).fresh' h1 (fun _ _ h => h)).fresh' hs (fun _ _ h => .inl h), h2.set false, Bs', h3.keep hs (fun k hk e => ?_), fun k hk => (h4 k hk).imp id (fun q => Nat.le_trans hz q)⟩
  subst e
  rcases h4 _ hk with e | e
  · exact hn e
  · omega
set_option maxRecDepth 100000 in
set_option maxHeartbeats 4000000 in
theorem lineOut_c {u : World} {L E : Nat} {Bs : Nat → Prop} {lo hi md : Int} {st : JSt} {V : List Out} {f0 f1 : Int} (hL : LdIs u L (some ⟨E, 0, none⟩) false) (hE : EAt u E Bs lo hi md st V V f0 f1) (hnB : ¬ Bs L) (i : Int) (hi3 : 3 ≤ i) (n : List Int) (a : Option Addr) (cap : Nat) (hnum : NumsIn u L a n) (hV : V.length < 900000) (x : Out) (hx : outE n = some x) :
    Calls Tryz.prog 53 #[.pointer (some ⟨L, 0, none⟩), .int .i64 i, .string ⟨#[111, 117, 116]⟩, .slice a n.length cap] u fun e u' => e = .returned (.tuple #[]) ∧ LUp u u' L E Bs lo hi md st (x :: V) f0 f1 := by
  obtain ⟨w1, w2, w3, w4, r1, r2, r3, r4, hx4, hlk⟩ := want_map u
  have hl := hlk sOut (by decide)
  rw [want_out] at hl
  simp only [Option.getD_none, Option.isSome_none] at hl
  unfold sOut at hl
  unfold sRow at r4
  unfold sPlan at r1
  unfold sFed at r2
  unfold sMarks at r3
  have hmm := @run_makeMap Tryz.prog
  have i0 : (i == 0) = false := by simp; omega
  have i1 : (i == 1) = false := by simp; omega
  have i2 : (i == 2) = false := by simp; omega
  have hout := out_c (hL.keep hx4 id) (hE.ext hx4) hnB n a cap (hnum.ext hx4) hV x hx
  have hlu := hL.lt
  have HLU := Lib.hid hlu
  have HX := Lib.hid hx4
  clear hi3 hlk hx4 hL hE hnum hx hlu
  go_enter Tryz.func53, Tryz.ntmps53
  go_wp2_with (go_at_call 88; refine hout.mono ?_; rintro e w5 ⟨rfl, hup⟩; refine Hid.out ?_)
  refine Lib.hid ?_
  have hl5 := hup.2.1
  have c1 := hl5.c1
  have cf := hl5.f 1
  have lL5 := hl5.lt
  have hfin := lup_set2 HX.out hup hnB HLU.out
  clear hup hl5 r1 r2 r3 r4 hl hmm hout
  go_wp2_with fail
  go_end0
  exact ⟨rfl, hfin⟩
end Go.Proofs.YtmcgnnmffeojpaaGreatDoor
/- Loading the line of a plan. -/
namespace Go.Proofs.YtmcgnnmffeojpaaGreatDoor
open Go.RowKit Go.Plan

theorem setB (L o : Nat) (v : Value) (w : World) : Plan.ExtB L w (w.setCell ⟨L, o, none⟩ v) := ExtM.setCell (M := fun k => k = L) (p := ⟨L, o, none⟩) (ExtM.refl _) (.inr rfl) _
theorem LdIs.rules {u w : World} {L : Nat} {p : Option Addr} {b : Bool} (h : LdIs u L p b) (hx : Ext u w) : w.cell? ⟨L, 0, none⟩ = some (.pointer p) ∧ w.frozen? ⟨L, 0, none⟩ = false ∧ True := ⟨(h.keep hx id).c0, (h.keep hx id).f 0, trivial⟩
theorem LdIs.setE {u : World} {L : Nat} {p : Option Addr} {b : Bool} (h : LdIs u L p b) (q : Option Addr) : LdIs (u.setCell ⟨L, 0, none⟩ (.pointer q)) L q b := by
  have h0 := h.c0
  have h1 := h.c1
  refine ⟨?_, ?_, fun o => ?_⟩
  · go_simp
  · go_simp
  · have := h.f o
    go_simp
set_option maxRecDepth 100000 in
set_option maxHeartbeats 4000000 in
theorem linePlan_c {u : World} {L : Nat} (hL : LdIs u L none false) (b c d : Int) (a : Option Addr) (cap : Nat) (hnum : NumsIn u L a [b, c, d]) (hc : checkI b c d = 0) :
    Calls Tryz.prog 53 #[.pointer (some ⟨L, 0, none⟩), .int .i64 0, .string ⟨#[112, 108, 97, 110]⟩, .slice a 3 cap] u fun e u' => e = .returned (.tuple #[]) ∧ ∃ E Bs, ExtM (fun k => k = L) u u' ∧ LdIs u' L (some ⟨E, 0, none⟩) false ∧ EAt u' E Bs b c d ⟨[], [], -1099511627777, -1099511627777, 0⟩ [] [] 0 0 ∧ ∀ k, Bs k → u.heap.size ≤ k := by
  obtain ⟨g, rfl, hgL, hgu, hgc⟩ := hnum.cells (by simp)
  have g0 := hgc 0 b rfl
  have g1 := hgc 1 c rfl
  have g2 := hgc 2 d rfl
  clear hgc hnum
  obtain ⟨w1, w2, w3, w4, r1, r2, r3, r4, hx4, hlk⟩ := want_map u
  have hl := hlk sPlan (by decide)
  rw [want_plan] at hl
  simp only [Option.getD_some, Option.isSome_some] at hl
  unfold sRow at r4
  unfold sPlan at r1 hl
  unfold sFed at r2
  unfold sMarks at r3
  have hmm := @run_makeMap Tryz.prog
  have HLK := Lib.hid hlk
  have HX := Lib.hid hx4
  have HL := Lib.hid hL
  have HC := Lib.hid hc
  clear hlk hx4 hL hc
  go_enter Tryz.func53, Tryz.ntmps53
  go_upto_region 7 with fail
  have hl4 := HL.out.keep HX.out id
  have k4 := fun o => HX.out.cell (p := ⟨g, o, none⟩) hgu id
  have y0 := (k4 _).trans g0
  have y1 := (k4 _).trans g1
  have y2 := (k4 _).trans g2
  have lL := hl4.lt
  have lg : g < w4.heap.size := Nat.lt_of_lt_of_le hgu HX.out.size
  clear k4 g0 g1 g2 r1 r2 r3 r4 hl hmm
  have hrul : ∀ {W : World}, Ext w4.drew W → Plan.ExtB L w4 W → W.cell? ⟨L, 0, none⟩ = some (.pointer none) ∧ W.frozen? ⟨L, 0, none⟩ = false ∧ True := fun h _ => hl4.rules (ExtM.trans _ _ _ (ExtM.refl _).drew h)
  refine Plan.begin (Plan.ExtB L) 19 rfl (by kernel_rfl) ?_
  refine Plan.left_q 0 (by rfl) (by kernel_rfl) ?_; go_big_quiet_step (fail); refine wpQuiet_nil ?_
  refine Plan.left_q 1 (by rfl) (by kernel_rfl) ?_; go_big_quiet_step (fail); refine wpQuiet_nil ?_
  refine Plan.left_q 2 (by rfl) (by kernel_rfl) ?_; go_big_quiet_step (fail); refine wpQuiet_nil ?_
  refine Plan.left_q 3 (by rfl) (by kernel_rfl) ?_; go_big_quiet_step (fail); refine wpQuiet_nil ?_
  refine Plan.left_q 4 (by rfl) (by kernel_rfl) ?_; go_big_quiet_step (fail); refine wpQuiet_nil ?_
  refine Plan.left_q 5 (by rfl) (by kernel_rfl) ?_; go_big_quiet_step (fail); refine wpQuiet_nil ?_
  refine Plan.left_q 6 (by rfl) (by kernel_rfl) ?_; go_big_quiet_step (fail); refine wpQuiet_nil ?_
  refine Plan.left_q 7 (by rfl) (by kernel_rfl) ?_; go_big_quiet_step (fail); refine wpQuiet_nil ?_
  refine Plan.left_q 8 (by rfl) (by kernel_rfl) ?_; go_big_quiet_step (fail); refine wpQuiet_nil ?_
  refine Plan.left_q 9 (by rfl) (by kernel_rfl) ?_; go_big_quiet_step (fail); refine wpQuiet_nil ?_
  refine Plan.left_q 10 (by rfl) (by kernel_rfl) ?_; go_big_quiet_step (fail); refine wpQuiet_nil ?_
  refine Plan.left_one 11 (by kernel_rfl) (by rfl) (Plan.plain rfl fun K hK => ?_)
  go_wp2_with (fail)
  refine (en_new b c d _ HC.out).mono ?_
  rintro e w5 ⟨E, Bs, rfl, h5, hnew, hat⟩
  have H5 := (ExtB.trans (B := L)) _ _ _ (ExtB.of_ext (ExtM.refl _).drew) (ExtB.of_ext h5)
  obtain ⟨hc5, hf5, -⟩ := hrul h5 H5
  have hs5_0 : L < w5.heap.size := by have := H5.size; (try simp at this); omega
  have hs5_1 : g < w5.heap.size := by have := H5.size; (try simp at this); omega
  go_wp2_with (fail)
  refine hK _ _ (ExtB.of_ext h5) ?_
  clear hK K
  refine Plan.left_q 12 (by rfl) (by kernel_rfl) ?_; go_big_quiet_step (fail); refine wpQuiet_nil ?_
  refine Plan.left_q 13 (by rfl) (by kernel_rfl) ?_; go_big_quiet_step (fail); refine wpQuiet_nil ?_
  refine Plan.left_q 14 (by rfl) (by kernel_rfl) ?_; go_big_quiet_step (fail); refine wpQuiet_nil ?_
  refine Plan.left_q 15 (by rfl) (by kernel_rfl) ?_; go_big_quiet_step (fail); refine wpQuiet_nil ?_
  refine Plan.left_q 16 (by rfl) (by kernel_rfl) ?_; go_big_quiet_step (fail); refine wpQuiet_nil ?_
  refine Plan.left_one 17 (by kernel_rfl) (by rfl) (Plan.plain rfl fun K hK => ?_)
  go_wp2_with (fail)
  refine hK _ _ (setB L 0 _ _) ?_
  clear hK K
  refine Plan.left_q 18 (by rfl) (by kernel_rfl) ?_; go_big_quiet_step (fail); refine wpQuiet_nil ?_
  refine Plan.left_done (by kernel_rfl) ?_
  have hx5 : Ext w4 w5 := ExtM.trans _ _ _ (ExtM.refl w4).drew h5
  have hl5 := (hl4.keep hx5 id).setE (some ⟨E, 0, none⟩)
  have hnL : ∀ k, Bs k → u.heap.size ≤ k := fun k hk => Nat.le_trans HX.out.size (hnew k hk)
  have hLu := HL.out.lt
  have hnB : ¬ Bs L := fun e => by have := hnL L e; omega
  have hS1 : ExtM (fun k => k = L) w5 (w5.setCell ⟨L, 0, none⟩ (.pointer (some ⟨E, 0, none⟩))) := setB L 0 _ _
  have hup : LUp w5 (w5.setCell ⟨L, 0, none⟩ (.pointer (some ⟨E, 0, none⟩))) L E Bs b c d ⟨[], [], -1099511627777, -1099511627777, 0⟩ [] 0 0 :=
    ⟨hS1.mono (fun _ _ h => .inl h), hl5, Bs, hat.keep hS1 (fun k hk e => hnB (e ▸ hk)), fun k hk => .inl hk⟩
  have hfin := lup_set2 (u := u) (ExtM.trans _ _ _ HX.out hx5) hup hnB hLu
  have c1 := hl5.c1
  have cf := hl5.f 1
  have lL5 := hl5.lt
  have HF := Lib.hid hfin
  have HNL := Lib.hid hnL
  clear hfin hnL hup hl5 hl4 hat hnew hrul hx5 hS1 h5 H5 hc5 hf5 hs5_0 hs5_1 y0 y1 y2 lL lg
  go_wp2_with fail
  go_end0
  obtain ⟨f1, f2, Bs', f3, f4⟩ := HF.out
  exact ⟨rfl, E, Bs', f1.mono (fun k hk h => h.elim id (fun e => absurd (HNL.out k e) (by omega))), f2, f3, fun k hk => (f4 k hk).elim (HNL.out k) id⟩
end Go.Proofs.YtmcgnnmffeojpaaGreatDoor
/- Loading the line of what was fed. -/
namespace Go.Proofs.YtmcgnnmffeojpaaGreatDoor
open Go.RowKit Go.Plan

theorem en_late {u : World} {E : Nat} {Bs : Nat → Prop} {lo hi md : Int} {st : JSt} {V W : List Out} {f0 f1 : Int} (h : EAt u E Bs lo hi md st V W f0 f1) (n : Int) (hn : 0 ≤ n) :
    ∃ P, u.cell? ⟨E, 3, none⟩ = some (.pointer (some ⟨P, 0, none⟩)) ∧ ∀ U, Ext u U → Calls Tryz.prog 86 #[.pointer (some ⟨P, 0, none⟩), .int .i64 n] U fun e U' => e = .returned (.tuple #[]) ∧ ExtM (fun k => Bs k ∧ k ≠ E) U U' ∧ EUp U U' E Bs lo hi md { st with late := n } V W f0 f1 := by
  obtain ⟨P, M, v0, v1, D, DG, ents, hI, rfl⟩ := h
  refine ⟨P, hI.c3, fun U hU => ?_⟩
  have hIU := hI.ext hU
  have hnE : ¬ JFoot P M v0 v1 E := fun e => (hI.sJ E e).1 (.inl rfl)
  refine (jlateness_c hIU.join n).mono ?_
  rintro e U' ⟨rfl, hj, hx⟩
  rw [show max n 0 = n by omega] at hj
  have hjx : ExtM (JFoot P M v0 v1) U U' := hx.mono (fun k _ e => .inl e)
  have hju : JUp U U' P M (JFoot P M v0 v1) lo hi md { st with late := n } := ⟨hjx, _, ⟨v0, v1, hj, rfl⟩, fun k hk => .inl hk⟩
  exact ⟨rfl, hjx.mono (fun k _ hk => ⟨.inl hk, fun e => hnE (e ▸ hk)⟩), hIU.upJ hju hI.okA hI.okB⟩
set_option maxRecDepth 100000 in
set_option maxHeartbeats 4000000 in
theorem lineFed_c {u : World} {L E : Nat} {Bs : Nat → Prop} {lo hi md : Int} {st : JSt} {V : List Out} {f0 f1 : Int} (hL : LdIs u L (some ⟨E, 0, none⟩) false) (hE : EAt u E Bs lo hi md st V V f0 f1) (hnB : ¬ Bs L) (b c d : Int) (a : Option Addr) (cap : Nat) (hnum : NumsIn u L a [b, c, d]) (hgB : ∀ g, a = some ⟨g, 0, none⟩ → ¬ Bs g) (hb : 0 ≤ b) (hc : 0 ≤ c) (hd : 0 ≤ d) :
    Calls Tryz.prog 53 #[.pointer (some ⟨L, 0, none⟩), .int .i64 1, .string ⟨#[102, 101, 100]⟩, .slice a 3 cap] u fun e u' => e = .returned (.tuple #[]) ∧ LUp u u' L E Bs lo hi md { st with late := d } V b c := by
  obtain ⟨g, rfl, hgL, hgu, hgc⟩ := hnum.cells (by simp)
  have hgB := hgB g rfl
  have g0 := hgc 0 b rfl
  have g1 := hgc 1 c rfl
  have g2 := hgc 2 d rfl
  clear hgc hnum
  obtain ⟨w1, w2, w3, w4, r1, r2, r3, r4, hx4, hlk⟩ := want_map u
  have hl := hlk sFed (by decide)
  rw [want_fed] at hl
  simp only [Option.getD_some, Option.isSome_some] at hl
  unfold sRow at r4
  unfold sPlan at r1
  unfold sFed at r2 hl
  unfold sMarks at r3
  have hmm := @run_makeMap Tryz.prog
  have HLK := Lib.hid hlk
  have HX := Lib.hid hx4
  have HL := Lib.hid hL
  have HE := Lib.hid hE
  have HD := Lib.hid hd
  clear hlk hx4 hL hE hd
  go_enter Tryz.func53, Tryz.ntmps53
  go_upto_region 9 with fail
  have hl4 := HL.out.keep HX.out id
  have hat := HE.out.ext HX.out
  have hcell : w4.frozen? ⟨E, 7, none⟩ = false ∧ w4.frozen? ⟨E, 8, none⟩ = false ∧ w4.cell? ⟨E, 7, none⟩ = some (.int .i64 f0) ∧ w4.cell? ⟨E, 8, none⟩ = some (.int .i64 f1) := by
    obtain ⟨P, M, v0, v1, D, DG, ents, hI, -⟩ := hat
    exact ⟨hI.fz 7, hI.fz 8, hI.c7, hI.c8⟩
  obtain ⟨e7, e8, c7, c8⟩ := hcell
  have c0 := hl4.c0
  have lE := hat.lt _ hat.mine
  have lL := hl4.lt
  have k4 := fun o => HX.out.cell (p := ⟨g, o, none⟩) hgu id
  have y0 := (k4 _).trans g0
  have y1 := (k4 _).trans g1
  have y2 := (k4 _).trans g2
  have lg : g < w4.heap.size := Nat.lt_of_lt_of_le hgu HX.out.size
  clear k4 g0 g1 g2 r1 r2 r3 r4 hl hmm
  go_cut [] (fun wx => EUp w4 wx E Bs lo hi md st V V b c)
  case first =>
    refine Plan.beginT Plan.Ext [13] 14 rfl (by kernel_rfl) ?_
    refine Plan.left_q 0 (by rfl) (by kernel_rfl) ?_; go_big_quiet_step (fail); refine wpQuiet_nil ?_
    refine Plan.left_q 1 (by rfl) (by kernel_rfl) ?_; go_big_quiet_step (fail); refine wpQuiet_nil ?_
    refine Plan.left_q 2 (by rfl) (by kernel_rfl) ?_; go_big_quiet_step (fail); refine wpQuiet_nil ?_
    refine Plan.left_q 3 (by rfl) (by kernel_rfl) ?_; go_big_quiet_step (fail); refine wpQuiet_nil ?_
    refine Plan.left_q 4 (by rfl) (by kernel_rfl) ?_; go_big_quiet_step (fail); refine wpQuiet_nil ?_
    refine Plan.left_q 5 (by rfl) (by kernel_rfl) ?_; go_big_quiet_step (fail); refine wpQuiet_nil ?_
    refine Plan.left_q 6 (by rfl) (by kernel_rfl) ?_; go_big_quiet_step (fail); refine wpQuiet_nil ?_
    refine Plan.left_q 7 (by rfl) (by kernel_rfl) ?_; go_big_quiet_step (fail); refine wpQuiet_nil ?_
    refine Plan.left_q 8 (by rfl) (by kernel_rfl) ?_; go_big_quiet_step (fail); refine wpQuiet_nil ?_
    refine Plan.left_q 9 (by rfl) (by kernel_rfl) ?_; go_big_quiet_step (fail); refine wpQuiet_nil ?_
    refine Plan.left_q 10 (by rfl) (by kernel_rfl) ?_; go_big_quiet_step (fail); refine wpQuiet_nil ?_
    refine Plan.left_one 11 (by kernel_rfl) (by rfl) (Plan.plain rfl fun K hK => ?_)
    go_wp2_with (fail)
    refine hK _ _ (ExtM.refl _) ?_
    clear hK K
    refine Plan.left_q 12 (by rfl) (by kernel_rfl) ?_; go_big_quiet_step (fail); refine wpQuiet_nil ?_
    refine Plan.left_one 13 (by kernel_rfl) (by rfl) (Plan.last rfl (by kernel_rfl) fun K hK => ?_)
    go_wp2_with (fail)
    refine Plan.left_done (by kernel_rfl) ?_
    go_wp2_with fail
    go_meet
    case rel => exact EUp.fed hat.mine (EUp.fed hat.mine (EUp.same hat ((ExtM.refl _).drew)) 7 b (.inl ⟨rfl, rfl, rfl⟩)) 8 c (.inr ⟨rfl, rfl, rfl⟩)
  case rest =>
    have HC4 := Lib.hid hcut
    obtain ⟨hx9, Bs1, hat9, hB1⟩ := hcut
    have hlw := hl4.lt
    have n1 : ∀ k, k < w4.heap.size → ¬ Bs k → ¬ Bs1 k := fun k hk hn e => (hB1 k e).elim hn (fun q => by omega)
    have hl9 := hl4.keep hx9 hnB
    have hnL3 : ¬ (Bs1 L ∧ L ≠ E) := fun e => n1 L hlw hnB e.1
    have hnE3 : ¬ (Bs1 E ∧ E ≠ E) := fun e => e.2 rfl
    have hnG3 : ¬ (Bs1 g ∧ g ≠ E) := fun e => n1 g lg hgB e.1
    obtain ⟨P, c3, hlate⟩ := en_late hat9 d HD.out
    have z0 := (hx9.cell (p := ⟨g, 0, none⟩) lg hgB).trans y0
    have z1 := (hx9.cell (p := ⟨g, 1, none⟩) lg hgB).trans y1
    have z2 := (hx9.cell (p := ⟨g, 2, none⟩) lg hgB).trans y2
    have lE9 := hat9.lt _ hat9.mine
    have lL9 := hl9.lt
    have lg9 := Nat.lt_of_lt_of_le lg hx9.size
    have HX9 := Lib.hid hx9
    have HB1 := Lib.hid hB1
    have HL4 := Lib.hid hl4
    clear c0 y0 y1 y2 e7 e8 c7 c8 lE lL lg hl4 hat n1 hx9 hB1
    have c0 := hl9.c0
    go_upto_region 10 with fail
    refine Plan.begin (Plan.Ext3 L E g) 11 rfl (by kernel_rfl) ?_
    refine Plan.left_q 0 (by rfl) (by kernel_rfl) ?_; go_big_quiet_step (fail); refine wpQuiet_nil ?_
    refine Plan.left_q 1 (by rfl) (by kernel_rfl) ?_; go_big_quiet_step (fail); refine wpQuiet_nil ?_
    refine Plan.left_q 2 (by rfl) (by kernel_rfl) ?_; go_big_quiet_step (fail); refine wpQuiet_nil ?_
    refine Plan.left_q 3 (by rfl) (by kernel_rfl) ?_; go_big_quiet_step (fail); refine wpQuiet_nil ?_
    refine Plan.left_q 4 (by rfl) (by kernel_rfl) ?_; go_big_quiet_step (fail); refine wpQuiet_nil ?_
    refine Plan.left_q 5 (by rfl) (by kernel_rfl) ?_; go_big_quiet_step (fail); refine wpQuiet_nil ?_
    refine Plan.left_q 6 (by rfl) (by kernel_rfl) ?_; go_big_quiet_step (fail); refine wpQuiet_nil ?_
    refine Plan.left_q 7 (by rfl) (by kernel_rfl) ?_; go_big_quiet_step (fail); refine wpQuiet_nil ?_
    refine Plan.left_q 8 (by rfl) (by kernel_rfl) ?_; go_big_quiet_step (fail); refine wpQuiet_nil ?_
    refine Plan.left_q 9 (by rfl) (by kernel_rfl) ?_; go_big_quiet_step (fail); refine wpQuiet_nil ?_
    refine Plan.left_one 10 (by kernel_rfl) (by rfl) (Plan.plain rfl fun K hK => ?_)
    go_wp2_with (fail)
    refine (hlate _ (ExtM.refl _).drew).mono ?_
    rintro e w6 ⟨rfl, h6, hup⟩
    have H6 := Ext3.trans _ _ _ (Ext3.refl _).drew (Ext3.of_M hnL3 hnE3 hnG3 h6)
    obtain ⟨hc6, hf6, -⟩ := Ext3.rules H6
    have hs6_0 : L < w6.heap.size := by have := H6.size; (try simp at this); omega
    have hs6_1 : E < w6.heap.size := by have := H6.size; (try simp at this); omega
    have hs6_2 : g < w6.heap.size := by have := H6.size; (try simp at this); omega
    go_wp2_with (fail)
    refine hK _ _ (Ext3.of_M hnL3 hnE3 hnG3 h6) ?_
    clear hK K
    refine Plan.left_done (by kernel_rfl) ?_
    have hl6 := hl9.keep H6 (fun e => e (.inl rfl))
    have x0 := (H6.cells g 0 (.inr (.inr rfl)) lg9).1.trans z0
    have x1 := (H6.cells g 1 (.inr (.inr rfl)) lg9).1.trans z1
    have x2 := (H6.cells g 2 (.inr (.inr rfl)) lg9).1.trans z2
    have c1 := hl6.c1
    have cf := hl6.f 1
    have lL6 := hl6.lt
    have hupA := EUp.trans HX9.out HB1.out (EUp.before ((ExtM.refl _).drew) hup)
    have hfin := lup_set2 HX.out (lup_set hupA hl6 hnB hlw) hnB HL.out.lt
    have hd := HD.out
    have b0 : decide (b < 0) = false := by simp; omega
    have b1 : decide (c < 0) = false := by simp; omega
    have b2 : decide (d < 0) = false := by simp; omega
    have HF := Lib.hid hfin
    clear hfin hupA hup h6 H6 hl6 hl9 hat9 hlate c3 z0 z1 z2 c0 lE9 lL9 hnL3 hnE3 hnG3 hb hc hd
    go_wp2_with fail
    go_end0
    exact ⟨rfl, HF.out⟩
end Go.Proofs.YtmcgnnmffeojpaaGreatDoor
/- The engine's join moves on. -/
namespace Go.Proofs.YtmcgnnmffeojpaaGreatDoor
open Go.RowKit Go.Plan

theorem moveJ_ok {lo hi : Int} {s : Nat} {t : Int} {st : JSt} (hA : ∀ h ∈ st.a, h.r.ok) (hB : ∀ h ∈ st.b, h.r.ok) : (∀ h ∈ (moveJ lo hi s t st).a, h.r.ok) ∧ ∀ h ∈ (moveJ lo hi s t st).b, h.r.ok := by
  unfold moveJ
  split
  · exact ⟨hA, fun h hh => hB h (List.mem_filter.1 hh).1⟩
  · exact ⟨fun h hh => hA h (List.mem_filter.1 hh).1, hB⟩
theorem en_move0 {u : World} {E : Nat} {Bs : Nat → Prop} {lo hi md : Int} {st : JSt} {V W : List Out} {f0 f1 : Int} (h : EAt u E Bs lo hi md st V W f0 f1) (hp : PlanOk lo hi) (t : Int) (hl : st.b.length < 1000000) :
    ∃ P, u.cell? ⟨E, 3, none⟩ = some (.pointer (some ⟨P, 0, none⟩)) ∧ ∀ U, Ext u U → Calls Tryz.prog 47 #[.pointer (some ⟨P, 0, none⟩), .int .i64 0, .int .i64 t] U fun e U' => e = .returned (errV (moveI 0 t st.x st.y)) ∧ ExtM (fun k => Bs k ∧ k ≠ E) U U' ∧ EUp U U' E Bs lo hi md (if moveI 0 t st.x st.y = 0 then moveJ lo hi 0 t st else st) V W f0 f1 := by
  obtain ⟨P, M, v0, v1, D, DG, ents, hI, rfl⟩ := h
  refine ⟨P, hI.c3, fun U hU => ?_⟩
  have hIU := hI.ext hU
  have hnE : ¬ JFoot P M v0 v1 E := fun e => (hI.sJ E e).1 (.inl rfl)
  refine (jmove0_c hIU.join hp t hl).mono ?_
  rintro e U' ⟨rfl, hj⟩
  have hok := moveJ_ok (lo := lo) (hi := hi) (s := 0) (t := t) hI.okA hI.okB
  refine ⟨rfl, hj.1.mono (fun k _ hk => ⟨.inl hk, fun e => hnE (e ▸ hk)⟩), hIU.upJ hj ?_ ?_⟩
  · split
    · exact hok.1
    · exact hI.okA
  · split
    · exact hok.2
    · exact hI.okB
theorem en_move1 {u : World} {E : Nat} {Bs : Nat → Prop} {lo hi md : Int} {st : JSt} {V W : List Out} {f0 f1 : Int} (h : EAt u E Bs lo hi md st V W f0 f1) (hp : PlanOk lo hi) (t : Int) (hl : st.a.length < 1000000) :
    ∃ P, u.cell? ⟨E, 3, none⟩ = some (.pointer (some ⟨P, 0, none⟩)) ∧ ∀ U, Ext u U → Calls Tryz.prog 47 #[.pointer (some ⟨P, 0, none⟩), .int .i64 1, .int .i64 t] U fun e U' => e = .returned (errV (moveI 1 t st.x st.y)) ∧ ExtM (fun k => Bs k ∧ k ≠ E) U U' ∧ EUp U U' E Bs lo hi md (if moveI 1 t st.x st.y = 0 then moveJ lo hi 1 t st else st) V W f0 f1 := by
  obtain ⟨P, M, v0, v1, D, DG, ents, hI, rfl⟩ := h
  refine ⟨P, hI.c3, fun U hU => ?_⟩
  have hIU := hI.ext hU
  have hnE : ¬ JFoot P M v0 v1 E := fun e => (hI.sJ E e).1 (.inl rfl)
  refine (jmove1_c hIU.join hp t hl).mono ?_
  rintro e U' ⟨rfl, hj⟩
  have hok := moveJ_ok (lo := lo) (hi := hi) (s := 1) (t := t) hI.okA hI.okB
  refine ⟨rfl, hj.1.mono (fun k _ hk => ⟨.inl hk, fun e => hnE (e ▸ hk)⟩), hIU.upJ hj ?_ ?_⟩
  · split
    · exact hok.1
    · exact hI.okA
  · split
    · exact hok.2
    · exact hI.okB
end Go.Proofs.YtmcgnnmffeojpaaGreatDoor
/- Loading the line of marks. -/
namespace Go.Proofs.YtmcgnnmffeojpaaGreatDoor
open Go.RowKit Go.Plan

/-- One side's mark loaded, at the engine. -/
theorem moveE_cases {lo hi : Int} {s : Nat} {t : Int} {st st1 : JSt} (h : moveE lo hi s t st = some st1) : (t = -1099511627777 ∧ st1 = st) ∨ (t ≠ -1099511627777 ∧ moveI s t st.x st.y = 0 ∧ st1 = moveJ lo hi s t st) := by
  unfold moveE at h
  split at h
  · rename_i ht; cases h; exact .inl ⟨ht, rfl⟩
  · rename_i ht
    split at h
    · rename_i hm; cases h; exact .inr ⟨ht, hm, rfl⟩
    · cases h
theorem moveE_len {lo hi : Int} {s : Nat} {t : Int} {st st1 : JSt} (h : moveE lo hi s t st = some st1) : st1.a.length ≤ st.a.length ∧ st1.b.length ≤ st.b.length := by
  rcases moveE_cases h with ⟨-, rfl⟩ | ⟨-, -, rfl⟩
  · exact ⟨Nat.le_refl _, Nat.le_refl _⟩
  · unfold moveJ
    split
    · exact ⟨Nat.le_refl _, List.length_filter_le _ _⟩
    · exact ⟨List.length_filter_le _ _, Nat.le_refl _⟩
theorem lup_same {u w : World} {L E : Nat} {Bs : Nat → Prop} {lo hi md : Int} {st : JSt} {V : List Out} {f0 f1 : Int} (h : EUp u w E Bs lo hi md st V V f0 f1) (hl : LdIs w L (some ⟨E, 0, none⟩) false) : LUp u w L E Bs lo hi md st V f0 f1 := by
  obtain ⟨h1, h2⟩ := h
  exact ⟨h1.mono (fun _ _ h => .inr h), hl, h2⟩
set_option maxRecDepth 100000 in
set_option maxHeartbeats 4000000 in
theorem lineMarks_c {u : World} {L E : Nat} {Bs : Nat → Prop} {lo hi md : Int} {st st1 st2 : JSt} {V : List Out} {f0 f1 : Int} (hL : LdIs u L (some ⟨E, 0, none⟩) false) (hE : EAt u E Bs lo hi md st V V f0 f1) (hnB : ¬ Bs L) (x y : Int) (a : Option Addr) (cap : Nat) (hnum : NumsIn u L a [x, y]) (hgB : ∀ g, a = some ⟨g, 0, none⟩ → ¬ Bs g) (hp : PlanOk lo hi) (hla : st.a.length < 1000000) (hlb : st.b.length < 1000000) (h1 : moveE lo hi 0 x st = some st1) (h2 : moveE lo hi 1 y st1 = some st2) :
    Calls Tryz.prog 53 #[.pointer (some ⟨L, 0, none⟩), .int .i64 2, .string ⟨#[109, 97, 114, 107, 115]⟩, .slice a 2 cap] u fun e u' => e = .returned (.tuple #[]) ∧ LUp u u' L E Bs lo hi md st2 V f0 f1 := by
  obtain ⟨g, rfl, hgL, hgu, hgc⟩ := hnum.cells (by simp)
  have hgB := hgB g rfl
  have g0 := hgc 0 x rfl
  have g1 := hgc 1 y rfl
  clear hgc hnum
  obtain ⟨w1, w2, w3, w4, r1, r2, r3, r4, hx4, hlk⟩ := want_map u
  have hl := hlk sMarks (by decide)
  rw [want_marks] at hl
  simp only [Option.getD_some, Option.isSome_some] at hl
  unfold sRow at r4
  unfold sPlan at r1
  unfold sFed at r2
  unfold sMarks at r3 hl
  have hmm := @run_makeMap Tryz.prog
  have HLK := Lib.hid hlk
  have HX := Lib.hid hx4
  have HL := Lib.hid hL
  have HE := Lib.hid hE
  have H1 := Lib.hid h1
  have H2 := Lib.hid h2
  clear hlk hx4 hL hE h1 h2
  go_enter Tryz.func53, Tryz.ntmps53
  go_upto_region 13 with fail
  have hl4 := HL.out.keep HX.out id
  have hat := HE.out.ext HX.out
  have k4 := fun o => HX.out.cell (p := ⟨g, o, none⟩) hgu id
  have y0 := (k4 _).trans g0
  have y1 := (k4 _).trans g1
  have lg : g < w4.heap.size := Nat.lt_of_lt_of_le hgu HX.out.size
  have hlw := hl4.lt
  clear k4 g0 g1 r1 r2 r3 r4 hl hmm
  go_wp2_with fail
  go_loopg [124, 11] 3 (fun kx s124 s11 wr => ∃ j : Nat, s124 = .int .i64 j ∧ j ≤ 2 ∧ 2 - j ≤ kx ∧ s11 = .nilIface ∧ EUp w4 wr E Bs lo hi md (if j = 0 then st else if j = 1 then st1 else st2) V V f0 f1)
  case atStart => exact ⟨0, rfl, by omega, by omega, rfl, EUp.same hat (ExtM.refl _)⟩
  case round =>
    obtain ⟨j, rfl, hj, hgk, rfl, hup⟩ := hrel
    have hj3 : j = 0 ∨ j = 1 ∨ j = 2 := by omega
    clear hj
    rcases hj3 with rfl | rfl | rfl
    · skip
      have hup' : EUp w4 wr E Bs lo hi md st V V f0 f1 := hup
      have HUP := Lib.hid hup'
      obtain ⟨hx9, Bs1, hat9, hB1⟩ := hup'
      have hl9 := hl4.keep hx9 hnB
      have z0 := (hx9.cell (p := ⟨g, 0, none⟩) lg hgB).trans y0
      have lg9 := Nat.lt_of_lt_of_le lg hx9.size
      have lE9 := hat9.lt _ hat9.mine
      have lL9 := hl9.lt
      have c0 := hl9.c0
      have n1 : ∀ k, k < w4.heap.size → ¬ Bs k → ¬ Bs1 k := fun k hk hn e => (hB1 k e).elim hn (fun q => by omega)
      have hnL3 : ¬ (Bs1 L ∧ L ≠ E) := fun e => n1 L hlw hnB e.1
      have hnE3 : ¬ (Bs1 E ∧ E ≠ E) := fun e => e.2 rfl
      have hnG3 : ¬ (Bs1 g ∧ g ≠ E) := fun e => n1 g lg hgB e.1
      have hlen := moveE_len H1.out
      have HLN := Lib.hid hlen
      rcases moveE_cases H1.out with ⟨ht, hs⟩ | ⟨ht, hm, hs⟩
      · have hq : (x != -1099511627777) = false := by simp [ht]
        have HS := Lib.hid hs
        clear hs ht hat9 hup hlen hx9 hB1 n1 hl9
        go_wp2_with fail
        go_roundg (2 - (0 + 1))
        case measure => omega
        case rel => exact ⟨0 + 1, by go_num, by omega, Nat.le_refl _, rfl, by have := HUP.out; rw [← HS.out] at this; exact this⟩
      · have hq : (x != -1099511627777) = true := by simp [ht]
        obtain ⟨P, c3, hmv⟩ := en_move0 hat9 hp x (by omega)
        have hm2 : moveI 0 x st.x st.y = 0 := by simpa using hm
        rw [hm2, if_pos rfl, ← hs] at hmv
        have hmv2 : ∀ U, Ext wr U → Calls Tryz.prog 47 #[.pointer (some ⟨P, 0, none⟩), .int .i64 0, .int .i64 x] U fun e U' => e = .returned .nilIface ∧ ExtM (fun k => Bs1 k ∧ k ≠ E) U U' ∧ EUp U U' E Bs1 lo hi md st1 V V f0 f1 := hmv
        have HX9 := Lib.hid hx9
        have HB1 := Lib.hid hB1
        clear hs ht hm hm2 hmv hat9 hup hlen hx9 hB1 n1 hl9
        go_upto_region 17 with fail
        refine Plan.begin (Plan.Ext3 L E g) 14 rfl (by kernel_rfl) ?_
        refine Plan.left_q 0 (by rfl) (by kernel_rfl) ?_; go_big_quiet_step (fail); refine wpQuiet_nil ?_
        refine Plan.left_q 1 (by rfl) (by kernel_rfl) ?_; go_big_quiet_step (fail); refine wpQuiet_nil ?_
        refine Plan.left_q 2 (by rfl) (by kernel_rfl) ?_; go_big_quiet_step (fail); refine wpQuiet_nil ?_
        refine Plan.left_q 3 (by rfl) (by kernel_rfl) ?_; go_big_quiet_step (fail); refine wpQuiet_nil ?_
        refine Plan.left_q 4 (by rfl) (by kernel_rfl) ?_; go_big_quiet_step (fail); refine wpQuiet_nil ?_
        refine Plan.left_q 5 (by rfl) (by kernel_rfl) ?_; go_big_quiet_step (fail); refine wpQuiet_nil ?_
        refine Plan.left_q 6 (by rfl) (by kernel_rfl) ?_; go_big_quiet_step (fail); refine wpQuiet_nil ?_
        refine Plan.left_q 7 (by rfl) (by kernel_rfl) ?_; go_big_quiet_step (fail); refine wpQuiet_nil ?_
        refine Plan.left_q 8 (by rfl) (by kernel_rfl) ?_; go_big_quiet_step (fail); refine wpQuiet_nil ?_
        refine Plan.left_q 9 (by rfl) (by kernel_rfl) ?_; go_big_quiet_step (fail); refine wpQuiet_nil ?_
        refine Plan.left_q 10 (by rfl) (by kernel_rfl) ?_; go_big_quiet_step (fail); refine wpQuiet_nil ?_
        refine Plan.left_q 11 (by rfl) (by kernel_rfl) ?_; go_big_quiet_step (fail); refine wpQuiet_nil ?_
        refine Plan.left_one 12 (by kernel_rfl) (by rfl) (Plan.plain rfl fun K hK => ?_)
        go_wp2_with (fail)
        refine (hmv2 _ (ExtM.refl _).drew).mono ?_
        rintro e w6 ⟨rfl, h6, hup⟩
        have H6 := Ext3.trans _ _ _ (Ext3.refl _).drew (Ext3.of_M hnL3 hnE3 hnG3 h6)
        obtain ⟨hc6, hf6, -⟩ := Ext3.rules H6
        have hs6_0 : L < w6.heap.size := by have := H6.size; (try simp at this); omega
        have hs6_1 : E < w6.heap.size := by have := H6.size; (try simp at this); omega
        have hs6_2 : g < w6.heap.size := by have := H6.size; (try simp at this); omega
        go_wp2_with (fail)
        refine hK _ _ (Ext3.of_M hnL3 hnE3 hnG3 h6) ?_
        clear hK K
        refine Plan.left_q 13 (by rfl) (by kernel_rfl) ?_; go_big_quiet_step (fail); refine wpQuiet_nil ?_
        refine Plan.left_done (by kernel_rfl) ?_
        have hupA := EUp.trans HX9.out HB1.out (EUp.before ((ExtM.refl _).drew) hup)
        have HA := Lib.hid hupA
        clear hupA hup h6 H6 hmv2
        go_wp2_with fail
        go_roundg (2 - (0 + 1))
        case measure => omega
        case rel => exact ⟨0 + 1, by go_num, by omega, Nat.le_refl _, rfl, HA.out⟩
    · skip
      have hup' : EUp w4 wr E Bs lo hi md st1 V V f0 f1 := hup
      have HUP := Lib.hid hup'
      obtain ⟨hx9, Bs1, hat9, hB1⟩ := hup'
      have hl9 := hl4.keep hx9 hnB
      have z1 := (hx9.cell (p := ⟨g, 1, none⟩) lg hgB).trans y1
      have lg9 := Nat.lt_of_lt_of_le lg hx9.size
      have lE9 := hat9.lt _ hat9.mine
      have lL9 := hl9.lt
      have c0 := hl9.c0
      have n1 : ∀ k, k < w4.heap.size → ¬ Bs k → ¬ Bs1 k := fun k hk hn e => (hB1 k e).elim hn (fun q => by omega)
      have hnL3 : ¬ (Bs1 L ∧ L ≠ E) := fun e => n1 L hlw hnB e.1
      have hnE3 : ¬ (Bs1 E ∧ E ≠ E) := fun e => e.2 rfl
      have hnG3 : ¬ (Bs1 g ∧ g ≠ E) := fun e => n1 g lg hgB e.1
      have hlen := moveE_len H1.out
      have HLN := Lib.hid hlen
      rcases moveE_cases H2.out with ⟨ht, hs⟩ | ⟨ht, hm, hs⟩
      · have hq : (y != -1099511627777) = false := by simp [ht]
        have HS := Lib.hid hs
        clear hs ht hat9 hup hlen hx9 hB1 n1 hl9
        go_wp2_with fail
        go_roundg (2 - (1 + 1))
        case measure => omega
        case rel => exact ⟨1 + 1, by go_num, by omega, Nat.le_refl _, rfl, by have := HUP.out; rw [← HS.out] at this; exact this⟩
      · have hq : (y != -1099511627777) = true := by simp [ht]
        obtain ⟨P, c3, hmv⟩ := en_move1 hat9 hp y (by omega)
        have hm2 : moveI 1 y st1.x st1.y = 0 := by simpa using hm
        rw [hm2, if_pos rfl, ← hs] at hmv
        have hmv2 : ∀ U, Ext wr U → Calls Tryz.prog 47 #[.pointer (some ⟨P, 0, none⟩), .int .i64 1, .int .i64 y] U fun e U' => e = .returned .nilIface ∧ ExtM (fun k => Bs1 k ∧ k ≠ E) U U' ∧ EUp U U' E Bs1 lo hi md st2 V V f0 f1 := hmv
        have HX9 := Lib.hid hx9
        have HB1 := Lib.hid hB1
        clear hs ht hm hm2 hmv hat9 hup hlen hx9 hB1 n1 hl9
        go_upto_region 17 with fail
        refine Plan.begin (Plan.Ext3 L E g) 14 rfl (by kernel_rfl) ?_
        refine Plan.left_q 0 (by rfl) (by kernel_rfl) ?_; go_big_quiet_step (fail); refine wpQuiet_nil ?_
        refine Plan.left_q 1 (by rfl) (by kernel_rfl) ?_; go_big_quiet_step (fail); refine wpQuiet_nil ?_
        refine Plan.left_q 2 (by rfl) (by kernel_rfl) ?_; go_big_quiet_step (fail); refine wpQuiet_nil ?_
        refine Plan.left_q 3 (by rfl) (by kernel_rfl) ?_; go_big_quiet_step (fail); refine wpQuiet_nil ?_
        refine Plan.left_q 4 (by rfl) (by kernel_rfl) ?_; go_big_quiet_step (fail); refine wpQuiet_nil ?_
        refine Plan.left_q 5 (by rfl) (by kernel_rfl) ?_; go_big_quiet_step (fail); refine wpQuiet_nil ?_
        refine Plan.left_q 6 (by rfl) (by kernel_rfl) ?_; go_big_quiet_step (fail); refine wpQuiet_nil ?_
        refine Plan.left_q 7 (by rfl) (by kernel_rfl) ?_; go_big_quiet_step (fail); refine wpQuiet_nil ?_
        refine Plan.left_q 8 (by rfl) (by kernel_rfl) ?_; go_big_quiet_step (fail); refine wpQuiet_nil ?_
        refine Plan.left_q 9 (by rfl) (by kernel_rfl) ?_; go_big_quiet_step (fail); refine wpQuiet_nil ?_
        refine Plan.left_q 10 (by rfl) (by kernel_rfl) ?_; go_big_quiet_step (fail); refine wpQuiet_nil ?_
        refine Plan.left_q 11 (by rfl) (by kernel_rfl) ?_; go_big_quiet_step (fail); refine wpQuiet_nil ?_
        refine Plan.left_one 12 (by kernel_rfl) (by rfl) (Plan.plain rfl fun K hK => ?_)
        go_wp2_with (fail)
        refine (hmv2 _ (ExtM.refl _).drew).mono ?_
        rintro e w6 ⟨rfl, h6, hup⟩
        have H6 := Ext3.trans _ _ _ (Ext3.refl _).drew (Ext3.of_M hnL3 hnE3 hnG3 h6)
        obtain ⟨hc6, hf6, -⟩ := Ext3.rules H6
        have hs6_0 : L < w6.heap.size := by have := H6.size; (try simp at this); omega
        have hs6_1 : E < w6.heap.size := by have := H6.size; (try simp at this); omega
        have hs6_2 : g < w6.heap.size := by have := H6.size; (try simp at this); omega
        go_wp2_with (fail)
        refine hK _ _ (Ext3.of_M hnL3 hnE3 hnG3 h6) ?_
        clear hK K
        refine Plan.left_q 13 (by rfl) (by kernel_rfl) ?_; go_big_quiet_step (fail); refine wpQuiet_nil ?_
        refine Plan.left_done (by kernel_rfl) ?_
        have hupA := EUp.trans HX9.out HB1.out (EUp.before ((ExtM.refl _).drew) hup)
        have HA := Lib.hid hupA
        clear hupA hup h6 H6 hmv2
        go_wp2_with fail
        go_roundg (2 - (1 + 1))
        case measure => omega
        case rel => exact ⟨1 + 1, by go_num, by omega, Nat.le_refl _, rfl, HA.out⟩
    · have hl9 := hl4.keep hup.1 hnB
      have hfin := lup_set2 HX.out (lup_same hup hl9) hnB HL.out.lt
      have c1 := hl9.c1
      have cf := hl9.f 1
      have lL9 := hl9.lt
      have HF := Lib.hid hfin
      clear hfin hl9 hup hat y0 y1
      go_wp2_with fail
      go_end0
      exact ⟨rfl, HF.out⟩
end Go.Proofs.YtmcgnnmffeojpaaGreatDoor
namespace Go.Proofs.YtmcgnnmffeojpaaGreatDoor
open Go.RowKit Go.Plan

/-- The one that loads, and what it has; all of it is younger than B, and older than C. -/
def LdC (u : World) (B C L : Nat) : Option ESt → Prop
  | none => LdIs u L none false ∧ B ≤ L ∧ L < C
  | some e => ∃ E Bs, LdIs u L (some ⟨E, 0, none⟩) false ∧ EAt u E Bs e.lo e.hi e.md e.st e.V e.V e.f0 e.f1 ∧ ¬ Bs L ∧ (B ≤ L ∧ L < C) ∧ ∀ k, Bs k → B ≤ k ∧ k < C
def LdAt (u : World) (B L : Nat) (e : Option ESt) : Prop := LdC u B u.heap.size L e
theorem LdC.inn {u : World} {B C L : Nat} {e : Option ESt} (h : LdC u B C L e) : (B ≤ L ∧ L < C) ∧ L < u.heap.size := by
  cases e with
  | none => exact ⟨h.2, h.1.lt⟩
  | some e => obtain ⟨E, Bs, h1, -, -, h2, -⟩ := h; exact ⟨h2, h1.lt⟩
theorem LdC.keep {M : Nat → Prop} {u u' : World} {B C L : Nat} {e : Option ESt} (h : LdC u B C L e) (hx : ExtM M u u') (hM : ∀ k, k < C → ¬ M k) : LdC u' B C L e := by
  cases e with
  | none => exact ⟨h.1.keep hx (hM L h.2.2), h.2⟩
  | some e =>
    obtain ⟨E, Bs, h1, h2, h3, h4, h5⟩ := h
    exact ⟨E, Bs, h1.keep hx (hM L h4.2), h2.keep hx (fun k hk => hM k (h5 k hk).2), h3, h4, h5⟩
/-- Not bad yet. -/
theorem LdC.set {u : World} {B C L : Nat} {e : Option ESt} (h : LdC u B C L e) : LdC (u.setCell ⟨L, 1, none⟩ (.bool false)) B C L e := by
  have hs : ExtM (fun k => k = L) u (u.setCell ⟨L, 1, none⟩ (.bool false)) := ExtM.setCell (M := fun k => k = L) (p := ⟨L, 1, none⟩) (ExtM.refl _) (.inr rfl) _
  cases e with
  | none => exact ⟨h.1.set false, h.2⟩
  | some e =>
    obtain ⟨E, Bs, h1, h2, h3, h4, h5⟩ := h
    exact ⟨E, Bs, h1.set false, h2.keep hs (fun k hk e => h3 (e ▸ hk)), h3, h4, h5⟩
/-- What a line of an engine leaves. -/
theorem LdAt.of_up {u u' : World} {B C L E : Nat} {Bs : Nat → Prop} {e : ESt} (h : LUp u u' L E Bs e.lo e.hi e.md e.st e.V e.f0 e.f1) (hn : ¬ Bs L) (hL : B ≤ L) (hl : L < u.heap.size) (hB : ∀ k, Bs k → B ≤ k ∧ k < C) : LdAt u' B L (some e) ∧ Plan.ExtF B u u' := by
  obtain ⟨h1, h2, Bs', h3, h4⟩ := h
  refine ⟨⟨E, Bs', h2, h3, fun e => (h4 L e).elim hn (fun q => by omega), ⟨hL, h2.lt⟩, fun k hk => ⟨(h4 k hk).elim (fun q => (hB k q).1) (fun q => by omega), h3.lt k hk⟩⟩, h1.mono (fun k _ hk => ?_)⟩
  rcases hk with rfl | hk
  · exact hL
  · exact (hB k hk).1
theorem ldPlan {u : World} {B C L : Nat} (h : LdC u B C L none) (b c d : Int) (a : Option Addr) (cap : Nat) (hnum : NumsIn u L a [b, c, d]) (hc : checkI b c d = 0) :
    Calls Tryz.prog 53 #[.pointer (some ⟨L, 0, none⟩), .int .i64 0, .string ⟨#[112, 108, 97, 110]⟩, .slice a 3 cap] u fun e u' => e = .returned (.tuple #[]) ∧ LdAt u' B L (some ⟨b, c, d, ⟨[], [], -1099511627777, -1099511627777, 0⟩, [], 0, 0⟩) ∧ Plan.ExtF B u u' := by
  obtain ⟨hL, hB, hC⟩ := h
  refine (linePlan_c hL b c d a cap hnum hc).mono ?_
  rintro e u' ⟨rfl, E, Bs, h1, h2, h3, h4⟩
  have hl := hL.lt
  exact ⟨rfl, ⟨E, Bs, h2, h3, fun e => by have := h4 L e; omega, ⟨hB, h2.lt⟩, fun k hk => ⟨by have := h4 k hk; omega, h3.lt k hk⟩⟩, h1.mono (fun k _ e => by have e' : k = L := e; show B ≤ k; omega)⟩
theorem ldRow {u : World} {B C L : Nat} {e : ESt} (h : LdC u B C L (some e)) (i : Int) (hi : 3 ≤ i) (s k t q m : Int) (a : Option Addr) (cap : Nat) (hnum : NumsIn u L a [s, k, t, q, m]) (ha : ∀ g, a = some ⟨g, 0, none⟩ → C ≤ g) (hp : putE2 s ⟨⟨k, t, q⟩, m⟩ e.st = 0) :
    Calls Tryz.prog 53 #[.pointer (some ⟨L, 0, none⟩), .int .i64 i, .string ⟨#[114, 111, 119]⟩, .slice a 5 cap] u fun r u' => r = .returned (.tuple #[]) ∧ LdAt u' B L (some { e with st := putJ s.toNat ⟨⟨k, t, q⟩, m⟩ e.st }) ∧ Plan.ExtF B u u' := by
  obtain ⟨E, Bs, hL, hE, hn, hB, hBs⟩ := h
  have hgB : ∀ g, a = some ⟨g, 0, none⟩ → ¬ Bs g := fun g hg hb => by have := ha g hg; have := hBs g hb; omega
  refine (lineRow_c hL hE hn i hi s k t q m a cap hnum hgB hp).mono ?_
  rintro r u' ⟨rfl, hup⟩
  exact ⟨rfl, LdAt.of_up (e := { e with st := putJ s.toNat ⟨⟨k, t, q⟩, m⟩ e.st }) hup hn hB.1 hL.lt hBs⟩
theorem ldOut {u : World} {B C L : Nat} {e : ESt} (h : LdC u B C L (some e)) (i : Int) (hi : 3 ≤ i) (n : List Int) (a : Option Addr) (cap : Nat) (hnum : NumsIn u L a n) (ha : ∀ g, a = some ⟨g, 0, none⟩ → C ≤ g) (hV : e.V.length < 900000) (x : Out) (hxo : outE n = some x) :
    Calls Tryz.prog 53 #[.pointer (some ⟨L, 0, none⟩), .int .i64 i, .string ⟨#[111, 117, 116]⟩, .slice a n.length cap] u fun r u' => r = .returned (.tuple #[]) ∧ LdAt u' B L (some { e with V := x :: e.V }) ∧ Plan.ExtF B u u' := by
  obtain ⟨E, Bs, hL, hE, hn, hB, hBs⟩ := h
  have hgB : ∀ g, a = some ⟨g, 0, none⟩ → ¬ Bs g := fun g hg hb => by have := ha g hg; have := hBs g hb; omega
  refine (lineOut_c hL hE hn i hi n a cap hnum hV x hxo).mono ?_
  rintro r u' ⟨rfl, hup⟩
  exact ⟨rfl, LdAt.of_up (e := { e with V := x :: e.V }) hup hn hB.1 hL.lt hBs⟩
theorem ldFed {u : World} {B C L : Nat} {e : ESt} (h : LdC u B C L (some e)) (b c d : Int) (a : Option Addr) (cap : Nat) (hnum : NumsIn u L a [b, c, d]) (ha : ∀ g, a = some ⟨g, 0, none⟩ → C ≤ g) (hb : 0 ≤ b) (hc : 0 ≤ c) (hd : 0 ≤ d) :
    Calls Tryz.prog 53 #[.pointer (some ⟨L, 0, none⟩), .int .i64 1, .string ⟨#[102, 101, 100]⟩, .slice a 3 cap] u fun r u' => r = .returned (.tuple #[]) ∧ LdAt u' B L (some { e with f0 := b, f1 := c, st := { e.st with late := d } }) ∧ Plan.ExtF B u u' := by
  obtain ⟨E, Bs, hL, hE, hn, hB, hBs⟩ := h
  have hgB : ∀ g, a = some ⟨g, 0, none⟩ → ¬ Bs g := fun g hg hb => by have := ha g hg; have := hBs g hb; omega
  refine (lineFed_c hL hE hn b c d a cap hnum hgB hb hc hd).mono ?_
  rintro r u' ⟨rfl, hup⟩
  exact ⟨rfl, LdAt.of_up (e := { e with f0 := b, f1 := c, st := { e.st with late := d } }) hup hn hB.1 hL.lt hBs⟩
theorem ldMarks {u : World} {B C L : Nat} {e : ESt} (h : LdC u B C L (some e)) (x y : Int) (a : Option Addr) (cap : Nat) (hnum : NumsIn u L a [x, y]) (ha : ∀ g, a = some ⟨g, 0, none⟩ → C ≤ g) (hp : PlanOk e.lo e.hi) (hla : e.st.a.length < 1000000) (hlb : e.st.b.length < 1000000) {st1 st2 : JSt} (h1 : moveE e.lo e.hi 0 x e.st = some st1) (h2 : moveE e.lo e.hi 1 y st1 = some st2) :
    Calls Tryz.prog 53 #[.pointer (some ⟨L, 0, none⟩), .int .i64 2, .string ⟨#[109, 97, 114, 107, 115]⟩, .slice a 2 cap] u fun r u' => r = .returned (.tuple #[]) ∧ LdAt u' B L (some { e with st := st2 }) ∧ Plan.ExtF B u u' := by
  obtain ⟨E, Bs, hL, hE, hn, hB, hBs⟩ := h
  have hgB : ∀ g, a = some ⟨g, 0, none⟩ → ¬ Bs g := fun g hg hb => by have := ha g hg; have := hBs g hb; omega
  refine (lineMarks_c hL hE hn x y a cap hnum hgB hp hla hlb h1 h2).mono ?_
  rintro r u' ⟨rfl, hup⟩
  exact ⟨rfl, LdAt.of_up (e := { e with st := st2 }) hup hn hB.1 hL.lt hBs⟩

/-! ### whichever line may be -/
/-- What lines keep true of an engine. -/
def LnOk (i : Nat) (e : ESt) : Prop := PlanOk e.lo e.hi ∧ e.st.a.length ≤ 300 ∧ e.st.b.length ≤ 300 ∧ e.V.length ≤ i
theorem addL_len {hs : List Hd} {x : Hd} (he : addE hs x = 0) (h : hs.length ≤ 300) : (addL hs x).length ≤ 300 := by
  have hl : hs.length < 300 := by
    unfold addE at he
    split at he
    · cases he
    · split at he
      · cases he
      · omega
  unfold addL
  rw [if_pos he]
  unfold addH insH
  simp
  omega
theorem putE2_len {s : Int} {x : Hd} {st : JSt} (hp : putE2 s x st = 0) (ha : st.a.length ≤ 300) (hb : st.b.length ≤ 300) : (putJ s.toNat x st).a.length ≤ 300 ∧ (putJ s.toNat x st).b.length ≤ 300 := by
  unfold putE2 at hp
  split at hp
  · rename_i h0
    subst h0
    exact ⟨addL_len hp ha, hb⟩
  · split at hp
    · rename_i h1
      subst h1
      exact ⟨ha, addL_len hp hb⟩
    · cases hp
/-- A line that may be, one way or another. -/
inductive LineIs : Nat → List UInt8 → List Int → Option ESt → ESt → Prop
  | plan (a b c : Int) (e : Option ESt) (h : checkI a b c = 0) : LineIs 0 wPlan [a, b, c] e ⟨a, b, c, ⟨[], [], -1099511627777, -1099511627777, 0⟩, [], 0, 0⟩
  | fed (a b c : Int) (e : ESt) (h0 : 0 ≤ a) (h1 : 0 ≤ b) (h2 : 0 ≤ c) : LineIs 1 wFed [a, b, c] (some e) { e with f0 := a, f1 := b, st := { e.st with late := c } }
  | marks (x y : Int) (e : ESt) (st1 st2 : JSt) (h1 : moveE e.lo e.hi 0 x e.st = some st1) (h2 : moveE e.lo e.hi 1 y st1 = some st2) : LineIs 2 wMarks [x, y] (some e) { e with st := st2 }
  | row (i : Nat) (hi : 3 ≤ i) (s k t v m : Int) (e : ESt) (h : putE2 s ⟨⟨k, t, v⟩, m⟩ e.st = 0) : LineIs i wRow [s, k, t, v, m] (some e) { e with st := putJ s.toNat ⟨⟨k, t, v⟩, m⟩ e.st }
  | out (i : Nat) (hi : 3 ≤ i) (n : List Int) (e : ESt) (x : Out) (h : outE n = some x) : LineIs i wOut n (some e) { e with V := x :: e.V }
theorem lineE_is {i : Nat} {nm : List UInt8} {n : List Int} {e : Option ESt} {e' : ESt} (h : lineE i nm n e = some e') : LineIs i nm n e e' := by
  unfold lineE at h
  split at h
  · rename_i hw
    subst hw
    split at h
    · split at h
      · rename_i hc
        cases h
        obtain ⟨rfl, hc⟩ := hc
        exact .plan _ _ _ _ hc
      · cases h
    · cases h
  · split at h
    · cases h
    · rename_i e0
      split at h
      · cases h
      · rename_i hi0
        split at h
        · rename_i hw
          subst hw
          split at h
          · split at h
            · rename_i hc
              cases h
              obtain ⟨rfl, h0, h1, h2⟩ := hc
              exact .fed _ _ _ _ h0 h1 h2
            · cases h
          · cases h
        · split at h
          · cases h
          · rename_i hi1
            split at h
            · rename_i hw
              subst hw
              split at h
              · split at h
                · rename_i hi2
                  subst hi2
                  obtain ⟨st2, h1, rfl⟩ := Option.map_eq_some_iff.1 h
                  obtain ⟨st1, h2, h3⟩ := Option.bind_eq_some_iff.1 h1
                  exact .marks _ _ _ _ _ h2 h3
                · cases h
              · cases h
            · split at h
              · cases h
              · rename_i hi2
                split at h
                · rename_i hw
                  subst hw
                  split at h
                  · split at h
                    · rename_i hp
                      cases h
                      exact .row _ (by omega) _ _ _ _ _ _ hp
                    · cases h
                  · cases h
                · split at h
                  · rename_i hw
                    subst hw
                    obtain ⟨x, h1, rfl⟩ := Option.map_eq_some_iff.1 h
                    exact .out _ (by omega) _ _ _ h1
                  · cases h
theorem lineE_ok {i : Nat} {nm : List UInt8} {n : List Int} {e : Option ESt} {e' : ESt} (h : lineE i nm n e = some e') (ho : ∀ x, e = some x → LnOk i x) : LnOk (i + 1) e' := by
  cases lineE_is h with
  | plan a b c e hc => exact ⟨checkI_ok hc, Nat.zero_le _, Nat.zero_le _, Nat.zero_le _⟩
  | fed a b c e => obtain ⟨h1, h2, h3, h4⟩ := ho _ rfl; exact ⟨h1, h2, h3, by show e.V.length ≤ _; omega⟩
  | marks x y e st1 st2 m1 m2 =>
    obtain ⟨h1, h2, h3, h4⟩ := ho _ rfl
    have k1 := moveE_len m1
    have k2 := moveE_len m2
    exact ⟨h1, by show st2.a.length ≤ _; omega, by show st2.b.length ≤ _; omega, by show e.V.length ≤ _; omega⟩
  | row i hi s k t v m e hp =>
    obtain ⟨h1, h2, h3, h4⟩ := ho _ rfl
    exact ⟨h1, (putE2_len hp h2 h3).1, (putE2_len hp h2 h3).2, by show e.V.length ≤ _; omega⟩
  | out i hi n e x =>
    obtain ⟨h1, h2, h3, h4⟩ := ho _ rfl
    exact ⟨h1, h2, h3, by show (x :: e.V).length ≤ _; rw [List.length_cons]; omega⟩
/-- A line that may be is loaded. -/
theorem ldLine {u : World} {B C L : Nat} {e : Option ESt} {e' : ESt} (h : LdC u B C L e) (i : Nat) (hi : i < 800000) (s : ByteArray) (n : List Int) (a : Option Addr) (cap : Nat) (hnum : NumsIn u L a n) (ha : ∀ g, a = some ⟨g, 0, none⟩ → C ≤ g)
    (ho : ∀ x, e = some x → LnOk i x) (h0 : i = 0 → e = none) (hl : lineE i s.data.toList n e = some e') :
    Calls Tryz.prog 53 #[.pointer (some ⟨L, 0, none⟩), .int .i64 i, .string s, .slice a n.length cap] u fun r u' => r = .returned (.tuple #[]) ∧ LdAt u' B L (some e') ∧ Plan.ExtF B u u' := by
  obtain ⟨⟨l⟩⟩ := s
  have hl : lineE i l n e = some e' := hl
  cases lineE_is hl with
  | plan b c d e hc => obtain rfl := h0 rfl; exact ldPlan h b c d a cap hnum hc
  | fed b c d e q0 q1 q2 => exact ldFed h b c d a cap hnum ha q0 q1 q2
  | marks x y e st1 st2 m1 m2 =>
    obtain ⟨h1, h2, h3, h4⟩ := ho _ rfl
    exact ldMarks h x y a cap hnum ha h1 (by omega) (by omega) m1 m2
  | row i hi3 s k t v m e hp => exact ldRow h i (by omega) s k t v m a cap hnum ha hp
  | out i hi3 n e x hx =>
    obtain ⟨h1, h2, h3, h4⟩ := ho _ rfl
    exact ldOut h i (by omega) n a cap hnum ha (by omega) x hx
end Go.Proofs.YtmcgnnmffeojpaaGreatDoor
