/- The law BagBack: what its walk wants. -/
import Derived.Test.YtggjceolhbdalaaBagSep
import Derived.Test.YtggjceolhbdalaaPick
namespace Go.Proofs.Ytggjceolhbdalaa
open Go.RowKit Go.Plan

/-- What 'counted' counts. -/
def cX : Out := ⟨1, ⟨1, 0, 0⟩, ⟨0, 0, 0⟩, true, false⟩
theorem cX_ok : cX.ok := by unfold Out.ok Row.ok I64 cX; decide

set_option maxRecDepth 100000 in
set_option maxHeartbeats 4000000 in
theorem counted_c (w : World) : Calls Try.prog 5 #[] w fun e w' => e = .returned (.bool true) ∧ Ext w w' := by
  go_enter Try.func5, Try.ntmps5
  go_wp2_with fail
  have hb := BagIs.new w 26
  have hx : Ext w (w.alloc (.cells #[.map none, .int .i64 0] 26)) := (ExtM.refl _).alloc _
  have hs : w.heap.size < (w.alloc (.cells #[.map none, .int .i64 0] 26)).heap.size := by rw [World.size_alloc]; omega
  generalize w.alloc (.cells #[.map none, .int .i64 0] 26) = w0 at *
  refine (lone0_c 1 0 0 _).mono ?_
  rintro e w1 ⟨rfl, h1⟩
  replace hb := hb.of h1 id (fun _ _ => id)
  replace hx := ExtM.trans _ _ _ hx h1
  replace hs := Nat.lt_of_lt_of_le hs h1.size
  clear h1
  go_wp2_with fail
  have bx : BoxO (w1.alloc (.cells #[.int .i64 1, .int .i64 1, .int .i64 0, .int .i64 0, .int .i64 0, .int .i64 0, .int .i64 0, .bool true, .bool false] 33)) w1.heap.size cX := BoxO.mk' w1 cX 33
  have x1 : Ext w1 (w1.alloc (.cells #[.int .i64 1, .int .i64 1, .int .i64 0, .int .i64 0, .int .i64 0, .int .i64 0, .int .i64 0, .bool true, .bool false] 33)) := (ExtM.refl _).alloc _
  replace hb := hb.of x1 id (fun _ _ => id)
  replace hx := ExtM.trans _ _ _ hx x1
  clear x1
  generalize w1.alloc (.cells #[.int .i64 1, .int .i64 1, .int .i64 0, .int .i64 0, .int .i64 0, .int .i64 0, .int .i64 0, .bool true, .bool false] 33) = w2 at *
  generalize w1.heap.size = n2 at *
  have hn2 := bx.lt
  refine (bagAddNil_c w.heap.size 0 cX w2 hb cX_ok).mono ?_
  rintro e w3 ⟨rfl, d, hd, hM, hb3⟩
  have hF : Fresh w.heap.size w.heap.size (some d) := fun k hk => by
    rcases hk with rfl | hk
    · exact Nat.le_refl _
    · obtain rfl := Option.some.inj hk; omega
  have hx3 : Ext w w3 := Fresh.ext (DA := none) (fun k hk => by
    rcases hk with rfl | hk
    · exact Nat.le_refl _
    · cases hk) (Nat.le_refl _) hx hM
  have hb2 : ¬ bagM w.heap.size (some d) n2 := fun hk => by
    rcases hk with hk | hk
    · omega
    · have := Option.some.inj hk; omega
  have bx3 := bx.keep (hM.block n2 bx.lt (fun hk => by
    rcases hk with hk | hk
    · omega
    · cases hk))
  clear hM hx hb bx hd hn2 hs
  obtain ⟨e0, e1, e2, e3, e4, e5, e6, e7, e8⟩ := id bx3
  go_wp2_with fail
  clear e0 e1 e2 e3 e4 e5 e6 e7 e8
  refine (bagAdd_c w.heap.size 0 d [cX] cX w3 hb3 cX_ok (by decide)).mono ?_
  rintro e w4 ⟨rfl, hM, hb4⟩
  have hx4 := hF.ext (Nat.le_refl _) hx3 hM
  have bx4 := bx3.keep (hM.block n2 bx3.lt hb2)
  clear hM hx3 bx3 hb3
  obtain ⟨e0, e1, e2, e3, e4, e5, e6, e7, e8⟩ := id bx4
  go_wp2_with fail
  clear e0 e1 e2 e3 e4 e5 e6 e7 e8
  refine (bagDec_c w.heap.size 0 d [cX, cX] cX w4 hb4 cX_ok (by decide) (by decide)).mono ?_
  rintro e w5 ⟨rfl, hM, hb5⟩
  have hx5 := hF.ext (Nat.le_refl _) hx4 hM
  have bx5 := bx4.keep (hM.block n2 bx4.lt hb2)
  clear hM hx4 bx4 hb4
  have el : [cX, cX].erase cX = [cX] := by decide
  rw [el] at hb5
  obtain ⟨e0, e1, e2, e3, e4, e5, e6, e7, e8⟩ := id bx5
  go_wp2_with fail
  clear e0 e1 e2 e3 e4 e5 e6 e7 e8
  refine (bagMany_c w.heap.size 0 (some d) [cX] cX w5 hb5 cX_ok).mono ?_
  rintro e w6 ⟨rfl, h6⟩
  have hb6 := hb5.of h6 id (fun _ _ => id)
  have ec : (([cX] : List Out).count cX : Nat) = 1 := by decide
  rw [ec]
  clear bx5 hb5
  go_wp2_with fail
  refine (bagSize_c w.heap.size 0 (some d) [cX] w6 hb6).mono ?_
  rintro e w7 ⟨rfl, rfl⟩
  go_wp2_with fail
  refine (bagAll w.heap.size 0 (some d) [cX] w6 hb6 (by decide)).mono ?_
  rintro e w8 ⟨p, cap, rfl, h8, -⟩
  have es : (sortO [cX]).length = 1 := by rw [sortO_length]; rfl
  rw [es]
  go_wp2_with fail
  go_ret
  exact ⟨rfl, ExtM.trans _ _ _ (ExtM.trans _ _ _ hx5 h6) h8⟩

/-- An Out's cells at ⟨b, a⟩. -/
structure ElemAt (w : World) (b a : Nat) (x : Out) : Prop where
  e0 : w.cell? ⟨b, a, none⟩ = some (.int .i64 x.key)
  e1 : w.cell? ⟨b, a + 1, none⟩ = some (.int .i64 x.l.k)
  e2 : w.cell? ⟨b, a + 2, none⟩ = some (.int .i64 x.l.t)
  e3 : w.cell? ⟨b, a + 3, none⟩ = some (.int .i64 x.l.v)
  e4 : w.cell? ⟨b, a + 4, none⟩ = some (.int .i64 x.r.k)
  e5 : w.cell? ⟨b, a + 5, none⟩ = some (.int .i64 x.r.t)
  e6 : w.cell? ⟨b, a + 6, none⟩ = some (.int .i64 x.r.v)
  e7 : w.cell? ⟨b, a + 7, none⟩ = some (.bool x.hl)
  e8 : w.cell? ⟨b, a + 8, none⟩ = some (.bool x.hr)
theorem ElemAt.of {w w' : World} {b a : Nat} {x : Out} (h : ElemAt w b a x) (hx : Ext w w') : ElemAt w' b a x := by
  have hl : b < w.heap.size := cell_lt' h.e0
  have r : ∀ i, w'.cell? ⟨b, i, none⟩ = w.cell? ⟨b, i, none⟩ := fun i => hx.cell (p := ⟨b, i, none⟩) hl id
  exact ⟨(r _).trans h.e0, (r _).trans h.e1, (r _).trans h.e2, (r _).trans h.e3, (r _).trans h.e4, (r _).trans h.e5, (r _).trans h.e6, (r _).trans h.e7, (r _).trans h.e8⟩
theorem ElemAt.lt {w : World} {b a : Nat} {x : Out} (h : ElemAt w b a x) : b < w.heap.size := cell_lt' h.e0

/-- A slice that came in holds these. -/
def OutsIn (w : World) (p : Option Addr) (xs : List Out) : Prop := xs = [] ∨ ∃ b off, p = some ⟨b, off, none⟩ ∧ ∀ i (hi : i < xs.length), ElemAt w b (off + i * 9) (xs[i]'hi)

/-- From the r-th on, round. -/
def rot (r : Nat) (xs : List Out) : List Out := xs.drop r ++ xs.take r
theorem rot_perm (r : Nat) (xs : List Out) : (rot r xs).Perm xs := by
  unfold rot
  exact (List.perm_append_comm).trans (by rw [List.take_append_drop])
theorem rot_length (r : Nat) (xs : List Out) : (rot r xs).length = xs.length := (rot_perm r xs).length_eq
theorem rot_get (r : Nat) (xs : List Out) (hr : r < xs.length) (i : Nat) (hi : i < xs.length) : (rot r xs)[i]? = xs[(i + r) % xs.length]? := by
  unfold rot
  rcases Nat.lt_or_ge i (xs.length - r) with h | h
  · rw [List.getElem?_append_left (by simp; omega), List.getElem?_drop, Nat.mod_eq_of_lt (by omega), Nat.add_comm]
  · rw [List.getElem?_append_right (by simp; omega), List.length_drop, List.getElem?_take_of_lt (by omega)]
    congr 1
    rw [Nat.mod_eq_sub_mod (by omega), Nat.mod_eq_of_lt (by omega)]; omega

/-- Two bags of the call's own, at A and A + 1: they have these. -/
structure Two (w wr : World) (A : Nat) (p q : List Out) : Prop where
  ex : ∃ DA DB, BagIs wr A 0 DA p ∧ BagIs wr (A + 1) 0 DB q ∧ Fresh A A DA ∧ Fresh A (A + 1) DB ∧ Apart A DA (A + 1) DB
  ext : Ext w wr
  low : w.heap.size ≤ A
theorem Two.perm {w wr : World} {A : Nat} {p q p' q' : List Out} (h : Two w wr A p q) (hp : p.Perm p') (hq : q.Perm q') : Two w wr A p' q' := by
  obtain ⟨⟨DA, DB, h1, h2, h3⟩, h4, h5⟩ := h
  exact ⟨⟨DA, DB, h1.perm hp, h2.perm hq, h3⟩, h4, h5⟩
theorem Two.of {w wr w' : World} {A : Nat} {p q : List Out} (h : Two w wr A p q) (hx : Ext wr w') : Two w w' A p q := by
  obtain ⟨⟨DA, DB, h1, h2, h3⟩, h4, h5⟩ := h
  exact ⟨⟨DA, DB, h1.of hx id (fun _ _ => id), h2.of hx id (fun _ _ => id), h3⟩, ExtM.trans _ _ _ h4 hx, h5⟩
theorem Two.size {w wr : World} {A : Nat} {p q : List Out} (h : Two w wr A p q) : A + 1 < wr.heap.size := by
  obtain ⟨⟨DA, DB, h1, h2, h3⟩, h4, h5⟩ := h
  exact h2.ltB
theorem two_addA {w wr : World} {A : Nat} {p q : List Out} (h : Two w wr A p q) (x : Out) (hx : x.ok) (hl : p.length < 1000000000) :
    Calls Try.prog 6 #[.pointer (some ⟨A, 0, none⟩), encC x false] wr fun e w' => e = .returned .nilIface ∧ Two w w' A (x :: p) q := by
  have hs := h.size
  obtain ⟨⟨DA, DB, h1, h2, h3, h4, h5⟩, h6, h7⟩ := h
  refine (bagAdd A 0 DA p x wr h1 hx hl).mono fun e w' ⟨he, D', hg, hM, hb⟩ => ⟨he, ⟨⟨D', DB, hb, h2.other hM h5, h3.grew hg (by omega), h4, h5.grew hg h2⟩, h3.ext h7 h6 hM, h7⟩⟩
theorem two_addB {w wr : World} {A : Nat} {p q : List Out} (h : Two w wr A p q) (x : Out) (hx : x.ok) (hl : q.length < 1000000000) :
    Calls Try.prog 6 #[.pointer (some ⟨A + 1, 0, none⟩), encC x false] wr fun e w' => e = .returned .nilIface ∧ Two w w' A p (x :: q) := by
  have hs := h.size
  obtain ⟨⟨DA, DB, h1, h2, h3, h4, h5⟩, h6, h7⟩ := h
  refine (bagAdd (A + 1) 0 DB q x wr h2 hx hl).mono fun e w' ⟨he, D', hg, hM, hb⟩ => ⟨he, ⟨⟨DA, D', h1.other hM h5.symm, hb, h3, h4.grew hg (by omega), (h5.symm.grew hg h1).symm⟩, h4.ext h7 h6 hM, h7⟩⟩
theorem two_lessB {w wr : World} {A : Nat} {p q : List Out} (h : Two w wr A p q) (x : Out) (hx : x ∈ q) (hl : q.length < 1000000000) :
    Calls Try.prog 6 #[.pointer (some ⟨A + 1, 0, none⟩), encC x true] wr fun e w' => e = .returned .nilIface ∧ Two w w' A p (q.erase x) := by
  obtain ⟨⟨DA, DB, h1, h2, h3, h4, h5⟩, h6, h7⟩ := h
  refine (bagLess (A + 1) 0 DB q x wr h2 hx hl).mono fun e w' ⟨he, hM, hb⟩ => ⟨he, ⟨⟨DA, DB, h1.other hM h5.symm, hb, h3, h4, h5⟩, h4.ext h7 h6 hM, h7⟩⟩
theorem Two.new (w w1 : World) (hx : Ext w w1) (t : TypeId) : Two w ((w1.alloc (.cells #[.map none, .int .i64 0] t)).alloc (.cells #[.map none, .int .i64 0] t)) w1.heap.size [] [] := by
  refine ⟨⟨none, none, (BagIs.new w1 t).of ((ExtM.refl _).alloc _ : Ext _ _) id (fun _ _ => id), ?_, ?_, ?_, ?_⟩, (hx.alloc _).alloc _, hx.size⟩
  · have := BagIs.new (w1.alloc (.cells #[.map none, .int .i64 0] t)) t
    rwa [World.size_alloc] at this
  · intro k hk
    rcases hk with rfl | hk
    · exact Nat.le_refl _
    · cases hk
  · intro k hk
    rcases hk with rfl | hk
    · exact Nat.le_succ _
    · cases hk
  · intro k hk hb
    rcases hk with rfl | hk
    · rcases hb with hb | hb
      · omega
      · cases hb
    · cases hk

theorem take_snoc_perm {xs : List Out} {k : Nat} {x : Out} (h : xs[k]? = some x) : (x :: xs.take k).Perm (xs.take (k + 1)) := by
  obtain ⟨hk, rfl⟩ := List.getElem?_eq_some_iff.1 h
  rw [List.take_succ_eq_append_getElem hk]
  exact (List.perm_append_singleton _ _).symm

theorem two_allA {w wr : World} {A : Nat} {p q : List Out} (h : Two w wr A p q) (hl : p.length < 1000000) :
    Calls Try.prog 8 #[.pointer (some ⟨A, 0, none⟩)] wr (OutsV wr (sortO p)) := by
  obtain ⟨⟨DA, DB, h1, h2, h3⟩, h6, h7⟩ := h
  exact bagAll A 0 DA p wr h1 hl
theorem two_allB {w wr : World} {A : Nat} {p q : List Out} (h : Two w wr A p q) (hl : q.length < 1000000) :
    Calls Try.prog 8 #[.pointer (some ⟨A + 1, 0, none⟩)] wr (OutsV wr (sortO q)) := by
  obtain ⟨⟨DA, DB, h1, h2, h3⟩, h6, h7⟩ := h
  exact bagAll (A + 1) 0 DB q wr h2 hl
theorem two_sizeA {w wr : World} {A : Nat} {p q : List Out} (h : Two w wr A p q) :
    Calls Try.prog 9 #[.pointer (some ⟨A, 0, none⟩)] wr fun e w' => e = .returned (.int .i64 (p.length : Int)) ∧ wr = w' := by
  obtain ⟨⟨DA, DB, h1, h2, h3⟩, h6, h7⟩ := h
  exact bagSize_c A 0 DA p wr h1
theorem OutsAt.elem {w : World} {b : Nat} {l : List Out} (h : OutsAt w b 0 l) (i : Nat) (hi : i < l.length) : ElemAt w b (i * 9) (l[i]'hi) := by
  have r : ∀ c, c < 9 → w.cell? ⟨b, i * 9 + c, none⟩ = (l[i]'hi).cells[c]? := fun c hc => by
    have := (h.cell i c hi hc).1
    rwa [Nat.zero_add] at this
  exact ⟨r 0 (by omega), r 1 (by omega), r 2 (by omega), r 3 (by omega), r 4 (by omega), r 5 (by omega), r 6 (by omega), r 7 (by omega), r 8 (by omega)⟩
/-- A result holds these. -/
def OutsOf (w : World) (p : Option Addr) (l : List Out) : Prop := l = [] ∨ ∃ b, p = some ⟨b, 0, none⟩ ∧ ∀ i (hi : i < l.length), ElemAt w b (i * 9) (l[i]'hi)
theorem OutsOf.of {w w' : World} {p : Option Addr} {l : List Out} (h : OutsOf w p l) (hx : Ext w w') : OutsOf w' p l := by
  rcases h with h | ⟨b, h1, h2⟩
  · exact .inl h
  · exact .inr ⟨b, h1, fun i hi => (h2 i hi).of hx⟩
theorem OutsV.out {w : World} {l : List Out} {e : Ending} {w' : World} (h : OutsV w l e w') : ∃ p cap, e = .returned (.slice p l.length cap) ∧ Ext w w' ∧ OutsOf w' p l := by
  obtain ⟨p, cap, h1, h2, h3⟩ := h
  refine ⟨p, cap, h1, h2, ?_⟩
  rcases h3 with h | ⟨b, hp, -, -, ho⟩
  · exact .inl h
  · exact .inr ⟨b, hp, fun i hi => ho.elem i hi⟩
theorem neq_out_self (a : Out) (w : World) : (binOp .neq 33 (.agg #[.int .i64 a.key, .int .i64 a.l.k, .int .i64 a.l.t, .int .i64 a.l.v, .int .i64 a.r.k, .int .i64 a.r.t, .int .i64 a.r.v, .bool a.hl, .bool a.hr]) (.agg #[.int .i64 a.key, .int .i64 a.l.k, .int .i64 a.l.t, .int .i64 a.l.v, .int .i64 a.r.k, .int .i64 a.r.t, .int .i64 a.r.v, .bool a.hl, .bool a.hr])).run Try.prog w = .ok (.bool false) w := by
  obtain ⟨a1, ⟨a2, a3, a4⟩, ⟨a5, a6, a7⟩, a8, a9⟩ := a
  go_simp
end Go.Proofs.Ytggjceolhbdalaa
