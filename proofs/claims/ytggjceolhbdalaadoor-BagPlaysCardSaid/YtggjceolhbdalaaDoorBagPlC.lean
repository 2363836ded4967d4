/- A bag and the reference's beside each other: what each call leaves of both; the law's own sameOuts. -/
import Derived.Test.YtggjceolhbdalaaDoorRBagS
import Derived.Test.YtggjceolhbdalaaDoorBagSep
namespace Go.Plan
/-- What was below N is as it was; a cell of which this holds is as it was, and it goes on holding. -/
def ExtG (N B : Nat) (G : World → Prop) (w w' : World) : Prop := ExtM (fun k => N ≤ k) w w' ∧ (G w → G w' ∧ w'.cell? ⟨B, 0, none⟩ = w.cell? ⟨B, 0, none⟩)
section
variable {N B : Nat} {G : World → Prop}
theorem ExtG.refl (w : World) : ExtG N B G w w := ⟨ExtM.refl w, fun h => ⟨h, rfl⟩⟩
theorem ExtG.trans (a b c : World) (h : ExtG N B G a b) (k : ExtG N B G b c) : ExtG N B G a c :=
  ⟨ExtM.trans _ _ _ h.1 k.1, fun g => ⟨(k.2 (h.2 g).1).1, (k.2 (h.2 g).1).2.trans (h.2 g).2⟩⟩
instance : Std.Refl (ExtG N B G) := ⟨ExtG.refl⟩
instance : Trans (ExtG N B G) (ExtG N B G) (ExtG N B G) := ⟨fun h k => ExtG.trans _ _ _ h k⟩
theorem ExtG.size {w w' : World} (h : ExtG N B G w w') : w.heap.size ≤ w'.heap.size := ExtM.size h.1
theorem ExtG.rules {w w' : World} (h : ExtG N B G w w') : (∀ b o, b < w.heap.size → b < N → w'.cell? ⟨b, o, none⟩ = w.cell? ⟨b, o, none⟩) ∧ (∀ b o, b < w.heap.size → b < N → w'.frozen? ⟨b, o, none⟩ = w.frozen? ⟨b, o, none⟩) ∧ True :=
  ⟨fun b o hb hm => ExtM.cell h.1 (p := ⟨b, o, none⟩) hb (by simp; exact hm), fun b o hb hm => ExtM.frozen h.1 (p := ⟨b, o, none⟩) hb (by simp; exact hm), trivial⟩
@[go_sem] theorem cell?_extG (w p : World) (b o : Nat) (hb : b < w.heap.size) (hm : b < N) : (Plan.ext (ExtG N B G) w p).cell? ⟨b, o, none⟩ = w.cell? ⟨b, o, none⟩ := (ext_E ExtG.refl w p).rules.1 b o hb hm
@[go_sem] theorem cell?_extG_drew (w p : World) (b o : Nat) (hb : b < w.heap.size) (hm : b < N) : (Plan.ext (ExtG N B G) w.drew p).cell? ⟨b, o, none⟩ = w.cell? ⟨b, o, none⟩ := cell?_extG w.drew p b o hb hm
@[go_sem] theorem cell?_extG' (w p : World) (hg : G w) : (Plan.ext (ExtG N B G) w p).cell? ⟨B, 0, none⟩ = w.cell? ⟨B, 0, none⟩ := ((ext_E ExtG.refl w p).2 hg).2
end
end Go.Plan
namespace Go.Proofs.YtggjceolhbdalaaDoor
open Go.RowKit Go.Plan

/-- A bag at A, the reference's at B; none of all that lies in another's block; what was in w has not turned. -/
structure BPx (w u : World) (A B : Nat) (D : Option Nat) (v : Value) (l r : List Out) : Prop where
  ext : Ext w u
  bag : BagIs u A 0 D l
  ref : RB u B v r
  fA : ∀ k, bagM A D k → w.heap.size ≤ k ∧ k ≠ B ∧ v.ownBlock ≠ some k
  nB : w.heap.size ≤ B
  nv : ∀ k, v.ownBlock = some k → w.heap.size ≤ k
def BP (w u : World) (A B : Nat) (l r : List Out) : Prop := ∃ D v, BPx w u A B D v l r
section
variable {w u u' : World} {A B : Nat} {D : Option Nat} {v : Value} {l r : List Out}
theorem BPx.of (h : BPx w u A B D v l r) (hx : Ext u u') : BPx w u' A B D v l r :=
  ⟨ExtM.trans _ _ _ h.ext hx, h.bag.of hx (fun h => h) (fun _ _ h => h), h.ref.of hx, h.fA, h.nB, h.nv⟩
theorem BP.of (h : BP w u A B l r) (hx : Ext u u') : BP w u' A B l r := by
  obtain ⟨D, v, h⟩ := h; exact ⟨D, v, h.of hx⟩
theorem BP.ext (h : BP w u A B l r) : Ext w u := by
  obtain ⟨D, v, h⟩ := h; exact h.ext
theorem BP.perm {l' : List Out} (h : BP w u A B l r) (hp : l.Perm l') : BP w u A B l' r := by
  obtain ⟨D, v, h⟩ := h; exact ⟨D, v, h.ext, h.bag.perm hp, h.ref, h.fA, h.nB, h.nv⟩
/-- The reference's bag has these. -/
def HasR (B : Nat) (r : List Out) (u : World) : Prop := ∃ v, RB u B v r
theorem HasR.of (h : HasR B r u) (hx : Ext u u') : HasR B r u' := by
  obtain ⟨v, h⟩ := h; exact ⟨v, h.of hx⟩
theorem BP.has (h : BP w u A B l r) : HasR B r u := by
  obtain ⟨D, v, h⟩ := h; exact ⟨v, h.ref⟩
theorem BP.cell (h : BP w u A B l r) : ∃ p cap, u.cell? ⟨B, 0, none⟩ = some (.slice p r.length cap) ∧ B < u.heap.size := by
  obtain ⟨D, v, h⟩ := h
  obtain ⟨p, cap, rfl, -⟩ := own_slice h.ref.row
  exact ⟨p, cap, h.ref.c0, h.ref.lt⟩
/-- Rows that are two lists are one. -/
theorem HasR.same (h : HasR B r u) {r' : List Out} (h' : HasR B r' u) : r = r' := by
  obtain ⟨v, h⟩ := h
  obtain ⟨v', h'⟩ := h'
  obtain rfl : v = v' := Option.some.inj (h.c0.symm.trans h'.c0)
  obtain ⟨p, c, rfl, hc, ho⟩ := OutsOf.own h.row rfl
  obtain ⟨p', c', e, hc', ho'⟩ := OutsOf.own h'.row rfl
  simp only [Value.slice.injEq] at e
  obtain ⟨rfl, hl, rfl⟩ := e
  rcases ho with rfl | ⟨b, rfl, ho⟩
  · exact (List.eq_nil_of_length_eq_zero hl.symm).symm
  rcases ho' with rfl | ⟨b', e', ho'⟩
  · exact List.eq_nil_of_length_eq_zero hl
  simp only [Option.some.injEq, Addr.mk.injEq, and_true] at e'
  subst e'
  refine List.ext_getElem hl fun i h1 h2 => ?_
  have a := ho i h1
  have c := ho' i h2
  generalize r[i] = x at *
  generalize r'[i] = y at *
  obtain ⟨x1, ⟨x2, x3, x4⟩, ⟨x5, x6, x7⟩, x8, x9⟩ := x
  obtain ⟨y1, ⟨y2, y3, y4⟩, ⟨y5, y6, y7⟩, y8, y9⟩ := y
  have e0 := Option.some.inj (a.e0.symm.trans c.e0)
  have e1 := Option.some.inj (a.e1.symm.trans c.e1)
  have e2 := Option.some.inj (a.e2.symm.trans c.e2)
  have e3 := Option.some.inj (a.e3.symm.trans c.e3)
  have e4 := Option.some.inj (a.e4.symm.trans c.e4)
  have e5 := Option.some.inj (a.e5.symm.trans c.e5)
  have e6 := Option.some.inj (a.e6.symm.trans c.e6)
  have e7 := Option.some.inj (a.e7.symm.trans c.e7)
  have e8 := Option.some.inj (a.e8.symm.trans c.e8)
  simp only [Value.int.injEq, Value.bool.injEq, true_and] at e0 e1 e2 e3 e4 e5 e6 e7 e8
  simp only [Out.mk.injEq, Row.mk.injEq]
  exact ⟨e0, ⟨e1, e2, e3⟩, ⟨e4, e5, e6⟩, e7, e8⟩

theorem BPx.bag_up {D' : Option Nat} {l' : List Out} (h : BPx w u A B D v l r) (hg : Grew u D D') (hx : ExtM (bagM A D) u u') (hb : BagIs u' A 0 D' l') : BPx w u' A B D' v l' r := by
  have hsz := h.ext.size
  refine ⟨fresh_M h.ext hx (fun k hk e => by have := (h.fA k e).1; show False; omega), hb, h.ref.extM hx (fun e => (h.fA B e).2.1 rfl) (fun k hk e => (h.fA k e).2.2 hk), fun k hk => ?_, h.nB, h.nv⟩
  rcases hg with rfl | ⟨rfl, d, rfl, hd⟩
  · exact h.fA k hk
  · rcases hk with rfl | hk
    · exact h.fA _ (.inl rfl)
    · obtain rfl := Option.some.inj hk
      exact ⟨by omega, fun e => by have := h.ref.lt; omega, fun e => by have := (own_lt h.ref.row _ e).2; omega⟩
theorem BPx.ref_up {r' : List Out} (h : BPx w u A B D v l r) (hu : RBUp u u' B v r') : BP w u' A B l r' := by
  obtain ⟨⟨v', hr, ho⟩, hx⟩ := hu
  have hsz := h.ext.size
  have hd : ∀ k, bagM A D k → ¬ (k = B ∨ v.ownBlock = some k) := fun k hk e => e.elim (h.fA k hk).2.1 (h.fA k hk).2.2
  refine ⟨D, v', fresh_M h.ext hx (fun k hk e => ?_), h.bag.of hx (hd A (.inl rfl)) (fun d hd' => hd d (.inr hd')), hr, fun k hk => ⟨(h.fA k hk).1, (h.fA k hk).2.1, fun e => ?_⟩, h.nB, fun k hk => ?_⟩
  · show False
    rcases e with e | e
    · have := h.nB; omega
    · have := h.nv k e; omega
  · rcases ho with ho | ⟨k', ho, hn⟩
    · exact (h.fA k hk).2.2 (ho ▸ e)
    · rw [ho] at e
      have := Option.some.inj e
      have := h.bag.foot k hk
      omega
  · rcases ho with ho | ⟨k', ho, hn⟩
    · exact h.nv k (ho ▸ hk)
    · rw [ho] at hk
      have := Option.some.inj hk
      omega

theorem bp_keep (h : BP w u A B l r) {M : Nat → Prop} (hx : ExtM M u u') (hM : ∀ k, M k → w.heap.size ≤ k) : ExtM (fun k => w.heap.size ≤ k) u u' := hx.mono fun k _ hk => hM k hk

theorem bp_add (h : BP w u A B l r) (x : Out) (hx : x.ok) (hl : l.length < 1000000) {G : World → Prop} (hG : ¬ G u) :
    Calls Tryd.prog 20 #[.pointer (some ⟨A, 0, none⟩), encC x false] u fun e u' => e = .returned .nilIface ∧ ExtG w.heap.size B G u u' ∧ BP w u' A B (x :: l) r := by
  obtain ⟨D, v, h⟩ := h
  refine (bagAdd A 0 D l x u h.bag hx (by omega)).mono ?_
  rintro e u' ⟨he, D', hg, hm, hb⟩
  exact ⟨he, ⟨hm.mono fun k _ hk => (h.fA k hk).1, fun g => absurd g hG⟩, D', v, h.bag_up hg hm hb⟩
theorem bp_less (h : BP w u A B l r) (x : Out) (hx : x ∈ l) (hl : l.length < 1000000) {G : World → Prop} (hG : ¬ G u) :
    Calls Tryd.prog 20 #[.pointer (some ⟨A, 0, none⟩), encC x true] u fun e u' => e = .returned .nilIface ∧ ExtG w.heap.size B G u u' ∧ BP w u' A B (l.erase x) r := by
  obtain ⟨D, v, h⟩ := h
  refine (bagLess A 0 D l x u h.bag hx (by omega)).mono ?_
  rintro e u' ⟨he, hm, hb⟩
  exact ⟨he, ⟨hm.mono fun k _ hk => (h.fA k hk).1, fun g => absurd g hG⟩, D, v, h.bag_up (.inl rfl) hm hb⟩
theorem ExtG.of_has {N : Nat} (hB : B < u.heap.size) (hx : Ext u u') : ExtG N B (HasR B r) u u' :=
  ⟨hx.mono (fun _ _ h => h.elim), fun g => ⟨g.of hx, hx.cell (p := ⟨B, 0, none⟩) hB (fun h => h)⟩⟩
theorem ExtG.of_ext {N : Nat} (hx : Ext u u') : ExtG N B (HasR B r) u u' :=
  ⟨hx.mono (fun _ _ h => h.elim), fun g => ⟨g.of hx, by obtain ⟨v, g⟩ := g; exact hx.cell (p := ⟨B, 0, none⟩) g.lt (fun h => h)⟩⟩
theorem ExtG.drew {N : Nat} {a : World} (h : ExtG N B (HasR B r) a u) : ExtG N B (HasR B r) a u.drew := ExtG.trans _ _ _ h (ExtG.of_ext ((ExtM.refl u).drew))
theorem bp_none (h : BP w u A B l r) (x : Out) (hok : x.ok) (hx : x ∉ l) :
    Calls Tryd.prog 20 #[.pointer (some ⟨A, 0, none⟩), encC x true] u fun e u' => e = .returned (.iface 30 (.int .i64 8)) ∧ Ext u u' := by
  obtain ⟨D, v, h⟩ := h
  exact bagNone A 0 D l x u h.bag hok hx
theorem bp_radd (h : BP w u A B l r) (x : Out) (hl : r.length < 1000000) {G : World → Prop} (hG : ¬ G u) :
    Calls Tryd.prog 21 #[.pointer (some ⟨B, 0, none⟩), encC x false] u fun e u' => e = .returned (.int .i64 0) ∧ ExtG w.heap.size B G u u' ∧ BP w u' A B l (r ++ [x]) := by
  obtain ⟨D, v, h⟩ := h
  refine (rapplyAdd_c B v r x u h.ref hl).mono ?_
  rintro e u' ⟨he, hu⟩
  exact ⟨he, ⟨hu.2.mono fun k _ hk => hk.elim (fun e => e ▸ h.nB) (h.nv k), fun g => absurd g hG⟩, h.ref_up hu⟩
theorem bp_rless (h : BP w u A B l r) (x : Out) (hx : x ∈ r) (hl : r.length < 1000000) {G : World → Prop} (hG : ¬ G u) :
    Calls Tryd.prog 21 #[.pointer (some ⟨B, 0, none⟩), encC x true] u fun e u' => e = .returned (.int .i64 0) ∧ ExtG w.heap.size B G u u' ∧ BP w u' A B l (r.erase x) := by
  obtain ⟨D, v, h⟩ := h
  refine (rapplyDel_c B v r x u h.ref hl).mono ?_
  rintro e u' ⟨he, hu, -⟩
  rw [show bagE x r = 0 from if_pos hx] at he
  exact ⟨he, ⟨hu.2.mono fun k _ hk => hk.elim (fun e => e ▸ h.nB) (h.nv k), fun g => absurd g hG⟩, h.ref_up hu⟩
theorem bp_rnone (h : BP w u A B l r) (x : Out) (hx : x ∉ r) (hl : r.length < 1000000) :
    Calls Tryd.prog 21 #[.pointer (some ⟨B, 0, none⟩), encC x true] u fun e u' => e = .returned (.int .i64 8) ∧ Ext u u' := by
  obtain ⟨D, v, h⟩ := h
  refine (rapplyDel_c B v r x u h.ref hl).mono ?_
  rintro e u' ⟨he, -, hx'⟩
  rw [show bagE x r = 8 from if_neg hx] at he
  exact ⟨he, hx' hx⟩
theorem bp_many (h : BP w u A B l r) (x : Out) (hx : x.ok) (n : Nat) (hn : l.count x = n) :
    Calls Tryd.prog 22 #[.pointer (some ⟨A, 0, none⟩), encO x] u fun e u' => e = .returned (.int .i64 (n : Nat)) ∧ Ext u u' := by
  subst hn
  obtain ⟨D, v, h⟩ := h
  exact bagMany_c A 0 D l x u h.bag hx
theorem bp_rmany (h : BP w u A B l r) (x : Out) (hl : r.length < 1000000) (n : Nat) (hn : r.count x = n) :
    Calls Tryd.prog 23 #[.pointer (some ⟨B, 0, none⟩), encO x] u fun e u' => e = .returned (.int .i64 (n : Nat)) ∧ Ext u u' := by
  subst hn
  obtain ⟨D, v, h⟩ := h
  exact rmany_c B v r x u h.ref hl
theorem bp_rmany' (h : BP w u A B l r) (x : Out) (hl : r.length < 1000000) (n m : Nat) (hn : r.count x = n) (hm : r.length = m) :
    Calls Tryd.prog 23 #[.pointer (some ⟨B, 0, none⟩), encO x] u fun e u' => e = .returned (.int .i64 (n : Nat)) ∧ Ext u u' ∧ ∃ p cap, u'.cell? ⟨B, 0, none⟩ = some (.slice p m cap) ∧ B < u'.heap.size ∧ HasR B r u' := by
  subst hm
  refine (bp_rmany h x hl n hn).mono ?_
  rintro e u' ⟨he, hx⟩
  obtain ⟨p, cap, hc, hb⟩ := (h.of hx).cell
  exact ⟨he, hx, p, cap, hc, hb, (h.of hx).has⟩
theorem bp_size (h : BP w u A B l r) (n : Nat) (hn : l.length = n) :
    Calls Tryd.prog 24 #[.pointer (some ⟨A, 0, none⟩)] u fun e u' => e = .returned (.int .i64 (n : Int)) ∧ Ext u u' := by
  subst hn
  obtain ⟨D, v, h⟩ := h
  exact (bagSize_c A 0 D l u h.bag).mono fun e u' hh => ⟨hh.1, hh.2 ▸ ExtM.refl _⟩
theorem bp_all (h : BP w u A B l r) (hl : l.length < 1000000) (n : Nat) (hn : l.length = n) :
    Calls Tryd.prog 26 #[.pointer (some ⟨A, 0, none⟩)] u fun e u' => ∃ p cap, e = .returned (.slice p n cap) ∧ Ext u u' ∧ OutsOf u' p (sortO l) := by
  subst hn
  obtain ⟨D, v, h⟩ := h
  refine (bagAll A 0 D l u h.bag hl).mono ?_
  rintro e u' ⟨p, cap, h1, h2, h3⟩
  rw [sortO_length] at h1
  refine ⟨p, cap, h1, h2, ?_⟩
  rcases h3 with h | ⟨b, hp, -, -, ho⟩
  · exact .inl h
  · exact .inr ⟨b, hp, fun i hi => by
      have := OutsAt.elem' ho i (by simpa using hi)
      rwa [getElem!_pos _ i (by simpa using hi)] at this⟩
theorem bp_sorted (h : BP w u A B l r) (hl : r.length < 1000000) (n : Nat) (hn : r.length = n) :
    Calls Tryd.prog 27 #[.pointer (some ⟨B, 0, none⟩)] u fun e u' => ∃ p cap, e = .returned (.slice p n cap) ∧ Ext u u' ∧ OutsOf u' p (sortO r) := by
  subst hn
  obtain ⟨D, v, h⟩ := h
  exact rsorted_c B v r u h.ref hl
end

set_option maxRecDepth 100000 in
set_option maxHeartbeats 4000000 in
theorem sameOuts_c (p1 p2 : Option Addr) (c1 c2 n : Nat) (l : List Out) (w : World) (h1 : OutsOf w p1 l) (h2 : OutsOf w p2 l) (hn : l.length = n) (hl : n < 1000000000) :
    Calls Tryd.prog 25 #[.slice p1 n c1, .slice p2 n c2] w fun e w' => e = .returned (.bool true) ∧ Ext w w' := by
  have HN := Lib.hid hn
  clear hn
  go_enter Tryd.func25, Tryd.ntmps25
  go_wp2_with fail
  go_loopg [5] (n + 1) (fun kx s5 wr => ∃ k : Nat, s5 = .int .i64 k ∧ k ≤ n ∧ n - k ≤ kx ∧ Ext w wr)
  case atStart => exact ⟨0, rfl, by omega, by omega, ExtM.refl _⟩
  case round =>
    obtain ⟨k, rfl, hk, hgk, hx⟩ := hrel
    by_cases hkl : k < n
    · have hks : k < l.length := by rw [HN.out]; exact hkl
      rcases h1.of hx with ho1 | ⟨b1, rfl, ho1⟩
      · rw [ho1] at hks; simp at hks
      rcases h2.of hx with ho2 | ⟨b2, rfl, ho2⟩
      · rw [ho2] at hks; simp at hks
      have el1 := ho1 k hks
      have el2 := ho2 k hks
      have lb1 := el1.lt
      have lb2 := el2.lt
      generalize l[k] = y at el1 el2
      have hne := fun u => neq_out_self y u
      obtain ⟨e0, e1, e2, e3, e4, e5, e6, e7, e8⟩ := id el1
      obtain ⟨g0, g1, g2, g3, g4, g5, g6, g7, g8⟩ := id el2
      clear el1 el2 ho1 ho2 hks h1 h2
      go_wp2_with fail
      refine Plan.begin Plan.Ext 9 rfl (by kernel_rfl) ?_
      refine Plan.left_q 0 (by rfl) (by kernel_rfl) ?_; go_big_quiet_step (fail); refine wpQuiet_nil ?_
      refine Plan.left_q 1 (by rfl) (by kernel_rfl) ?_; go_big_quiet_step (fail); refine wpQuiet_nil ?_
      refine Plan.left_q 2 (by rfl) (by kernel_rfl) ?_; go_big_quiet_step (fail); refine wpQuiet_nil ?_
      refine Plan.left_q 3 (by rfl) (by kernel_rfl) ?_; go_big_quiet_step (fail); refine wpQuiet_nil ?_
      refine Plan.left_q 4 (by rfl) (by kernel_rfl) ?_; go_big_quiet_step (fail); refine wpQuiet_nil ?_
      refine Plan.left_q 5 (by rfl) (by kernel_rfl) ?_; go_big_quiet_step (fail); refine wpQuiet_nil ?_
      refine Plan.left_q 6 (by rfl) (by kernel_rfl) ?_; go_big_quiet_step (fail); refine wpQuiet_nil ?_
      refine Plan.left_q 7 (by rfl) (by kernel_rfl) ?_; go_big_quiet_step (fail); refine wpQuiet_nil ?_
      refine Plan.left_q 8 (by rfl) (by kernel_rfl) ?_; go_big_quiet_step (fail); refine wpQuiet_nil ?_
      refine Plan.left_done (by kernel_rfl) ?_
      clear e0 e1 e2 e3 e4 e5 e6 e7 e8 g0 g1 g2 g3 g4 g5 g6 g7 g8 hne
      go_wp2_with fail
      go_roundg (n - (k + 1))
      case measure => omega
      case rel => exact ⟨k + 1, by go_num, by omega, Nat.le_refl _, hx.drew⟩
    · have hz : decide (k < n) = false := by simp; omega
      go_wp2_with fail
      go_ret
      exact ⟨rfl, hx⟩
end Go.Proofs.YtggjceolhbdalaaDoor
