/- Loading a text: the walk. -/
import Derived.Test.YtmcgnnmffeojpaaGreatDoorPk41
import Derived.Deep.DeepCutAuto
import Derived.Deep.CutBlock
/- Loading a text: what lines keep true, plainly; the words and numbers of a line. -/
namespace Go.Proofs.YtmcgnnmffeojpaaGreatDoor
open Go.RowKit Go.Plan

theorem outOk_ok {x : Out} (h : OutOk x) : (x.hl = true ∨ x.hr = true) ∧ x.ok := by
  rcases h with ⟨s, r, hs, hg, rfl⟩ | ⟨l, r, hl, hr, hk, rfl⟩
  · have := hg.i64
    have hs' : s = 0 ∨ s = 1 := by omega
    rcases hs' with rfl | rfl
    · exact ⟨.inl rfl, out_ok1 hg⟩
    · exact ⟨.inr rfl, out_ok2 hg⟩
  · exact ⟨.inl rfl, out_ok3 hl hr⟩
theorem outE_ok {n : List Int} {x : Out} (h : outE n = some x) : OutOk x := by
  unfold outE at h
  split at h
  · split at h
    · rename_i hh
      cases h
      have hg : goodR ⟨_, _, _⟩ := hh.2
      refine .inl ⟨_, _, ?_, hg, rfl⟩
      split <;> omega
    · cases h
  · split at h
    · rename_i hh
      cases h
      have h1 : goodR ⟨_, _, _⟩ := hh.2.1
      have h2 : goodR ⟨_, _, _⟩ := hh.2.2.1
      exact .inr ⟨_, _, h1, h2, hh.2.2.2, rfl⟩
    · cases h
  · cases h
def I64s (n : List Int) : Prop := ∀ k ∈ n, -9223372036854775808 ≤ k ∧ k ≤ 9223372036854775807
theorem numsE_i64 : ∀ (ws : List (List UInt8)) {n : List Int}, numsE ws = some n → I64s n
  | [], n, h => by cases h; exact fun _ h => nomatch h
  | w :: ws, n, h => by
    rw [numsE] at h
    split at h
    · rename_i k hk
      obtain ⟨m, hm, rfl⟩ := Option.map_eq_some_iff.1 h
      intro q hq
      rcases List.mem_cons.1 hq with rfl | hq
      · exact Lib.atoiAll_bounds hk
      · exact numsE_i64 ws hm q hq
    · cases h
theorem putE2_sok {s : Int} {x : Hd} {st : JSt} (hp : putE2 s x st = 0) (hm : x.m ≤ 9223372036854775807) (ha : ∀ h ∈ st.a, goodR h.r ∧ 0 ≤ h.m ∧ h.m ≤ 9223372036854775807) (hb : ∀ h ∈ st.b, goodR h.r ∧ 0 ≤ h.m ∧ h.m ≤ 9223372036854775807) :
    (∀ h ∈ (putJ s.toNat x st).a, goodR h.r ∧ 0 ≤ h.m ∧ h.m ≤ 9223372036854775807) ∧ (∀ h ∈ (putJ s.toNat x st).b, goodR h.r ∧ 0 ≤ h.m ∧ h.m ≤ 9223372036854775807) ∧ (putJ s.toNat x st).x = st.x ∧ (putJ s.toNat x st).y = st.y ∧ (putJ s.toNat x st).late = st.late := by
  have hgo : ∀ hs : List Hd, addE hs x = 0 → (∀ h ∈ hs, goodR h.r ∧ 0 ≤ h.m ∧ h.m ≤ 9223372036854775807) → ∀ h ∈ addL hs x, goodR h.r ∧ 0 ≤ h.m ∧ h.m ≤ 9223372036854775807 := by
    intro hs he hh y hy
    have hx : goodR x.r ∧ 0 ≤ x.m ∧ x.m ≤ 9223372036854775807 := by
      unfold addE at he
      split at he
      · cases he
      · rename_i hg
        simp only [Bool.and_eq_false_imp, Classical.not_imp, Bool.not_eq_false, decide_eq_true_eq] at hg
        exact ⟨hg.1, hg.2, hm⟩
    unfold addL at hy
    rw [if_pos he] at hy
    unfold addH insH at hy
    simp only [List.mem_append, List.mem_cons] at hy
    rcases hy with hy | rfl | hy
    · exact hh y (List.mem_of_mem_take hy)
    · exact hx
    · exact hh y (List.mem_of_mem_drop hy)
  unfold putE2 at hp
  split at hp
  · rename_i h0
    subst h0
    exact ⟨hgo _ hp ha, hb, rfl, rfl, rfl⟩
  · split at hp
    · rename_i h1
      subst h1
      exact ⟨ha, hgo _ hp hb, rfl, rfl, rfl⟩
    · cases hp
theorem moveE_sok {lo hi t : Int} {s : Nat} {st st' : JSt} (h : moveE lo hi s t st = some st') : (∀ g ∈ st'.a, g ∈ st.a) ∧ (∀ g ∈ st'.b, g ∈ st.b) ∧ (st'.x = st.x ∨ st'.x = t) ∧ (st'.y = st.y ∨ st'.y = t) ∧ st'.late = st.late := by
  unfold moveE at h
  split at h
  · cases h; exact ⟨fun _ h => h, fun _ h => h, .inl rfl, .inl rfl, rfl⟩
  · split at h
    · cases h
      unfold moveJ
      split
      · exact ⟨fun _ h => h, fun g hg => (List.mem_filter.1 hg).1, .inr rfl, .inl rfl, rfl⟩
      · exact ⟨fun g hg => (List.mem_filter.1 hg).1, fun _ h => h, .inl rfl, .inr rfl, rfl⟩
    · cases h
/-- A text can be made of what lines leave. -/
theorem lineE_sok {i : Nat} {nm : List UInt8} {n : List Int} {e : Option ESt} {e' : ESt} (h : lineE i nm n e = some e') (hn : I64s n) (ho : ∀ x, e = some x → SOk x ∧ LnOk i x) (hi : i < 800000) : SOk e' := by
  have hlen := lineE_ok h (fun x hx => (ho x hx).2)
  cases lineE_is h with
  | plan a b c e h =>
    have := hn a (by simp); have := hn b (by simp); have := hn c (by simp)
    refine ⟨?_, (fun _ h => nomatch h), (fun _ h => nomatch h), Nat.zero_le _, Nat.zero_le _, (fun _ h => nomatch h), Nat.zero_le _⟩
    intro k hk
    simp only [List.mem_cons, List.not_mem_nil, or_false] at hk
    omega
  | fed a b c e =>
    obtain ⟨hs, -⟩ := ho _ rfl
    have := hn a (by simp); have := hn b (by simp); have := hn c (by simp)
    have h0 := hs.l0
    refine ⟨?_, hs.ga, hs.gb, hs.la, hs.lb, hs.v, hs.lv⟩
    simp only [List.mem_cons, List.not_mem_nil, or_false, forall_eq_or_imp, forall_eq] at h0 ⊢
    omega
  | marks x y e st1 st2 m1 m2 =>
    obtain ⟨hs, -⟩ := ho _ rfl
    have := hn x (by simp); have := hn y (by simp)
    have h0 := hs.l0
    obtain ⟨a1, b1, x1, y1, l1⟩ := moveE_sok m1
    obtain ⟨a2, b2, x2, y2, l2⟩ := moveE_sok m2
    have k1 := moveE_len m1
    have k2 := moveE_len m2
    have q1 := hs.la
    have q2 := hs.lb
    refine ⟨?_, fun g hg => hs.ga g (a1 g (a2 g hg)), fun g hg => hs.gb g (b1 g (b2 g hg)), by show st2.a.length ≤ _; omega, by show st2.b.length ≤ _; omega, hs.v, hs.lv⟩
    simp only [List.mem_cons, List.not_mem_nil, or_false, forall_eq_or_imp, forall_eq] at h0 ⊢
    omega
  | row i hi s k t v m e hp =>
    obtain ⟨hs, hl⟩ := ho _ rfl
    have := hn m (by simp)
    have h0 := hs.l0
    obtain ⟨a1, b1, x1, y1, l1⟩ := putE2_sok hp (by show m ≤ _; omega) hs.ga hs.gb
    obtain ⟨q1, q2⟩ := putE2_len hp hs.la hs.lb
    refine ⟨?_, a1, b1, q1, q2, hs.v, hs.lv⟩
    simp only [List.mem_cons, List.not_mem_nil, or_false, forall_eq_or_imp, forall_eq] at h0 ⊢
    simp only [x1, y1, l1]
    omega
  | out i hi n e x hx =>
    obtain ⟨hs, hl⟩ := ho _ rfl
    refine ⟨hs.l0, hs.ga, hs.gb, hs.la, hs.lb, fun y hy => ?_, ?_⟩
    · rcases List.mem_cons.1 hy with rfl | hy
      · exact outOk_ok (outE_ok hx)
      · exact hs.v y hy
    · have h9 : (x :: e.V).length ≤ i + 1 := hlen.2.2.2
      show (x :: e.V).length ≤ _
      omega

/-! ### line by line -/
/-- What lines from here on leave; none: bad. -/
def loadR (i : Nat) (xs : List (List UInt8)) : Option (Option ESt) → Option (Option ESt)
  | none => none
  | some e => loadLs i xs e
def stepR (i : Nat) (x : List UInt8) : Option (Option ESt) → Option (Option ESt)
  | none => none
  | some e => match numsE (cut1 32 x).tail with | none => none | some n => (lineE i ((cut1 32 x).headD []) n e).map some
theorem loadR_cons (i : Nat) (x : List UInt8) (xs : List (List UInt8)) (r : Option (Option ESt)) : loadR i (x :: xs) r = loadR (i + 1) xs (stepR i x r) := by
  cases r with
  | none => rfl
  | some e =>
    show loadLs i (x :: xs) e = loadR (i + 1) xs (stepR i x (some e))
    rw [loadLs]
    unfold stepR
    cases h : numsE (cut1 32 x).tail with
    | none => rfl
    | some n =>
      simp only
      cases h2 : lineE i ((cut1 32 x).headD []) n e with
      | none => rfl
      | some e' => rfl
/-- What a run of lines keeps. -/
def ROk (i : Nat) (r : Option (Option ESt)) : Prop := ∀ e, r = some (some e) → SOk e ∧ LnOk i e
theorem stepR_ok {i : Nat} {x : List UInt8} {r : Option (Option ESt)} (h : ROk i r) (hi : i < 800000) : ROk (i + 1) (stepR i x r) := by
  intro e he
  cases r with
  | none => cases he
  | some e0 =>
    unfold stepR at he
    simp only at he
    split at he
    · cases he
    · rename_i n hn
      obtain ⟨e1, h1, h2⟩ := Option.map_eq_some_iff.1 he
      cases h2
      exact ⟨lineE_sok h1 (numsE_i64 _ hn) (fun x hx => h x (by rw [hx])) hi, lineE_ok h1 (fun x hx => (h x (by rw [hx])).2)⟩
/-- Behind the first line there is an engine, or it was bad. -/
def RNone (i : Nat) (r : Option (Option ESt)) : Prop := (i = 0 → r = some none) ∧ (0 < i → r ≠ some none)
theorem stepR_none {i : Nat} {x : List UInt8} {r : Option (Option ESt)} : RNone (i + 1) (stepR i x r) := by
  refine ⟨fun h => by omega, fun _ h => ?_⟩
  cases r with
  | none => cases h
  | some e0 =>
    unfold stepR at h
    simp only at h
    split at h
    · cases h
    · obtain ⟨e1, h1, h2⟩ := Option.map_eq_some_iff.1 h
      cases h2
/-- Words as numbers, so far: none, one was no number. -/
def numR (ws : List (List UInt8)) (i : Nat) : Option (List Int) := numsE (ws.take i)
theorem numsE_snoc (w : List UInt8) : ∀ ws : List (List UInt8), numsE (ws ++ [w]) = match numsE ws with | none => none | some n => match Lib.atoiAll w with | .ok k => some (n ++ [k]) | _ => none
  | [] => by
    show numsE [w] = match some [] with | none => none | some n => match Lib.atoiAll w with | .ok k => some (n ++ [k]) | _ => none
    rw [numsE, numsE]
    cases Lib.atoiAll w with
    | ok k => rfl
    | _ => rfl
  | v :: ws => by
    rw [List.cons_append, numsE, numsE, numsE_snoc w ws]
    cases Lib.atoiAll v with
    | ok k =>
      simp only
      cases numsE ws with
      | none => rfl
      | some n =>
        simp only [Option.map_some]
        cases Lib.atoiAll w with
        | ok k => rfl
        | _ => rfl
    | _ => rfl
theorem numsE_len : ∀ (ws : List (List UInt8)) {n : List Int}, numsE ws = some n → n.length = ws.length
  | [], n, h => by cases h; rfl
  | w :: ws, n, h => by
    rw [numsE] at h
    split at h
    · obtain ⟨m, hm, rfl⟩ := Option.map_eq_some_iff.1 h
      simp [numsE_len ws hm]
    · cases h
/-- What is loaded, said another way. -/
theorem loadE_eq (s : List UInt8) (ls : List (List UInt8)) (h : ls = cut1 10 s) :
    loadE s = if 60000 < s.length ∨ ls.length < 5 ∨ ls[ls.length - 2]? ≠ some wEnd ∨ ls[ls.length - 1]? ≠ some [] then none else match loadR 0 (ls.take (ls.length - 2)) (some none) with | some (some e) => if savedT e = s then some e else none | _ => none := by
  subst h; rfl
end Go.Proofs.YtmcgnnmffeojpaaGreatDoor
/- Loading a text: the walk's state. -/
namespace Go.Proofs.YtmcgnnmffeojpaaGreatDoor
open Go.RowKit Go.Plan

/-- Some errors lie in the library's variables. -/
def ErrP (w : World) : Prop := (∃ t p, w.cell? ⟨1, 0, none⟩ = some (.iface t p)) ∧ ∃ t p, w.cell? ⟨2, 0, none⟩ = some (.iface t p)
theorem ErrP.lt {w : World} (h : ErrP w) : 1 < w.heap.size ∧ 2 < w.heap.size := by
  obtain ⟨⟨_, _, h1⟩, _, _, h2⟩ := h
  exact ⟨cell_lt' h1, cell_lt' h2⟩
theorem ErrP.keep {M : Nat → Prop} {w w' : World} (h : ErrP w) (hx : ExtM M w w') (h1 : ¬ M 1) (h2 : ¬ M 2) : ErrP w' := by
  have hl := h.lt
  obtain ⟨⟨t, p, q1⟩, t', p', q2⟩ := h
  exact ⟨⟨t, p, (hx.cell (p := ⟨1, 0, none⟩) hl.1 h1).trans q1⟩, t', p', (hx.cell (p := ⟨2, 0, none⟩) hl.2 h2).trans q2⟩
/-- Whatever it is asked. -/
theorem atoiAll_c (s : ByteArray) (w : World) (hs : s.size ≤ 1000000000) (hE : ErrP w) :
    Calls Tryz.prog 52 #[.string s] w fun e w' => ∃ k ev, e = .returned (.tuple #[.int .i64 k, ev]) ∧ Ext w w' ∧ ((Lib.atoiAll s.data.toList = .ok k ∧ ev = .nilIface) ∨ ((∀ n, Lib.atoiAll s.data.toList ≠ .ok n) ∧ ∃ t p, ev = .iface t p)) := by
  obtain ⟨⟨t1, p1, h1⟩, t2, p2, h2⟩ := hE
  cases hh : Lib.atoiAll s.data.toList with
  | ok n =>
    refine (atoi_c s n w hs hh).mono ?_
    rintro e w' ⟨rfl, hx⟩
    exact ⟨n, _, rfl, hx, .inl ⟨rfl, rfl⟩⟩
  | range =>
    refine (Any.strconv_Atoi_range Tryz.shAtoi s (by omega) hh _ w h2 (.inr ⟨t2, p2, rfl⟩)).mono ?_
    rintro e w' ⟨N, rfl, -, -, hx⟩
    exact ⟨_, _, rfl, ext_below hx, .inr ⟨(fun n h => nomatch h), _, _, rfl⟩⟩

  | _ =>
    refine (Any.strconv_Atoi_syntax Tryz.shAtoi s (by omega) hh _ w h1 (.inr ⟨t1, p1, rfl⟩)).mono ?_
    rintro e w' ⟨N, rfl, -, -, hx⟩
    exact ⟨_, _, rfl, ext_below hx, .inr ⟨(fun n h => nomatch h), _, _, rfl⟩⟩
/-- It was bad. -/
def BadAt (u : World) (B C L : Nat) : Prop := u.cell? ⟨L, 1, none⟩ = some (.bool true) ∧ u.frozen? ⟨L, 1, none⟩ = false ∧ B ≤ L ∧ L < C
theorem BadAt.keep {M : Nat → Prop} {u u' : World} {B C L : Nat} (h : BadAt u B C L) (hx : ExtM M u u') (hM : ¬ M L) : BadAt u' B C L :=
  ⟨(hx.cell (p := ⟨L, 1, none⟩) (cell_lt' h.1) hM).trans h.1, (hx.frozen (p := ⟨L, 1, none⟩) (cell_lt' h.1) hM).trans h.2.1, h.2.2⟩
theorem bad_set {u : World} {B C L : Nat} {b : Bool} (h1 : u.cell? ⟨L, 1, none⟩ = some (.bool b)) (h2 : u.frozen? ⟨L, 1, none⟩ = false) (h3 : B ≤ L ∧ L < C) : BadAt (u.setCell ⟨L, 1, none⟩ (.bool true)) B C L :=
  ⟨World.cell?_setCell_same _ _ _ h1, (World.frozen?_setCell _ _ _ _).trans h2, h3⟩
/-- What is loaded so far. -/
def LdS (u : World) (B C L : Nat) : Option (Option ESt) → Prop
  | none => BadAt u B C L
  | some e => LdC u B C L e
theorem LdS.inn {u : World} {B C L : Nat} {r : Option (Option ESt)} (h : LdS u B C L r) : (B ≤ L ∧ L < C) ∧ L < u.heap.size := by
  cases r with
  | none => exact ⟨h.2.2, cell_lt' h.1⟩
  | some e => exact LdC.inn h
theorem LdS.keep {M : Nat → Prop} {u u' : World} {B C L : Nat} {r : Option (Option ESt)} (h : LdS u B C L r) (hx : ExtM M u u') (hM : ∀ k, k < C → ¬ M k) : LdS u' B C L r := by
  cases r with
  | none => exact BadAt.keep h hx (hM L h.2.2.2)
  | some e => exact LdC.keep h hx hM
theorem LdC.bad {u : World} {B C L : Nat} {e : Option ESt} (h : LdC u B C L e) : u.cell? ⟨L, 1, none⟩ = some (.bool false) ∧ u.frozen? ⟨L, 1, none⟩ = false := by
  cases e with
  | none => exact ⟨h.1.c1, h.1.f 1⟩
  | some e => obtain ⟨E, Bs, h1, -⟩ := h; exact ⟨h1.c1, h1.f 1⟩
theorem LdS.bad {u : World} {B C L : Nat} {r : Option (Option ESt)} (h : LdS u B C L r) : u.cell? ⟨L, 1, none⟩ = some (.bool r.isNone) ∧ u.frozen? ⟨L, 1, none⟩ = false := by
  cases r with
  | none => exact ⟨h.1, h.2.1⟩
  | some e => exact LdC.bad h
/-- The state when some words are read. -/
def midR (r : Option (Option ESt)) (ws : List (List UInt8)) : Option (Option ESt) := match numsE ws with | none => none | some _ => r
theorem midR_snoc (r : Option (Option ESt)) (w : List UInt8) (ws : List (List UInt8)) :
    (∃ k, Lib.atoiAll w = .ok k ∧ midR r (ws ++ [w]) = midR r ws) ∨ (∀ k, Lib.atoiAll w ≠ .ok k) ∧ midR r (ws ++ [w]) = none := by
  unfold midR
  rw [numsE_snoc]
  cases h : Lib.atoiAll w with
  | ok k =>
    refine .inl ⟨k, rfl, ?_⟩
    cases numsE ws <;> rfl
  | _ =>
    refine .inr ⟨(fun k h => nomatch h), ?_⟩
    cases numsE ws <;> rfl
/-- One word more: what is stored. -/
theorem LdS.put {u : World} {B C L : Nat} {r : Option (Option ESt)} {ws : List (List UInt8)} {w : List UInt8} (h : LdS u B C L (midR r ws)) :
    (∀ k, Lib.atoiAll w = .ok k → LdS (u.setCell ⟨L, 1, none⟩ (.bool (midR r ws).isNone)) B C L (midR r (ws ++ [w]))) ∧ ((∀ k, Lib.atoiAll w ≠ .ok k) → LdS (u.setCell ⟨L, 1, none⟩ (.bool true)) B C L (midR r (ws ++ [w]))) := by
  obtain ⟨h1, h2⟩ := h.bad
  obtain ⟨h3, -⟩ := h.inn
  constructor
  · intro k hk
    rcases midR_snoc r w ws with ⟨k', -, e⟩ | ⟨hn, -⟩
    · rw [e]
      cases hm : midR r ws with
      | none => rw [hm] at h1; exact bad_set h1 h2 h3
      | some e => rw [hm] at h; exact LdC.set h
    · exact absurd hk (hn k)
  · intro hn
    rcases midR_snoc r w ws with ⟨k', hk, -⟩ | ⟨-, e⟩
    · exact absurd hk (hn k')
    · rw [e]; exact bad_set h1 h2 h3
/-- What a line leaves of it, where it may not be. -/
def BadC : Prop := ∀ (u : World) (B C L : Nat) (e : Option ESt) (i : Nat) (s : ByteArray) (n : List Int) (a : Option Addr) (cap : Nat), LdC u B C L e → i < 800000 → NumsIn u L a n → (∀ g, a = some ⟨g, 0, none⟩ → C ≤ g) → (∀ x, e = some x → SOk x ∧ LnOk i x) → I64s n →
    (i = 0 → e = none) → (0 < i → e ≠ none) → lineE i s.data.toList n e = none → Laid u →
    Calls Tryz.prog 53 #[.pointer (some ⟨L, 0, none⟩), .int .i64 i, .string s, .slice a n.length cap] u fun r u' => r = .returned (.tuple #[]) ∧ BadAt u' B u'.heap.size L ∧ Plan.ExtF B u u'
/-- What Load answers. -/
def LoadV (u : World) (s : List UInt8) (r : Ending) (u' : World) : Prop :=
  Ext u u' ∧ match loadE s with
    | none => r = .returned (.tuple #[.pointer none, errV 3])
    | some e => ∃ E Bs, r = .returned (.tuple #[.pointer (some ⟨E, 0, none⟩), .nilIface]) ∧ EAt u' E Bs e.lo e.hi e.md e.st e.V e.V e.f0 e.f1 ∧ ∀ k, Bs k → u.heap.size ≤ k
/-- A line's words. -/
theorem words_c (x : ByteArray) (w : World) (hs : x.size < 4294967281) (hm : MaxP w) :
    Calls Tryz.prog 51 #[.string x, .string ⟨#[32]⟩] w fun e w' => ∃ (nm : ByteArray) (ws : List ByteArray), nm.data.toList = (cut1 32 x.data.toList).headD [] ∧ ws.map (·.data.toList) = (cut1 32 x.data.toList).tail ∧ e = .returned (.slice (some ⟨w.heap.size, 0, none⟩) (ws.length + 1) (ws.length + 1)) ∧ w' = w.alloc (.cells (Value.string nm :: ws.map Value.string).toArray 9) := by
  refine (split_c 32 x w hs hm).mono ?_
  rintro e w' ⟨l, hl, rfl, rfl⟩
  cases l with
  | nil => exact absurd hl.symm (cut1_ne _ _)
  | cons nm ws =>
    rw [← hl]
    exact ⟨nm, ws, rfl, rfl, rfl, rfl⟩
theorem LdC.up {u : World} {B C C' L : Nat} {e : Option ESt} (h : LdC u B C L e) (hC : C ≤ C') : LdC u B C' L e := by
  cases e with
  | none => exact ⟨h.1, h.2.1, by have := h.2.2; omega⟩
  | some e =>
    obtain ⟨E, Bs, h1, h2, h3, h4, h5⟩ := h
    exact ⟨E, Bs, h1, h2, h3, ⟨h4.1, by omega⟩, fun k hk => ⟨(h5 k hk).1, by have := (h5 k hk).2; omega⟩⟩
theorem LdS.up {u : World} {B C C' L : Nat} {r : Option (Option ESt)} (h : LdS u B C L r) (hC : C ≤ C') : LdS u B C' L r := by
  cases r with
  | none => exact ⟨h.1, h.2.1, h.2.2.1, by have := h.2.2.2; omega⟩
  | some e => exact LdC.up h hC
theorem cut1_le (c : UInt8) : ∀ s : List UInt8, ∀ p ∈ cut1 c s, p.length ≤ s.length
  | [], p, hp => by simp [cut1] at hp; subst hp; simp
  | b :: r, p, hp => by
    have ih := cut1_le c r
    unfold cut1 at hp
    split at hp
    · rcases List.mem_cons.1 hp with rfl | hp
      · simp
      · have := ih p hp; simp only [List.length_cons]; omega
    · split at hp
      · rename_i h t e
        rw [e] at ih
        rcases List.mem_cons.1 hp with rfl | hp
        · have := ih h List.mem_cons_self; simp only [List.length_cons]; omega
        · have := ih p (List.mem_cons_of_mem _ hp); simp only [List.length_cons]; omega
      · rw [List.mem_singleton] at hp; subst hp; simp
theorem stepR_mid {i : Nat} {x nm : List UInt8} {ws : List (List UInt8)} {r : Option (Option ESt)} (h1 : nm = (cut1 32 x).headD []) (h2 : ws = (cut1 32 x).tail) :
    (midR r ws = none ∧ stepR i x r = none) ∨ ∃ e n, r = some e ∧ midR r ws = some e ∧ numsE ws = some n ∧ stepR i x r = (lineE i nm n e).map some := by
  subst h1; subst h2
  unfold midR stepR
  cases r with
  | none => refine .inl ⟨?_, rfl⟩; split <;> rfl
  | some e =>
    cases h : numsE (cut1 32 x).tail with
    | none => exact .inl ⟨rfl, rfl⟩
    | some n => exact .inr ⟨e, n, rfl, rfl, rfl, rfl⟩
theorem size_data (s : ByteArray) : s.data.toList.length = s.size := by rw [Array.length_toList]; rfl
theorem str_cell (w : World) (l : List ByteArray) (i : Nat) (h : i < l.length) : (w.alloc (.cells (l.map Value.string).toArray 9)).cell? ⟨w.heap.size, i, none⟩ = some (.string l[i]) :=
  (World.cell?_alloc_at _ _ _ i rfl).trans (by simp [h])
end Go.Proofs.YtmcgnnmffeojpaaGreatDoor
namespace Go.Proofs.YtmcgnnmffeojpaaGreatDoor
open Go.RowKit Go.Plan

set_option maxRecDepth 100000 in
set_option maxHeartbeats 4000000 in
theorem load_c {u : World} (s : ByteArray) (hs : s.size < 4000000000) (hm : MaxP u) (hE : ErrP u) (ht : TabP u) (hLd : Laid u) (hB : loadE s.data.toList = none → BadC) :
    Calls Tryz.prog 29 #[.string s] u fun e u' => LoadV u s.data.toList e u' := by
  have hsz : s.data.toList.length = s.size := by rw [Array.length_toList]; rfl
  have hsp := split_c 10 s u (by omega) hm
  go_enter Tryz.func29, Tryz.ntmps29
  go_wp2_with (go_at_call 51; refine hsp.mono ?_; rintro e w1 ⟨ls, hls, rfl, rfl⟩; refine Hid.out ?_)
  refine Lib.hid ?_
  have hcell := str_cell u ls
  have hx1 : Ext u (u.alloc (.cells (ls.map Value.string).toArray 9)) := (ExtM.refl _).alloc _
  have hbl : u.heap.size < (u.alloc (.cells (ls.map Value.string).toArray 9)).heap.size := by rw [World.size_alloc]; omega
  have HLS := Lib.hid hls
  clear hls hsp
  generalize u.alloc (.cells (ls.map Value.string).toArray 9) = w1 at *
  have hout : loadE s.data.toList = none → LoadV u s.data.toList (.returned (.tuple #[.pointer none, errV 3])) w1 := fun h => by
    unfold LoadV; rw [h]; exact ⟨hx1, rfl⟩
  have hq := loadE_eq _ _ HLS.out
  by_cases h1 : 60000 < s.size
  · have d1 : decide ((60000 : Int) < s.size) = true := by simp; omega
    have d1' : decide (60000 < s.size) = true := by simp; omega
    rw [if_pos (.inl (by omega))] at hq
    have hfin := hout hq
    clear hout hq
    go_wp2_with fail
    go_ret2
    exact hfin
  have d1 : decide ((60000 : Int) < s.size) = false := by simp; omega
  have d1' : decide (60000 < s.size) = false := by simp; omega
  by_cases h2 : ls.length < 5
  · have d2 : decide ((ls.length : Int) < 5) = true := by simp; omega
    have d2' : decide (ls.length < 5) = true := by simp; omega
    rw [List.length_map, if_pos (.inr (.inl (by omega)))] at hq
    have hfin := hout hq
    clear hout hq
    go_wp2_with fail
    go_ret2
    exact hfin
  have d2 : decide ((ls.length : Int) < 5) = false := by simp; omega
  have d2' : decide (ls.length < 5) = false := by simp; omega
  have hl2 : ls.length - 2 < ls.length := by omega
  have hl1 : ls.length - 1 < ls.length := by omega
  have y2 := hcell _ hl2
  have y1 := hcell _ hl1
  have q2 : (ls.map (·.data.toList))[ls.length - 2]? = some (ls[ls.length - 2].data.toList) := by simp [hl2]
  have q1 : (ls.map (·.data.toList))[ls.length - 1]? = some (ls[ls.length - 1].data.toList) := by simp [hl1]
  rw [List.length_map, q2, q1] at hq
  have hnl : ls.length ≤ 60001 := by
    have := congrArg List.length HLS.out
    rw [List.length_map] at this
    have h9 := cut1_length 10 _ s.data.toList (Nat.le_refl _)
    omega
  have t2 := Lib.toList_data ls[ls.length - 2]
  have t1 := Lib.toList_data ls[ls.length - 1]
  rw [← t2, ← t1] at hq
  clear q1 q2 t1 t2
  by_cases h3 : ls[ls.length - 2].toList = [101, 110, 100]
  · by_cases h4 : ls[ls.length - 1].toList = []
    · have h5 : ls[ls.length - 1].toList.isEmpty = true := by rw [h4]; rfl
      rw [if_neg (by rw [h3, h4]; unfold wEnd; simp; omega)] at hq
      have HQ := Lib.hid hq
      have HO := Lib.hid hout
      clear hq hout
      go_upto_region 5 with fail
      have hxa : Ext w1 (w1.alloc (.cells #[.pointer none, .bool false] 120)) := (ExtM.refl _).alloc _
      have hL0 : LdS (w1.alloc (.cells #[.pointer none, .bool false] 120)) w1.heap.size (w1.alloc (.cells #[.pointer none, .bool false] 120)).heap.size w1.heap.size (some none) := by
        refine ⟨⟨?_, ?_, fun q => ?_⟩, Nat.le_refl _, ?_⟩
        · go_simp
        · go_simp
        · rw [Go.RowKit.frozen?_alloc_cells]; simp [World.frozen?]
        · rw [World.size_alloc]; omega
      generalize w1.alloc (.cells #[.pointer none, .bool false] 120) = w2 at *
      have hE2 : ErrP w2 := hE.keep (ExtM.trans _ _ _ hx1 hxa) id id
      have hm2 : MaxP w2 := hm.ext (ExtM.trans _ _ _ hx1 hxa)
      have ht2 : TabP w2 := ht.keep ((ExtM.trans _ _ _ hx1 hxa : Ext u w2).block _ ht.lt id)
      have hl2d : Laid w2 := (hLd.of hx1).of hxa
      have hcw : ∀ (i : Nat) (h : i < ls.length), w2.cell? ⟨u.heap.size, i, none⟩ = some (.string ls[i]) := fun i h => (hxa.cell (p := ⟨u.heap.size, i, none⟩) hbl id).trans (hcell i h)
      have hLb := hL0.inn
      have gE := hE.lt
      have gm := hm.lt
      have gt := ht.lt
      generalize hB0 : w1.heap.size = B at *
      have hBu : u.heap.size < B := hbl
      have HB0 := Lib.hid hB0
      clear y1 y2 h3 h4 h5
      generalize ls[ls.length - 1] = z1 at *
      generalize ls[ls.length - 2] = z2 at *
      clear hB0 hcell hl1 hbl d1 d1' d2 d2' hE hm ht hLd
      obtain ⟨m, hmm⟩ : ∃ m, m = ls.length - 2 := ⟨_, rfl⟩
      have hml : m + 2 ≤ ls.length := by omega
      have hml' : m ≤ 60000 := by omega
      rw [← hmm] at hl2 HQ
      go_wp2_with fail
      rw [← hmm]
      have HMM := Lib.hid hmm
      clear hmm
      go_loopg [53] (m + 1) (fun kx s53 wr => ∃ (i : Nat) (r : Option (Option ESt)), s53 = .int .i64 i ∧ i ≤ m ∧ m - i ≤ kx ∧ LdS wr B wr.heap.size B r ∧ Plan.ExtF B w2 wr ∧ loadR i (((ls.map (·.data.toList)).take m).drop i) r = loadR 0 ((ls.map (·.data.toList)).take m) (some none) ∧ ROk i r ∧ RNone i r)
      case atStart => exact ⟨0, some none, rfl, by omega, by omega, hL0, ExtF.refl _, rfl, (fun e h => nomatch h), ⟨fun _ => rfl, fun h => by omega⟩⟩
      case round =>
        obtain ⟨i, r, rfl, hi, hgo, hS, hF, hR, hok, hrn⟩ := hrel
        by_cases him : i < m
        · have hil : i < ls.length := by omega
          have hcr := (hF.rules.1 u.heap.size i (cell_lt' (hcw i hil)) hBu).trans (hcw i hil)
          have hdr : ((ls.map (·.data.toList)).take m).drop i = ls[i].data.toList :: ((ls.map (·.data.toList)).take m).drop (i + 1) := by
            rw [List.drop_eq_getElem_cons (by rw [List.length_take, List.length_map]; omega)]
            simp
          have hls0 : ls[i].data.toList ∈ cut1 10 s.data.toList := by rw [← HLS.out]; exact List.mem_map.2 ⟨_, List.getElem_mem hil, rfl⟩
          have hxs : ls[i].size ≤ 60000 := by
            have := cut1_le 10 _ _ hls0
            rw [size_data, size_data] at this
            omega
          rw [hdr, loadR_cons] at hR
          have HR := Lib.hid hR
          have hlB := hS.inn
          have hmr : MaxP wr := hm2.keep (hF.block _ (by have := hxa.size; have := hx1.size; omega) (by omega))
          have hEr : ErrP wr := hE2.keep hF (by omega) (by omega)
          have hLr : Laid wr := hl2d.ofM hF (by omega)
          have hlu : u.heap.size < wr.heap.size := by omega
          clear hR hdr hls0
          generalize ls[i] = x at *
          have hwc := words_c x wr (by omega) hmr
          go_wp2_with (go_at_call 51; refine hwc.mono ?_; rintro e w3 ⟨nm, ws, hnm, hws, rfl, rfl⟩; refine Hid.out ?_)
          refine Lib.hid ?_
          clear hwc
          have hxw : Ext wr (wr.alloc (.cells (Value.string nm :: ws.map Value.string).toArray 9)) := (ExtM.refl _).alloc _
          have hcw3 := str_cell wr (nm :: ws)
          rw [List.map_cons] at hcw3
          have hsz3 : (wr.alloc (.cells (Value.string nm :: ws.map Value.string).toArray 9)).heap.size = wr.heap.size + 1 := World.size_alloc _ _
          have hwl : ws.length ≤ 60000 ∧ (∀ y ∈ ws, y.size ≤ 60000) := by
            have h9 := cut1_length 32 _ x.data.toList (Nat.le_refl _)
            rw [size_data] at h9
            constructor
            · have := congrArg List.length hws
              rw [List.length_map, List.length_tail] at this
              omega
            · intro y hy
              have : y.data.toList ∈ cut1 32 x.data.toList := List.mem_of_mem_tail (by rw [← hws]; exact List.mem_map.2 ⟨y, hy, rfl⟩)
              have := cut1_le 32 _ _ this
              rw [size_data, size_data] at this
              omega
          obtain ⟨hwl, hwy⟩ := hwl
          have hS3 := (hS.keep hxw (fun _ _ h => h)).up (show wr.heap.size ≤ wr.heap.size + 1 by omega)
          have hF3 : Plan.ExtF B w2 _ := ExtF.trans _ _ _ hF (ExtF.of_ext hxw)
          have HNM := Lib.hid hnm
          have HWS := Lib.hid hws
          generalize wr.alloc (.cells (Value.string nm :: ws.map Value.string).toArray 9) = w3 at *
          generalize hN : wr.heap.size = N at *
          have HN := Lib.hid hN
          have hBN : B < N := by omega
          have hm3 : MaxP w3 := hmr.ext hxw
          have hE3 : ErrP w3 := hEr.keep hxw id id
          have hL3 : Laid w3 := hLr.of hxw
          have hN3 : N < w3.heap.size := by omega
          have hnm0 : w3.cell? ⟨N, 0, none⟩ = some (.string nm) := hcw3 0 (by simp)
          have hws0 : ∀ (j : Nat) (h : j < ws.length), w3.cell? ⟨N, 1 + j, none⟩ = some (.string ws[j]) := fun j h => by
            have := hcw3 (j + 1) (by simpa using h)
            rw [show 1 + j = j + 1 by omega]
            exact this
          clear hnm hws hN hS hF hxw hmr hEr hLr hcw3 hcr
          go_upto_region 10 with fail
          go_cut [61, 62, 63] (fun s61 s62 s63 wx => ∃ o, s61 = .slice (some ⟨N, o, none⟩) ws.length ws.length ∧ s62 = .int .i64 ws.length ∧ s63 = .int .i64 0 ∧ (0 < ws.length → o = 1) ∧ wx = w3)
          case first =>
            by_cases h0 : ws.length = 0
            · obtain rfl : ws = [] := List.eq_nil_of_length_eq_zero h0
              simp only [List.length_nil]
              go_wp2_with fail
              go_meet
              case rel => exact ⟨0, rfl, rfl, rfl, fun h => absurd h (by decide), rfl⟩
            · have h0' : ¬ 1 = ws.length + 1 := by omega
              go_wp2_with fail
              go_meet
              case rel => exact ⟨1, rfl, rfl, rfl, fun _ => rfl, rfl⟩
          case rest =>
            obtain ⟨o, rfl, rfl, rfl, ho, rfl⟩ := hcut
            generalize wc = wS at *
            obtain ⟨W, hW⟩ : ∃ W, W = ws.map (·.data.toList) := ⟨_, rfl⟩
            have hWl : W.length = ws.length := by rw [hW, List.length_map]
            have HW := Lib.hid hW
            have HWL := Lib.hid hWl
            rw [← hW] at HWS
            clear hW hWl
            generalize hC : wS.heap.size = C at *
            have hNC : N < C := hN3
            have HC := Lib.hid hC
            clear hC hN3
            have hS3' : LdS wS B C B (midR r (W.take 0)) := by rw [List.take_zero]; exact hS3.up (by omega)
            go_wp2_with fail
            go_loopg [9, 63] (ws.length + 1) (fun kx s9 s63 w4 => ∃ (j : Nat) (n : List Int), s63 = .int .i64 j ∧ j ≤ ws.length ∧ ws.length - j ≤ kx ∧ n.length = j ∧ IR w4 C s9 n ∧ LdS w4 B C B (midR r (W.take j)) ∧ ExtM (fun k => k = B ∨ C ≤ k) wS w4 ∧ (numsE (W.take j) = some n ∨ numsE (W.take j) = none))
            case atStart => exact ⟨0, [], rfl, by omega, by omega, rfl, ⟨rfl, .inl ⟨rfl, rfl⟩⟩, hS3', ExtM.refl _, .inl rfl⟩
            case round =>
              clear hS3 hS3'
              obtain ⟨j, n, rfl, hj, hgk, hnj, hir, hS4, hX, hnum⟩ := hrel
              have HNJ := Lib.hid hnj
              clear hnj
              have hCw : C ≤ wr.heap.size := by have := hX.size; have := HC.out; omega
              by_cases hjl : j < ws.length
              · skip
                -- DONE{
                have hNl : N < wS.heap.size := by have := HC.out; omega
                have hyc := (hX.cell (p := ⟨N, 1 + j, none⟩) hNl (show ¬ (N = B ∨ C ≤ N) by omega)).trans (hws0 j hjl)
                have ho1 : o = 1 := ho (by omega)
                have hys := hwy _ (List.getElem_mem hjl)
                have HTK : Hid (W.take (j + 1) = W.take j ++ [ws[j].data.toList]) := Lib.hid (by
                  have hjW : j < W.length := by rw [HWL.out]; exact hjl
                  rw [List.take_succ_eq_append_getElem hjW]
                  congr 2
                  have := HW.out; subst this; simp)
                have hEr : ErrP wr := hE3.keep hX (by omega) (by omega)
                generalize ws[j] = y at *
                have hat := atoiAll_c y wr (by omega) hEr
                have hNw : N < wr.heap.size := by omega
                subst ho1
                go_wp2_with (go_at_call 52; refine hat.mono ?_; rintro e w5 ⟨k, ev, rfl, hx5, hA⟩; refine Hid.out ?_)
                refine Lib.hid ?_
                clear hat hyc hEr
                have hS5 := hS4.keep hx5 (fun _ _ h => h)
                have hir5 : IR w5 C u9 n := own_ext hir hx5 (fun _ _ h => h)
                obtain ⟨c1, cf⟩ := hS5.bad
                have hlB5 := hS5.inn.2
                have hsz5 := hx5.size
                have hput := LdS.put (w := y.data.toList) hS5
                rw [← HTK.out] at hput
                have hX5 : ExtM (fun k => k = B ∨ C ≤ k) wS w5 := ExtM.trans _ _ _ hX (hx5.mono fun _ _ h => h.elim)
                generalize hbb : (midR r (W.take j)).isNone = bb at *
                clear hbb
                go_upto_region 14 with fail
                go_cut [] (fun wx => LdS wx B C B (midR r (W.take (j + 1))) ∧ ExtM (fun k => k = B) w5 wx)
                case first =>
                  rcases hA with ⟨hk, rfl⟩ | ⟨hn, t, p, rfl⟩
                  · have hpt := hput.1 k hk
                    cases bb
                    all_goals
                      go_wp2_with fail
                      go_meet
                      case rel => exact ⟨hpt, ExtM.setCell (M := fun k => k = B) (p := ⟨B, 1, none⟩) (ExtM.refl _) (.inr rfl) _⟩
                  · have hpt := hput.2 hn
                    cases bb
                    all_goals
                      go_wp2_with fail
                      go_meet
                      case rel => exact ⟨hpt, ExtM.setCell (M := fun k => k = B) (p := ⟨B, 1, none⟩) (ExtM.refl _) (.inr rfl) _⟩
                case rest =>
                  obtain ⟨hS6, hx6⟩ := hcut
                  have hir6 : IR wc C u9 n := own_ext hir5 hx6 (fun k hk e => by have h1 := (own_lt hir5 k hk).1; have h2 : k = B := e; omega)
                  have hX6 : ExtM (fun k => k = B ∨ C ≤ k) wS wc := ExtM.trans _ _ _ hX5 (hx6.mono fun _ _ h => .inl h)
                  have hCw6 : C ≤ wc.heap.size := by have := hx6.size; omega
                  obtain ⟨v', w', happ, hir', hxr, hloc⟩ := run_appendN (wc.alloc (.cells #[.int .i64 k] 3)) C wc.heap.size 1 u9 n [k] 52 (own_ext hir6 ((ExtM.refl _).alloc _ : Ext wc _) (fun _ _ h => h))
                    (fun q v hq => (World.cell?_alloc_at _ _ _ q rfl).trans (by simpa using hq)) (by have := HNJ.out; simp only [List.length_cons, List.length_nil]; omega) (by rw [World.size_alloc]; omega)
                  have hxc : ExtM (fun k => C ≤ k) wc w' := (((ExtM.refl _).alloc _ : Ext wc _).mono (fun _ _ h => h.elim)).fresh' hxr (fun k hk e => (own_lt hir6 k e).1)
                  have hS' := hS6.keep hxc (fun k hk e => by omega)
                  have hX' : ExtM (fun k => k = B ∨ C ≤ k) wS w' := ExtM.trans _ _ _ hX6 (hxc.mono fun _ _ h => .inr h)
                  obtain ⟨pv, cv, hpv, -⟩ := own_slice hir6
                  have HALL := Lib.hid (⟨hir', hS', hX'⟩ : _ ∧ _ ∧ _)
                  subst hpv
                  have hnn : numsE (W.take (j + 1)) = some (n ++ [k]) ∨ numsE (W.take (j + 1)) = none := by
                    rw [HTK.out, numsE_snoc]
                    rcases hnum with h | h
                    · rw [h]
                      rcases hA with ⟨hk, -⟩ | ⟨hn, -⟩
                      · rw [hk]; exact .inl rfl
                      · cases hh : Lib.atoiAll y.data.toList with
                        | ok q => exact absurd hh (hn q)
                        | _ => exact .inr rfl
                    · rw [h]; exact .inr rfl
                  clear hir' hS' hX' hxr hloc hxc hS6 hir6 hX6 hput c1 cf hS5 hir5 hX5 hA hx5 hx6
                  go_wp2_with (at_builtin; refine wpList_append_run happ rfl rfl _ _ rfl rfl rfl ?_; clear happ)
                  go_roundg (ws.length - (j + 1))
                  case measure => omega
                  case rel =>
                    obtain ⟨q1, q2, q3⟩ := HALL.out
                    exact ⟨j + 1, n ++ [k], by go_num, by omega, Nat.le_refl _, by simp [HNJ.out], q1, q2, q3, hnn⟩
                -- }DONE
              · obtain rfl : j = ws.length := by omega
                have hz : decide (ws.length < ws.length) = false := by simp
                have hz2 : decide ((ws.length : Int) < ws.length) = false := by simp
                rw [List.take_of_length_le (by rw [HWL.out]; exact Nat.le_refl _)] at hS4 hnum
                obtain ⟨c1, cf⟩ := hS4.bad
                have hlB4 := hS4.inn.2
                have hFw : Plan.ExtF B w2 wr := ExtF.trans _ _ _ hF3 (hX.mono fun k _ e => by show B ≤ k; omega)
                rcases stepR_mid (i := i) (x := x.data.toList) (r := r) HNM.out HWS.out with ⟨hmid, hstep⟩ | ⟨eo, n', hr, hmid, hn', hstep⟩
                · rw [hmid] at c1 hS4
                  rw [Option.isNone_none] at c1
                  have HE := Lib.hid (⟨hS4, hFw, hstep⟩ : _ ∧ _ ∧ _)
                  clear hS4 hFw hX hir hnum
                  go_wp2_with fail
                  go_roundg (m - (i + 1))
                  case measure => omega
                  case rel =>
                    obtain ⟨q1, q2, q3⟩ := HE.out
                    refine ⟨i + 1, none, by go_num, by omega, Nat.le_refl _, q1.up hCw, q2, ?_, (fun e h => nomatch h), ?_⟩
                    · have := HR.out; rwa [q3] at this
                    · have := @stepR_none i x.data.toList r; rwa [q3] at this
                · rw [hmid] at c1 hS4
                  rw [Option.isNone_some] at c1
                  obtain rfl : n = n' := by
                    rcases hnum with h | h
                    · exact Option.some.inj (h.symm.trans hn')
                    · rw [h] at hn'; cases hn'
                  obtain ⟨a, cap, rfl, hni⟩ := hir.nums (b := B) (by omega)
                  have hga : ∀ g, a = some ⟨g, 0, none⟩ → C ≤ g := fun g hg => (own_lt hir g (by rw [hg]; rfl)).1
                  have hNl : N < wS.heap.size := by have := HC.out; omega
                  have hnm1 := (hX.cell (p := ⟨N, 0, none⟩) hNl (show ¬ (N = B ∨ C ≤ N) by omega)).trans hnm0
                  have hLr : Laid wr := hL3.ofM hX (by omega)
                  have hline : Calls Tryz.prog 53 #[.pointer (some ⟨B, 0, none⟩), .int .i64 i, .string nm, .slice a n.length cap] wr fun q u' => q = .returned (.tuple #[]) ∧ LdS u' B u'.heap.size B (stepR i x.data.toList r) ∧ Plan.ExtF B wr u' := by
                    rw [hstep]
                    cases hle : lineE i nm.data.toList n eo with
                    | some e' => exact ldLine hS4 i (by omega) nm n a cap hni hga (fun z hz => (hok z (by rw [hr, hz])).2) (fun h => by have := hrn.1 h; rw [hr] at this; exact Option.some.inj this) hle
                    | none =>
                      have hbad : loadE s.data.toList = none := by
                        have h1 := HR.out
                        rw [hstep, hle] at h1
                        have h2 : loadR 0 ((ls.map (·.data.toList)).take m) (some none) = none := h1.symm
                        rw [HQ.out, h2]
                      exact hB hbad wr B C B eo i nm n a cap hS4 (by omega) hni hga (fun z hz => hok z (by rw [hr, hz])) (numsE_i64 _ hn') (fun h => by have := hrn.1 h; rw [hr] at this; exact Option.some.inj this) (fun h e => hrn.2 h (by rw [hr, e])) hle hLr
                  have hNw : N < wr.heap.size := by omega
                  clear hir hni hnum hX hn'
                  go_wp2_with (go_at_call 53; refine hline.mono ?_; rintro q w9 ⟨rfl, hS9, hF9⟩; refine Hid.out ?_)
                  refine Lib.hid ?_
                  have HE := Lib.hid (⟨hS9, ExtF.trans _ _ _ hFw hF9⟩ : _ ∧ Plan.ExtF B w2 w9)
                  clear hS9 hF9 hline hS4 hFw
                  go_wp2_with fail
                  go_roundg (m - (i + 1))
                  case measure => omega
                  case rel =>
                    obtain ⟨q1, q2⟩ := HE.out
                    exact ⟨i + 1, _, by go_num, by omega, Nat.le_refl _, q1, q2, HR.out, stepR_ok hok (by omega), stepR_none⟩
        · obtain rfl : i = m := by omega
          have hz : decide (i < i) = false := by simp
          have hz2 : decide ((i : Int) < i) = false := by simp
          have hdr : ((ls.map (·.data.toList)).take i).drop i = [] := List.drop_eq_nil_of_le (by rw [List.length_take, List.length_map]; omega)
          have hR0 : ∀ r, loadR i [] r = r := fun r => by cases r <;> rfl
          rw [hdr, hR0] at hR
          have hq := HQ.out
          rw [← hR] at hq
          have h3m : 3 ≤ i := by have := HMM.out; omega
          have hXF : Plan.ExtF B u wr := ExtF.trans _ _ _ (ExtF.of_ext (ExtM.trans _ _ _ hx1 hxa)) hF
          have htr : TabP wr := ht2.keep (hF.block _ (by have := hxa.size; have := hx1.size; omega) (by omega))
          have hBl := hS.inn
          clear hdr hR0 hR hgo hF
          cases r with
          | none =>
            obtain ⟨c1, cf⟩ := hS.bad
            rw [Option.isNone_none] at c1
            have hfin : LoadV u s.data.toList (.returned (.tuple #[.pointer none, errV 3])) wr := by unfold LoadV; rw [hq]; exact ⟨hXF.ext (Nat.le_of_lt hBu), rfl⟩
            clear hq hS hXF
            go_wp2_with fail
            go_ret2
            exact hfin
          | some eo =>
            cases eo with
            | none => exact absurd rfl (hrn.2 (by omega))
            | some e =>
              obtain ⟨E, Bs, hLd, hat, hnB, hBL, hBs⟩ := hS
              obtain ⟨hsok, -⟩ := hok e rfl
              have hsave := saved_c hat e rfl hsok htr
              have c0 := hLd.c0
              have c1 := hLd.c1
              have lL := hLd.lt
              have HAT := Lib.hid (⟨hLd, hat, hBs⟩ : _ ∧ _ ∧ _)
              clear hLd hat hnB hBs hok hrn
              by_cases hbig : 60000 < (savedT e).length
              · rw [show savedV e = .returned (.tuple #[.string ByteArray.empty, errV 4]) from if_pos hbig] at hsave
                have hne : savedT e ≠ s.data.toList := fun h => by rw [h, size_data] at hbig; omega
                simp only [if_neg hne] at hq
                go_wp2_with (go_at_call 14; refine hsave.mono ?_; rintro e' w9 ⟨rfl, hx9⟩; refine Hid.out ?_)
                refine Lib.hid ?_
                have hfin : LoadV u s.data.toList (.returned (.tuple #[.pointer none, errV 3])) w9 := by unfold LoadV; rw [hq]; exact ⟨ExtM.trans _ _ _ (hXF.ext (Nat.le_of_lt hBu)) hx9, rfl⟩
                clear hq hXF hsave
                have er4 : errV 4 = .iface 48 (.int .i64 4) := rfl
                rw [er4]
                go_wp2_with fail
                go_ret2
                exact hfin
              · rw [show savedV e = .returned (.tuple #[.string ⟨(savedT e).toArray⟩, .nilIface]) from if_neg hbig] at hsave
                have hT1 : (ByteArray.mk (savedT e).toArray).toList = savedT e := by rw [Lib.toList_data]
                have hT2 := Lib.toList_data s
                by_cases hTs : savedT e = s.data.toList
                · have hbs : ByteArray.mk (savedT e).toArray = s := by
                    obtain ⟨⟨l⟩⟩ := s
                    simp only at hTs
                    rw [hTs]
                  rw [hbs] at hsave
                  simp only [if_pos hTs] at hq
                  have hfin : ∀ w9, Ext wr w9 → LoadV u s.data.toList (.returned (.tuple #[.pointer (some ⟨E, 0, none⟩), .nilIface])) w9 := fun w9 hx9 => by
                    obtain ⟨-, hat, hBs⟩ := HAT.out
                    unfold LoadV
                    rw [hq]
                    exact ⟨ExtM.trans _ _ _ (hXF.ext (Nat.le_of_lt hBu)) hx9, E, Bs, rfl, hat.ext hx9, fun k hk => Nat.le_trans (Nat.le_of_lt hBu) (hBs k hk).1⟩
                  have HFN := Lib.hid hfin
                  clear hfin hq hXF hTs hbs hT1 hT2
                  go_wp2_with (go_at_call 14; refine hsave.mono ?_; rintro e' w9 ⟨rfl, hx9⟩; refine Hid.out ?_)
                  refine Lib.hid ?_
                  have k0 := (hx9.cell (p := ⟨B, 0, none⟩) lL id).trans c0
                  have lL9 := cell_lt' k0
                  have hfin := HFN.out w9 hx9
                  clear hsave c0 c1 lL hx9
                  go_wp2_with fail
                  go_ret2
                  exact hfin
                · have hne1 : (savedT e == s.toList) = false := by rw [hT2]; exact beq_false_of_ne hTs
                  simp only [if_neg hTs] at hq
                  have hfin : ∀ w9, Ext wr w9 → LoadV u s.data.toList (.returned (.tuple #[.pointer none, errV 3])) w9 := fun w9 hx9 => by
                    unfold LoadV; rw [hq]; exact ⟨ExtM.trans _ _ _ (hXF.ext (Nat.le_of_lt hBu)) hx9, rfl⟩
                  clear hq hXF hTs hT1 hT2
                  generalize savedT e = T at *
                  go_wp2_with (go_at_call 14; refine hsave.mono ?_; rintro e' w9 ⟨rfl, hx9⟩; refine Hid.out ?_)
                  refine Lib.hid ?_
                  replace hfin := hfin w9 hx9
                  clear hsave c0 c1 lL hx9
                  go_wp2_with fail
                  go_ret2
                  exact hfin
    · have h5 : ls[ls.length - 1].toList.isEmpty = false := by simpa using h4
      rw [if_pos (.inr (.inr (.inr (by simpa using h4))))] at hq
      have hfin := hout hq
      clear hout hq
      go_wp2_with fail
      go_ret2
      exact hfin
  · rw [if_pos (.inr (.inr (.inl (by unfold wEnd; simpa using h3))))] at hq
    have hfin := hout hq
    clear hout hq
    go_wp2_with fail
    go_ret2
    exact hfin
end Go.Proofs.YtmcgnnmffeojpaaGreatDoor
