/- An engine as a text, and a text as an engine, plainly. No program in sight. -/
import Derived.Test.YtmcgnnmffeojpaaGreatDoorPk9
import Derived.Test.YtmcgnnmffeojpaaGreatDoorPk14
import Derived.Test.YtmcgnnmffeojpaaGreatDoorPk27
import Derived.Test.YtmcgnnmffeojpaaGreatDoorPk32
namespace Go.Proofs.YtmcgnnmffeojpaaGreatDoor
open Go.RowKit Go.Plan Go.Lib

/-- An engine, plainly. -/
structure ESt where
  lo : Int
  hi : Int
  md : Int
  st : JSt
  V : List Out
  f0 : Int
  f1 : Int
def wPlan : List UInt8 := [112, 108, 97, 110]
def wFed : List UInt8 := [102, 101, 100]
def wMarks : List UInt8 := [109, 97, 114, 107, 115]
def wRow : List UInt8 := [114, 111, 119]
def wOut : List UInt8 := [111, 117, 116]
def wEnd : List UInt8 := [101, 110, 100]
/-- The numbers of a row that is held. -/
def rowN (s : Int) (h : Hd) : List Int := [s, h.r.k, h.r.t, h.r.v, h.m]
/-- The numbers of what came of rows. -/
def outN (x : Out) : List Int := ((if x.hl then 1 else 0) + (if x.hr then 2 else 0)) :: ((if x.hl then [x.l.k, x.l.t, x.l.v] else []) ++ (if x.hr then [x.r.k, x.r.t, x.r.v] else []))
def headLs (e : ESt) : List (List UInt8 × List Int) := [(wPlan, [e.lo, e.hi, e.md]), (wFed, [e.f0, e.f1, e.st.late]), (wMarks, [e.st.x, e.st.y])]
def bodyLs (e : ESt) : List (List UInt8 × List Int) := e.st.a.map (fun h => (wRow, rowN 0 h)) ++ (e.st.b.map (fun h => (wRow, rowN 1 h)) ++ (sortO e.V).map (fun x => (wOut, outN x)))
def savedLs (e : ESt) : List (List UInt8 × List Int) := headLs e ++ (bodyLs e ++ [(wEnd, [])])
/-- An engine as a text. -/
def savedT (e : ESt) : List UInt8 := textB (savedLs e)

/-! ### a text as an engine -/
def moveE (lo hi : Int) (s : Nat) (t : Int) (st : JSt) : Option JSt := if t = -1099511627777 then some st else if moveI s t st.x st.y = 0 then some (moveJ lo hi s t st) else none
def outE : List Int → Option Out
  | [h, a, b, c] => if (h = 1 ∨ h = 2) ∧ goodB a b c = true then some (loneS (if h = 1 then 0 else 1) ⟨a, b, c⟩) else none
  | [h, a, b, c, d, e, f] => if h = 3 ∧ goodB a b c = true ∧ goodB d e f = true ∧ a = d then some (pairO ⟨a, b, c⟩ ⟨d, e, f⟩) else none
  | _ => none
def putE2 (s : Int) (x : Hd) (st : JSt) : Int := if s = 0 then addE st.a x else if s = 1 then addE st.b x else 1
/-- What a line leaves of an engine; none: it may not be. -/
def lineE (i : Nat) (nm : List UInt8) (n : List Int) (e : Option ESt) : Option ESt :=
  if nm = wPlan then
    match n with
    | [a, b, c] => if i = 0 ∧ checkI a b c = 0 then some ⟨a, b, c, ⟨[], [], -1099511627777, -1099511627777, 0⟩, [], 0, 0⟩ else none
    | _ => none
  else
    match e with
    | none => none
    | some e =>
      if i = 0 then none
      else if nm = wFed then
        match n with
        | [a, b, c] => if i = 1 ∧ 0 ≤ a ∧ 0 ≤ b ∧ 0 ≤ c then some { e with f0 := a, f1 := b, st := { e.st with late := c } } else none
        | _ => none
      else if i = 1 then none
      else if nm = wMarks then
        match n with
        | [x, y] => if i = 2 then ((moveE e.lo e.hi 0 x e.st).bind (moveE e.lo e.hi 1 y)).map fun st => { e with st := st } else none
        | _ => none
      else if i = 2 then none
      else if nm = wRow then
        match n with
        | [s, k, t, v, m] => if putE2 s ⟨⟨k, t, v⟩, m⟩ e.st = 0 then some { e with st := putJ s.toNat ⟨⟨k, t, v⟩, m⟩ e.st } else none
        | _ => none
      else if nm = wOut then (outE n).map fun x => { e with V := x :: e.V }
      else none
/-- Words as numbers. -/
def numsE : List (List UInt8) → Option (List Int)
  | [] => some []
  | w :: ws => match atoiAll w with | .ok n => (numsE ws).map (n :: ·) | _ => none
def loadLs : Nat → List (List UInt8) → Option ESt → Option (Option ESt)
  | _, [], e => some e
  | i, x :: xs, e =>
    match numsE (cut1 32 x).tail with
    | none => none
    | some n => match lineE i ((cut1 32 x).headD []) n e with
      | none => none
      | some e' => loadLs (i + 1) xs (some e')
def loadE (s : List UInt8) : Option ESt :=
  if 60000 < s.length ∨ (cut1 10 s).length < 5 ∨ (cut1 10 s)[(cut1 10 s).length - 2]? ≠ some wEnd ∨ (cut1 10 s)[(cut1 10 s).length - 1]? ≠ some [] then none
  else match loadLs 0 ((cut1 10 s).take ((cut1 10 s).length - 2)) none with
    | some (some e) => if savedT e = s then some e else none
    | _ => none

/-! ### what is saved is loaded -/
def goodR (r : Row) : Prop := goodB r.k r.t r.v = true
/-- What comes of good rows. -/
def OutOk (x : Out) : Prop := (∃ s r, s < 2 ∧ goodR r ∧ x = loneS s r) ∨ ∃ l r, goodR l ∧ goodR r ∧ l.k = r.k ∧ x = pairO l r
structure EOk (e : ESt) : Prop where
  plan : checkI e.lo e.hi e.md = 0
  f0 : 0 ≤ e.f0
  f1 : 0 ≤ e.f1
  late : 0 ≤ e.st.late
  i0 : e.f0 ≤ 9223372036854775807
  i1 : e.f1 ≤ 9223372036854775807
  il : e.st.late ≤ 9223372036854775807
  mx : -1099511627777 ≤ e.st.x ∧ e.st.x ≤ 1099511627776
  my : -1099511627777 ≤ e.st.y ∧ e.st.y ≤ 1099511627776
  ga : ∀ h ∈ e.st.a, goodR h.r ∧ 0 ≤ h.m ∧ h.m ≤ 9223372036854775807
  gb : ∀ h ∈ e.st.b, goodR h.r ∧ 0 ≤ h.m ∧ h.m ≤ 9223372036854775807
  sa : SortedH e.st.a
  sb : SortedH e.st.b
  la : e.st.a.length ≤ 300
  lb : e.st.b.length ≤ 300
  v : ∀ x ∈ e.V, OutOk x

theorem numsE_itoa : ∀ l : List Int, (∀ n ∈ l, -9223372036854775808 ≤ n ∧ n ≤ 9223372036854775807) → numsE (l.map itoa) = some l
  | [], _ => rfl
  | n :: l, h => by
    have h1 := h n List.mem_cons_self
    rw [List.map_cons, numsE, atoi_itoa n h1.1 h1.2, numsE_itoa l (fun m hm => h m (List.mem_cons_of_mem _ hm))]; rfl
/-- A line of good numbers, at its place. -/
theorem loadLs_line {i : Nat} {nm : List UInt8} {n : List Int} {xs : List (List UInt8)} {e : Option ESt} {e' : ESt} (hnm : ∀ b ∈ nm, 97 ≤ b.toNat) (hn : ∀ k ∈ n, -9223372036854775808 ≤ k ∧ k ≤ 9223372036854775807) (h : lineE i nm n e = some e') :
    loadLs i (lineB nm n :: xs) e = loadLs (i + 1) xs (some e') := by
  rw [loadLs, cut_line hnm]
  simp only [List.tail_cons, List.headD_cons, numsE_itoa n hn, h]
theorem goodR.i64 {r : Row} (h : goodR r) : (-1099511627776 ≤ r.k ∧ r.k ≤ 1099511627776) ∧ (-1099511627776 ≤ r.t ∧ r.t ≤ 1099511627776) ∧ -1099511627776 ≤ r.v ∧ r.v ≤ 1099511627776 := by
  unfold goodR goodB inB at h
  simp only [Bool.and_eq_true, decide_eq_true_eq] at h
  omega
theorem fromN_all {key time : Int} {hs : List Hd} (h : ∀ x ∈ hs, aheadB key time x = true) : fromN key time hs = hs.length := by
  unfold fromN
  exact List.countP_eq_length.2 h
/-- A row behind those that are there. -/
theorem addL_last {p : List Hd} {x : Hd} (hs : SortedH (p ++ [x])) (hg : goodR x.r) (hm : 0 ≤ x.m) (hl : p.length < 300) : addE p x = 0 ∧ addL p x = p ++ [x] := by
  have he : addE p x = 0 := by
    unfold addE
    rw [if_neg (by rw [show goodB x.r.k x.r.t x.r.v = true from hg, decide_eq_true hm]; decide), if_neg (by omega)]
  refine ⟨he, ?_⟩
  unfold addL
  rw [if_pos he]
  unfold addH
  have hall : ∀ y ∈ p, aheadB x.r.k (x.r.t + 1) y = true := fun y hy => by
    rw [aheadB_iff]
    have := (List.pairwise_append.1 hs).2.2 y hy x (by simp)
    unfold leKT at this
    omega
  rw [fromN_all hall]
  unfold insH
  rw [List.take_length, List.drop_length]
theorem rowN_i64 {s : Int} (hs : s = 0 ∨ s = 1) {h : Hd} (hg : goodR h.r) (h0 : 0 ≤ h.m) (h1 : h.m ≤ 9223372036854775807) : ∀ n ∈ rowN s h, -9223372036854775808 ≤ n ∧ n ≤ 9223372036854775807 := by
  have := hg.i64
  intro n hn
  simp only [rowN, List.mem_cons, List.not_mem_nil, or_false] at hn
  omega
theorem wRow_up : ∀ b ∈ wRow, 97 ≤ b.toNat := by decide
theorem wOut_up : ∀ b ∈ wOut, 97 ≤ b.toNat := by decide
theorem wPlan_up : ∀ b ∈ wPlan, 97 ≤ b.toNat := by decide
theorem wFed_up : ∀ b ∈ wFed, 97 ≤ b.toNat := by decide
theorem wMarks_up : ∀ b ∈ wMarks, 97 ≤ b.toNat := by decide
theorem wEnd_up : ∀ b ∈ wEnd, 97 ≤ b.toNat := by decide
theorem load_rows0 (e : ESt) (xs : List (List UInt8)) : ∀ (q p : List Hd) (i : Nat), 3 ≤ i → e.st.a = p → SortedH (p ++ q) → (p ++ q).length ≤ 300 → (∀ h ∈ q, goodR h.r ∧ 0 ≤ h.m ∧ h.m ≤ 9223372036854775807) →
    loadLs i (q.map (fun h => lineB wRow (rowN 0 h)) ++ xs) (some e) = loadLs (i + q.length) xs (some { e with st := { e.st with a := p ++ q } })
  | [], p, i, _, he, _, _, _ => by subst he; simp
  | x :: q, p, i, hi, he, hs, hl, hg => by
    have hx := hg x List.mem_cons_self
    have e1 : p ++ x :: q = (p ++ [x]) ++ q := by simp
    have hs1 : SortedH (p ++ [x]) := by rw [e1] at hs; exact (List.pairwise_append.1 hs).1
    obtain ⟨h1, h2⟩ := addL_last hs1 hx.1 hx.2.1 (by simp at hl; omega)
    have hline : lineE i wRow (rowN 0 x) (some e) = some { e with st := { e.st with a := p ++ [x] } } := by
      unfold lineE
      rw [if_neg (by decide)]
      simp only
      rw [if_neg (by omega), if_neg (by decide), if_neg (by omega), if_neg (by decide), if_neg (by omega), if_pos trivial]
      unfold rowN
      simp only
      have hgo : ∀ y : Hd, y = x → (if putE2 0 y e.st = 0 then some { e with st := putJ (Int.toNat 0) y e.st } else none) = some { e with st := { e.st with a := p ++ [x] } } := by
        rintro y rfl
        have hp : putE2 0 y e.st = 0 := by
          unfold putE2
          rw [if_pos rfl]
          rw [he]; exact h1
        have : putJ (Int.toNat 0) y e.st = { e.st with a := p ++ [y] } := by
          show putJ 0 y e.st = _
          unfold putJ JSt.put JSt.of
          simp only [if_true]
          rw [he, h2]
        rw [if_pos hp, this]
      exact hgo _ rfl
    rw [List.map_cons, List.cons_append, loadLs_line wRow_up (rowN_i64 (.inl rfl) hx.1 hx.2.1 hx.2.2) hline]
    rw [load_rows0 { e with st := { e.st with a := p ++ [x] } } xs q (p ++ [x]) (i + 1) (by omega) rfl (by rw [← e1]; exact hs) (by rw [← e1]; exact hl) (fun h hh => hg h (List.mem_cons_of_mem _ hh))]
    simp only [List.length_cons]
    rw [show i + 1 + q.length = i + (q.length + 1) by omega, List.append_assoc]; rfl
theorem load_rows1 (e : ESt) (xs : List (List UInt8)) : ∀ (q p : List Hd) (i : Nat), 3 ≤ i → e.st.b = p → SortedH (p ++ q) → (p ++ q).length ≤ 300 → (∀ h ∈ q, goodR h.r ∧ 0 ≤ h.m ∧ h.m ≤ 9223372036854775807) →
    loadLs i (q.map (fun h => lineB wRow (rowN 1 h)) ++ xs) (some e) = loadLs (i + q.length) xs (some { e with st := { e.st with b := p ++ q } })
  | [], p, i, _, he, _, _, _ => by subst he; simp
  | x :: q, p, i, hi, he, hs, hl, hg => by
    have hx := hg x List.mem_cons_self
    have e1 : p ++ x :: q = (p ++ [x]) ++ q := by simp
    have hs1 : SortedH (p ++ [x]) := by rw [e1] at hs; exact (List.pairwise_append.1 hs).1
    obtain ⟨h1, h2⟩ := addL_last hs1 hx.1 hx.2.1 (by simp at hl; omega)
    have hline : lineE i wRow (rowN 1 x) (some e) = some { e with st := { e.st with b := p ++ [x] } } := by
      unfold lineE
      rw [if_neg (by decide)]
      simp only
      rw [if_neg (by omega), if_neg (by decide), if_neg (by omega), if_neg (by decide), if_neg (by omega), if_pos trivial]
      unfold rowN
      simp only
      have hgo : ∀ y : Hd, y = x → (if putE2 1 y e.st = 0 then some { e with st := putJ (Int.toNat 1) y e.st } else none) = some { e with st := { e.st with b := p ++ [x] } } := by
        rintro y rfl
        have hp : putE2 1 y e.st = 0 := by
          unfold putE2
          rw [if_neg (by decide), if_pos rfl]
          rw [he]; exact h1
        have : putJ (Int.toNat 1) y e.st = { e.st with b := p ++ [y] } := by
          show putJ 1 y e.st = _
          unfold putJ JSt.put JSt.of
          simp only [if_neg (show ¬ (1 : Nat) = 0 by decide)]
          rw [he, h2]
        rw [if_pos hp, this]
      exact hgo _ rfl
    rw [List.map_cons, List.cons_append, loadLs_line wRow_up (rowN_i64 (.inr rfl) hx.1 hx.2.1 hx.2.2) hline]
    rw [load_rows1 { e with st := { e.st with b := p ++ [x] } } xs q (p ++ [x]) (i + 1) (by omega) rfl (by rw [← e1]; exact hs) (by rw [← e1]; exact hl) (fun h hh => hg h (List.mem_cons_of_mem _ hh))]
    simp only [List.length_cons]
    rw [show i + 1 + q.length = i + (q.length + 1) by omega, List.append_assoc]; rfl
theorem outE_outN {x : Out} (h : OutOk x) : outE (outN x) = some x ∧ ∀ n ∈ outN x, -9223372036854775808 ≤ n ∧ n ≤ 9223372036854775807 := by
  rcases h with ⟨s, r, hs, hg, rfl⟩ | ⟨l, r, hl, hr, hk, rfl⟩
  · have := hg.i64
    have hs' : s = 0 ∨ s = 1 := by omega
    rcases hs' with rfl | rfl
    · have e : outN (loneS 0 r) = [1, r.k, r.t, r.v] := by simp [outN, loneS]
      rw [e]
      refine ⟨?_, fun n hn => ?_⟩
      · simp only [outE]
        rw [if_pos ⟨by decide, hg⟩]; rfl
      · simp only [List.mem_cons, List.not_mem_nil, or_false] at hn
        omega
    · have e : outN (loneS 1 r) = [2, r.k, r.t, r.v] := by simp [outN, loneS]
      rw [e]
      refine ⟨?_, fun n hn => ?_⟩
      · simp only [outE]
        rw [if_pos ⟨by decide, hg⟩]; rfl
      · simp only [List.mem_cons, List.not_mem_nil, or_false] at hn
        omega
  · have h1 := hl.i64
    have h2 := hr.i64
    have e : outN (pairO l r) = [3, l.k, l.t, l.v, r.k, r.t, r.v] := by simp [outN, pairO]
    rw [e]
    refine ⟨?_, fun n hn => ?_⟩
    · simp only [outE]
      rw [if_pos ⟨trivial, hl, hr, hk⟩]
    · simp only [List.mem_cons, List.not_mem_nil, or_false] at hn
      omega
theorem load_outs (xs : List (List UInt8)) : ∀ (q : List Out) (e : ESt) (i : Nat), 3 ≤ i → (∀ x ∈ q, OutOk x) →
    loadLs i (q.map (fun x => lineB wOut (outN x)) ++ xs) (some e) = loadLs (i + q.length) xs (some { e with V := q.reverse ++ e.V })
  | [], e, i, _, _ => by simp
  | x :: q, e, i, hi, hg => by
    obtain ⟨h1, h2⟩ := outE_outN (hg x List.mem_cons_self)
    have hline : lineE i wOut (outN x) (some e) = some { e with V := x :: e.V } := by
      unfold lineE
      rw [if_neg (by decide)]
      simp only
      rw [if_neg (by omega), if_neg (by decide), if_neg (by omega), if_neg (by decide), if_neg (by omega), if_neg (by decide), if_pos trivial, h1]; rfl
    rw [List.map_cons, List.cons_append, loadLs_line wOut_up h2 hline, load_outs xs q { e with V := x :: e.V } (i + 1) (by omega) (fun y hy => hg y (List.mem_cons_of_mem _ hy))]
    simp only [List.length_cons, List.reverse_cons]
    rw [show i + 1 + q.length = i + (q.length + 1) by omega, List.append_assoc]; rfl
theorem moveI_start0 {t y : Int} (h0 : -1099511627776 ≤ t) (h1 : t ≤ 1099511627776) : moveI 0 t (-1099511627777) y = 0 := by
  unfold moveI ofI
  rw [if_neg (by decide), if_neg (by omega), if_pos rfl, if_neg (by omega)]
theorem moveI_start1 {t x : Int} (h0 : -1099511627776 ≤ t) (h1 : t ≤ 1099511627776) : moveI 1 t x (-1099511627777) = 0 := by
  unfold moveI ofI
  rw [if_neg (by decide), if_neg (by omega)]
  simp only [show ¬ (1 : Int) = 0 by decide, if_false, if_true]
  rw [if_neg (by omega)]
theorem moveE_new {lo hi t : Int} {s : Nat} (hs : s < 2) {st : JSt} (ha : st.a = []) (hb : st.b = []) (h0 : (if s = 0 then st.x else st.y) = -1099511627777) (ht : -1099511627777 ≤ t ∧ t ≤ 1099511627776) :
    moveE lo hi s t st = some (if s = 0 then { st with x := t } else { st with y := t }) := by
  obtain ⟨a, b, x, y, late⟩ := st
  simp only at ha hb h0
  subst ha; subst hb
  have hs' : s = 0 ∨ s = 1 := by omega
  unfold moveE
  rcases hs' with rfl | rfl
  · simp only [if_true] at h0 ⊢
    subst h0
    by_cases h1 : t = -1099511627777
    · subst h1; rw [if_pos rfl]
    · rw [if_neg h1]; exact (if_pos (moveI_start0 (t := t) (y := y) (by omega) (by omega))).trans rfl
  · simp only [if_neg (show ¬ (1 : Nat) = 0 by decide)] at h0 ⊢
    subst h0
    by_cases h1 : t = -1099511627777
    · subst h1; rw [if_pos rfl]
    · rw [if_neg h1]; exact (if_pos (moveI_start1 (t := t) (x := x) (by omega) (by omega))).trans rfl
theorem load_head (e : ESt) (h : EOk e) (xs : List (List UInt8)) :
    loadLs 0 ((headLs e).map (fun x => lineB x.1 x.2) ++ xs) none = loadLs 3 xs (some ⟨e.lo, e.hi, e.md, ⟨[], [], e.st.x, e.st.y, e.st.late⟩, [], e.f0, e.f1⟩) := by
  have hp := h.plan
  have hck : (-1048576 ≤ e.lo ∧ e.lo ≤ 1048576) ∧ (-1048576 ≤ e.hi ∧ e.hi ≤ 1048576) ∧ 0 ≤ e.md ∧ e.md ≤ 3 := by
    unfold checkI at hp
    by_cases h1 : ¬ (-1048576 ≤ e.lo ∧ e.lo ≤ 1048576) ∨ ¬ (-1048576 ≤ e.hi ∧ e.hi ≤ 1048576)
    · rw [if_pos h1] at hp; cases hp
    · rw [if_neg h1] at hp
      by_cases h2 : e.hi < e.lo
      · rw [if_pos h2] at hp; cases hp
      · rw [if_neg h2] at hp
        by_cases h3 : ¬ (0 ≤ e.md ∧ e.md ≤ 3)
        · rw [if_pos h3] at hp; cases hp
        · omega
  have hf0 := h.f0; have hf1 := h.f1; have hl := h.late; have i0 := h.i0; have i1 := h.i1; have il := h.il; have mx := h.mx; have my := h.my
  unfold headLs
  simp only [List.map_cons, List.map_nil, List.cons_append, List.nil_append]
  have l0 : lineE 0 wPlan [e.lo, e.hi, e.md] none = some ⟨e.lo, e.hi, e.md, ⟨[], [], -1099511627777, -1099511627777, 0⟩, [], 0, 0⟩ := by
    unfold lineE
    rw [if_pos rfl]
    simp only
    rw [if_pos ⟨trivial, hp⟩]
  have l1 : lineE 1 wFed [e.f0, e.f1, e.st.late] (some ⟨e.lo, e.hi, e.md, ⟨[], [], -1099511627777, -1099511627777, 0⟩, [], 0, 0⟩) = some ⟨e.lo, e.hi, e.md, ⟨[], [], -1099511627777, -1099511627777, e.st.late⟩, [], e.f0, e.f1⟩ := by
    unfold lineE
    rw [if_neg (by decide)]
    simp only
    rw [if_neg (by decide), if_pos trivial, if_pos ⟨trivial, hf0, hf1, hl⟩]
  have l2 : lineE 2 wMarks [e.st.x, e.st.y] (some ⟨e.lo, e.hi, e.md, ⟨[], [], -1099511627777, -1099511627777, e.st.late⟩, [], e.f0, e.f1⟩) = some ⟨e.lo, e.hi, e.md, ⟨[], [], e.st.x, e.st.y, e.st.late⟩, [], e.f0, e.f1⟩ := by
    unfold lineE
    rw [if_neg (by decide)]
    simp only
    rw [if_neg (by decide), if_neg (by decide), if_neg (by decide), if_pos trivial, if_pos trivial]
    rw [moveE_new (s := 0) (by decide) rfl rfl (by rfl) mx]
    simp only [if_true, Option.bind_some]
    rw [moveE_new (s := 1) (by decide) rfl rfl (by rfl) my]
    rfl
  rw [loadLs_line wPlan_up (by intro k hk; simp only [List.mem_cons, List.not_mem_nil, or_false] at hk; omega) l0,
    loadLs_line wFed_up (by intro k hk; simp only [List.mem_cons, List.not_mem_nil, or_false] at hk; omega) l1,
    loadLs_line wMarks_up (by intro k hk; simp only [List.mem_cons, List.not_mem_nil, or_false] at hk; omega) l2]
theorem savedLs_up (e : ESt) : ∀ x ∈ savedLs e, ∀ b ∈ x.1, 97 ≤ b.toNat := by
  intro x hx
  unfold savedLs headLs bodyLs at hx
  simp only [List.mem_append, List.mem_map, List.mem_cons, List.not_mem_nil, or_false] at hx
  rcases hx with (rfl | rfl | rfl) | (⟨_, _, rfl⟩ | ⟨_, _, rfl⟩ | ⟨_, _, rfl⟩) | rfl
  · exact wPlan_up
  · exact wFed_up
  · exact wMarks_up
  · exact wRow_up
  · exact wRow_up
  · exact wOut_up
  · exact wEnd_up
/-- What is saved is loaded. -/
theorem load_saved (e : ESt) (h : EOk e) (hl : (savedT e).length ≤ 60000) : loadE (savedT e) = some { e with V := (sortO e.V).reverse } := by
  have hc : cut1 10 (savedT e) = ((headLs e ++ bodyLs e).map fun x => lineB x.1 x.2) ++ [wEnd, []] := by
    unfold savedT
    rw [cut_text _ (savedLs_up e)]
    unfold savedLs
    rw [← List.append_assoc, List.map_append, List.append_assoc]
    rfl
  have hlen : (cut1 10 (savedT e)).length = (headLs e ++ bodyLs e).length + 2 := by rw [hc, List.length_append, List.length_map]; rfl
  have h3 : 3 ≤ (headLs e ++ bodyLs e).length := by rw [List.length_append]; show 3 ≤ 3 + _; omega
  have e1 : (cut1 10 (savedT e))[(cut1 10 (savedT e)).length - 2]? = some wEnd := by
    rw [hlen, hc, List.getElem?_append_right (by rw [List.length_map]; omega), List.length_map, show (headLs e ++ bodyLs e).length + 2 - 2 - (headLs e ++ bodyLs e).length = 0 by omega]; rfl
  have e2 : (cut1 10 (savedT e))[(cut1 10 (savedT e)).length - 1]? = some [] := by
    rw [hlen, hc, List.getElem?_append_right (by rw [List.length_map]; omega), List.length_map, show (headLs e ++ bodyLs e).length + 2 - 1 - (headLs e ++ bodyLs e).length = 1 by omega]; rfl
  have e3 : (cut1 10 (savedT e)).take ((cut1 10 (savedT e)).length - 2) = (headLs e ++ bodyLs e).map fun x => lineB x.1 x.2 := by
    rw [hlen, Nat.add_sub_cancel, hc, List.take_left' (by rw [List.length_map])]
  have hload : loadLs 0 ((headLs e ++ bodyLs e).map fun x => lineB x.1 x.2) none = some (some { e with V := (sortO e.V).reverse }) := by
    rw [List.map_append, load_head e h]
    unfold bodyLs
    rw [List.map_append, List.map_append, List.map_map, List.map_map, List.map_map]
    have r0 := load_rows0 ⟨e.lo, e.hi, e.md, ⟨[], [], e.st.x, e.st.y, e.st.late⟩, [], e.f0, e.f1⟩ (e.st.b.map (fun h => lineB wRow (rowN 1 h)) ++ (sortO e.V).map (fun x => lineB wOut (outN x))) e.st.a [] 3 (by omega) rfl h.sa h.la h.ga
    have r1 := load_rows1 ⟨e.lo, e.hi, e.md, ⟨e.st.a, [], e.st.x, e.st.y, e.st.late⟩, [], e.f0, e.f1⟩ ((sortO e.V).map (fun x => lineB wOut (outN x))) e.st.b [] (3 + e.st.a.length) (by omega) rfl h.sb h.lb h.gb
    have r2 := load_outs [] (sortO e.V) ⟨e.lo, e.hi, e.md, ⟨e.st.a, e.st.b, e.st.x, e.st.y, e.st.late⟩, [], e.f0, e.f1⟩ (3 + e.st.a.length + e.st.b.length) (by omega) (fun x hx => h.v x ((sortO_perm _).mem_iff.1 hx))
    rw [List.append_nil] at r2
    refine r0.trans (r1.trans (r2.trans ?_))
    simp [loadLs]
  have hs : savedT { e with V := (sortO e.V).reverse } = savedT e := by
    have : sortO (sortO e.V).reverse = sortO e.V := sortO_of_perm ((List.reverse_perm _).trans (sortO_perm _))
    unfold savedT savedLs bodyLs headLs
    simp only [this]
  unfold loadE
  rw [if_neg (fun hh => by
    rw [e1, e2, hlen] at hh
    rcases hh with h | h | h | h
    · omega
    · omega
    · exact h rfl
    · exact h rfl), e3, hload]
  simp only
  rw [if_pos hs]
theorem savedT_perm {e : ESt} {V : List Out} (hp : V.Perm e.V) : savedT { e with V := V } = savedT e := by
  unfold savedT savedLs bodyLs headLs
  simp only [sortO_of_perm hp]
end Go.Proofs.YtmcgnnmffeojpaaGreatDoor
