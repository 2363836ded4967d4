/- The law BagBack: what its walk wants. -/
import Derived.Test.YtmcgnnmffeojpaaGreatDoorPk5
import Derived.Test.YtmcgnnmffeojpaaGreatDoorPk7
import Derived.Test.YtmcgnnmffeojpaaGreatDoorPk9
import Derived.Shelf.SlSortCmp.NoneTotal
import Derived.Ground.SlsfProg
import Derived.Test.YtmcgnnmffeojpaaGreatDoorProg
import Derived.Laws.AppendOwn
import Derived.Maps.AppendAt
import Derived.OwnWalk
import Derived.Maps.Range
import Derived.Carry
import Derived.IntWalk
/-
  DERIVED: THE SHELF's CONTRACTS AT THIS DUMP, IN PLAIN WORDS (tools/lay-plain.mjs out of 'YtmcgnnmffeojpaaGreatDoorLayScratch.lean', which tools/lay-shelf.mjs wrote): THE SAME DECLARATIONS UNDER THE SAME NAMES: 'import', 'namespace', 'open', 'def', 'theorem' AND NOTHING ELSE: no command of the shelf's: FOR A HAND-IN. Each laying: the table of numbers ('.._ren') and one theorem, a field a fact of the dump's own or the kernel's comparison; each contract: ONE APPLICATION.
-/
namespace Go.Proofs
open Go.Shelf
def Tryz.shSortOut_ren : Go.Shelf.Ren := ⟨fun | 6 => 54 | 15 => 71 | 14 => 89 | 28 => 109 | 29 => 110 | 20 => 124 | 21 => 125 | 22 => 126 | 23 => 127 | 24 => 128 | 25 => 129 | 26 => 130 | 27 => 131 | 46 => 154 | 47 => 138 | 48 => 139 | 49 => 155 | 50 => 156 | 57 => 170 | n => n, fun | 22 => 29 | 24 => 58 | 25 => 124 | 3 => 3 | 39 => 89 | 0 => 0 | 53 => 198 | 55 => 200 | 4 => 4 | 46 => 192 | 45 => 191 | 50 => 107 | 5 => 5 | 9 => 9 | 66 => 221 | 70 => 225 | 76 => 246 | 77 => 156 | n => n, fun | n => n⟩
theorem Tryz.shSortOut : Go.Proofs.SlLaysF0.n6 Tryz.prog Tryz.shSortOut_ren := {
  mixed := by kernel_rfl
  f6 := ⟨Tryz.f54.name, by decide, Tryz.func54.trans (congrArg some (by kernel_rfl))⟩
  f14 := ⟨Tryz.f89.name, by decide, Tryz.func89.trans (congrArg some (by kernel_rfl))⟩
  f15 := Tryz.func71.trans (congrArg some (by kernel_rfl))
  f20 := ⟨Tryz.f124.name, by decide, Tryz.func124.trans (congrArg some (by kernel_rfl))⟩
  f21 := ⟨Tryz.f125.name, by decide, Tryz.func125.trans (congrArg some (by kernel_rfl))⟩
  f22 := ⟨Tryz.f126.name, by decide, Tryz.func126.trans (congrArg some (by kernel_rfl))⟩
  f23 := ⟨Tryz.f127.name, by decide, Tryz.func127.trans (congrArg some (by kernel_rfl))⟩
  f24 := ⟨Tryz.f128.name, by decide, Tryz.func128.trans (congrArg some (by kernel_rfl))⟩
  f25 := ⟨Tryz.f129.name, by decide, Tryz.func129.trans (congrArg some (by kernel_rfl))⟩
  f26 := ⟨Tryz.f130.name, by decide, Tryz.func130.trans (congrArg some (by kernel_rfl))⟩
  f27 := ⟨Tryz.f131.name, by decide, Tryz.func131.trans (congrArg some (by kernel_rfl))⟩
  f28 := Tryz.func109.trans (congrArg some (by kernel_rfl))
  f29 := Tryz.func110.trans (congrArg some (by kernel_rfl))
  f46 := ⟨Tryz.f154.name, by decide, Tryz.func154.trans (congrArg some (by kernel_rfl))⟩
  f47 := Tryz.func138.trans (congrArg some (by kernel_rfl))
  f48 := Tryz.func139.trans (congrArg some (by kernel_rfl))
  f49 := ⟨Tryz.f155.name, by decide, Tryz.func155.trans (congrArg some (by kernel_rfl))⟩
  f50 := ⟨Tryz.f156.name, by decide, Tryz.func156.trans (congrArg some (by kernel_rfl))⟩
  f57 := ⟨Tryz.f170.name, by decide, Tryz.func170.trans (congrArg some (by kernel_rfl))⟩
  t0 := Tryz.underlying0
  a0 := Tryz.isAgg0
  z0 := Tryz.sizeOf0
  v0 := Tryz.zeroValue0
  t3 := Tryz.underlying3
  a3 := Tryz.isAgg3
  z3 := Tryz.sizeOf3
  v3 := Tryz.zeroValue3
  t4 := Tryz.underlying4
  a4 := Tryz.isAgg4
  z4 := Tryz.sizeOf4
  v4 := Tryz.zeroValue4
  t5 := Tryz.underlying5
  a5 := Tryz.isAgg5
  z5 := Tryz.sizeOf5
  v5 := Tryz.zeroValue5
  t9 := Tryz.underlying9
  a9 := Tryz.isAgg9
  z9 := Tryz.sizeOf9
  v9 := Tryz.zeroValue9
  t22 := Tryz.underlying29
  a22 := Tryz.isAgg29
  z22 := Tryz.sizeOf29
  v22 := Tryz.zeroValue29
  t25 := Tryz.underlying124
  a25 := Tryz.isAgg124
  z25 := Tryz.sizeOf124
  v25 := Tryz.zeroValue124
  t39 := Tryz.underlying89
  a39 := Tryz.isAgg89
  z39 := Tryz.sizeOf89
  v39 := Tryz.zeroValue89
  t45 := Tryz.underlying191
  a45 := Tryz.isAgg191
  z45 := Tryz.sizeOf191
  v45 := Tryz.zeroValue191
  t46 := Tryz.underlying192
  a46 := Tryz.isAgg192
  z46 := Tryz.sizeOf192
  v46 := Tryz.zeroValue192
  t50 := Tryz.underlying107
  a50 := Tryz.isAgg107
  z50 := Tryz.sizeOf107
  v50 := Tryz.zeroValue107
  t53 := Tryz.underlying198
  a53 := Tryz.isAgg198
  z53 := Tryz.sizeOf198
  v53 := Tryz.zeroValue198
  t55 := Tryz.underlying200
  a55 := Tryz.isAgg200
  z55 := Tryz.sizeOf200
  v55 := Tryz.zeroValue200
  t66 := Tryz.underlying221
  a66 := Tryz.isAgg221
  z66 := Tryz.sizeOf221
  v66 := Tryz.zeroValue221
  t70 := Tryz.underlying225
  a70 := Tryz.isAgg225
  z70 := Tryz.sizeOf225
  v70 := Tryz.zeroValue225
  t76 := Tryz.underlying246
  a76 := Tryz.isAgg246
  z76 := Tryz.sizeOf246
  v76 := Tryz.zeroValue246
  t77 := Tryz.underlying156
  a77 := Tryz.isAgg156
  z77 := Tryz.sizeOf156
  v77 := Tryz.zeroValue156 }
end Go.Proofs
/- Rows of Outs in memory; slices.SortFunc of them by row.CompareOut. -/
namespace Go.Proofs.YtmcgnnmffeojpaaGreatDoor
open Go.RowKit Go.Plan Go.Sort Go.Shelf Go.Lib

theorem outCells_len (x : Out) : x.cells.length = 9 := rfl
theorem outCells_one (x : Out) : ∀ v ∈ x.cells, v.oneCell' = true := by
  intro v hv
  simp only [Out.cells, List.mem_cons, List.not_mem_nil, or_false] at hv
  rcases hv with rfl | rfl | rfl | rfl | rfl | rfl | rfl | rfl | rfl <;> rfl

theorem outsCells_len (l : List Out) : (l.flatMap Out.cells).length = l.length * 9 := by
  induction l with
  | nil => rfl
  | cons x r ih => rw [List.flatMap_cons, List.length_append, ih, outCells_len, List.length_cons]; omega
theorem outsCells_get (l : List Out) (i c : Nat) (hi : i < l.length) (hc : c < 9) : (l.flatMap Out.cells)[i * 9 + c]? = (l[i]'hi).cells[c]? := by
  induction l generalizing i with
  | nil => simp at hi
  | cons x r ih =>
    rw [List.flatMap_cons]
    cases i with
    | zero => rw [List.getElem?_append_left (by rw [outCells_len]; omega)]; simp
    | succ i =>
      rw [List.getElem?_append_right (by rw [outCells_len]; omega), outCells_len]
      have := ih i (by simpa using hi)
      rw [show (i + 1) * 9 + c - 9 = i * 9 + c by omega, this]
      simp

/-- The cells at ⟨b, off⟩ hold these Outs, one behind the other. -/
def OutsAt (w : World) (b off : Nat) (l : List Out) : Prop := HoldsK Out.cells 9 w b off l.toArray

theorem OutsAt.cell {w : World} {b off : Nat} {l : List Out} (h : OutsAt w b off l) (i c : Nat) (hi : i < l.length) (hc : c < 9) :
    w.cell? ⟨b, off + i * 9 + c, none⟩ = (l[i]'hi).cells[c]? ∧ w.frozen? ⟨b, off + i * 9 + c, none⟩ = false := by
  have := HoldsK.cell h (i := i) (c := c) (by simpa using hi) hc
  refine ⟨this.1.trans ?_, this.2⟩
  have e : l.toArray[i]! = l[i]'hi := by simp [hi]
  rw [e, List.getElem!_eq_getElem?_getD, List.getElem?_eq_getElem (by rw [outCells_len]; exact hc)]
  rfl

theorem flatK_outs (l : List Out) : (flatK Out.cells 9 l.toArray).toList = l.flatMap Out.cells := by
  apply List.ext_getElem?
  intro j
  by_cases hj : j < l.length * 9
  · have hd : j / 9 < l.length := by omega
    have e1 := outsCells_get l (j / 9) (j % 9) hd (by omega)
    rw [show j / 9 * 9 + j % 9 = j by omega] at e1
    rw [e1]
    have hs : j < (flatK Out.cells 9 l.toArray).size := by simpa using hj
    have e2 := get_flatK Out.cells 9 l.toArray j (by simpa using hj)
    rw [Array.getElem?_toList, Array.getElem?_eq_getElem hs]
    rw [getElem!_pos _ j hs] at e2
    rw [e2]
    have e : l.toArray[j / 9]! = l[j / 9]'hd := by simp [hd]
    rw [e, List.getElem!_eq_getElem?_getD, List.getElem?_eq_getElem (by rw [outCells_len]; omega)]
    rfl
  · rw [List.getElem?_eq_none (by simp; omega), List.getElem?_eq_none (by rw [outsCells_len]; omega)]

theorem OutsAt.of_own {w : World} {base : Nat} {e : TypeId} {b cap n : Nat} {l : List Out} (h : w.ownsRow base e 9 (.slice (some ⟨b, 0, none⟩) n cap) n (l.flatMap Out.cells)) : OutsAt w b 0 l := by
  obtain ⟨hl, hr⟩ := h
  rcases hr with ⟨h, -⟩ | ⟨g, cap', cur, hv, hbase, hb, h1, h2, h3, h4⟩
  · cases h
  · simp only [Value.slice.injEq, Option.some.injEq, Addr.mk.injEq, and_true, true_and] at hv
    obtain ⟨rfl, rfl⟩ := hv
    intro j hj
    have hj' : j < l.length * 9 := by simpa using hj
    refine ⟨?_, by simp [World.frozen?, hb]⟩
    rw [outsCells_len] at hl
    have e1 : (cur.toList.take (n * 9))[j]? = (flatK Out.cells 9 l.toArray).toList[j]? := by rw [h4, flatK_outs]
    rw [List.getElem?_take_of_lt (by omega), Array.getElem?_toList, Array.getElem?_toList] at e1
    simp only [World.cell?, hb, Nat.zero_add]
    have hs : j < (flatK Out.cells 9 l.toArray).size := hj
    rw [e1, getElem!_pos _ j hs, Array.getElem?_eq_getElem hs]
    rfl

theorem OutsAt.keep {w w' : World} {b off : Nat} {l : List Out} (h : OutsAt w b off l) (hb : w'.heap[b]? = w.heap[b]?) : OutsAt w' b off l := by
  intro j hj
  obtain ⟨h1, h2⟩ := h j hj
  exact ⟨(World.cell?_of_block (w := w) (w' := w') (a := ⟨b, off + j, none⟩) hb).trans h1, (World.frozen?_of_block (w := w) (w' := w') (a := ⟨b, off + j, none⟩) hb).trans h2⟩

theorem sortWorldK_ext {w : World} {b n : Nat} {d : Array Out} {os : Array Obj} : ExtM (fun k => k = b) w (sortWorldK Out.cells 9 w b 0 n d os) := by
  refine ⟨rfl, rfl, rfl, by simp [sortWorldK, putRowK], fun k hk hne => ?_⟩
  unfold sortWorldK putRowK
  rw [heap_grow_old _ _ (by simpa using hk)]
  have : b ≠ k := fun e => hne e.symm
  simp [putRow, mapBlock, Sort.ahead, Array.getElem?_modify, this]

theorem isAggOut (w : World) : (isAgg 58).run Tryz.prog w = .ok true w := by kernel_rfl
theorem sizeOfOut (w : World) : (Go.sizeOf 58).run Tryz.prog w = .ok 9 w := by kernel_rfl

/-- Block b is a row of Outs. -/
def OTag (w : World) (b : Nat) : Prop := ∃ c, w.heap[b]? = some (.cells c 58 (0, 0))
theorem sortTag {w : World} {b n : Nat} {d : Array Out} {os : Array Obj} (h : OTag w b) : OTag (sortWorldK Out.cells 9 w b 0 n d os) b := by
  obtain ⟨c, hc⟩ := h
  have hlt := (Array.getElem?_eq_some_iff.1 hc).1
  unfold sortWorldK putRowK OTag
  rw [heap_grow_old _ _ (by simpa using hlt)]
  simp only [putRow, mapBlock, Sort.ahead, Array.getElem?_modify, hc, if_pos, Option.map_some]
  exact ⟨_, rfl⟩
theorem sortOut_c (b cap : Nat) (l : List Out) (w : World) (hH : OutsAt w b 0 l) (hb : b < w.heap.size) (hsz : l.length < 4611686018427387904) :
    Calls Tryz.prog 54 #[.slice (some ⟨b, 0, none⟩) l.length cap, .func (.func 55) #[] #[]] w fun e w' =>
      e = .returned (.tuple #[]) ∧ ExtM (fun k => k = b) w w' ∧ OutsAt w' b 0 (sortO l) ∧ (OTag w b → OTag w' b) := by
  have eg : ∀ args w, (callFunc 55 args).run Tryz.prog w = .ok (.enter 55 args) w := enters_of Tryz.func55 (by kernel_rfl) rfl
  have hcmp : CmpLays Tryz.prog 55 #[] Out.cells 9 compareOutI b 0 l.toArray.size w := fun _ _ _ _ x y => compareOut_g x y _
  have hcon := AnyQ.slices_SortFunc_total Tryz.shSortOut 9 isAggOut sizeOfOut Out.cells outCells_len outCells_one compareOutI swoOut 55 #[] b 0 cap l.toArray w eg hcmp hH hb (by simpa using hsz) totOut
  have e1 : l.toArray.size = l.length := by simp
  rw [e1] at hcon
  refine hcon.mono fun e w' hh => ?_
  obtain ⟨he, n, os, hw⟩ := hh
  have e2 : (l.toArray.toList.mergeSort fun x y => !(ltOf compareOutI) y x).toArray = (sortO l).toArray := rfl
  rw [e2] at hw
  subst hw
  exact ⟨he, sortWorldK_ext, holdsK_sortWorldK_c Out.cells 9 w b 0 l.toArray (sortO l).toArray n os hH hb (by simp [sortO_length]), sortTag⟩
theorem sortOut0_c (p : Option Addr) (cap : Nat) (w : World) :
    Calls Tryz.prog 54 #[.slice p 0 cap, .func (.func 55) #[] #[]] w fun e w' => e = .returned (.tuple #[]) ∧ w = w' :=
  (AnyF.slices_SortFunc_none (P := Tryz.prog) (ρ := Tryz.shSortOut_ren) Tryz.shSortOut p cap (.func (.func 55) #[] #[]) w).mono fun _ _ h => ⟨h.1, h.2.symm⟩
end Go.Proofs.YtmcgnnmffeojpaaGreatDoor
/- What '(*Bag).All', '.Many', '.Size' compute. -/
namespace Go.Proofs.YtmcgnnmffeojpaaGreatDoor
open Go.RowKit Go.Plan

theorem rangeLeft_eq {w : World} {D R : Nat} {m left : List (Out × Value)} (h : RangeIs Tryz.prog 58 encO w D R m left) : w.rangeLeft D R = left.length := by
  obtain ⟨es, clock, seen, h1, h2, h3, h4, h5⟩ := h.ex
  have := congrArg List.length h5
  simp only [List.length_map, Array.length_toList] at this
  simp only [World.rangeLeft, h1, h4]
  rw [← this]

theorem infoOut : (Tryz.prog.info? 58).map (fun i => (i.zero, i.size, i.bytes)) = some (some (encO ⟨0, ⟨0, 0, 0⟩, ⟨0, 0, 0⟩, false, false⟩), 9, 64) := by kernel_rfl

/-- 'append(v, x)' of one Out. -/
theorem run_append1 (W : World) (base nb c : Nat) (v : Value) (acc : List Out) (x : Out) (ty : TypeId) (hown : W.ownsRow base 58 9 v acc.length (acc.flatMap Out.cells))
    (hx : ∀ j, j < 9 → W.cell? ⟨nb, j, none⟩ = x.cells[j]?) (hl : acc.length < 1000000000) (hb : base ≤ W.heap.size) :
    ∃ v' w', (Builtin.append_ #[29, 29] ty #[v, .slice (some ⟨nb, 0, none⟩) 1 c]).run Tryz.prog W = .ok v' w' ∧ w'.ownsRow base 58 9 v' (acc ++ [x]).length ((acc ++ [x]).flatMap Out.cells) ∧ W.grownBy w' v.ownBlock ∧
      (v'.ownBlock = v.ownBlock ∨ v'.ownBlock = some W.heap.size) := by
  obtain ⟨i0, hi, hz0, hz1, hz2⟩ := info_parts infoOut
  obtain ⟨v', w', h1, h2, h3, -, h5⟩ := run_append_own_at (P := Tryz.prog) W base 29 ty 58 i0 (encO ⟨0, ⟨0, 0, 0⟩, ⟨0, 0, 0⟩, false, false⟩) 9 64 Tryz.underlying29 hi hz0 hz1 hz2 rfl (by decide) v acc.length _ hown ⟨nb, 0, none⟩ 1 c x.cells rfl
    (fun j u hj => by
      have hj' : j < 9 := (List.getElem?_eq_some_iff.1 hj).1
      have := hx j hj'
      rw [hj] at this
      have e1 : (⟨nb, 0, none⟩ : Addr).add j = ⟨nb, j, none⟩ := by unfold Addr.add; split <;> simp_all
      rw [e1]; exact this) (outCells_one x) (by unfold maxLen; omega) (by omega) hb
  refine ⟨v', w', h1, ?_, h3, h5⟩
  rw [List.flatMap_append, List.length_append]
  simpa using h2

/-- Outs as a result: in memory that was not there. -/
def OutsV (w : World) (l : List Out) (e : Ending) (w' : World) : Prop :=
  ∃ p cap, e = .returned (.slice p l.length cap) ∧ Ext w w' ∧ (l = [] ∨ ∃ b, p = some ⟨b, 0, none⟩ ∧ w.heap.size ≤ b ∧ b < w'.heap.size ∧ OutsAt w' b 0 l ∧ OTag w' b)

theorem ext_ofN {w w1 w2 : World} {N : Nat} (hN : w.heap.size = N) (h : Ext w w1) (hb : ExtB N w1 w2) : Ext w w2 :=
  ⟨hb.os.trans h.os, hb.tape.trans h.tape, hb.output.trans h.output, Nat.le_trans h.size hb.size, fun k hk hn => (hb.block k (Nat.lt_of_lt_of_le hk h.size) (fun e => by have e' : k = N := e; omega)).trans (h.block k hk hn)⟩

set_option maxRecDepth 100000 in
set_option maxHeartbeats 4000000 in
theorem bagAll_c (B o d : Nat) (l : List Out) (w : World) (h : BagIs w B o (some d) l) (hl : l.length < 1000000) :
    Calls Tryz.prog 30 #[.pointer (some ⟨B, o, none⟩)] w (OutsV w (sortO l)) := by
  obtain ⟨d', m, hd, hdB, hm, hcnt⟩ := h.mp.resolve_left (by rintro ⟨h, -⟩; cases h)
  obtain rfl : d = d' := Option.some.inj hd
  have hdw := hm.lt
  have hperm := hcnt.perm hm.nodup
  obtain ⟨c0, c1, f0, f1⟩ := h.cells
  obtain ⟨ob, hrun, hrg⟩ := hm.run_range Tryz.underlying36
  clear h hd
  go_enter Tryz.func30, Tryz.ntmps30
  go_wp2_with fail
  have x0 : Ext w (w.alloc ob) := (ExtM.refl _).alloc _
  have z0 : w.heap.size < (w.alloc ob).heap.size := by rw [World.size_alloc]; omega
  clear hrun c0 c1 f0 f1
  generalize w.alloc ob = w0 at *
  generalize hN : w.heap.size = N at *
  go_loopw [3] (fun v wr => ∃ (left : List (Out × Value)) (acc : List Out), RangeIs Tryz.prog 58 encO wr d N m left ∧ wr.ownsRow (N + 1) 58 9 v acc.length (acc.flatMap Out.cells) ∧ (acc ++ flat left).Perm (flat m) ∧ Ext w wr ∧ ∀ p ∈ left, p ∈ m) (fun _ wr => wr.rangeLeft d N)
  case atStart => exact ⟨m, [], hrg, ⟨rfl, .inl ⟨rfl, rfl⟩⟩, by simp, x0, fun p hp => hp⟩
  case round =>
    clear hrg x0 z0
    obtain ⟨left, acc, hrg, hown, hp, hx, hsub⟩ := hrel
    have hal : acc.length ≤ l.length := by
      have h1 := hp.length_eq
      rw [List.length_append, hperm.length_eq] at h1
      omega
    rcases hrg.run_next 0 with ⟨rfl, hn⟩ | ⟨p, left', w1, hpm, hn, x1, z1, hrg1, hen⟩
    · have hpl : acc.Perm l := by
        have : acc.Perm (flat m) := by rw [show flat [] = [] from rfl, List.append_nil] at hp; exact hp
        exact this.trans hperm
      have hso : sortO acc = sortO l := sortO_of_perm hpl
      have hsl : (sortO l).length = acc.length := by rw [sortO_length]; exact hpl.length_eq.symm
      rcases hown.2 with ⟨rfl, h0⟩ | ⟨g, cap, cur, rfl, hbase, hb, h1, h2, h3, h4⟩
      · go_wp2_with fail
        refine (sortOut0_c none 0 wr).mono ?_
        rintro e w' ⟨rfl, rfl⟩
        go_wp2_with fail
        go_ret
        have hnil : sortO l = [] := List.eq_nil_of_length_eq_zero (by rw [hsl, h0])
        rw [hnil]
        exact ⟨none, 0, rfl, hx, .inl rfl⟩
      · have hOA := OutsAt.of_own hown
        have hgl : g < wr.heap.size := (Array.getElem?_eq_some_iff.1 hb).1
        go_wp2_with fail
        refine (sortOut_c g cap acc wr hOA hgl (by omega)).mono ?_
        rintro e w' ⟨rfl, xs, hOA', htag⟩
        go_wp2_with fail
        go_ret
        rw [hso] at hOA'
        refine ⟨some ⟨g, 0, none⟩, cap, by rw [hsl]; rfl, ?_, .inr ⟨g, rfl, by omega, Nat.lt_of_lt_of_le hgl xs.size, hOA', htag ⟨cur, hb⟩⟩⟩
        exact ⟨xs.os.trans hx.os, xs.tape.trans hx.tape, xs.output.trans hx.output, Nat.le_trans hx.size xs.size, fun k hk _ => (xs.block k (Nat.lt_of_lt_of_le hk hx.size) (fun e => by have e' : k = g := e; omega)).trans (hx.block k hk id)⟩
    · obtain ⟨x, cv⟩ := p
      have hmem := hsub (x, cv) (hpm.mem_iff.2 (by simp))
      have hcv := mlook_mem hm.nodup hmem
      rw [hcnt x] at hcv
      obtain ⟨c, hc⟩ : ∃ c : Nat, l.count x = c := ⟨_, rfl⟩
      rw [hc] at hcv
      have hcp : cv = .int .i64 (c : Int) := by
        split at hcv
        · cases hcv
        · exact (Option.some.inj hcv).symm
      have hcl : c ≤ l.length := by rw [← hc]; exact List.count_le_length
      subst hcp
      clear hcv
      have HC := Lib.hid hc
      clear hc
      have HL := Lib.hid (rangeLeft_eq hrg)
      have hll : left'.length < left.length := by have := hpm.length_eq; simp at this; omega
      have hflat : (flat left).Perm (List.replicate c x ++ flat left') := by
        have h1 : (flat left).Perm (flat ((x, .int .i64 (c : Int)) :: left')) := hpm.flatMap_right flat1
        have h2 : flat ((x, .int .i64 (c : Int)) :: left') = List.replicate c x ++ flat left' := by simp [flat, flat1]
        rw [h2] at h1; exact h1
      have hown1 : w1.ownsRow (N + 1) 58 9 u3 acc.length (acc.flatMap Out.cells) := by
        refine hown.kept (row := some N) ⟨x1.os, x1.tape, x1.output, x1.size, fun k hk hne => x1.block k hk (fun e => hne (by rw [e]))⟩ (.inr fun e => ?_)
        rcases hown.2 with ⟨rfl, h0⟩ | ⟨g, cap, cur, rfl, hbase, -⟩
        · cases e
        · simp [Value.ownBlock] at e; omega
      have hvb : u3.ownBlock ≠ some w1.heap.size := by
        intro e
        rcases hown1.2 with ⟨rfl, h0⟩ | ⟨g, cap, cur, rfl, hbase, hb, -⟩
        · cases e
        · have hgl : g < w1.heap.size := (Array.getElem?_eq_some_iff.1 hb).1
          simp [Value.ownBlock] at e; omega
      have hx1 : Ext w w1 := ext_ofN hN hx x1
      simp only [encO_run] at hn hen
      clear hown hx x1 z1
      go_wp2_with fail
      have bx := BoxO.mk' w1 x 58
      have hrg2 := hrg1.keep (w' := w1.alloc (.cells #[.int .i64 x.key, .int .i64 x.l.k, .int .i64 x.l.t, .int .i64 x.l.v, .int .i64 x.r.k, .int .i64 x.r.t, .int .i64 x.r.v, .bool x.hl, .bool x.hr] 58)) (heap_alloc_lt hrg1.ltD) (heap_alloc_lt hrg1.ltR)
      have hown2 := hown1.alloc (.cells #[.int .i64 x.key, .int .i64 x.l.k, .int .i64 x.l.t, .int .i64 x.l.v, .int .i64 x.r.k, .int .i64 x.r.t, .int .i64 x.r.v, .bool x.hl, .bool x.hr] 58)
      have hx2 := hx1.alloc (.cells #[.int .i64 x.key, .int .i64 x.l.k, .int .i64 x.l.t, .int .i64 x.l.v, .int .i64 x.r.k, .int .i64 x.r.t, .int .i64 x.r.v, .bool x.hl, .bool x.hr] 58)
      clear hn hen hrg hrg1 hown1 hx1
      generalize w1.alloc (.cells #[.int .i64 x.key, .int .i64 x.l.k, .int .i64 x.l.t, .int .i64 x.l.v, .int .i64 x.r.k, .int .i64 x.r.t, .int .i64 x.r.v, .bool x.hl, .bool x.hr] 58) = w2 at *
      generalize w1.heap.size = nb at *
      go_loopw [3, 17] (fun v i wr => ∃ j : Nat, j ≤ c ∧ i = .int .i64 j ∧ RangeIs Tryz.prog 58 encO wr d N m left' ∧ wr.ownsRow (N + 1) 58 9 v (acc ++ List.replicate j x).length ((acc ++ List.replicate j x).flatMap Out.cells) ∧ Ext w wr ∧ BoxO wr nb x ∧ v.ownBlock ≠ some nb) (fun _ i _ => c - (intOf i).toNat)
      case atStart => exact ⟨0, Nat.zero_le _, rfl, hrg2, by simpa using hown2, hx2, bx, hvb⟩
      case round =>
        clear hrg2 hown2 hx2 bx hvb
        obtain ⟨j, hj, rfl, hrg, hown, hx, bx, hvb⟩ := hrel
        by_cases hjc : j < c
        · have hd : decide ((j : Int) < c) = true := by simp; omega
          have bz := BoxO.mk' wr x 58
          have hlen : (acc ++ List.replicate j x).length < 1000000000 := by
            have h1 := hp.length_eq
            rw [List.length_append, hflat.length_eq, hperm.length_eq, List.length_append, List.length_replicate] at h1
            rw [List.length_append, List.length_replicate]; omega
          obtain ⟨v', w', happ, hown', hgr, hloc⟩ := run_append1 (wr.alloc (.cells #[.int .i64 x.key, .int .i64 x.l.k, .int .i64 x.l.t, .int .i64 x.l.v, .int .i64 x.r.k, .int .i64 x.r.t, .int .i64 x.r.v, .bool x.hl, .bool x.hr] 58)) (N + 1) wr.heap.size 1 _ _ x 29 (hown.alloc _) bz.cells hlen (by have := bx.lt; have := hrg.ltR; rw [World.size_alloc]; omega)
          have hbq := bx.lt
          have hRq := hrg.ltR
          have hDq := hrg.ltD
          have hv2 : v'.ownBlock ≠ some nb := by
            rcases hloc with h | h
            · rw [h]; exact hvb
            · rw [h, World.size_alloc]; intro e; have := Option.some.inj e; omega
          have hkeep : ∀ k, k < wr.heap.size → some k ≠ u3.ownBlock → w'.heap[k]? = wr.heap[k]? := fun k hk hne => (hgr.block k (by rw [World.size_alloc]; omega) hne).trans (heap_alloc_lt hk)
          have hvN : ∀ k, k ≤ N → some k ≠ u3.ownBlock := by
            intro k hk e
            rcases hown.2 with ⟨rfl, h0⟩ | ⟨g, cap, cur, rfl, hbase, -⟩
            · cases e
            · simp [Value.ownBlock] at e; omega
          have hrg' := hrg.keep (hkeep d hDq (hvN d (by omega))) (hkeep N hRq (hvN N (by omega)))
          have bx' := bx.keep (hkeep nb hbq (fun e => hvb e.symm))
          have hx' : Ext w w' := ⟨hgr.os.trans hx.os, hgr.tape.trans hx.tape, hgr.output.trans hx.output, Nat.le_trans hx.size (by have := hgr.size; rw [World.size_alloc] at this; omega), fun k hk _ => (hkeep k (Nat.lt_of_lt_of_le hk hx.size) (hvN k (by omega))).trans (hx.block k hk id)⟩
          have el : (acc ++ List.replicate j x) ++ [x] = acc ++ List.replicate (j + 1) x := by rw [List.append_assoc, ← List.replicate_succ']
          rw [el] at hown'
          obtain ⟨e0, e1, e2, e3, e4, e5, e6, e7, e8⟩ := bx
          clear bz hkeep hgr hloc hlen hp hflat hperm hcnt hal
          go_wp2_with (at_builtin; refine wpList_append_run happ rfl rfl _ _ rfl rfl rfl ?_; clear happ)
          go_roundw
          case rel => exact ⟨j + 1, by omega, by go_num, hrg', hown', hx', bx', hv2⟩
          case measure => simp [intOf]; omega
        · obtain rfl : j = c := by omega
          have hd : decide ((j : Int) < j) = false := by simp
          clear hjc
          obtain ⟨e0, e1, e2, e3, e4, e5, e6, e7, e8⟩ := bx
          go_wp2_with fail
          go_roundw
          case rel =>
            refine ⟨left', acc ++ List.replicate j x, hrg, hown, ?_, hx, fun p hp => hsub p (hpm.mem_iff.2 (List.mem_cons_of_mem _ hp))⟩
            rw [List.append_assoc]
            exact (List.Perm.append_left acc hflat.symm).trans hp
          case measure =>
            rw [rangeLeft_eq hrg, HL.out]; exact hll

theorem run_range0 (w : World) : (Instr.range 36 (.map none)).run Tryz.prog w = .ok (.pointer (some ⟨w.heap.size, 0, none⟩)) (w.alloc (.mapIter none 0 #[] 0)) := by
  simp [Instr.range, run_underlying Tryz.underlying36, newObj, Sem.run, Result.andThen]
theorem run_next0 (w : World) (ty : TypeId) : (Instr.next (.pointer (some ⟨w.heap.size, 0, none⟩)) false ty).run Tryz.prog (w.alloc (.mapIter none 0 #[] 0)) = .ok (.tuple #[.bool false]) (w.alloc (.mapIter none 0 #[] 0)) := by
  have h : (w.alloc (.mapIter none 0 #[] 0)).heap[w.heap.size]? = some (.mapIter none 0 #[] 0) := heap_alloc_new _ _
  simp only [Instr.next, getObj, Sem.run_bind, Sem.run, h, Result.andThen]
  rfl

set_option maxRecDepth 100000 in
theorem bagAll0_c (B o : Nat) (l : List Out) (w : World) (h : BagIs w B o none l) :
    Calls Tryz.prog 30 #[.pointer (some ⟨B, o, none⟩)] w (OutsV w []) := by
  obtain ⟨c0, c1, f0, f1⟩ := h.cells
  have hrun := run_range0
  have hn := run_next0 w
  go_enter Tryz.func30, Tryz.ntmps30
  go_wp2_with fail
  refine wp_loop_once ?_
  go_wp2_with fail
  refine (sortOut0_c none 0 _).mono ?_
  rintro e w' ⟨rfl, rfl⟩
  go_wp2_with fail
  go_ret
  exact ⟨none, 0, rfl, (ExtM.refl _).alloc _, .inl rfl⟩

end Go.Proofs.YtmcgnnmffeojpaaGreatDoor
/- Bags whatever their map; two bags apart. -/
namespace Go.Proofs.YtmcgnnmffeojpaaGreatDoor
open Go.RowKit Go.Plan

theorem BagIs.perm {w : World} {B o : Nat} {D : Option Nat} {l l' : List Out} (h : BagIs w B o D l) (hp : l.Perm l') : BagIs w B o D l' where
  c0 := h.c0
  c1 := by rw [← hp.length_eq]; exact h.c1
  f0 := h.f0
  f1 := h.f1
  ok := fun x hx => h.ok x (hp.mem_iff.2 hx)
  mp := by
    rcases h.mp with ⟨h1, rfl⟩ | ⟨d, m, h1, h2, h3, h4⟩
    · exact .inl ⟨h1, hp.nil_eq.symm⟩
    · exact .inr ⟨d, m, h1, h2, h3, fun x => by rw [h4 x, hp.count_eq]⟩

/-- The map is what it was, or a new one. -/
def Grew (w : World) (D D' : Option Nat) : Prop := D' = D ∨ (D = none ∧ ∃ d, D' = some d ∧ w.heap.size ≤ d)

theorem bagAdd (B o : Nat) (D : Option Nat) (l : List Out) (x : Out) (w : World) (h : BagIs w B o D l) (hx : x.ok) (hl : l.length < 1000000000) :
    Calls Tryz.prog 82 #[.pointer (some ⟨B, o, none⟩), encC x false] w fun e w' => e = .returned .nilIface ∧ ∃ D', Grew w D D' ∧ ExtM (bagM B D) w w' ∧ BagIs w' B o D' (x :: l) := by
  cases D with
  | some d => exact (bagAdd_c B o d l x w h hx hl).mono fun e w' hh => ⟨hh.1, some d, .inl rfl, hh.2.1, hh.2.2⟩
  | none =>
    obtain rfl : l = [] := by
      rcases h.mp with ⟨-, h⟩ | ⟨d, m, h1, -⟩
      · exact h
      · cases h1
    exact (bagAddNil_c B o x w h hx).mono fun e w' ⟨h1, d, h2, h3, h4⟩ => ⟨h1, some d, .inr ⟨rfl, d, rfl, h2⟩, h3, h4⟩

theorem bagLess (B o : Nat) (D : Option Nat) (l : List Out) (x : Out) (w : World) (h : BagIs w B o D l) (hx : x ∈ l) (hl : l.length < 1000000000) :
    Calls Tryz.prog 82 #[.pointer (some ⟨B, o, none⟩), encC x true] w fun e w' => e = .returned .nilIface ∧ ExtM (bagM B D) w w' ∧ BagIs w' B o D (l.erase x) := by
  have hok := h.ok x hx
  cases D with
  | some d =>
    have h0 : 0 < l.count x := List.count_pos_iff.2 hx
    rcases Nat.lt_or_ge 1 (l.count x) with h1 | h1
    · exact bagDec_c B o d l x w h hok hl h1
    · exact bagDel_c B o d l x w h hok hl (by omega)
  | none =>
    rcases h.mp with ⟨-, rfl⟩ | ⟨d, m, h1, -⟩
    · cases hx
    · cases h1

theorem bagAddO (B o : Nat) (D : Option Nat) (l : List Out) (x : Out) (w : World) (h : BagIs w B o D l) (hx : x.ok) (hl : l.length < 1000000000) :
    Calls Tryz.prog 82 #[.pointer (some ⟨B, o, none⟩), encC x false] w fun e w' => e = .returned .nilIface ∧ ∃ D', Grew w D D' ∧ ExtM (bagM B D) w w' ∧ BagIs w' B o D' (x :: l) ∧ OnlyAt B o w w' := by
  cases D with
  | some d => exact (bagAddO_c B o d l x w h hx hl).mono fun e w' hh => ⟨hh.1, some d, .inl rfl, hh.2.1, hh.2.2.1, hh.2.2.2⟩
  | none =>
    obtain rfl : l = [] := by
      rcases h.mp with ⟨-, h⟩ | ⟨d, m, h1, -⟩
      · exact h
      · cases h1
    exact (bagAddNilO_c B o x w h hx).mono fun e w' ⟨h1, d, h2, h3, h4, h5⟩ => ⟨h1, some d, .inr ⟨rfl, d, rfl, h2⟩, h3, h4, h5⟩

theorem bagLessO (B o : Nat) (D : Option Nat) (l : List Out) (x : Out) (w : World) (h : BagIs w B o D l) (hx : x ∈ l) (hl : l.length < 1000000000) :
    Calls Tryz.prog 82 #[.pointer (some ⟨B, o, none⟩), encC x true] w fun e w' => e = .returned .nilIface ∧ ExtM (bagM B D) w w' ∧ BagIs w' B o D (l.erase x) ∧ OnlyAt B o w w' := by
  have hok := h.ok x hx
  cases D with
  | some d =>
    have h0 : 0 < l.count x := List.count_pos_iff.2 hx
    rcases Nat.lt_or_ge 1 (l.count x) with h1 | h1
    · exact bagDecO_c B o d l x w h hok hl h1
    · exact bagDelO_c B o d l x w h hok hl (by omega)
  | none =>
    rcases h.mp with ⟨-, rfl⟩ | ⟨d, m, h1, -⟩
    · cases hx
    · cases h1

theorem bagNone (B o : Nat) (D : Option Nat) (l : List Out) (x : Out) (w : World) (h : BagIs w B o D l) (hok : x.ok) (hx : x ∉ l) :
    Calls Tryz.prog 82 #[.pointer (some ⟨B, o, none⟩), encC x true] w fun e w' => e = .returned (.iface 48 (.int .i64 8)) ∧ Ext w w' := by
  cases D with
  | some d => exact bagNone_c B o d l x w h hok (List.count_eq_zero.2 hx)
  | none => exact bagNone0_c B o l x w h hok

theorem bagAll (B o : Nat) (D : Option Nat) (l : List Out) (w : World) (h : BagIs w B o D l) (hl : l.length < 1000000) :
    Calls Tryz.prog 30 #[.pointer (some ⟨B, o, none⟩)] w (OutsV w (sortO l)) := by
  cases D with
  | some d => exact bagAll_c B o d l w h hl
  | none =>
    obtain rfl : l = [] := by
      rcases h.mp with ⟨-, h⟩ | ⟨d, m, h1, -⟩
      · exact h
      · cases h1
    have e : sortO [] = [] := List.eq_nil_of_length_eq_zero (by rw [sortO_length]; rfl)
    rw [e]
    exact bagAll0_c B o [] w h

theorem BagIs.foot {w : World} {B o : Nat} {D : Option Nat} {l : List Out} (h : BagIs w B o D l) (k : Nat) (hk : bagM B D k) : k < w.heap.size := by
  rcases hk with rfl | hk
  · exact h.ltB
  · rcases h.mp with ⟨h1, -⟩ | ⟨d, m, h1, -, h3, -⟩
    · rw [h1] at hk; cases hk
    · rw [h1] at hk; obtain rfl := Option.some.inj hk; exact h3.lt

/-- All of it is new. -/
def Fresh (N B : Nat) (D : Option Nat) : Prop := ∀ k, bagM B D k → N ≤ k
/-- Nothing is both's. -/
def Apart (A : Nat) (DA : Option Nat) (B : Nat) (DB : Option Nat) : Prop := ∀ k, bagM A DA k → ¬ bagM B DB k

theorem Apart.symm {A B : Nat} {DA DB : Option Nat} (h : Apart A DA B DB) : Apart B DB A DA := fun k h1 h2 => h k h2 h1
theorem Fresh.ext {w0 w w' : World} {A N : Nat} {DA : Option Nat} (hF : Fresh N A DA) (hN : w0.heap.size ≤ N) (hx : Ext w0 w) (hM : ExtM (bagM A DA) w w') : Ext w0 w' :=
  ⟨hM.os.trans hx.os, hM.tape.trans hx.tape, hM.output.trans hx.output, Nat.le_trans hx.size hM.size, fun k hk hn =>
    (hM.block k (Nat.lt_of_lt_of_le hk hx.size) (fun h => by have := hF k h; omega)).trans (hx.block k hk hn)⟩
theorem Fresh.grew {w : World} {A N : Nat} {DA DA' : Option Nat} (hF : Fresh N A DA) (hg : Grew w DA DA') (hN : N ≤ w.heap.size) : Fresh N A DA' := by
  rcases hg with rfl | ⟨rfl, d, rfl, hd⟩
  · exact hF
  · intro k hk
    rcases hk with rfl | hk
    · exact hF _ (.inl rfl)
    · obtain rfl := Option.some.inj hk; omega
theorem Apart.grew {w : World} {A B o : Nat} {DA DA' DB : Option Nat} {q : List Out} (hA : Apart A DA B DB) (hg : Grew w DA DA') (hB : BagIs w B o DB q) : Apart A DA' B DB := by
  rcases hg with rfl | ⟨rfl, d, rfl, hd⟩
  · exact hA
  · intro k hk hb
    rcases hk with rfl | hk
    · exact hA _ (.inl rfl) hb
    · obtain rfl := Option.some.inj hk
      have := hB.foot d hb; omega
theorem BagIs.other {w w' : World} {A B o : Nat} {DA DB : Option Nat} {q : List Out} (h : BagIs w B o DB q) (hM : ExtM (bagM A DA) w w') (hA : Apart A DA B DB) : BagIs w' B o DB q :=
  h.of hM (fun e => hA B e (.inl rfl)) (fun d hd e => hA d e (.inr hd))

/-- A bag that is laid anew. -/
theorem BagIs.new (w : World) (t : TypeId) : BagIs (w.alloc (.cells #[.map none, .int .i64 0] t)) w.heap.size 0 none [] :=
  ⟨by go_simp, by go_simp, by rw [Go.RowKit.frozen?_alloc_cells]; simp [World.frozen?], by rw [Go.RowKit.frozen?_alloc_cells]; simp [World.frozen?], by simp, .inl ⟨rfl, rfl⟩⟩
end Go.Proofs.YtmcgnnmffeojpaaGreatDoor
/- Outs in memory, one by one. -/
namespace Go.Proofs.YtmcgnnmffeojpaaGreatDoor
open Go.RowKit Go.Plan

/-- An Out's cells at ⟨b, a⟩. -/
structure ElemAt (w : World) (b a : Nat) (x : Out) : Prop where
  e0 : w.cell? ⟨b, a, none⟩ = some (.int .i64 x.key)
  e1 : w.cell? ⟨b, a + 1, none⟩ = some (.int .i64 x.l.k)
  e2 : w.cell? ⟨b, a + 2, none⟩ = some (.int .i64 x.l.t)
  e3 : w.cell? ⟨b, a + 3, none⟩ = some (.int .i64 x.l.v)
  e4 : w.cell? ⟨b, a + 4, none⟩ = some (.int .i64 x.r.k)
  e5 : w.cell? ⟨b, a + 5, none⟩ = some (.int .i64 x.r.t)
  e6 : w.cell? ⟨b, a + 6, none⟩ = some (.int .i64 x.r.v)
  e7 : w.cell? ⟨b, a + 7, none⟩ = some (.bool x.hl)
  e8 : w.cell? ⟨b, a + 8, none⟩ = some (.bool x.hr)
theorem ElemAt.of {w w' : World} {b a : Nat} {x : Out} (h : ElemAt w b a x) (hx : Ext w w') : ElemAt w' b a x := by
  have hl : b < w.heap.size := cell_lt' h.e0
  have r : ∀ i, w'.cell? ⟨b, i, none⟩ = w.cell? ⟨b, i, none⟩ := fun i => hx.cell (p := ⟨b, i, none⟩) hl id
  exact ⟨(r _).trans h.e0, (r _).trans h.e1, (r _).trans h.e2, (r _).trans h.e3, (r _).trans h.e4, (r _).trans h.e5, (r _).trans h.e6, (r _).trans h.e7, (r _).trans h.e8⟩
theorem ElemAt.lt {w : World} {b a : Nat} {x : Out} (h : ElemAt w b a x) : b < w.heap.size := cell_lt' h.e0

/-- A slice that came in holds these. -/
def OutsIn (w : World) (p : Option Addr) (xs : List Out) : Prop := xs = [] ∨ ∃ b off, p = some ⟨b, off, none⟩ ∧ ∀ i (hi : i < xs.length), ElemAt w b (off + i * 9) (xs[i]'hi)

/-- A result holds these. -/
def OutsOf (w : World) (p : Option Addr) (l : List Out) : Prop := l = [] ∨ ∃ b, p = some ⟨b, 0, none⟩ ∧ ∀ i (hi : i < l.length), ElemAt w b (i * 9) (l[i]'hi)
theorem OutsOf.of {w w' : World} {p : Option Addr} {l : List Out} (h : OutsOf w p l) (hx : Ext w w') : OutsOf w' p l := by
  rcases h with h | ⟨b, h1, h2⟩
  · exact .inl h
  · exact .inr ⟨b, h1, fun i hi => (h2 i hi).of hx⟩
theorem neq_out_self (a : Out) (w : World) : (binOp .neq 58 (.agg #[.int .i64 a.key, .int .i64 a.l.k, .int .i64 a.l.t, .int .i64 a.l.v, .int .i64 a.r.k, .int .i64 a.r.t, .int .i64 a.r.v, .bool a.hl, .bool a.hr]) (.agg #[.int .i64 a.key, .int .i64 a.l.k, .int .i64 a.l.t, .int .i64 a.l.v, .int .i64 a.r.k, .int .i64 a.r.t, .int .i64 a.r.v, .bool a.hl, .bool a.hr])).run Tryz.prog w = .ok (.bool false) w := by
  obtain ⟨a1, ⟨a2, a3, a4⟩, ⟨a5, a6, a7⟩, a8, a9⟩ := a
  go_simp
end Go.Proofs.YtmcgnnmffeojpaaGreatDoor
/- keep.pick. -/
namespace Go.Proofs.YtmcgnnmffeojpaaGreatDoor
open Go.RowKit Go.Plan

/-- Which of so many. -/
def pickN (t : Int) (n : Nat) : Nat := ((t % 18446744073709551616) % (n : Int)).toNat
theorem pickN_lt (t : Int) (n : Nat) (h : 0 < n) : pickN t n < n := by
  unfold pickN
  have h1 := Int.emod_lt_of_pos (t % 18446744073709551616) (show (0 : Int) < n by omega)
  have h2 := Int.emod_nonneg (t % 18446744073709551616) (show (n : Int) ≠ 0 by omega)
  omega

theorem pick_c (t : Int) (n : Nat) (w : World) (hn : 0 < n) (hn2 : n ≤ 1000000) (ht : I64 t) :
    Calls Tryz.prog 13 #[.int .i64 t, .int .i64 (n : Int)] w fun e w' => e = .returned (.int .i64 (pickN t n : Nat)) ∧ w = w' := by
  have hlt := pickN_lt t n hn
  have _hb : -9223372036854775808 ≤ t ∧ t ≤ 9223372036854775807 := ht
  go_enter Tryz.func13, Tryz.ntmps13
  go_wp2_with fail
  go_ret
  refine ⟨?_, rfl⟩
  have e1 : IntKind.u64.wrap t = t % 18446744073709551616 := by simp [IntKind.wrap, IntKind.bits, IntKind.signed]
  have h0 : 0 ≤ t % 18446744073709551616 := Int.emod_nonneg _ (by decide)
  have e2 : (t % 18446744073709551616).tmod (n : Int) = (t % 18446744073709551616) % (n : Int) := Int.tmod_eq_emod_of_nonneg h0
  have h1 := Int.emod_lt_of_pos (t % 18446744073709551616) (show (0 : Int) < n by omega)
  have h2 := Int.emod_nonneg (t % 18446744073709551616) (show (n : Int) ≠ 0 by omega)
  rw [show wrap64 ((IntKind.u64.wrap t).tmod (n : Int)) = ((pickN t n : Nat) : Int) from by
    rw [e1, e2]; unfold wrap64 pickN; omega]
  rfl
end Go.Proofs.YtmcgnnmffeojpaaGreatDoor
namespace Go.Proofs.YtmcgnnmffeojpaaGreatDoor
open Go.RowKit Go.Plan

/-- What 'counted' counts. -/
def cX : Out := ⟨1, ⟨1, 0, 0⟩, ⟨0, 0, 0⟩, true, false⟩
theorem cX_ok : cX.ok := by unfold Out.ok Row.ok I64 cX; decide

/-- From the r-th on, round. -/
def rot (r : Nat) (xs : List Out) : List Out := xs.drop r ++ xs.take r
theorem rot_perm (r : Nat) (xs : List Out) : (rot r xs).Perm xs := by
  unfold rot
  exact (List.perm_append_comm).trans (by rw [List.take_append_drop])
theorem rot_length (r : Nat) (xs : List Out) : (rot r xs).length = xs.length := (rot_perm r xs).length_eq
theorem rot_get (r : Nat) (xs : List Out) (hr : r < xs.length) (i : Nat) (hi : i < xs.length) : (rot r xs)[i]? = xs[(i + r) % xs.length]? := by
  unfold rot
  rcases Nat.lt_or_ge i (xs.length - r) with h | h
  · rw [List.getElem?_append_left (by simp; omega), List.getElem?_drop, Nat.mod_eq_of_lt (by omega), Nat.add_comm]
  · rw [List.getElem?_append_right (by simp; omega), List.length_drop, List.getElem?_take_of_lt (by omega)]
    congr 1
    rw [Nat.mod_eq_sub_mod (by omega), Nat.mod_eq_of_lt (by omega)]; omega

/-- Two bags of the call's own, at A and A + 1: they have these. -/
structure Two (w wr : World) (A : Nat) (p q : List Out) : Prop where
  ex : ∃ DA DB, BagIs wr A 0 DA p ∧ BagIs wr (A + 1) 0 DB q ∧ Fresh A A DA ∧ Fresh A (A + 1) DB ∧ Apart A DA (A + 1) DB
  ext : Ext w wr
  low : w.heap.size ≤ A
theorem Two.perm {w wr : World} {A : Nat} {p q p' q' : List Out} (h : Two w wr A p q) (hp : p.Perm p') (hq : q.Perm q') : Two w wr A p' q' := by
  obtain ⟨⟨DA, DB, h1, h2, h3⟩, h4, h5⟩ := h
  exact ⟨⟨DA, DB, h1.perm hp, h2.perm hq, h3⟩, h4, h5⟩
theorem Two.of {w wr w' : World} {A : Nat} {p q : List Out} (h : Two w wr A p q) (hx : Ext wr w') : Two w w' A p q := by
  obtain ⟨⟨DA, DB, h1, h2, h3⟩, h4, h5⟩ := h
  exact ⟨⟨DA, DB, h1.of hx id (fun _ _ => id), h2.of hx id (fun _ _ => id), h3⟩, ExtM.trans _ _ _ h4 hx, h5⟩
theorem Two.size {w wr : World} {A : Nat} {p q : List Out} (h : Two w wr A p q) : A + 1 < wr.heap.size := by
  obtain ⟨⟨DA, DB, h1, h2, h3⟩, h4, h5⟩ := h
  exact h2.ltB
theorem two_addA {w wr : World} {A : Nat} {p q : List Out} (h : Two w wr A p q) (x : Out) (hx : x.ok) (hl : p.length < 1000000000) :
    Calls Tryz.prog 82 #[.pointer (some ⟨A, 0, none⟩), encC x false] wr fun e w' => e = .returned .nilIface ∧ Two w w' A (x :: p) q := by
  have hs := h.size
  obtain ⟨⟨DA, DB, h1, h2, h3, h4, h5⟩, h6, h7⟩ := h
  refine (bagAdd A 0 DA p x wr h1 hx hl).mono fun e w' ⟨he, D', hg, hM, hb⟩ => ⟨he, ⟨⟨D', DB, hb, h2.other hM h5, h3.grew hg (by omega), h4, h5.grew hg h2⟩, h3.ext h7 h6 hM, h7⟩⟩
theorem two_addB {w wr : World} {A : Nat} {p q : List Out} (h : Two w wr A p q) (x : Out) (hx : x.ok) (hl : q.length < 1000000000) :
    Calls Tryz.prog 82 #[.pointer (some ⟨A + 1, 0, none⟩), encC x false] wr fun e w' => e = .returned .nilIface ∧ Two w w' A p (x :: q) := by
  have hs := h.size
  obtain ⟨⟨DA, DB, h1, h2, h3, h4, h5⟩, h6, h7⟩ := h
  refine (bagAdd (A + 1) 0 DB q x wr h2 hx hl).mono fun e w' ⟨he, D', hg, hM, hb⟩ => ⟨he, ⟨⟨DA, D', h1.other hM h5.symm, hb, h3, h4.grew hg (by omega), (h5.symm.grew hg h1).symm⟩, h4.ext h7 h6 hM, h7⟩⟩
theorem two_lessB {w wr : World} {A : Nat} {p q : List Out} (h : Two w wr A p q) (x : Out) (hx : x ∈ q) (hl : q.length < 1000000000) :
    Calls Tryz.prog 82 #[.pointer (some ⟨A + 1, 0, none⟩), encC x true] wr fun e w' => e = .returned .nilIface ∧ Two w w' A p (q.erase x) := by
  obtain ⟨⟨DA, DB, h1, h2, h3, h4, h5⟩, h6, h7⟩ := h
  refine (bagLess (A + 1) 0 DB q x wr h2 hx hl).mono fun e w' ⟨he, hM, hb⟩ => ⟨he, ⟨⟨DA, DB, h1.other hM h5.symm, hb, h3, h4, h5⟩, h4.ext h7 h6 hM, h7⟩⟩
theorem Two.new (w w1 : World) (hx : Ext w w1) (t : TypeId) : Two w ((w1.alloc (.cells #[.map none, .int .i64 0] t)).alloc (.cells #[.map none, .int .i64 0] t)) w1.heap.size [] [] := by
  refine ⟨⟨none, none, (BagIs.new w1 t).of ((ExtM.refl _).alloc _ : Ext _ _) id (fun _ _ => id), ?_, ?_, ?_, ?_⟩, (hx.alloc _).alloc _, hx.size⟩
  · have := BagIs.new (w1.alloc (.cells #[.map none, .int .i64 0] t)) t
    rwa [World.size_alloc] at this
  · intro k hk
    rcases hk with rfl | hk
    · exact Nat.le_refl _
    · cases hk
  · intro k hk
    rcases hk with rfl | hk
    · exact Nat.le_succ _
    · cases hk
  · intro k hk hb
    rcases hk with rfl | hk
    · rcases hb with hb | hb
      · omega
      · cases hb
    · cases hk

theorem take_snoc_perm {xs : List Out} {k : Nat} {x : Out} (h : xs[k]? = some x) : (x :: xs.take k).Perm (xs.take (k + 1)) := by
  obtain ⟨hk, rfl⟩ := List.getElem?_eq_some_iff.1 h
  rw [List.take_succ_eq_append_getElem hk]
  exact (List.perm_append_singleton _ _).symm

theorem two_allA {w wr : World} {A : Nat} {p q : List Out} (h : Two w wr A p q) (hl : p.length < 1000000) :
    Calls Tryz.prog 30 #[.pointer (some ⟨A, 0, none⟩)] wr (OutsV wr (sortO p)) := by
  obtain ⟨⟨DA, DB, h1, h2, h3⟩, h6, h7⟩ := h
  exact bagAll A 0 DA p wr h1 hl
theorem two_allB {w wr : World} {A : Nat} {p q : List Out} (h : Two w wr A p q) (hl : q.length < 1000000) :
    Calls Tryz.prog 30 #[.pointer (some ⟨A + 1, 0, none⟩)] wr (OutsV wr (sortO q)) := by
  obtain ⟨⟨DA, DB, h1, h2, h3⟩, h6, h7⟩ := h
  exact bagAll (A + 1) 0 DB q wr h2 hl
theorem OutsAt.elem {w : World} {b : Nat} {l : List Out} (h : OutsAt w b 0 l) (i : Nat) (hi : i < l.length) : ElemAt w b (i * 9) (l[i]'hi) := by
  have r : ∀ c, c < 9 → w.cell? ⟨b, i * 9 + c, none⟩ = (l[i]'hi).cells[c]? := fun c hc => by
    have := (h.cell i c hi hc).1
    rwa [Nat.zero_add] at this
  exact ⟨r 0 (by omega), r 1 (by omega), r 2 (by omega), r 3 (by omega), r 4 (by omega), r 5 (by omega), r 6 (by omega), r 7 (by omega), r 8 (by omega)⟩
theorem OutsV.out {w : World} {l : List Out} {e : Ending} {w' : World} (h : OutsV w l e w') : ∃ p cap, e = .returned (.slice p l.length cap) ∧ Ext w w' ∧ OutsOf w' p l := by
  obtain ⟨p, cap, h1, h2, h3⟩ := h
  refine ⟨p, cap, h1, h2, ?_⟩
  rcases h3 with h | ⟨b, hp, -, -, ho, -⟩
  · exact .inl h
  · exact .inr ⟨b, hp, fun i hi => ho.elem i hi⟩
end Go.Proofs.YtmcgnnmffeojpaaGreatDoor
