/- MarkPlays: for every list of marks the law returns true, and the list reads as it did. No condition but the row's own (errors.errorType as the program lays it; tied). -/
import Derived.Test.YtggjceolhbdalaaDoorLaidClaim
import Derived.Test.YtggjceolhbdalaaDoorSliceArgs
import Derived.Test.YtggjceolhbdalaaDoorMarkPlays
namespace Go.Proofs.YtggjceolhbdalaaDoor.markPlays
open Go.ChangeShapes Go.WideShapes Go.ChangeAt Go.RowKit Go.Joins Go.Plan Go.Deep

theorem cellsMark : Tryd.prog.cellsOf 27 = 2 := by kernel_rfl

set_option maxRecDepth 100000 in
theorem mark_cells {H : Type} {enc : TypeId × Value → H} {w : World} {base : Nat} {spare : Nat → Bool} {held : Bool} {fuel : Nat} {cs : List Value} {x : DataW H × List MemPlace} (h : DataW.trod enc Tryd.prog w base spare held fuel 27 cs = some x) :
    ∃ s t : Int, cs = [.int .i64 s, .int .i64 t] := by
  obtain ⟨xs, n, _, -, hl, hlen, hf⟩ := DataW.trod_struct Tryd.underlying27 h
  rw [cellsMark] at hl
  match cs, hl, xs, hlen with
  | [c0, c1], _, [y0, y1], _ =>
    obtain ⟨a, rfl, -⟩ := int_cell (c := c0) (by simpa [cellsInt] using hf 0 _ rfl)
    obtain ⟨b, rfl, -⟩ := int_cell (c := c1) (by simpa [cellsInt] using hf 1 _ rfl)
    exact ⟨a, b, rfl⟩

set_option maxRecDepth 100000 in
theorem contract {H : Type} {enc : TypeId × Value → H} {W : World} {base : Nat} {held : Bool} {sp : Nat → Bool} {r : Reach} {b0 : Nat} {v : Value} {d : DataW H} {p : List MemPlace} (hg : Laid W)
    (hv : Value.okWide Tryd.prog W r b0 22 v) (h : DataW.Trod enc Tryd.prog W base sp held 22 v d p) :
    Calls Tryd.prog 3 #[v] W fun e w' => e = .returned (.bool true) ∧ Ext W w' := by
  obtain ⟨a, len, cap, rfl, -, -, h0⟩ := slice_arg 2 (by omega) Tryd.underlying22 cellsMark hv h
  rcases h0 with rfl | ⟨b, off, rfl, hc⟩
  · exact markPlays_0 a cap W
  have hc' : ∀ k, k < len → ∃ st : Int × Int, W.cell? ⟨b, off + k * 2, none⟩ = some (.int .i64 st.1) ∧ W.cell? ⟨b, off + k * 2 + 1, none⟩ = some (.int .i64 st.2) := fun k hk => by
    obtain ⟨cs, n, y, hl, hcell, ht⟩ := hc k hk
    obtain ⟨s, t, rfl⟩ := mark_cells ht
    exact ⟨(s, t), hcell 0 (by omega), hcell 1 (by omega)⟩
  obtain ⟨f, hf⟩ := choose_lt hc'
  exact markPlays_w b off len cap (fun k => (f k).1) (fun k => (f k).2) W hg (fun k hk => (hf k hk).1) (fun k hk => (hf k hk).2)

theorem laidWorld_met (os : Os) (args : Array Value) : laidMetH Tryd.prog Rows.markPlaysRow.laid ((laidWorld os).forCall (fun _ _ => 0) ⟨#[], args, []⟩).memory :=
  laidMetH_of_parts (laidMet_nil _ _) (by kernel_rfl)

set_option maxRecDepth 100000 in
theorem lifted (os : Os) (started : os.Started) (H : Type) (enc : TypeId × Value → H) :
    ReturnsInHanded {} Tryd.checked os 3 .any (fun w args => (Rows.markPlaysSpec.pre enc Tryd.prog Tryd.f3 [] false w args ∧ laidMetH Tryd.prog Rows.markPlaysRow.laid w) ∧ sizedMet enc Tryd.prog Tryd.f3 (OpenSpec.ofChange Rows.markPlaysSpec) false w args)
      (Rows.markPlaysSpec.post enc Tryd.prog Tryd.f3 false true false false) := by
  refine returnsInHanded_of_change_and (C := Tryd.checked) (X := fun w _ => laidMetH Tryd.prog Rows.markPlaysRow.laid w) (fun _ _ _ hh h => h.of_heap hh) own started (by kernel_rfl) Tryd.func3
    (ChangeSpec.witness_at (enc := enc) (C := Tryd.checked) (os := os) (X := fun w _ => laidMetH Tryd.prog Rows.markPlaysRow.laid w) false (laidWorld os) #[.slice none 0 0] 8 rfl (by kernel_rfl) (by kernel_rfl) (by kernel_rfl) (by kernel_rfl) (by kernel_rfl) (laidWorld_met os _)) ?_
  intro W base args ds gs before hval0 hW _ _ hL _
  have hval : ∀ (j : Nat) t v, Tryd.f3.params[j]? = some t → args[j]? = some v → Value.okWide Tryd.prog W .any base t v := hval0
  have hW' := hW
  obtain ⟨p, q, hA0, hV, rfl, hfz, hnd⟩ := hW
  have hA : DataW.TrodAll enc Tryd.prog W 0 (fun _ => true) true Tryd.f3.params.toList args.toList ds p := hA0
  have hg := laid_of hL
  rw [Tryd.params3] at hA hval
  obtain ⟨v0, vs0, d0, ds0, p0, q0, hargs, rfl, rfl, h0, r0⟩ := trodAll_cons hA
  obtain ⟨rfl, rfl, rfl⟩ := trodAll_nil r0
  obtain rfl : args = #[v0] := by cases args; simp_all
  obtain ⟨rfl, rfl⟩ := trodVars_none hV
  have hlt := hW'.lt
  simp only [List.append_nil] at hW' hlt
  refine (contract hg (hval 0 22 v0 rfl rfl) h0).mono fun e W' ⟨he, hx⟩ => ?_
  subst he
  refine ⟨_, rfl, post_law (pv := []) hW' rfl hx rfl ?_ rfl⟩
  have hk := trodAll_cons_mk (keep1 (by kernel_rfl) (of_decide_eq_true (by kernel_rfl)) h0 hx fun x h => hlt x (by simp [h])) (trodAll_mk0)
  simp only [List.append_nil] at hk ⊢
  exact hk

theorem said : Rows.MarkPlaysSaid :=
  OpenClaim.holds_of_wide 3 Tryd.f3 rfl rfl rfl rfl rfl rfl rfl ⟨rfl, rfl, rfl, rfl, rfl⟩ rfl rfl rfl rfl rfl (by kernel_rfl) Tryd.func3 (by kernel_rfl)
    (of_decide_eq_true (by kernel_rfl)) (by unfold Func.isWrapper; rw [if_neg (of_decide_eq_false (by kernel_rfl))]; exact ⟨rfl, rfl⟩)
    (fun os started H enc _ => lifted os started H enc)

theorem plainArgs (f : FuncId) (fn : Func) (hf : Tryd.pinned.checked.prog.funcNamed "estuary/estuarylaw.MarkPlays" = some f) (hfn : Tryd.pinned.checked.prog.funcs[f]? = some fn) :
    true = Tryd.pinned.checked.prog.looks [] ∧ ∀ (j : Nat) t, fn.params[j]? = some t → Tryd.pinned.checked.prog.wantsStandIn t = false := by
  obtain rfl : f = 3 := Option.some.inj ((show Tryd.prog.funcNamed "estuary/estuarylaw.MarkPlays" = some 3 by kernel_rfl).symm.trans hf) |>.symm
  obtain rfl : fn = Tryd.f3 := (Option.some.inj (Tryd.func3.symm.trans hfn)).symm
  refine ⟨by kernel_rfl, fun j t ht => ?_⟩
  rw [Tryd.params3] at ht
  have h2 : t = 22 := by simpa using Array.mem_of_getElem? ht
  rcases h2 with rfl
  · exact (show Tryd.prog.wantsStandIn 22 = false by kernel_rfl)

/-- The card. -/
theorem holds : Rows.MarkPlaysCardSaid :=
  Claim7.holds_tied_plain_at .later [] _ _ _ _ said (fun _ h => by cases h) (by kernel_rfl) (fun _ h => by cases h) markPlays_row_tie rfl ⟨rfl, rfl⟩ (by kernel_rfl) rfl plainArgs (by kernel_rfl)

#print axioms holds
end Go.Proofs.YtggjceolhbdalaaDoor.markPlays
