/- SidePlays: for every list of steps and every number of rows put first the law returns true, and the list reads as it did. No condition but the row's own (errors.errorType as the program lays it; tied). -/
import Derived.Test.YtggjceolhbdalaaDoorLaidClaim
import Derived.Test.YtggjceolhbdalaaDoorSliceArgs
import Derived.Test.YtggjceolhbdalaaDoorSidePlays
namespace Go.Proofs.YtggjceolhbdalaaDoor.sidePlays
open Go.ChangeShapes Go.WideShapes Go.ChangeAt Go.RowKit Go.Joins Go.Plan Go.Deep

theorem cellsDo : Tryd.prog.cellsOf 85 = 7 := by kernel_rfl

set_option maxRecDepth 100000 in
theorem do_cells {H : Type} {enc : TypeId × Value → H} {w : World} {base : Nat} {spare : Nat → Bool} {held : Bool} {fuel : Nat} {cs : List Value} {x : DataW H × List MemPlace} (h : DataW.trod enc Tryd.prog w base spare held fuel 85 cs = some x) :
    ∃ d : DoX, cs = [.int .i64 d.what, .int .i64 d.met, .int .i64 d.fr, .int .i64 d.til, .int .i64 d.r.k, .int .i64 d.r.t, .int .i64 d.r.v] := by
  obtain ⟨xs, n, _, -, hl, hlen, hf⟩ := DataW.trod_struct Tryd.underlying85 h
  rw [cellsDo] at hl
  match cs, hl, xs, hlen with
  | [c0, c1, c2, c3, c4, c5, c6], _, [y0, y1, y2, y3, y4], _ =>
    obtain ⟨a, rfl, -⟩ := int_cell (c := c0) (by simpa [cellsInt] using hf 0 _ rfl)
    obtain ⟨b, rfl, -⟩ := int_cell (c := c1) (by simpa [cellsInt] using hf 1 _ rfl)
    obtain ⟨c, rfl, -⟩ := int_cell (c := c2) (by simpa [cellsInt] using hf 2 _ rfl)
    obtain ⟨d, rfl, -⟩ := int_cell (c := c3) (by simpa [cellsInt] using hf 3 _ rfl)
    obtain ⟨r, e, -⟩ := row_cells (cs := [c4, c5, c6]) (by simpa [cellsRow] using hf 4 _ rfl)
    refine ⟨⟨a, b, c, d, r⟩, ?_⟩
    rw [List.cons.injEq, List.cons.injEq, List.cons.injEq] at *
    simp_all

set_option maxRecDepth 100000 in
theorem contract {H : Type} {enc : TypeId × Value → H} {W : World} {base : Nat} {held : Bool} {sp : Nat → Bool} {r : Reach} {b0 : Nat} {v0 v1 : Value} {d0 d1 : DataW H} {p0 p1 : List MemPlace} (hg : Laid W)
    (hv0 : Value.okWide Tryd.prog W r b0 73 v0) (h0 : DataW.Trod enc Tryd.prog W base sp held 73 v0 d0 p0)
    (hv1 : Value.okWide Tryd.prog W r b0 3 v1) (h1 : DataW.Trod enc Tryd.prog W base sp held 3 v1 d1 p1) :
    Calls Tryd.prog 6 #[v0, v1] W fun e w' => e = .returned (.bool true) ∧ Ext W w' := by
  obtain ⟨fill, rfl, hfill⟩ := int_arg hv1 h1
  obtain ⟨a, len, cap, rfl, -, -, h0⟩ := slice_arg 7 (by omega) Tryd.underlying73 cellsDo hv0 h0
  rcases h0 with rfl | ⟨b, off, rfl, hc⟩
  · exact sidePlays_w a cap [] fill W hg (.inl rfl) hfill
  have hc' : ∀ k, k < len → ∃ x : DoX, ElemD W b (off + k * 7) x := fun k hk => by
    obtain ⟨cs, n, y, hl, hcell, ht⟩ := hc k hk
    obtain ⟨x, rfl⟩ := do_cells ht
    exact ⟨x, ⟨hcell 0 (by omega), hcell 1 (by omega), hcell 2 (by omega), hcell 3 (by omega), hcell 4 (by omega), hcell 5 (by omega), hcell 6 (by omega)⟩⟩
  have : Inhabited DoX := ⟨⟨0, 0, 0, 0, ⟨0, 0, 0⟩⟩⟩
  obtain ⟨f, hf⟩ := choose_lt hc'
  have e : len = ((List.range len).map f).length := by simp
  have hh := sidePlays_w (some ⟨b, off, none⟩) cap ((List.range len).map f) fill W hg (.inr ⟨b, off, rfl, fun i hi => by
    have hi' : i < len := by simpa using hi
    have e : ((List.range len).map f)[i]'hi = f i := by simp
    rw [e]; exact hf i hi'⟩) hfill
  rwa [← e] at hh

theorem laidWorld_met (os : Os) (args : Array Value) : laidMetH Tryd.prog Rows.sidePlaysRow.laid ((laidWorld os).forCall (fun _ _ => 0) ⟨#[], args, []⟩).memory :=
  laidMetH_of_parts (laidMet_nil _ _) (by kernel_rfl)

set_option maxRecDepth 100000 in
theorem lifted (os : Os) (started : os.Started) (H : Type) (enc : TypeId × Value → H) :
    ReturnsInHanded {} Tryd.checked os 6 .any (fun w args => (Rows.sidePlaysSpec.pre enc Tryd.prog Tryd.f6 [] false w args ∧ laidMetH Tryd.prog Rows.sidePlaysRow.laid w) ∧ sizedMet enc Tryd.prog Tryd.f6 (OpenSpec.ofChange Rows.sidePlaysSpec) false w args)
      (Rows.sidePlaysSpec.post enc Tryd.prog Tryd.f6 false true false false) := by
  refine returnsInHanded_of_change_and (C := Tryd.checked) (X := fun w _ => laidMetH Tryd.prog Rows.sidePlaysRow.laid w) (fun _ _ _ hh h => h.of_heap hh) own started (by kernel_rfl) Tryd.func6
    (ChangeSpec.witness_at (enc := enc) (C := Tryd.checked) (os := os) (X := fun w _ => laidMetH Tryd.prog Rows.sidePlaysRow.laid w) false (laidWorld os) #[.slice none 0 0, .int .i64 0] 8 rfl (by kernel_rfl) (by kernel_rfl) (by kernel_rfl) (by kernel_rfl) (by kernel_rfl) (laidWorld_met os _)) ?_
  intro W base args ds gs before hval0 hW _ _ hL _
  have hval : ∀ (j : Nat) t v, Tryd.f6.params[j]? = some t → args[j]? = some v → Value.okWide Tryd.prog W .any base t v := hval0
  have hW' := hW
  obtain ⟨p, q, hA0, hV, rfl, hfz, hnd⟩ := hW
  have hA : DataW.TrodAll enc Tryd.prog W 0 (fun _ => true) true Tryd.f6.params.toList args.toList ds p := hA0
  have hg := laid_of hL
  rw [Tryd.params6] at hA hval
  obtain ⟨v0, vs0, d0, ds0, p0, q0, hargs, rfl, rfl, h0, r0⟩ := trodAll_cons hA
  obtain ⟨v1, vs1, d1, ds1, p1, q1, rfl, rfl, rfl, h1, r1⟩ := trodAll_cons r0
  obtain ⟨rfl, rfl, rfl⟩ := trodAll_nil r1
  obtain rfl : args = #[v0, v1] := by cases args; simp_all
  obtain ⟨rfl, rfl⟩ := trodVars_none hV
  have hlt := hW'.lt
  simp only [List.append_nil] at hW' hlt
  refine (contract hg (hval 0 73 v0 rfl rfl) h0 (hval 1 3 v1 rfl rfl) h1).mono fun e W' ⟨he, hx⟩ => ?_
  subst he
  refine ⟨_, rfl, post_law (pv := []) hW' rfl hx rfl ?_ rfl⟩
  have hk := trodAll_cons_mk (keep1 (by kernel_rfl) (of_decide_eq_true (by kernel_rfl)) h0 hx fun x h => hlt x (by simp [h])) (trodAll_cons_mk (keep1 (by kernel_rfl) (of_decide_eq_true (by kernel_rfl)) h1 hx fun x h => hlt x (by simp [h])) (trodAll_mk0))
  simp only [List.append_nil] at hk ⊢
  exact hk

theorem said : Rows.SidePlaysSaid :=
  OpenClaim.holds_of_wide 6 Tryd.f6 rfl rfl rfl rfl rfl rfl rfl ⟨rfl, rfl, rfl, rfl, rfl⟩ rfl rfl rfl rfl rfl (by kernel_rfl) Tryd.func6 (by kernel_rfl)
    (of_decide_eq_true (by kernel_rfl)) (by unfold Func.isWrapper; rw [if_neg (of_decide_eq_false (by kernel_rfl))]; exact ⟨rfl, rfl⟩)
    (fun os started H enc _ => lifted os started H enc)

theorem plainArgs (f : FuncId) (fn : Func) (hf : Tryd.pinned.checked.prog.funcNamed "estuary/estuarylaw.SidePlays" = some f) (hfn : Tryd.pinned.checked.prog.funcs[f]? = some fn) :
    true = Tryd.pinned.checked.prog.looks [] ∧ ∀ (j : Nat) t, fn.params[j]? = some t → Tryd.pinned.checked.prog.wantsStandIn t = false := by
  obtain rfl : f = 6 := Option.some.inj ((show Tryd.prog.funcNamed "estuary/estuarylaw.SidePlays" = some 6 by kernel_rfl).symm.trans hf) |>.symm
  obtain rfl : fn = Tryd.f6 := (Option.some.inj (Tryd.func6.symm.trans hfn)).symm
  refine ⟨by kernel_rfl, fun j t ht => ?_⟩
  rw [Tryd.params6] at ht
  have h2 : t = 73 ∨ t = 3 := by simpa using Array.mem_of_getElem? ht
  rcases h2 with rfl | rfl
  · exact (show Tryd.prog.wantsStandIn 73 = false by kernel_rfl)
  · exact (show Tryd.prog.wantsStandIn 3 = false by kernel_rfl)

/-- The card. -/
theorem holds : Rows.SidePlaysCardSaid :=
  Claim7.holds_tied_plain_at .later [] _ _ _ _ said (fun _ h => by cases h) (by kernel_rfl) (fun _ h => by cases h) sidePlays_row_tie rfl ⟨rfl, rfl⟩ (by kernel_rfl) rfl plainArgs (by kernel_rfl)

#print axioms holds
end Go.Proofs.YtggjceolhbdalaaDoor.sidePlays
