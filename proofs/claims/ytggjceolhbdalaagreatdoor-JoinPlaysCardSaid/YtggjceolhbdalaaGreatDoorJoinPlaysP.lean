/- JoinPlays: for every plan, every list of steps and every number the law returns true, and the list reads as it did. No condition but the row's own (errors.errorType as the program lays it; tied). -/
import Derived.Test.YtggjceolhbdalaaGreatDoorLaidClaim
import Derived.Test.YtggjceolhbdalaaGreatDoorSliceArgs
import Derived.Test.YtggjceolhbdalaaGreatDoorJoinPlays
namespace Go.Proofs.YtggjceolhbdalaaGreatDoor.joinPlays
open Go.ChangeShapes Go.WideShapes Go.ChangeAt Go.RowKit Go.Joins Go.Plan Go.Deep

theorem cellsStep : Tryz.prog.cellsOf 39 = 6 := by kernel_rfl

set_option maxRecDepth 100000 in
theorem step_cells {H : Type} {enc : TypeId × Value → H} {w : World} {base : Nat} {spare : Nat → Bool} {held : Bool} {fuel : Nat} {cs : List Value} {x : DataW H × List MemPlace} (h : DataW.trod enc Tryz.prog w base spare held fuel 39 cs = some x) :
    ∃ d : StX, cs = [.int .i64 d.what, .int .i64 d.side, .int .i64 d.n, .int .i64 d.r.k, .int .i64 d.r.t, .int .i64 d.r.v] := by
  obtain ⟨xs, n, _, -, hl, hlen, hf⟩ := DataW.trod_struct Tryz.underlying39 h
  rw [cellsStep] at hl
  match cs, hl, xs, hlen with
  | [c0, c1, c2, c3, c4, c5], _, [y0, y1, y2, y3], _ =>
    obtain ⟨a, rfl, -⟩ := int_cell (c := c0) (by simpa [cellsInt] using hf 0 _ rfl)
    obtain ⟨b, rfl, -⟩ := int_cell (c := c1) (by simpa [cellsInt] using hf 1 _ rfl)
    obtain ⟨c, rfl, -⟩ := int_cell (c := c2) (by simpa [cellsInt] using hf 2 _ rfl)
    obtain ⟨r, e, -⟩ := row_cells (cs := [c3, c4, c5]) (by simpa [cellsRow] using hf 3 _ rfl)
    refine ⟨⟨a, b, c, r⟩, ?_⟩
    rw [List.cons.injEq, List.cons.injEq, List.cons.injEq] at *
    simp_all

set_option maxRecDepth 100000 in
theorem plan_arg {H : Type} {enc : TypeId × Value → H} {w : World} {base : Nat} {spare : Nat → Bool} {held : Bool} {r : Reach} {b0 : Nat} {v : Value} {d : DataW H} {p : List MemPlace} (hv : Value.okWide Tryz.prog w r b0 23 v) (h : DataW.Trod enc Tryz.prog w base spare held 23 v d p) :
    ∃ lo hi md : Int, v = .agg #[.int .i64 lo, .int .i64 hi, .int .i64 md] := by
  obtain ⟨cs, rfl, hsz⟩ := okWide_struct Tryz.underlying23 hv
  obtain ⟨fuel, hf⟩ := h
  obtain ⟨y0, y1, y2, n, -, hl, h0, h1, h2⟩ := trod_struct3 Tryz.underlying23 hf
  obtain ⟨l⟩ := cs
  have cellsPlan : Tryz.prog.cellsOf 23 = 3 := by kernel_rfl
  rw [cellsPlan] at hl
  simp only [Value.cells] at *
  match l, hl with
  | [c0, c1, c2], _ =>
    obtain ⟨a, rfl, -⟩ := int_cell (c := c0) (by simpa [cellsInt] using h0)
    obtain ⟨b, rfl, -⟩ := int_cell (c := c1) (by simpa [cellsInt] using h1)
    obtain ⟨c, rfl, -⟩ := int_cell (c := c2) (by simpa [cellsInt] using h2)
    exact ⟨a, b, c, rfl⟩

set_option maxRecDepth 100000 in
theorem contract {H : Type} {enc : TypeId × Value → H} {W : World} {base : Nat} {held : Bool} {sp : Nat → Bool} {r : Reach} {b0 : Nat} {v0 v1 v2 : Value} {d0 d1 d2 : DataW H} {p0 p1 p2 : List MemPlace} (hg : Laid W)
    (hv0 : Value.okWide Tryz.prog W r b0 23 v0) (h0 : DataW.Trod enc Tryz.prog W base sp held 23 v0 d0 p0)
    (hv1 : Value.okWide Tryz.prog W r b0 24 v1) (h1 : DataW.Trod enc Tryz.prog W base sp held 24 v1 d1 p1)
    (hv2 : Value.okWide Tryz.prog W r b0 3 v2) (h2 : DataW.Trod enc Tryz.prog W base sp held 3 v2 d2 p2) :
    Calls Tryz.prog 3 #[v0, v1, v2] W fun e w' => e = .returned (.bool true) ∧ Ext W w' := by
  obtain ⟨lo, hi, md, rfl⟩ := plan_arg hv0 h0
  obtain ⟨late, rfl, -⟩ := int_arg hv2 h2
  obtain ⟨a, len, cap, rfl, -, -, h1⟩ := slice_arg 6 (by omega) Tryz.underlying24 cellsStep hv1 h1
  rcases h1 with rfl | ⟨b, off, rfl, hc⟩
  · exact joinPlays_w lo hi md a cap [] late W hg (.inl rfl)
  have hc' : ∀ k, k < len → ∃ x : StX, ElemS W b (off + k * 6) x := fun k hk => by
    obtain ⟨cs, n, y, hl, hcell, ht⟩ := hc k hk
    obtain ⟨x, rfl⟩ := step_cells ht
    exact ⟨x, ⟨hcell 0 (by omega), hcell 1 (by omega), hcell 2 (by omega), hcell 3 (by omega), hcell 4 (by omega), hcell 5 (by omega)⟩⟩
  have : Inhabited StX := ⟨⟨0, 0, 0, ⟨0, 0, 0⟩⟩⟩
  obtain ⟨f, hf⟩ := choose_lt hc'
  have e : len = ((List.range len).map f).length := by simp
  have hh := joinPlays_w lo hi md (some ⟨b, off, none⟩) cap ((List.range len).map f) late W hg (.inr ⟨b, off, rfl, fun i hi => by
    have hi' : i < len := by simpa using hi
    have e : ((List.range len).map f)[i]'hi = f i := by simp
    rw [e]; exact hf i hi'⟩)
  rwa [← e] at hh

theorem laidWorld_met (os : Os) (args : Array Value) : laidMetH Tryz.prog Rows.joinPlaysRow.laid ((laidWorld os).forCall (fun _ _ => 0) ⟨#[], args, []⟩).memory :=
  laidMetH_of_parts (laidMet_nil _ _) (by kernel_rfl)

set_option maxRecDepth 100000 in
theorem lifted (os : Os) (started : os.Started) (H : Type) (enc : TypeId × Value → H) :
    ReturnsInHanded {} Tryz.checked os 3 .any (fun w args => (Rows.joinPlaysSpec.pre enc Tryz.prog Tryz.f3 [] false w args ∧ laidMetH Tryz.prog Rows.joinPlaysRow.laid w) ∧ sizedMet enc Tryz.prog Tryz.f3 (OpenSpec.ofChange Rows.joinPlaysSpec) false w args)
      (Rows.joinPlaysSpec.post enc Tryz.prog Tryz.f3 false true false false) := by
  refine returnsInHanded_of_change_and (C := Tryz.checked) (X := fun w _ => laidMetH Tryz.prog Rows.joinPlaysRow.laid w) (fun _ _ _ hh h => h.of_heap hh) own started (by kernel_rfl) Tryz.func3
    (ChangeSpec.witness_at (enc := enc) (C := Tryz.checked) (os := os) (X := fun w _ => laidMetH Tryz.prog Rows.joinPlaysRow.laid w) false (laidWorld os) #[.agg #[.int .i64 0, .int .i64 0, .int .i64 0], .slice none 0 0, .int .i64 0] 8 rfl (by kernel_rfl) (by kernel_rfl) (by kernel_rfl) (by kernel_rfl) (by kernel_rfl) (laidWorld_met os _)) ?_
  intro W base args ds gs before hval0 hW _ _ hL _
  have hval : ∀ (j : Nat) t v, Tryz.f3.params[j]? = some t → args[j]? = some v → Value.okWide Tryz.prog W .any base t v := hval0
  have hW' := hW
  obtain ⟨p, q, hA0, hV, rfl, hfz, hnd⟩ := hW
  have hA : DataW.TrodAll enc Tryz.prog W 0 (fun _ => true) true Tryz.f3.params.toList args.toList ds p := hA0
  have hg := laid_of hL
  rw [Tryz.params3] at hA hval
  obtain ⟨v0, vs0, d0, ds0, p0, q0, hargs, rfl, rfl, h0, r0⟩ := trodAll_cons hA
  obtain ⟨v1, vs1, d1, ds1, p1, q1, rfl, rfl, rfl, h1, r1⟩ := trodAll_cons r0
  obtain ⟨v2, vs2, d2, ds2, p2, q2, rfl, rfl, rfl, h2, r2⟩ := trodAll_cons r1
  obtain ⟨rfl, rfl, rfl⟩ := trodAll_nil r2
  obtain rfl : args = #[v0, v1, v2] := by cases args; simp_all
  obtain ⟨rfl, rfl⟩ := trodVars_none hV
  have hlt := hW'.lt
  simp only [List.append_nil] at hW' hlt
  refine (contract hg (hval 0 23 v0 rfl rfl) h0 (hval 1 24 v1 rfl rfl) h1 (hval 2 3 v2 rfl rfl) h2).mono fun e W' ⟨he, hx⟩ => ?_
  subst he
  refine ⟨_, rfl, post_law (pv := []) hW' rfl hx rfl ?_ rfl⟩
  have hk := trodAll_cons_mk (keep1 (by kernel_rfl) (of_decide_eq_true (by kernel_rfl)) h0 hx fun x h => hlt x (by simp [h])) (trodAll_cons_mk (keep1 (by kernel_rfl) (of_decide_eq_true (by kernel_rfl)) h1 hx fun x h => hlt x (by simp [h])) (trodAll_cons_mk (keep1 (by kernel_rfl) (of_decide_eq_true (by kernel_rfl)) h2 hx fun x h => hlt x (by simp [h])) (trodAll_mk0)))
  simp only [List.append_nil] at hk ⊢
  exact hk

theorem said : Rows.JoinPlaysSaid :=
  OpenClaim.holds_of_wide 3 Tryz.f3 rfl rfl rfl rfl rfl rfl rfl ⟨rfl, rfl, rfl, rfl, rfl⟩ rfl rfl rfl rfl rfl (by kernel_rfl) Tryz.func3 (by kernel_rfl)
    (of_decide_eq_true (by kernel_rfl)) (by unfold Func.isWrapper; rw [if_neg (of_decide_eq_false (by kernel_rfl))]; exact ⟨rfl, rfl⟩)
    (fun os started H enc _ => lifted os started H enc)

theorem plainArgs (f : FuncId) (fn : Func) (hf : Tryz.pinned.checked.prog.funcNamed "estuary/estuarylaw.JoinPlays" = some f) (hfn : Tryz.pinned.checked.prog.funcs[f]? = some fn) :
    true = Tryz.pinned.checked.prog.looks [] ∧ ∀ (j : Nat) t, fn.params[j]? = some t → Tryz.pinned.checked.prog.wantsStandIn t = false := by
  obtain rfl : f = 3 := Option.some.inj ((show Tryz.prog.funcNamed "estuary/estuarylaw.JoinPlays" = some 3 by kernel_rfl).symm.trans hf) |>.symm
  obtain rfl : fn = Tryz.f3 := (Option.some.inj (Tryz.func3.symm.trans hfn)).symm
  refine ⟨by kernel_rfl, fun j t ht => ?_⟩
  rw [Tryz.params3] at ht
  have h2 : t = 23 ∨ t = 24 ∨ t = 3 := by simpa using Array.mem_of_getElem? ht
  rcases h2 with rfl | rfl | rfl
  · exact (show Tryz.prog.wantsStandIn 23 = false by kernel_rfl)
  · exact (show Tryz.prog.wantsStandIn 24 = false by kernel_rfl)
  · exact (show Tryz.prog.wantsStandIn 3 = false by kernel_rfl)

/-- The card. -/
theorem holds : Rows.JoinPlaysCardSaid :=
  Claim7.holds_tied_plain_at .later [] _ _ _ _ said (fun _ h => by cases h) (by kernel_rfl) (fun _ h => by cases h) joinPlays_row_tie rfl ⟨rfl, rfl⟩ (by kernel_rfl) rfl plainArgs (by kernel_rfl)

#print axioms holds
end Go.Proofs.YtggjceolhbdalaaGreatDoor.joinPlays
