/- EngineLasts: for every plan, every list of steps and every number the law returns true, and the list reads as it did. No condition but the row's own (the library's variables as the program lays them; tied). -/
import Derived.Test.YtmcgnnmffeojpaaGreatDoorPk5
import Derived.Test.YtmcgnnmffeojpaaGreatDoorPk43
import Derived.Test.YtmcgnnmffeojpaaGreatDoorPk45
import Derived.Test.YtmcgnnmffeojpaaGreatDoorPk48
import Derived.Test.YtmcgnnmffeojpaaGreatDoorPk49
import Derived.Shelf.Vars
/- The library's variables that loading wants: out of a row's condition and a world's shape. -/
namespace Go.Proofs.YtmcgnnmffeojpaaGreatDoor
open Go.ChangeShapes Go.WideShapes Go.ChangeAt Go.RowKit Go.Joins Go.Plan Go.Stop Go.Extern

theorem lst_rng : (LST1.filter fun x => x.1 == "strconv.ErrRange") = [("strconv.ErrRange", Rows.laid_strconv_ErrRange)] := by rfl
theorem lst_syn : (LST1.filter fun x => x.1 == "strconv.ErrSyntax") = [("strconv.ErrSyntax", Rows.laid_strconv_ErrSyntax)] := by rfl
theorem star_es : "*" ++ "errors.errorString" = "*errors.errorString" := by decide
theorem row_es (u : TypeId) (h : Tryz.prog.typeName? 3 u = some "*errors.errorString") : u = 250 :=
  typeName_ptr_named (nm := "errors.errorString") (by rw [star_es]; kernel_rfl) (by kernel_rfl) (by decide) u (by rw [star_es]; exact h)
theorem cellsES : Tryz.prog.cellsOf 252 = 1 := by kernel_rfl
theorem cellsStr : Tryz.prog.cellsOf 9 = 1 := by kernel_rfl
theorem errK_of {W : World} (h : laidMetH Tryz.prog LST W) : ErrP W := by
  have h1 := (laidMetH_iff.1 h).1
  rw [lst_plain] at h1
  have h2 := h1.filter (fun x => x.1 == "strconv.ErrRange")
  have h3 := h1.filter (fun x => x.1 == "strconv.ErrSyntax")
  rw [lst_rng] at h2
  rw [lst_syn] at h3
  obtain ⟨a0, s0, v0, -⟩ := laid_sentinel (g := 2) (ti := 45) (tp := 250) (te := 252) (ts := 9) h2 (by kernel_rfl) (by kernel_rfl) Tryz.underlying45 row_es Tryz.underlying250 Tryz.underlying252 rfl rfl Tryz.underlying9 cellsES cellsStr
  obtain ⟨a1, s1, v1, -⟩ := laid_sentinel (g := 1) (ti := 45) (tp := 250) (te := 252) (ts := 9) h3 (by kernel_rfl) (by kernel_rfl) Tryz.underlying45 row_es Tryz.underlying250 Tryz.underlying252 rfl rfl Tryz.underlying9 cellsES cellsStr
  have c0 := World.var?_cell (show Tryz.prog.globalNamed "strconv.ErrRange" = some 2 by kernel_rfl) v0 0
  have c1 := World.var?_cell (show Tryz.prog.globalNamed "strconv.ErrSyntax" = some 1 by kernel_rfl) v1 0
  exact ⟨⟨_, _, c1⟩, _, _, c0⟩
theorem maxK_of {W : World} (h : W.ShapedOpen Tryz.prog) : MaxP W :=
  cell_of_shapedOpen_int (P := Tryz.prog) (g := 4) (t := 3) (zero := #[.int .i64 0]) h (of_decide_eq_true (by kernel_rfl)) (by kernel_rfl) rfl (by kernel_rfl) (by kernel_rfl) Tryz.underlying3
theorem lib4_of {W : World} (h : laidMetH Tryz.prog LST W) (hs : W.ShapedOpen Tryz.prog) : Lib4 W := ⟨laidK_of h, maxK_of hs, errK_of h, powK_of h⟩
end Go.Proofs.YtmcgnnmffeojpaaGreatDoor
/- What slices of a tale's steps, and of numbers, look like, as they come in. -/
namespace Go.Proofs.YtmcgnnmffeojpaaGreatDoor
open Go.ChangeShapes Go.WideShapes Go.ChangeAt Go.RowKit Go.Joins Go.Plan Go.Deep

theorem cellsStepE : Tryz.prog.cellsOf 28 = 6 := by kernel_rfl
section
variable {H : Type} {enc : TypeId × Value → H} {w : World} {base : Nat} {spare : Nat → Bool} {held : Bool}
set_option maxRecDepth 100000 in
theorem stepE_cells {fuel : Nat} {cs : List Value} {x : DataW H × List MemPlace} (h : DataW.trod enc Tryz.prog w base spare held fuel 28 cs = some x) :
    ∃ d : StE, cs = d.cells ∧ d.ok ∧ I64 d.n := by
  obtain ⟨xs, n, _, -, hl, hlen, hf⟩ := DataW.trod_struct Tryz.underlying28 h
  rw [cellsStepE] at hl
  match cs, hl, xs, hlen with
  | [c0, c1, c2, c3, c4, c5], _, [y0, y1, y2, y3, y4, y5], _ =>
    obtain ⟨a, rfl, wa⟩ := int_cell (c := c0) (by simpa [cellsInt] using hf 0 _ rfl)
    obtain ⟨b, rfl, wb⟩ := int_cell (c := c1) (by simpa [cellsInt] using hf 1 _ rfl)
    obtain ⟨c, rfl, wc⟩ := int_cell (c := c2) (by simpa [cellsInt] using hf 2 _ rfl)
    obtain ⟨d, rfl, wd⟩ := int_cell (c := c3) (by simpa [cellsInt] using hf 3 _ rfl)
    obtain ⟨e, rfl, we⟩ := int_cell (c := c4) (by simpa [cellsInt] using hf 4 _ rfl)
    obtain ⟨f, rfl, wf⟩ := int_cell (c := c5) (by simpa [cellsInt] using hf 5 _ rfl)
    exact ⟨⟨a, b, c, d, e, f⟩, rfl, ⟨wb, wd, we, wf⟩, wc⟩
set_option maxRecDepth 100000 in
theorem steps_arg2 {r : Reach} {b0 : Nat} {v : Value} {d : DataW H} {p : List MemPlace} (hv : Value.okWide Tryz.prog w r b0 22 v) (h : DataW.Trod enc Tryz.prog w base spare held 22 v d p) :
    ∃ a cap xs, v = .slice a xs.length cap ∧ StepsIn w a xs ∧ ∀ x ∈ xs, x.ok ∧ I64 x.n := by
  obtain ⟨a, len, cap, rfl, -, -, h1⟩ := slice_arg 6 (by omega) Tryz.underlying22 cellsStepE hv h
  rcases h1 with rfl | ⟨b, off, rfl, hc⟩
  · exact ⟨a, cap, [], rfl, .inl rfl, fun x hx => nomatch hx⟩
  have hc' : ∀ k, k < len → ∃ x : StE, ElemE w b (off + k * 6) x ∧ x.ok ∧ I64 x.n := fun k hk => by
    obtain ⟨cs, n, y, hl, hcell, ht⟩ := hc k hk
    obtain ⟨x, rfl, hx⟩ := stepE_cells ht
    exact ⟨x, ⟨hcell 0 (by omega), hcell 1 (by omega), hcell 2 (by omega), hcell 3 (by omega), hcell 4 (by omega), hcell 5 (by omega)⟩, hx⟩
  have : Inhabited StE := ⟨⟨0, 0, 0, 0, 0, 0⟩⟩
  obtain ⟨f, hf⟩ := choose_lt hc'
  refine ⟨some ⟨b, off, none⟩, cap, (List.range len).map f, by simp, .inr ⟨b, off, rfl, fun i hi => ?_⟩, fun x hx => ?_⟩
  · have hi' : i < len := by simpa using hi
    have e : ((List.range len).map f)[i]'hi = f i := by simp
    rw [e]; exact (hf i hi').1
  · obtain ⟨i, hi, rfl⟩ := List.mem_map.1 hx
    exact (hf i (List.mem_range.1 hi)).2
set_option maxRecDepth 100000 in
theorem steps_arg {r : Reach} {b0 : Nat} {v : Value} {d : DataW H} {p : List MemPlace} (hv : Value.okWide Tryz.prog w r b0 22 v) (h : DataW.Trod enc Tryz.prog w base spare held 22 v d p) :
    ∃ a cap xs, v = .slice a xs.length cap ∧ StepsIn w a xs ∧ ∀ x ∈ xs, x.ok := by
  obtain ⟨a, cap, xs, h1, h2, h3⟩ := steps_arg2 hv h
  exact ⟨a, cap, xs, h1, h2, fun x hx => (h3 x hx).1⟩
set_option maxRecDepth 100000 in
theorem ints_arg {r : Reach} {b0 : Nat} {v : Value} {d : DataW H} {p : List MemPlace} (hv : Value.okWide Tryz.prog w r b0 52 v) (h : DataW.Trod enc Tryz.prog w base spare held 52 v d p) :
    ∃ a cap xs, v = .slice a xs.length cap ∧ OrdIn w a xs := by
  obtain ⟨a, len, cap, rfl, -, -, h1⟩ := slice_arg 1 (by omega) Tryz.underlying52 cellsInt hv h
  rcases h1 with rfl | ⟨b, off, rfl, hc⟩
  · exact ⟨a, cap, [], rfl, .inl rfl⟩
  have hc' : ∀ k, k < len → ∃ x : Int, w.cell? ⟨b, off + k, none⟩ = some (.int .i64 x) ∧ I64 x := fun k hk => by
    obtain ⟨cs, n, y, hl, hcell, ht⟩ := hc k hk
    match cs, hl with
    | [c0], _ =>
      obtain ⟨x, rfl, hx⟩ := int_cell (c := c0) ht
      refine ⟨x, ?_, hx⟩
      have := hcell 0 (by omega)
      simpa using this
  obtain ⟨f, hf⟩ := choose_lt hc'
  refine ⟨some ⟨b, off, none⟩, cap, (List.range len).map f, by simp, .inr ⟨b, off, rfl, fun i hi => ?_⟩⟩
  have hi' : i < len := by simpa using hi
  have e : ((List.range len).map f)[i]'hi = f i := by simp
  rw [e]; exact hf i hi'
end
end Go.Proofs.YtmcgnnmffeojpaaGreatDoor
namespace Go.Proofs.YtmcgnnmffeojpaaGreatDoor.engineLasts
open Go.ChangeShapes Go.WideShapes Go.ChangeAt Go.RowKit Go.Joins Go.Plan Go.Deep

set_option maxRecDepth 100000 in
theorem contract {H : Type} {enc : TypeId × Value → H} {W : World} {base : Nat} {held : Bool} {sp : Nat → Bool} {r : Reach} {b0 : Nat} {v0 v1 v2 v3 v4 : Value} {d0 d1 d2 d3 d4 : DataW H} {p0 p1 p2 p3 p4 : List MemPlace} (hg : laidMetH Tryz.prog LST W) (hs : W.ShapedOpen Tryz.prog)
    (hv0 : Value.okWide Tryz.prog W r b0 3 v0) (h0 : DataW.Trod enc Tryz.prog W base sp held 3 v0 d0 p0)
    (hv1 : Value.okWide Tryz.prog W r b0 3 v1) (h1 : DataW.Trod enc Tryz.prog W base sp held 3 v1 d1 p1)
    (hv2 : Value.okWide Tryz.prog W r b0 3 v2) (h2 : DataW.Trod enc Tryz.prog W base sp held 3 v2 d2 p2)
    (hv3 : Value.okWide Tryz.prog W r b0 22 v3) (h3 : DataW.Trod enc Tryz.prog W base sp held 22 v3 d3 p3)
    (hv4 : Value.okWide Tryz.prog W r b0 3 v4) (h4 : DataW.Trod enc Tryz.prog W base sp held 3 v4 d4 p4) :
    Calls Tryz.prog 4 #[v0, v1, v2, v3, v4] W fun e w' => e = .returned (.bool true) ∧ Ext W w' := by
  obtain ⟨lo, rfl, i0⟩ := int_arg hv0 h0
  obtain ⟨hi, rfl, i1⟩ := int_arg hv1 h1
  obtain ⟨md, rfl, i2⟩ := int_arg hv2 h2
  obtain ⟨a, cap, xs, rfl, hin, hok⟩ := steps_arg2 hv3 h3
  obtain ⟨wn, rfl, i4⟩ := int_arg hv4 h4
  exact engineLasts_w lo hi md a cap xs wn W i0 i1 i2 i4 (lib4_of hg hs) hin hok

set_option maxRecDepth 100000 in
theorem lifted (os : Os) (started : os.Started) (H : Type) (enc : TypeId × Value → H) :
    ReturnsInHanded {} Tryz.checked os 4 .any (fun w args => (Rows.engineLastsSpec.pre enc Tryz.prog Tryz.f4 [] false w args ∧ laidMetH Tryz.prog LST w) ∧ sizedMet enc Tryz.prog Tryz.f4 (OpenSpec.ofChange Rows.engineLastsSpec) false w args)
      (Rows.engineLastsSpec.post enc Tryz.prog Tryz.f4 false true false false) := by
  refine handed_and_shaped (C := Tryz.checked) (X := fun w _ => laidMetH Tryz.prog LST w) (fun _ _ _ hh h => h.of_heap hh) own started (by kernel_rfl) Tryz.func4
    (ChangeSpec.witness_shaped (enc := enc) (C := Tryz.checked) (os := os) (X := fun w _ => laidMetH Tryz.prog LST w) false (laidWorldK os) #[.int .i64 0, .int .i64 0, .int .i64 0, .slice none 0 0, .int .i64 0] 8 rfl
      (World.shaped_of_ZipB (by kernel_rfl) (by kernel_rfl)) (by kernel_rfl) (by kernel_rfl) (by kernel_rfl) (laidWorldK_met os _)) ?_
  intro W base args ds gs before hval0 hW _ _ hL hSh _
  have hval : ∀ (j : Nat) t v, Tryz.f4.params[j]? = some t → args[j]? = some v → Value.okWide Tryz.prog W .any base t v := hval0
  have hW' := hW
  obtain ⟨p, q, hA0, hV, rfl, hfz, hnd⟩ := hW
  have hA : DataW.TrodAll enc Tryz.prog W 0 (fun _ => true) true Tryz.f4.params.toList args.toList ds p := hA0
  have hg := laidK_of hL
  rw [Tryz.params4] at hA hval
  obtain ⟨v0, vs0, d0, ds0, p0, q0, hargs, rfl, rfl, h0, r0⟩ := trodAll_cons hA
  obtain ⟨v1, vs1, d1, ds1, p1, q1, rfl, rfl, rfl, h1, r1⟩ := trodAll_cons r0
  obtain ⟨v2, vs2, d2, ds2, p2, q2, rfl, rfl, rfl, h2, r2⟩ := trodAll_cons r1
  obtain ⟨v3, vs3, d3, ds3, p3, q3, rfl, rfl, rfl, h3, r3⟩ := trodAll_cons r2
  obtain ⟨v4, vs4, d4, ds4, p4, q4, rfl, rfl, rfl, h4, r4⟩ := trodAll_cons r3
  obtain ⟨rfl, rfl, rfl⟩ := trodAll_nil r4
  obtain rfl : args = #[v0, v1, v2, v3, v4] := by cases args; simp_all
  obtain ⟨rfl, rfl⟩ := trodVars_none hV
  have hlt := hW'.lt
  simp only [List.append_nil] at hW' hlt
  refine (contract hL hSh (hval 0 3 v0 rfl rfl) h0 (hval 1 3 v1 rfl rfl) h1 (hval 2 3 v2 rfl rfl) h2 (hval 3 22 v3 rfl rfl) h3 (hval 4 3 v4 rfl rfl) h4).mono fun e W' ⟨he, hx⟩ => ?_
  subst he
  refine ⟨_, rfl, post_law (pv := []) hW' rfl hx rfl ?_ rfl⟩
  have hk := trodAll_cons_mk (keep1 (by kernel_rfl) (of_decide_eq_true (by kernel_rfl)) h0 hx fun x h => hlt x (by simp [h])) (trodAll_cons_mk (keep1 (by kernel_rfl) (of_decide_eq_true (by kernel_rfl)) h1 hx fun x h => hlt x (by simp [h])) (trodAll_cons_mk (keep1 (by kernel_rfl) (of_decide_eq_true (by kernel_rfl)) h2 hx fun x h => hlt x (by simp [h])) (trodAll_cons_mk (keep1 (by kernel_rfl) (of_decide_eq_true (by kernel_rfl)) h3 hx fun x h => hlt x (by simp [h])) (trodAll_cons_mk (keep1 (by kernel_rfl) (of_decide_eq_true (by kernel_rfl)) h4 hx fun x h => hlt x (by simp [h])) (trodAll_mk0)))))
  simp only [List.append_nil] at hk ⊢
  exact hk

theorem said : Rows.EngineLastsSaid :=
  OpenClaim.holds_of_wide 4 Tryz.f4 rfl rfl rfl rfl rfl rfl rfl ⟨rfl, rfl, rfl, rfl, rfl⟩ rfl rfl rfl rfl rfl (by kernel_rfl) Tryz.func4 (by kernel_rfl)
    (of_decide_eq_true (by kernel_rfl)) (by unfold Func.isWrapper; rw [if_neg (of_decide_eq_false (by kernel_rfl))]; exact ⟨rfl, rfl⟩)
    (fun os started H enc _ => lifted os started H enc)

theorem plainArgs (f : FuncId) (fn : Func) (hf : Tryz.pinned.checked.prog.funcNamed "estuary/estuarykeep.EngineLasts" = some f) (hfn : Tryz.pinned.checked.prog.funcs[f]? = some fn) :
    true = Tryz.pinned.checked.prog.looks [] ∧ ∀ (j : Nat) t, fn.params[j]? = some t → Tryz.pinned.checked.prog.wantsStandIn t = false := by
  obtain rfl : f = 4 := Option.some.inj ((show Tryz.prog.funcNamed "estuary/estuarykeep.EngineLasts" = some 4 by kernel_rfl).symm.trans hf) |>.symm
  obtain rfl : fn = Tryz.f4 := (Option.some.inj (Tryz.func4.symm.trans hfn)).symm
  refine ⟨by kernel_rfl, fun j t ht => ?_⟩
  rw [Tryz.params4] at ht
  have h2 : t = 3 ∨ t = 22 := by have h9 := Array.mem_of_getElem? ht; simp at h9; first | exact h9 | (rcases h9 with h | h | h <;> first | exact .inl h | exact .inr h)
  rcases h2 with rfl | rfl
  · exact (show Tryz.prog.wantsStandIn 3 = false by kernel_rfl)
  · exact (show Tryz.prog.wantsStandIn 22 = false by kernel_rfl)

/-- The card. -/
theorem holds : Rows.EngineLastsCardSaid :=
  Claim7.holds_tied_plain_at .later [] _ _ _ _ said (fun _ h => by cases h) (by kernel_rfl) (fun _ h => by cases h) engineLasts_row_tie rfl ⟨rfl, rfl⟩ (by kernel_rfl) rfl plainArgs (by kernel_rfl)

#print axioms holds
end Go.Proofs.YtmcgnnmffeojpaaGreatDoor.engineLasts
