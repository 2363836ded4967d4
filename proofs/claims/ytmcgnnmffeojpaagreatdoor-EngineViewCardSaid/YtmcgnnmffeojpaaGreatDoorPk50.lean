/- EngineView: for every plan and every list of steps the law returns true, and the list reads as it did. No condition but the row's own (the library's variables as the program lays them; tied). -/
import Derived.Test.YtmcgnnmffeojpaaGreatDoorPk5
import Derived.Test.YtmcgnnmffeojpaaGreatDoorPk44
import Derived.Test.YtmcgnnmffeojpaaGreatDoorPk46
import Derived.Test.YtmcgnnmffeojpaaGreatDoorPk48
import Derived.Test.YtmcgnnmffeojpaaGreatDoorPk49
import Derived.Shelf.Vars
/- The library's variables that loading wants: out of a row's condition and a world's shape. -/
namespace Go.Proofs.YtmcgnnmffeojpaaGreatDoor
open Go.ChangeShapes Go.WideShapes Go.ChangeAt Go.RowKit Go.Joins Go.Plan Go.Stop Go.Extern

theorem lst_rng : (LST1.filter fun x => x.1 == "strconv.ErrRange") = [("strconv.ErrRange", Rows.laid_strconv_ErrRange)] := by rfl
theorem lst_syn : (LST1.filter fun x => x.1 == "strconv.ErrSyntax") = [("strconv.ErrSyntax", Rows.laid_strconv_ErrSyntax)] := by rfl
theorem star_es : "*" ++ "errors.errorString" = "*errors.errorString" := by decide
theorem row_es (u : TypeId) (h : Tryz.prog.typeName? 3 u = some "*errors.errorString") : u = 250 :=
  typeName_ptr_named (nm := "errors.errorString") (by rw [star_es]; kernel_rfl) (by kernel_rfl) (by decide) u (by rw [star_es]; exact h)
theorem cellsES : Tryz.prog.cellsOf 252 = 1 := by kernel_rfl
theorem cellsStr : Tryz.prog.cellsOf 9 = 1 := by kernel_rfl
theorem errK_of {W : World} (h : laidMetH Tryz.prog LST W) : ErrP W := by
  have h1 := (laidMetH_iff.1 h).1
  rw [lst_plain] at h1
  have h2 := h1.filter (fun x => x.1 == "strconv.ErrRange")
  have h3 := h1.filter (fun x => x.1 == "strconv.ErrSyntax")
  rw [lst_rng] at h2
  rw [lst_syn] at h3
  obtain ⟨a0, s0, v0, -⟩ := laid_sentinel (g := 2) (ti := 45) (tp := 250) (te := 252) (ts := 9) h2 (by kernel_rfl) (by kernel_rfl) Tryz.underlying45 row_es Tryz.underlying250 Tryz.underlying252 rfl rfl Tryz.underlying9 cellsES cellsStr
  obtain ⟨a1, s1, v1, -⟩ := laid_sentinel (g := 1) (ti := 45) (tp := 250) (te := 252) (ts := 9) h3 (by kernel_rfl) (by kernel_rfl) Tryz.underlying45 row_es Tryz.underlying250 Tryz.underlying252 rfl rfl Tryz.underlying9 cellsES cellsStr
  have c0 := World.var?_cell (show Tryz.prog.globalNamed "strconv.ErrRange" = some 2 by kernel_rfl) v0 0
  have c1 := World.var?_cell (show Tryz.prog.globalNamed "strconv.ErrSyntax" = some 1 by kernel_rfl) v1 0
  exact ⟨⟨_, _, c1⟩, _, _, c0⟩
theorem maxK_of {W : World} (h : W.ShapedOpen Tryz.prog) : MaxP W :=
  cell_of_shapedOpen_int (P := Tryz.prog) (g := 4) (t := 3) (zero := #[.int .i64 0]) h (of_decide_eq_true (by kernel_rfl)) (by kernel_rfl) rfl (by kernel_rfl) (by kernel_rfl) Tryz.underlying3
theorem lib4_of {W : World} (h : laidMetH Tryz.prog LST W) (hs : W.ShapedOpen Tryz.prog) : Lib4 W := ⟨laidK_of h, maxK_of hs, errK_of h, powK_of h⟩
end Go.Proofs.YtmcgnnmffeojpaaGreatDoor
/- EngineView: the walk. -/
namespace Go.Proofs.YtmcgnnmffeojpaaGreatDoor
open Go.RowKit Go.Plan

theorem TOk.outs {lo hi md : Int} {s : TSt} {n : Nat} (ok : TOk lo hi md s n) : ∀ x ∈ sortO s.V, x.ok := fun x hx =>
  (outOk_ok (should_ok (fun r hr => (ok.rL r hr).good) (fun r hr => (ok.rR r hr).good) x (ok.inv.v.mem_iff.1 ((sortO_perm _).mem_iff.1 hx)))).2
theorem TOk.lV2 {lo hi md : Int} {s : TSt} {n : Nat} (ok : TOk lo hi md s n) (hn : n < 200) : s.V.length < 1000000 := by
  have h1 := ok.lV
  have : n * n ≤ 200 * 200 := Nat.mul_le_mul (by omega) (by omega)
  omega
set_option maxRecDepth 100000 in
set_option maxHeartbeats 8000000 in
theorem engineView_w (low high mode : Int) (a : Option Addr) (cap : Nat) (xs : List StE) (w : World) (i1 : I64 low) (i2 : I64 high) (i3 : I64 mode) (hlib : Lib4 w) (hin : StepsIn w a xs) (hok : ∀ x ∈ xs, x.ok ∧ I64 x.n) :
    Calls Tryz.prog 3 #[.int .i64 low, .int .i64 high, .int .i64 mode, .slice a xs.length cap] w fun e w' => e = .returned (.bool true) ∧ Ext w w' := by
  have hw0 : 0 < w.heap.size := cell_lt hlib.l
  by_cases h80 : 80 < xs.length
  · have d : decide (80 < (xs.length : Int)) = true := by simp; omega
    go_enter Tryz.func3, Tryz.ntmps3
    go_wp2_with fail
    go_ret
    exact ⟨rfl, ExtM.refl _⟩
  have d : decide (80 < (xs.length : Int)) = false := by simp; omega
  have hck := plan_check low high mode
  have hnw := fun u => tale_new low high mode u i1 i2 i3
  generalize planLo low = lo at *
  generalize planHi low high = hi at *
  generalize planMd mode = md at *
  go_enter Tryz.func3, Tryz.ntmps3
  go_upto_region 5 with (go_at_call 7; refine (met_c _ hlib.l).mono ?_; rintro e w1 ⟨rfl, hx1⟩)
  go_wp2_with (go_at_call 8; refine (hnw _).mono ?_; rintro e w2 ⟨Ta, Fa, rfl, hx2, hta, hna⟩)
  have hX0 : Ext w w2 := ExtM.trans _ _ _ hx1 hx2
  have hF0 : ∀ k, Fa k → w.heap.size ≤ k := fun k hk => Nat.le_trans hx1.size (hna k hk)
  clear hnw hx1 hx2 hna
  go_loopg [10] (xs.length + 1) (fun kx s10 wr => ∃ (i : Nat) (Fb : Nat → Prop), s10 = .int .i64 i ∧ i ≤ xs.length ∧ xs.length - i ≤ kx ∧ Ext w wr ∧ TAt wr Ta Fb lo hi md (tellX lo hi md (xs.take i) TSt.new) ∧ ∀ k, Fb k → w.heap.size ≤ k)
  case atStart => exact ⟨0, Fa, rfl, by omega, by omega, hX0, hta, hF0⟩
  case round =>
    clear hta hX0 hF0
    obtain ⟨i, Fb, rfl, hi', hgk, hX, hT, hF⟩ := hrel
    by_cases hil : i < xs.length
    · rcases hin with hin | ⟨b, off, rfl, hel⟩
      · rw [hin] at hil; simp at hil
      have hel := (hel i hil).of hX
      have hxo := hok _ (List.getElem_mem hil)
      have hto : TOk lo hi md (tellX lo hi md (xs.take i) TSt.new) (0 + (xs.take i).length) := tellX_ok _ (TOk.new lo hi md) (by rw [List.length_take]; omega)
      have hnl : 0 + (xs.take i).length < 100 := by rw [List.length_take]; omega
      have HSN : Hid (tellX lo hi md (xs.take (i + 1)) TSt.new = stepX lo hi md (tellX lo hi md (xs.take i) TSt.new) xs[i]) := Lib.hid (by rw [List.take_succ_eq_append_getElem hil, tellX_snoc])
      generalize xs[i] = x at *
      generalize 0 + (xs.take i).length = n at *
      generalize tellX lo hi md (xs.take i) TSt.new = s at *
      have hz0 : ¬ Fb 0 := fun e => by have := hF 0 e; omega
      have hdo := doesA_c hT hto (by omega) hck (hlib.ext hX) hz0 x hxo.1 hxo.2
      have hto2 := stepX_ok hto (by omega) x
      rw [← HSN.out] at hdo hto2
      generalize hs2 : tellX lo hi md (xs.take (i + 1)) TSt.new = s2 at *
      have HS2 := Lib.hid hs2
      clear hs2
      obtain ⟨wh, sd, sn, ky, tm, vl⟩ := x
      obtain ⟨q0, q1, q2, q3, q4, q5⟩ := hel
      simp only [StE.agg] at q0 q1 q2 q3 q4 q5 hdo
      have hlb := cell_lt' q0
      clear hT hto hxo
      go_wp2_with (go_at_call 9; refine hdo.mono ?_; rintro e w6 ⟨rfl, hu6⟩; refine Hid.out ?_)
      refine Lib.hid ?_
      obtain ⟨hxu, Fb2, hT2, hF2⟩ := hu6
      have hX6 : Ext w w6 := hX.fresh' hxu (fun k hk e => by have := hF k e; omega)
      have hF6 : ∀ k, Fb2 k → w.heap.size ≤ k := fun k hk => (hF2 k hk).elim (hF k) (fun e => Nat.le_trans hX.size e)
      obtain ⟨F, E, Bs, v0, v1, m, ht, rfl⟩ := hT2
      have c0 := ht.own.c0
      have lT := cell_lt' c0
      simp only at lT
      have hVl := hto2.lV2 (by omega)
      have hva := (view_c ht.eng hVl).mono fun e w' h => h.out
      have hvo := hto2.outs
      clear hdo q0 q1 q2 q3 q4 q5 hlb hxu hF2 hX
      have hpS : (sortO s2.V).Perm (should lo hi md 0 s2.L s2.R) := (sortO_perm _).trans hto2.inv.v
      have hpV : (sortO s2.V).Perm s2.V := sortO_perm _
      have hvl : (sortO s2.V).length < 1000000 := by rw [sortO_length]; exact hVl
      go_wp2_with (go_at_call 10; refine hva.mono ?_; rintro e w7 ⟨p, cv, rfl, hx7, ho7⟩; refine Hid.out ?_)
      refine Lib.hid ?_
      have ht7 := ht.ext hx7
      have hsh := should_c ht7 hto2 (by omega)
      clear hva c0 lT
      go_wp2_with (go_at_call 12; refine hsh.mono ?_; rintro e w8 ⟨D, m', rfl, hx8, hmD, hcD⟩; refine Hid.out ?_)
      refine Lib.hid ?_
      have ht8 := ht7.ext hx8
      have hr1 := right_c p cv (sortO s2.V) _ D m' w8 (ho7.of hx8) hvo hmD hcD hpS hvl
      clear hsh
      go_wp2_with (go_at_call 11; refine hr1.mono ?_; rintro e w9 ⟨rfl, hx9⟩; refine Hid.out ?_)
      refine Lib.hid ?_
      have ht9 := ht8.ext hx9
      have hr2 := right_c p cv (sortO s2.V) _ F m w9 ((ho7.of hx8).of hx9) hvo ht9.mp ht9.cz hpV hvl
      have c8 := ht9.own.c8
      have lT := cell_lt' c8
      simp only at lT
      clear hr1
      go_wp2_with (go_at_call 11; refine hr2.mono ?_; rintro e wA ⟨rfl, hxA⟩; refine Hid.out ?_)
      refine Lib.hid ?_
      have HN := Lib.hid (⟨ExtM.trans _ _ _ hX6 (ExtM.trans _ _ _ hx7 (ExtM.trans _ _ _ hx8 (ExtM.trans _ _ _ hx9 hxA))), ht9.ext hxA, hF6⟩ : Ext w wA ∧ _ ∧ _)
      clear hr2 c8 lT ht9 ht8 ht7 ht hX6 hx7 hx8 hx9 hxA hF6 ho7 hmD hcD
      go_wp2_with fail
      go_roundg (xs.length - (i + 1))
      case measure => omega
      case rel =>
        obtain ⟨r1, r2, r3⟩ := HN.out
        refine ⟨i + 1, _, by go_num, by omega, Nat.le_refl _, r1, ?_, r3⟩
        rw [HS2.out]
        exact ⟨F, E, Bs, v0, v1, m, r2, rfl⟩
    · obtain rfl : i = xs.length := by omega
      have hz : decide (xs.length < xs.length) = false := by simp
      have hz2 : decide ((xs.length : Int) < xs.length) = false := by simp
      go_wp2_with fail
      go_ret
      exact ⟨rfl, hX⟩
end Go.Proofs.YtmcgnnmffeojpaaGreatDoor
/- What slices of a tale's steps, and of numbers, look like, as they come in. -/
namespace Go.Proofs.YtmcgnnmffeojpaaGreatDoor
open Go.ChangeShapes Go.WideShapes Go.ChangeAt Go.RowKit Go.Joins Go.Plan Go.Deep

theorem cellsStepE : Tryz.prog.cellsOf 28 = 6 := by kernel_rfl
section
variable {H : Type} {enc : TypeId × Value → H} {w : World} {base : Nat} {spare : Nat → Bool} {held : Bool}
set_option maxRecDepth 100000 in
theorem stepE_cells {fuel : Nat} {cs : List Value} {x : DataW H × List MemPlace} (h : DataW.trod enc Tryz.prog w base spare held fuel 28 cs = some x) :
    ∃ d : StE, cs = d.cells ∧ d.ok ∧ I64 d.n := by
  obtain ⟨xs, n, _, -, hl, hlen, hf⟩ := DataW.trod_struct Tryz.underlying28 h
  rw [cellsStepE] at hl
  match cs, hl, xs, hlen with
  | [c0, c1, c2, c3, c4, c5], _, [y0, y1, y2, y3, y4, y5], _ =>
    obtain ⟨a, rfl, wa⟩ := int_cell (c := c0) (by simpa [cellsInt] using hf 0 _ rfl)
    obtain ⟨b, rfl, wb⟩ := int_cell (c := c1) (by simpa [cellsInt] using hf 1 _ rfl)
    obtain ⟨c, rfl, wc⟩ := int_cell (c := c2) (by simpa [cellsInt] using hf 2 _ rfl)
    obtain ⟨d, rfl, wd⟩ := int_cell (c := c3) (by simpa [cellsInt] using hf 3 _ rfl)
    obtain ⟨e, rfl, we⟩ := int_cell (c := c4) (by simpa [cellsInt] using hf 4 _ rfl)
    obtain ⟨f, rfl, wf⟩ := int_cell (c := c5) (by simpa [cellsInt] using hf 5 _ rfl)
    exact ⟨⟨a, b, c, d, e, f⟩, rfl, ⟨wb, wd, we, wf⟩, wc⟩
set_option maxRecDepth 100000 in
theorem steps_arg2 {r : Reach} {b0 : Nat} {v : Value} {d : DataW H} {p : List MemPlace} (hv : Value.okWide Tryz.prog w r b0 22 v) (h : DataW.Trod enc Tryz.prog w base spare held 22 v d p) :
    ∃ a cap xs, v = .slice a xs.length cap ∧ StepsIn w a xs ∧ ∀ x ∈ xs, x.ok ∧ I64 x.n := by
  obtain ⟨a, len, cap, rfl, -, -, h1⟩ := slice_arg 6 (by omega) Tryz.underlying22 cellsStepE hv h
  rcases h1 with rfl | ⟨b, off, rfl, hc⟩
  · exact ⟨a, cap, [], rfl, .inl rfl, fun x hx => nomatch hx⟩
  have hc' : ∀ k, k < len → ∃ x : StE, ElemE w b (off + k * 6) x ∧ x.ok ∧ I64 x.n := fun k hk => by
    obtain ⟨cs, n, y, hl, hcell, ht⟩ := hc k hk
    obtain ⟨x, rfl, hx⟩ := stepE_cells ht
    exact ⟨x, ⟨hcell 0 (by omega), hcell 1 (by omega), hcell 2 (by omega), hcell 3 (by omega), hcell 4 (by omega), hcell 5 (by omega)⟩, hx⟩
  have : Inhabited StE := ⟨⟨0, 0, 0, 0, 0, 0⟩⟩
  obtain ⟨f, hf⟩ := choose_lt hc'
  refine ⟨some ⟨b, off, none⟩, cap, (List.range len).map f, by simp, .inr ⟨b, off, rfl, fun i hi => ?_⟩, fun x hx => ?_⟩
  · have hi' : i < len := by simpa using hi
    have e : ((List.range len).map f)[i]'hi = f i := by simp
    rw [e]; exact (hf i hi').1
  · obtain ⟨i, hi, rfl⟩ := List.mem_map.1 hx
    exact (hf i (List.mem_range.1 hi)).2
set_option maxRecDepth 100000 in
theorem steps_arg {r : Reach} {b0 : Nat} {v : Value} {d : DataW H} {p : List MemPlace} (hv : Value.okWide Tryz.prog w r b0 22 v) (h : DataW.Trod enc Tryz.prog w base spare held 22 v d p) :
    ∃ a cap xs, v = .slice a xs.length cap ∧ StepsIn w a xs ∧ ∀ x ∈ xs, x.ok := by
  obtain ⟨a, cap, xs, h1, h2, h3⟩ := steps_arg2 hv h
  exact ⟨a, cap, xs, h1, h2, fun x hx => (h3 x hx).1⟩
set_option maxRecDepth 100000 in
theorem ints_arg {r : Reach} {b0 : Nat} {v : Value} {d : DataW H} {p : List MemPlace} (hv : Value.okWide Tryz.prog w r b0 52 v) (h : DataW.Trod enc Tryz.prog w base spare held 52 v d p) :
    ∃ a cap xs, v = .slice a xs.length cap ∧ OrdIn w a xs := by
  obtain ⟨a, len, cap, rfl, -, -, h1⟩ := slice_arg 1 (by omega) Tryz.underlying52 cellsInt hv h
  rcases h1 with rfl | ⟨b, off, rfl, hc⟩
  · exact ⟨a, cap, [], rfl, .inl rfl⟩
  have hc' : ∀ k, k < len → ∃ x : Int, w.cell? ⟨b, off + k, none⟩ = some (.int .i64 x) ∧ I64 x := fun k hk => by
    obtain ⟨cs, n, y, hl, hcell, ht⟩ := hc k hk
    match cs, hl with
    | [c0], _ =>
      obtain ⟨x, rfl, hx⟩ := int_cell (c := c0) ht
      refine ⟨x, ?_, hx⟩
      have := hcell 0 (by omega)
      simpa using this
  obtain ⟨f, hf⟩ := choose_lt hc'
  refine ⟨some ⟨b, off, none⟩, cap, (List.range len).map f, by simp, .inr ⟨b, off, rfl, fun i hi => ?_⟩⟩
  have hi' : i < len := by simpa using hi
  have e : ((List.range len).map f)[i]'hi = f i := by simp
  rw [e]; exact hf i hi'
end
end Go.Proofs.YtmcgnnmffeojpaaGreatDoor
namespace Go.Proofs.YtmcgnnmffeojpaaGreatDoor.engineView
open Go.ChangeShapes Go.WideShapes Go.ChangeAt Go.RowKit Go.Joins Go.Plan Go.Deep

set_option maxRecDepth 100000 in
theorem contract {H : Type} {enc : TypeId × Value → H} {W : World} {base : Nat} {held : Bool} {sp : Nat → Bool} {r : Reach} {b0 : Nat} {v0 v1 v2 v3 : Value} {d0 d1 d2 d3 : DataW H} {p0 p1 p2 p3 : List MemPlace} (hg : laidMetH Tryz.prog LST W) (hs : W.ShapedOpen Tryz.prog)
    (hv0 : Value.okWide Tryz.prog W r b0 3 v0) (h0 : DataW.Trod enc Tryz.prog W base sp held 3 v0 d0 p0)
    (hv1 : Value.okWide Tryz.prog W r b0 3 v1) (h1 : DataW.Trod enc Tryz.prog W base sp held 3 v1 d1 p1)
    (hv2 : Value.okWide Tryz.prog W r b0 3 v2) (h2 : DataW.Trod enc Tryz.prog W base sp held 3 v2 d2 p2)
    (hv3 : Value.okWide Tryz.prog W r b0 22 v3) (h3 : DataW.Trod enc Tryz.prog W base sp held 22 v3 d3 p3) :
    Calls Tryz.prog 3 #[v0, v1, v2, v3] W fun e w' => e = .returned (.bool true) ∧ Ext W w' := by
  obtain ⟨lo, rfl, i0⟩ := int_arg hv0 h0
  obtain ⟨hi, rfl, i1⟩ := int_arg hv1 h1
  obtain ⟨md, rfl, i2⟩ := int_arg hv2 h2
  obtain ⟨a, cap, xs, rfl, hin, hok⟩ := steps_arg2 hv3 h3
  exact engineView_w lo hi md a cap xs W i0 i1 i2 (lib4_of hg hs) hin hok

set_option maxRecDepth 100000 in
theorem lifted (os : Os) (started : os.Started) (H : Type) (enc : TypeId × Value → H) :
    ReturnsInHanded {} Tryz.checked os 3 .any (fun w args => (Rows.engineViewSpec.pre enc Tryz.prog Tryz.f3 [] false w args ∧ laidMetH Tryz.prog LST w) ∧ sizedMet enc Tryz.prog Tryz.f3 (OpenSpec.ofChange Rows.engineViewSpec) false w args)
      (Rows.engineViewSpec.post enc Tryz.prog Tryz.f3 false true false false) := by
  refine handed_and_shaped (C := Tryz.checked) (X := fun w _ => laidMetH Tryz.prog LST w) (fun _ _ _ hh h => h.of_heap hh) own started (by kernel_rfl) Tryz.func3
    (ChangeSpec.witness_shaped (enc := enc) (C := Tryz.checked) (os := os) (X := fun w _ => laidMetH Tryz.prog LST w) false (laidWorldK os) #[.int .i64 0, .int .i64 0, .int .i64 0, .slice none 0 0] 8 rfl
      (World.shaped_of_ZipB (by kernel_rfl) (by kernel_rfl)) (by kernel_rfl) (by kernel_rfl) (by kernel_rfl) (laidWorldK_met os _)) ?_
  intro W base args ds gs before hval0 hW _ _ hL hSh _
  have hval : ∀ (j : Nat) t v, Tryz.f3.params[j]? = some t → args[j]? = some v → Value.okWide Tryz.prog W .any base t v := hval0
  have hW' := hW
  obtain ⟨p, q, hA0, hV, rfl, hfz, hnd⟩ := hW
  have hA : DataW.TrodAll enc Tryz.prog W 0 (fun _ => true) true Tryz.f3.params.toList args.toList ds p := hA0
  have hg := laidK_of hL
  rw [Tryz.params3] at hA hval
  obtain ⟨v0, vs0, d0, ds0, p0, q0, hargs, rfl, rfl, h0, r0⟩ := trodAll_cons hA
  obtain ⟨v1, vs1, d1, ds1, p1, q1, rfl, rfl, rfl, h1, r1⟩ := trodAll_cons r0
  obtain ⟨v2, vs2, d2, ds2, p2, q2, rfl, rfl, rfl, h2, r2⟩ := trodAll_cons r1
  obtain ⟨v3, vs3, d3, ds3, p3, q3, rfl, rfl, rfl, h3, r3⟩ := trodAll_cons r2
  obtain ⟨rfl, rfl, rfl⟩ := trodAll_nil r3
  obtain rfl : args = #[v0, v1, v2, v3] := by cases args; simp_all
  obtain ⟨rfl, rfl⟩ := trodVars_none hV
  have hlt := hW'.lt
  simp only [List.append_nil] at hW' hlt
  refine (contract hL hSh (hval 0 3 v0 rfl rfl) h0 (hval 1 3 v1 rfl rfl) h1 (hval 2 3 v2 rfl rfl) h2 (hval 3 22 v3 rfl rfl) h3).mono fun e W' ⟨he, hx⟩ => ?_
  subst he
  refine ⟨_, rfl, post_law (pv := []) hW' rfl hx rfl ?_ rfl⟩
  have hk := trodAll_cons_mk (keep1 (by kernel_rfl) (of_decide_eq_true (by kernel_rfl)) h0 hx fun x h => hlt x (by simp [h])) (trodAll_cons_mk (keep1 (by kernel_rfl) (of_decide_eq_true (by kernel_rfl)) h1 hx fun x h => hlt x (by simp [h])) (trodAll_cons_mk (keep1 (by kernel_rfl) (of_decide_eq_true (by kernel_rfl)) h2 hx fun x h => hlt x (by simp [h])) (trodAll_cons_mk (keep1 (by kernel_rfl) (of_decide_eq_true (by kernel_rfl)) h3 hx fun x h => hlt x (by simp [h])) (trodAll_mk0))))
  simp only [List.append_nil] at hk ⊢
  exact hk

theorem said : Rows.EngineViewSaid :=
  OpenClaim.holds_of_wide 3 Tryz.f3 rfl rfl rfl rfl rfl rfl rfl ⟨rfl, rfl, rfl, rfl, rfl⟩ rfl rfl rfl rfl rfl (by kernel_rfl) Tryz.func3 (by kernel_rfl)
    (of_decide_eq_true (by kernel_rfl)) (by unfold Func.isWrapper; rw [if_neg (of_decide_eq_false (by kernel_rfl))]; exact ⟨rfl, rfl⟩)
    (fun os started H enc _ => lifted os started H enc)

theorem plainArgs (f : FuncId) (fn : Func) (hf : Tryz.pinned.checked.prog.funcNamed "estuary/estuarykeep.EngineView" = some f) (hfn : Tryz.pinned.checked.prog.funcs[f]? = some fn) :
    true = Tryz.pinned.checked.prog.looks [] ∧ ∀ (j : Nat) t, fn.params[j]? = some t → Tryz.pinned.checked.prog.wantsStandIn t = false := by
  obtain rfl : f = 3 := Option.some.inj ((show Tryz.prog.funcNamed "estuary/estuarykeep.EngineView" = some 3 by kernel_rfl).symm.trans hf) |>.symm
  obtain rfl : fn = Tryz.f3 := (Option.some.inj (Tryz.func3.symm.trans hfn)).symm
  refine ⟨by kernel_rfl, fun j t ht => ?_⟩
  rw [Tryz.params3] at ht
  have h2 : t = 3 ∨ t = 22 := by simpa using Array.mem_of_getElem? ht
  rcases h2 with rfl | rfl
  · exact (show Tryz.prog.wantsStandIn 3 = false by kernel_rfl)
  · exact (show Tryz.prog.wantsStandIn 22 = false by kernel_rfl)

/-- The card. -/
theorem holds : Rows.EngineViewCardSaid :=
  Claim7.holds_tied_plain_at .later [] _ _ _ _ said (fun _ h => by cases h) (by kernel_rfl) (fun _ h => by cases h) engineView_row_tie rfl ⟨rfl, rfl⟩ (by kernel_rfl) rfl plainArgs (by kernel_rfl)

#print axioms holds
end Go.Proofs.YtmcgnnmffeojpaaGreatDoor.engineView
