/- EnginePlays: for every plan and every list of steps the law returns true, and the list reads as it did. No condition but the row's own (the library's variables as the program lays them; tied). -/
import Derived.Test.YtmcgnnmffeojpabGreatDoorPk34
import Derived.Test.YtmcgnnmffeojpabGreatDoorPk50
import Derived.Shelf.Vars
set_option maxRecDepth 100000
set_option maxHeartbeats 8000000
namespace Go.Proofs.YtmcgnnmffeojpabGreatDoor
open Go.ChangeShapes Go.WideShapes Go.ChangeAt Go.RowKit Go.Joins Go.Plan Go.Stop Go.Extern
theorem zom : (LST1.filter fun x => x.1 == "strconv.ErrRange") = [("strconv.ErrRange", Rows.laid_strconv_ErrRange)] := by rfl
theorem znU : (LST1.filter fun x => x.1 == "strconv.ErrSyntax") = [("strconv.ErrSyntax", Rows.laid_strconv_ErrSyntax)] := by rfl
theorem zk6 : "*" ++ "errors.errorString" = "*errors.errorString" := by decide
theorem znj (u : TypeId) (h : Tryz.prog.typeName? 3 u = some "*errors.errorString") : u = 313 :=
 typeName_ptr_named (nm := "errors.errorString") (by rw [zk6]; kernel_rfl) (by kernel_rfl) (by decide) u (by rw [zk6]; exact h)
theorem zld : Tryz.prog.cellsOf 315 = 1 := by kernel_rfl
theorem zhZ : Tryz.prog.cellsOf 9 = 1 := by kernel_rfl
theorem znK {W : World} (h : laidMetH Tryz.prog LST W) : ErrP W := by
 have h1 := (laidMetH_iff.1 h).1; rw [zdT] at h1; have h2 := h1.filter (fun x => x.1 == "strconv.ErrRange"); have h3 := h1.filter (fun x => x.1 == "strconv.ErrSyntax"); rw [zom] at h2; rw [znU] at h3; obtain ⟨a0, s0, v0, -⟩ := laid_sentinel (g := 4) (ti := 29) (tp := 313) (te := 315) (ts := 9) h2 (by kernel_rfl) (by kernel_rfl) Tryz.underlying29 znj Tryz.underlying313 Tryz.underlying315 rfl rfl Tryz.underlying9 zld zhZ; obtain ⟨a1, s1, v1, -⟩ := laid_sentinel (g := 3) (ti := 29) (tp := 313) (te := 315) (ts := 9) h3 (by kernel_rfl) (by kernel_rfl) Tryz.underlying29 znj Tryz.underlying313 Tryz.underlying315 rfl rfl Tryz.underlying9 zld zhZ; have c0 := World.var?_cell (show Tryz.prog.globalNamed "strconv.ErrRange" = some 4 by kernel_rfl) v0 0; have c1 := World.var?_cell (show Tryz.prog.globalNamed "strconv.ErrSyntax" = some 3 by kernel_rfl) v1 0; exact ⟨⟨_, _, c1⟩, _, _, c0⟩
theorem zoi {W : World} (h : W.ShapedOpen Tryz.prog) : MaxP W :=
 cell_of_shapedOpen_int (P := Tryz.prog) (g := 5) (t := 3) (zero := #[.int .i64 0]) h (of_decide_eq_true (by kernel_rfl)) (by kernel_rfl) rfl (by kernel_rfl) (by kernel_rfl) Tryz.underlying3
theorem zj7 {W : World} (h : laidMetH Tryz.prog LST W) (hs : W.ShapedOpen Tryz.prog) : Lib4 W := ⟨zit h,zoi hs,znK h,znG h⟩
end Go.Proofs.YtmcgnnmffeojpabGreatDoor
namespace Go.Proofs.YtmcgnnmffeojpabGreatDoor.enginePlays
open Go.ChangeShapes Go.WideShapes Go.ChangeAt Go.RowKit Go.Joins Go.Plan Go.Deep
theorem zg4 : Tryz.prog.cellsOf 39 = 6 := by kernel_rfl
theorem ziQ {H : Type} {enc : TypeId × Value -> H} {w : World} {base : Nat} {spare : Nat -> Bool} {held : Bool} {fuel : Nat} {cs : List Value} {x : DataW H × List MemPlace} (h : DataW.trod enc Tryz.prog w base spare held fuel 39 cs = some x) :
 ∃ d : StX,cs = [.int .i64 d.what,.int .i64 d.side,.int .i64 d.n,.int .i64 d.r.k,.int .i64 d.r.t,.int .i64 d.r.v] := by
 obtain ⟨xs,n,_,-,hl,hlen,hf⟩ := DataW.trod_struct Tryz.underlying39 h;rw [zg4] at hl;match cs,hl,xs,hlen with
 | [c0,c1,c2,c3,c4,c5],_,[y0,y1,y2,y3],_ =>
   obtain ⟨a,rfl,-⟩ := zba (c := c0) (by simpa [zaP] using hf 0 _ rfl);obtain ⟨b,rfl,-⟩ := zba (c := c1) (by simpa [zaP] using hf 1 _ rfl);obtain ⟨c,rfl,-⟩ := zba (c := c2) (by simpa [zaP] using hf 2 _ rfl);obtain ⟨r,e,-⟩ := zkk (cs := [c3,c4,c5]) (by simpa [zdH] using hf 3 _ rfl);refine ⟨⟨a,b,c,r⟩,?_⟩;rw [List.cons.injEq,List.cons.injEq,List.cons.injEq] at *
   simp_all
theorem ziy {H : Type} {enc : TypeId × Value -> H} {w : World} {base : Nat} {spare : Nat -> Bool} {held : Bool} {r : Reach} {b0 : Nat} {v : Value} {d : DataW H} {p : List MemPlace} (hv : Value.okWide Tryz.prog w r b0 45 v) (h : DataW.Trod enc Tryz.prog w base spare held 45 v d p) :
 ∃ lo hi md : Int,v = .agg #[.int .i64 lo,.int .i64 hi,.int .i64 md] := by
 obtain ⟨cs,rfl,hsz⟩ := okWide_struct Tryz.underlying45 hv;obtain ⟨fuel,hf⟩ := h;obtain ⟨y0,y1,y2,n,-,hl,h0,h1,h2⟩ := trod_struct3 Tryz.underlying45 hf;obtain ⟨l⟩ := cs;have cellsPlan : Tryz.prog.cellsOf 45 = 3 := by kernel_rfl
 rw [cellsPlan] at hl;simp only [Value.cells] at *;match l,hl with
 | [c0,c1,c2],_ =>
   obtain ⟨a,rfl,-⟩ := zba (c := c0) (by simpa [zaP] using h0);obtain ⟨b,rfl,-⟩ := zba (c := c1) (by simpa [zaP] using h1);obtain ⟨c,rfl,-⟩ := zba (c := c2) (by simpa [zaP] using h2);exact ⟨a,b,c,rfl⟩
theorem contract {H : Type} {enc : TypeId × Value -> H} {W : World} {base : Nat} {held : Bool} {sp : Nat -> Bool} {r : Reach} {b0 : Nat} {v0 v1 : Value} {d0 d1 : DataW H} {p0 p1 : List MemPlace} (hg : laidMetH Tryz.prog LST W) (hs : W.ShapedOpen Tryz.prog)
 (hv0 : Value.okWide Tryz.prog W r b0 45 v0) (h0 : DataW.Trod enc Tryz.prog W base sp held 45 v0 d0 p0)
 (hv1 : Value.okWide Tryz.prog W r b0 22 v1) (h1 : DataW.Trod enc Tryz.prog W base sp held 22 v1 d1 p1) :
 Calls Tryz.prog 4 #[v0,v1] W fun e w' => e = .returned (.bool true) /\ Ext W w' := by
 obtain ⟨lo,hi,md,rfl⟩ := ziy hv0 h0;obtain ⟨a,len,cap,rfl,-,-,h1⟩ := zjZ 6 (by omega) Tryz.underlying22 zg4 hv1 h1;rcases h1 with rfl | ⟨b,off,rfl,hc⟩
 . exact zdj lo hi md a cap [] W (zj7 hg hs) (.inl rfl)
 have hc' : ∀ k,k < len -> ∃ x : StX,zgX W b (off + k * 6) x := fun k hk => by
  obtain ⟨cs,n,y,hl,hcell,ht⟩ := hc k hk;obtain ⟨x,rfl⟩ := ziQ ht;exact ⟨x,⟨hcell 0 (by omega),hcell 1 (by omega),hcell 2 (by omega),hcell 3 (by omega),hcell 4 (by omega),hcell 5 (by omega)⟩⟩
 have : Inhabited StX := ⟨⟨0,0,0,⟨0,0,0⟩⟩⟩
 obtain ⟨f,hf⟩ := choose_lt hc';have e : len = ((List.range len).map f).length := by simp
 have hh := zdj lo hi md (some ⟨b,off,none⟩) cap ((List.range len).map f) W (zj7 hg hs) (.inr ⟨b,off,rfl,fun i hi => by
  have hi' : i < len := by simpa using hi
  have e : ((List.range len).map f)[i]'hi = f i := by simp
  rw [e];exact hf i hi'⟩)
 rwa [<- e] at hh
theorem lifted (os : Os) (started : os.Started) (H : Type) (enc : TypeId × Value -> H) :
 ReturnsInHanded {} Tryz.checked os 4 .any (fun w args => (Rows.enginePlaysSpec.pre enc Tryz.prog Tryz.f4 [] false w args /\ laidMetH Tryz.prog LST w) /\ sizedMet enc Tryz.prog Tryz.f4 (OpenSpec.ofChange Rows.enginePlaysSpec) false w args)
  (Rows.enginePlaysSpec.post enc Tryz.prog Tryz.f4 false true false false) := by
 refine zd0 (C := Tryz.checked) (X := fun w _ => laidMetH Tryz.prog LST w) (fun _ _ _ hh h => h.of_heap hh) own started (by kernel_rfl) Tryz.func4
  (ChangeSpec.witness_shaped (enc := enc) (C := Tryz.checked) (os := os) (X := fun w _ => laidMetH Tryz.prog LST w) false (zdw os) #[.agg #[.int .i64 0,.int .i64 0,.int .i64 0],.slice none 0 0] 8 rfl
    (World.shaped_of_ZipB (by kernel_rfl) (by kernel_rfl)) (by kernel_rfl) (by kernel_rfl) (by kernel_rfl) (ze7 os _)) ?_
 intro W base args ds gs before hval0 hW _ _ hL hSh _;have hval : ∀ (j : Nat) t v,Tryz.f4.params[j]? = some t -> args[j]? = some v -> Value.okWide Tryz.prog W .any base t v := hval0;have hW' := hW;obtain ⟨p,q,hA0,hV,rfl,hfz,hnd⟩ := hW;have hA : DataW.TrodAll enc Tryz.prog W 0 (fun _ => true) true Tryz.f4.params.toList args.toList ds p := hA0;have hg := zit hL;rw [Tryz.params4] at hA hval;obtain ⟨v0,vs0,d0,ds0,p0,q0,hargs,rfl,rfl,h0,r0⟩ := trodAll_cons hA;obtain ⟨v1,vs1,d1,ds1,p1,q1,rfl,rfl,rfl,h1,r1⟩ := trodAll_cons r0;obtain ⟨rfl,rfl,rfl⟩ := trodAll_nil r1;obtain rfl : args = #[v0,v1] := by cases args;simp_all
 obtain ⟨rfl,rfl⟩ := trodVars_none hV;have hlt := hW'.lt;simp only [List.append_nil] at hW' hlt;refine (contract hL hSh (hval 0 45 v0 rfl rfl) h0 (hval 1 22 v1 rfl rfl) h1).mono fun e W' ⟨he,hx⟩ => ?_;subst he;refine ⟨_,rfl,zmn (pv := []) hW' rfl hx rfl ?_ rfl⟩;have hk := trodAll_cons_mk (zoG (by kernel_rfl) (of_decide_eq_true (by kernel_rfl)) h0 hx fun x h => hlt x (by simp [h])) (trodAll_cons_mk (zoG (by kernel_rfl) (of_decide_eq_true (by kernel_rfl)) h1 hx fun x h => hlt x (by simp [h])) (trodAll_mk0));simp only [List.append_nil] at hk ⊢;exact hk
theorem closed : joinedFacts Tryz.pinned.checked.prog 4 Tryz.f4 Rows.enginePlaysSpec Rows.enginePlaysRow = true := by
 unfold joinedFacts;simp only [Bool.and_eq_true]
 repeat' apply And.intro
 all_goals as_aux_lemma => kernel_rfl
theorem said : Rows.EnginePlaysSaid :=
 OpenClaim.holds_of_wide 4 Tryz.f4 rfl rfl rfl rfl rfl rfl rfl ⟨rfl,rfl,rfl,rfl,rfl⟩ rfl rfl rfl rfl rfl (by kernel_rfl) Tryz.func4 closed
  (of_decide_eq_true (by kernel_rfl)) (by unfold Func.isWrapper;rw [if_neg (of_decide_eq_false (by kernel_rfl))];exact ⟨rfl,rfl⟩)
  (fun os started H enc _ => lifted os started H enc)
theorem plainArgs (f : FuncId) (fn : Func) (hf : Tryz.pinned.checked.prog.funcNamed "estuary/estuarylaw.EnginePlays" = some f) (hfn : Tryz.pinned.checked.prog.funcs[f]? = some fn) :
 true = Tryz.pinned.checked.prog.looks [] /\ ∀ (j : Nat) t,fn.params[j]? = some t -> Tryz.pinned.checked.prog.wantsStandIn t = false := by
 obtain rfl : f = 4 := Option.some.inj ((show Tryz.prog.funcNamed "estuary/estuarylaw.EnginePlays" = some 4 by kernel_rfl).symm.trans hf) |>.symm
 obtain rfl : fn = Tryz.f4 := (Option.some.inj (Tryz.func4.symm.trans hfn)).symm;refine ⟨by kernel_rfl,fun j t ht => ?_⟩;rw [Tryz.params4] at ht;have h2 : t = 45 \/ t = 22 := by have h9 := Array.mem_of_getElem? ht;simp at h9;first | exact h9 | (rcases h9 with h | h | h <;> first | exact .inl h | exact .inr h)
 rcases h2 with rfl | rfl
 . exact (show Tryz.prog.wantsStandIn 45 = false by kernel_rfl)
 . exact (show Tryz.prog.wantsStandIn 22 = false by kernel_rfl)
theorem holds : Rows.EnginePlaysCardSaid :=
 Claim7.holds_tied_plain_at .later [] _ _ _ _ said (fun _ h => by cases h) (by kernel_rfl) (fun _ h => by cases h) enginePlays_row_tie rfl ⟨rfl,rfl⟩ (by kernel_rfl) rfl plainArgs (by kernel_rfl)
#print axioms holds
end Go.Proofs.YtmcgnnmffeojpabGreatDoor.enginePlays
