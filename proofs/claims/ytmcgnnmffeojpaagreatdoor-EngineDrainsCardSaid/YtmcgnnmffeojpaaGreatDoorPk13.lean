/- A join, plainly: what a row that comes, and a mark that moves, do to both sides. No program in sight. -/
import Derived.Test.YtmcgnnmffeojpaaGreatDoorPk11
import Derived.Test.YtmcgnnmffeojpaaGreatDoorPk12
import Derived.Lib.SliceRun
/- Side.Meet, Side.All. Side.All. -/
-- Meet
namespace Go.Proofs.YtmcgnnmffeojpaaGreatDoor
open Go.RowKit Go.Plan

/-- The slice v owns these, as Mets. -/
def MRow (w : World) (base : Nat) (v : Value) (ms : List Hd) : Prop := w.ownsRow base 66 4 v ms.length (ms.flatMap Hd.cells)
theorem infoMet : (Tryz.prog.info? 66).map (fun i => (i.zero, i.size, i.bytes)) = some (some (.agg #[.int .i64 0, .int .i64 0, .int .i64 0, .int .i64 0]), 4, 32) := by kernel_rfl

theorem run_appendM (W : World) (base nb c : Nat) (v : Value) (acc : List Hd) (x : Hd) (ty : TypeId) (hown : MRow W base v acc) (hx : ∀ j u, x.cells[j]? = some u → W.cell? ⟨nb, j, none⟩ = some u) (hl : acc.length < 1000000) (hb : base ≤ W.heap.size) :
    ∃ v' w', (Builtin.append_ #[62, 62] ty #[v, .slice (some ⟨nb, 0, none⟩) 1 c]).run Tryz.prog W = .ok v' w' ∧ MRow w' base v' (acc ++ [x]) ∧ ExtR v.ownBlock W w' ∧ (v'.ownBlock = v.ownBlock ∨ ∃ k, v'.ownBlock = some k ∧ W.heap.size ≤ k) :=
  run_appendK hd_len hd_one 62 _ 32 infoMet rfl (by decide) Tryz.underlying62 (by decide) W base nb c v acc x ty hown hx hl hb

/-- A row is of a key, and its time from one to another. -/
def meetP (key fr to : Int) (h : Hd) : Bool := decide (h.r.k = key) && decide (fr ≤ h.r.t) && decide (h.r.t ≤ to)
/-- It met one more. -/
def bump (h : Hd) : Hd := ⟨h.r, wrap64 (h.m + 1)⟩
def bumpIf (p : Hd → Bool) (h : Hd) : Hd := if p h then bump h else h

theorem HRow.at? {w : World} {p : Option Addr} {n cap : Nat} {hs : List Hd} (h : HRow w (.slice p n cap) hs) (j : Nat) (x : Hd) (hj : hs[j]? = some x) : ∃ g, p = some ⟨g, 0, none⟩ ∧ g < w.heap.size ∧ HCell w g j x := by
  obtain ⟨hj', rfl⟩ := List.getElem?_eq_some_iff.1 hj
  obtain ⟨p', cap', he, -⟩ := own_slice h
  injection he with h1 h2 h3
  subst h2
  exact h.at' j hj'
theorem HRow.setM {w : World} {g n cap : Nat} {hs : List Hd} (h : HRow w (.slice (some ⟨g, 0, none⟩) n cap) hs) (j : Nat) (x : Hd) (hj : hs[j]? = some x) (m : Int) : HRow (w.setCell ⟨g, j * 4 + 3, none⟩ (.int .i64 m)) (.slice (some ⟨g, 0, none⟩) n cap) (hs.set j ⟨x.r, m⟩) := by
  obtain ⟨hj', rfl⟩ := List.getElem?_eq_some_iff.1 hj
  obtain ⟨p', cap', he, -⟩ := own_slice h
  injection he with h1 h2 h3
  subst h2
  exact own_setCell hd_len h j 3 hj' (by decide) _ _ rfl
theorem HRow.len {w : World} {p : Option Addr} {n cap : Nat} {hs : List Hd} (h : HRow w (.slice p n cap) hs) : n = hs.length := by
  obtain ⟨p', cap', he, -⟩ := own_slice h
  injection he

theorem sorted_bump {hs : List Hd} (h : SortedH hs) (f : Hd → Hd) (hf : ∀ x, (f x).r = x.r) : SortedH (hs.map f) := by
  unfold SortedH at *
  rw [List.pairwise_map]
  refine h.imp ?_
  intro a b hab
  unfold leKT at *
  rw [hf, hf]; exact hab
theorem bumpIf_r (p : Hd → Bool) (x : Hd) : (bumpIf p x).r = x.r := by unfold bumpIf; split <;> rfl

theorem nil_none (base : Nat) (w : World) : MRow w base (.slice none 0 0) [] := ⟨rfl, .inl ⟨rfl, rfl⟩⟩

theorem _root_.Go.Plan.ExtM.fresh {M N : Nat → Prop} {a b c : World} (h1 : ExtM M a b) (h2 : ExtM N b c) (hN : ∀ k, k < a.heap.size → ¬ N k) : ExtM M a c :=
  ⟨h2.os.trans h1.os, h2.tape.trans h1.tape, h2.output.trans h1.output, Nat.le_trans h1.size h2.size, fun k hk hn => (h2.block k (Nat.lt_of_lt_of_le hk h1.size) (hN k hk)).trans (h1.block k hk hn)⟩

/-- What a Meet leaves. -/
def Meted (w w' : World) (S o : Nat) (v : Value) (hs : List Hd) (p : Hd → Bool) (e : Ending) : Prop :=
  ∃ vo, e = .returned vo ∧ MRow w' w.heap.size vo (hs.filter p) ∧ SideIs w' S o v (hs.map (bumpIf p)) ∧ ExtM (fun k => v.ownBlock = some k) w w'

set_option maxRecDepth 100000 in
set_option maxHeartbeats 4000000 in
theorem meetNone_c (S o : Nat) (v : Value) (hs : List Hd) (key fr to : Int) (w : World) (h : SideIs w S o v hs) (hft : to < fr) :
    Calls Tryz.prog 79 #[.pointer (some ⟨S, o, none⟩), .int .i64 key, .int .i64 fr, .int .i64 to] w fun e w' => Meted w w' S o v hs (meetP key fr to) e := by
  have hd : decide (to < fr) = true := by simpa using hft
  have hp : ∀ x : Hd, meetP key fr to x = false := fun x => by
    unfold meetP
    simp
    omega
  go_enter Tryz.func79, Tryz.ntmps79
  go_wp2
  go_ret
  refine ⟨_, rfl, ?_, ?_, ExtM.refl _⟩
  · rw [List.filter_eq_nil_iff.2 (fun a _ => by rw [hp]; decide)]
    exact nil_none _ _
  · have : hs.map (bumpIf (meetP key fr to)) = hs := by
      conv => rhs; rw [← List.map_id hs]
      exact List.map_congr_left (fun a _ => by unfold bumpIf; rw [hp]; rfl)
    rw [this]
    exact h

/-- The rows behind d rounds. -/
def metAt (A R : List Hd) (d : Nat) : List Hd := A ++ ((R.take d).map bump ++ R.drop d)
theorem metAt_get {A R : List Hd} {d : Nat} (hd : d < R.length) : (metAt A R d)[A.length + d]? = some (R[d]'hd) := by
  unfold metAt
  rw [List.getElem?_append_right (by omega), List.getElem?_append_right (by simp; omega)]
  simp
  rw [Nat.min_eq_left (by omega), Nat.sub_self]
  simp
theorem metAt_succ {A R : List Hd} {d : Nat} (hd : d < R.length) : (metAt A R d).set (A.length + d) (bump (R[d]'hd)) = metAt A R (d + 1) := by
  unfold metAt
  rw [List.set_append_right _ _ (by omega), List.set_append_right _ _ (by rw [List.length_map, List.length_take]; omega), List.length_map, List.length_take, show A.length + d - A.length - min d R.length = 0 by omega, List.drop_eq_getElem_cons hd, List.set_cons_zero, List.take_succ_eq_append_getElem hd, List.map_append, List.append_assoc]
  rfl
theorem metAt_len (A R : List Hd) (d : Nat) (hd : d ≤ R.length) : (metAt A R d).length = A.length + R.length := by
  unfold metAt
  simp
  omega

theorem meetP_iff (key fr to : Int) (x : Hd) : meetP key fr to x = true ↔ x.r.k = key ∧ fr ≤ x.r.t ∧ x.r.t ≤ to := by
  unfold meetP
  simp [and_assoc]
theorem meet_this {fr to : Int} {x : Hd} (h : aheadB x.r.k fr x = false) (ht : x.r.t ≤ to) : meetP x.r.k fr to x = true := by
  have h2 : ¬ aheadB x.r.k fr x = true := by rw [h]; decide
  rw [aheadB_iff] at h2
  rw [meetP_iff]
  omega
theorem met_rest {R : List Hd} {d : Nat} {x : Hd} {key fr to : Int} (hs : SortedH R) (hd : d < R.length) (hx : R[d] = x) (ha : aheadB key fr x = false) (hn : x.r.k = key → ¬ x.r.t ≤ to) : ∀ y ∈ R.drop d, meetP key fr to y = false := by
  have h2 : ¬ aheadB key fr x = true := by rw [ha]; decide
  rw [aheadB_iff] at h2
  have hp : (R.drop d).Pairwise leKT := hs.sublist (List.drop_sublist d R)
  rw [List.drop_eq_getElem_cons hd, hx] at hp ⊢
  have hp := (List.pairwise_cons.1 hp).1
  intro y hy
  have hk : leKT x y := by
    rcases List.mem_cons.1 hy with rfl | hy
    · unfold leKT; omega
    · exact hp y hy
  cases hq : meetP key fr to y with
  | false => rfl
  | true =>
    rw [meetP_iff] at hq
    unfold leKT at hk
    exfalso
    by_cases hxk : x.r.k = key
    · have := hn hxk; omega
    · omega
theorem met_exit {w wr : World} {S o : Nat} {v u : Value} {hs A R : List Hd} {d : Nat} {key fr to : Int} (h : SideIs w S o v hs) (hx : ExtM (fun k => v.ownBlock = some k) w wr) (hrow : HRow wr v (metAt A R d)) (hout : MRow wr w.heap.size u (R.take d)) (hAR : hs = A ++ R)
    (hA : ∀ a ∈ A, aheadB key fr a = true) (hall : ∀ x ∈ R.take d, meetP key fr to x = true) (hrest : ∀ x ∈ R.drop d, meetP key fr to x = false) : Meted w wr S o v hs (meetP key fr to) (.returned u) := by
  have hA' : ∀ a ∈ A, meetP key fr to a = false := fun a ha => by
    have h1 := hA a ha
    rw [aheadB_iff] at h1
    cases hq : meetP key fr to a with
    | false => rfl
    | true => rw [meetP_iff] at hq; omega
  have e1 : hs.filter (meetP key fr to) = R.take d := by
    rw [hAR, List.filter_append, List.filter_eq_nil_iff.2 (fun a ha => by rw [hA' a ha]; decide), List.nil_append]
    conv => lhs; rw [← List.take_append_drop d R]
    rw [List.filter_append, List.filter_eq_self.2 hall, List.filter_eq_nil_iff.2 (fun a ha => by rw [hrest a ha]; decide), List.append_nil]
  have e2 : hs.map (bumpIf (meetP key fr to)) = metAt A R d := by
    unfold metAt
    conv => lhs; rw [hAR, ← List.take_append_drop d R]
    rw [List.map_append, List.map_append]
    have g1 : A.map (bumpIf (meetP key fr to)) = A := by
      conv => rhs; rw [← List.map_id A]
      exact List.map_congr_left (fun a ha => by unfold bumpIf; rw [hA' a ha]; rfl)
    have g2 : (R.take d).map (bumpIf (meetP key fr to)) = (R.take d).map bump := List.map_congr_left (fun a ha => by unfold bumpIf; rw [hall a ha]; rfl)
    have g3 : (R.drop d).map (bumpIf (meetP key fr to)) = R.drop d := by
      conv => rhs; rw [← List.map_id (R.drop d)]
      exact List.map_congr_left (fun a ha => by unfold bumpIf; rw [hrest a ha]; rfl)
    rw [g1, g2, g3]
  refine ⟨u, rfl, by rw [e1]; exact hout, ?_, hx⟩
  rw [e2]
  exact ⟨(ExtM.cell hx (p := ⟨S, o, none⟩) h.lt h.own).trans h.c0, (ExtM.frozen hx (p := ⟨S, o, none⟩) h.lt h.own).trans h.fz, hrow, by rw [← e2]; exact sorted_bump h.srt _ (bumpIf_r _), h.own⟩

set_option maxRecDepth 100000 in
set_option maxHeartbeats 4000000 in
theorem meetSome_c (S o : Nat) (v : Value) (hs : List Hd) (key fr to : Int) (w : World) (h : SideIs w S o v hs) (hft : fr ≤ to) (hl : hs.length < 1000000) :
    Calls Tryz.prog 79 #[.pointer (some ⟨S, o, none⟩), .int .i64 key, .int .i64 fr, .int .i64 to] w fun e w' => Meted w w' S o v hs (meetP key fr to) e := by
  have hd : decide (to < fr) = false := by simp; omega
  obtain ⟨A, R, hAR, hA, hR, hN⟩ : ∃ A R, hs = A ++ R ∧ (∀ a ∈ A, aheadB key fr a = true) ∧ (∀ a ∈ R, aheadB key fr a = false) ∧ fromN key fr hs = A.length := by
    obtain ⟨h1, h2⟩ := fromN_parts h.srt key fr
    exact ⟨_, _, (List.take_append_drop _ hs).symm, h1, h2, by rw [List.length_take, Nat.min_eq_left (fromN_le _ _ _)]⟩
  have HL := Lib.hid (show hs.length = A.length + R.length by rw [hAR, List.length_append])
  have HAR := Lib.hid hAR
  clear hAR
  obtain ⟨p, cap, rfl, -⟩ := own_slice h.row
  have hfrom := fun u hu => from_c S o _ hs key fr u (h.ext hu) hl
  rw [hN] at hfrom
  have hown := h.own
  have hSlt := h.lt
  go_enter Tryz.func79, Tryz.ntmps79
  go_wp2_with (
    go_at_call 114
    refine (hfrom _ (by first | exact ExtM.refl _ | exact (ExtM.refl _).drew)).mono ?_
    rintro e w1 ⟨rfl, hx1⟩)
  have hst : HRow w1 (.slice p hs.length cap) (metAt A R 0) := by
    have : metAt A R 0 = hs := by unfold metAt; rw [HAR.out]; simp
    rw [this]
    exact h.row.extF hx1
  go_loopg [9, 10] hs.length (fun kx s9 s10 wr => ∃ d : Nat, s10 = .int .i64 ((A.length + d : Nat) : Int) ∧ d ≤ R.length ∧ R.length - d ≤ kx ∧ ExtM (fun k => (Value.slice p hs.length cap).ownBlock = some k) w wr ∧ HRow wr (.slice p hs.length cap) (metAt A R d) ∧ MRow wr w.heap.size s9 (R.take d) ∧ (∀ x ∈ R.take d, meetP key fr to x = true))
  case atStart => exact ⟨0, by simp, Nat.zero_le _, by have := HL.out; omega, hx1.mono (fun _ _ h => h.elim), hst, nil_none _ _, fun x hx => by simp at hx⟩
  case round =>
    obtain ⟨d, rfl, hdl, hgk, hx, hrow, hout, hall⟩ := hrel
    have c0 : wr.cell? ⟨S, o, none⟩ = some (.slice p hs.length cap) := (ExtM.cell hx (p := ⟨S, o, none⟩) hSlt hown).trans h.c0
    by_cases hdn : d < R.length
    · have hat := metAt_get (A := A) hdn
      obtain ⟨g, rfl, hgl, ⟨e0, e1, e2, e3, fz⟩⟩ := hrow.at? _ _ hat
      have hid : A.length + d < hs.length := by have := HL.out; omega
      have hi1 : decide (((A.length + d : Nat) : Int) < (hs.length : Int)) = true := by simp; omega
      have hset := metAt_succ (A := A) hdn
      have htk := List.take_succ_eq_append_getElem hdn
      generalize hR0 : R[d] = x at *
      have HX := Lib.hid hR0
      have HS := Lib.hid hset
      have HT := Lib.hid htk
      have HAT := Lib.hid hat
      generalize hI : A.length + d = i at *
      have HI := Lib.hid hI
      have hxm : x ∈ R := by rw [← hR0]; exact List.getElem_mem hdn
      have hsrt : SortedH R := by have := h.srt; rw [HAR.out] at this; exact (List.pairwise_append.1 this).2.1
      clear hset hat hR0 htk hI
      by_cases hk : x.r.k = key
      · subst hk
        by_cases ht : x.r.t ≤ to
        · have hvo : ∀ k, u9.ownBlock = some k → w.heap.size ≤ k ∧ k < wr.heap.size := fun k hk => own_lt hout k hk
          have hSr : S < wr.heap.size := by have := hx.size; omega
          have hgw : g < w.heap.size := (own_lt h.row g rfl).2
          have hnS : ¬ u9.ownBlock = some S := fun e => by have := hvo _ e; omega
          have hng : ¬ u9.ownBlock = some g := fun e => by have := hvo _ e; omega
          obtain ⟨v', w', happ, hown', hgr, hloc⟩ := run_appendM (wr.drew.alloc (.cells #[.int .i64 x.r.k, .int .i64 x.r.t, .int .i64 x.r.v, .int .i64 x.m] 66)) w.heap.size wr.heap.size 1 u9 (R.take d) x 62
            (own_ext hout ((ExtM.refl wr).drew.alloc _ : Ext wr _) (fun _ _ h => h)) (fun j u hj => (World.cell?_alloc_at (w := wr.drew) _ _ wr.heap.size j rfl).trans (by simpa [Hd.cells] using hj)) (by rw [List.length_take]; have := HL.out; omega) (by have := hx.size; simp; omega)
          go_wp2_with fail
          have hgr' : ExtR u9.ownBlock wr w' := ExtR.trans _ _ _ ((ExtR.refl wr).drew.alloc _) hgr
          refine Plan.begin (Plan.ExtR u9.ownBlock) 21 rfl (by kernel_rfl) ?_
          refine Plan.left_q 0 (by rfl) (by kernel_rfl) ?_; go_big_quiet_step (fail); refine wpQuiet_nil ?_
          refine Plan.left_q 1 (by rfl) (by kernel_rfl) ?_; go_big_quiet_step (fail); refine wpQuiet_nil ?_
          refine Plan.left_q 2 (by rfl) (by kernel_rfl) ?_; go_big_quiet_step (fail); refine wpQuiet_nil ?_
          refine Plan.left_q 3 (by rfl) (by kernel_rfl) ?_; go_big_quiet_step (fail); refine wpQuiet_nil ?_
          refine Plan.left_q 4 (by rfl) (by kernel_rfl) ?_; go_big_quiet_step (fail); refine wpQuiet_nil ?_
          refine Plan.left_q 5 (by rfl) (by kernel_rfl) ?_; go_big_quiet_step (fail); refine wpQuiet_nil ?_
          refine Plan.left_q 6 (by rfl) (by kernel_rfl) ?_; go_big_quiet_step (fail); refine wpQuiet_nil ?_
          refine Plan.left_q 7 (by rfl) (by kernel_rfl) ?_; go_big_quiet_step (fail); refine wpQuiet_nil ?_
          refine Plan.left_q 8 (by rfl) (by kernel_rfl) ?_; go_big_quiet_step (fail); refine wpQuiet_nil ?_
          refine Plan.left_q 9 (by rfl) (by kernel_rfl) ?_; go_big_quiet_step (fail); refine wpQuiet_nil ?_
          refine Plan.left_q 10 (by rfl) (by kernel_rfl) ?_; go_big_quiet_step (fail); refine wpQuiet_nil ?_
          refine Plan.left_q 11 (by rfl) (by kernel_rfl) ?_; go_big_quiet_step (fail); refine wpQuiet_nil ?_
          refine Plan.left_q 12 (by rfl) (by kernel_rfl) ?_; go_big_quiet_step (fail); refine wpQuiet_nil ?_
          refine Plan.left_q 13 (by rfl) (by kernel_rfl) ?_; go_big_quiet_step (fail); refine wpQuiet_nil ?_
          refine Plan.left_q 14 (by rfl) (by kernel_rfl) ?_; go_big_quiet_step (fail); refine wpQuiet_nil ?_
          refine Plan.left_q 15 (by rfl) (by kernel_rfl) ?_; go_big_quiet_step (fail); refine wpQuiet_nil ?_
          refine Plan.left_q 16 (by rfl) (by kernel_rfl) ?_; go_big_quiet_step (fail); refine wpQuiet_nil ?_
          refine Plan.left_q 17 (by rfl) (by kernel_rfl) ?_; go_big_quiet_step (fail); refine wpQuiet_nil ?_
          refine Plan.left_one 18 (by kernel_rfl) (by rfl) (Plan.plain rfl fun K hK => ?_)
          go_wp2_with (fail)
          refine hK _ _ ((ExtM.refl _).alloc _) ?_
          clear hK K
          refine Plan.left_one 19 (by kernel_rfl) (by rfl) (Plan.plain rfl fun K hK => ?_)
          refine wp_append_run (happ) rfl _ _ rfl rfl rfl ?_
          refine hK _ _ (hgr) ?_
          simp only [Act.put, List.setIfInBounds_toArray, List.set_cons_succ, List.set_cons_zero]
          clear hK K
          refine Plan.left_q 20 (by rfl) (by kernel_rfl) ?_; go_big_quiet_step (fail); refine wpQuiet_nil ?_
          refine Plan.left_done (by kernel_rfl) ?_
          have hc := hgr'.rules.1
          have hf := hgr'.rules.2.1
          have c0' : w'.cell? ⟨S, o, none⟩ = _ := (hc _ _ hSr hnS).trans c0
          have e3' : w'.cell? ⟨g, i * 4 + 3, none⟩ = _ := (hc _ _ hgl hng).trans e3
          have fz' := fun q => (hf g q hgl hng).trans (fz q)
          clear hc hf c0 e0 e1 e2 e3 fz happ
          go_wp2_with fail
          go_roundg (R.length - (d + 1))
          case measure => omega
          case rel =>
            have hv' : ∀ k, v'.ownBlock = some k → g ≠ k := fun k hk e => by
              subst e
              rcases hloc with h1 | ⟨k', h1, h2⟩
              · exact hng (h1 ▸ hk)
              · rw [h1] at hk
                have := Option.some.inj hk
                simp at h2; omega
            refine ⟨d + 1, by rw [← HI.out]; rfl, by omega, Nat.le_refl _, ?_, ?_, ?_, ?_⟩
            · exact ExtM.setCell (p := ⟨g, i * 4 + 3, none⟩) (hx.fresh hgr' (fun k hk e => by have := hvo k e; omega)) (.inr rfl) _
            · have := (hrow.ext hgr' (fun k hk e => hng (by rw [← hk] at e; exact e))).setM i x HAT.out (wrap64 (x.m + 1))
              rw [← HS.out]
              exact this
            · rw [HT.out]
              exact own_ext hown' (ExtM.setCell (M := fun k => g = k) (ExtM.refl w') (p := ⟨g, _, none⟩) (.inr rfl) _) hv'
            · rw [HT.out]
              intro y hy
              rcases List.mem_append.1 hy with hy | hy
              · exact hall y hy
              · rw [List.mem_singleton.1 hy]
                exact meet_this (hR x hxm) ht
        · have hd1 : decide (x.r.t ≤ to) = false := by simpa using ht
          go_wp2_with fail
          go_ret
          exact met_exit h hx hrow hout HAR.out hA hall (met_rest hsrt hdn HX.out (hR x hxm) (fun _ => by omega))
      · have hd1 : decide (x.r.k = key) = false := by simpa using hk
        go_wp2_with fail
        go_ret
        exact met_exit h hx hrow hout HAR.out hA hall (met_rest hsrt hdn HX.out (hR x hxm) (fun e => absurd e hk))
    · generalize hI : A.length + d = i at *
      have hd1 : ¬ i < hs.length := by have := HL.out; omega
      clear hI
      go_wp2_with fail
      go_ret
      exact met_exit h hx hrow hout HAR.out hA hall (fun y hy => by rw [List.drop_eq_nil_of_le (by omega)] at hy; cases hy)

theorem meet_c (S o : Nat) (v : Value) (hs : List Hd) (key fr to : Int) (w : World) (h : SideIs w S o v hs) (hl : hs.length < 1000000) :
    Calls Tryz.prog 79 #[.pointer (some ⟨S, o, none⟩), .int .i64 key, .int .i64 fr, .int .i64 to] w fun e w' => Meted w w' S o v hs (meetP key fr to) e := by
  rcases (by omega : to < fr ∨ fr ≤ to) with h1 | h1
  · exact meetNone_c S o v hs key fr to w h h1
  · exact meetSome_c S o v hs key fr to w h h1 hl
end Go.Proofs.YtmcgnnmffeojpaaGreatDoor

-- SideAll
namespace Go.Proofs.YtmcgnnmffeojpaaGreatDoor
open Go.RowKit Go.Plan

set_option maxRecDepth 100000 in
set_option maxHeartbeats 4000000 in
theorem all_c (S o : Nat) (v : Value) (hs : List Hd) (w : World) (h : SideIs w S o v hs) (hl : hs.length < 1000000) :
    Calls Tryz.prog 59 #[.pointer (some ⟨S, o, none⟩)] w fun e w' => ∃ vo, e = .returned vo ∧ MRow w' w.heap.size vo hs ∧ Ext w w' := by
  obtain ⟨p, cap, rfl, -⟩ := own_slice h.row
  have c0 := h.c0
  go_enter Tryz.func59, Tryz.ntmps59
  go_wp2
  go_loopg [3, 11] hs.length (fun kx s3 s11 wr => ∃ d : Nat, s11 = .int .i64 (d : Int) ∧ d ≤ hs.length ∧ hs.length - d ≤ kx ∧ Ext w wr ∧ MRow wr w.heap.size s3 (hs.take d))
  case atStart => exact ⟨0, rfl, Nat.zero_le _, by omega, ExtM.refl _, nil_none _ _⟩
  case round =>
    obtain ⟨d, rfl, hdl, hgk, hx, hout⟩ := hrel
    by_cases hdn : d < hs.length
    · obtain ⟨g, rfl, hgl, ⟨e0, e1, e2, e3, fz⟩⟩ := (h.row.extF hx).at' d hdn
      have HT := Lib.hid (List.take_succ_eq_append_getElem hdn)
      generalize hs[d] = x at *
      have hsz := hx.size
      obtain ⟨v', w', happ, hown', hgr, hloc⟩ := run_appendM ((wr.alloc (.cells #[.int .i64 x.r.k, .int .i64 x.r.t, .int .i64 x.r.v, .int .i64 x.m] 175)).alloc (.cells #[.int .i64 x.r.k, .int .i64 x.r.t, .int .i64 x.r.v, .int .i64 x.m] 66)) w.heap.size (wr.heap.size + 1) 1 u3 (hs.take d) x 62
        (own_ext hout (((ExtM.refl wr).alloc _).alloc _ : Ext wr _) (fun _ _ h => h)) (fun j u hj => (World.cell?_alloc_at _ _ _ j (by simp)).trans (by simpa [Hd.cells] using hj)) (by rw [List.length_take]; omega) (by simp; omega)
      have hx2 : Ext w w' := (hx.fresh (ExtM.trans _ _ _ (((ExtM.refl wr).alloc _).alloc _) hgr) (fun k hk e => by have := own_lt hout k e; omega))
      go_wp2_with (at_builtin; refine wpList_append_run happ rfl rfl _ _ rfl rfl rfl ?_; clear happ)
      go_roundg (hs.length - (d + 1))
      case measure => omega
      case rel => exact ⟨d + 1, rfl, by omega, Nat.le_refl _, hx2, by rw [HT.out]; exact hown'⟩
    · go_wp2_with fail
      go_ret
      exact ⟨_, rfl, by rw [List.take_of_length_le (by omega)] at hout; exact hout, hx⟩
end Go.Proofs.YtmcgnnmffeojpaaGreatDoor
/- slices.IndexFunc, slices.DeleteFunc over held rows, at Side.Drop's closure. -/
namespace Go.Proofs.YtmcgnnmffeojpaaGreatDoor
open Go.RowKit Go.Plan

def dropB (to : Int) (h : Hd) : Bool := decide (h.r.t ≤ to)
/-- Side.Drop's closure, as a value. -/
def dropFn (B : Nat) : Value := .func (.func 112) #[] #[.pointer (some ⟨B, 0, none⟩)]

set_option maxRecDepth 100000 in
theorem dropFn_c (to : Int) (B : Nat) (h : Hd) (w : World) (hB : w.cell? ⟨B, 0, none⟩ = some (.int .i64 to)) :
    Calls Tryz.prog 112 #[.agg #[.int .i64 h.r.k, .int .i64 h.r.t, .int .i64 h.r.v, .int .i64 h.m], .pointer (some ⟨B, 0, none⟩)] w fun e w' => e = .returned (.bool (dropB to h)) ∧ Ext w w' := by
  have hlt : B < w.heap.size := by
    unfold World.cell? at hB
    split at hB
    · rename_i hb; exact (Array.getElem?_eq_some_iff.1 hb).1
    · cases hB
  go_enter Tryz.func112, Tryz.ntmps112
  go_wp2
  go_ret
  exact ⟨rfl, (ExtM.refl _).alloc _⟩

set_option maxRecDepth 100000 in
set_option maxHeartbeats 4000000 in
theorem indexFunc_c (v : Value) (hs : List Hd) (to : Int) (B : Nat) (w : World) (h : HRow w v hs) (hl : hs.length < 1000000) (hB : w.cell? ⟨B, 0, none⟩ = some (.int .i64 to)) :
    Calls Tryz.prog 142 #[v, dropFn B] w fun e w' => Ext w w' ∧ ((e = .returned (.int .i64 (-1)) ∧ ∀ x ∈ hs, dropB to x = false) ∨ ∃ (k : Nat) (x : Hd), e = .returned (.int .i64 k) ∧ hs[k]? = some x ∧ k < hs.length ∧ dropB to x = true ∧ ∀ y ∈ hs.take k, dropB to y = false) := by
  have hBl : B < w.heap.size := by
    unfold World.cell? at hB
    split at hB
    · rename_i hb; exact (Array.getElem?_eq_some_iff.1 hb).1
    · cases hB
  obtain ⟨p, cap, rfl, -⟩ := own_slice h
  unfold dropFn
  go_enter Tryz.func142, Tryz.ntmps142
  go_wp2
  go_loopg [8] hs.length (fun kx s8 wr => ∃ d : Nat, s8 = .int .i64 (d : Int) ∧ d ≤ hs.length ∧ hs.length - d ≤ kx ∧ Ext w wr ∧ (∀ y ∈ hs.take d, dropB to y = false))
  case atStart => exact ⟨0, rfl, Nat.zero_le _, by omega, ExtM.refl _, fun y hy => by simp at hy⟩
  case round =>
    obtain ⟨d, rfl, hdl, hgk, hx, hall⟩ := hrel
    have hB' := (hx.cell (p := ⟨B, 0, none⟩) hBl (fun h => h)).trans hB
    by_cases hdn : d < hs.length
    · obtain ⟨g, rfl, hgl, ⟨e0, e1, e2, e3, fz⟩⟩ := (h.extF hx).at' d hdn
      have hcl := dropFn_c to B hs[d] wr hB'
      have HT := Lib.hid (List.take_succ_eq_append_getElem hdn)
      have HD := Lib.hid (List.getElem?_eq_getElem hdn)
      generalize hs[d] = x at *
      cases hq : dropB to x with
      | true =>
        rw [hq] at hcl
        go_wp2_with (go_at_call 112; refine hcl.mono ?_; rintro e w1 ⟨rfl, hx1⟩)
        go_ret
        exact ⟨ExtM.trans _ _ _ hx hx1, .inr ⟨d, x, rfl, HD.out, hdn, hq, hall⟩⟩
      | false =>
        rw [hq] at hcl
        go_wp2_with (go_at_call 112; refine hcl.mono ?_; rintro e w1 ⟨rfl, hx1⟩)
        go_roundg (hs.length - (d + 1))
        case measure => omega
        case rel =>
          refine ⟨d + 1, rfl, by omega, Nat.le_refl _, ExtM.trans _ _ _ hx hx1, fun y hy => ?_⟩
          rw [HT.out] at hy
          rcases List.mem_append.1 hy with hy | hy
          · exact hall y hy
          · rw [List.mem_singleton.1 hy]; exact hq
    · go_wp2_with fail
      go_ret
      rw [List.take_of_length_le (by omega)] at hall
      exact ⟨hx, .inl ⟨rfl, hall⟩⟩
end Go.Proofs.YtmcgnnmffeojpaaGreatDoor
/- slices.DeleteFunc over held rows; Side.Drop. -/
namespace Go.Proofs.YtmcgnnmffeojpaaGreatDoor
open Go.RowKit Go.Plan

def zeroH : List Value := [.int .i64 0, .int .i64 0, .int .i64 0, .int .i64 0]
theorem zeroVH (w : World) : (zeroValue 175).run Tryz.prog w = .ok (.agg #[.int .i64 0, .int .i64 0, .int .i64 0, .int .i64 0]) w := by kernel_rfl

/-- 'clear' of rows. -/
theorem run_clear_h (w : World) (b o n c : Nat) (hn : 0 < n) (hc : ∀ j, j < n * 4 → (w.cell? ⟨b, o + j, none⟩).isSome = true) (hf : ∀ j, j < n * 4 → w.frozen? ⟨b, o + j, none⟩ = false) :
    ∃ zs, zs.length = n * 4 ∧ ∀ ty, (Builtin.clear_ #[125] ty #[.slice (some ⟨b, o, none⟩) n c]).run Tryz.prog w = .ok (.tuple #[]) (w.setCells b o zs) := by
  have hl : (Builtin.zeroCells (Value.agg #[.int .i64 0, .int .i64 0, .int .i64 0, .int .i64 0]).cells n).toList.length = n * 4 := by
    rw [Array.length_toList]; exact zero_size n
  refine ⟨_, hl, fun ty => ?_⟩
  have h1 : ∀ v ∈ (Builtin.zeroCells (Value.agg #[.int .i64 0, .int .i64 0, .int .i64 0, .int .i64 0]).cells n).toList, v.oneCell' = true := by
    intro v hv
    simp [Builtin.zeroCells, Value.cells] at hv
    obtain ⟨a, -, rfl⟩ := hv
    have : a % 4 < 4 := Nat.mod_lt _ (by decide)
    generalize a % 4 = q at *
    match q, this with
    | 0, _ => rfl
    | 1, _ => rfl
    | 2, _ => rfl
    | 3, _ => rfl
  have hst := run_storeCells_cells (P := Tryz.prog) b o _ 0 w (by rw [hl]; simpa using hc) (by rw [hl]; simpa using hf) h1
  simp only [Nat.add_zero] at hst
  obtain ⟨m, rfl⟩ : ∃ m, n = m + 1 := ⟨n - 1, by omega⟩
  have hu := run_underlying (w := w) Tryz.underlying125
  simp [Builtin.clear_, hu, hst]

theorem HRow.set0 {w : World} {g n cap : Nat} {hs : List Hd} (h : HRow w (.slice (some ⟨g, 0, none⟩) n cap) hs) (j : Nat) (x : Hd) (hj : hs[j]? = some x) (m : Int) : HRow (w.setCell ⟨g, j * 4, none⟩ (.int .i64 m)) (.slice (some ⟨g, 0, none⟩) n cap) (hs.set j ⟨⟨m, x.r.t, x.r.v⟩, x.m⟩) := by
  obtain ⟨hj', rfl⟩ := List.getElem?_eq_some_iff.1 hj
  obtain ⟨p', cap', he, -⟩ := own_slice h
  injection he with h1 h2 h3
  subst h2
  exact own_setCell hd_len h j 0 hj' (by decide) _ _ rfl
theorem HRow.set1 {w : World} {g n cap : Nat} {hs : List Hd} (h : HRow w (.slice (some ⟨g, 0, none⟩) n cap) hs) (j : Nat) (x : Hd) (hj : hs[j]? = some x) (m : Int) : HRow (w.setCell ⟨g, j * 4 + 1, none⟩ (.int .i64 m)) (.slice (some ⟨g, 0, none⟩) n cap) (hs.set j ⟨⟨x.r.k, m, x.r.v⟩, x.m⟩) := by
  obtain ⟨hj', rfl⟩ := List.getElem?_eq_some_iff.1 hj
  obtain ⟨p', cap', he, -⟩ := own_slice h
  injection he with h1 h2 h3
  subst h2
  exact own_setCell hd_len h j 1 hj' (by decide) _ _ rfl
theorem HRow.set2 {w : World} {g n cap : Nat} {hs : List Hd} (h : HRow w (.slice (some ⟨g, 0, none⟩) n cap) hs) (j : Nat) (x : Hd) (hj : hs[j]? = some x) (m : Int) : HRow (w.setCell ⟨g, j * 4 + 2, none⟩ (.int .i64 m)) (.slice (some ⟨g, 0, none⟩) n cap) (hs.set j ⟨⟨x.r.k, x.r.t, m⟩, x.m⟩) := by
  obtain ⟨hj', rfl⟩ := List.getElem?_eq_some_iff.1 hj
  obtain ⟨p', cap', he, -⟩ := own_slice h
  injection he with h1 h2 h3
  subst h2
  exact own_setCell hd_len h j 2 hj' (by decide) _ _ rfl
theorem HRow.setAll {w : World} {g n cap : Nat} {hs : List Hd} (h : HRow w (.slice (some ⟨g, 0, none⟩) n cap) hs) (j : Nat) (hj : j < hs.length) (y : Hd) :
    HRow ((((w.setCell ⟨g, j * 4, none⟩ (.int .i64 y.r.k)).setCell ⟨g, j * 4 + 1, none⟩ (.int .i64 y.r.t)).setCell ⟨g, j * 4 + 2, none⟩ (.int .i64 y.r.v)).setCell ⟨g, j * 4 + 3, none⟩ (.int .i64 y.m)) (.slice (some ⟨g, 0, none⟩) n cap) (hs.set j y) := by
  have g1 : ∀ (l : List Hd) (z : Hd), l.length = hs.length → (l.set j z)[j]? = some z := fun l z hl => by rw [List.getElem?_set_self (by omega)]
  have h1 := h.set0 j _ (List.getElem?_eq_getElem hj) y.r.k
  have h2 := h1.set1 j _ (g1 _ _ rfl) y.r.t
  have h3 := h2.set2 j _ (g1 _ _ (by simp)) y.r.v
  have h4 := h3.setM j _ (g1 _ _ (by simp)) y.m
  simp only [List.set_set] at h4
  exact h4

set_option maxRecDepth 100000 in
set_option maxHeartbeats 4000000 in
theorem deleteFunc_c (g cap : Nat) (hs : List Hd) (to : Int) (B : Nat) (w : World) (h : HRow w (.slice (some ⟨g, 0, none⟩) hs.length cap) hs) (hl : hs.length < 1000000) (hB : w.cell? ⟨B, 0, none⟩ = some (.int .i64 to)) (hBg : B ≠ g) :
    Calls Tryz.prog 111 #[.slice (some ⟨g, 0, none⟩) hs.length cap, dropFn B] w fun e w' => ∃ n, e = .returned (.slice (some ⟨g, 0, none⟩) n cap) ∧ HRow w' (.slice (some ⟨g, 0, none⟩) n cap) (hs.filter (fun x => !dropB to x)) ∧ ExtM (fun k => k = g) w w' := by
  have hif := indexFunc_c _ hs to B w h hl hB
  have hBl : B < w.heap.size := by
    unfold World.cell? at hB
    split at hB
    · rename_i hb; exact (Array.getElem?_eq_some_iff.1 hb).1
    · cases hB
  have hdf : dropFn B = .func (.func 112) #[] #[.pointer (some ⟨B, 0, none⟩)] := rfl
  go_enter Tryz.func111, Tryz.ntmps111
  go_wp2_with (go_at_call 142; refine hif.mono ?_; rintro e w1 ⟨hx1, ⟨rfl, hno⟩ | ⟨k, x, rfl, hk, hkl, hdx, hpre⟩⟩)
  · go_ret
    refine ⟨hs.length, rfl, ?_, hx1.mono (fun _ _ h => h.elim)⟩
    rw [List.filter_eq_self.2 (fun a ha => by rw [hno a ha]; rfl)]
    exact h.extF hx1
  · have hst : hs.take k = (hs.take (k + 1)).filter (fun x => !dropB to x) := by
      obtain ⟨_, rfl⟩ := List.getElem?_eq_some_iff.1 hk
      rw [List.take_succ_eq_append_getElem hkl, List.filter_append, List.filter_eq_self.2 (fun a ha => by rw [hpre a ha]; rfl), List.filter_eq_nil_iff.2 (fun a ha => by rw [List.mem_singleton.1 ha, hdx]; decide), List.append_nil]
    have hr1 := h.extF hx1
    go_loopg [5, 6] hs.length (fun kx s5 s6 wr => ∃ (i j : Nat) (cur : List Hd), s5 = .int .i64 (i : Int) ∧ s6 = .int .i64 (j : Int) ∧ i < j ∧ j ≤ hs.length ∧ hs.length - j ≤ kx ∧ HRow wr (.slice (some ⟨g, 0, none⟩) hs.length cap) cur ∧ cur.take i = (hs.take j).filter (fun x => !dropB to x) ∧ cur.drop j = hs.drop j ∧ ExtM (fun k => k = g) w wr)
    case atStart => exact ⟨k, k + 1, hs, rfl, by go_num, by omega, by omega, by omega, hr1, hst, rfl, hx1.mono (fun _ _ h => h.elim)⟩
    case round =>
      obtain ⟨i, j, cur, rfl, rfl, hij, hjn, hgk, hrow, htk, hdr, hx⟩ := hrel
      have hlen : cur.length = hs.length := hrow.len.symm
      have HL := Lib.hid hlen
      clear hlen
      by_cases hjl : j < hs.length
      · have hcj : cur[j]? = some (hs[j]'hjl) := by
          have := congrArg List.head? hdr
          rw [List.head?_drop, List.head?_drop, List.getElem?_eq_getElem hjl] at this
          exact this
        obtain ⟨g', hg', hgl, ⟨e0, e1, e2, e3, fz⟩⟩ := hrow.at? _ _ hcj
        obtain rfl : g = g' := by injection hg' with hg'; injection hg'
        clear hg'
        have HT := Lib.hid (List.take_succ_eq_append_getElem hjl)
        have HC := Lib.hid hcj
        have HTK := Lib.hid htk
        have HDR := Lib.hid hdr
        generalize hs[j] = x at *
        clear hcj htk hdr
        have hB' : ∀ u, ExtM (fun k => k = g) w u → u.cell? ⟨B, 0, none⟩ = some (.int .i64 to) := fun u hu => (hu.cell (p := ⟨B, 0, none⟩) hBl hBg).trans hB
        have hd2 : HRow wr (.slice (some ⟨g, 0, none⟩) hs.length cap) cur := hrow
        have hcl := dropFn_c to B x (wr.alloc (.cells #[.int .i64 x.r.k, .int .i64 x.r.t, .int .i64 x.r.v, .int .i64 x.m] 175)) (hB' _ (hx.alloc _))
        have htk' : ∀ b, dropB to x = b → (hs.take (j + 1)).filter (fun x => !dropB to x) = if b = true then cur.take i else cur.take i ++ [x] := fun b hb => by
          rw [HT.out, List.filter_append, ← HTK.out]
          cases b <;> simp [hb]
        have hdr' : ∀ c : List Hd, c.drop j = hs.drop j → c.drop (j + 1) = hs.drop (j + 1) := fun c hc => by
          have := congrArg (List.drop 1) hc
          rwa [List.drop_drop, List.drop_drop] at this
        have HF := Lib.hid htk'
        have HD2 := Lib.hid hdr'
        clear htk' hdr' hif hk hdx hpre hst hr1 hd2 h hB
        cases hq : dropB to x with
        | true =>
          rw [hq] at hcl
          have HQ := Lib.hid hq
          clear hq
          go_wp2_with (go_at_call 112; refine hcl.mono ?_; rintro e w2 ⟨rfl, hx2⟩)
          have hx2' : Ext wr w2 := ExtM.trans _ _ _ ((ExtM.refl wr).alloc _) hx2
          go_roundg (hs.length - (j + 1))
          case measure => omega
          case rel =>
            exact ⟨i, j + 1, cur, rfl, by go_num, by omega, by omega, Nat.le_refl _, hrow.extF hx2', by rw [HF.out _ HQ.out, if_pos rfl], HD2.out cur HDR.out, ExtM.trans _ _ _ hx (hx2'.mono (fun _ _ h => h.elim))⟩
        | false =>
          rw [hq] at hcl
          have HQ := Lib.hid hq
          clear hq
          obtain ⟨y, hy⟩ : ∃ y, cur[i]? = some y := ⟨_, List.getElem?_eq_getElem (by have := HL.out; omega)⟩
          obtain ⟨g', hg', -, ⟨f0, f1, f2, f3, -⟩⟩ := hrow.at? _ _ hy
          obtain rfl : g = g' := by injection hg' with hg'; injection hg'
          have HY := Lib.hid hy
          clear hg' hy
          go_wp2_with (
            go_at_call 112
            refine hcl.mono ?_
            rintro e w2 ⟨rfl, hx2⟩
            have hx2' : Ext wr w2 := ExtM.trans _ _ _ ((ExtM.refl wr).alloc _) hx2
            have b0 : w2.cell? ⟨wr.heap.size, 0, none⟩ = some (.int .i64 x.r.k) := (hx2.rules.1 _ _ (by simp)).trans (by go_simp)
            have b1 : w2.cell? ⟨wr.heap.size, 1, none⟩ = some (.int .i64 x.r.t) := (hx2.rules.1 _ _ (by simp)).trans (by go_simp)
            have b2 : w2.cell? ⟨wr.heap.size, 2, none⟩ = some (.int .i64 x.r.v) := (hx2.rules.1 _ _ (by simp)).trans (by go_simp)
            have b3 : w2.cell? ⟨wr.heap.size, 3, none⟩ = some (.int .i64 x.m) := (hx2.rules.1 _ _ (by simp)).trans (by go_simp)
            have q0 := (hx2'.rules.1 _ _ hgl).trans f0
            have q1 := (hx2'.rules.1 _ _ hgl).trans f1
            have q2 := (hx2'.rules.1 _ _ hgl).trans f2
            have q3 := (hx2'.rules.1 _ _ hgl).trans f3
            have qz : ∀ o, w2.frozen? ⟨g, o, none⟩ = false := fun o => (hx2'.rules.2.1 _ _ hgl).trans (fz o))
          go_roundg (hs.length - (j + 1))
          case measure => omega
          case rel =>
            have hil : i < cur.length := by have := HL.out; omega
            have h5 := (hrow.extF hx2').setAll i hil x
            refine ⟨i + 1, j + 1, cur.set i x, by go_num, by go_num, by omega, by omega, Nat.le_refl _, h5, ?_, ?_, ?_⟩
            · rw [HF.out _ HQ.out, if_neg (by decide), List.take_set, List.take_succ_eq_append_getElem hil, List.set_append_right _ _ (by rw [List.length_take]; omega), List.length_take, show i - min i cur.length = 0 by omega]
              rfl
            · refine HD2.out _ ?_
              rw [List.drop_set_of_lt (by omega)]
              exact HDR.out
            · have h6 : ExtM (fun k => k = g) w w2 := ExtM.trans _ _ _ hx (hx2'.mono (fun _ _ h => h.elim))
              exact ExtM.setCell (p := ⟨g, _, none⟩) (ExtM.setCell (p := ⟨g, _, none⟩) (ExtM.setCell (p := ⟨g, _, none⟩) (ExtM.setCell (p := ⟨g, _, none⟩) h6 (.inr rfl) _) (.inr rfl) _) (.inr rfl) _) (.inr rfl) _
      · have hjn2 : j = hs.length := by omega
        rw [hjn2, List.take_length] at htk
        have HJ := Lib.hid hjn2
        have HTK := Lib.hid htk
        clear htk hdr hjn2 hst hr1 hpre hdx hk hif
        have hin : i < hs.length := by omega
        obtain ⟨cap', f, hcap', hg, hnc, hc63, hf⟩ : ∃ cap' f, cap' = cap ∧ wr.rowIs g 175 (cap' * 4) f ∧ cur.length ≤ cap' ∧ cap' ≤ maxLen ∧ ∀ j, j < cur.length * 4 → (cur.flatMap Hd.cells)[j]? = some (f j) := by
          rcases rowIs_of_own hrow with ⟨h1, -⟩ | ⟨g', cap', f, h1, -, hg, hnc, hc63, hf⟩
          · cases h1
          injection h1 with h1 h2 h3
          injection h1 with h1
          injection h1 with h1
          subst h1
          exact ⟨cap', f, h3.symm, hg, hnc, hc63, hf⟩
        subst hcap'
        have hnc' : hs.length ≤ cap' := by have := HL.out; omega
        obtain ⟨zs, hzl, hcl⟩ := run_clear_h wr g (i * 4) (hs.length - i) (cap' - i) (by omega) (fun j hj => by rw [hg.cell (by omega)]; rfl) (fun j _ => hg.frozen _)
        have hg2 := rowIs_setCells zs (i * 4) wr f hg
        have hx2 : ExtM (fun k => k = g) w (wr.setCells g (i * 4) zs) := ExtM.trans _ _ _ hx (ext_setCells' _ _ _ _)
        have hP : HRow (wr.setCells g (i * 4) zs) (.slice (some ⟨g, 0, none⟩) i cap') (hs.filter (fun x => !dropB to x)) := by
          have hli : (cur.take i).length = i := by rw [List.length_take]; have := HL.out; omega
          rw [← HTK.out]
          unfold HRow
          rw [hli]
          refine own_of_rowIs hg2 (Nat.zero_le _) (by omega) hc63 (by rw [hds_len, hli]) (fun q hq => ?_)
          rw [if_neg (by omega), flat_take hd_len, List.getElem?_take_of_lt hq]
          exact hf q (by have := HL.out; omega)
        clear hg2 hg hf
        unfold maxLen at hc63
        go_wp2_with fail
        all_goals
          go_ret
          exact ⟨i, rfl, hP, hx2⟩

/-- The rows behind a Drop. -/
def dropL (to : Int) (hs : List Hd) : List Hd := hs.filter (fun x => !dropB to x)

theorem nilRow (w : World) : HRow w (.slice none 0 0) [] := ⟨rfl, .inl ⟨rfl, rfl⟩⟩

set_option maxRecDepth 100000 in
set_option maxHeartbeats 4000000 in
theorem deleteFunc_any (v : Value) (hs : List Hd) (to : Int) (B : Nat) (w : World) (h : HRow w v hs) (hl : hs.length < 1000000) (hB : w.cell? ⟨B, 0, none⟩ = some (.int .i64 to)) (hBg : v.ownBlock ≠ some B) :
    Calls Tryz.prog 111 #[v, dropFn B] w fun e w' => ∃ v', e = .returned v' ∧ v'.ownBlock = v.ownBlock ∧ HRow w' v' (dropL to hs) ∧ ExtM (fun k => v.ownBlock = some k) w w' := by
  rcases h.2 with ⟨rfl, h0⟩ | ⟨g, cap, cur, rfl, -⟩
  · obtain rfl := List.eq_nil_of_length_eq_zero h0
    have hif := indexFunc_c _ [] to B w h (by simp) hB
    have hdf : dropFn B = .func (.func 112) #[] #[.pointer (some ⟨B, 0, none⟩)] := rfl
    go_enter Tryz.func111, Tryz.ntmps111
    go_wp2_with (go_at_call 142; refine hif.mono ?_; rintro e w1 ⟨hx1, ⟨rfl, hno⟩ | ⟨k, x, rfl, hk, -⟩⟩)
    · go_ret
      exact ⟨_, rfl, rfl, nilRow _, hx1.mono (fun _ _ h => h.elim)⟩
  · exact (deleteFunc_c g cap hs to B w h hl hB (fun e => hBg (by rw [e]; rfl))).mono fun e w' ⟨n, he, hr, hx⟩ => ⟨_, he, rfl, hr, hx.mono (fun k _ e => by rw [e]; rfl)⟩

set_option maxRecDepth 100000 in
set_option maxHeartbeats 4000000 in
theorem drop_c (S o : Nat) (v : Value) (hs : List Hd) (to : Int) (w : World) (h : SideIs w S o v hs) (hl : hs.length < 1000000) :
    Calls Tryz.prog 73 #[.pointer (some ⟨S, o, none⟩), .int .i64 to] w fun e w' => e = .returned (.int .i64 ((hs.length - (dropL to hs).length : Nat) : Int)) ∧ SideUp w w' S o v (dropL to hs) := by
  have hle : (dropL to hs).length ≤ hs.length := List.length_filter_le _ _
  have hlt := h.lt
  have hx1 : Ext w (w.alloc (.cells #[.int .i64 to] 3)) := (ExtM.refl w).alloc _
  have h1 := h.ext hx1
  have c0 := h.c0
  have fz := h.fz
  have hdel := deleteFunc_any v hs to w.heap.size _ h1.row hl (by go_simp) (h.row.ne (Nat.le_refl _))
  have hdf : dropFn w.heap.size = .func (.func 112) #[] #[.pointer (some ⟨w.heap.size, 0, none⟩)] := rfl
  obtain ⟨p, cap, rfl, -⟩ := own_slice h.row
  have hown := h.own
  have h0 := h
  clear h h1
  go_enter Tryz.func73, Tryz.ntmps73
  go_wp2_with (
    go_at_call 111
    refine hdel.mono ?_
    rintro e w2 ⟨v', rfl, hvo, hr, hx⟩
    have hx3 := ExtM.trans _ _ _ (hx1.mono (fun _ _ h => h.elim)) hx
    have c2 := (ExtM.cell hx3 (p := ⟨S, o, none⟩) hlt hown).trans c0
    have f2 := (ExtM.frozen hx3 (p := ⟨S, o, none⟩) hlt hown).trans fz
    obtain ⟨p2, cap2, rfl, -⟩ := own_slice hr
    clear hx)
  go_ret
  exact ⟨by rw [Int.ofNat_sub hle]; rfl, side_set h0 hx3 hr (.inl hvo) (h0.srt.sublist List.filter_sublist)⟩
end Go.Proofs.YtmcgnnmffeojpaaGreatDoor
/- A relation that knows of one block alone; a side is what it was where nothing of it has turned. -/
namespace Go.Plan
/-- Nothing is known but that block B has not turned. -/
def ExtK (B : Nat) (w w' : World) : Prop := ExtM (fun k => ¬ k = B) w w'
theorem ExtK.refl {B : Nat} (w : World) : ExtK B w w := ExtM.refl w
theorem ExtK.trans {B : Nat} (a b c : World) (h : ExtK B a b) (k : ExtK B b c) : ExtK B a c := ExtM.trans _ _ _ h k
instance {B : Nat} : Std.Refl (ExtK B) := ⟨ExtK.refl⟩
instance {B : Nat} : Trans (ExtK B) (ExtK B) (ExtK B) := ⟨fun h k => ExtK.trans _ _ _ h k⟩
theorem ExtK.of_ext {B : Nat} {w w' : World} (h : Ext w w') : ExtK B w w' := ExtM.mono h (fun _ _ h => h.elim)
theorem ExtK.drew {B : Nat} {a w : World} (h : ExtK B a w) : ExtK B a w.drew := ExtM.drew h
theorem ExtK.alloc {B : Nat} {a w : World} (h : ExtK B a w) (o : Obj) : ExtK B a (w.alloc o) := ExtM.alloc h o
theorem ExtK.size {B : Nat} {w w' : World} (h : ExtK B w w') : w.heap.size ≤ w'.heap.size := ExtM.size h
theorem ExtK.rules {B : Nat} {w w' : World} (h : ExtK B w w') : (∀ o, B < w.heap.size → w'.cell? ⟨B, o, none⟩ = w.cell? ⟨B, o, none⟩) ∧ (∀ o, B < w.heap.size → w'.frozen? ⟨B, o, none⟩ = w.frozen? ⟨B, o, none⟩) ∧ True :=
  ⟨fun o hb => ExtM.cell h (p := ⟨B, o, none⟩) hb (fun h => h rfl), fun o hb => ExtM.frozen h (p := ⟨B, o, none⟩) hb (fun h => h rfl), trivial⟩
@[go_sem] theorem cell?_extK (B : Nat) (w p : World) (o : Nat) (hb : B < w.heap.size) : (Plan.ext (ExtK B) w p).cell? ⟨B, o, none⟩ = w.cell? ⟨B, o, none⟩ :=
  (ext_E ExtK.refl w p).rules.1 o hb
@[go_sem] theorem frozen?_extK (B : Nat) (w p : World) (o : Nat) (hb : B < w.heap.size) : (Plan.ext (ExtK B) w p).frozen? ⟨B, o, none⟩ = w.frozen? ⟨B, o, none⟩ :=
  (ext_E ExtK.refl w p).rules.2.1 o hb
@[go_sem] theorem cell?_extK_drew (B : Nat) (w p : World) (o : Nat) (hb : B < w.heap.size) : (Plan.ext (ExtK B) w.drew p).cell? ⟨B, o, none⟩ = w.cell? ⟨B, o, none⟩ := cell?_extK B w.drew p o hb
@[go_sem] theorem frozen?_extK_drew (B : Nat) (w p : World) (o : Nat) (hb : B < w.heap.size) : (Plan.ext (ExtK B) w.drew p).frozen? ⟨B, o, none⟩ = w.frozen? ⟨B, o, none⟩ := frozen?_extK B w.drew p o hb
end Go.Plan
namespace Go.Proofs.YtmcgnnmffeojpaaGreatDoor
open Go.RowKit Go.Plan

theorem SideIs.extM {M : Nat → Prop} {w w' : World} {S o : Nat} {v : Value} {hs : List Hd} (h : SideIs w S o v hs) (hx : ExtM M w w') (hS : ¬ M S) (hr : ∀ k, v.ownBlock = some k → ¬ M k) : SideIs w' S o v hs :=
  ⟨(hx.cell (p := ⟨S, o, none⟩) h.lt hS).trans h.c0, (hx.frozen (p := ⟨S, o, none⟩) h.lt hS).trans h.fz, h.row.ext hx hr, h.srt, h.own⟩
theorem lt_of_cell {w : World} {b o : Nat} {u : Value} (h : w.cell? ⟨b, o, none⟩ = some u) : b < w.heap.size := by
  unfold World.cell? at h
  split at h
  · rename_i hb; exact (Array.getElem?_eq_some_iff.1 hb).1
  · cases h
theorem mrow_cells {w : World} {b : Nat} {v : Value} {L : List Hd} (h : MRow w b v L) (x : Nat) (X : Hd) (hx : L[x]? = some X) :
    ∃ g cap, v = .slice (some ⟨g, 0, none⟩) L.length cap ∧ g < w.heap.size ∧ w.cell? ⟨g, x * 4, none⟩ = some (.int .i64 X.r.k) ∧ w.cell? ⟨g, x * 4 + 1, none⟩ = some (.int .i64 X.r.t) ∧ w.cell? ⟨g, x * 4 + 2, none⟩ = some (.int .i64 X.r.v) ∧ w.cell? ⟨g, x * 4 + 3, none⟩ = some (.int .i64 X.m) := by
  obtain ⟨hlt, rfl⟩ := List.getElem?_eq_some_iff.1 hx
  obtain ⟨g, cap, rfl, hg, h0, -⟩ := own_cell (enc := Hd.cells) hd_len h x 0 hlt (by omega)
  have hk : ∀ c, c < 4 → w.cell? ⟨g, x * 4 + c, none⟩ = (L[x].cells)[c]? := fun c hc => by
    obtain ⟨g', cap', e1, -, e2, -⟩ := own_cell (enc := Hd.cells) hd_len h x c hlt hc
    simp only [Value.slice.injEq, Option.some.injEq, Addr.mk.injEq, and_true, true_and] at e1
    rw [e1.1]; exact e2
  exact ⟨g, cap, rfl, hg, hk 0 (by omega), hk 1 (by omega), hk 2 (by omega), hk 3 (by omega)⟩
end Go.Proofs.YtmcgnnmffeojpaaGreatDoor
namespace Go.Proofs.YtmcgnnmffeojpaaGreatDoor
open Go.RowKit Go.Plan

def pairO (l r : Row) : Out := ⟨l.k, l, r, true, true⟩
def loneS (s : Nat) (r : Row) : Out := if s = 0 then ⟨r.k, r, ⟨0, 0, 0⟩, true, false⟩ else ⟨r.k, ⟨0, 0, 0⟩, r, false, true⟩
def tellsB (md : Int) (s : Nat) : Bool := if s = 0 then decide (md = 1) || decide (md = 3) else decide (md = 2) || decide (md = 3)
/-- From which time on a row of a side meets those of the other one; until which. -/
def frI (lo hi : Int) (s : Nat) (t : Int) : Int := if s = 0 then t + lo else t - hi
def tilI (lo hi : Int) (s : Nat) (t : Int) : Int := if s = 0 then t + hi else t - lo
/-- What a row that is met changes. -/
def chg1 (md : Int) (s : Nat) (r : Row) (m : Hd) : List (Out × Bool) :=
  (if m.m = 0 ∧ tellsB md (1 - s) = true then [(loneS (1 - s) m.r, true)] else []) ++ [(if s = 0 then pairO r m.r else pairO m.r r, false)]
/-- What a row changes that meets these. -/
def chgs (md : Int) (s : Nat) (r : Row) (ms : List Hd) : List (Out × Bool) :=
  ms.flatMap (chg1 md s r) ++ (if ms = [] ∧ tellsB md s = true then [(loneS s r, false)] else [])
/-- Both sides of a join, how far they are, how many were late. -/
structure JSt where
  a : List Hd
  b : List Hd
  x : Int
  y : Int
  late : Int
def JSt.of (st : JSt) (s : Nat) : List Hd := if s = 0 then st.a else st.b
def JSt.at (st : JSt) (s : Nat) : Int := if s = 0 then st.x else st.y
def JSt.put (st : JSt) (s : Nat) (l : List Hd) : JSt := if s = 0 then { st with a := l } else { st with b := l }
/-- What Feed answers, and what it leaves. -/
def feedE (lo hi : Int) (s : Nat) (r : Row) (x y : Int) (own : Nat) : Int :=
  if goodB r.k r.t r.v = false then 1
  else if r.t ≤ (if s = 0 then x else y) then 10
  else if tilI lo hi s r.t > (if s = 0 then y else x) ∧ 300 ≤ own then 12 else 0
def feedC (lo hi md : Int) (s : Nat) (r : Row) (st : JSt) : List (Out × Bool) :=
  if feedE lo hi s r st.x st.y (st.of s).length = 0 then chgs md s r ((st.of (1 - s)).filter (meetP r.k (frI lo hi s r.t) (tilI lo hi s r.t))) else []
def feedJ (lo hi : Int) (s : Nat) (r : Row) (st : JSt) : JSt :=
  let e := feedE lo hi s r st.x st.y (st.of s).length
  if e = 10 then { st with late := wrap64 (st.late + 1) }
  else if e = 0 then
    let p := meetP r.k (frI lo hi s r.t) (tilI lo hi s r.t)
    let st1 := st.put (1 - s) ((st.of (1 - s)).map (bumpIf p))
    if tilI lo hi s r.t > st.at (1 - s) then st1.put s (addH (st1.of s) ⟨r, (((st.of (1 - s)).filter p).length : Nat)⟩) else st1
  else st
def putJ (s : Nat) (x : Hd) (st : JSt) : JSt := st.put s (addL (st.of s) x)
def moveJ (lo hi : Int) (s : Nat) (t : Int) (st : JSt) : JSt :=
  if s = 0 then { st with x := t, b := st.b.filter (fun h => decide (tilI lo hi 1 h.r.t > t)) } else { st with y := t, a := st.a.filter (fun h => decide (tilI lo hi 0 h.r.t > t)) }
theorem move0_drop (lo hi t : Int) (hs : List Hd) : hs.filter (fun h => decide (tilI lo hi 1 h.r.t > t)) = dropL (t + lo) hs := by
  unfold dropL dropB tilI
  congr 1
  funext h
  simp only [if_neg (show ¬ (1 : Nat) = 0 by decide)]
  rw [← decide_not]
  exact decide_eq_decide.2 (by omega)
theorem move1_drop (lo hi t : Int) (hs : List Hd) : hs.filter (fun h => decide (tilI lo hi 0 h.r.t > t)) = dropL (t - hi) hs := by
  unfold dropL dropB tilI
  congr 1
  funext h
  simp only [if_true]
  rw [← decide_not]
  exact decide_eq_decide.2 (by omega)
end Go.Proofs.YtmcgnnmffeojpaaGreatDoor
