/- Side.Meet, Side.All. Side.All. -/
import Derived.Test.YtmcgnnmffeojpaaGreatDoorPk11
import Derived.Test.YtmcgnnmffeojpaaGreatDoorPk12
-- Meet
namespace Go.Proofs.YtmcgnnmffeojpaaGreatDoor
open Go.RowKit Go.Plan

/-- The slice v owns these, as Mets. -/
def MRow (w : World) (base : Nat) (v : Value) (ms : List Hd) : Prop := w.ownsRow base 66 4 v ms.length (ms.flatMap Hd.cells)
theorem infoMet : (Tryz.prog.info? 66).map (fun i => (i.zero, i.size, i.bytes)) = some (some (.agg #[.int .i64 0, .int .i64 0, .int .i64 0, .int .i64 0]), 4, 32) := by kernel_rfl

theorem run_appendM (W : World) (base nb c : Nat) (v : Value) (acc : List Hd) (x : Hd) (ty : TypeId) (hown : MRow W base v acc) (hx : ∀ j u, x.cells[j]? = some u → W.cell? ⟨nb, j, none⟩ = some u) (hl : acc.length < 1000000) (hb : base ≤ W.heap.size) :
    ∃ v' w', (Builtin.append_ #[62, 62] ty #[v, .slice (some ⟨nb, 0, none⟩) 1 c]).run Tryz.prog W = .ok v' w' ∧ MRow w' base v' (acc ++ [x]) ∧ ExtR v.ownBlock W w' ∧ (v'.ownBlock = v.ownBlock ∨ ∃ k, v'.ownBlock = some k ∧ W.heap.size ≤ k) :=
  run_appendK hd_len hd_one 62 _ 32 infoMet rfl (by decide) Tryz.underlying62 (by decide) W base nb c v acc x ty hown hx hl hb

/-- A row is of a key, and its time from one to another. -/
def meetP (key fr to : Int) (h : Hd) : Bool := decide (h.r.k = key) && decide (fr ≤ h.r.t) && decide (h.r.t ≤ to)
/-- It met one more. -/
def bump (h : Hd) : Hd := ⟨h.r, wrap64 (h.m + 1)⟩
def bumpIf (p : Hd → Bool) (h : Hd) : Hd := if p h then bump h else h

theorem HRow.at? {w : World} {p : Option Addr} {n cap : Nat} {hs : List Hd} (h : HRow w (.slice p n cap) hs) (j : Nat) (x : Hd) (hj : hs[j]? = some x) : ∃ g, p = some ⟨g, 0, none⟩ ∧ g < w.heap.size ∧ HCell w g j x := by
  obtain ⟨hj', rfl⟩ := List.getElem?_eq_some_iff.1 hj
  obtain ⟨p', cap', he, -⟩ := own_slice h
  injection he with h1 h2 h3
  subst h2
  exact h.at' j hj'
theorem HRow.setM {w : World} {g n cap : Nat} {hs : List Hd} (h : HRow w (.slice (some ⟨g, 0, none⟩) n cap) hs) (j : Nat) (x : Hd) (hj : hs[j]? = some x) (m : Int) : HRow (w.setCell ⟨g, j * 4 + 3, none⟩ (.int .i64 m)) (.slice (some ⟨g, 0, none⟩) n cap) (hs.set j ⟨x.r, m⟩) := by
  obtain ⟨hj', rfl⟩ := List.getElem?_eq_some_iff.1 hj
  obtain ⟨p', cap', he, -⟩ := own_slice h
  injection he with h1 h2 h3
  subst h2
  exact own_setCell hd_len h j 3 hj' (by decide) _ _ rfl
theorem HRow.len {w : World} {p : Option Addr} {n cap : Nat} {hs : List Hd} (h : HRow w (.slice p n cap) hs) : n = hs.length := by
  obtain ⟨p', cap', he, -⟩ := own_slice h
  injection he

theorem sorted_bump {hs : List Hd} (h : SortedH hs) (f : Hd → Hd) (hf : ∀ x, (f x).r = x.r) : SortedH (hs.map f) := by
  unfold SortedH at *
  rw [List.pairwise_map]
  refine h.imp ?_
  intro a b hab
  unfold leKT at *
  rw [hf, hf]; exact hab
theorem bumpIf_r (p : Hd → Bool) (x : Hd) : (bumpIf p x).r = x.r := by unfold bumpIf; split <;> rfl

theorem nil_none (base : Nat) (w : World) : MRow w base (.slice none 0 0) [] := ⟨rfl, .inl ⟨rfl, rfl⟩⟩

theorem _root_.Go.Plan.ExtM.fresh {M N : Nat → Prop} {a b c : World} (h1 : ExtM M a b) (h2 : ExtM N b c) (hN : ∀ k, k < a.heap.size → ¬ N k) : ExtM M a c :=
  ⟨h2.os.trans h1.os, h2.tape.trans h1.tape, h2.output.trans h1.output, Nat.le_trans h1.size h2.size, fun k hk hn => (h2.block k (Nat.lt_of_lt_of_le hk h1.size) (hN k hk)).trans (h1.block k hk hn)⟩

/-- What a Meet leaves. -/
def Meted (w w' : World) (S o : Nat) (v : Value) (hs : List Hd) (p : Hd → Bool) (e : Ending) : Prop :=
  ∃ vo, e = .returned vo ∧ MRow w' w.heap.size vo (hs.filter p) ∧ SideIs w' S o v (hs.map (bumpIf p)) ∧ ExtM (fun k => v.ownBlock = some k) w w'

set_option maxRecDepth 100000 in
set_option maxHeartbeats 4000000 in
theorem meetNone_c (S o : Nat) (v : Value) (hs : List Hd) (key fr to : Int) (w : World) (h : SideIs w S o v hs) (hft : to < fr) :
    Calls Tryz.prog 79 #[.pointer (some ⟨S, o, none⟩), .int .i64 key, .int .i64 fr, .int .i64 to] w fun e w' => Meted w w' S o v hs (meetP key fr to) e := by
  have hd : decide (to < fr) = true := by simpa using hft
  have hp : ∀ x : Hd, meetP key fr to x = false := fun x => by
    unfold meetP
    simp
    omega
  go_enter Tryz.func79, Tryz.ntmps79
  go_wp2
  go_ret
  refine ⟨_, rfl, ?_, ?_, ExtM.refl _⟩
  · rw [List.filter_eq_nil_iff.2 (fun a _ => by rw [hp]; decide)]
    exact nil_none _ _
  · have : hs.map (bumpIf (meetP key fr to)) = hs := by
      conv => rhs; rw [← List.map_id hs]
      exact List.map_congr_left (fun a _ => by unfold bumpIf; rw [hp]; rfl)
    rw [this]
    exact h

/-- The rows behind d rounds. -/
def metAt (A R : List Hd) (d : Nat) : List Hd := A ++ ((R.take d).map bump ++ R.drop d)
theorem metAt_get {A R : List Hd} {d : Nat} (hd : d < R.length) : (metAt A R d)[A.length + d]? = some (R[d]'hd) := by
  unfold metAt
  rw [List.getElem?_append_right (by omega), List.getElem?_append_right (by simp; omega)]
  simp
  rw [Nat.min_eq_left (by omega), Nat.sub_self]
  simp
theorem metAt_succ {A R : List Hd} {d : Nat} (hd : d < R.length) : (metAt A R d).set (A.length + d) (bump (R[d]'hd)) = metAt A R (d + 1) := by
  unfold metAt
  rw [List.set_append_right _ _ (by omega), List.set_append_right _ _ (by rw [List.length_map, List.length_take]; omega), List.length_map, List.length_take, show A.length + d - A.length - min d R.length = 0 by omega, List.drop_eq_getElem_cons hd, List.set_cons_zero, List.take_succ_eq_append_getElem hd, List.map_append, List.append_assoc]
  rfl
theorem metAt_len (A R : List Hd) (d : Nat) (hd : d ≤ R.length) : (metAt A R d).length = A.length + R.length := by
  unfold metAt
  simp
  omega

theorem meetP_iff (key fr to : Int) (x : Hd) : meetP key fr to x = true ↔ x.r.k = key ∧ fr ≤ x.r.t ∧ x.r.t ≤ to := by
  unfold meetP
  simp [and_assoc]
theorem meet_this {fr to : Int} {x : Hd} (h : aheadB x.r.k fr x = false) (ht : x.r.t ≤ to) : meetP x.r.k fr to x = true := by
  have h2 : ¬ aheadB x.r.k fr x = true := by rw [h]; decide
  rw [aheadB_iff] at h2
  rw [meetP_iff]
  omega
theorem met_rest {R : List Hd} {d : Nat} {x : Hd} {key fr to : Int} (hs : SortedH R) (hd : d < R.length) (hx : R[d] = x) (ha : aheadB key fr x = false) (hn : x.r.k = key → ¬ x.r.t ≤ to) : ∀ y ∈ R.drop d, meetP key fr to y = false := by
  have h2 : ¬ aheadB key fr x = true := by rw [ha]; decide
  rw [aheadB_iff] at h2
  have hp : (R.drop d).Pairwise leKT := hs.sublist (List.drop_sublist d R)
  rw [List.drop_eq_getElem_cons hd, hx] at hp ⊢
  have hp := (List.pairwise_cons.1 hp).1
  intro y hy
  have hk : leKT x y := by
    rcases List.mem_cons.1 hy with rfl | hy
    · unfold leKT; omega
    · exact hp y hy
  cases hq : meetP key fr to y with
  | false => rfl
  | true =>
    rw [meetP_iff] at hq
    unfold leKT at hk
    exfalso
    by_cases hxk : x.r.k = key
    · have := hn hxk; omega
    · omega
theorem met_exit {w wr : World} {S o : Nat} {v u : Value} {hs A R : List Hd} {d : Nat} {key fr to : Int} (h : SideIs w S o v hs) (hx : ExtM (fun k => v.ownBlock = some k) w wr) (hrow : HRow wr v (metAt A R d)) (hout : MRow wr w.heap.size u (R.take d)) (hAR : hs = A ++ R)
    (hA : ∀ a ∈ A, aheadB key fr a = true) (hall : ∀ x ∈ R.take d, meetP key fr to x = true) (hrest : ∀ x ∈ R.drop d, meetP key fr to x = false) : Meted w wr S o v hs (meetP key fr to) (.returned u) := by
  have hA' : ∀ a ∈ A, meetP key fr to a = false := fun a ha => by
    have h1 := hA a ha
    rw [aheadB_iff] at h1
    cases hq : meetP key fr to a with
    | false => rfl
    | true => rw [meetP_iff] at hq; omega
  have e1 : hs.filter (meetP key fr to) = R.take d := by
    rw [hAR, List.filter_append, List.filter_eq_nil_iff.2 (fun a ha => by rw [hA' a ha]; decide), List.nil_append]
    conv => lhs; rw [← List.take_append_drop d R]
    rw [List.filter_append, List.filter_eq_self.2 hall, List.filter_eq_nil_iff.2 (fun a ha => by rw [hrest a ha]; decide), List.append_nil]
  have e2 : hs.map (bumpIf (meetP key fr to)) = metAt A R d := by
    unfold metAt
    conv => lhs; rw [hAR, ← List.take_append_drop d R]
    rw [List.map_append, List.map_append]
    have g1 : A.map (bumpIf (meetP key fr to)) = A := by
      conv => rhs; rw [← List.map_id A]
      exact List.map_congr_left (fun a ha => by unfold bumpIf; rw [hA' a ha]; rfl)
    have g2 : (R.take d).map (bumpIf (meetP key fr to)) = (R.take d).map bump := List.map_congr_left (fun a ha => by unfold bumpIf; rw [hall a ha]; rfl)
    have g3 : (R.drop d).map (bumpIf (meetP key fr to)) = R.drop d := by
      conv => rhs; rw [← List.map_id (R.drop d)]
      exact List.map_congr_left (fun a ha => by unfold bumpIf; rw [hrest a ha]; rfl)
    rw [g1, g2, g3]
  refine ⟨u, rfl, by rw [e1]; exact hout, ?_, hx⟩
  rw [e2]
  exact ⟨(ExtM.cell hx (p := ⟨S, o, none⟩) h.lt h.own).trans h.c0, (ExtM.frozen hx (p := ⟨S, o, none⟩) h.lt h.own).trans h.fz, hrow, by rw [← e2]; exact sorted_bump h.srt _ (bumpIf_r _), h.own⟩

set_option maxRecDepth 100000 in
set_option maxHeartbeats 4000000 in
theorem meetSome_c (S o : Nat) (v : Value) (hs : List Hd) (key fr to : Int) (w : World) (h : SideIs w S o v hs) (hft : fr ≤ to) (hl : hs.length < 1000000) :
    Calls Tryz.prog 79 #[.pointer (some ⟨S, o, none⟩), .int .i64 key, .int .i64 fr, .int .i64 to] w fun e w' => Meted w w' S o v hs (meetP key fr to) e := by
  have hd : decide (to < fr) = false := by simp; omega
  obtain ⟨A, R, hAR, hA, hR, hN⟩ : ∃ A R, hs = A ++ R ∧ (∀ a ∈ A, aheadB key fr a = true) ∧ (∀ a ∈ R, aheadB key fr a = false) ∧ fromN key fr hs = A.length := by
    obtain ⟨h1, h2⟩ := fromN_parts h.srt key fr
    exact ⟨_, _, (List.take_append_drop _ hs).symm, h1, h2, by rw [List.length_take, Nat.min_eq_left (fromN_le _ _ _)]⟩
  have HL := Lib.hid (show hs.length = A.length + R.length by rw [hAR, List.length_append])
  have HAR := Lib.hid hAR
  clear hAR
  obtain ⟨p, cap, rfl, -⟩ := own_slice h.row
  have hfrom := fun u hu => from_c S o _ hs key fr u (h.ext hu) hl
  rw [hN] at hfrom
  have hown := h.own
  have hSlt := h.lt
  go_enter Tryz.func79, Tryz.ntmps79
  go_wp2_with (
    go_at_call 114
    refine (hfrom _ (by first | exact ExtM.refl _ | exact (ExtM.refl _).drew)).mono ?_
    rintro e w1 ⟨rfl, hx1⟩)
  have hst : HRow w1 (.slice p hs.length cap) (metAt A R 0) := by
    have : metAt A R 0 = hs := by unfold metAt; rw [HAR.out]; simp
    rw [this]
    exact h.row.extF hx1
  go_loopg [9, 10] hs.length (fun kx s9 s10 wr => ∃ d : Nat, s10 = .int .i64 ((A.length + d : Nat) : Int) ∧ d ≤ R.length ∧ R.length - d ≤ kx ∧ ExtM (fun k => (Value.slice p hs.length cap).ownBlock = some k) w wr ∧ HRow wr (.slice p hs.length cap) (metAt A R d) ∧ MRow wr w.heap.size s9 (R.take d) ∧ (∀ x ∈ R.take d, meetP key fr to x = true))
  case atStart => exact ⟨0, by simp, Nat.zero_le _, by have := HL.out; omega, hx1.mono (fun _ _ h => h.elim), hst, nil_none _ _, fun x hx => by simp at hx⟩
  case round =>
    obtain ⟨d, rfl, hdl, hgk, hx, hrow, hout, hall⟩ := hrel
    have c0 : wr.cell? ⟨S, o, none⟩ = some (.slice p hs.length cap) := (ExtM.cell hx (p := ⟨S, o, none⟩) hSlt hown).trans h.c0
    by_cases hdn : d < R.length
    · have hat := metAt_get (A := A) hdn
      obtain ⟨g, rfl, hgl, ⟨e0, e1, e2, e3, fz⟩⟩ := hrow.at? _ _ hat
      have hid : A.length + d < hs.length := by have := HL.out; omega
      have hi1 : decide (((A.length + d : Nat) : Int) < (hs.length : Int)) = true := by simp; omega
      have hset := metAt_succ (A := A) hdn
      have htk := List.take_succ_eq_append_getElem hdn
      generalize hR0 : R[d] = x at *
      have HX := Lib.hid hR0
      have HS := Lib.hid hset
      have HT := Lib.hid htk
      have HAT := Lib.hid hat
      generalize hI : A.length + d = i at *
      have HI := Lib.hid hI
      have hxm : x ∈ R := by rw [← hR0]; exact List.getElem_mem hdn
      have hsrt : SortedH R := by have := h.srt; rw [HAR.out] at this; exact (List.pairwise_append.1 this).2.1
      clear hset hat hR0 htk hI
      by_cases hk : x.r.k = key
      · subst hk
        by_cases ht : x.r.t ≤ to
        · have hvo : ∀ k, u9.ownBlock = some k → w.heap.size ≤ k ∧ k < wr.heap.size := fun k hk => own_lt hout k hk
          have hSr : S < wr.heap.size := by have := hx.size; omega
          have hgw : g < w.heap.size := (own_lt h.row g rfl).2
          have hnS : ¬ u9.ownBlock = some S := fun e => by have := hvo _ e; omega
          have hng : ¬ u9.ownBlock = some g := fun e => by have := hvo _ e; omega
          obtain ⟨v', w', happ, hown', hgr, hloc⟩ := run_appendM (wr.drew.alloc (.cells #[.int .i64 x.r.k, .int .i64 x.r.t, .int .i64 x.r.v, .int .i64 x.m] 66)) w.heap.size wr.heap.size 1 u9 (R.take d) x 62
            (own_ext hout ((ExtM.refl wr).drew.alloc _ : Ext wr _) (fun _ _ h => h)) (fun j u hj => (World.cell?_alloc_at (w := wr.drew) _ _ wr.heap.size j rfl).trans (by simpa [Hd.cells] using hj)) (by rw [List.length_take]; have := HL.out; omega) (by have := hx.size; simp; omega)
          go_wp2_with fail
          have hgr' : ExtR u9.ownBlock wr w' := ExtR.trans _ _ _ ((ExtR.refl wr).drew.alloc _) hgr
          refine Plan.begin (Plan.ExtR u9.ownBlock) 21 rfl (by kernel_rfl) ?_
          refine Plan.left_q 0 (by rfl) (by kernel_rfl) ?_; go_big_quiet_step (fail); refine wpQuiet_nil ?_
          refine Plan.left_q 1 (by rfl) (by kernel_rfl) ?_; go_big_quiet_step (fail); refine wpQuiet_nil ?_
          refine Plan.left_q 2 (by rfl) (by kernel_rfl) ?_; go_big_quiet_step (fail); refine wpQuiet_nil ?_
          refine Plan.left_q 3 (by rfl) (by kernel_rfl) ?_; go_big_quiet_step (fail); refine wpQuiet_nil ?_
          refine Plan.left_q 4 (by rfl) (by kernel_rfl) ?_; go_big_quiet_step (fail); refine wpQuiet_nil ?_
          refine Plan.left_q 5 (by rfl) (by kernel_rfl) ?_; go_big_quiet_step (fail); refine wpQuiet_nil ?_
          refine Plan.left_q 6 (by rfl) (by kernel_rfl) ?_; go_big_quiet_step (fail); refine wpQuiet_nil ?_
          refine Plan.left_q 7 (by rfl) (by kernel_rfl) ?_; go_big_quiet_step (fail); refine wpQuiet_nil ?_
          refine Plan.left_q 8 (by rfl) (by kernel_rfl) ?_; go_big_quiet_step (fail); refine wpQuiet_nil ?_
          refine Plan.left_q 9 (by rfl) (by kernel_rfl) ?_; go_big_quiet_step (fail); refine wpQuiet_nil ?_
          refine Plan.left_q 10 (by rfl) (by kernel_rfl) ?_; go_big_quiet_step (fail); refine wpQuiet_nil ?_
          refine Plan.left_q 11 (by rfl) (by kernel_rfl) ?_; go_big_quiet_step (fail); refine wpQuiet_nil ?_
          refine Plan.left_q 12 (by rfl) (by kernel_rfl) ?_; go_big_quiet_step (fail); refine wpQuiet_nil ?_
          refine Plan.left_q 13 (by rfl) (by kernel_rfl) ?_; go_big_quiet_step (fail); refine wpQuiet_nil ?_
          refine Plan.left_q 14 (by rfl) (by kernel_rfl) ?_; go_big_quiet_step (fail); refine wpQuiet_nil ?_
          refine Plan.left_q 15 (by rfl) (by kernel_rfl) ?_; go_big_quiet_step (fail); refine wpQuiet_nil ?_
          refine Plan.left_q 16 (by rfl) (by kernel_rfl) ?_; go_big_quiet_step (fail); refine wpQuiet_nil ?_
          refine Plan.left_q 17 (by rfl) (by kernel_rfl) ?_; go_big_quiet_step (fail); refine wpQuiet_nil ?_
          refine Plan.left_one 18 (by kernel_rfl) (by rfl) (Plan.plain rfl fun K hK => ?_)
          go_wp2_with (fail)
          refine hK _ _ ((ExtM.refl _).alloc _) ?_
          clear hK K
          refine Plan.left_one 19 (by kernel_rfl) (by rfl) (Plan.plain rfl fun K hK => ?_)
          refine wp_append_run (happ) rfl _ _ rfl rfl rfl ?_
          refine hK _ _ (hgr) ?_
          simp only [Act.put, List.setIfInBounds_toArray, List.set_cons_succ, List.set_cons_zero]
          clear hK K
          refine Plan.left_q 20 (by rfl) (by kernel_rfl) ?_; go_big_quiet_step (fail); refine wpQuiet_nil ?_
          refine Plan.left_done (by kernel_rfl) ?_
          have hc := hgr'.rules.1
          have hf := hgr'.rules.2.1
          have c0' : w'.cell? ⟨S, o, none⟩ = _ := (hc _ _ hSr hnS).trans c0
          have e3' : w'.cell? ⟨g, i * 4 + 3, none⟩ = _ := (hc _ _ hgl hng).trans e3
          have fz' := fun q => (hf g q hgl hng).trans (fz q)
          clear hc hf c0 e0 e1 e2 e3 fz happ
          go_wp2_with fail
          go_roundg (R.length - (d + 1))
          case measure => omega
          case rel =>
            have hv' : ∀ k, v'.ownBlock = some k → g ≠ k := fun k hk e => by
              subst e
              rcases hloc with h1 | ⟨k', h1, h2⟩
              · exact hng (h1 ▸ hk)
              · rw [h1] at hk
                have := Option.some.inj hk
                simp at h2; omega
            refine ⟨d + 1, by rw [← HI.out]; rfl, by omega, Nat.le_refl _, ?_, ?_, ?_, ?_⟩
            · exact ExtM.setCell (p := ⟨g, i * 4 + 3, none⟩) (hx.fresh hgr' (fun k hk e => by have := hvo k e; omega)) (.inr rfl) _
            · have := (hrow.ext hgr' (fun k hk e => hng (by rw [← hk] at e; exact e))).setM i x HAT.out (wrap64 (x.m + 1))
              rw [← HS.out]
              exact this
            · rw [HT.out]
              exact own_ext hown' (ExtM.setCell (M := fun k => g = k) (ExtM.refl w') (p := ⟨g, _, none⟩) (.inr rfl) _) hv'
            · rw [HT.out]
              intro y hy
              rcases List.mem_append.1 hy with hy | hy
              · exact hall y hy
              · rw [List.mem_singleton.1 hy]
                exact meet_this (hR x hxm) ht
        · have hd1 : decide (x.r.t ≤ to) = false := by simpa using ht
          go_wp2_with fail
          go_ret
          exact met_exit h hx hrow hout HAR.out hA hall (met_rest hsrt hdn HX.out (hR x hxm) (fun _ => by omega))
      · have hd1 : decide (x.r.k = key) = false := by simpa using hk
        go_wp2_with fail
        go_ret
        exact met_exit h hx hrow hout HAR.out hA hall (met_rest hsrt hdn HX.out (hR x hxm) (fun e => absurd e hk))
    · generalize hI : A.length + d = i at *
      have hd1 : ¬ i < hs.length := by have := HL.out; omega
      clear hI
      go_wp2_with fail
      go_ret
      exact met_exit h hx hrow hout HAR.out hA hall (fun y hy => by rw [List.drop_eq_nil_of_le (by omega)] at hy; cases hy)

theorem meet_c (S o : Nat) (v : Value) (hs : List Hd) (key fr to : Int) (w : World) (h : SideIs w S o v hs) (hl : hs.length < 1000000) :
    Calls Tryz.prog 79 #[.pointer (some ⟨S, o, none⟩), .int .i64 key, .int .i64 fr, .int .i64 to] w fun e w' => Meted w w' S o v hs (meetP key fr to) e := by
  rcases (by omega : to < fr ∨ fr ≤ to) with h1 | h1
  · exact meetNone_c S o v hs key fr to w h h1
  · exact meetSome_c S o v hs key fr to w h h1 hl
end Go.Proofs.YtmcgnnmffeojpaaGreatDoor

-- SideAll
namespace Go.Proofs.YtmcgnnmffeojpaaGreatDoor
open Go.RowKit Go.Plan

set_option maxRecDepth 100000 in
set_option maxHeartbeats 4000000 in
theorem all_c (S o : Nat) (v : Value) (hs : List Hd) (w : World) (h : SideIs w S o v hs) (hl : hs.length < 1000000) :
    Calls Tryz.prog 59 #[.pointer (some ⟨S, o, none⟩)] w fun e w' => ∃ vo, e = .returned vo ∧ MRow w' w.heap.size vo hs ∧ Ext w w' := by
  obtain ⟨p, cap, rfl, -⟩ := own_slice h.row
  have c0 := h.c0
  go_enter Tryz.func59, Tryz.ntmps59
  go_wp2
  go_loopg [3, 11] hs.length (fun kx s3 s11 wr => ∃ d : Nat, s11 = .int .i64 (d : Int) ∧ d ≤ hs.length ∧ hs.length - d ≤ kx ∧ Ext w wr ∧ MRow wr w.heap.size s3 (hs.take d))
  case atStart => exact ⟨0, rfl, Nat.zero_le _, by omega, ExtM.refl _, nil_none _ _⟩
  case round =>
    obtain ⟨d, rfl, hdl, hgk, hx, hout⟩ := hrel
    by_cases hdn : d < hs.length
    · obtain ⟨g, rfl, hgl, ⟨e0, e1, e2, e3, fz⟩⟩ := (h.row.extF hx).at' d hdn
      have HT := Lib.hid (List.take_succ_eq_append_getElem hdn)
      generalize hs[d] = x at *
      have hsz := hx.size
      obtain ⟨v', w', happ, hown', hgr, hloc⟩ := run_appendM ((wr.alloc (.cells #[.int .i64 x.r.k, .int .i64 x.r.t, .int .i64 x.r.v, .int .i64 x.m] 175)).alloc (.cells #[.int .i64 x.r.k, .int .i64 x.r.t, .int .i64 x.r.v, .int .i64 x.m] 66)) w.heap.size (wr.heap.size + 1) 1 u3 (hs.take d) x 62
        (own_ext hout (((ExtM.refl wr).alloc _).alloc _ : Ext wr _) (fun _ _ h => h)) (fun j u hj => (World.cell?_alloc_at _ _ _ j (by simp)).trans (by simpa [Hd.cells] using hj)) (by rw [List.length_take]; omega) (by simp; omega)
      have hx2 : Ext w w' := (hx.fresh (ExtM.trans _ _ _ (((ExtM.refl wr).alloc _).alloc _) hgr) (fun k hk e => by have := own_lt hout k e; omega))
      go_wp2_with (at_builtin; refine wpList_append_run happ rfl rfl _ _ rfl rfl rfl ?_; clear happ)
      go_roundg (hs.length - (d + 1))
      case measure => omega
      case rel => exact ⟨d + 1, rfl, by omega, Nat.le_refl _, hx2, by rw [HT.out]; exact hown'⟩
    · go_wp2_with fail
      go_ret
      exact ⟨_, rfl, by rw [List.take_of_length_le (by omega)] at hout; exact hout, hx⟩
end Go.Proofs.YtmcgnnmffeojpaaGreatDoor
