/- The document's group of a key. -/
import Derived.Test.YtggjceolhbdalaaDoorGrpRep
import Derived.Test.YtggjceolhbdalaaDoorOutElem
import Derived.Deep.DeepCutAuto
namespace Go.Proofs.YtggjceolhbdalaaDoor
open Go.RowKit Go.Plan

/-- The right values. -/
def rights (m : List Out) : List Int := (m.filter (·.hr)).map (·.r.v)
theorem rights_snoc (m : List Out) (x : Out) : rights (m ++ [x]) = if x.hr then rights m ++ [x.r.v] else rights m := by
  unfold rights
  by_cases h : x.hr = true
  · rw [if_pos h, List.filter_append, List.filter_cons_of_pos h]; simp
  · rw [if_neg h, List.filter_append, List.filter_cons_of_neg h]; simp
theorem lsum_snoc (m : List Out) (x : Out) : lsum (m ++ [x]) = lsum m + if x.hl then x.l.v else 0 := by
  rw [lsum_perm (List.perm_append_singleton x m)]
  simp only [lsum]; omega
theorem ofKey_take {l : List Out} {j : Nat} {x : Out} (h : l[j]? = some x) (k : Int) : ofKey (l.take (j + 1)) k = if x.key = k then ofKey (l.take j) k ++ [x] else ofKey (l.take j) k := by
  obtain ⟨hj, rfl⟩ := List.getElem?_eq_some_iff.1 h
  rw [List.take_succ_eq_append_getElem hj]
  unfold ofKey
  by_cases hk : l[j].key = k
  · rw [if_pos hk, List.filter_append, List.filter_cons_of_pos (by simp [hk])]; rfl
  · rw [if_neg hk, List.filter_append, List.filter_cons_of_neg (by simp [hk])]; simp

/-- The least and the greatest of these, if there are some. -/
structure LoHi (rs : List Int) (lo hi : Int) (b : Bool) : Prop where
  none : rs = [] → lo = 0 ∧ hi = 0 ∧ b = false
  some : rs ≠ [] → b = true ∧ lo ∈ rs ∧ hi ∈ rs ∧ ∀ x ∈ rs, lo ≤ x ∧ x ≤ hi
theorem LoHi.nil : LoHi [] 0 0 false := ⟨fun _ => ⟨rfl, rfl, rfl⟩, fun h => absurd rfl h⟩
theorem LoHi.one (v lo hi : Int) {rs : List Int} (h : LoHi rs lo hi false) : LoHi (rs ++ [v]) v v true := by
  have : rs = [] := by
    cases rs with
    | nil => rfl
    | cons a r => exact absurd (h.some (by simp)).1 (by decide)
  subst this
  exact ⟨fun h => by simp at h, fun _ => ⟨rfl, by simp, by simp, fun x hx => by simp at hx; omega⟩⟩
theorem LoHi.more (v lo hi lo' hi' : Int) {rs : List Int} (h : LoHi rs lo hi true) (h1 : lo' = if v < lo then v else lo) (h2 : hi' = if hi < v then v else hi) : LoHi (rs ++ [v]) lo' hi' true := by
  have hne : rs ≠ [] := fun e => by have := (h.none e).2.2; cases this
  obtain ⟨-, a1, a2, a3⟩ := h.some hne
  refine ⟨fun h => by simp at h, fun _ => ⟨rfl, ?_, ?_, fun x hx => ?_⟩⟩
  · rw [h1]; split
    · simp
    · exact List.mem_append_left _ a1
  · rw [h2]; split
    · simp
    · exact List.mem_append_left _ a2
  · rw [h1, h2]
    rcases List.mem_append.1 hx with hx | hx
    · have := a3 x hx
      split <;> split <;> omega
    · have : x = v := by simpa using hx
      subst this
      split <;> split <;> omega
/-- .. as a sorted list has them. -/
theorem LoHi.sorted {rs ss : List Int} {lo hi : Int} {b : Bool} (h : LoHi rs lo hi b) (hp : ss.Perm rs) (hs : ss.Pairwise (· ≤ ·)) : lo = ss.getD 0 0 ∧ hi = ss.getD (ss.length - 1) 0 ∧ b = decide (0 < ss.length) := by
  by_cases hn : rs = []
  · obtain ⟨rfl, rfl, rfl⟩ := h.none hn
    rw [hn] at hp
    rw [hp.eq_nil]
    exact ⟨rfl, rfl, rfl⟩
  · obtain ⟨rfl, a1, a2, a3⟩ := h.some hn
    have hne : ss ≠ [] := fun e => hn (by rw [e] at hp; exact hp.nil_eq.symm)
    have hl : 0 < ss.length := List.length_pos_iff.2 hne
    have g0 : ss.getD 0 0 = ss[0] := by simp [List.getD, hl]
    have g1 : ss.getD (ss.length - 1) 0 = ss[ss.length - 1]'(by omega) := by
      have : ss.length - 1 < ss.length := by omega
      simp [List.getD, this]
    have m0 := (a3 _ (hp.mem_iff.1 (List.getElem_mem hl)))
    have m1 := (a3 _ (hp.mem_iff.1 (List.getElem_mem (show ss.length - 1 < ss.length by omega))))
    obtain ⟨i, hi1, hi2⟩ := List.mem_iff_getElem.1 (hp.mem_iff.2 a1)
    obtain ⟨j, hj1, hj2⟩ := List.mem_iff_getElem.1 (hp.mem_iff.2 a2)
    rw [List.pairwise_iff_getElem] at hs
    refine ⟨?_, ?_, by simp [hl]⟩
    · rw [g0]
      rcases Nat.eq_zero_or_pos i with rfl | hi0
      · exact hi2.symm
      · have := hs 0 i hl hi1 hi0; omega
    · rw [g1]
      rcases Nat.lt_or_ge j (ss.length - 1) with hj0 | hj0
      · have := hs j (ss.length - 1) hj1 (by omega) hj0; omega
      · have : j = ss.length - 1 := by omega
        subst this; exact hj2.symm

/-- What the group's cells hold behind the Outs m of its key. -/
structure Acc (w : World) (M : Nat) (key : Int) (m : List Out) (lo hi : Int) (b : Bool) : Prop where
  box : BoxG w M key m.length (wrap64 (lsum m)) lo hi b
  lohi : LoHi (rights m) lo hi b
/-- A key's group out of its Outs. -/
def grow (key : Int) (m : List Out) : GRow := rowOf key ⟨m.length, wrap64 (lsum m), sortI (rights m)⟩
theorem Acc.row {w : World} {M : Nat} {key : Int} {m : List Out} {lo hi : Int} {b : Bool} (h : Acc w M key m lo hi b) : grow key m = ⟨key, m.length, wrap64 (lsum m), lo, hi, b⟩ := by
  obtain ⟨h1, h2, h3⟩ := h.lohi.sorted (sortI_perm _) (sortI_sorted _)
  unfold grow rowOf
  rw [← h1, ← h2, ← h3]
theorem grow_rep {key : Int} {m : List Out} {a : GS} (h : RepA a m) : rowOf key a = grow key m := by
  have : RepA ⟨m.length, wrap64 (lsum m), sortI (rights m)⟩ m := ⟨rfl, rfl, sortI_perm _, sortI_sorted _⟩
  rw [h.eq this]; rfl

theorem BoxG.other {w : World} {n M : Nat} {k c s l m : Int} {b : Bool} (h : BoxG w n k c s l m b) (hn : n ≠ M) (i : Nat) (v : Value) : BoxG (w.setCell ⟨M, i, none⟩ v) n k c s l m b := h.keep (Below.heap_setCell _ _ _ _ hn)
def GRow.val (r : GRow) : Value := .agg #[.int .i64 r.key, .int .i64 r.cnt, .int .i64 r.sum, .int .i64 r.least, .int .i64 r.most, .bool r.some]
/-- What the document tells of a key. -/
def refGV (l : List Out) (key : Int) : Value := if ofKey l key = [] then .tuple #[.agg #[.int .i64 0, .int .i64 0, .int .i64 0, .int .i64 0, .int .i64 0, .bool false], .int .i64 8] else .tuple #[(grow key (ofKey l key)).val, .int .i64 0]

set_option maxRecDepth 100000 in
set_option maxHeartbeats 4000000 in
theorem refGroup_c (p : Option Addr) (cap : Nat) (l : List Out) (key : Int) (w : World) (h : OutsOf w p l) (hl : l.length < 1000000) :
    Calls Tryd.prog 15 #[.slice p l.length cap, .int .i64 key] w fun e w' => Ext w w' ∧ e = .returned (refGV l key) := by
  go_enter Tryd.func15, Tryd.ntmps15
  go_wp2_with fail
  have bN : BoxG ((w.alloc (.cells #[.int .i64 0, .int .i64 0, .int .i64 0, .int .i64 0, .int .i64 0, .bool false] 52)).alloc (.cells #[.int .i64 key, .int .i64 0, .int .i64 0, .int .i64 0, .int .i64 0, .bool false] 52)) w.heap.size 0 0 0 0 0 false :=
    (BoxG.mk' w 0 0 0 0 0 false 52).keep (heap_alloc_lt (by rw [World.size_alloc]; omega))
  have bM : Acc ((w.alloc (.cells #[.int .i64 0, .int .i64 0, .int .i64 0, .int .i64 0, .int .i64 0, .bool false] 52)).alloc (.cells #[.int .i64 key, .int .i64 0, .int .i64 0, .int .i64 0, .int .i64 0, .bool false] 52)) (w.heap.size + 1) key [] 0 0 false := by
    have := BoxG.mk' (w.alloc (.cells #[.int .i64 0, .int .i64 0, .int .i64 0, .int .i64 0, .int .i64 0, .bool false] 52)) key 0 0 0 0 false 52
    rw [World.size_alloc] at this
    exact ⟨by rw [show wrap64 (lsum []) = 0 from by show wrap64 0 = 0; unfold wrap64; decide]; exact this, LoHi.nil⟩
  have x0 : Ext w ((w.alloc (.cells #[.int .i64 0, .int .i64 0, .int .i64 0, .int .i64 0, .int .i64 0, .bool false] 52)).alloc (.cells #[.int .i64 key, .int .i64 0, .int .i64 0, .int .i64 0, .int .i64 0, .bool false] 52)) := ((ExtM.refl _).alloc _).alloc _
  generalize (w.alloc (.cells #[.int .i64 0, .int .i64 0, .int .i64 0, .int .i64 0, .int .i64 0, .bool false] 52)).alloc (.cells #[.int .i64 key, .int .i64 0, .int .i64 0, .int .i64 0, .int .i64 0, .bool false] 52) = w1 at *
  have hNM : w.heap.size < w.heap.size + 1 := by omega
  have hMw : w.heap.size ≤ w.heap.size + 1 := by omega
  go_loopw [14] (fun i wr => ∃ (j : Nat) (lo hi : Int) (b : Bool), j ≤ l.length ∧ i = .int .i64 j ∧ Ext w wr ∧ Acc wr (w.heap.size + 1) key (ofKey (l.take j) key) lo hi b ∧ BoxG wr w.heap.size 0 0 0 0 0 false) (fun i _ => l.length - (intOf i).toNat)
  case atStart => exact ⟨0, 0, 0, false, Nat.zero_le _, rfl, x0, bM, bN⟩
  case round =>
    clear bN bM x0
    obtain ⟨j, lo, hi, b, hj, rfl, hx, bM, bN⟩ := hrel
    by_cases hjl : j < l.length
    · have hd : decide ((j : Int) < l.length) = true := by simp; omega
      have hlj : l[j]? = some l[j] := List.getElem?_eq_getElem hjl
      rcases h.of hx with hn | ⟨g, rfl, hel⟩
      · rw [hn] at hjl; simp at hjl
      have el := hel j hjl
      have lb := el.lt
      generalize l[j] = x at *
      have hot := ofKey_take hlj key
      have HOT := Lib.hid hot
      clear hlj hel hot
      obtain ⟨e0, e1, e2, e3, e4, e5, e6, e7, e8⟩ := id el
      have bx := BoxO.mk' wr x 45
      have bM1 : Acc (wr.alloc (.cells #[.int .i64 x.key, .int .i64 x.l.k, .int .i64 x.l.t, .int .i64 x.l.v, .int .i64 x.r.k, .int .i64 x.r.t, .int .i64 x.r.v, .bool x.hl, .bool x.hr] 45)) (w.heap.size + 1) key (ofKey (l.take j) key) lo hi b := ⟨bM.box.keep (heap_alloc_lt bM.box.lt), bM.lohi⟩
      have bN1 := bN.keep (w' := wr.alloc (.cells #[.int .i64 x.key, .int .i64 x.l.k, .int .i64 x.l.t, .int .i64 x.l.v, .int .i64 x.r.k, .int .i64 x.r.t, .int .i64 x.r.v, .bool x.hl, .bool x.hr] 45)) (heap_alloc_lt bN.lt)
      have hx1 : Ext w (wr.alloc (.cells #[.int .i64 x.key, .int .i64 x.l.k, .int .i64 x.l.t, .int .i64 x.l.v, .int .i64 x.r.k, .int .i64 x.r.t, .int .i64 x.r.v, .bool x.hl, .bool x.hr] 45)) := hx.alloc _
      have hMl := bM.box.lt
      have hn8 : w.heap.size + 1 < wr.heap.size := hMl
      have hm0 : (ofKey (l.take j) key).length ≤ j := by
        have := List.length_filter_le (fun x : Out => decide (x.key = key)) (l.take j)
        rw [List.length_take] at this
        unfold ofKey; omega
      by_cases hk : x.key = key
      · have hkb : (x.key != key) = false := by simp [hk]
        have hot : ofKey (l.take (j + 1)) key = ofKey (l.take j) key ++ [x] := by rw [HOT.out, if_pos hk]
        have HOT2 := Lib.hid hot
        have HK := Lib.hid hk
        clear hot hk HOT
        generalize ofKey (l.take j) key = m at *
        obtain ⟨q0, q1, q2, q3, q4, q5, f0, f1, f2, f3, f4, f5⟩ := id bM.box
        have hMn : ¬ w.heap.size + 1 = wr.heap.size := by omega
        have hNn : ¬ w.heap.size = wr.heap.size := by omega
        go_upto_if 27 with fail
        have cM : BoxG ((wr.setCell ⟨w.heap.size + 1, 1, none⟩ (.int .i64 ((m.length : Int) + 1))).alloc (.cells #[.int .i64 x.key, .int .i64 x.l.k, .int .i64 x.l.t, .int .i64 x.l.v, .int .i64 x.r.k, .int .i64 x.r.t, .int .i64 x.r.v, .bool x.hl, .bool x.hr] 45)) (w.heap.size + 1) key (m.length + 1) (wrap64 (lsum m)) lo hi b := by
          constructor <;> go_simp
        have cN : BoxG ((wr.setCell ⟨w.heap.size + 1, 1, none⟩ (.int .i64 ((m.length : Int) + 1))).alloc (.cells #[.int .i64 x.key, .int .i64 x.l.k, .int .i64 x.l.t, .int .i64 x.l.v, .int .i64 x.r.k, .int .i64 x.r.t, .int .i64 x.r.v, .bool x.hl, .bool x.hr] 45)) w.heap.size 0 0 0 0 0 false := by
          refine bN.keep ?_
          rw [heap_alloc_lt (by rw [World.size_setCell]; exact bN.lt)]
          exact Below.heap_setCell _ _ _ _ (by show w.heap.size ≠ w.heap.size + 1; omega)
        have cx : BoxO ((wr.setCell ⟨w.heap.size + 1, 1, none⟩ (.int .i64 ((m.length : Int) + 1))).alloc (.cells #[.int .i64 x.key, .int .i64 x.l.k, .int .i64 x.l.t, .int .i64 x.l.v, .int .i64 x.r.k, .int .i64 x.r.t, .int .i64 x.r.v, .bool x.hl, .bool x.hr] 45)) wr.heap.size x := by
          have := BoxO.mk' (wr.setCell ⟨w.heap.size + 1, 1, none⟩ (.int .i64 ((m.length : Int) + 1))) x 45
          rwa [World.size_setCell] at this
        have cw : Ext w ((wr.setCell ⟨w.heap.size + 1, 1, none⟩ (.int .i64 ((m.length : Int) + 1))).alloc (.cells #[.int .i64 x.key, .int .i64 x.l.k, .int .i64 x.l.t, .int .i64 x.l.v, .int .i64 x.r.k, .int .i64 x.r.t, .int .i64 x.r.v, .bool x.hl, .bool x.hr] 45)) := (ExtM.setCell hx (.inl hMw) _).alloc _
        have hlh := bM.lohi
        clear bM bM1 bN bN1 bx hx hx1 q0 q1 q2 q3 q4 q5 f0 f1 f2 f3 f4 f5 e0 e1 e2 e3 e4 e5 e6 e7 e8 el lb hMl hn8
        generalize (wr.setCell ⟨w.heap.size + 1, 1, none⟩ (.int .i64 ((m.length : Int) + 1))).alloc (.cells #[.int .i64 x.key, .int .i64 x.l.k, .int .i64 x.l.t, .int .i64 x.l.v, .int .i64 x.r.k, .int .i64 x.r.t, .int .i64 x.r.v, .bool x.hl, .bool x.hr] 45) = w4 at *
        generalize wr.heap.size = n8 at *
        generalize Value.agg #[.int .i64 x.key, .int .i64 x.l.k, .int .i64 x.l.t, .int .i64 x.l.v, .int .i64 x.r.k, .int .i64 x.r.t, .int .i64 x.r.v, .bool x.hl, .bool x.hr] = V2
        go_cut [] (fun wx => BoxG wx (w.heap.size + 1) key (m.length + 1) (wrap64 (lsum (m ++ [x]))) lo hi b ∧ BoxG wx w.heap.size 0 0 0 0 0 false ∧ BoxO wx n8 x ∧ Ext w wx)
        case first =>
          obtain ⟨q0, q1, q2, q3, q4, q5, f0, f1, f2, f3, f4, f5⟩ := id cM
          obtain ⟨e0, e1, e2, e3, e4, e5, e6, e7, e8⟩ := id cx
          have hMl := cM.lt
          have hnl := cx.lt
          go_wp2_with fail
          · have hhl : x.hl = true := by assumption
            go_meet
            case rel =>
              have hsum : wrap64 (lsum (m ++ [x])) = wrap64 (wrap64 (lsum m) + x.l.v) := by
                rw [lsum_snoc, if_pos hhl]; unfold wrap64; omega
              rw [hsum]
              generalize wrap64 (wrap64 (lsum m) + x.l.v) = s at *
              refine ⟨by constructor <;> go_simp, cN.keep (Below.heap_setCell _ _ _ _ (by show w.heap.size ≠ w.heap.size + 1; omega)), cx.keep (Below.heap_setCell _ _ _ _ (fun e => hMn e.symm)), ExtM.setCell cw (.inl hMw) _⟩
          · have hhl : x.hl = false := by assumption
            go_meet
            case rel =>
              have hsum : wrap64 (lsum (m ++ [x])) = wrap64 (lsum m) := by
                rw [lsum_snoc, if_neg (by rw [hhl]; decide), Int.add_zero]
              rw [hsum]
              exact ⟨cM, cN, cx, cw⟩
        case rest =>
          clear cM cN cx cw
          obtain ⟨cM, cN, cx, cw⟩ := hcut
          have hlen : (((m ++ [x]).length : Nat) : Int) = (m.length : Int) + 1 := by simp
          have HLEN := Lib.hid hlen
          clear hlen
          generalize hs : wrap64 (lsum (m ++ [x])) = s at *
          have HS := Lib.hid hs
          clear hs
          obtain ⟨q0, q1, q2, q3, q4, q5, f0, f1, f2, f3, f4, f5⟩ := id cM
          obtain ⟨e0, e1, e2, e3, e4, e5, e6, e7, e8⟩ := id cx
          have hMl := cM.lt
          have hnl := cx.lt
          cases b
          · go_wp2_with fail
            · have hhr : x.hr = true := by assumption
              have hpf : LoHi (if x.hr = true then rights m ++ [x.r.v] else rights m) (x.r.v) (x.r.v) true := by (rw [if_pos hhr]; exact hlh.one _ _ _)
              refine ⟨⟨j + 1, x.r.v, x.r.v, true, by omega, by go_num, ?_, ?_, ?_⟩, by simp [intOf]; omega⟩
              · iterate 3 (refine ExtM.setCell ?_ (.inl hMw) _)
                exact cw
              · rw [HOT2.out]
                refine ⟨?_, ?_⟩
                · rw [HLEN.out, HS.out]
                  constructor <;> go_simp
                · rw [rights_snoc]
                  exact hpf
              · iterate 3 (refine BoxG.other ?_ (by omega) _ _)
                exact cN
            · have hhr : x.hr = false := by assumption
              have hpf : LoHi (if x.hr = true then rights m ++ [x.r.v] else rights m) (lo) (hi) false := by (rw [if_neg (by rw [hhr]; decide)]; exact hlh)
              refine ⟨⟨j + 1, lo, hi, false, by omega, by go_num, ?_, ?_, ?_⟩, by simp [intOf]; omega⟩
              · iterate 0 (refine ExtM.setCell ?_ (.inl hMw) _)
                exact cw
              · rw [HOT2.out]
                refine ⟨?_, ?_⟩
                · rw [HLEN.out, HS.out]
                  constructor <;> go_simp
                · rw [rights_snoc]
                  exact hpf
              · iterate 0 (refine BoxG.other ?_ (by omega) _ _)
                exact cN
          · go_wp2_with fail
            · have hhr : x.hr = true := by assumption
              have g1 : x.r.v < lo := by assumption
              have g2 : hi < x.r.v := by assumption
              have hpf : LoHi (if x.hr = true then rights m ++ [x.r.v] else rights m) (x.r.v) (x.r.v) true := by (rw [if_pos hhr]; exact hlh.more _ _ _ _ _ (by rw [if_pos g1]) (by rw [if_pos g2]))
              refine ⟨⟨j + 1, x.r.v, x.r.v, true, by omega, by go_num, ?_, ?_, ?_⟩, by simp [intOf]; omega⟩
              · iterate 3 (refine ExtM.setCell ?_ (.inl hMw) _)
                exact cw
              · rw [HOT2.out]
                refine ⟨?_, ?_⟩
                · rw [HLEN.out, HS.out]
                  constructor <;> go_simp
                · rw [rights_snoc]
                  exact hpf
              · iterate 3 (refine BoxG.other ?_ (by omega) _ _)
                exact cN
            · have hhr : x.hr = true := by assumption
              have g1 : x.r.v < lo := by assumption
              have g2 : x.r.v ≤ hi := by assumption
              have hpf : LoHi (if x.hr = true then rights m ++ [x.r.v] else rights m) (x.r.v) (hi) true := by (rw [if_pos hhr]; exact hlh.more _ _ _ _ _ (by rw [if_pos g1]) (by rw [if_neg (by omega)]))
              refine ⟨⟨j + 1, x.r.v, hi, true, by omega, by go_num, ?_, ?_, ?_⟩, by simp [intOf]; omega⟩
              · iterate 2 (refine ExtM.setCell ?_ (.inl hMw) _)
                exact cw
              · rw [HOT2.out]
                refine ⟨?_, ?_⟩
                · rw [HLEN.out, HS.out]
                  constructor <;> go_simp
                · rw [rights_snoc]
                  exact hpf
              · iterate 2 (refine BoxG.other ?_ (by omega) _ _)
                exact cN
            · have hhr : x.hr = true := by assumption
              have g1 : lo ≤ x.r.v := by assumption
              have g2 : hi < x.r.v := by assumption
              have hpf : LoHi (if x.hr = true then rights m ++ [x.r.v] else rights m) (lo) (x.r.v) true := by (rw [if_pos hhr]; exact hlh.more _ _ _ _ _ (by rw [if_neg (by omega)]) (by rw [if_pos g2]))
              refine ⟨⟨j + 1, lo, x.r.v, true, by omega, by go_num, ?_, ?_, ?_⟩, by simp [intOf]; omega⟩
              · iterate 2 (refine ExtM.setCell ?_ (.inl hMw) _)
                exact cw
              · rw [HOT2.out]
                refine ⟨?_, ?_⟩
                · rw [HLEN.out, HS.out]
                  constructor <;> go_simp
                · rw [rights_snoc]
                  exact hpf
              · iterate 2 (refine BoxG.other ?_ (by omega) _ _)
                exact cN
            · have hhr : x.hr = true := by assumption
              have g1 : lo ≤ x.r.v := by assumption
              have g2 : x.r.v ≤ hi := by assumption
              have hpf : LoHi (if x.hr = true then rights m ++ [x.r.v] else rights m) (lo) (hi) true := by (rw [if_pos hhr]; exact hlh.more _ _ _ _ _ (by rw [if_neg (by omega)]) (by rw [if_neg (by omega)]))
              refine ⟨⟨j + 1, lo, hi, true, by omega, by go_num, ?_, ?_, ?_⟩, by simp [intOf]; omega⟩
              · iterate 1 (refine ExtM.setCell ?_ (.inl hMw) _)
                exact cw
              · rw [HOT2.out]
                refine ⟨?_, ?_⟩
                · rw [HLEN.out, HS.out]
                  constructor <;> go_simp
                · rw [rights_snoc]
                  exact hpf
              · iterate 1 (refine BoxG.other ?_ (by omega) _ _)
                exact cN
            · have hhr : x.hr = false := by assumption
              have hpf : LoHi (if x.hr = true then rights m ++ [x.r.v] else rights m) (lo) (hi) true := by (rw [if_neg (by rw [hhr]; decide)]; exact hlh)
              refine ⟨⟨j + 1, lo, hi, true, by omega, by go_num, ?_, ?_, ?_⟩, by simp [intOf]; omega⟩
              · iterate 0 (refine ExtM.setCell ?_ (.inl hMw) _)
                exact cw
              · rw [HOT2.out]
                refine ⟨?_, ?_⟩
                · rw [HLEN.out, HS.out]
                  constructor <;> go_simp
                · rw [rights_snoc]
                  exact hpf
              · iterate 0 (refine BoxG.other ?_ (by omega) _ _)
                exact cN
      · have hkb : (x.key != key) = true := by simp [hk]
        have hot : ofKey (l.take (j + 1)) key = ofKey (l.take j) key := by rw [HOT.out, if_neg hk]
        have HOT2 := Lib.hid hot
        clear hot hk HOT bx bM bN hx hMl hn8
        go_wp2_with fail
        go_roundw
        case rel => exact ⟨j + 1, lo, hi, b, by omega, by go_num, hx1, HOT2.out ▸ bM1, bN1⟩
        case measure => simp [intOf]; omega
    · obtain rfl : j = l.length := by omega
      have hd : decide ((l.length : Int) < l.length) = false := by simp
      rw [List.take_length] at bM
      have hml : (ofKey l key).length ≤ l.length := List.length_filter_le _ _
      obtain ⟨v, hv⟩ : ∃ v, refGV l key = v := ⟨_, rfl⟩
      have hrow := bM.row
      have hvd := hv
      unfold refGV at hvd
      generalize ofKey l key = m at *
      rw [hrow] at hvd
      have HV := Lib.hid hv
      clear hrow hv
      obtain ⟨e0, e1, e2, e3, e4, e5, f0, f1, f2, f3, f4, f5⟩ := id bM.box
      obtain ⟨g0, g1, g2, g3, g4, g5, n0, n1, n2, n3, n4, n5⟩ := id bN
      have hMl := bM.box.lt
      by_cases hmn : m = []
      · have hz : ((m.length : Int) == 0) = true := by rw [hmn]; rfl
        rw [if_pos hmn] at hvd
        have HVD := Lib.hid hvd
        clear hmn hvd
        go_wp2_with fail
        rw [HV.out, ← HVD.out]
        exact bodyPost_ret (v := .tuple #[.agg #[.int .i64 0, .int .i64 0, .int .i64 0, .int .i64 0, .int .i64 0, .bool false], .int .i64 8]) (by simp [results, Tryd.results15, go_sem, g0, g1, g2, g3, g4, g5]) rfl ⟨by
          iterate 6 (refine ExtM.setCell ?_ (.inl (Nat.le_refl _)) _)
          exact hx, rfl⟩
      · have hz : ((m.length : Int) == 0) = false := by
          have : 0 < m.length := List.length_pos_iff.2 hmn
          simp; omega
        rw [if_neg hmn] at hvd
        have HVD := Lib.hid hvd
        clear hmn hvd
        go_wp2_with fail
        rw [HV.out, ← HVD.out]
        exact bodyPost_ret (v := .tuple #[(⟨key, m.length, wrap64 (lsum m), lo, hi, b⟩ : GRow).val, .int .i64 0]) (by simp [GRow.val, results, Tryd.results15, go_sem, g0, g1, g2, g3, g4, g5]) rfl ⟨by
          iterate 6 (refine ExtM.setCell ?_ (.inl (Nat.le_refl _)) _)
          exact hx, rfl⟩
end Go.Proofs.YtggjceolhbdalaaDoor
