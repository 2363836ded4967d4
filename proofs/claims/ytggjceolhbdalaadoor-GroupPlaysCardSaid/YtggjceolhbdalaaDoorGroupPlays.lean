/- The law GroupPlays: its walk. -/
import Derived.Test.YtggjceolhbdalaaDoorGrpPl
import Derived.Test.YtggjceolhbdalaaDoorElemC
namespace Go.Proofs.YtggjceolhbdalaaDoor
open Go.RowKit Go.Plan

theorem BoxC.keep {w w' : World} {n : Nat} {x : Out} {g : Bool} (h : BoxC w n x g) (hb : w'.heap[n]? = w.heap[n]?) : BoxC w' n x g := by
  have r : ∀ i, w'.cell? ⟨n, i, none⟩ = w.cell? ⟨n, i, none⟩ := fun i => World.cell?_of_block (w := w) (w' := w') (a := ⟨n, i, none⟩) hb
  exact ⟨(r 0).trans h.e0, (r 1).trans h.e1, (r 2).trans h.e2, (r 3).trans h.e3, (r 4).trans h.e4, (r 5).trans h.e5, (r 6).trans h.e6, (r 7).trans h.e7, (r 8).trans h.e8, (r 9).trans h.e9⟩
/-- An error's number as an error. -/
def erV (e : Int) : Value := if e = 0 then .nilIface else .iface 30 (.int .i64 e)
/-- What the groups tell behind an apply. -/
def applyR (g : Bool) (x : Out) (l : List Out) (ents : List Ent) : Prop :=
  if g = false then RepAll ents (x :: l) else if okB l x = true then (x ∈ l → RepAll ents (l.erase x)) else RepAll ents l
theorem applyR_none {x : Out} {l : List Out} {ents : List Ent} (h : applyR true x l ents) (ho : okB l x = false) : RepAll ents l := by
  unfold applyR at h
  rwa [if_neg (by decide), if_neg (by rw [ho]; decide)] at h
theorem gp_apply {w wr : World} {A n : Nat} {l : List Out} (h : GP w wr A (RepAll · l) l n) (hn : n < wr.heap.size) (x : Out) (hx : x.ok) (hl : l.length < 1000000) (g : Bool) (e9 : Int) (he : (if (g && !okB l x) = true then 8 else 0) = e9) :
    Calls Tryd.prog 13 #[.pointer (some ⟨A, 0, none⟩), encC x g] wr fun e w' => e = .returned (erV e9) ∧ GP w w' A (applyR g x l) l n ∧ w'.heap[n]? = wr.heap[n]? := by
  cases g with
  | false =>
    obtain rfl : e9 = 0 := by rw [← he]; rfl
    exact (gp_add h hn x hx hl).mono fun e w' hh => ⟨hh.1, hh.2.1.to (fun e he => by unfold applyR; rw [if_pos rfl]; exact he), hh.2.2⟩
  | true =>
    cases ho : okB l x with
    | true =>
      obtain rfl : e9 = 0 := by rw [← he, ho]; rfl
      exact (gp_less h hn x hx hl ho).mono fun e w' hh => ⟨hh.1, hh.2.1.to (fun e he => by unfold applyR; rw [if_neg (by decide), if_pos ho]; exact he), hh.2.2⟩
    | false =>
      obtain rfl : e9 = 8 := by rw [← he, ho]; rfl
      exact (gp_none h hn x hx hl ho).mono fun e w' hh => ⟨hh.1, hh.2.1.to (fun e he => by unfold applyR; rw [if_neg (by decide), if_neg (by rw [ho]; decide)]; exact he), hh.2.2⟩
theorem bare_erV (e : Int) (w : World) (hg : Laid w) : Calls Tryd.prog 10 #[erV e, .int .i64 e] w fun r w' => r = .returned (.bool true) ∧ Ext w w' := by
  unfold erV
  split
  · rename_i h; subst h
    exact (lbare_nil 0 w).mono fun e w' hh => ⟨by simpa using hh.1, hh.2 ▸ ExtM.refl _⟩
  · exact (lbare_c e e w hg).mono fun r w' hh => ⟨by simpa using hh.1, hh.2⟩

theorem gp_of {w wr : World} {A n : Nat} {l : List Out} {key : Int} (h : GP w wr A (RepAll · l) l n) (hk : I64 key) (hl : l.length < 1000000) :
    ∃ (r : GRow) (c : Int), refGV l key = .tuple #[.agg #[.int .i64 r.key, .int .i64 r.cnt, .int .i64 r.sum, .int .i64 r.least, .int .i64 r.most, .bool r.some], .int .i64 c] ∧
      ∀ w', Ext wr w' → Calls Tryd.prog 16 #[.pointer (some ⟨A, 0, none⟩), .int .i64 key] w' fun e w'' => e = .returned (.tuple #[.agg #[.int .i64 r.key, .int .i64 r.cnt, .int .i64 r.sum, .int .i64 r.least, .int .i64 r.most, .bool r.some], erV c]) ∧ Ext w' w'' := by
  obtain ⟨⟨D, ents, v, h1, h2, h3, h4, h5, h6, h7⟩, h8, h9⟩ := h
  have hr := h2 key
  cases ha : st ents key with
  | none =>
    rw [ha] at hr
    refine ⟨⟨0, 0, 0, 0, 0, false⟩, 8, by unfold refGV; rw [if_pos (show ofKey l key = [] from hr)], fun w' hx => ?_⟩
    exact grpOfNone_c A 0 D ents key w' (h1.of hx (fun _ _ => id)) hk ha
  | some a =>
    rw [ha] at hr
    have hb := h2.bound ha
    refine ⟨grow key (ofKey l key), 0, by unfold refGV; rw [if_neg hr.1]; rfl, fun w' hx => ?_⟩
    have := grpOfSome_c A 0 D ents key a w' (h1.of hx (fun _ _ => id)) hk ha (by omega)
    rw [grpOf_val, grow_rep hr.2] at this
    exact this
theorem gp_all {w wr : World} {A n : Nat} {l : List Out} (h : GP w wr A (RepAll · l) l n) (hl : l.length < 1000000) :
    ∃ rows, rows.length ≤ l.length ∧ refGs l = rows ∧ ∀ w', Ext wr w' → Calls Tryd.prog 18 #[.pointer (some ⟨A, 0, none⟩)] w' (GrpsV w' rows) := by
  obtain ⟨⟨D, ents, v, h1, h2, h3, h4, h5, h6, h7⟩, h8, h9⟩ := h
  have hf := h2.few h1.nodup
  refine ⟨allG ents, by unfold allG; rw [List.length_map, sortI_length, List.length_map]; exact hf, refGs_eq h2 h1.nodup, fun w' hx => ?_⟩
  exact grpAll A 0 D ents w' (h1.of hx (fun _ _ => id)) (by omega) (fun e he => by have := ent_bound h1 h2 e he; omega)
theorem same_ok {p1 p2 : Option Addr} {c1 c2 : Nat} {rows rows' : List GRow} {w : World} (he : rows' = rows) (h1 : GrpsOf w p1 rows) (h2 : GrpsOf w p2 rows') (hl : rows.length < 1000000000) :
    Calls Tryd.prog 17 #[.slice p1 rows.length c1, .slice p2 rows'.length c2] w fun e w' => e = .returned (.bool true) ∧ Ext w w' := by
  subst he
  exact sameGroups_c p1 p2 c1 c2 rows' w h1 h2 hl

theorem any_take {l : List Out} {j : Nat} {y : Out} (h : l[j]? = some y) (f : Out → Bool) : (l.take (j + 1)).any f = ((l.take j).any f || f y) := by
  rw [take_snoc h]; simp

set_option maxRecDepth 100000 in
set_option maxHeartbeats 8000000 in
theorem groupPlays_w (pa : Option Addr) (ca : Nat) (cs : List (Out × Bool)) (key : Int) (w : World) (hg : Laid w) (hok : ∀ c ∈ cs, c.1.ok) (ia : ChangesIn w pa cs) (hkey : I64 key) :
    Calls Tryd.prog 4 #[.slice pa cs.length ca, .int .i64 key] w fun e w' => e = .returned (.bool true) ∧ Ext w w' := by
  by_cases h120 : 120 < cs.length
  · have d1 : decide (120 < (cs.length : Int)) = true := by simp; omega
    go_enter Tryd.func4, Tryd.ntmps4
    go_wp2_with fail
    go_ret
    exact ⟨rfl, ExtM.refl _⟩
  have d1 : decide (120 < (cs.length : Int)) = false := by simp; omega
  go_enter Tryd.func4, Tryd.ntmps4
  go_wp2_with fail
  have hT := GP.new w 40 41
  generalize (w.alloc (.cells #[.map none] 40)).alloc (.cells #[.slice none 0 0] 41) = w0 at *
  generalize hA : w.heap.size = A at *
  have HA := Lib.hid hA
  clear hA
  go_loopw [7] (fun i wr => ∃ (k : Nat) (l : List Out), k ≤ cs.length ∧ i = .int .i64 k ∧ GP w wr A (RepAll · l) l (A + 1) ∧ l.length ≤ k ∧ ∀ y ∈ l, y.ok) (fun i _ => cs.length - (intOf i).toNat)
  case atStart => exact ⟨0, [], Nat.zero_le _, rfl, hT, Nat.le_refl _, by simp⟩
  case round =>
    clear hT
    obtain ⟨k, l, hk, rfl, hT, hll, hlo⟩ := hrel
    by_cases hkl : k < cs.length
    · have hd : decide ((k : Int) < cs.length) = true := by simp; omega
      rcases ia with rfl | ⟨b, off, rfl, hel⟩
      · simp at hkl
      have el := (hel k hkl).of hT.ext
      have lb := el.lt
      have hxo : (cs[k]).1.ok := hok _ (List.getElem_mem hkl)
      generalize (cs[k]).1 = x at *
      generalize (cs[k]).2 = g at *
      obtain ⟨e0, e1, e2, e3, e4, e5, e6, e7, e8, e9⟩ := id el
      go_upto_if 31 with fail
      have bc := BoxC.mk' wr x g 47
      have x1 : Ext wr (wr.alloc (.cells #[.int .i64 x.key, .int .i64 x.l.k, .int .i64 x.l.t, .int .i64 x.l.v, .int .i64 x.r.k, .int .i64 x.r.t, .int .i64 x.r.v, .bool x.hl, .bool x.hr, .bool g] 47)) := (ExtM.refl _).alloc _
      have hT1 := hT.box (.cells #[.int .i64 x.key, .int .i64 x.l.k, .int .i64 x.l.t, .int .i64 x.l.v, .int .i64 x.r.k, .int .i64 x.r.t, .int .i64 x.r.v, .bool x.hl, .bool x.hr, .bool g] 47)
      clear e0 e1 e2 e3 e4 e5 e6 e7 e8 e9 el lb hT x1
      generalize wr.alloc (.cells #[.int .i64 x.key, .int .i64 x.l.k, .int .i64 x.l.t, .int .i64 x.l.v, .int .i64 x.r.k, .int .i64 x.r.t, .int .i64 x.r.v, .bool x.hl, .bool x.hr, .bool g] 47) = w1 at *
      generalize wr.heap.size = n8 at *
      generalize Value.agg #[.int .i64 x.key, .int .i64 x.l.k, .int .i64 x.l.t, .int .i64 x.l.v, .int .i64 x.r.k, .int .i64 x.r.t, .int .i64 x.r.v, .bool x.hl, .bool x.hr, .bool g] = V2
      go_cut [9] (fun s9 wx => s9 = .int .i64 (if (g && !okB l x) = true then 8 else 0) ∧ GP w wx A (RepAll · l) l n8 ∧ BoxC wx n8 x g)
      case first =>
        have hn8 : n8 < w1.heap.size := cell_lt' bc.e0
        obtain ⟨e0, e1, e2, e3, e4, e5, e6, e7, e8, e9⟩ := id bc
        go_wp2_with fail
        · have hgt : g = true := by assumption
          refine Plan.begin Plan.Ext 6 rfl (by kernel_rfl) ?_
          refine Plan.left_q 0 (by rfl) (by kernel_rfl) ?_; go_big_quiet_step (fail); refine wpQuiet_nil ?_
          refine Plan.left_q 1 (by rfl) (by kernel_rfl) ?_; go_big_quiet_step (fail); refine wpQuiet_nil ?_
          refine Plan.left_q 2 (by rfl) (by kernel_rfl) ?_; go_big_quiet_step (fail); refine wpQuiet_nil ?_
          refine Plan.left_q 3 (by rfl) (by kernel_rfl) ?_; go_big_quiet_step (fail); refine wpQuiet_nil ?_
          refine Plan.left_q 4 (by rfl) (by kernel_rfl) ?_; go_big_quiet_step (fail); refine wpQuiet_nil ?_
          refine Plan.left_q 5 (by rfl) (by kernel_rfl) ?_; go_big_quiet_step (fail); refine wpQuiet_nil ?_
          refine Plan.left_done (by kernel_rfl) ?_
          clear e0 e1 e2 e3 e4 e5 e6 e7 e8 e9
          replace hT1 := hT1.of ((ExtM.refl w1).drew : Ext w1 w1.drew)
          replace bc := bc.of ((ExtM.refl w1).drew : Ext w1 w1.drew) id
          generalize w1.drew = w2 at *
          go_wp2_with fail
          go_loopw [10, 11, 12] (fun s10 s11 i wr => ∃ j : Nat, j ≤ l.length ∧ i = .int .i64 j ∧ s10 = .bool ((l.take j).any (fun y => y.key == x.key)) ∧ s11 = .bool (!x.hr || (l.take j).any (fun y => y.key == x.key && (y.hr && y.r.v == x.r.v))) ∧ Ext w2 wr) (fun _ _ i _ => l.length - (intOf i).toNat)
          case atStart => exact ⟨0, Nat.zero_le _, rfl, rfl, by simp, ExtM.refl _⟩
          case round =>
            obtain ⟨j, hj, rfl, hs10, hs11, hx⟩ := hrel
            generalize hb10 : (l.take j).any (fun y => y.key == x.key) = b10 at *
            generalize hb11 : (!x.hr || (l.take j).any (fun y => y.key == x.key && (y.hr && y.r.v == x.r.v))) = b11 at *
            subst hs10 hs11
            have HB10 := Lib.hid hb10
            have HB11 := Lib.hid hb11
            clear hb10 hb11
            have hT2 := hT1.of hx
            have bc2 := bc.of hx id
            have hn8 : n8 < wr.heap.size := cell_lt' bc2.e0
            have hAl := hT2.size
            obtain ⟨p, cap, cA, ho⟩ := hT2.slice
            by_cases hjl : j < l.length
            · have hd2 : decide ((j : Int) < l.length) = true := by simp; omega
              rcases ho with hn | ⟨q, rfl, hel2⟩
              · rw [hn] at hjl; simp at hjl
              have hlj : l[j]? = some l[j] := List.getElem?_eq_getElem hjl
              have el := hel2 j hjl
              have lb := el.lt
              generalize l[j] = y at *
              have HLJ := Lib.hid hlj
              clear hlj hel2 hT2
              obtain ⟨e0, e1, e2, e3, e4, e5, e6, e7, e8, e9⟩ := id bc2
              obtain ⟨g0, g1, g2, g3, g4, g5, g6, g7, g8⟩ := id el
              go_wp2_with fail
              refine Plan.begin Plan.Ext 9 rfl (by kernel_rfl) ?_
              refine Plan.left_q 0 (by rfl) (by kernel_rfl) ?_; go_big_quiet_step (fail); refine wpQuiet_nil ?_
              refine Plan.left_q 1 (by rfl) (by kernel_rfl) ?_; go_big_quiet_step (fail); refine wpQuiet_nil ?_
              refine Plan.left_q 2 (by rfl) (by kernel_rfl) ?_; go_big_quiet_step (fail); refine wpQuiet_nil ?_
              refine Plan.left_q 3 (by rfl) (by kernel_rfl) ?_; go_big_quiet_step (fail); refine wpQuiet_nil ?_
              refine Plan.left_q 4 (by rfl) (by kernel_rfl) ?_; go_big_quiet_step (fail); refine wpQuiet_nil ?_
              refine Plan.left_q 5 (by rfl) (by kernel_rfl) ?_; go_big_quiet_step (fail); refine wpQuiet_nil ?_
              refine Plan.left_q 6 (by rfl) (by kernel_rfl) ?_; go_big_quiet_step (fail); refine wpQuiet_nil ?_
              refine Plan.left_q 7 (by rfl) (by kernel_rfl) ?_; go_big_quiet_step (fail); refine wpQuiet_nil ?_
              refine Plan.left_q 8 (by rfl) (by kernel_rfl) ?_; go_big_quiet_step (fail); refine wpQuiet_nil ?_
              refine Plan.left_done (by kernel_rfl) ?_
              go_wp2_with fail
              · have hyk : (y.key == x.key) = true := by assumption
                have h1 : (l.take (j + 1)).any (fun y => y.key == x.key) = true := by rw [any_take HLJ.out, hyk, Bool.or_true]
                have h2 : (!x.hr || (l.take (j + 1)).any (fun y => y.key == x.key && (y.hr && y.r.v == x.r.v))) = (b11 || (y.hr && y.r.v == x.r.v)) := by
                  rw [any_take HLJ.out, ← Bool.or_assoc, HB11.out, hyk, Bool.true_and]
                have H1 := Lib.hid h1
                have H2 := Lib.hid h2
                clear h1 h2 HB11 HB10 HLJ el hyk
                have hxd : Ext w2 wr.drew := hx.drew
                have cA' : wr.drew.cell? ⟨A + 1, 0, none⟩ = some (.slice (some ⟨q, 0, none⟩) l.length cap) := cA
                have gd4 : wr.drew.cell? ⟨q, j * 9 + 6, none⟩ = some (.int .i64 y.r.v) := g6
                have gd8 : wr.drew.cell? ⟨q, j * 9 + 8, none⟩ = some (.bool y.hr) := g8
                have ed6 : wr.drew.cell? ⟨n8, 6, none⟩ = some (.int .i64 x.r.v) := e6
                have hA2 : A + 1 < wr.drew.heap.size := hAl
                have hn2 : n8 < wr.drew.heap.size := hn8
                have hq2 : q < wr.drew.heap.size := lb
                clear e0 e1 e2 e3 e4 e5 e6 e7 e8 e9 g0 g1 g2 g3 g4 g5 g6 g7 g8 cA bc2 hAl hn8 lb hx
                generalize wr.drew = wd at *
                cases b11
                · rcases Bool.eq_false_or_eq_true y.hr with hyh | hyh
                  · rw [hyh] at gd8
                    have HYH := Lib.hid hyh
                    clear hyh
                    refine Plan.begin Plan.Ext 22 rfl (by kernel_rfl) ?_
                    refine Plan.left_q 0 (by rfl) (by kernel_rfl) ?_; go_big_quiet_step (fail); refine wpQuiet_nil ?_
                    refine Plan.left_q 1 (by rfl) (by kernel_rfl) ?_; go_big_quiet_step (fail); refine wpQuiet_nil ?_
                    refine Plan.left_q 2 (by rfl) (by kernel_rfl) ?_; go_big_quiet_step (fail); refine wpQuiet_nil ?_
                    refine Plan.left_q 3 (by rfl) (by kernel_rfl) ?_; go_big_quiet_step (fail); refine wpQuiet_nil ?_
                    refine Plan.left_q 4 (by rfl) (by kernel_rfl) ?_; go_big_quiet_step (fail); refine wpQuiet_nil ?_
                    refine Plan.left_q 5 (by rfl) (by kernel_rfl) ?_; go_big_quiet_step (fail); refine wpQuiet_nil ?_
                    refine Plan.left_q 6 (by rfl) (by kernel_rfl) ?_; go_big_quiet_step (fail); refine wpQuiet_nil ?_
                    refine Plan.left_q 7 (by rfl) (by kernel_rfl) ?_; go_big_quiet_step (fail); refine wpQuiet_nil ?_
                    refine Plan.left_q 8 (by rfl) (by kernel_rfl) ?_; go_big_quiet_step (fail); refine wpQuiet_nil ?_
                    refine Plan.left_q 9 (by rfl) (by kernel_rfl) ?_; go_big_quiet_step (fail); refine wpQuiet_nil ?_
                    refine Plan.left_q 10 (by rfl) (by kernel_rfl) ?_; go_big_quiet_step (fail); refine wpQuiet_nil ?_
                    refine Plan.left_q 11 (by rfl) (by kernel_rfl) ?_; go_big_quiet_step (fail); refine wpQuiet_nil ?_
                    refine Plan.left_q 12 (by rfl) (by kernel_rfl) ?_; go_big_quiet_step (fail); refine wpQuiet_nil ?_
                    refine Plan.left_q 13 (by rfl) (by kernel_rfl) ?_; go_big_quiet_step (fail); refine wpQuiet_nil ?_
                    refine Plan.left_q 14 (by rfl) (by kernel_rfl) ?_; go_big_quiet_step (fail); refine wpQuiet_nil ?_
                    refine Plan.left_q 15 (by rfl) (by kernel_rfl) ?_; go_big_quiet_step (fail); refine wpQuiet_nil ?_
                    refine Plan.left_q 16 (by rfl) (by kernel_rfl) ?_; go_big_quiet_step (fail); refine wpQuiet_nil ?_
                    refine Plan.left_q 17 (by rfl) (by kernel_rfl) ?_; go_big_quiet_step (fail); refine wpQuiet_nil ?_
                    refine Plan.left_q 18 (by rfl) (by kernel_rfl) ?_; go_big_quiet_step (fail); refine wpQuiet_nil ?_
                    refine Plan.left_q 19 (by rfl) (by kernel_rfl) ?_; go_big_quiet_step (fail); refine wpQuiet_nil ?_
                    refine Plan.left_q 20 (by rfl) (by kernel_rfl) ?_; go_big_quiet_step (fail); refine wpQuiet_nil ?_
                    refine Plan.left_q 21 (by rfl) (by kernel_rfl) ?_; go_big_quiet_step (fail); refine wpQuiet_nil ?_
                    refine Plan.left_done (by kernel_rfl) ?_
                    go_wp2_with fail
                    go_roundw
                    case rel => exact ⟨j + 1, by omega, by go_num, by rw [H1.out], by rw [H2.out, HYH.out]; simp, hxd.drew⟩
                    case measure => simp [intOf]; omega
                  · rw [hyh] at gd8
                    have HYH := Lib.hid hyh
                    clear hyh
                    refine Plan.begin Plan.Ext 22 rfl (by kernel_rfl) ?_
                    refine Plan.left_q 0 (by rfl) (by kernel_rfl) ?_; go_big_quiet_step (fail); refine wpQuiet_nil ?_
                    refine Plan.left_q 1 (by rfl) (by kernel_rfl) ?_; go_big_quiet_step (fail); refine wpQuiet_nil ?_
                    refine Plan.left_q 2 (by rfl) (by kernel_rfl) ?_; go_big_quiet_step (fail); refine wpQuiet_nil ?_
                    refine Plan.left_q 3 (by rfl) (by kernel_rfl) ?_; go_big_quiet_step (fail); refine wpQuiet_nil ?_
                    refine Plan.left_q 4 (by rfl) (by kernel_rfl) ?_; go_big_quiet_step (fail); refine wpQuiet_nil ?_
                    refine Plan.left_q 5 (by rfl) (by kernel_rfl) ?_; go_big_quiet_step (fail); refine wpQuiet_nil ?_
                    refine Plan.left_q 6 (by rfl) (by kernel_rfl) ?_; go_big_quiet_step (fail); refine wpQuiet_nil ?_
                    refine Plan.left_q 7 (by rfl) (by kernel_rfl) ?_; go_big_quiet_step (fail); refine wpQuiet_nil ?_
                    refine Plan.left_q 8 (by rfl) (by kernel_rfl) ?_; go_big_quiet_step (fail); refine wpQuiet_nil ?_
                    refine Plan.left_q 9 (by rfl) (by kernel_rfl) ?_; go_big_quiet_step (fail); refine wpQuiet_nil ?_
                    refine Plan.left_q 10 (by rfl) (by kernel_rfl) ?_; go_big_quiet_step (fail); refine wpQuiet_nil ?_
                    refine Plan.left_q 11 (by rfl) (by kernel_rfl) ?_; go_big_quiet_step (fail); refine wpQuiet_nil ?_
                    refine Plan.left_q 12 (by rfl) (by kernel_rfl) ?_; go_big_quiet_step (fail); refine wpQuiet_nil ?_
                    refine Plan.left_q 13 (by rfl) (by kernel_rfl) ?_; go_big_quiet_step (fail); refine wpQuiet_nil ?_
                    refine Plan.left_q 14 (by rfl) (by kernel_rfl) ?_; go_big_quiet_step (fail); refine wpQuiet_nil ?_
                    refine Plan.left_q 15 (by rfl) (by kernel_rfl) ?_; go_big_quiet_step (fail); refine wpQuiet_nil ?_
                    refine Plan.left_q 16 (by rfl) (by kernel_rfl) ?_; go_big_quiet_step (fail); refine wpQuiet_nil ?_
                    refine Plan.left_q 17 (by rfl) (by kernel_rfl) ?_; go_big_quiet_step (fail); refine wpQuiet_nil ?_
                    refine Plan.left_q 18 (by rfl) (by kernel_rfl) ?_; go_big_quiet_step (fail); refine wpQuiet_nil ?_
                    refine Plan.left_q 19 (by rfl) (by kernel_rfl) ?_; go_big_quiet_step (fail); refine wpQuiet_nil ?_
                    refine Plan.left_q 20 (by rfl) (by kernel_rfl) ?_; go_big_quiet_step (fail); refine wpQuiet_nil ?_
                    refine Plan.left_q 21 (by rfl) (by kernel_rfl) ?_; go_big_quiet_step (fail); refine wpQuiet_nil ?_
                    refine Plan.left_done (by kernel_rfl) ?_
                    go_wp2_with fail
                    go_roundw
                    case rel => exact ⟨j + 1, by omega, by go_num, by rw [H1.out], by rw [H2.out, HYH.out]; simp, hxd.drew⟩
                    case measure => simp [intOf]; omega
                · skip
                  refine Plan.begin Plan.Ext 22 rfl (by kernel_rfl) ?_
                  refine Plan.left_q 0 (by rfl) (by kernel_rfl) ?_; go_big_quiet_step (fail); refine wpQuiet_nil ?_
                  refine Plan.left_q 1 (by rfl) (by kernel_rfl) ?_; go_big_quiet_step (fail); refine wpQuiet_nil ?_
                  refine Plan.left_q 2 (by rfl) (by kernel_rfl) ?_; go_big_quiet_step (fail); refine wpQuiet_nil ?_
                  refine Plan.left_q 3 (by rfl) (by kernel_rfl) ?_; go_big_quiet_step (fail); refine wpQuiet_nil ?_
                  refine Plan.left_q 4 (by rfl) (by kernel_rfl) ?_; go_big_quiet_step (fail); refine wpQuiet_nil ?_
                  refine Plan.left_q 5 (by rfl) (by kernel_rfl) ?_; go_big_quiet_step (fail); refine wpQuiet_nil ?_
                  refine Plan.left_q 6 (by rfl) (by kernel_rfl) ?_; go_big_quiet_step (fail); refine wpQuiet_nil ?_
                  refine Plan.left_q 7 (by rfl) (by kernel_rfl) ?_; go_big_quiet_step (fail); refine wpQuiet_nil ?_
                  refine Plan.left_q 8 (by rfl) (by kernel_rfl) ?_; go_big_quiet_step (fail); refine wpQuiet_nil ?_
                  refine Plan.left_q 9 (by rfl) (by kernel_rfl) ?_; go_big_quiet_step (fail); refine wpQuiet_nil ?_
                  refine Plan.left_q 10 (by rfl) (by kernel_rfl) ?_; go_big_quiet_step (fail); refine wpQuiet_nil ?_
                  refine Plan.left_q 11 (by rfl) (by kernel_rfl) ?_; go_big_quiet_step (fail); refine wpQuiet_nil ?_
                  refine Plan.left_q 12 (by rfl) (by kernel_rfl) ?_; go_big_quiet_step (fail); refine wpQuiet_nil ?_
                  refine Plan.left_q 13 (by rfl) (by kernel_rfl) ?_; go_big_quiet_step (fail); refine wpQuiet_nil ?_
                  refine Plan.left_q 14 (by rfl) (by kernel_rfl) ?_; go_big_quiet_step (fail); refine wpQuiet_nil ?_
                  refine Plan.left_q 15 (by rfl) (by kernel_rfl) ?_; go_big_quiet_step (fail); refine wpQuiet_nil ?_
                  refine Plan.left_q 16 (by rfl) (by kernel_rfl) ?_; go_big_quiet_step (fail); refine wpQuiet_nil ?_
                  refine Plan.left_q 17 (by rfl) (by kernel_rfl) ?_; go_big_quiet_step (fail); refine wpQuiet_nil ?_
                  refine Plan.left_q 18 (by rfl) (by kernel_rfl) ?_; go_big_quiet_step (fail); refine wpQuiet_nil ?_
                  refine Plan.left_q 19 (by rfl) (by kernel_rfl) ?_; go_big_quiet_step (fail); refine wpQuiet_nil ?_
                  refine Plan.left_q 20 (by rfl) (by kernel_rfl) ?_; go_big_quiet_step (fail); refine wpQuiet_nil ?_
                  refine Plan.left_q 21 (by rfl) (by kernel_rfl) ?_; go_big_quiet_step (fail); refine wpQuiet_nil ?_
                  refine Plan.left_done (by kernel_rfl) ?_
                  go_wp2_with fail
                  go_roundw
                  case rel => exact ⟨j + 1, by omega, by go_num, by rw [H1.out], by rw [H2.out]; simp, hxd.drew⟩
                  case measure => simp [intOf]; omega
              · have hyk : (y.key == x.key) = false := by assumption
                have h1 : (l.take (j + 1)).any (fun y => y.key == x.key) = b10 := by rw [any_take HLJ.out, hyk, Bool.or_false, HB10.out]
                have h2 : (!x.hr || (l.take (j + 1)).any (fun y => y.key == x.key && (y.hr && y.r.v == x.r.v))) = b11 := by
                  rw [any_take HLJ.out, ← Bool.or_assoc, HB11.out, hyk, Bool.false_and, Bool.or_false]
                refine ⟨⟨j + 1, by omega, by go_num, by rw [h1], by rw [h2], hx.drew⟩, by simp [intOf]; omega⟩
            · obtain rfl : j = l.length := by omega
              have hd2 : decide ((l.length : Int) < l.length) = false := by simp
              have hokb : okB l x = (b10 && b11) := by
                have q1 := HB10.out
                have q2 := HB11.out
                rw [List.take_length] at q1 q2
                unfold okB; rw [q1, q2]
              have HOKB := Lib.hid hokb
              clear ho hokb HB10 HB11
              go_wp2_with fail
              all_goals
                go_meet
                case rel =>
                  refine ⟨?_, hT2, bc2⟩
                  rw [HOKB.out, hgt]
                  simp [*]
        · have hgt : g = false := by assumption
          go_meet
          case rel => exact ⟨by rw [hgt]; rfl, hT1, bc⟩
      case rest =>
        clear hT1 bc
        obtain ⟨hs9, hT, bc⟩ := hcut
        obtain ⟨e9, he9⟩ : ∃ e9 : Int, (if (g && !okB l x) = true then 8 else 0) = e9 := ⟨_, rfl⟩
        rw [he9] at hs9
        subst hs9
        have HE9 := Lib.hid he9
        clear he9
        have hn8 : n8 < wc.heap.size := cell_lt' bc.e0
        obtain ⟨c0, c1, c2, c3, c4, c5, c6, c7, c8, c9⟩ := id bc
        go_wp2_with fail
        refine (gp_apply hT hn8 x hxo (by omega) g e9 HE9.out).mono ?_
        rintro e w3 ⟨rfl, hT3, hb3⟩
        clear c0 c1 c2 c3 c4 c5 c6 c7 c8 c9
        have bc3 := bc.keep hb3
        have hn8 : n8 < w3.heap.size := cell_lt' bc3.e0
        clear bc hb3 hT
        go_wp2_with fail
        refine (bare_erV e9 w3 (hg.of hT3.ext)).mono ?_
        rintro e w4 ⟨rfl, x4⟩
        have hT4 := hT3.of x4
        have bc4 := bc3.of x4 id
        have hn8 : n8 < w4.heap.size := cell_lt' bc4.e0
        clear bc3 hT3 x4
        go_upto_if 82 with fail
        go_cut [] (fun wx => ∃ l', GP w wx A (RepAll · l') l' (A + 1) ∧ l'.length ≤ k + 1 ∧ ∀ y ∈ l', y.ok)
        case first =>
          obtain ⟨c0, c1, c2, c3, c4, c5, c6, c7, c8, c9⟩ := id bc4
          cases g with
          | false =>
            have he : e9 = 0 := by rw [← HE9.out]; rfl
            subst he
            obtain ⟨v, p, n, cap, w5, cA, ⟨p0, q0, rfl⟩, happ, hi5, hf5, hT5⟩ := gp_append hT4 x (by omega)
            have hAl := hT4.size
            go_wp2_with (at_builtin; refine wpList_append_run happ rfl rfl _ _ rfl rfl rfl ?_; clear happ)
            go_meet
            case rel =>
              exact ⟨l ++ [x], (hT5.to (fun e he => by
                unfold applyR at he; rw [if_pos rfl] at he
                exact RepAll.of_perm he (List.perm_append_singleton x l).symm)).any, by simp; omega, fun y hy => by
                rcases List.mem_append.1 hy with hy | hy
                · exact hlo y hy
                · obtain rfl := List.mem_singleton.1 hy; exact hxo⟩
          | true =>
            cases hob : okB l x with
            | true =>
              have he : e9 = 0 := by rw [← HE9.out, hob]; rfl
              have HOB := Lib.hid hob
              clear hob
              subst he
              go_wp2_with fail
              refine (gp_drop hT4 x (by omega)).mono ?_
              rintro e w5 ⟨rfl, hdr⟩
              by_cases hxl : x ∈ l
              · have hdm : decide (x ∈ l) = true := by simp [hxl]
                rw [hdm]
                have hT5 := gp_dropped (hT4.to (fun e he => by
                  unfold applyR at he; rw [if_neg (by decide), if_pos HOB.out] at he
                  exact he)) hdr hxl
                clear c0 c1 c2 c3 c4 c5 c6 c7 c8 c9 hdr hdm hT4 bc4
                go_wp2_with fail
                go_meet
                case rel =>
                  exact ⟨l.erase x, hT5.any, by have := List.length_erase_of_mem hxl; omega, fun y hy => hlo y (List.mem_of_mem_erase hy)⟩
              · have hdm : decide (x ∈ l) = false := by simp [hxl]
                rw [hdm]
                have hx5 : Ext w w5 := by
                  rcases hdr with ⟨-, h⟩ | ⟨h, -⟩
                  · exact ExtM.trans _ _ _ hT4.ext h
                  · exact absurd h hxl
                clear c0 c1 c2 c3 c4 c5 c6 c7 c8 c9 hdr hdm hT4 bc4 hxl
                go_wp2_with fail
                go_ret
                exact ⟨rfl, hx5⟩
            | false =>
              have he : e9 = 8 := by rw [← HE9.out, hob]; rfl
              have HOB := Lib.hid hob
              clear hob
              subst he
              go_wp2_with fail
              go_meet
              case rel => exact ⟨l, (hT4.to (fun e he => applyR_none he HOB.out)).any, by omega, hlo⟩
        case rest =>
          clear hT4 bc4
          obtain ⟨l', hT, hl', hlo'⟩ := hcut
          clear HE9 hlo hll
          generalize hl0 : l = l0 at *
          clear hl0
          obtain ⟨p, cap, cA, ho⟩ := hT.slice
          have hAl := hT.size
          obtain ⟨r, c, hGV, hOf⟩ := gp_of hT hkey (by omega)
          obtain ⟨rows, hrl, hGs, hAll⟩ := gp_all hT (by omega)
          have HGV := Lib.hid hGV
          have HGS := Lib.hid hGs
          clear hGV hGs
          go_wp2_with fail
          refine (refGroup_c p cap l' key wc ho (by omega)).mono ?_
          rintro e w5 ⟨x5, rfl⟩
          rw [HGV.out]
          clear cA HGV
          go_wp2_with fail
          have x6 : Ext wc (w5.alloc (.cells #[.int .i64 r.key, .int .i64 r.cnt, .int .i64 r.sum, .int .i64 r.least, .int .i64 r.most, .bool r.some] 52)) := x5.alloc _
          have b6 := BoxG.mk' w5 r.key r.cnt r.sum r.least r.most r.some 52
          clear x5
          generalize w5.alloc (.cells #[.int .i64 r.key, .int .i64 r.cnt, .int .i64 r.sum, .int .i64 r.least, .int .i64 r.most, .bool r.some] 52) = w6 at *
          generalize w5.heap.size = n13 at *
          refine (hOf _ x6).mono ?_
          rintro e w7 ⟨rfl, x7⟩
          replace b6 := b6.keep (x7.block _ b6.lt id)
          replace x7 := ExtM.trans _ _ _ x6 x7
          clear x6
          go_wp2_with fail
          have x8 : Ext wc (w7.alloc (.cells #[.int .i64 r.key, .int .i64 r.cnt, .int .i64 r.sum, .int .i64 r.least, .int .i64 r.most, .bool r.some] 52)) := x7.alloc _
          have b8 := BoxG.mk' w7 r.key r.cnt r.sum r.least r.most r.some 52
          replace b6 := b6.keep (w' := w7.alloc (.cells #[.int .i64 r.key, .int .i64 r.cnt, .int .i64 r.sum, .int .i64 r.least, .int .i64 r.most, .bool r.some] 52)) (heap_alloc_lt b6.lt)
          clear x7
          generalize w7.alloc (.cells #[.int .i64 r.key, .int .i64 r.cnt, .int .i64 r.sum, .int .i64 r.least, .int .i64 r.most, .bool r.some] 52) = w8 at *
          generalize w7.heap.size = n15 at *
          have hT8 := hT.of x8
          have ho8 := ho.of x8
          obtain ⟨p8, cap8, cA, ho8⟩ := hT8.slice
          have hAl := hT8.size
          have h13 := b6.lt
          have h15 := b8.lt
          have hne := fun u => neq_grp r u
          obtain ⟨e0, e1, e2, e3, e4, e5, -⟩ := id b6
          obtain ⟨g0, g1, g2, g3, g4, g5, -⟩ := id b8
          have hg8 := hg.of hT8.ext
          have hrl2 : rows.length < 1000000000 := by omega
          refine Plan.begin Plan.Ext 16 rfl (by kernel_rfl) ?_
          refine Plan.left_q 0 (by rfl) (by kernel_rfl) ?_; go_big_quiet_step (fail); refine wpQuiet_nil ?_
          refine Plan.left_q 1 (by rfl) (by kernel_rfl) ?_; go_big_quiet_step (fail); refine wpQuiet_nil ?_
          refine Plan.left_one 2 (by kernel_rfl) (by rfl) (Plan.plain rfl fun K hK => ?_)
          go_wp2_with (fail)
          refine (bare_erV c _ (hg8.of (ExtM.refl _).drew)).mono ?_
          rintro e w1 ⟨rfl, h1⟩
          have H1 := ExtM.trans _ _ _ (ExtM.refl _).drew h1
          obtain ⟨hc1, hf1, -⟩ := Ext.rules H1
          have hs1_0 : n13 < w1.heap.size := by have := H1.size; (try simp at this); omega
          have hs1_1 : n15 < w1.heap.size := by have := H1.size; (try simp at this); omega
          have hs1_2 : (A+1) < w1.heap.size := by have := H1.size; (try simp at this); omega
          go_wp2_with (fail)
          refine hK _ _ h1 ?_
          clear hK K
          refine Plan.left_q 3 (by rfl) (by kernel_rfl) ?_; go_big_quiet_step (fail); refine wpQuiet_nil ?_
          refine Plan.left_q 4 (by rfl) (by kernel_rfl) ?_; go_big_quiet_step (fail); refine wpQuiet_nil ?_
          refine Plan.left_q 5 (by rfl) (by kernel_rfl) ?_; go_big_quiet_step (fail); refine wpQuiet_nil ?_
          refine Plan.left_q 6 (by rfl) (by kernel_rfl) ?_; go_big_quiet_step (fail); refine wpQuiet_nil ?_
          refine Plan.left_q 7 (by rfl) (by kernel_rfl) ?_; go_big_quiet_step (fail); refine wpQuiet_nil ?_
          refine Plan.left_q 8 (by rfl) (by kernel_rfl) ?_; go_big_quiet_step (fail); refine wpQuiet_nil ?_
          refine Plan.left_q 9 (by rfl) (by kernel_rfl) ?_; go_big_quiet_step (fail); refine wpQuiet_nil ?_
          refine Plan.left_q 11 (by rfl) (by kernel_rfl) ?_; go_big_quiet_step (fail); refine wpQuiet_nil ?_
          refine Plan.left_one 10 (by kernel_rfl) (by rfl) (Plan.want rfl fun K hK => ?_)
          go_wp2_with (fail)
          refine (hAll _ (ExtM.trans _ _ _ x8 H1)).mono ?_
          rintro e w2 ⟨p2, q2, rfl, h2, o2⟩
          clear hc1 hf1 hs1_0 hs1_1 hs1_2
          have H2 := ExtM.trans _ _ _ H1 h2
          obtain ⟨hc2, hf2, -⟩ := Ext.rules H2
          have hs2_0 : n13 < w2.heap.size := by have := H2.size; (try simp at this); omega
          have hs2_1 : n15 < w2.heap.size := by have := H2.size; (try simp at this); omega
          have hs2_2 : (A+1) < w2.heap.size := by have := H2.size; (try simp at this); omega
          go_wp2_with (fail)
          refine hK _ _ h2 ?_
          clear hK K
          refine Plan.left_one 12 (by kernel_rfl) (by rfl) (Plan.want rfl fun K hK => ?_)
          go_wp2_with (fail)
          refine (refGroups_c _ _ l' _ (ho8.of H2) (by omega)).mono ?_
          rintro e w3 ⟨p3, q3, rfl, h3, o3⟩
          clear hc2 hf2 hs2_0 hs2_1 hs2_2
          have H3 := ExtM.trans _ _ _ H2 h3
          obtain ⟨hc3, hf3, -⟩ := Ext.rules H3
          have hs3_0 : n13 < w3.heap.size := by have := H3.size; (try simp at this); omega
          have hs3_1 : n15 < w3.heap.size := by have := H3.size; (try simp at this); omega
          have hs3_2 : (A+1) < w3.heap.size := by have := H3.size; (try simp at this); omega
          go_wp2_with (fail)
          refine hK _ _ h3 ?_
          clear hK K
          refine Plan.left_one 13 (by kernel_rfl) (by rfl) (Plan.want rfl fun K hK => ?_)
          go_wp2_with (fail)
          refine (same_ok HGS.out (o2.of h3) o3 hrl2).mono ?_
          rintro e w4 ⟨rfl, h4⟩
          clear hc3 hf3 hs3_0 hs3_1 hs3_2
          have H4 := ExtM.trans _ _ _ H3 h4
          obtain ⟨hc4, hf4, -⟩ := Ext.rules H4
          have hs4_0 : n13 < w4.heap.size := by have := H4.size; (try simp at this); omega
          have hs4_1 : n15 < w4.heap.size := by have := H4.size; (try simp at this); omega
          have hs4_2 : (A+1) < w4.heap.size := by have := H4.size; (try simp at this); omega
          go_wp2_with (fail)
          refine hK _ _ h4 ?_
          clear hK K
          refine Plan.left_q 14 (by rfl) (by kernel_rfl) ?_; go_big_quiet_step (fail); refine wpQuiet_nil ?_
          refine Plan.left_q 15 (by rfl) (by kernel_rfl) ?_; go_big_quiet_step (fail); refine wpQuiet_nil ?_
          refine Plan.left_done (by kernel_rfl) ?_
          have hT9 := hT8.of H4
          clear hc4 hf4 hs4_0 hs4_1 hs4_2 e0 e1 e2 e3 e4 e5 g0 g1 g2 g3 g4 g5 h13 h15 hAl cA hT8 hne
          go_wp2_with fail
          go_roundw
          case rel => exact ⟨k + 1, l', by omega, by go_num, hT9, hl', hlo'⟩
          case measure => simp [intOf]; omega
    · obtain rfl : k = cs.length := by omega
      have hd : decide ((cs.length : Int) < cs.length) = false := by simp
      go_wp2_with fail
      go_ret
      exact ⟨rfl, hT.ext⟩
end Go.Proofs.YtggjceolhbdalaaDoor
