/- For the reference's Feed. -/
import Derived.Test.YtggjceolhbdalaaGreatDoorJRef2
namespace Go.Proofs.YtggjceolhbdalaaGreatDoor
open Go.RowKit Go.Plan

theorem rlone0_c (k t v : Int) (w : World) : Calls Tryz.prog 30 #[.int .i64 0, .agg #[.int .i64 k, .int .i64 t, .int .i64 v]] w fun e w' => e = .returned (.agg #[.int .i64 k, .int .i64 k, .int .i64 t, .int .i64 v, .int .i64 0, .int .i64 0, .int .i64 0, .bool true, .bool false]) ∧ Ext w w' := by
  have := rlone_c 0 k t v w
  rwa [if_pos rfl] at this
theorem rlone1_c (k t v : Int) (w : World) : Calls Tryz.prog 30 #[.int .i64 1, .agg #[.int .i64 k, .int .i64 t, .int .i64 v]] w fun e w' => e = .returned (.agg #[.int .i64 k, .int .i64 0, .int .i64 0, .int .i64 0, .int .i64 k, .int .i64 t, .int .i64 v, .bool false, .bool true]) ∧ Ext w w' := by
  have := rlone_c 1 k t v w
  rwa [if_neg (by decide)] at this
theorem rinT_c (a b c : Int) (w : World) (h : a ≤ b ∧ b ≤ c) : Calls Tryz.prog 24 #[.int .i64 b, .int .i64 a, .int .i64 c] w fun e w' => e = .returned (.bool true) ∧ Ext w w' :=
  (rin_T a b c w h).mono fun e w' hh => ⟨hh.1, hh.2 ▸ ExtM.refl _⟩
theorem rinF_c (a b c : Int) (w : World) (h : ¬ (a ≤ b ∧ b ≤ c)) : Calls Tryz.prog 24 #[.int .i64 b, .int .i64 a, .int .i64 c] w fun e w' => e = .returned (.bool false) ∧ Ext w w' :=
  (rin_F a b c w h).mono fun e w' hh => ⟨hh.1, hh.2 ▸ ExtM.refl _⟩

def RFeedPost (u : World) (J : Nat) (r0 r1 : Value) (lo hi md : Int) (s : Nat) (r : Row) (st : RSt) (e : Ending) (u' : World) : Prop :=
  ∃ (vo : Value) (R : List RHd), e = .returned (.tuple #[vo, .int .i64 (feedE lo hi s r st.x st.y (st.of s).length)]) ∧
    CRow u' u.heap.size vo (if feedE lo hi s r st.x st.y (st.of s).length = 0 then chgs md s r ((R.map RHd.hd).filter (meetP r.k (frI lo hi s r.t) (tilI lo hi s r.t))) else []) ∧
    (feedE lo hi s r st.x st.y (st.of s).length = 0 → R.Perm (st.of (1 - s)) ∧ R.Pairwise (fun a b => ¬ ltR b a)) ∧ RUp u u' J (RFoot J r0 r1) lo hi md (rfeedJ lo hi s r st)

theorem rfeed_err {u u' : World} {J : Nat} {r0 r1 : Value} {lo hi md : Int} {s : Nat} {r : Row} {st : RSt} (h : RIs u J r0 r1 lo hi md st) (hx : Ext u u') (e : Int) (hE : feedE lo hi s r st.x st.y (st.of s).length = e) (h0 : e ≠ 0) (h10 : e ≠ 10) :
    RFeedPost u J r0 r1 lo hi md s r st (.returned (.tuple #[.slice none 0 0, .int .i64 e])) u' := by
  refine ⟨.slice none 0 0, [], by rw [hE], ?_, fun q => absurd (hE.symm.trans q) h0, ?_⟩
  · rw [hE, if_neg h0]; exact nilC _ _
  · unfold rfeedJ; simp only [hE, if_neg h0, if_neg h10]; exact RUp.same ⟨r0, r1, h, rfl⟩ hx
theorem rfeed_late {u u' : World} {J : Nat} {r0 r1 : Value} {lo hi md : Int} {s : Nat} {r : Row} {st : RSt} (h : RIs u J r0 r1 lo hi md st) (hx : Ext u u') (hE : feedE lo hi s r st.x st.y (st.of s).length = 10) :
    RFeedPost u J r0 r1 lo hi md s r st (.returned (.tuple #[.slice none 0 0, .int .i64 10])) (u'.setCell ⟨J, 7, none⟩ (.int .i64 (wrap64 (st.late + 1)))) := by
  obtain ⟨h1, h2⟩ := (h.ext hx).late (wrap64 (st.late + 1))
  refine ⟨.slice none 0 0, [], by rw [hE], ?_, fun q => absurd (hE.symm.trans q) (by decide), ?_⟩
  · rw [hE, if_neg (by decide)]; exact nilC _ _
  · unfold rfeedJ
    simp only [hE, if_pos]
    exact ⟨(hx.mono (fun _ _ h => h.elim) : ExtM (fun k => k = J) u u').fresh' h2 (fun _ _ h => h) |>.mono (fun k _ e => .inl e), _, ⟨r0, r1, h1, rfl⟩, fun k hk => .inl hk⟩

/-- Which rows are met, in order, of those at these places. -/
def pickR (p : Hd → Bool) (L : List RHd) (is : List Nat) : List RHd := (is.map (fun q => L[q]!)).filter (fun x => p x.hd)
theorem pickR_T {p : Hd → Bool} {L : List RHd} {is : List Nat} {q : Nat} (h : p L[q]!.hd = true) : pickR p L (is ++ [q]) = pickR p L is ++ [L[q]!] := by
  unfold pickR; rw [List.map_append, List.filter_append, List.map_singleton, List.filter_cons, if_pos h, List.filter_nil]
theorem pickR_F {p : Hd → Bool} {L : List RHd} {is : List Nat} {q : Nat} (h : p L[q]!.hd = false) : pickR p L (is ++ [q]) = pickR p L is := by
  unfold pickR; rw [List.map_append, List.filter_append, List.map_singleton, List.filter_cons, if_neg (by rw [h]; decide), List.filter_nil, List.append_nil]
theorem pickR_len (p : Hd → Bool) (L : List RHd) (is : List Nat) : (pickR p L is).length ≤ is.length := by
  unfold pickR; exact Nat.le_trans (List.length_filter_le _ _) (by simp)
theorem sorted_step {L : List RHd} {is : List Nat} (h : SortedR L is) (hl : is.length = L.length) (i : Nat) (hi : i < L.length) : is.take (i + 1) = is.take i ++ [is[i]!] ∧ is[i]! < L.length ∧ is[i]! ∉ is.take i := by
  have hil : i < is.length := by omega
  have htk : is.take (i + 1) = is.take i ++ [is[i]!] := by rw [List.take_succ_eq_append_getElem hil, getElem!_pos is i hil]
  refine ⟨htk, ?_, ?_⟩
  · have : is[i] ∈ List.range L.length := h.1.mem_iff.1 (List.getElem_mem hil)
    rw [getElem!_pos is i hil]; simpa using this
  · have hn : is.Nodup := h.1.nodup_iff.2 List.nodup_range
    have hn2 : (is.take (i + 1)).Nodup := hn.sublist (List.take_sublist _ _)
    rw [htk] at hn2
    intro hm
    exact (List.nodup_append.1 hn2).2.2 _ hm _ (List.mem_singleton.2 rfl) rfl
theorem rrow_at {w : World} {b : Nat} {v : Value} {L : List RHd} (h : JRow w b v L) (q : Nat) (X : RHd) (hX : L[q]? = some X) :
    ∃ g rc, v = .slice (some ⟨g, 0, none⟩) L.length rc ∧ g < w.heap.size ∧ w.cell? ⟨g, q * 5, none⟩ = some (.int .i64 X.r.k) ∧ w.cell? ⟨g, q * 5 + 1, none⟩ = some (.int .i64 X.r.t) ∧ w.cell? ⟨g, q * 5 + 2, none⟩ = some (.int .i64 X.r.v) ∧ w.cell? ⟨g, q * 5 + 3, none⟩ = some (.int .i64 X.m) ∧ w.cell? ⟨g, q * 5 + 4, none⟩ = some (.int .i64 X.c) := by
  obtain ⟨hq, rfl⟩ := List.getElem?_eq_some_iff.1 hX
  have := rrow_cells (own_weaken h (Nat.zero_le _)) q hq
  rw [getElem!_pos L q hq] at this
  exact this

/-- The values, one behind the other. -/
def putAll (w : World) (B : Nat) : Nat → List Value → World
  | _, [] => w
  | i, v :: l => putAll (w.setCell ⟨B, i, none⟩ v) B (i + 1) l
theorem putAll_ext (B : Nat) : ∀ (l : List Value) (i : Nat) (w : World), ExtM (fun k => k = B) w (putAll w B i l)
  | [], _, w => ExtM.refl w
  | v :: l, i, w => (ExtM.setCell (M := fun k => k = B) (ExtM.refl w) (p := ⟨B, i, none⟩) (.inr rfl) v).fresh' (putAll_ext B l (i + 1) _) (fun _ _ h => h)
theorem putAll_frozen (B : Nat) : ∀ (l : List Value) (i : Nat) (w : World) (o : Nat), (putAll w B i l).frozen? ⟨B, o, none⟩ = w.frozen? ⟨B, o, none⟩
  | [], _, _, _ => rfl
  | v :: l, i, w, o => (putAll_frozen B l (i + 1) _ o).trans (World.frozen?_setCell _ _ _ _)
theorem putAll_low (B : Nat) : ∀ (l : List Value) (i : Nat) (w : World) (o : Nat), o < i → (putAll w B i l).cell? ⟨B, o, none⟩ = w.cell? ⟨B, o, none⟩
  | [], _, _, _, _ => rfl
  | v :: l, i, w, o, ho => (putAll_low B l (i + 1) _ o (by omega)).trans (World.cell?_setCell_other _ _ _ _ (by intro e; simp only [Addr.mk.injEq, and_true, true_and] at e; omega))
theorem putAll_cell (B : Nat) : ∀ (l : List Value) (i : Nat) (w : World), (∀ j, j < l.length → ∃ z, w.cell? ⟨B, i + j, none⟩ = some z) → ∀ j v, l[j]? = some v → (putAll w B i l).cell? ⟨B, i + j, none⟩ = some v
  | [], _, _, _, _, _, h => by simp at h
  | x :: l, i, w, hz, 0, v, h => by
    obtain ⟨z, hz0⟩ := hz 0 (by simp)
    have e : x = v := by simpa using h
    subst e
    exact (putAll_low B l (i + 1) _ i (by omega)).trans (World.cell?_setCell_same _ _ _ hz0)
  | x :: l, i, w, hz, j + 1, v, h => by
    have := putAll_cell B l (i + 1) (w.setCell ⟨B, i, none⟩ x) (fun j hj => by
      obtain ⟨z, hz0⟩ := hz (j + 1) (by simp; omega)
      refine ⟨z, (World.cell?_setCell_other _ _ _ _ (by intro e; simp only [Addr.mk.injEq, and_true, true_and] at e; omega)).trans ?_⟩
      rw [show i + 1 + j = i + (j + 1) by omega]; exact hz0) j v (by simpa using h)
    rw [show i + (j + 1) = i + 1 + j by omega]
    exact this
def outZ : List Value := [.int .i64 0, .int .i64 0, .int .i64 0, .int .i64 0, .int .i64 0, .int .i64 0, .int .i64 0, .bool false, .bool false]
theorem newOut_facts {w w8 : World} {t : TypeId} (hx : Ext (w.alloc (.cells #[.int .i64 0, .int .i64 0, .int .i64 0, .int .i64 0, .int .i64 0, .int .i64 0, .int .i64 0, .bool false, .bool false] t)) w8) :
    (∀ j v, outZ[j]? = some v → w8.cell? ⟨w.heap.size, j, none⟩ = some v) ∧ (∀ o, w8.frozen? ⟨w.heap.size, o, none⟩ = false) ∧ w.heap.size < w8.heap.size := by
  have hl : w.heap.size < (w.alloc (.cells #[.int .i64 0, .int .i64 0, .int .i64 0, .int .i64 0, .int .i64 0, .int .i64 0, .int .i64 0, .bool false, .bool false] t)).heap.size := by simp
  refine ⟨fun j v hj => (hx.cell (p := ⟨w.heap.size, j, none⟩) hl (fun h => h)).trans ((World.cell?_alloc_at _ _ _ j (by simp)).trans (by simpa [outZ] using hj)), fun o => (hx.frozen (p := ⟨w.heap.size, o, none⟩) hl (fun h => h)).trans ?_, Nat.lt_of_lt_of_le hl hx.size⟩
  rw [Go.RowKit.frozen?_alloc_cells]; simp [World.frozen?]

theorem newOut_facts' {w w8 : World} {t : TypeId} (hx : Ext (w.alloc (.cells #[.int .i64 0, .int .i64 0, .int .i64 0, .int .i64 0, .int .i64 0, .int .i64 0, .int .i64 0, .bool false, .bool false] t)).drew w8) :
    (∀ j v, outZ[j]? = some v → w8.cell? ⟨w.heap.size, j, none⟩ = some v) ∧ (∀ o, w8.frozen? ⟨w.heap.size, o, none⟩ = false) ∧ w.heap.size < w8.heap.size := newOut_facts ((ExtM.refl _).drew.trans' hx)
def OutAt (wc wx : World) (s17 : Value) (l : List Value) : Prop := ∃ B, s17 = .pointer (some ⟨B, 0, none⟩) ∧ wc.heap.size ≤ B ∧ B < wx.heap.size ∧ Ext wc wx ∧ (∀ j v, l[j]? = some v → wx.cell? ⟨B, j, none⟩ = some v) ∧ ∀ o, wx.frozen? ⟨B, o, none⟩ = false
theorem outZ_some {w : World} {B : Nat} (hn : ∀ j v, outZ[j]? = some v → w.cell? ⟨B, j, none⟩ = some v) (j : Nat) (hj : j < 9) : ∃ z, w.cell? ⟨B, 0 + j, none⟩ = some z := by
  have hl : j < outZ.length := hj
  refine ⟨outZ[j], ?_⟩
  rw [Nat.zero_add]
  exact hn j _ (List.getElem?_eq_getElem hl)
theorem outA {wc w8 : World} (o : Out) (hx : Ext wc w8) (hn : ∀ j v, outZ[j]? = some v → w8.cell? ⟨wc.heap.size, j, none⟩ = some v) (hfz : ∀ o, w8.frozen? ⟨wc.heap.size, o, none⟩ = false) (hlt : wc.heap.size < w8.heap.size) :
    OutAt wc (putAll w8 wc.heap.size 0 (outL o)) (.pointer (some ⟨wc.heap.size, 0, none⟩)) (outL o) := by
  have hp := putAll_ext wc.heap.size (outL o) 0 w8
  refine ⟨wc.heap.size, rfl, Nat.le_refl _, Nat.lt_of_lt_of_le hlt hp.size, hx.fresh hp (fun k hk e => by omega), fun j v hj => ?_, fun q => (putAll_frozen _ _ _ _ _).trans (hfz q)⟩
  have := putAll_cell wc.heap.size (outL o) 0 w8 (fun j hj => outZ_some hn j hj) j v hj
  rwa [Nat.zero_add] at this
theorem outB {wc w8 : World} {t : TypeId} (o : Out) (hx : Ext wc w8) :
    OutAt wc (w8.alloc (.cells #[.int .i64 o.key, .int .i64 o.l.k, .int .i64 o.l.t, .int .i64 o.l.v, .int .i64 o.r.k, .int .i64 o.r.t, .int .i64 o.r.v, .bool o.hl, .bool o.hr] t)) (.pointer (some ⟨w8.heap.size, 0, none⟩)) (outL o) := by
  refine ⟨w8.heap.size, rfl, hx.size, by simp, hx.alloc _, fun j v hj => (World.cell?_alloc_at _ _ _ j (by simp)).trans (by simpa [outL] using hj), fun q => ?_⟩
  rw [Go.RowKit.frozen?_alloc_cells]; simp [World.frozen?]
theorem pickR_map (p : Hd → Bool) (L : List RHd) (is : List Nat) : (pickR p L is).map RHd.hd = ((is.map (fun q => L[q]!)).map RHd.hd).filter p := by
  unfold pickR
  generalize is.map (fun q => L[q]!) = R
  exact (List.filter_map (f := RHd.hd) (p := p) (l := R)).symm
theorem sorted_done {L : List RHd} {is : List Nat} (h : SortedR L is) (p : Hd → Bool) : (is.map (fun q => L[q]!)).Perm L ∧ (is.map (fun q => L[q]!)).Pairwise (fun a b => ¬ ltR b a) ∧ (pickR p L is).map RHd.hd = ((is.map (fun q => L[q]!)).map RHd.hd).filter p := by
  refine ⟨?_, h.2, pickR_map _ _ _⟩
  have := h.1.map (fun i => L[i]!)
  rwa [map_range] at this
theorem sorted_count {R L : List RHd} (h : R.Perm L) (p : Hd → Bool) : ((R.map RHd.hd).filter p).length = (L.filter (fun x => p x.hd)).length := by
  rw [List.filter_map, List.length_map]
  exact (h.filter (p ∘ RHd.hd)).length_eq

theorem rfeed_ok {u w7 : World} {J s base : Nat} {r0 r1 v : Value} {lo hi md : Int} {r : Row} {st : RSt} {R : List RHd} {ms : List Hd} (hE : feedE lo hi s r st.x st.y (st.of s).length = 0) (hR1 : R.Perm (st.of (1 - s))) (hR2 : R.Pairwise (fun a b => ¬ ltR b a))
    (hms : (R.map RHd.hd).filter (meetP r.k (frI lo hi s r.t) (tilI lo hi s r.t)) = ms) (hrow : CRow w7 base v (chgs md s r ms)) (hb : u.heap.size ≤ base) (hU : RUp u w7 J (RFoot J r0 r1) lo hi md (rfeedJ lo hi s r st)) :
    RFeedPost u J r0 r1 lo hi md s r st (.returned (.tuple #[v, .int .i64 0])) w7 :=
  ⟨v, R, by rw [hE], by rw [if_pos hE, hms]; exact own_weaken hrow hb, fun _ => ⟨hR1, hR2⟩, hU⟩
theorem rfeedJ0_no {lo hi : Int} {r : Row} {st : RSt} (hE : feedE lo hi 0 r st.x st.y (st.of 0).length = 0) (hb : ¬ tilI lo hi 0 r.t > st.y) : rfeedJ lo hi 0 r st = { st with b := st.b.map (bumpQ (meetP r.k (frI lo hi 0 r.t) (tilI lo hi 0 r.t))) } := by
  unfold rfeedJ; simp only [hE]; rw [if_neg (by decide), if_pos trivial]; exact if_neg hb
theorem rfeedJ0_yes {lo hi : Int} {r : Row} {st : RSt} (hE : feedE lo hi 0 r st.x st.y (st.of 0).length = 0) (hb : tilI lo hi 0 r.t > st.y) :
    rfeedJ lo hi 0 r st = { st with a := st.a ++ [⟨r, ((st.b.filter (fun x => meetP r.k (frI lo hi 0 r.t) (tilI lo hi 0 r.t) x.hd)).length : Nat), st.came + 1⟩], b := st.b.map (bumpQ (meetP r.k (frI lo hi 0 r.t) (tilI lo hi 0 r.t))), came := st.came + 1 } := by
  unfold rfeedJ; simp only [hE]; rw [if_neg (by decide), if_pos trivial]; exact if_pos hb
theorem rfeedJ1_no {lo hi : Int} {r : Row} {st : RSt} (hE : feedE lo hi 1 r st.x st.y (st.of 1).length = 0) (hb : ¬ tilI lo hi 1 r.t > st.x) : rfeedJ lo hi 1 r st = { st with a := st.a.map (bumpQ (meetP r.k (frI lo hi 1 r.t) (tilI lo hi 1 r.t))) } := by
  unfold rfeedJ; simp only [hE]; rw [if_neg (by decide), if_pos trivial]; exact if_neg hb
theorem rfeedJ1_yes {lo hi : Int} {r : Row} {st : RSt} (hE : feedE lo hi 1 r st.x st.y (st.of 1).length = 0) (hb : tilI lo hi 1 r.t > st.x) :
    rfeedJ lo hi 1 r st = { st with b := st.b ++ [⟨r, ((st.a.filter (fun x => meetP r.k (frI lo hi 1 r.t) (tilI lo hi 1 r.t) x.hd)).length : Nat), st.came + 1⟩], a := st.a.map (bumpQ (meetP r.k (frI lo hi 1 r.t) (tilI lo hi 1 r.t))), came := st.came + 1 } := by
  unfold rfeedJ; simp only [hE]; rw [if_neg (by decide), if_pos trivial]; exact if_pos hb
theorem putU_c (J s : Nat) (v : Value) (L : List RHd) (came k t q m : Int) (w : World) (h : RJ w J s v L came) (hl : L.length < 1000) (hc : 0 ≤ came ∧ came < 1000000) :
    Calls Tryz.prog 32 #[.pointer (some ⟨J, 0, none⟩), .int .i64 (s : Int), .agg #[.int .i64 k, .int .i64 t, .int .i64 q], .int .i64 m] w fun e w' => e = .returned (.tuple #[]) ∧ RJUp w w' J s v (L ++ [⟨⟨k, t, q⟩, m, came + 1⟩]) (came + 1) :=
  (put_c J s v L came k t q m w h hl hc).mono fun e w' ⟨h1, h2, v', h3, h4, h5⟩ => ⟨h1, ⟨⟨v', h3, .inr h4⟩, h2, h5⟩⟩
end Go.Proofs.YtggjceolhbdalaaGreatDoor
