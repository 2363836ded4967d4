/- The document's groups of all keys. -/
import Derived.Test.YtggjceolhbdalaaDoorRefGrp
namespace Go.Proofs.YtggjceolhbdalaaDoor
open Go.RowKit Go.Plan

theorem sortInts_c (base : Nat) (v : Value) (ks : List Int) (w : World) (hown : w.ownsRow base 3 1 v ks.length (ks.map (Value.int .i64))) (hl : ks.length < 1000000000) :
    Calls Tryd.prog 42 #[v] w fun e w' => e = .returned (.tuple #[]) ∧ ExtR v.ownBlock w w' ∧ ∃ p cap, v = .slice p ks.length cap ∧ IntsIn w' p (sortI ks) := by
  go_enter Tryd.func42, Tryd.ntmps42
  go_wp2_with fail
  refine (sortI_c base v ks w hown hl).mono ?_
  rintro e w' ⟨rfl, h1, h2⟩
  have H2 := Lib.hid h2
  clear h2
  go_wp2_with fail
  go_end0
  exact ⟨rfl, h1, H2.out⟩

theorem rev_ind {α : Type} {p : List α → Prop} (h0 : p []) (h1 : ∀ l a, p l → p (l ++ [a])) (l : List α) : p l := by
  have : ∀ l : List α, p l.reverse := by
    intro l
    induction l with
    | nil => exact h0
    | cons a l ih => rw [List.reverse_cons]; exact h1 _ _ ih
  simpa using this l.reverse

/-- One behind the other, no one twice in a row. -/
def ddF (acc : List Int) (k : Int) : List Int := if acc.getLast? = some k then acc else acc ++ [k]
def dd (ks : List Int) : List Int := ks.foldl ddF []
theorem dd_snoc (ks : List Int) (k : Int) : dd (ks ++ [k]) = ddF (dd ks) k := by simp [dd]
theorem dd_last (ks : List Int) : (dd ks).getLast? = ks.getLast? := by
  refine rev_ind (p := fun ks => (dd ks).getLast? = ks.getLast?) rfl (fun ks k ih => ?_) ks
  · rw [dd_snoc]
    unfold ddF
    split
    · rename_i h; rw [h]; simp
    · simp
theorem dd_mem (ks : List Int) (x : Int) : x ∈ dd ks ↔ x ∈ ks := by
  refine rev_ind (p := fun ks => x ∈ dd ks ↔ x ∈ ks) Iff.rfl (fun ks k ih => ?_) ks
  · rw [dd_snoc]
    unfold ddF
    split
    · rename_i h
      rw [ih]
      have : k ∈ ks := by rw [dd_last] at h; exact List.mem_of_getLast? h
      simp only [List.mem_append, List.mem_singleton]
      exact ⟨.inl, fun h => h.elim id (fun e => e ▸ this)⟩
    · simp [ih]
theorem dd_sorted (ks : List Int) (h : ks.Pairwise (· ≤ ·)) : (dd ks).Pairwise (· < ·) := by
  revert h
  refine rev_ind (p := fun ks => ks.Pairwise (· ≤ ·) → (dd ks).Pairwise (· < ·)) (fun _ => .nil) (fun ks k ih h => ?_) ks
  · rw [List.pairwise_append] at h
    obtain ⟨h1, -, h3⟩ := h
    rw [dd_snoc]
    unfold ddF
    split
    · exact ih h1
    · rename_i hl
      rw [List.pairwise_append]
      refine ⟨ih h1, by simp, fun a ha b hb => ?_⟩
      obtain rfl := List.mem_singleton.1 hb
      have h4 := h3 a ((dd_mem _ _).1 ha) _ hb
      rcases Int.lt_or_eq_of_le h4 with h5 | rfl
      · exact h5
      · exfalso
        -- a is the last one's equal: sorted strictly, it is the last
        have hne : dd ks ≠ [] := fun e => by rw [e] at ha; cases ha
        obtain ⟨i, hi, rfl⟩ := List.mem_iff_getElem.1 ha
        have hs := ih h1
        rw [List.pairwise_iff_getElem] at hs
        have hlast : (dd ks).getLast? = some ((dd ks)[(dd ks).length - 1]'(by omega)) := by
          rw [List.getLast?_eq_getElem?]
          exact List.getElem?_eq_getElem (by omega)
        rcases Nat.lt_or_ge i ((dd ks).length - 1) with h6 | h6
        · have h7 := hs i _ hi (by omega) h6
          have h8 := h3 ((dd ks)[(dd ks).length - 1]'(by omega)) ((dd_mem _ _).1 (List.getElem_mem _)) _ hb
          omega
        · have : i = (dd ks).length - 1 := by omega
          subst this
          exact hl hlast
theorem lt_le {xs : List Int} (h : xs.Pairwise (· < ·)) : xs.Pairwise (· ≤ ·) := h.imp (fun h => Int.le_of_lt h)
theorem lt_nodup {xs : List Int} (h : xs.Pairwise (· < ·)) : xs.Nodup := h.imp (fun h e => by omega)
/-- The sorted keys, no one twice, are the keys of the groups. -/
theorem dd_keys {ents : List Ent} {l : List Out} (h : RepAll ents l) (hn : (ents.map (·.key)).Nodup) : dd (sortI (l.map (·.key))) = sortI (ents.map (·.key)) := by
  have hs := dd_sorted _ (sortI_sorted (l.map (·.key)))
  refine sortedI_unique ?_ (lt_le hs) (sortI_sorted _)
  refine List.Perm.trans ?_ (sortI_perm _).symm
  refine (List.perm_ext_iff_of_nodup (lt_nodup hs) hn).2 fun k => ?_
  rw [dd_mem, (sortI_perm _).mem_iff, mem_keys]
  have hk := h k
  constructor
  · intro h1 h2
    obtain ⟨x, hx, rfl⟩ := List.mem_map.1 h1
    rw [h2] at hk
    have : x ∈ ofKey l x.key := List.mem_filter.2 ⟨hx, by simp⟩
    rw [(hk : _ = [])] at this; cases this
  · intro h1
    cases ho : st ents k with
    | none => exact absurd ho h1
    | some a =>
      rw [ho] at hk
      obtain ⟨x, hx⟩ := List.exists_mem_of_ne_nil _ hk.1
      obtain ⟨hx1, hx2⟩ := List.mem_filter.1 hx
      exact List.mem_map.2 ⟨x, hx1, by simpa using hx2⟩
/-- What the document tells of all keys. -/
def refGs (l : List Out) : List GRow := (dd (sortI (l.map (·.key)))).map fun k => grow k (ofKey l k)
theorem refGs_eq {ents : List Ent} {l : List Out} (h : RepAll ents l) (hn : (ents.map (·.key)).Nodup) : refGs l = allG ents := by
  unfold refGs allG
  rw [dd_keys h hn]
  refine List.map_congr_left fun k hk => ?_
  have hk2 := mem_keys.1 ((sortI_perm _).mem_iff.1 hk)
  have hr := h k
  cases ho : st ents k with
  | none => exact absurd ho hk2
  | some a => rw [ho] at hr; exact (grow_rep hr.2).symm

/-- While groups are told: the keys, what is told yet. -/
structure Told2 (w wr : World) (p : Option Addr) (ks : List Int) (rows : List GRow) (M : Nat) (v : Value) : Prop where
  ext : Ext w wr
  keys : IntsIn wr p ks
  own : wr.ownsRow M 52 6 v rows.length (rows.flatMap GRow.cells)
  sz : M ≤ wr.heap.size
  low : w.heap.size ≤ M
  apart : ∀ g, p = some ⟨g, 0, none⟩ → ks = [] ∨ g < M
theorem Told2.of {w wr w' : World} {p : Option Addr} {ks : List Int} {rows : List GRow} {M : Nat} {v : Value} (h : Told2 w wr p ks rows M v) (hx : Ext wr w') : Told2 w w' p ks rows M v where
  ext := ExtM.trans _ _ _ h.ext hx
  keys := h.keys.of hx
  own := h.own.kept (row := none) (w' := w') ⟨hx.os, hx.tape, hx.output, hx.size, fun k hk hne => hx.block k hk id⟩ (by
    by_cases h : v.ownBlock = none
    · exact .inl h
    · exact .inr h)
  sz := Nat.le_trans h.sz hx.size
  low := h.low
  apart := h.apart
theorem Told2.push {w w5 : World} {p : Option Addr} {ks : List Int} {rows : List GRow} {M : Nat} {v : Value} (h : Told2 w w5 p ks rows M v) (r : GRow) (hl : rows.length < 1000000000) :
    ∃ v' w', (Builtin.append_ #[58, 58] 58 #[v, .slice (some ⟨w5.heap.size + 1, 0, none⟩) 1 1]).run Tryd.prog ((w5.alloc (.cells #[.int .i64 r.key, .int .i64 r.cnt, .int .i64 r.sum, .int .i64 r.least, .int .i64 r.most, .bool r.some] 52)).alloc (.cells #[.int .i64 r.key, .int .i64 r.cnt, .int .i64 r.sum, .int .i64 r.least, .int .i64 r.most, .bool r.some] 52)) = .ok v' w' ∧ Told2 w w' p ks (rows ++ [r]) M v' := by
  have hel : ElemG ((w5.alloc (.cells #[.int .i64 r.key, .int .i64 r.cnt, .int .i64 r.sum, .int .i64 r.least, .int .i64 r.most, .bool r.some] 52)).alloc (.cells #[.int .i64 r.key, .int .i64 r.cnt, .int .i64 r.sum, .int .i64 r.least, .int .i64 r.most, .bool r.some] 52)) (w5.heap.size + 1) 0 r := by
    have := ElemG.mk' (w5.alloc (.cells #[.int .i64 r.key, .int .i64 r.cnt, .int .i64 r.sum, .int .i64 r.least, .int .i64 r.most, .bool r.some] 52)) r 52
    rwa [World.size_alloc] at this
  obtain ⟨hx, hks, hown, hMs, hMw, hpM⟩ := h
  obtain ⟨v', w', happ, hown', hgr, hloc⟩ := run_appendG ((w5.alloc (.cells #[.int .i64 r.key, .int .i64 r.cnt, .int .i64 r.sum, .int .i64 r.least, .int .i64 r.most, .bool r.some] 52)).alloc (.cells #[.int .i64 r.key, .int .i64 r.cnt, .int .i64 r.sum, .int .i64 r.least, .int .i64 r.most, .bool r.some] 52)) M (w5.heap.size + 1) 1 v rows r 58 ((hown.alloc _).alloc _) hel hl (by rw [World.size_alloc, World.size_alloc]; omega)
  have hown0 : ∀ k, some k = v.ownBlock → M ≤ k := fun k hk => by
    rcases hown.2 with ⟨rfl, h0⟩ | ⟨g, cap, cur, rfl, hbase, -⟩
    · cases hk
    · have := Option.some.inj hk
      simp at this; omega
  have hkeep : ∀ k, k < w5.heap.size → k < M → w'.heap[k]? = w5.heap[k]? := fun k hk hM => by
    rw [hgr.block k (by rw [World.size_alloc, World.size_alloc]; omega) (fun e => by have := hown0 k e; omega), heap_alloc_lt (by rw [World.size_alloc]; omega), heap_alloc_lt hk]
  have hsz := hgr.size
  rw [World.size_alloc, World.size_alloc] at hsz
  refine ⟨v', w', happ, ⟨⟨hgr.os.trans hx.os, hgr.tape.trans hx.tape, hgr.output.trans hx.output, by have := hx.size; omega, fun k hk _ => (hkeep k (Nat.lt_of_lt_of_le hk hx.size) (by omega)).trans (hx.block k hk id)⟩, ?_, hown', by omega, hMw, hpM⟩⟩
  rcases hks with hks | ⟨g, rfl, hg, hcell⟩
  · exact .inl hks
  · rcases hpM g rfl with h | hgM
    · exact .inl h
    · refine .inr ⟨g, rfl, by omega, fun i hi => ?_⟩
      have q : ∀ o, w'.cell? ⟨g, o, none⟩ = w5.cell? ⟨g, o, none⟩ := fun o => World.cell?_of_block (w := w5) (w' := w') (a := ⟨g, o, none⟩) (hkeep g (by omega) hgM)
      rw [q]; exact hcell i hi

theorem take_snoc {α : Type} {l : List α} {j : Nat} {x : α} (h : l[j]? = some x) : l.take (j + 1) = l.take j ++ [x] := by
  obtain ⟨hj, rfl⟩ := List.getElem?_eq_some_iff.1 h
  exact List.take_succ_eq_append_getElem hj

set_option maxRecDepth 100000 in
set_option maxHeartbeats 4000000 in
theorem refGroups_c (p : Option Addr) (cap : Nat) (l : List Out) (w : World) (h : OutsOf w p l) (hl : l.length < 1000000) :
    Calls Tryd.prog 19 #[.slice p l.length cap] w (GrpsV w (refGs l)) := by
  go_enter Tryd.func19, Tryd.ntmps19
  go_wp2_with fail
  go_loopw [3, 13] (fun v i wr => ∃ j : Nat, j ≤ l.length ∧ i = .int .i64 j ∧ wr.ownsRow w.heap.size 3 1 v ((l.take j).map (·.key)).length (((l.take j).map (·.key)).map (Value.int .i64)) ∧ Ext w wr) (fun _ i _ => l.length - (intOf i).toNat)
  case atStart => exact ⟨0, Nat.zero_le _, rfl, ⟨by simp, .inl ⟨rfl, by simp⟩⟩, ExtM.refl _⟩
  case round =>
    obtain ⟨j, hj, rfl, hown, hx⟩ := hrel
    by_cases hjl : j < l.length
    · have hd : decide ((j : Int) < l.length) = true := by simp; omega
      have hlj : l[j]? = some l[j] := List.getElem?_eq_getElem hjl
      rcases h.of hx with hn | ⟨g, rfl, hel⟩
      · rw [hn] at hjl; simp at hjl
      have el := hel j hjl
      have lb := el.lt
      generalize l[j] = x at *
      have hts := take_snoc hlj
      have HTS := Lib.hid hts
      clear hlj hel hts
      have hs := hx.size
      have hlen : ((l.take j).map (·.key)).length < 1000000000 := by rw [List.length_map, List.length_take]; omega
      obtain ⟨v', w', happ, hown', hgr, hloc⟩ := run_appendI ((wr.alloc (.cells #[.int .i64 x.key, .int .i64 x.l.k, .int .i64 x.l.t, .int .i64 x.l.v, .int .i64 x.r.k, .int .i64 x.r.t, .int .i64 x.r.v, .bool x.hl, .bool x.hr] 45)).alloc (.cells #[.int .i64 x.key] 3)) w.heap.size (wr.heap.size + 1) 1 u3 _ x.key 106 ((hown.alloc _).alloc _)
        (by have := World.size_alloc wr (.cells #[.int .i64 x.key, .int .i64 x.l.k, .int .i64 x.l.t, .int .i64 x.l.v, .int .i64 x.r.k, .int .i64 x.r.t, .int .i64 x.r.v, .bool x.hl, .bool x.hr] 45); rw [← this]; go_simp) hlen (by rw [World.size_alloc, World.size_alloc]; omega)
      have hx' : Ext w w' := by
        refine ⟨hgr.os.trans hx.os, hgr.tape.trans hx.tape, hgr.output.trans hx.output, ?_, fun k hk _ => ?_⟩
        · have := hgr.size; rw [World.size_alloc, World.size_alloc] at this; omega
        · rw [hgr.block k (by rw [World.size_alloc, World.size_alloc]; omega) (fun e => by
            rcases hown.2 with ⟨rfl, h0⟩ | ⟨g, cap, cur, rfl, hbase, -⟩
            · cases e
            · have := Option.some.inj e
              simp at this; omega), heap_alloc_lt (by rw [World.size_alloc]; omega), heap_alloc_lt (by omega)]
          exact hx.block k hk id
      have hown2 : w'.ownsRow w.heap.size 3 1 v' ((l.take (j + 1)).map (·.key)).length (((l.take (j + 1)).map (·.key)).map (Value.int .i64)) := by
        rw [HTS.out, List.map_append]; exact hown'
      obtain ⟨e0, e1, e2, e3, e4, e5, e6, e7, e8⟩ := id el
      clear hown' hgr hloc hown hx hlen HTS hs
      go_wp2_with (at_builtin; refine wpList_append_run happ rfl rfl _ _ rfl rfl rfl ?_; clear happ)
      go_roundw
      case rel => exact ⟨j + 1, by omega, by go_num, hown2, hx'⟩
      case measure => simp [intOf]; omega
    · obtain rfl : j = l.length := by omega
      have hd : decide ((l.length : Int) < l.length) = false := by simp
      rw [List.take_length] at hown
      go_wp2_with fail
      refine (sortInts_c w.heap.size u3 _ wr hown (by rw [List.length_map]; omega)).mono ?_
      rintro e w2 ⟨rfl, xr, pk, cap2, rfl, hks⟩
      have hx2 : Ext w w2 := ⟨xr.os.trans hx.os, xr.tape.trans hx.tape, xr.output.trans hx.output, Nat.le_trans hx.size xr.size, fun k hk _ => (xr.block k (Nat.lt_of_lt_of_le hk hx.size) (fun e => by
          rcases hown.2 with ⟨h1, -⟩ | ⟨g, cap', cur, h1, hbase, -⟩
          · rw [h1] at e; cases e
          · rw [h1] at e
            have := Option.some.inj e
            simp at this
            omega)).trans (hx.block k hk id)⟩
      have hkl : (sortI (l.map (·.key))).length = l.length := by rw [sortI_length, List.length_map]
      have hnl : (l.map (·.key)).length = l.length := List.length_map _
      obtain ⟨ks, hke⟩ : ∃ ks, sortI (l.map (·.key)) = ks := ⟨_, rfl⟩
      have hmem : ∀ k ∈ ks, ofKey l k ≠ [] := fun k hk e => by
        obtain ⟨x, hx, rfl⟩ := List.mem_map.1 ((sortI_perm _).mem_iff.1 (hke ▸ hk))
        have : x ∈ ofKey l x.key := List.mem_filter.2 ⟨hx, by simp⟩
        rw [e] at this; cases this
      have hsrt : ks.Pairwise (· ≤ ·) := hke ▸ sortI_sorted _
      rw [hke] at hks hkl
      rw [hnl]
      obtain ⟨rows, hrw⟩ : ∃ rows, refGs l = rows := ⟨_, rfl⟩
      have hrows : rows = (dd ks).map fun k => grow k (ofKey l k) := by rw [← hrw]; unfold refGs; rw [hke]
      have HROW := Lib.hid hrows
      have HRW := Lib.hid hrw
      have hT : Told2 w w2 pk ks [] w2.heap.size (.slice none 0 0) := ⟨hx2, hks, ⟨rfl, .inl ⟨rfl, rfl⟩⟩, Nat.le_refl _, hx2.size, fun g hg => by
        rcases hks with h | ⟨g', h1, h2, -⟩
        · exact .inl h
        · rw [h1] at hg
          have := congrArg Addr.block (Option.some.inj hg)
          exact .inr (by have h3 : g' = g := this; omega)⟩
      have HKL := Lib.hid hkl
      clear hke hrows hrw hkl hks hx2 xr hx hown hnl
      generalize w2.heap.size = M at *
      go_wp2_with fail
      go_loopw [6, 27] (fun v i wr => ∃ j : Nat, j ≤ l.length ∧ i = .int .i64 j ∧ Told2 w wr pk ks ((dd (ks.take j)).map fun k => grow k (ofKey l k)) M v) (fun _ i _ => l.length - (intOf i).toNat)
      case atStart => exact ⟨0, Nat.zero_le _, rfl, hT⟩
      case round =>
        clear hT
        obtain ⟨j, hj, rfl, hT⟩ := hrel
        by_cases hjl : j < l.length
        · have hd : decide ((j : Int) < l.length) = true := by simp; omega
          have hkl := HKL.out
          rcases hT.keys with hks | ⟨g, rfl, hg, hcell⟩
          · rw [hks] at hkl; simp at hkl; omega
          have hcj := hcell j (by omega)
          have hjk : j < ks.length := by omega
          have hkj : ks[j]? = some (ks.getD j 0) := by simp [List.getD, hjk]
          have hne := hmem _ (List.mem_of_getElem? hkj)
          have hrl : ((dd (ks.take j)).map fun k => grow k (ofKey l k)).length < 1000000000 := by
            rw [List.length_map]
            have := nodup_le (lt_nodup (dd_sorted (ks.take j) (hsrt.sublist (List.take_sublist _ _)))) (fun x hx => (dd_mem _ _).1 hx)
            rw [List.length_take] at this; omega
          have hdd : dd (ks.take (j + 1)) = ddF (dd (ks.take j)) (ks.getD j 0) := by rw [take_snoc hkj, dd_snoc]
          have hlast : (dd (ks.take j)).getLast? = if j = 0 then none else some (ks.getD (j - 1) 0) := by
            rw [dd_last]
            by_cases hj0 : j = 0
            · subst hj0; simp
            · rw [if_neg hj0, List.getLast?_eq_getElem?, List.length_take, Nat.min_eq_left (by omega), List.getElem?_take_of_lt (by omega)]
              have : j - 1 < ks.length := by omega
              simp [List.getD, this]
          have hx := hT.ext
          have hGV : refGV l (ks.getD j 0) = .tuple #[(grow (ks.getD j 0) (ofKey l (ks.getD j 0))).val, .int .i64 0] := by unfold refGV; rw [if_neg hne]
          unfold GRow.val at hGV
          have HGV := Lib.hid hGV
          have HCELL := Lib.hid hcell
          have HDD := Lib.hid hdd
          have HLAST := Lib.hid hlast
          clear hGV hkj hne hcell hdd hlast hkl hjk
          by_cases hj0 : j = 0
          · have hz : ((j : Int) == 0) = true := by simp [hj0]
            have hdd2 : dd (ks.take (j + 1)) = dd (ks.take j) ++ [ks.getD j 0] := by
              rw [HDD.out]; unfold ddF; rw [HLAST.out, if_pos hj0, if_neg (by simp)]
            have HDD2 := Lib.hid hdd2
            clear hdd2 hj0 HLAST HDD
            generalize ks.getD j 0 = key at *
            go_wp2_with fail
            refine (refGroup_c p cap l key _ (h.of hx) hl).mono ?_
            rintro e w5 ⟨x5, rfl⟩
            rw [HGV.out]
            generalize hr : grow key (ofKey l key) = r at *
            have HR := Lib.hid hr
            clear hr
            obtain ⟨v', w', happ, hT'⟩ := (hT.of x5).push r hrl
            clear hT x5 hx
            go_wp2_with (at_builtin; refine wpList_append_run happ rfl rfl _ _ rfl rfl rfl ?_; clear happ)
            go_roundw
            case rel => exact ⟨j + 1, by omega, by go_num, by rw [HDD2.out, List.map_append, List.map_singleton, HR.out]; exact hT'⟩
            case measure => simp [intOf]; omega
          · have hz : ((j : Int) == 0) = false := by simp [hj0]
            have hj1 : (1 : Int) ≤ j := by omega
            have hj2 : 0 < j := by omega
            have hcp := HCELL.out (j - 1) (by have := HKL.out; omega)
            by_cases hpk : ks.getD (j - 1) 0 = ks.getD j 0
            · have hdd2 : dd (ks.take (j + 1)) = dd (ks.take j) := by
                rw [HDD.out]; unfold ddF; rw [HLAST.out, if_neg hj0, if_pos (by rw [hpk])]
              have HDD2 := Lib.hid hdd2
              rw [hpk] at hcp
              clear hdd2 hj0 HLAST HDD hpk
              have hb : (ks.getD j 0 != ks.getD j 0) = false := by simp
              generalize ks.getD j 0 = key at *
              go_wp2_with fail
              go_roundw
              case rel => exact ⟨j + 1, by omega, by go_num, by rw [HDD2.out]; exact hT⟩
              case measure => simp [intOf]; omega
            · have hdd2 : dd (ks.take (j + 1)) = dd (ks.take j) ++ [ks.getD j 0] := by
                rw [HDD.out]; unfold ddF; rw [HLAST.out, if_neg hj0, if_neg (fun e => hpk (Option.some.inj e))]
              have HDD2 := Lib.hid hdd2
              have hb : (ks.getD (j - 1) 0 != ks.getD j 0) = true := by simpa using hpk
              clear hdd2 hj0 HLAST HDD hpk
              generalize ks.getD (j - 1) 0 = prev at *
              generalize ks.getD j 0 = key at *
              go_wp2_with fail
              refine (refGroup_c p cap l key _ (h.of hx) hl).mono ?_
              rintro e w5 ⟨x5, rfl⟩
              rw [HGV.out]
              generalize hr : grow key (ofKey l key) = r at *
              have HR := Lib.hid hr
              clear hr
              obtain ⟨v', w', happ, hT'⟩ := (hT.of x5).push r hrl
              clear hT x5 hx
              go_wp2_with (at_builtin; refine wpList_append_run happ rfl rfl _ _ rfl rfl rfl ?_; clear happ)
              go_roundw
              case rel => exact ⟨j + 1, by omega, by go_num, by rw [HDD2.out, List.map_append, List.map_singleton, HR.out]; exact hT'⟩
              case measure => simp [intOf]; omega
        · obtain rfl : j = l.length := by omega
          have hd : decide ((l.length : Int) < l.length) = false := by simp
          have hkl := HKL.out
          obtain ⟨hx, hks, hown, hMs, hMw, hpM⟩ := hT
          rw [← hkl, List.take_length, ← HROW.out] at hown
          obtain ⟨p', cap', rfl, hG'⟩ := GrpsOf.own hown rfl
          clear hkl hown hks hpM
          go_wp2_with fail
          go_ret
          rw [HRW.out]
          exact ⟨p', cap', rfl, hx, hG'⟩
end Go.Proofs.YtggjceolhbdalaaDoor
