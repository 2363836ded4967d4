/- Groups of lists of Outs; two of them apart. -/
import Derived.Test.YtmcgnnmffeojpaaGreatDoorPk10
import Derived.Test.YtmcgnnmffeojpaaGreatDoorPk20
/- Groups say what a list of Outs comes to, key by key. -/
namespace Go.Proofs.YtmcgnnmffeojpaaGreatDoor
open Go.RowKit Go.Plan

/-- Those of a key. -/
def ofKey (l : List Out) (k : Int) : List Out := l.filter fun x => decide (x.key = k)
/-- The sum of the left values. -/
def lsum : List Out → Int
  | [] => 0
  | x :: m => (if x.hl then x.l.v else 0) + lsum m
theorem lsum_perm {m m' : List Out} (h : m.Perm m') : lsum m = lsum m' := by
  induction h with
  | nil => rfl
  | cons x _ ih => simp only [lsum, ih]
  | swap x y l => simp only [lsum]; omega
  | trans _ _ h1 h2 => exact h1.trans h2
/-- a is what the Outs m come to. -/
structure RepA (a : GS) (m : List Out) : Prop where
  cnt : a.cnt = m.length
  sum : a.sum = wrap64 (lsum m)
  perm : a.right.Perm ((m.filter (·.hr)).map (·.r.v))
  srt : a.right.Pairwise (· ≤ ·)
def Rep (o : Option GS) (m : List Out) : Prop :=
  match o with
  | none => m = []
  | some a => m ≠ [] ∧ RepA a m
def RepAll (ents : List Ent) (l : List Out) : Prop := ∀ k, Rep (st ents k) (ofKey l k)

theorem RepA.nil : RepA ⟨0, 0, []⟩ [] := ⟨rfl, by show (0 : Int) = wrap64 0; unfold wrap64; decide, .nil, .nil⟩
theorem RepA.of_perm {a : GS} {m m' : List Out} (h : RepA a m) (hp : m.Perm m') : RepA a m' :=
  ⟨by rw [h.cnt, hp.length_eq], by rw [h.sum, lsum_perm hp], h.perm.trans ((hp.filter _).map _), h.srt⟩
theorem Rep.of_perm {o : Option GS} {m m' : List Out} (h : Rep o m) (hp : m.Perm m') : Rep o m' := by
  cases o with
  | none => obtain rfl := (h : m = []); exact hp.nil_eq.symm
  | some a => exact ⟨fun e => h.1 (by rw [e] at hp; exact hp.eq_nil), h.2.of_perm hp⟩
theorem RepA.eq {a b : GS} {m : List Out} (h : RepA a m) (k : RepA b m) : a = b := by
  obtain ⟨a1, a2, a3⟩ := a
  obtain ⟨b1, b2, b3⟩ := b
  have e1 : a1 = b1 := h.cnt.trans k.cnt.symm
  have e2 : a2 = b2 := h.sum.trans k.sum.symm
  have e3 : a3 = b3 := sortedI_unique (h.perm.trans k.perm.symm) h.srt k.srt
  rw [e1, e2, e3]
theorem Rep.eq {o u : Option GS} {m : List Out} (h : Rep o m) (k : Rep u m) : o = u := by
  cases o with
  | none =>
    cases u with
    | none => rfl
    | some b => exact absurd h k.1
  | some a =>
    cases u with
    | none => exact absurd k h.1
    | some b => rw [h.2.eq k.2]

theorem insI_perm (xs : List Int) (i : Nat) (x : Int) : (insI xs i x).Perm (x :: xs) := by
  unfold insI
  have := (List.perm_middle (a := x) (l₁ := xs.take i) (l₂ := xs.drop i))
  rwa [List.take_append_drop] at this
theorem eraseIdx_perm {xs : List Int} {i : Nat} {x : Int} (h : xs[i]? = some x) : xs.Perm (x :: xs.eraseIdx i) := by
  obtain ⟨hi, rfl⟩ := List.getElem?_eq_some_iff.1 h
  rw [List.eraseIdx_eq_take_drop_succ]
  have e := List.take_append_drop i xs
  rw [List.drop_eq_getElem_cons hi] at e
  exact (by rw [e] : xs.Perm (xs.take i ++ xs[i] :: xs.drop (i + 1))).trans List.perm_middle

theorem repA_add {a : GS} {m : List Out} (x : Out) (h : RepA a m) : RepA (addGS a x) (x :: m) where
  cnt := by show a.cnt + 1 = _; rw [h.cnt]; simp
  sum := by
    show (if x.hl then wrap64 (a.sum + x.l.v) else a.sum) = _
    by_cases hl : x.hl = true
    · rw [if_pos hl, h.sum]
      simp only [lsum, if_pos hl]
      unfold wrap64; omega
    · rw [if_neg hl, h.sum]
      simp only [lsum, if_neg hl, Int.zero_add]
  perm := by
    show (if x.hr then insI a.right (a.right.countP (· < x.r.v)) x.r.v else a.right).Perm _
    by_cases hr : x.hr = true
    · rw [if_pos hr, List.filter_cons_of_pos hr, List.map_cons]
      exact (insI_perm _ _ _).trans (h.perm.cons _)
    · rw [if_neg hr, List.filter_cons_of_neg hr]; exact h.perm
  srt := by
    show (if x.hr then insI a.right (a.right.countP (· < x.r.v)) x.r.v else a.right).Pairwise (· ≤ ·)
    by_cases hr : x.hr = true
    · rw [if_pos hr]; exact insI_sorted _ _ h.srt
    · rw [if_neg hr]; exact h.srt
theorem repA_less {a : GS} {m m' : List Out} {x : Out} (h : RepA a m) (hp : m.Perm (x :: m')) : RepA (lessGS a x) m' := by
  have h := h.of_perm hp
  refine ⟨?_, ?_, ?_, ?_⟩
  · show a.cnt - 1 = _; rw [h.cnt]; simp
  · show (if x.hl then wrap64 (a.sum - x.l.v) else a.sum) = _
    have hs := h.sum
    by_cases hl : x.hl = true
    · simp only [lsum, if_pos hl] at hs
      rw [if_pos hl, hs]
      unfold wrap64; omega
    · simp only [lsum, if_neg hl, Int.zero_add] at hs
      rw [if_neg hl, hs]
  · show (if x.hr then a.right.eraseIdx (a.right.countP (· < x.r.v)) else a.right).Perm _
    have hq := h.perm
    by_cases hr : x.hr = true
    · rw [List.filter_cons_of_pos hr, List.map_cons] at hq
      rw [if_pos hr]
      have hmem : x.r.v ∈ a.right := hq.mem_iff.2 List.mem_cons_self
      exact List.Perm.cons_inv ((eraseIdx_perm (countP_lt_mem _ _ h.srt hmem).2).symm.trans hq)
    · rw [List.filter_cons_of_neg hr] at hq
      rw [if_neg hr]; exact hq
  · show (if x.hr then a.right.eraseIdx (a.right.countP (· < x.r.v)) else a.right).Pairwise (· ≤ ·)
    by_cases hr : x.hr = true
    · rw [if_pos hr]; exact eraseIdx_sorted h.srt _
    · rw [if_neg hr]; exact h.srt

theorem ofKey_cons (x : Out) (l : List Out) (k : Int) : ofKey (x :: l) k = if k = x.key then x :: ofKey l k else ofKey l k := by
  unfold ofKey
  by_cases h : k = x.key
  · rw [if_pos h, List.filter_cons_of_pos (by simp [h])]
  · rw [if_neg h, List.filter_cons_of_neg (by simp; exact fun e => h e.symm)]
theorem RepAll.of_perm {ents : List Ent} {l l' : List Out} (h : RepAll ents l) (hp : l.Perm l') : RepAll ents l' := fun k => (h k).of_perm (hp.filter _)
theorem RepAll.nil : RepAll [] [] := fun _k => rfl
theorem RepAll.add {ents ents' : List Ent} {l : List Out} {x : Out} (h : RepAll ents l) (hs : ∀ k, st ents' k = if k = x.key then some (addGS ((st ents x.key).getD ⟨0, 0, []⟩) x) else st ents k) : RepAll ents' (x :: l) := by
  intro k
  rw [hs k, ofKey_cons]
  by_cases hk : k = x.key
  · rw [if_pos hk, if_pos hk]
    refine ⟨by simp, repA_add x ?_⟩
    have := h x.key
    subst hk
    cases ho : st ents x.key with
    | none => rw [ho] at this; rw [(this : _ = [])]; exact RepA.nil
    | some a => rw [ho] at this; exact this.2
  · rw [if_neg hk, if_neg hk]; exact h k
theorem RepAll.less {ents ents' : List Ent} {l l' : List Out} {x : Out} {a : GS} (h : RepAll ents l) (hp : l.Perm (x :: l')) (ha : st ents x.key = some a) (hs : ∀ k, st ents' k = if k = x.key then lessO a x else st ents k) : RepAll ents' l' := by
  intro k
  have h' := h.of_perm hp k
  rw [ofKey_cons] at h'
  rw [hs k]
  by_cases hk : k = x.key
  · rw [if_pos hk] at h' ⊢
    subst hk
    rw [ha] at h'
    have hr := repA_less h'.2 (List.Perm.refl _)
    have hc := h'.2.cnt
    unfold lessO
    by_cases hz : a.cnt - 1 = 0
    · rw [if_pos hz]
      rw [List.length_cons] at hc
      exact List.eq_nil_of_length_eq_zero (by omega)
    · rw [if_neg hz]
      refine ⟨fun e => ?_, hr⟩
      rw [e] at hc
      simp at hc
      omega
  · rw [if_neg hk] at h' ⊢; exact h'
/-- What a key that is there comes to. -/
theorem RepAll.mem {ents : List Ent} {l : List Out} (h : RepAll ents l) {x : Out} (hx : x ∈ l) : ∃ a, st ents x.key = some a ∧ (x.hr = true → x.r.v ∈ a.right) := by
  have h1 := h x.key
  have hm : x ∈ ofKey l x.key := List.mem_filter.2 ⟨hx, by simp⟩
  cases ho : st ents x.key with
  | none => rw [ho] at h1; rw [(h1 : _ = [])] at hm; cases hm
  | some a =>
    rw [ho] at h1
    refine ⟨a, rfl, fun hr => ?_⟩
    exact h1.2.perm.mem_iff.2 (List.mem_map.2 ⟨x, List.mem_filter.2 ⟨hm, hr⟩, rfl⟩)
theorem RepAll.bound {ents : List Ent} {l : List Out} (h : RepAll ents l) {k : Int} {a : GS} (ha : st ents k = some a) : 0 ≤ a.cnt ∧ a.cnt ≤ l.length ∧ a.right.length ≤ l.length := by
  have h1 := h k
  rw [ha] at h1
  have hc := h1.2.cnt
  have hp := h1.2.perm.length_eq
  have hl : (ofKey l k).length ≤ l.length := List.length_filter_le _ _
  have hf : ((ofKey l k).filter (·.hr)).length ≤ (ofKey l k).length := List.length_filter_le _ _
  rw [List.length_map] at hp
  omega
theorem RepAll.st_eq {e1 e2 : List Ent} {l1 l2 : List Out} (h1 : RepAll e1 l1) (h2 : RepAll e2 l2) (hp : l1.Perm l2) (k : Int) : st e1 k = st e2 k := (h1.of_perm hp k).eq (h2 k)

theorem nodup_le : ∀ {xs ys : List Int}, xs.Nodup → (∀ x ∈ xs, x ∈ ys) → xs.length ≤ ys.length
  | [], _, _, _ => Nat.zero_le _
  | x :: xs, ys, hn, hs => by
    obtain ⟨h1, h2⟩ := List.nodup_cons.1 hn
    have hx := hs x List.mem_cons_self
    have := nodup_le (ys := ys.erase x) h2 (fun y hy => (List.mem_erase_of_ne (fun e => h1 (by rw [← e]; exact hy))).2 (hs y (List.mem_cons_of_mem _ hy)))
    rw [List.length_erase_of_mem hx] at this
    have := List.length_pos_of_mem hx
    simp; omega
theorem mem_keys {ents : List Ent} {k : Int} : k ∈ ents.map (·.key) ↔ st ents k ≠ none := by
  rw [ne_eq, st_none]
  constructor
  · intro h1 h2
    obtain ⟨e, he, hk⟩ := List.mem_map.1 h1
    exact h2 e he hk
  · intro h1
    simp only [Classical.not_forall] at h1
    obtain ⟨e, he, hk⟩ := h1
    exact List.mem_map.2 ⟨e, he, by simpa using hk⟩
theorem RepAll.few {ents : List Ent} {l : List Out} (h : RepAll ents l) (hn : (ents.map (·.key)).Nodup) : ents.length ≤ l.length := by
  have := nodup_le (ys := l.map (·.key)) hn (fun k hk => by
    have h1 := mem_keys.1 hk
    have h2 := h k
    cases ho : st ents k with
    | none => exact absurd ho h1
    | some a =>
      rw [ho] at h2
      obtain ⟨x, hx⟩ := List.exists_mem_of_ne_nil _ h2.1
      obtain ⟨hx1, hx2⟩ := List.mem_filter.1 hx
      exact List.mem_map.2 ⟨x, hx1, by simpa using hx2⟩)
  simpa using this
theorem allG_eq {e1 e2 : List Ent} (h : ∀ k, st e1 k = st e2 k) (h1 : (e1.map (·.key)).Nodup) (h2 : (e2.map (·.key)).Nodup) : allG e1 = allG e2 := by
  have hp : (e1.map (·.key)).Perm (e2.map (·.key)) := (List.perm_ext_iff_of_nodup h1 h2).2 fun k => by rw [mem_keys, mem_keys, h k]
  unfold allG
  rw [sortI_of_perm hp]
  exact List.map_congr_left fun k _ => by rw [h k]
theorem ent_bound {w : World} {G o : Nat} {D : Option Nat} {ents : List Ent} {l : List Out} (hg : GrpIs w G o D ents) (h : RepAll ents l) (e : Ent) (he : e ∈ ents) : e.a.right.length ≤ l.length := by
  obtain ⟨pre, post, rfl⟩ := List.append_of_mem he
  exact (h.bound (st_at hg.nodup e rfl)).2.2
end Go.Proofs.YtmcgnnmffeojpaaGreatDoor
namespace Go.Proofs.YtmcgnnmffeojpaaGreatDoor
open Go.RowKit Go.Plan

theorem grpAdd (G o : Nat) (D : Option Nat) (ents : List Ent) (l : List Out) (x : Out) (w : World) (h : GrpIs w G o D ents) (hr : RepAll ents l) (hx : x.ok) (hl : l.length < 1000000) :
    Calls Tryz.prog 21 #[.pointer (some ⟨G, o, none⟩), encC x false] w fun e w' => e = .returned .nilIface ∧ ∃ D' ents', GrpIs w' G o D' ents' ∧ RepAll ents' (x :: l) ∧ Turned w w' G o D D' ents ents' :=
  (grpAdd_c G o D ents x w h hx (fun a ha => by have := hr.bound ha; omega)).mono fun e w' ⟨he, D', ents', h1, h2, h3⟩ => ⟨he, D', ents', h1, hr.add h3, h2⟩
theorem grpLess (G o : Nat) (D : Option Nat) (ents : List Ent) (l : List Out) (x : Out) (w : World) (h : GrpIs w G o D ents) (hr : RepAll ents l) (hx : x ∈ l) (hok : x.ok) (hl : l.length < 1000000) :
    Calls Tryz.prog 21 #[.pointer (some ⟨G, o, none⟩), encC x true] w fun e w' => e = .returned .nilIface ∧ ∃ D' ents', GrpIs w' G o D' ents' ∧ RepAll ents' (l.erase x) ∧ Turned w w' G o D D' ents ents' := by
  obtain ⟨a, ha, hin⟩ := hr.mem hx
  have hb := hr.bound ha
  exact (grpLess_c G o D ents x w h hok a ha (by omega) (by omega) (by omega) hin).mono fun e w' ⟨he, D', ents', h1, h2, h3⟩ => ⟨he, D', ents', h1, hr.less (List.perm_cons_erase hx) ha h3, h2⟩
theorem grpAllL (G o : Nat) (D : Option Nat) (ents : List Ent) (l : List Out) (w : World) (h : GrpIs w G o D ents) (hr : RepAll ents l) (hl : l.length < 1000000) :
    Calls Tryz.prog 22 #[.pointer (some ⟨G, o, none⟩)] w (GrpsV w (allG ents)) :=
  grpAll G o D ents w h (by have := hr.few h.nodup; omega) (fun e he => by have := ent_bound h hr e he; omega)

theorem GrpIs.new (w : World) (t : TypeId) : GrpIs (w.alloc (.cells #[.map none] t)) w.heap.size 0 none [] :=
  ⟨by go_simp, by rw [Go.RowKit.frozen?_alloc_cells]; simp [World.frozen?], .inl ⟨rfl, rfl⟩, by simp, .nil, by simp, by simp⟩

theorem turned_ext {w0 w w' : World} {G o A : Nat} {D D' : Option Nat} {ents ents' : List Ent} (ht : Turned w w' G o D D' ents ents') (hx : Ext w0 w) (hA : w0.heap.size ≤ A) (hf : ∀ k, grpM G D ents k → A ≤ k) : Ext w0 w' :=
  ⟨ht.ext.os.trans hx.os, ht.ext.tape.trans hx.tape, ht.ext.output.trans hx.output, Nat.le_trans hx.size ht.ext.size, fun k hk _ => (ht.ext.block k (Nat.lt_of_lt_of_le hk hx.size) (fun h => by have := hf k h; omega)).trans (hx.block k hk id)⟩
theorem turned_foot {w w' : World} {G o A : Nat} {D D' : Option Nat} {ents ents' : List Ent} (ht : Turned w w' G o D D' ents ents') (hA : A ≤ w.heap.size) (hf : ∀ k, grpM G D ents k → A ≤ k) : ∀ k, grpM G D' ents' k → A ≤ k := fun k hk => by
  rcases ht.foot k hk with h | h
  · exact hf k h
  · omega

/-- Two groups of the call's own, at A and A + 1: what these come to. -/
structure TwoG (w wr : World) (A : Nat) (p q : List Out) : Prop where
  ex : ∃ DA eA DB eB, GrpIs wr A 0 DA eA ∧ RepAll eA p ∧ GrpIs wr (A + 1) 0 DB eB ∧ RepAll eB q ∧ (∀ k, grpM A DA eA k → A ≤ k) ∧ (∀ k, grpM (A + 1) DB eB k → A ≤ k) ∧ ∀ k, grpM A DA eA k → ¬ grpM (A + 1) DB eB k
  ext : Ext w wr
  low : w.heap.size ≤ A
theorem TwoG.perm {w wr : World} {A : Nat} {p q p' q' : List Out} (h : TwoG w wr A p q) (hp : p.Perm p') (hq : q.Perm q') : TwoG w wr A p' q' := by
  obtain ⟨⟨DA, eA, DB, eB, h1, h2, h3, h4, h5⟩, h6, h7⟩ := h
  exact ⟨⟨DA, eA, DB, eB, h1, h2.of_perm hp, h3, h4.of_perm hq, h5⟩, h6, h7⟩
theorem TwoG.of {w wr w' : World} {A : Nat} {p q : List Out} (h : TwoG w wr A p q) (hx : Ext wr w') : TwoG w w' A p q := by
  obtain ⟨⟨DA, eA, DB, eB, h1, h2, h3, h4, h5⟩, h6, h7⟩ := h
  exact ⟨⟨DA, eA, DB, eB, h1.of hx (fun _ _ => id), h2, h3.of hx (fun _ _ => id), h4, h5⟩, ExtM.trans _ _ _ h6 hx, h7⟩
theorem TwoG.size {w wr : World} {A : Nat} {p q : List Out} (h : TwoG w wr A p q) : A + 1 < wr.heap.size := by
  obtain ⟨⟨DA, eA, DB, eB, h1, h2, h3, h4, h5⟩, h6, h7⟩ := h
  exact h3.ltG
theorem twoG_addA {w wr : World} {A : Nat} {p q : List Out} (h : TwoG w wr A p q) (x : Out) (hx : x.ok) (hl : p.length < 1000000) :
    Calls Tryz.prog 21 #[.pointer (some ⟨A, 0, none⟩), encC x false] wr fun e w' => e = .returned .nilIface ∧ TwoG w w' A (x :: p) q := by
  have hs := h.size
  obtain ⟨⟨DA, eA, DB, eB, h1, h2, h3, h4, h5, h6, h7⟩, h8, h9⟩ := h
  refine (grpAdd A 0 DA eA p x wr h1 h2 hx hl).mono fun e w' ⟨he, D', e', g1, g2, ht⟩ => ⟨he, ⟨⟨D', e', DB, eB, g1, g2, h3.of ht.ext (fun k hk hb => h7 k hb hk), h4, turned_foot ht (by omega) h5, h6, fun k hk hb => ?_⟩, turned_ext ht h8 h9 h5, h9⟩⟩
  rcases ht.foot k hk with h | h
  · exact h7 k h hb
  · have := h3.foot k hb; omega
theorem twoG_stepB {w wr w' : World} {A : Nat} {p _q q' : List Out} {DA DB D' : Option Nat} {eA eB e' : List Ent} (h1 : GrpIs wr A 0 DA eA) (h2 : RepAll eA p) (h3 : GrpIs wr (A + 1) 0 DB eB) (h5 : ∀ k, grpM A DA eA k → A ≤ k) (h6 : ∀ k, grpM (A + 1) DB eB k → A ≤ k) (h7 : ∀ k, grpM A DA eA k → ¬ grpM (A + 1) DB eB k)
    (h8 : Ext w wr) (h9 : w.heap.size ≤ A) (g1 : GrpIs w' (A + 1) 0 D' e') (g2 : RepAll e' q') (ht : Turned wr w' (A + 1) 0 DB D' eB e') : TwoG w w' A p q' := by
  have hs := h3.ltG
  refine ⟨⟨DA, eA, D', e', h1.of ht.ext h7, h2, g1, g2, h5, turned_foot ht (by omega) h6, fun k hk hb => ?_⟩, turned_ext ht h8 h9 h6, h9⟩
  rcases ht.foot k hb with h | h
  · exact h7 k hk h
  · have := h1.foot k hk; omega
theorem twoG_addB {w wr : World} {A : Nat} {p q : List Out} (h : TwoG w wr A p q) (x : Out) (hx : x.ok) (hl : q.length < 1000000) :
    Calls Tryz.prog 21 #[.pointer (some ⟨A + 1, 0, none⟩), encC x false] wr fun e w' => e = .returned .nilIface ∧ TwoG w w' A p (x :: q) := by
  obtain ⟨⟨DA, eA, DB, eB, h1, h2, h3, h4, h5, h6, h7⟩, h8, h9⟩ := h
  exact (grpAdd (A + 1) 0 DB eB q x wr h3 h4 hx hl).mono fun e w' ⟨he, D', e', g1, g2, ht⟩ => ⟨he, twoG_stepB (_q := q) h1 h2 h3 h5 h6 h7 h8 h9 g1 g2 ht⟩
theorem twoG_lessB {w wr : World} {A : Nat} {p q : List Out} (h : TwoG w wr A p q) (x : Out) (hx : x ∈ q) (hok : x.ok) (hl : q.length < 1000000) :
    Calls Tryz.prog 21 #[.pointer (some ⟨A + 1, 0, none⟩), encC x true] wr fun e w' => e = .returned .nilIface ∧ TwoG w w' A p (q.erase x) := by
  obtain ⟨⟨DA, eA, DB, eB, h1, h2, h3, h4, h5, h6, h7⟩, h8, h9⟩ := h
  exact (grpLess (A + 1) 0 DB eB q x wr h3 h4 hx hok hl).mono fun e w' ⟨he, D', e', g1, g2, ht⟩ => ⟨he, twoG_stepB (_q := q) h1 h2 h3 h5 h6 h7 h8 h9 g1 g2 ht⟩
theorem TwoG.new (w w1 : World) (hx : Ext w w1) (t : TypeId) : TwoG w ((w1.alloc (.cells #[.map none] t)).alloc (.cells #[.map none] t)) w1.heap.size [] [] := by
  refine ⟨⟨none, [], none, [], (GrpIs.new w1 t).of ((ExtM.refl _).alloc _ : Ext _ _) (fun _ _ => id), RepAll.nil, ?_, RepAll.nil, ?_, ?_, ?_⟩, (hx.alloc _).alloc _, hx.size⟩
  · have := GrpIs.new (w1.alloc (.cells #[.map none] t)) t
    rwa [World.size_alloc] at this
  · intro k hk
    rcases hk with rfl | hk | ⟨e, he, -⟩
    · exact Nat.le_refl _
    · cases hk
    · cases he
  · intro k hk
    rcases hk with rfl | hk | ⟨e, he, -⟩
    · exact Nat.le_succ _
    · cases hk
    · cases he
  · intro k hk hb
    rcases hk with rfl | hk | ⟨e, he, -⟩
    · rcases hb with hb | hb | ⟨e, he, -⟩
      · omega
      · cases hb
      · cases he
    · cases hk
    · cases he
theorem twoG_allA {w wr : World} {A : Nat} {p q : List Out} (h : TwoG w wr A p q) (hpq : p.Perm q) (hl : p.length < 1000000) :
    ∃ rows, rows.length ≤ p.length ∧ Calls Tryz.prog 22 #[.pointer (some ⟨A, 0, none⟩)] wr (GrpsV wr rows) ∧ ∀ w', Ext wr w' → Calls Tryz.prog 22 #[.pointer (some ⟨A + 1, 0, none⟩)] w' (GrpsV w' rows) := by
  have hlq := hpq.length_eq
  obtain ⟨⟨DA, eA, DB, eB, h1, h2, h3, h4, h5, h6, h7⟩, h8, h9⟩ := h
  refine ⟨allG eA, by unfold allG; rw [List.length_map, sortI_length, List.length_map]; exact h2.few h1.nodup, grpAllL A 0 DA eA p wr h1 h2 hl, fun w' hx => ?_⟩
  rw [allG_eq (h2.st_eq h4 hpq) h1.nodup h3.nodup]
  exact grpAllL (A + 1) 0 DB eB q w' (h3.of hx (fun _ _ => id)) h4 (by omega)
theorem neq_grp_self (a : GRow) (w : World) : (binOp .neq 60 (.agg #[.int .i64 a.key, .int .i64 a.cnt, .int .i64 a.sum, .int .i64 a.least, .int .i64 a.most, .bool a.some]) (.agg #[.int .i64 a.key, .int .i64 a.cnt, .int .i64 a.sum, .int .i64 a.least, .int .i64 a.most, .bool a.some])).run Tryz.prog w = .ok (.bool false) w := by
  obtain ⟨a1, a2, a3, a4, a5, a6⟩ := a
  go_simp
end Go.Proofs.YtmcgnnmffeojpaaGreatDoor
