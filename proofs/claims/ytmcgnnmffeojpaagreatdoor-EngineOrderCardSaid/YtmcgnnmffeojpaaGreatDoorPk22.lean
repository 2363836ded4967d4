/- The groups of package group, as they lie in memory. -/
import Derived.Test.YtmcgnnmffeojpaaGreatDoorPk4
import Derived.Test.YtmcgnnmffeojpaaGreatDoorPk6
import Derived.Test.YtmcgnnmffeojpaaGreatDoorPk21
namespace Go.Proofs.YtmcgnnmffeojpaaGreatDoor
open Go.RowKit Go.Plan

/-- What all of a key come to. -/
structure GS where
  cnt : Int
  sum : Int
  right : List Int
/-- A key's: its block, the slice in it, what it comes to. -/
structure Ent where
  key : Int
  S : Nat
  v : Value
  a : GS

/-- The blocks of a key's. -/
def fb (e : Ent) (k : Nat) : Prop := k = e.S ∨ e.v.ownBlock = some k

/-- The three cells of a key's. -/
structure AllC (w : World) (S : Nat) (cnt sum : Int) (v : Value) : Prop where
  c0 : w.cell? ⟨S, 0, none⟩ = some (.int .i64 cnt)
  c1 : w.cell? ⟨S, 1, none⟩ = some (.int .i64 sum)
  c2 : w.cell? ⟨S, 2, none⟩ = some v
  f0 : w.frozen? ⟨S, 0, none⟩ = false
  f1 : w.frozen? ⟨S, 1, none⟩ = false
  f2 : w.frozen? ⟨S, 2, none⟩ = false
theorem AllC.lt {w : World} {S : Nat} {cnt sum : Int} {v : Value} (h : AllC w S cnt sum v) : S < w.heap.size := by
  have := h.c0
  unfold World.cell? at this
  split at this
  · rename_i hb; exact (Array.getElem?_eq_some_iff.1 hb).1
  · cases this
theorem AllC.keep {w w' : World} {S : Nat} {cnt sum : Int} {v : Value} (h : AllC w S cnt sum v) (hb : w'.heap[S]? = w.heap[S]?) : AllC w' S cnt sum v := by
  have r : ∀ i, w'.cell? ⟨S, i, none⟩ = w.cell? ⟨S, i, none⟩ := fun i => World.cell?_of_block (w := w) (w' := w') (a := ⟨S, i, none⟩) hb
  have q : ∀ i, w'.frozen? ⟨S, i, none⟩ = w.frozen? ⟨S, i, none⟩ := fun i => World.frozen?_of_block (w := w) (w' := w') (a := ⟨S, i, none⟩) hb
  exact ⟨(r 0).trans h.c0, (r 1).trans h.c1, (r 2).trans h.c2, (q 0).trans h.f0, (q 1).trans h.f1, (q 2).trans h.f2⟩
theorem AllC.set0 {w : World} {S : Nat} {cnt sum : Int} {v : Value} (h : AllC w S cnt sum v) (n : Int) : AllC (w.setCell ⟨S, 0, none⟩ (.int .i64 n)) S n sum v := by
  obtain ⟨c0, c1, c2, f0, f1, f2⟩ := h
  constructor <;> go_simp
theorem AllC.set1 {w : World} {S : Nat} {cnt sum : Int} {v : Value} (h : AllC w S cnt sum v) (n : Int) : AllC (w.setCell ⟨S, 1, none⟩ (.int .i64 n)) S cnt n v := by
  obtain ⟨c0, c1, c2, f0, f1, f2⟩ := h
  constructor <;> go_simp
theorem AllC.set2 {w : World} {S : Nat} {cnt sum : Int} {v : Value} (h : AllC w S cnt sum v) (u : Value) : AllC (w.setCell ⟨S, 2, none⟩ u) S cnt sum u := by
  obtain ⟨c0, c1, c2, f0, f1, f2⟩ := h
  constructor <;> go_simp

structure AllAt (w : World) (e : Ent) : Prop where
  cells : AllC w e.S e.a.cnt e.a.sum e.v
  row : IRow w e.v e.a.right
  srt : e.a.right.Pairwise (· ≤ ·)
  own : e.v.ownBlock ≠ some e.S
theorem AllAt.keep {w w' : World} {e : Ent} (h : AllAt w e) (hb : ∀ k, fb e k → w'.heap[k]? = w.heap[k]?) : AllAt w' e :=
  ⟨h.cells.keep (hb _ (.inl rfl)), h.row.keep (fun k hk => hb k (.inr hk)), h.srt, h.own⟩
theorem AllAt.lt {w : World} {e : Ent} (h : AllAt w e) (k : Nat) (hk : fb e k) : k < w.heap.size := by
  rcases hk with rfl | hk
  · exact h.cells.lt
  · exact h.row.lt k hk

/-- The pairs of the map. -/
def prs (ents : List Ent) : List (Int × Value) := ents.map fun e => (e.key, .pointer (some ⟨e.S, 0, none⟩))
/-- What a key comes to. -/
def st (ents : List Ent) (k : Int) : Option GS := (ents.find? fun e => decide (e.key = k)).map (·.a)

/-- Groups lie at ⟨G, o⟩, their map (if there is one yet) in block D. -/
structure GrpIs (w : World) (G o : Nat) (D : Option Nat) (ents : List Ent) : Prop where
  c0 : w.cell? ⟨G, o, none⟩ = some (.map D)
  f0 : w.frozen? ⟨G, o, none⟩ = false
  mp : (D = none ∧ ents = []) ∨ ∃ d, D = some d ∧ d ≠ G ∧ MapIs Tryz.prog 3 (Value.int .i64) w d (prs ents)
  all : ∀ e ∈ ents, AllAt w e
  apart : ents.Pairwise fun e f => ∀ k, fb e k → ¬ fb f k
  away : ∀ e ∈ ents, ∀ k, fb e k → k ≠ G ∧ D ≠ some k
  ok : ∀ e ∈ ents, I64 e.key

/-- The blocks of groups. -/
def grpM (G : Nat) (D : Option Nat) (ents : List Ent) (k : Nat) : Prop := k = G ∨ D = some k ∨ ∃ e ∈ ents, fb e k

theorem cell_lt2 {w : World} {a : Addr} {v : Value} (h : w.cell? a = some v) : a.block < w.heap.size := by
  unfold World.cell? at h
  split at h
  · rename_i hb; exact (Array.getElem?_eq_some_iff.1 hb).1
  · cases h
theorem GrpIs.ltG {w : World} {G o : Nat} {D : Option Nat} {ents : List Ent} (h : GrpIs w G o D ents) : G < w.heap.size := cell_lt2 h.c0
theorem GrpIs.foot {w : World} {G o : Nat} {D : Option Nat} {ents : List Ent} (h : GrpIs w G o D ents) (k : Nat) (hk : grpM G D ents k) : k < w.heap.size := by
  rcases hk with rfl | hk | ⟨e, he, hk⟩
  · exact h.ltG
  · rcases h.mp with ⟨h1, -⟩ | ⟨d, h1, -, h3⟩
    · rw [h1] at hk; cases hk
    · rw [h1] at hk; obtain rfl := Option.some.inj hk; exact h3.lt
  · exact (h.all e he).lt k hk
theorem GrpIs.of {M : Nat → Prop} {w w' : World} {G o : Nat} {D : Option Nat} {ents : List Ent} (h : GrpIs w G o D ents) (hx : ExtM M w w') (hM : ∀ k, grpM G D ents k → ¬ M k) : GrpIs w' G o D ents where
  c0 := (hx.cell (p := ⟨G, o, none⟩) h.ltG (hM _ (.inl rfl))).trans h.c0
  f0 := (hx.frozen (p := ⟨G, o, none⟩) h.ltG (hM _ (.inl rfl))).trans h.f0
  mp := by
    rcases h.mp with h | ⟨d, h1, h2, h3⟩
    · exact .inl h
    · exact .inr ⟨d, h1, h2, h3.of hx (hM d (.inr (.inl h1)))⟩
  all := fun e he => (h.all e he).keep fun k hk => hx.block k ((h.all e he).lt k hk) (hM k (.inr (.inr ⟨e, he, hk⟩)))
  apart := h.apart
  away := h.away
  ok := h.ok

theorem intLaw : Go.Maps.Keyed Tryz.prog 3 := Go.Maps.int_keyed Tryz.underlying3
theorem keyI (k : Int) (h : I64 k) : ∃ l, keyOf Tryz.prog 3 (.int .i64 k) = some l := ⟨_, Go.Maps.keyOf_int_mk Tryz.underlying3 h.wf⟩
theorem intI_inj (x y : Int) (h : Value.int .i64 x = Value.int .i64 y) : x = y := by simpa using h
theorem zeroPtr (w : World) : (zeroValue 103).run Tryz.prog w = .ok (.pointer none) w := by kernel_rfl

theorem look_prs (ents : List Ent) (k : Int) : mlook (prs ents) k = (ents.find? fun e => decide (e.key = k)).map fun e => .pointer (some ⟨e.S, 0, none⟩) := by
  unfold mlook prs
  rw [List.find?_map]
  simp [Function.comp_def]

/-- A key's turns: its block and its row alone. -/
theorem GrpIs.upd {w w' : World} {G o : Nat} {D : Option Nat} {pre post : List Ent} {e e' : Ent} (h : GrpIs w G o D (pre ++ e :: post)) (hx : ExtM (fb e) w w') (hk : e'.key = e.key) (hS : e'.S = e.S) (ha : AllAt w' e') (hf : ∀ k, fb e' k → fb e k ∨ w.heap.size ≤ k) :
    GrpIs w' G o D (pre ++ e' :: post) := by
  have hE : e ∈ pre ++ e :: post := by simp
  have hap := h.apart
  rw [List.pairwise_append, List.pairwise_cons] at hap
  obtain ⟨a1, ⟨a2, a3⟩, a4⟩ := hap
  have hother : ∀ f ∈ pre ++ post, ∀ k, fb f k → ¬ fb e k := by
    intro f hf' k h1 h2
    rcases List.mem_append.1 hf' with hp | hp
    · exact a4 f hp e (by simp) k h1 h2
    · exact a2 f hp k h2 h1
  have hmem : ∀ f, f ∈ pre ++ e' :: post → f = e' ∨ f ∈ pre ++ post := by
    intro f hf'
    simp only [List.mem_append, List.mem_cons] at hf' ⊢
    rcases hf' with h | h | h
    · exact .inr (.inl h)
    · exact .inl h
    · exact .inr (.inr h)
  have hsub : ∀ f, f ∈ pre ++ post → f ∈ pre ++ e :: post := by
    intro f hf'
    simp only [List.mem_append, List.mem_cons] at hf' ⊢
    rcases hf' with h | h
    · exact .inl h
    · exact .inr (.inr h)
  have hG : ¬ fb e G := fun hk => (h.away e hE G hk).1 rfl
  have hdis : ∀ f ∈ pre ++ post, ∀ k, fb f k → ¬ fb e' k := by
    intro f hf' k h1 h2
    rcases hf k h2 with h3 | h3
    · exact hother f hf' k h1 h3
    · have := (h.all f (hsub f hf')).lt k h1; omega
  refine ⟨(hx.cell (p := ⟨G, o, none⟩) h.ltG hG).trans h.c0, (hx.frozen (p := ⟨G, o, none⟩) h.ltG hG).trans h.f0, ?_, ?_, ?_, ?_, ?_⟩
  · rcases h.mp with ⟨-, h2⟩ | ⟨d, h1, h2, h3⟩
    · simp at h2
    · refine .inr ⟨d, h1, h2, ?_⟩
      have : prs (pre ++ e' :: post) = prs (pre ++ e :: post) := by simp [prs, hk, hS]
      rw [this]
      exact h3.of hx (fun hk => (h.away e hE d hk).2 h1)
  · intro f hf'
    rcases hmem f hf' with rfl | hf2
    · exact ha
    · exact (h.all f (hsub f hf2)).keep fun k hk => hx.block k ((h.all f (hsub f hf2)).lt k hk) (hother f hf2 k hk)
  · rw [List.pairwise_append, List.pairwise_cons]
    refine ⟨a1, ⟨fun f hf' k h1 h2 => hdis f (by simp [hf']) k h2 h1, a3⟩, fun f hf' g hg k h1 h2 => ?_⟩
    rcases List.mem_cons.1 hg with rfl | hg
    · exact hdis f (by simp [hf']) k h1 h2
    · exact a4 f hf' g (by simp [hg]) k h1 h2
  · intro f hf' k h1
    rcases hmem f hf' with rfl | hf2
    · rcases hf k h1 with h3 | h3
      · exact h.away e hE k h3
      · refine ⟨fun e1 => ?_, fun e1 => ?_⟩
        · have := h.ltG; omega
        · have := h.foot k (.inr (.inl e1)); omega
    · exact h.away f (hsub f hf2) k h1
  · intro f hf'
    rcases hmem f hf' with rfl | hf2
    · rw [hk]; exact h.ok e hE
    · exact h.ok f (hsub f hf2)

theorem grpM_upd {G : Nat} {D : Option Nat} {pre post : List Ent} {e e' : Ent} {n : Nat} (hf : ∀ k, fb e' k → fb e k ∨ n ≤ k) (k : Nat) (hk : grpM G D (pre ++ e' :: post) k) : grpM G D (pre ++ e :: post) k ∨ n ≤ k := by
  rcases hk with h | h | ⟨f, hf', h⟩
  · exact .inl (.inl h)
  · exact .inl (.inr (.inl h))
  · simp only [List.mem_append, List.mem_cons] at hf'
    rcases hf' with h1 | rfl | h1
    · exact .inl (.inr (.inr ⟨f, by simp [h1], h⟩))
    · rcases hf k h with h2 | h2
      · exact .inl (.inr (.inr ⟨e, by simp, h2⟩))
      · exact .inr h2
    · exact .inl (.inr (.inr ⟨f, by simp [h1], h⟩))

/-- A new key's goes in. -/
theorem GrpIs.push {w w' : World} {G o d : Nat} {ents : List Ent} {e : Ent} (h : GrpIs w G o (some d) ents) (ha : AllAt w e) (hok : I64 e.key) (hn : ∀ f ∈ ents, f.key ≠ e.key) (hfr : ∀ k, fb e k → ¬ grpM G (some d) ents k)
    (hx : ExtB d w w') (hm : MapIs Tryz.prog 3 (Value.int .i64) w' d (putK (prs ents) e.key (.pointer (some ⟨e.S, 0, none⟩)))) : GrpIs w' G o (some d) (ents ++ [e]) := by
  have hdG : d ≠ G := by
    rcases h.mp with ⟨h1, -⟩ | ⟨d', h1, h2, -⟩
    · cases h1
    · obtain rfl := Option.some.inj h1; exact h2
  have hnl : mlook (prs ents) e.key = none := by
    refine mlook_none fun p hp => ?_
    obtain ⟨f, hf, rfl⟩ := List.mem_map.1 hp
    exact hn f hf
  rw [putK_new hnl] at hm
  have keepA : ∀ f, AllAt w f → (∀ k, fb f k → k ≠ d) → AllAt w' f := fun f hf hd => hf.keep fun k hk => hx.block k (hf.lt k hk) (hd k hk)
  refine ⟨(hx.rules.1 G o h.ltG (fun e => hdG e.symm)).trans h.c0, (hx.rules.2.1 G o h.ltG (fun e => hdG e.symm)).trans h.f0, .inr ⟨d, rfl, hdG, ?_⟩, ?_, ?_, ?_, ?_⟩
  · have : prs (ents ++ [e]) = prs ents ++ [(e.key, .pointer (some ⟨e.S, 0, none⟩))] := by simp [prs]
    rw [this]; exact hm
  · intro f hf
    rcases List.mem_append.1 hf with hf | hf
    · exact keepA f (h.all f hf) fun k hk e1 => (h.away f hf k hk).2 (by rw [e1])
    · obtain rfl := List.mem_singleton.1 hf
      exact keepA _ ha fun k hk e1 => hfr k hk (.inr (.inl (by rw [e1])))
  · rw [List.pairwise_append]
    refine ⟨h.apart, by simp, fun f hf g hg k h1 h2 => ?_⟩
    obtain rfl := List.mem_singleton.1 hg
    exact hfr k h2 (.inr (.inr ⟨f, hf, h1⟩))
  · intro f hf k hk
    rcases List.mem_append.1 hf with hf | hf
    · exact h.away f hf k hk
    · obtain rfl := List.mem_singleton.1 hf
      exact ⟨fun e1 => hfr k hk (.inl e1), fun e1 => hfr k hk (.inr (.inl e1))⟩
  · intro f hf
    rcases List.mem_append.1 hf with hf | hf
    · exact h.ok f hf
    · obtain rfl := List.mem_singleton.1 hf; exact hok

/-- A key's goes out. -/
theorem GrpIs.pop {w w' : World} {G o d : Nat} {ents : List Ent} {key : Int} (h : GrpIs w G o (some d) ents) (hx : ExtB d w w')
    (hm : MapIs Tryz.prog 3 (Value.int .i64) w' d (delK (prs ents) key)) : GrpIs w' G o (some d) (ents.filter fun e => !decide (e.key = key)) := by
  have hdG : d ≠ G := by
    rcases h.mp with ⟨h1, -⟩ | ⟨d', h1, h2, -⟩
    · cases h1
    · obtain rfl := Option.some.inj h1; exact h2
  refine ⟨(hx.rules.1 G o h.ltG (fun e => hdG e.symm)).trans h.c0, (hx.rules.2.1 G o h.ltG (fun e => hdG e.symm)).trans h.f0, .inr ⟨d, rfl, hdG, ?_⟩, ?_, h.apart.filter _, ?_, ?_⟩
  · have : prs (ents.filter fun e => !decide (e.key = key)) = delK (prs ents) key := by
      unfold prs delK
      rw [List.filter_map]
      rfl
    rw [this]; exact hm
  · intro f hf
    have hf' := (List.mem_filter.1 hf).1
    exact (h.all f hf').keep fun k hk => hx.block k ((h.all f hf').lt k hk) fun e1 => (h.away f hf' k hk).2 (by rw [e1])
  · intro f hf k hk
    exact h.away f (List.mem_filter.1 hf).1 k hk
  · intro f hf
    exact h.ok f (List.mem_filter.1 hf).1

theorem GrpIs.nodup {w : World} {G o : Nat} {D : Option Nat} {ents : List Ent} (h : GrpIs w G o D ents) : (ents.map (·.key)).Nodup := by
  rcases h.mp with ⟨-, rfl⟩ | ⟨d, -, -, hm⟩
  · simp
  · have := hm.nodup
    simpa [prs, List.map_map, Function.comp_def] using this
theorem st_at {pre post : List Ent} {e : Ent} (hn : ((pre ++ e :: post).map (·.key)).Nodup) (e' : Ent) (hk : e'.key = e.key) : st (pre ++ e' :: post) e.key = some e'.a := by
  have hp : ∀ f ∈ pre, f.key ≠ e.key := by
    intro f hf e1
    rw [List.map_append, List.map_cons, List.nodup_append] at hn
    exact hn.2.2 f.key (List.mem_map.2 ⟨f, hf, rfl⟩) e.key (by simp) e1
  unfold st
  rw [List.find?_append, List.find?_eq_none.2 (fun f hf => by simpa using hp f hf)]
  simp [hk]
theorem st_other {pre post : List Ent} {e e' : Ent} (hk : e'.key = e.key) (k : Int) (hne : k ≠ e.key) : st (pre ++ e' :: post) k = st (pre ++ e :: post) k := by
  unfold st
  have h1 : ¬ e.key = k := fun e1 => hne e1.symm
  rw [List.find?_append, List.find?_append]
  simp [hk, h1]
theorem st_push {ents : List Ent} {e : Ent} (hn : ∀ f ∈ ents, f.key ≠ e.key) (k : Int) : st (ents ++ [e]) k = if k = e.key then some e.a else st ents k := by
  unfold st
  rw [List.find?_append]
  by_cases hk : k = e.key
  · subst hk
    rw [if_pos rfl, List.find?_eq_none.2 (fun f hf => by simpa using hn f hf)]
    simp
  · have h1 : ¬ e.key = k := fun e1 => hk e1.symm
    rw [if_neg hk]
    simp [h1]
theorem st_pop (ents : List Ent) (key k : Int) : st (ents.filter fun e => !decide (e.key = key)) k = if k = key then none else st ents k := by
  unfold st
  by_cases hk : k = key
  · subst hk
    rw [if_pos rfl, List.find?_eq_none.2 (fun f hf => by
      have := (List.mem_filter.1 hf).2
      simpa using this)]
    rfl
  · rw [if_neg hk]
    induction ents with
    | nil => rfl
    | cons e r ih =>
      by_cases he : e.key = key
      · have h1 : ¬ e.key = k := fun e1 => hk (e1.symm.trans he)
        rw [List.filter_cons_of_neg (by simp [he]), ih]
        simp [h1]
      · rw [List.filter_cons_of_pos (by simp [he])]
        by_cases h1 : e.key = k
        · simp [h1]
        · simp only [List.find?_cons, h1, decide_false] at ih ⊢
          exact ih
theorem st_none {ents : List Ent} {k : Int} : st ents k = none ↔ ∀ e ∈ ents, e.key ≠ k := by
  unfold st
  rw [Option.map_eq_none_iff, List.find?_eq_none]
  simp
/-- A key that is there, out of the others. -/
theorem split_at {ents : List Ent} {k : Int} {e : Ent} (h : ents.find? (fun e => decide (e.key = k)) = some e) : ∃ pre post, ents = pre ++ e :: post ∧ e.key = k := by
  have hm := List.mem_of_find?_eq_some h
  obtain ⟨pre, post, rfl⟩ := List.append_of_mem hm
  exact ⟨pre, post, rfl, by simpa using List.find?_some h⟩
end Go.Proofs.YtmcgnnmffeojpaaGreatDoor
