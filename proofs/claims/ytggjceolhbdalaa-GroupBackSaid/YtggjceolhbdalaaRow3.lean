/- The reference's order of what comes of rows (1.1). -/
import Derived.Test.YtggjceolhbdalaaRow2
namespace Go.Proofs.Ytggjceolhbdalaa
open Go.RowKit Go.Plan

theorem infoInt : (Try.prog.info? 3).map (fun i => (i.zero, i.size, i.bytes)) = some (some (.int .i64 0), 1, 8) := by kernel_rfl

theorem news_ints {w : World} {b : Nat} {xs : List Int} (h : intsAt w b 0 xs) : ∀ (j : Nat) (u : Value), (xs.map (Value.int .i64))[j]? = some u → w.cell? ((⟨b, 0, none⟩ : Addr).add j) = some u := fun j u hu => by
  have hadd : (⟨b, 0, none⟩ : Addr).add j = ⟨b, j, none⟩ := by unfold Addr.add; split <;> simp_all
  rw [List.getElem?_map, Option.map_eq_some_iff] at hu
  obtain ⟨x, hx, rfl⟩ := hu
  have hj : j < xs.length := (List.getElem?_eq_some_iff.1 hx).1
  have := h j hj
  rw [Nat.zero_add] at this
  rw [hadd, this]
  simp [List.getD, hx]

theorem one_ints (xs : List Int) : ∀ u ∈ xs.map (Value.int .i64), u.oneCell' = true := by
  intro u hu; obtain ⟨x, _, rfl⟩ := List.mem_map.1 hu; rfl

/-- 'append(v, x...)' of ints of the call's own, at an operation. -/
theorem wp_append_ints {o : Oper} {a : Act} {w : World} {K : Act → World → Prop} {Q : Exit → Act → World → Prop} (s x : Operand)
    (ho : o.op = .call { callee := .builtin .append, args := #[s, x], argTypes := #[59, 59] })
    (base g n c : Nat) (xs : List Int) (hs : a.eval s = .slice (some ⟨g, 0, none⟩) n c) (hown : w.ownsRow base 3 1 (.slice (some ⟨g, 0, none⟩) n c) n (xs.map (Value.int .i64)))
    (b m c2 : Nat) (news : List Int) (hx : a.eval x = .slice (some ⟨b, 0, none⟩) m c2) (hl : news.length = m) (hnews : intsAt w b 0 news)
    (hm : 0 < m) (h63 : n + m ≤ 1000) (hbase : base ≤ w.heap.size)
    (h : ∀ g' cap w', w'.ownsRow base 3 1 (.slice (some ⟨g', 0, none⟩) (n + m) cap) (n + m) ((xs ++ news).map (Value.int .i64)) → w.grownBy w' (some g) → (g' = g ∨ g' = w.heap.size) → g' < w'.heap.size → K (a.put o.dst (.slice (some ⟨g', 0, none⟩) (n + m) cap)) w') : o.wp Try.prog a w K Q := by
  obtain ⟨i0, hi, hz0, hz1, hz2⟩ := info_parts infoInt
  refine wp_append_lies w s x 59 ho base 3 i0 (.int .i64 0) 1 8 Try.underlying59 hi hz0 hz1 hz2 rfl (by decide) _ n _ hs hown ⟨b, 0, none⟩ m c2 (news.map (Value.int .i64)) hx (by simp [hl]) (news_ints hnews) (one_ints _) hm (by unfold maxLen; omega) (by omega) hbase _ rfl ?_
  intro g' cap w' h1 h2 h3 h4
  refine h g' cap w' (by rw [List.map_append]; exact h1) h2 (by rcases h3 with h3 | h3; left; simp [Value.ownBlock] at h3; exact h3.symm; right; exact h3) h4

theorem owns_new {w : World} {xs : List Int} {n g : Nat} (hn : n = xs.length) (hm : n ≤ 1000) {base : Nat} (hb : base ≤ w.heap.size) (hg : w.heap.size = g) : (w.alloc (.cells (xs.map (Value.int .i64)).toArray 3)).ownsRow base 3 1 (.slice (some ⟨g, 0, none⟩) n n) n (xs.map (Value.int .i64)) := by
  subst hg
  refine ⟨by simp [hn], .inr ⟨w.heap.size, n, _, rfl, hb, heap_alloc_new w _, Nat.le_refl _, by unfold maxLen; omega, by simp [hn], by simp [hn, List.take_of_length_le]⟩⟩

theorem owns_ext {w w' : World} {base : Nat} {e : TypeId} {size n : Nat} {v : Value} {xs : List Value} (h : w.ownsRow base e size v n xs) (he : Ext w w') : w'.ownsRow base e size v n xs :=
  h.kept (row := none) ⟨he.os, he.tape, he.output, he.size, fun k hk _ => he.block k hk id⟩ (by cases hv : v.ownBlock <;> simp)

theorem intsAt_grown {w w' : World} {b : Nat} {row : Option Nat} {xs : List Int} (h : intsAt w b 0 xs) (hg : w.grownBy w' row) (hb : b < w.heap.size) (hne : some b ≠ row) : intsAt w' b 0 xs :=
  fun i hi => by rw [hg.cell_far ⟨b, 0 + i, none⟩ hb hne]; exact h i hi

def outI (a : Out) : List Int := [a.key, flagI a.hl, a.l.k, a.l.t, a.l.v, flagI a.hr, a.r.k, a.r.t, a.r.v]

end Go.Proofs.Ytggjceolhbdalaa
