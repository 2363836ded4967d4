/- A tale in memory: what a step's parts leave of it. -/
import Derived.Test.YtmcgnnmffeojpaaGreatDoorPk38
namespace Go.Proofs.YtmcgnnmffeojpaaGreatDoor
open Go.RowKit Go.Plan

/-- A tale: its own block T, its map F (it counts W), its engine E with the blocks Bs, the rows v0, v1 of its sides. -/
structure TaleIs (u : World) (T F E : Nat) (Bs : Nat → Prop) (v0 v1 : Value) (lo hi md : Int) (s : TSt) (m : List (Out × Value)) (W : List Out) : Prop where
  own : TCells u T F E lo hi md v0 v1 s.a0 s.a1
  eng : EAt u E Bs lo hi md s.st s.V s.V s.f0 s.f1
  r0 : TRow u 0 v0 s.L.reverse
  r1 : TRow u 0 v1 s.R.reverse
  mp : MapIs Tryz.prog 58 encO u F m
  cz : CountsZ m W
  nT : ¬ Bs T
  nF : ¬ Bs F
  TF : T ≠ F
  a0 : ∀ k, v0.ownBlock = some k → ¬ Bs k ∧ k ≠ T ∧ k ≠ F
  a1 : ∀ k, v1.ownBlock = some k → ¬ Bs k ∧ k ≠ T ∧ k ≠ F
  a01 : ∀ k, v0.ownBlock = some k → v1.ownBlock ≠ some k
def TFoot (T F : Nat) (Bs : Nat → Prop) (v0 v1 : Value) (k : Nat) : Prop := k = T ∨ k = F ∨ Bs k ∨ v0.ownBlock = some k ∨ v1.ownBlock = some k

section
variable {u u' : World} {T F E : Nat} {Bs : Nat → Prop} {v0 v1 : Value} {lo hi md x0 x1 : Int} {s : TSt} {m : List (Out × Value)} {W : List Out}
theorem TCells.keep {M : Nat → Prop} (h : TCells u T F E lo hi md v0 v1 x0 x1) (hx : ExtM M u u') (hT : ¬ M T) : TCells u' T F E lo hi md v0 v1 x0 x1 := by
  have l := cell_lt' h.c0
  have k := fun o => hx.cell (p := ⟨T, o, none⟩) l hT
  exact ⟨(k _).trans h.c0, (k _).trans h.c1, (k _).trans h.c2, (k _).trans h.c3, (k _).trans h.c4, (k _).trans h.c5, (k _).trans h.c6, (k _).trans h.c7, (k _).trans h.c8, fun q => (hx.frozen (p := ⟨T, q, none⟩) l hT).trans (h.fz q)⟩
theorem TaleIs.keep {M : Nat → Prop} (h : TaleIs u T F E Bs v0 v1 lo hi md s m W) (hx : ExtM M u u') (hM : ∀ k, TFoot T F Bs v0 v1 k → ¬ M k) : TaleIs u' T F E Bs v0 v1 lo hi md s m W :=
  ⟨h.own.keep hx (hM _ (.inl rfl)), h.eng.keep hx (fun k hk => hM k (.inr (.inr (.inl hk)))), own_ext h.r0 hx (fun k hk => hM k (.inr (.inr (.inr (.inl hk))))), own_ext h.r1 hx (fun k hk => hM k (.inr (.inr (.inr (.inr hk))))), h.mp.of hx (hM _ (.inr (.inl rfl))), h.cz, h.nT, h.nF, h.TF, h.a0, h.a1, h.a01⟩
theorem TaleIs.ext (h : TaleIs u T F E Bs v0 v1 lo hi md s m W) (hx : Ext u u') : TaleIs u' T F E Bs v0 v1 lo hi md s m W := h.keep hx (fun _ _ h => h)
theorem TaleIs.foot (h : TaleIs u T F E Bs v0 v1 lo hi md s m W) (k : Nat) (hk : TFoot T F Bs v0 v1 k) : k < u.heap.size := by
  rcases hk with rfl | rfl | hk | hk | hk
  · exact cell_lt' h.own.c0
  · exact h.mp.lt
  · exact h.eng.lt k hk
  · exact (own_lt h.r0 k hk).2
  · exact (own_lt h.r1 k hk).2
/-- The engine turns. -/
theorem TaleIs.fed {st' : JSt} {V' : List Out} {f0' f1' : Int} (h : TaleIs u T F E Bs v0 v1 lo hi md s m W) (hu : EUp u u' E Bs lo hi md st' V' V' f0' f1') :
    ∃ Bs', TaleIs u' T F E Bs' v0 v1 lo hi md { s with st := st', V := V', f0 := f0', f1 := f1' } m W ∧ ∀ k, Bs' k → Bs k ∨ u.heap.size ≤ k := by
  obtain ⟨hx, Bs', ha, hb⟩ := hu
  have hf := h.foot
  refine ⟨Bs', ⟨h.own.keep hx h.nT, ha, own_ext h.r0 hx (fun k hk => (h.a0 k hk).1), own_ext h.r1 hx (fun k hk => (h.a1 k hk).1), h.mp.of hx h.nF, h.cz, fun e => ?_, fun e => ?_, h.TF, fun k hk => ⟨fun e => ?_, (h.a0 k hk).2⟩, fun k hk => ⟨fun e => ?_, (h.a1 k hk).2⟩, h.a01⟩, hb⟩
  · rcases hb _ e with e | e
    · exact h.nT e
    · have := hf T (.inl rfl); omega
  · rcases hb _ e with e | e
    · exact h.nF e
    · have := hf F (.inr (.inl rfl)); omega
  · rcases hb _ e with e | e
    · exact (h.a0 k hk).1 e
    · have := hf k (.inr (.inr (.inr (.inl hk)))); omega
  · rcases hb _ e with e | e
    · exact (h.a1 k hk).1 e
    · have := hf k (.inr (.inr (.inr (.inr hk)))); omega
/-- Another cell of the tale's own. -/
theorem setT (T o : Nat) (v : Value) (u : World) : ExtM (fun k => k = T) u (u.setCell ⟨T, o, none⟩ v) ∧ (∀ q, q ≠ o → (u.setCell ⟨T, o, none⟩ v).cell? ⟨T, q, none⟩ = u.cell? ⟨T, q, none⟩) ∧ ∀ q, (u.setCell ⟨T, o, none⟩ v).frozen? ⟨T, q, none⟩ = u.frozen? ⟨T, q, none⟩ :=
  ⟨ExtM.setCell (M := fun k => k = T) (ExtM.refl u) (p := ⟨T, o, none⟩) (.inr rfl) _, fun q hq => World.cell?_setCell_other _ _ _ _ (by intro e; simp only [Addr.mk.injEq, and_true, true_and] at e; omega), fun q => World.frozen?_setCell _ _ _ _⟩
/-- A row more is among those that were taken. -/
theorem TaleIs.row0 {v' : Value} {r : Row} (h : TaleIs u T F E Bs v0 v1 lo hi md s m W) (hx : ExtM (fun k => v0.ownBlock = some k) u u') (hr : TRow u' 0 v' (r :: s.L).reverse) (hb : v'.ownBlock = v0.ownBlock ∨ ∃ k, v'.ownBlock = some k ∧ u.heap.size ≤ k) :
    TaleIs (u'.setCell ⟨T, 4, none⟩ v') T F E Bs v' v1 lo hi md { s with L := r :: s.L } m W ∧ ExtM (fun k => k = T ∨ v0.ownBlock = some k) u (u'.setCell ⟨T, 4, none⟩ v') ∧ ∀ k, TFoot T F Bs v' v1 k → TFoot T F Bs v0 v1 k ∨ u.heap.size ≤ k := by
  have hf := h.foot
  obtain ⟨hs, hc, hz⟩ := setT T 4 v' u'
  have hT : ¬ v0.ownBlock = some T := fun e => (h.a0 T e).2.1 rfl
  have hF : ¬ v0.ownBlock = some F := fun e => (h.a0 F e).2.2 rfl
  have ho := h.own.keep hx hT
  have hn : ∀ k, v'.ownBlock = some k → v0.ownBlock = some k ∨ u.heap.size ≤ k := fun k hk => by
    rcases hb with e | ⟨q, e, hq⟩
    · exact .inl (e ▸ hk)
    · rw [e] at hk; cases hk; exact .inr hq
  have hA : ∀ k, v'.ownBlock = some k → ¬ Bs k ∧ k ≠ T ∧ k ≠ F := fun k hk => (hn k hk).elim (fun e => h.a0 k e) (fun e => ⟨fun q => by have := hf k (.inr (.inr (.inl q))); omega, fun q => by have := hf T (.inl rfl); omega, fun q => by have := hf F (.inr (.inl rfl)); omega⟩)
  have hN : ∀ k, v'.ownBlock = some k → ¬ k = T := fun k hk => (hA k hk).2.1
  refine ⟨⟨⟨(hc 0 (by decide)).trans ho.c0, (hc 1 (by decide)).trans ho.c1, (hc 2 (by decide)).trans ho.c2, (hc 3 (by decide)).trans ho.c3, World.cell?_setCell_same _ _ _ ho.c4, (hc 5 (by decide)).trans ho.c5, (hc 6 (by decide)).trans ho.c6, (hc 7 (by decide)).trans ho.c7, (hc 8 (by decide)).trans ho.c8, fun q => (hz q).trans (ho.fz q)⟩,
    (h.eng.keep hx (fun k hk e => (h.a0 k e).1 hk)).keep hs (fun k hk e => h.nT (e ▸ hk)), own_ext hr hs (fun k hk e => hN k hk e), own_ext (own_ext h.r1 hx (fun k hk e => h.a01 k e hk)) hs (fun k hk e => (h.a1 k hk).2.1 e), (h.mp.of hx hF).of hs (fun e => h.TF e.symm), h.cz, h.nT, h.nF, h.TF, hA, h.a1, fun k hk hk' => ?_⟩, ?_, fun k hk => ?_⟩
  · exact (hn k hk).elim (fun e => h.a01 k e hk') (fun e => absurd (hf k (.inr (.inr (.inr (.inr hk'))))) (Nat.not_lt.2 e))
  · exact ExtM.trans _ _ _ (hx.mono fun k _ e => .inr e) (hs.mono fun k _ e => .inl e)
  · rcases hk with hk | hk | hk | hk | hk
    · exact .inl (.inl hk)
    · exact .inl (.inr (.inl hk))
    · exact .inl (.inr (.inr (.inl hk)))
    · exact (hn k hk).elim (fun e => .inl (.inr (.inr (.inr (.inl e))))) .inr
    · exact .inl (.inr (.inr (.inr (.inr hk))))
/-- A row more is among those that were taken. -/
theorem TaleIs.row1 {v' : Value} {r : Row} (h : TaleIs u T F E Bs v0 v1 lo hi md s m W) (hx : ExtM (fun k => v1.ownBlock = some k) u u') (hr : TRow u' 0 v' (r :: s.R).reverse) (hb : v'.ownBlock = v1.ownBlock ∨ ∃ k, v'.ownBlock = some k ∧ u.heap.size ≤ k) :
    TaleIs (u'.setCell ⟨T, 5, none⟩ v') T F E Bs v0 v' lo hi md { s with R := r :: s.R } m W ∧ ExtM (fun k => k = T ∨ v1.ownBlock = some k) u (u'.setCell ⟨T, 5, none⟩ v') ∧ ∀ k, TFoot T F Bs v0 v' k → TFoot T F Bs v0 v1 k ∨ u.heap.size ≤ k := by
  have hf := h.foot
  obtain ⟨hs, hc, hz⟩ := setT T 5 v' u'
  have hT : ¬ v1.ownBlock = some T := fun e => (h.a1 T e).2.1 rfl
  have hF : ¬ v1.ownBlock = some F := fun e => (h.a1 F e).2.2 rfl
  have ho := h.own.keep hx hT
  have hn : ∀ k, v'.ownBlock = some k → v1.ownBlock = some k ∨ u.heap.size ≤ k := fun k hk => by
    rcases hb with e | ⟨q, e, hq⟩
    · exact .inl (e ▸ hk)
    · rw [e] at hk; cases hk; exact .inr hq
  have hA : ∀ k, v'.ownBlock = some k → ¬ Bs k ∧ k ≠ T ∧ k ≠ F := fun k hk => (hn k hk).elim (fun e => h.a1 k e) (fun e => ⟨fun q => by have := hf k (.inr (.inr (.inl q))); omega, fun q => by have := hf T (.inl rfl); omega, fun q => by have := hf F (.inr (.inl rfl)); omega⟩)
  have hN : ∀ k, v'.ownBlock = some k → ¬ k = T := fun k hk => (hA k hk).2.1
  refine ⟨⟨⟨(hc 0 (by decide)).trans ho.c0, (hc 1 (by decide)).trans ho.c1, (hc 2 (by decide)).trans ho.c2, (hc 3 (by decide)).trans ho.c3, (hc 4 (by decide)).trans ho.c4, World.cell?_setCell_same _ _ _ ho.c5, (hc 6 (by decide)).trans ho.c6, (hc 7 (by decide)).trans ho.c7, (hc 8 (by decide)).trans ho.c8, fun q => (hz q).trans (ho.fz q)⟩,
    (h.eng.keep hx (fun k hk e => (h.a1 k e).1 hk)).keep hs (fun k hk e => h.nT (e ▸ hk)), own_ext (own_ext h.r0 hx (fun k hk e => h.a01 k hk e)) hs (fun k hk e => (h.a0 k hk).2.1 e), own_ext hr hs (fun k hk e => hN k hk e), (h.mp.of hx hF).of hs (fun e => h.TF e.symm), h.cz, h.nT, h.nF, h.TF, h.a0, hA, fun k hk hk' => ?_⟩, ?_, fun k hk => ?_⟩
  · exact (hn k hk').elim (fun e => h.a01 k hk e) (fun e => absurd (hf k (.inr (.inr (.inr (.inl hk))))) (Nat.not_lt.2 e))
  · exact ExtM.trans _ _ _ (hx.mono fun k _ e => .inr e) (hs.mono fun k _ e => .inl e)
  · rcases hk with hk | hk | hk | hk | hk
    · exact .inl (.inl hk)
    · exact .inl (.inr (.inl hk))
    · exact .inl (.inr (.inr (.inl hk)))
    · exact .inl (.inr (.inr (.inr (.inl hk))))
    · exact (hn k hk).elim (fun e => .inl (.inr (.inr (.inr (.inr e))))) .inr
/-- The map turns. -/
theorem TaleIs.folded {m' : List (Out × Value)} {W' : List Out} (h : TaleIs u T F E Bs v0 v1 lo hi md s m W) (hx : ExtM (fun k => k = F) u u') (hm : MapIs Tryz.prog 58 encO u' F m') (hz : CountsZ m' W') :
    TaleIs u' T F E Bs v0 v1 lo hi md s m' W' :=
  ⟨h.own.keep hx h.TF, h.eng.keep hx (fun k hk e => h.nF (e ▸ hk)), own_ext h.r0 hx (fun k hk e => (h.a0 k hk).2.2 e), own_ext h.r1 hx (fun k hk e => (h.a1 k hk).2.2 e), hm, hz, h.nT, h.nF, h.TF, h.a0, h.a1, h.a01⟩
end

/-- A tale whose blocks are Fs. -/
def TAt (u : World) (T : Nat) (Fs : Nat → Prop) (lo hi md : Int) (s : TSt) : Prop := ∃ F E Bs v0 v1 m, TaleIs u T F E Bs v0 v1 lo hi md s m s.V ∧ Fs = TFoot T F Bs v0 v1
/-- What a step leaves of it. -/
def TUp (u u' : World) (T : Nat) (Fs : Nat → Prop) (lo hi md : Int) (s : TSt) : Prop := ExtM Fs u u' ∧ ∃ Fs', TAt u' T Fs' lo hi md s ∧ ∀ k, Fs' k → Fs k ∨ u.heap.size ≤ k
section
variable {u u' : World} {T : Nat} {Fs : Nat → Prop} {lo hi md : Int} {s : TSt}
theorem TAt.lt (h : TAt u T Fs lo hi md s) (k : Nat) (hk : Fs k) : k < u.heap.size := by
  obtain ⟨F, E, Bs, v0, v1, m, h, rfl⟩ := h; exact h.foot k hk
theorem TAt.keep {M : Nat → Prop} (h : TAt u T Fs lo hi md s) (hx : ExtM M u u') (hM : ∀ k, Fs k → ¬ M k) : TAt u' T Fs lo hi md s := by
  obtain ⟨F, E, Bs, v0, v1, m, h, rfl⟩ := h; exact ⟨F, E, Bs, v0, v1, m, h.keep hx hM, rfl⟩
theorem TAt.ext (h : TAt u T Fs lo hi md s) (hx : Ext u u') : TAt u' T Fs lo hi md s := h.keep hx (fun _ _ h => h)
theorem TUp.same (h : TAt u T Fs lo hi md s) (hx : Ext u u') : TUp u u' T Fs lo hi md s := ⟨hx.mono (fun _ _ h => h.elim), Fs, h.ext hx, fun k hk => .inl hk⟩
end
theorem tale_new (low high mode : Int) (w : World) (h1 : I64 low) (h2 : I64 high) (h3 : I64 mode) :
    Calls Tryz.prog 8 #[.int .i64 low, .int .i64 high, .int .i64 mode] w fun e w' => ∃ T Fs, e = .returned (.pointer (some ⟨T, 0, none⟩)) ∧ Ext w w' ∧ TAt w' T Fs (planLo low) (planHi low high) (planMd mode) TSt.new ∧ ∀ k, Fs k → w.heap.size ≤ k := by
  refine (talesnew_c low high mode w h1 h2 h3).mono ?_
  rintro e w' ⟨T, F, E, Bs, rfl, hx, hE, hT, hM, q1, q2, q3, q4, q5, q6⟩
  refine ⟨T, _, rfl, hx, ⟨F, E, Bs, _, _, [], ⟨hT, hE, ⟨rfl, .inl ⟨rfl, rfl⟩⟩, ⟨rfl, .inl ⟨rfl, rfl⟩⟩, hM, fun x => rfl, q4, q5, q3, (fun k hk => nomatch hk), (fun k hk => nomatch hk), (fun k hk => nomatch hk)⟩, rfl⟩, fun k hk => ?_⟩
  rcases hk with rfl | rfl | hk | hk | hk
  · exact q1
  · exact q2
  · exact q6 k hk
  · cases hk
  · cases hk
end Go.Proofs.YtmcgnnmffeojpaaGreatDoor
