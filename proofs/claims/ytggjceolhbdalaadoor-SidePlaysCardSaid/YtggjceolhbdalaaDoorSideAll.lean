/- Side.All. -/
import Derived.Test.YtggjceolhbdalaaDoorMeet
namespace Go.Proofs.YtggjceolhbdalaaDoor
open Go.RowKit Go.Plan

set_option maxRecDepth 100000 in
set_option maxHeartbeats 4000000 in
theorem all_c (S o : Nat) (v : Value) (hs : List Hd) (w : World) (h : SideIs w S o v hs) (hl : hs.length < 1000000) :
    Calls Tryd.prog 36 #[.pointer (some ⟨S, o, none⟩)] w fun e w' => ∃ vo, e = .returned vo ∧ MRow w' w.heap.size vo hs ∧ Ext w w' := by
  obtain ⟨p, cap, rfl, -⟩ := own_slice h.row
  have c0 := h.c0
  go_enter Tryd.func36, Tryd.ntmps36
  go_wp2
  go_loopg [3, 11] hs.length (fun kx s3 s11 wr => ∃ d : Nat, s11 = .int .i64 (d : Int) ∧ d ≤ hs.length ∧ hs.length - d ≤ kx ∧ Ext w wr ∧ MRow wr w.heap.size s3 (hs.take d))
  case atStart => exact ⟨0, rfl, Nat.zero_le _, by omega, ExtM.refl _, nil_none _ _⟩
  case round =>
    obtain ⟨d, rfl, hdl, hgk, hx, hout⟩ := hrel
    by_cases hdn : d < hs.length
    · obtain ⟨g, rfl, hgl, ⟨e0, e1, e2, e3, fz⟩⟩ := (h.row.extF hx).at' d hdn
      have HT := Lib.hid (List.take_succ_eq_append_getElem hdn)
      generalize hs[d] = x at *
      have hsz := hx.size
      obtain ⟨v', w', happ, hown', hgr, hloc⟩ := run_appendM ((wr.alloc (.cells #[.int .i64 x.r.k, .int .i64 x.r.t, .int .i64 x.r.v, .int .i64 x.m] 121)).alloc (.cells #[.int .i64 x.r.k, .int .i64 x.r.t, .int .i64 x.r.v, .int .i64 x.m] 127)) w.heap.size (wr.heap.size + 1) 1 u3 (hs.take d) x 95
        (own_ext hout (((ExtM.refl wr).alloc _).alloc _ : Ext wr _) (fun _ _ h => h)) (fun j u hj => (World.cell?_alloc_at _ _ _ j (by simp)).trans (by simpa [Hd.cells] using hj)) (by rw [List.length_take]; omega) (by simp; omega)
      have hx2 : Ext w w' := (hx.fresh (ExtM.trans _ _ _ (((ExtM.refl wr).alloc _).alloc _) hgr) (fun k hk e => by have := own_lt hout k e; omega))
      go_wp2_with (at_builtin; refine wpList_append_run happ rfl rfl _ _ rfl rfl rfl ?_; clear happ)
      go_roundg (hs.length - (d + 1))
      case measure => omega
      case rel => exact ⟨d + 1, rfl, by omega, Nat.le_refl _, hx2, by rw [HT.out]; exact hown'⟩
    · go_wp2_with fail
      go_ret
      exact ⟨_, rfl, by rw [List.take_of_length_le (by omega)] at hout; exact hout, hx⟩
end Go.Proofs.YtggjceolhbdalaaDoor
