import Derived.Test.YtmcgnnmffeojpabGreatDoorPk14
set_option maxRecDepth 100000
set_option maxHeartbeats 8000000
namespace Go.Proofs.YtmcgnnmffeojpabGreatDoor
open Go.RowKit Go.Plan
theorem zjU (hs : List Hd) (i : Nat) (x : Hd) : (insH hs i x).Perm (x :: hs) := by
 unfold insH;refine List.perm_middle.trans (List.Perm.cons x ?_);rw [List.take_append_drop]
theorem zey (hs : List Hd) (x : Hd) : (addH hs x).Perm (x :: hs) := zjU _ _ _
theorem HInv.many {lo hi : Int} {s : Nat} (hs2 : s < 2) {hs : List Hd} {X Y : List Row} {z : Int} (hY : HInv lo hi (1 - s) hs Y X z) (x : Row) (hx : z < x.t) :
 (hs.filter (zab x.k (frI lo hi s x.t) (tilI lo hi s x.t))).length = Y.countP (mtB lo hi s x) := by
 have := hY.met_all (by omega) x hx
 rw [show 1 - (1 - s) = s by omega] at this;rw [List.countP_eq_length_filter,this.length_eq,List.length_map]
theorem HInv.hold {lo hi : Int} {s : Nat} {hs : List Hd} {X Y : List Row} {z : Int} (h : HInv lo hi s hs X Y z) (x : Row) (m : Int) (hm : m = ((Y.countP (mtB lo hi s x) : Nat) : Int)) : HInv lo hi s (addH hs ⟨x,m⟩) (x :: X) Y z := by
 obtain ⟨D,hp,hD⟩ := h.all;refine ⟨⟨D,?_,hD⟩,fun g hg => ?_⟩
 . refine (List.Perm.cons x hp).trans ?_
   have := ((zey hs ⟨x,m⟩).map (·.r)).symm
   exact List.Perm.append_right D this
 . rcases List.mem_cons.1 ((zey hs ⟨x,m⟩).mem_iff.1 hg) with rfl | hg
   . exact hm
   . exact h.met g hg
theorem HInv.pass {lo hi : Int} {s : Nat} {hs : List Hd} {X Y : List Row} {z : Int} (h : HInv lo hi s hs X Y z) (x : Row) (hx : tilI lo hi s x.t <= z) : HInv lo hi s hs (x :: X) Y z := by
 obtain ⟨D,hp,hD⟩ := h.all;refine ⟨⟨x :: D,(List.Perm.cons x hp).trans List.perm_middle.symm,fun d hd => ?_⟩,h.met⟩;rcases List.mem_cons.1 hd with rfl | hd
 . exact hx
 . exact hD d hd
theorem HInv.bumped {lo hi : Int} {s : Nat} (hs2 : s < 2) {hs : List Hd} {X Y : List Row} {z : Int} (h : HInv lo hi (1 - s) hs Y X z) (x : Row) (hX : X.length < 1000000000) :
 HInv lo hi (1 - s) (hs.map (zao (zab x.k (frI lo hi s x.t) (tilI lo hi s x.t)))) Y (x :: X) z := by
 have hr : ∀ g : Hd,(zao (zab x.k (frI lo hi s x.t) (tilI lo hi s x.t)) g).r = g.r := fun g => by unfold zao bump;split <;> rfl
 obtain ⟨D,hp,hD⟩ := h.all;refine ⟨⟨D,?_,hD⟩,fun g hg => ?_⟩
 . rw [List.map_map];rw [show ((fun x : Hd => x.r) ∘ zao (zab x.k (frI lo hi s x.t) (tilI lo hi s x.t))) = fun g => g.r from funext hr];exact hp
 . obtain ⟨g0,hg0,rfl⟩ := List.mem_map.1 hg;rw [hr,List.countP_cons,zdL hs2];have hm := h.met g0 hg0;have hle : X.countP (mtB lo hi (1 - s) g0.r) <= X.length := List.countP_le_length;unfold zao;rw [zhU hs2];split
   . unfold bump;simp only;rw [hm];unfold wrap64
     push_cast
     omega
   . rw [hm];simp
theorem HInv.moved {lo hi : Int} {s : Nat} {hs : List Hd} {X Y : List Row} {z t : Int} (h : HInv lo hi s hs X Y z) (ht : z <= t) : HInv lo hi s (hs.filter (fun h => decide (tilI lo hi s h.r.t > t))) X Y t := by
 obtain ⟨D,hp,hD⟩ := h.all;refine ⟨⟨(hs.filter (fun h => !decide (tilI lo hi s h.r.t > t))).map (·.r) ++ D,?_,fun d hd => ?_⟩,fun g hg => h.met g (List.mem_filter.1 hg).1⟩
 . refine hp.trans ?_;rw [<- List.append_assoc,<- List.map_append];exact List.Perm.append_right D ((zbQ _ hs).map _)
 . rcases List.mem_append.1 hd with hd | hd
   . obtain ⟨g,hg,rfl⟩ := List.mem_map.1 hd
     have := (List.mem_filter.1 hg).2
     simp only [Bool.not_eq_true',decide_eq_false_iff_not] at this;omega
   . exact Int.le_trans (hD d hd) ht
structure EInv (lo hi md : Int) (st : JSt) (L R : List Row) (V : List Out) : Prop where
 a : HInv lo hi 0 st.a L R st.y
 b : HInv lo hi 1 st.b R L st.x
 v : V.Perm (zcb lo hi md 0 L R)
theorem EInv.new (lo hi md x y late : Int) : EInv lo hi md ⟨[],[],x,y,late⟩ [] [] [] :=
 ⟨HInv.nil _ _ _ _ _,HInv.nil _ _ _ _ _,by
  have : zcb lo hi md 0 [] [] = [] := by
   unfold zcb pairsL lonesL;simp
  rw [this]⟩
theorem EInv.feed0 {lo hi md : Int} {st : JSt} {L R : List Row} {V : List Out} (h : EInv lo hi md st L R V) (r : Row) (hE : feedE lo hi 0 r st.x st.y (st.of 0).length = 0) (hL : L.length < 1000000000) :
 zb1 V (zaj lo hi md 0 r st) /\ EInv lo hi md (zam lo hi 0 r st) (r :: L) R (zaH V (zaj lo hi md 0 r st)) := by
 have hx : st.x < r.t := by
  unfold feedE at hE;by_cases h1 : za3 r.k r.t r.v = false
  . rw [if_pos h1] at hE;cases hE
  . rw [if_neg h1] at hE;by_cases h2 : r.t <= st.x
    . rw [if_pos (by simpa using h2)] at hE;cases hE
    . omega
 have eC : zaj lo hi md 0 r st = chgs md 0 r (st.b.filter (zab r.k (frI lo hi 0 r.t) (tilI lo hi 0 r.t))) := by
  unfold zaj;rw [if_pos hE];rfl
 obtain ⟨v1,v2⟩ := zpi (s := 0) (by omega) h.v h.b r hx;rw [eC];refine ⟨v1,?_⟩;have hb := HInv.bumped (s := 0) (by omega) h.b r hL;have hm := HInv.many (s := 0) (by omega) h.b r hx;by_cases hh : tilI lo hi 0 r.t > st.y
 . have eJ : zam lo hi 0 r st = { st with a := addH st.a ⟨r,((st.b.filter (zab r.k (frI lo hi 0 r.t) (tilI lo hi 0 r.t))).length : Nat)⟩,b := st.b.map (zao (zab r.k (frI lo hi 0 r.t) (tilI lo hi 0 r.t))) } := by
    unfold zam;simp only [hE];rw [if_neg (by decide),if_pos trivial];exact if_pos hh
   rw [eJ];exact ⟨h.a.hold r _ (by rw [hm]),hb,v2⟩
 . have eJ : zam lo hi 0 r st = { st with b := st.b.map (zao (zab r.k (frI lo hi 0 r.t) (tilI lo hi 0 r.t))) } := by
    unfold zam;simp only [hE];rw [if_neg (by decide),if_pos trivial];exact if_neg hh
   rw [eJ];exact ⟨h.a.pass r (by omega),hb,v2⟩
theorem EInv.feed1 {lo hi md : Int} {st : JSt} {L R : List Row} {V : List Out} (h : EInv lo hi md st L R V) (r : Row) (hE : feedE lo hi 1 r st.x st.y (st.of 1).length = 0) (hR : R.length < 1000000000) :
 zb1 V (zaj lo hi md 1 r st) /\ EInv lo hi md (zam lo hi 1 r st) L (r :: R) (zaH V (zaj lo hi md 1 r st)) := by
 have hx : st.y < r.t := by
  unfold feedE at hE;by_cases h1 : za3 r.k r.t r.v = false
  . rw [if_pos h1] at hE;cases hE
  . rw [if_neg h1] at hE;by_cases h2 : r.t <= st.y
    . rw [if_pos (by simpa using h2)] at hE;cases hE
    . omega
 have eC : zaj lo hi md 1 r st = chgs md 1 r (st.a.filter (zab r.k (frI lo hi 1 r.t) (tilI lo hi 1 r.t))) := by
  unfold zaj;rw [if_pos hE];rfl
 obtain ⟨v1,v2⟩ := zpi (s := 1) (by omega) (h.v.trans (zdN (by omega) L R)) h.a r hx;rw [eC];refine ⟨v1,?_⟩;have v3 := v2.trans (zdN (by omega) (r :: R) L);have hb := HInv.bumped (s := 1) (by omega) h.a r hR;have hm := HInv.many (s := 1) (by omega) h.a r hx;by_cases hh : tilI lo hi 1 r.t > st.x
 . have eJ : zam lo hi 1 r st = { st with b := addH st.b ⟨r,((st.a.filter (zab r.k (frI lo hi 1 r.t) (tilI lo hi 1 r.t))).length : Nat)⟩,a := st.a.map (zao (zab r.k (frI lo hi 1 r.t) (tilI lo hi 1 r.t))) } := by
    unfold zam;simp only [hE];rw [if_neg (by decide),if_pos trivial];exact if_pos hh
   rw [eJ];exact ⟨hb,h.b.hold r _ (by rw [hm]),v3⟩
 . have eJ : zam lo hi 1 r st = { st with a := st.a.map (zao (zab r.k (frI lo hi 1 r.t) (tilI lo hi 1 r.t))) } := by
    unfold zam;simp only [hE];rw [if_neg (by decide),if_pos trivial];exact if_neg hh
   rw [eJ];exact ⟨hb,h.b.pass r (by omega),v3⟩
theorem EInv.move {lo hi md : Int} {st : JSt} {L R : List Row} {V : List Out} (h : EInv lo hi md st L R V) (s : Nat) (t : Int) (ht : (if s = 0 then st.x else st.y) <= t) : EInv lo hi md (zbr lo hi s t st) L R V := by
 unfold zbr;split
 . rename_i h0;rw [if_pos h0] at ht;exact ⟨h.a,h.b.moved ht,h.v⟩
 . rename_i h0;rw [if_neg h0] at ht;exact ⟨h.a.moved ht,h.b,h.v⟩
theorem EInv.late {lo hi md : Int} {st : JSt} {L R : List Row} {V : List Out} (h : EInv lo hi md st L R V) (n : Int) : EInv lo hi md { st with late := n } L R V := ⟨h.a,h.b,h.v⟩
end Go.Proofs.YtmcgnnmffeojpabGreatDoor
