import Derived.Test.YtmcgnnmffeojpabGreatDoorPk12
set_option maxRecDepth 100000
set_option maxHeartbeats 8000000
namespace Go.Proofs.YtmcgnnmffeojpabGreatDoor
open Go.RowKit Go.Plan
theorem zn6 {α:Type} (a b c:List α):(a ++ (b ++ c)).Perm (b ++ (a ++ c)):=by
 rw [<- List.append_assoc,<- List.append_assoc];exact List.Perm.append_right _ List.perm_append_comm
def zaH (V:List Out) (cs:List (Out × Bool)):List Out:=cs.foldl (fun V c=>if c.2 then V.erase c.1 else c.1 :: V) V
def zb1:List Out -> List (Out × Bool) -> Prop
 | _,[]=>True
 | V,c :: cs=>(c.2 = true -> c.1 ∈ V) /\ zb1 (if c.2 then V.erase c.1 else c.1 :: V) cs
def zaX (cs:List (Out × Bool)):List Out:=(cs.filter (·.2)).map (·.1)
def zcq (cs:List (Out × Bool)):List Out:=(cs.filter (fun c=>!c.2)).map (·.1)
theorem zm5 (cs:List (Out × Bool)):∀ (V V0:List Out),V.Perm (zaX cs ++ V0) -> zb1 V cs /\ (zaH V cs).Perm (V0 ++ zcq cs):=by
 induction cs with
 | nil=>intro V V0 h;exact ⟨trivial,by simpa [zaH,zcq,zaX] using h⟩
 | cons c cs ih =>
   intro V V0 h;obtain ⟨x,g⟩:=c;cases g with
   | true =>
     have e1:zaX ((x,true) :: cs) = x :: zaX cs:=by simp [zaX]
     have e2:zcq ((x,true) :: cs) = zcq cs:=by simp [zcq]
     rw [e1] at h;have hx:x ∈ V:=h.mem_iff.2 (by simp);have h2:(V.erase x).Perm (zaX cs ++ V0):=by
      have:=h.erase x
      rwa [List.cons_append,List.erase_cons_head] at this
     obtain ⟨i1,i2⟩:=ih _ _ h2;rw [e2];exact ⟨⟨fun _=>hx,i1⟩,i2⟩
   | false =>
     have e1:zaX ((x,false) :: cs) = zaX cs:=by simp [zaX]
     have e2:zcq ((x,false) :: cs) = x :: zcq cs:=by simp [zcq]
     rw [e1] at h;have h2:(x :: V).Perm (zaX cs ++ (x :: V0)):=(List.Perm.cons x h).trans List.perm_middle.symm;obtain ⟨i1,i2⟩:=ih _ _ h2;rw [e2];refine ⟨⟨fun h=>(Bool.false_ne_true h).elim,i1⟩,i2.trans ?_⟩;exact List.perm_middle.symm
theorem zck (a b:List (Out × Bool)):zaX (a ++ b) = zaX a ++ zaX b:=by simp [zaX]
theorem zc4 (a b:List (Out × Bool)):zcq (a ++ b) = zcq a ++ zcq b:=by simp [zcq]
def mtL (lo hi:Int) (l r:Row):Bool:=decide (l.k = r.k) && decide (lo <= r.t - l.t) && decide (r.t - l.t <= hi)
def mtB (lo hi:Int) (s:Nat) (x y:Row):Bool:=if s = 0 then mtL lo hi x y else mtL lo hi y x
def prO (s:Nat) (x y:Row):Out:=if s = 0 then zbs x y else zbs y x
theorem zdL {lo hi:Int} {s:Nat} (hs:s < 2) (x y:Row):mtB lo hi (1 - s) y x = mtB lo hi s x y:=by
 have hs':s = 0 \/ s = 1:=by omega
 rcases hs' with rfl | rfl <;> rfl
theorem zhU {lo hi:Int} {s:Nat} (hs:s < 2) (x:Row) (h:Hd):zab x.k (frI lo hi s x.t) (tilI lo hi s x.t) h = mtB lo hi s x h.r:=by
 have hs':s = 0 \/ s = 1:=by omega
 unfold zab mtB frI tilI mtL;rcases hs' with rfl | rfl
 . simp only [if_true];by_cases h1:h.r.k = x.k
   . by_cases h2:x.t + lo <= h.r.t
     . by_cases h3:h.r.t <= x.t + hi
       . rw [decide_eq_true h1,decide_eq_true h2,decide_eq_true h3,decide_eq_true h1.symm,decide_eq_true (show lo <= h.r.t - x.t by omega),decide_eq_true (show h.r.t - x.t <= hi by omega)]
       . rw [decide_eq_false h3,decide_eq_false (show ¬ h.r.t - x.t <= hi by omega)];simp
     . rw [decide_eq_false h2,decide_eq_false (show ¬ lo <= h.r.t - x.t by omega)];simp
   . rw [decide_eq_false h1,decide_eq_false (show ¬ x.k = h.r.k from fun e=>h1 e.symm)];simp
 . simp only [if_neg (show ¬ (1:Nat) = 0 by decide)];by_cases h1:h.r.k = x.k
   . by_cases h2:x.t - hi <= h.r.t
     . by_cases h3:h.r.t <= x.t - lo
       . rw [decide_eq_true h1,decide_eq_true h2,decide_eq_true h3,decide_eq_true (show lo <= x.t - h.r.t by omega),decide_eq_true (show x.t - h.r.t <= hi by omega)]
       . rw [decide_eq_false h3,decide_eq_false (show ¬ lo <= x.t - h.r.t by omega)];simp
     . rw [decide_eq_false h2,decide_eq_false (show ¬ x.t - h.r.t <= hi by omega)];simp
   . rw [decide_eq_false h1];simp
def pairsL (lo hi:Int) (s:Nat) (X Y:List Row):List Out:=X.flatMap fun x=>(Y.filter (mtB lo hi s x)).map (prO s x)
def lonesL (lo hi md:Int) (s:Nat) (X Y:List Row):List Out:=if zai md s = true then (X.filter fun x=>!Y.any (mtB lo hi s x)).map (zan s) else []
def zcb (lo hi md:Int) (s:Nat) (X Y:List Row):List Out:=pairsL lo hi s X Y ++ (lonesL lo hi md s X Y ++ lonesL lo hi md (1 - s) Y X)
theorem zj1 (md:Int) (s:Nat) (r:Row) (ms:List Hd):zaX (chgs md s r ms) = if zai md (1 - s) = true then (ms.filter (fun m=>decide (m.m = 0))).map (fun m=>zan (1 - s) m.r) else []:=by
 unfold chgs;rw [zck];have e:zaX (if ms = [] /\ zai md s = true then [(zan s r,false)] else []) = []:=by split <;> rfl
 rw [e,List.append_nil];clear e;induction ms with
 | nil=>simp [zaX]
 | cons m ms ih =>
   rw [List.flatMap_cons,zck,ih];unfold chg1;rw [zck];have e3:∀ o,zaX [(o,false)] = []:=fun _=>rfl;rw [e3,List.append_nil];by_cases ht:zai md (1 - s) = true
   . rw [if_pos ht,if_pos ht];by_cases hm:m.m = 0
     . rw [if_pos ⟨hm,ht⟩,List.filter_cons,if_pos (by simpa using hm),List.map_cons];rfl
     . rw [if_neg (fun h=>hm h.1),List.filter_cons,if_neg (by simpa using hm)];rfl
   . rw [if_neg ht,if_neg ht,if_neg (fun h=>ht h.2)];rfl
theorem zlo (md:Int) (s:Nat) (r:Row) (ms:List Hd):zcq (chgs md s r ms) = ms.map (fun m=>prO s r m.r) ++ (if ms = [] /\ zai md s = true then [zan s r] else []):=by
 unfold chgs;rw [zc4];have e:zcq (if ms = [] /\ zai md s = true then [(zan s r,false)] else []) = if ms = [] /\ zai md s = true then [zan s r] else []:=by split <;> rfl
 rw [e];congr 1;clear e;induction ms with
 | nil=>rfl
 | cons m ms ih =>
   rw [List.flatMap_cons,zc4,ih,List.map_cons];have:zcq (chg1 md s r m) = [prO s r m.r]:=by
    unfold chg1;rw [zc4];have e2:zcq (if m.m = 0 /\ zai md (1 - s) = true then [(zan (1 - s) m.r,true)] else []) = []:=by split <;> rfl
    rw [e2];unfold prO zcq;split <;> rfl
   rw [this];rfl
structure HInv (lo hi:Int) (s:Nat) (hs:List Hd) (X Y:List Row) (z:Int):Prop where
 all:∃ D,X.Perm (hs.map (·.r) ++ D) /\ ∀ d ∈ D,tilI lo hi s d.t <= z
 met:∀ h ∈ hs,h.m = ((Y.countP (mtB lo hi s h.r):Nat):Int)
theorem HInv.nil (lo hi:Int) (s:Nat) (Y:List Row) (z:Int):HInv lo hi s [] [] Y z:=⟨⟨[],List.Perm.refl _,fun _d hd=>nomatch hd⟩,fun _h hh=>nomatch hh⟩
theorem znN {lo hi:Int} {s:Nat} (hs:s < 2) {d y:Row} {z:Int} (h:tilI lo hi s d.t <= z) (hy:z < y.t):mtB lo hi s d y = false:=by
 have hs':s = 0 \/ s = 1:=by omega
 unfold mtB mtL tilI at *;rcases hs' with rfl | rfl
 . simp only [if_true] at *;rw [decide_eq_false (show ¬ y.t - d.t <= hi by omega),Bool.and_false]
 . simp only [if_neg (show ¬ (1:Nat) = 0 by decide)] at *;rw [decide_eq_false (show ¬ lo <= d.t - y.t by omega),Bool.and_false,Bool.false_and]
theorem HInv.met_all {lo hi:Int} {s:Nat} (hs:s < 2) {hs':List Hd} {X Y:List Row} {z:Int} (h:HInv lo hi s hs' X Y z) (y:Row) (hy:z < y.t) :
 (X.filter (mtB lo hi (1 - s) y)).Perm ((hs'.filter (zab y.k (frI lo hi (1 - s) y.t) (tilI lo hi (1 - s) y.t))).map (·.r)):=by
 obtain ⟨D,hp,hD⟩:=h.all;refine (hp.filter _).trans ?_;rw [List.filter_append];have e:D.filter (mtB lo hi (1 - s) y) = []:=by
  rw [List.filter_eq_nil_iff];intro d hd;rw [zdL hs,znN hs (hD d hd) hy];decide
 rw [e,List.append_nil,List.filter_map];have e2:(mtB lo hi (1 - s) y ∘ fun h:Hd=>h.r) = zab y.k (frI lo hi (1 - s) y.t) (tilI lo hi (1 - s) y.t):=by
  funext h
  rw [zhU (by omega)];rfl
 rw [e2]
theorem zbQ {α:Type} (p:α -> Bool) (l:List α):l.Perm (l.filter p ++ l.filter (fun x=>!p x)):=by
 induction l with
 | nil=>exact List.Perm.refl _
 | cons x l ih =>
   rw [List.filter_cons,List.filter_cons];cases h:p x
   . simp only [Bool.false_eq_true,if_false,Bool.not_false,if_true];exact (List.Perm.cons x ih).trans List.perm_middle.symm
   . simp only [if_true,Bool.not_true,Bool.false_eq_true,if_false,List.cons_append];exact List.Perm.cons x ih
theorem zpi {lo hi md:Int} {s:Nat} (hs2:s < 2) {hs:List Hd} {X Y:List Row} {z:Int} {V:List Out} (hV:V.Perm (zcb lo hi md s X Y)) (hY:HInv lo hi (1 - s) hs Y X z) (x:Row) (hx:z < x.t) :
 zb1 V (chgs md s x (hs.filter (zab x.k (frI lo hi s x.t) (tilI lo hi s x.t)))) /\ (zaH V (chgs md s x (hs.filter (zab x.k (frI lo hi s x.t) (tilI lo hi s x.t))))).Perm (zcb lo hi md s (x :: X) Y):=by
 generalize hms:hs.filter (zab x.k (frI lo hi s x.t) (tilI lo hi s x.t)) = ms;have e11:1 - (1 - s) = s:=by omega
 have hP:(Y.filter (mtB lo hi s x)).Perm (ms.map (·.r)):=by
  have:=hY.met_all (by omega) x hx
  rwa [e11,hms] at this
 have hmet:∀ m ∈ ms,(m.m = 0 ↔ X.any (mtB lo hi (1 - s) m.r) = false):=fun m hm=>by
  rw [<- hms] at hm;rw [hY.met m (List.mem_filter.1 hm).1];rw [Bool.eq_false_iff,Ne,List.any_eq_true];constructor
  . rintro h ⟨y,hy,hyp⟩;have:0 < X.countP (mtB lo hi (1 - s) m.r):=List.countP_pos_iff.2 ⟨y,hy,hyp⟩;omega
  . intro h;have:X.countP (mtB lo hi (1 - s) m.r) = 0:=List.countP_eq_zero.2 fun y hy hyp=>h ⟨y,hy,hyp⟩;omega
 have hg:(zaX (chgs md s x ms)).Perm (if zai md (1 - s) = true then ((Y.filter fun y=>!X.any (mtB lo hi (1 - s) y)).filter (mtB lo hi s x)).map (zan (1 - s)) else []):=by
  rw [zj1];split
  . have e1:(ms.filter (fun m=>decide (m.m = 0))).map (fun m=>zan (1 - s) m.r) = (((ms.filter (fun m=>!X.any (mtB lo hi (1 - s) m.r))).map (·.r))).map (zan (1 - s)):=by
     rw [List.map_map];congr 1;apply List.filter_congr;intro m hm
     have:=hmet m hm
     cases hh:X.any (mtB lo hi (1 - s) m.r)
     . simp [this.2 hh]
     . simp only [Bool.not_true,decide_eq_false_iff_not];intro h0;rw [this.1 h0] at hh;cases hh
    rw [e1];refine List.Perm.map _ ?_;have e2:(ms.filter (fun m=>!X.any (mtB lo hi (1 - s) m.r))).map (·.r) = (ms.map (·.r)).filter (fun y=>!X.any (mtB lo hi (1 - s) y)):=by
     rw [List.filter_map];rfl
    rw [e2];refine (hP.filter _).symm.trans ?_;rw [List.filter_filter,List.filter_filter];rw [show (fun a=>(!X.any (mtB lo hi (1 - s) a)) && mtB lo hi s x a) = fun a=>mtB lo hi s x a && !X.any (mtB lo hi (1 - s) a) from funext fun a=>Bool.and_comm _ _]
  . exact List.Perm.refl _
 have hl:(lonesL lo hi md (1 - s) Y X).Perm (zaX (chgs md s x ms) ++ lonesL lo hi md (1 - s) Y (x :: X)):=by
  refine List.Perm.trans ?_ (List.Perm.append_right _ hg.symm);unfold lonesL;split
  . rw [<- List.map_append];refine List.Perm.map _ ?_;refine (zbQ (mtB lo hi s x) _).trans ?_;refine List.Perm.append_left _ ?_;rw [List.filter_filter]
    rw [show (fun a=>(!mtB lo hi s x a) && !X.any (mtB lo hi (1 - s) a)) = fun y=>!(x :: X).any (mtB lo hi (1 - s) y) from funext fun a=>by
     rw [List.any_cons,zdL hs2,Bool.not_or]]
  . exact List.Perm.refl _
 have hV2:V.Perm (zaX (chgs md s x ms) ++ (pairsL lo hi s X Y ++ (lonesL lo hi md s X Y ++ lonesL lo hi md (1 - s) Y (x :: X)))):=by
  refine hV.trans ?_;unfold zcb;refine (List.Perm.append_left _ (List.Perm.append_left _ hl)).trans ?_;exact (List.Perm.append_left _ (zn6 _ _ _)).trans (zn6 _ _ _)
 obtain ⟨v1,v2⟩:=zm5 _ _ _ hV2;refine ⟨v1,v2.trans ?_⟩;rw [zlo];have hp:(ms.map fun m=>prO s x m.r).Perm ((Y.filter (mtB lo hi s x)).map (prO s x)):=by
  have:=(hP.map (prO s x)).symm
  rwa [List.map_map] at this
 have hn:(if ms = [] /\ zai md s = true then [zan s x] else []) ++ lonesL lo hi md s X Y = lonesL lo hi md s (x :: X) Y:=by
  have hany:(!Y.any (mtB lo hi s x)) = decide (ms = []):=by
   rw [Bool.eq_iff_iff];simp only [Bool.not_eq_true',decide_eq_true_eq];rw [Bool.eq_false_iff,Ne,List.any_eq_true];constructor
   . intro h;have:Y.filter (mtB lo hi s x) = []:=List.filter_eq_nil_iff.2 fun y hy hyp=>h ⟨y,hy,hyp⟩;rw [this] at hP
     have:=hP.length_eq
     simp at this;exact List.eq_nil_of_length_eq_zero this.symm
   . rintro rfl ⟨y,hy,hyp⟩;have:y ∈ Y.filter (mtB lo hi s x):=List.mem_filter.2 ⟨hy,hyp⟩
     have:=hP.mem_iff.1 this
     simp at this
  unfold lonesL;by_cases ht:zai md s = true
  . rw [if_pos ht,if_pos ht,List.filter_cons,hany];by_cases hm:ms = []
    . rw [if_pos ⟨hm,ht⟩,if_pos (by simpa using hm),List.map_cons];rfl
    . rw [if_neg (fun h=>hm h.1),if_neg (by simpa using hm)];rfl
  . rw [if_neg (fun h=>ht h.2),if_neg ht,if_neg ht];rfl
 unfold zcb;rw [<- hn];have hpp:(pairsL lo hi s (x :: X) Y).Perm ((ms.map fun m=>prO s x m.r) ++ pairsL lo hi s X Y):=by
  show ((Y.filter (mtB lo hi s x)).map (prO s x) ++ pairsL lo hi s X Y).Perm _;exact List.Perm.append_right _ hp.symm
 refine List.Perm.trans ?_ (List.Perm.append_right _ hpp.symm);generalize (ms.map fun m=>prO s x m.r) = A;generalize (if ms = [] /\ zai md s = true then [zan s x] else []) = B;generalize pairsL lo hi s X Y = C;generalize lonesL lo hi md s X Y = E;generalize lonesL lo hi md (1 - s) Y (x :: X) = F;refine (List.perm_append_comm (l₁:=C ++ (E ++ F)) (l₂:=A ++ B)).trans ?_;rw [List.append_assoc,List.append_assoc,List.append_assoc];exact List.Perm.append_left _ (zn6 _ _ _)
end Go.Proofs.YtmcgnnmffeojpabGreatDoor
