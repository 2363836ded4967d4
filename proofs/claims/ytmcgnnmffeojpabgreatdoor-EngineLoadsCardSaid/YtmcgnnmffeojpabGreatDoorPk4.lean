import Derived.Test.YtmcgnnmffeojpabGreatDoorPk1
import Derived.Test.YtmcgnnmffeojpabGreatDoorProg
set_option maxRecDepth 100000
set_option maxHeartbeats 8000000
namespace Go.Proofs.YtmcgnnmffeojpabGreatDoor
open Go.RowKit Go.Plan
theorem zee {k:IntKind} {a b:Int} (h:a = b):Ending.returned (.int k a) = .returned (.int k b):=by rw [h]
theorem zbF {a b:Bool} (h:a = b):Ending.returned (.bool a) = .returned (.bool b):=by rw [h]
def cmpI (x y:Int):Int:=if x < y then -1 else if y < x then 1 else 0
theorem zhs (x:Int) (w:World):Calls Tryz.prog 197 #[.int .i64 x] w fun e w'=>e = .returned (.bool false) /\ w = w':=by
 go_enter Tryz.func197,Tryz.ntmps197;go_wp2;go_ret;simp
theorem zfQ (x y:Int) (w:World):Calls Tryz.prog 144 #[.int .i64 x,.int .i64 y] w fun e w'=>e = .returned (.int .i64 (cmpI x y)) /\ w = w':=by
 rcases Int.lt_trichotomy x y with h | h | h
 . have hc:cmpI x y = -1:=by simp [cmpI,h]
   rw [hc];go_enter Tryz.func144,Tryz.ntmps144;go_wp2_with (go_at_call 197;refine (zhs _ _).mono ?_;rintro e w' ⟨rfl,rfl⟩);go_ret;exact ⟨rfl,rfl⟩
 . subst h;have hc:cmpI x x = 0:=by simp [cmpI]
   rw [hc];go_enter Tryz.func144,Tryz.ntmps144;go_wp2_with (go_at_call 197;refine (zhs _ _).mono ?_;rintro e w' ⟨rfl,rfl⟩);go_ret;exact ⟨rfl,rfl⟩
 . have hc:cmpI x y = 1:=by simp [cmpI,h];omega
   rw [hc];go_enter Tryz.func144,Tryz.ntmps144;go_wp2_with (go_at_call 197;refine (zhs _ _).mono ?_;rintro e w' ⟨rfl,rfl⟩);go_ret;exact ⟨rfl,rfl⟩
def orI:List Int -> Int
 | []=>0
 | x :: r=>if x = 0 then orI r else x
theorem ziJ (xs:List Int) (k:Nat) (h:∀ j,j < k -> xs.getD j 0 = 0):orI (xs.drop k) = orI xs:=by
 induction k generalizing xs with
 | zero=>rfl
 | succ k ih =>
   cases xs with
   | nil=>simp
   | cons x r =>
     have h0:=h 0 (by omega);simp at h0;simp only [List.drop_succ_cons,orI,h0,if_true];exact ih r (fun j hj=>by simpa using h (j+1) (by omega))
theorem zoz (xs:List Int) (k:Nat) (h:∀ j,j < k -> xs.getD j 0 = 0) (hk:k < xs.length) (hn:xs.getD k 0 ≠ 0):orI xs = xs.getD k 0:=by
 rw [<- ziJ xs k h];rw [List.drop_eq_getElem_cons hk];simp [orI];simp [hk] at hn;simp [hn,hk]
theorem zn0 (xs:List Int) (h:∀ j,j < xs.length -> xs.getD j 0 = 0):orI xs = 0:=by
 rw [<- ziJ xs xs.length h];simp [orI]
def zcu (w:World) (b off:Nat) (xs:List Int):Prop:=∀ i,i < xs.length -> w.cell? ⟨b,off + i,none⟩ = some (.int .i64 (xs.getD i 0))
theorem or_c (xs:List Int) (b off cap:Nat) (w:World) (hc:zcu w b off xs) (hl:xs.length <= 100) :
 Calls Tryz.prog 143 #[.slice (some ⟨b,off,none⟩) xs.length cap] w fun e w'=>e = .returned (.int .i64 (orI xs)) /\ w = w':=by
 go_enter Tryz.func143,Tryz.ntmps143;go_wp2;go_loop [5,8] (fun _ i=>∃ k:Nat,k <= xs.length /\ i = .int .i64 k /\ ∀ j,j < k -> xs.getD j 0 = 0) (fun _ i=>xs.length - (intOf i).toNat)
 case atStart=>exact ⟨0,by omega,rfl,fun j hj=>by omega⟩
 case round =>
  obtain ⟨k,hk,rfl,hz⟩:=hrel;by_cases hlt:k < xs.length
  . have hcell:=hc k hlt;have HZ:Hid (∀ j,j < k -> xs.getD j 0 = 0):=hz;have HL:Hid (xs.length <= 100):=hl;clear hz hc;generalize hx:xs.getD k 0 = x at hcell;have HX:Hid (xs.getD k 0 = x):=hx;clear hx;by_cases h0:x = 0
    . subst h0;go_wp2;go_round
      case rel=>exact ⟨k + 1,by omega,by go_num,fun j hj=>by
       rcases Nat.lt_or_ge j k with h | h
       . exact HZ.out j h
       . obtain rfl:j = k:=by omega
         exact HX.out⟩
      case measure=>simp [intOf];omega
    . go_wp2;go_ret;exact ⟨zee (by rw [zoz xs k HZ.out hlt (by rw [HX.out];exact h0),HX.out]),rfl⟩
  . obtain rfl:k = xs.length:=by omega
    have HZ:Hid (∀ j,j < xs.length -> xs.getD j 0 = 0):=hz;clear hz hc;go_wp2;go_ret;exact ⟨zee (by rw [zn0 xs HZ.out]),rfl⟩
def ordI:List Int -> List Int -> Int
 | x :: xs,y :: ys=>if x < y then -1 else if y < x then 1 else ordI xs ys
 | _,_=>0
theorem zgH (xs ys:List Int) (k:Nat) (hl:xs.length = ys.length) (h:∀ j,j < k -> xs.getD j 0 = ys.getD j 0):ordI (xs.drop k) (ys.drop k) = ordI xs ys:=by
 induction k generalizing xs ys with
 | zero=>rfl
 | succ k ih =>
   match xs,ys,hl with
   | [],[],_=>simp
   | x :: xs,y :: ys,hl =>
     have h0:=h 0 (by omega);simp at h0;simp only [List.drop_succ_cons,ordI,h0,Int.lt_irrefl,if_false];exact ih xs ys (by simpa using hl) (fun j hj=>by simpa using h (j+1) (by omega))
theorem zod (xs ys:List Int) (k:Nat) (hl:xs.length = ys.length) (h:∀ j,j < k -> xs.getD j 0 = ys.getD j 0) (hk:k < xs.length) :
 ordI xs ys = if xs.getD k 0 < ys.getD k 0 then -1 else if ys.getD k 0 < xs.getD k 0 then 1 else ordI (xs.drop (k+1)) (ys.drop (k+1)):=by
 rw [<- zgH xs ys k hl h,List.drop_eq_getElem_cons hk,List.drop_eq_getElem_cons (by omega:k < ys.length)];have hk':k < ys.length:=by omega
 simp [ordI,hk,hk']
theorem zmd (xs ys:List Int) (hl:xs.length = ys.length) (h:∀ j,j < xs.length -> xs.getD j 0 = ys.getD j 0):ordI xs ys = 0:=by
 rw [<- zgH xs ys xs.length hl h,hl];simp [ordI]
theorem zkL (xs ys:List Int) (b off cap b2 off2 cap2:Nat) (w:World) (hc:zcu w b off xs) (hc2:zcu w b2 off2 ys) (hl:xs.length = ys.length) (hm:xs.length <= 100) :
 Calls Tryz.prog 110 #[.slice (some ⟨b,off,none⟩) xs.length cap,.slice (some ⟨b2,off2,none⟩) ys.length cap2] w fun e w'=>e = .returned (.int .i64 (ordI xs ys)) /\ ∃ n,w' = w.drewN n:=by
 generalize hn:xs.length = n at *;have HN:Hid (xs.length = n):=hn;have HN2:Hid (ys.length = n):=hl.symm;rw [<- hl];clear hn hl;go_enter Tryz.func110,Tryz.ntmps110;go_wp2;go_loopw [5,8] (fun _ i wr=>∃ k:Nat,k <= n /\ i = .int .i64 k /\ (∀ j,j < k -> xs.getD j 0 = ys.getD j 0) /\ ∃ m,wr = w.drewN m) (fun _ i _=>n - (intOf i).toNat)
 case atStart=>exact ⟨0,by omega,rfl,fun j hj=>by omega,0,rfl⟩
 case round =>
  obtain ⟨k,hk,rfl,hz,m,rfl⟩:=hrel;by_cases hlt:k < n
  . have hcell:=hc k (by rw [HN.out];exact hlt);have hcell2:=hc2 k (by rw [HN2.out];exact hlt);have HZ:Hid (∀ j,j < k -> xs.getD j 0 = ys.getD j 0):=hz;have HA:=zod xs ys k (by rw [HN.out,HN2.out]) hz (by rw [HN.out];exact hlt);have HB:Hid _:=HA;clear hz hc hc2 HA;generalize hx:xs.getD k 0 = x at *;generalize hy:ys.getD k 0 = y at *;have HX:Hid (xs.getD k 0 = x):=hx;have HY:Hid (ys.getD k 0 = y):=hy;clear hx hy;rcases Int.lt_trichotomy x y with h | h | h
    . go_wp2;go_quiet (fail);go_wp2;go_ret;exact ⟨zee (by rw [HB.out,if_pos h]),_,by simp only [World.drewN_drewN];exact rfl⟩
    . subst h;go_wp2;go_quiet (fail);go_wp2;go_quiet (fail);go_wp2;go_roundw
      case rel=>exact ⟨k + 1,by omega,by go_num,fun j hj=>by
       rcases Nat.lt_or_ge j k with h | h
       . exact HZ.out j h
       . obtain rfl:j = k:=by omega
         rw [HX.out,HY.out],_,rfl⟩
      case measure=>simp [intOf];omega
    . go_wp2;go_quiet (fail);go_wp2;go_quiet (fail);go_wp2;go_ret;exact ⟨zee (by rw [HB.out,if_neg (by omega),if_pos h]),_,by simp only [World.drewN_drewN];exact rfl⟩
  . obtain rfl:k = n:=by omega
    have HZ:Hid (∀ j,j < k -> xs.getD j 0 = ys.getD j 0):=hz;clear hz hc hc2;go_wp2;go_ret;exact ⟨zee (by rw [zmd xs ys (by rw [HN.out,HN2.out]) (by rw [HN.out];exact HZ.out)]),_,rfl⟩
def zaF (k1 t1 v1 k2 t2 v2:Int):Int:=orI [cmpI k1 k2,cmpI t1 t2,cmpI v1 v2]
theorem zgZ (k1 t1 v1 k2 t2 v2:Int) (w:World) :
 Calls Tryz.prog 146 #[.agg #[.int .i64 k1,.int .i64 t1,.int .i64 v1],.agg #[.int .i64 k2,.int .i64 t2,.int .i64 v2]] w fun e w' =>
  e = .returned (.int .i64 (zaF k1 t1 v1 k2 t2 v2)) /\ Ext w w':=by
 unfold zaF;go_enter Tryz.func146,Tryz.ntmps146;go_wp2_with fail;refine Plan.b0 Plan.Ext 18 ?_;refine Plan.qs 12 [0,1,2,3,5,6,7,8,10,11,12,13] ?_;iterate 12 go_big_quiet_step (fail)
 refine Plan.o1 4 fun K hK=>?_;go_wp2_with (fail);refine (zfQ _ _ _).mono ?_;rintro e w' ⟨rfl,rfl⟩;go_wp2_with (fail);refine hK _ _ (ExtM.refl _) ?_;clear hK K;refine Plan.o1 9 fun K hK=>?_;go_wp2_with (fail);refine (zfQ _ _ _).mono ?_;rintro e w' ⟨rfl,rfl⟩;go_wp2_with (fail);refine hK _ _ (ExtM.refl _) ?_;clear hK K;refine Plan.o1 14 fun K hK=>?_;go_wp2_with (fail);refine (zfQ _ _ _).mono ?_;rintro e w' ⟨rfl,rfl⟩;go_wp2_with (fail);refine hK _ _ (ExtM.refl _) ?_;clear hK K;refine Plan.o1 15 fun K hK=>?_;go_wp2_with (fail);refine hK _ _ ((ExtM.refl _).alloc _) ?_;clear hK K;refine Plan.o1 16 fun K hK=>?_;go_wp2_with (fail);refine (or_c [cmpI k1 k2,cmpI t1 t2,cmpI v1 v2] _ _ _ _ ?_ (by simp)).mono ?_
 . intro i hi;simp only [List.length_cons,List.length_nil] at hi;have hi5:i = 0 \/ i = 1 \/ i = 2 \/ i = 3 \/ i = 4:=(by omega);rcases hi5 with rfl | rfl | rfl | rfl | rfl <;> first | (exfalso;omega) | go_simp
 rintro e w' ⟨rfl,rfl⟩;go_wp2_with (fail);refine hK _ _ (ExtM.refl _) ?_;clear hK K;refine Plan.qs 1 [17] ?_;go_big_quiet_step (fail);refine Plan.dn ?_;go_wp2;go_ret;exact ⟨rfl,((((ExtM.refl _).alloc _).alloc _).alloc _).drew⟩
end Go.Proofs.YtmcgnnmffeojpabGreatDoor
