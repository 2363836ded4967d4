import Derived.Test.YtiknejbcehpmoaaGreatDoorPk6
import Derived.Deep.AppendLies
set_option maxRecDepth 100000
set_option maxHeartbeats 8000000
namespace Go.Proofs.YtiknejbcehpmoaaGreatDoor
open Go.RowKit Go.Plan
def Ints (w:World) (xs:List Int) (e:Ending) (w':World):Prop :=
 ∃ b cap,e = .returned (.slice (some ⟨b,0,none⟩) xs.length cap) /\ zcu w' b 0 xs /\ w.heap.size <= b /\ b < w'.heap.size /\ Ext w w'
def zsA (b:Bool):Int:=if b then 1 else 0
theorem ziF (b:Bool) (w:World):Calls Tryz.prog 214 #[.bool b] w fun e w'=>e = .returned (.int .i64 (zsA b)) /\ w = w':=by
 cases b
 . go_enter Tryz.func214,Tryz.ntmps214;go_wp2;go_ret;exact ⟨rfl,rfl⟩
 . go_enter Tryz.func214,Tryz.ntmps214;go_wp2;go_ret;exact ⟨rfl,rfl⟩
structure Row where
 k:Int
 t:Int
 v:Int
 deriving DecidableEq
structure Out where
 key:Int
 l:Row
 r:Row
 hl:Bool
 hr:Bool
 deriving DecidableEq
def zad (a b:Out):Int :=
 orI [cmpI a.key b.key,cmpI (zsA a.hl) (zsA b.hl),zaF a.l.k a.l.t a.l.v b.l.k b.l.t b.l.v,cmpI (zsA a.hr) (zsA b.hr),zaF a.r.k a.r.t a.r.v b.r.k b.r.t b.r.v]
theorem zhf:(Tryz.prog.info? 3).map (fun i=>(i.zero,i.size,i.bytes)) = some (some (.int .i64 0),1,8):=by kernel_rfl
def outI (a:Out):List Int:=[a.key,zsA a.hl,a.l.k,a.l.t,a.l.v,zsA a.hr,a.r.k,a.r.t,a.r.v]
def zbK (a b:Out):Int:=ordI (outI a) (outI b)
def inB (n:Int):Bool:=decide (-1099511627776 <= n /\ n <= 1099511627776)
theorem zn9 (n:Int) (w:World):Calls Tryz.prog 230 #[.int .i64 n] w fun e w'=>e = .returned (.bool (inB n)) /\ w = w':=by
 by_cases h1:-1099511627776 <= n
 . by_cases h2:n <= 1099511627776
   . have e1:inB n = true:=by simp [inB,h1,h2]
     rw [e1];go_enter Tryz.func230,Tryz.ntmps230;go_wp2;go_ret;exact ⟨zbF (by first | (simp;done) | (simp;omega)),rfl⟩
   . have e1:inB n = false:=by simp [inB];omega
     rw [e1];go_enter Tryz.func230,Tryz.ntmps230;go_wp2;go_ret;exact ⟨zbF (by first | (simp;done) | (simp;omega)),rfl⟩
 . have e1:inB n = false:=by simp [inB];omega
   rw [e1];go_enter Tryz.func230,Tryz.ntmps230;go_wp2;go_ret;exact ⟨zbF (by first | (simp;done) | (simp;omega)),rfl⟩
def za3 (k t v:Int):Bool:=inB k && inB t && inB v
theorem zdq (k t v:Int) (w:World):Calls Tryz.prog 199 #[.agg #[.int .i64 k,.int .i64 t,.int .i64 v]] w fun e w'=>e = .returned (.bool (za3 k t v)) /\ Ext w w':=by
 unfold za3;generalize hk:inB k = bk;generalize ht:inB t = bt;generalize hv:inB v = bv;have ck:=fun w=>hk ▸ zn9 k w;have ct:=fun w=>ht ▸ zn9 t w;have cv:=fun w=>hv ▸ zn9 v w;clear hk ht hv;have Ck:Hid (∀ w,Calls Tryz.prog 230 #[.int .i64 k] w fun e w'=>e = .returned (.bool bk) /\ w = w'):=ck;have Ct:Hid (∀ w,Calls Tryz.prog 230 #[.int .i64 t] w fun e w'=>e = .returned (.bool bt) /\ w = w'):=ct;have Cv:Hid (∀ w,Calls Tryz.prog 230 #[.int .i64 v] w fun e w'=>e = .returned (.bool bv) /\ w = w'):=cv;clear ck ct cv;cases bk
 . go_enter Tryz.func199,Tryz.ntmps199;go_wp2_with (go_at_call 230;refine (Ck.out _).mono ?_;rintro e w' ⟨rfl,rfl⟩);go_ret;exact ⟨rfl,(ExtM.refl _).alloc _⟩
 . cases bt
   . go_enter Tryz.func199,Tryz.ntmps199;go_wp2_with fail;refine (Ck.out _).mono ?_;rintro e w' ⟨rfl,rfl⟩;go_wp2_with fail;refine (Ct.out _).mono ?_;rintro e w' ⟨rfl,rfl⟩;go_wp2_with fail;go_ret;exact ⟨rfl,(ExtM.refl _).alloc _⟩
   . go_enter Tryz.func199,Tryz.ntmps199;go_wp2_with fail;refine (Ck.out _).mono ?_;rintro e w' ⟨rfl,rfl⟩;go_wp2_with fail;refine (Ct.out _).mono ?_;rintro e w' ⟨rfl,rfl⟩;go_wp2_with fail;refine (Cv.out _).mono ?_;rintro e w' ⟨rfl,rfl⟩;go_wp2_with fail;go_ret;exact ⟨zbF (by simp),(ExtM.refl _).alloc _⟩
theorem zkN (k1 t1 v1 k2 t2 v2:Int) (w:World) :
 Calls Tryz.prog 205 #[.agg #[.int .i64 k1,.int .i64 t1,.int .i64 v1],.agg #[.int .i64 k2,.int .i64 t2,.int .i64 v2]] w fun e w' =>
  e = .returned (.agg #[.int .i64 k1,.int .i64 k1,.int .i64 t1,.int .i64 v1,.int .i64 k2,.int .i64 t2,.int .i64 v2,.bool true,.bool true]) /\ Ext w w':=by
 go_enter Tryz.func205,Tryz.ntmps205;go_wp2;refine bodyPost_ret (v:=.agg #[.int .i64 k1,.int .i64 k1,.int .i64 t1,.int .i64 v1,.int .i64 k2,.int .i64 t2,.int .i64 v2,.bool true,.bool true]) (by simp [results,Tryz.results205,go_sem]) rfl ⟨rfl,?_⟩;exact (((ExtM.refl _).alloc _).alloc _).alloc _
theorem zj9 (s k t v:Int) (w:World) :
 Calls Tryz.prog 204 #[.int .i64 s,.agg #[.int .i64 k,.int .i64 t,.int .i64 v]] w fun e w' =>
  e = .returned (if s = 0 then .agg #[.int .i64 k,.int .i64 k,.int .i64 t,.int .i64 v,.int .i64 0,.int .i64 0,.int .i64 0,.bool true,.bool false] else .agg #[.int .i64 k,.int .i64 0,.int .i64 0,.int .i64 0,.int .i64 k,.int .i64 t,.int .i64 v,.bool false,.bool true]) /\ Ext w w':=by
 by_cases hs:s = 0
 . rw [if_pos hs];subst hs;go_enter Tryz.func204,Tryz.ntmps204;go_wp2;refine bodyPost_ret (v:=.agg #[.int .i64 k,.int .i64 k,.int .i64 t,.int .i64 v,.int .i64 0,.int .i64 0,.int .i64 0,.bool true,.bool false]) (by simp [results,Tryz.results204,go_sem]) rfl ⟨rfl,?_⟩;exact ((ExtM.refl _).alloc _).alloc _
 . rw [if_neg hs];have hs':(s == 0) = false:=by simpa using hs
   go_enter Tryz.func204,Tryz.ntmps204;go_wp2;refine bodyPost_ret (v:=.agg #[.int .i64 k,.int .i64 0,.int .i64 0,.int .i64 0,.int .i64 k,.int .i64 t,.int .i64 v,.bool false,.bool true]) (by simp [results,Tryz.results204,go_sem]) rfl ⟨rfl,?_⟩;exact ((ExtM.refl _).alloc _).alloc _
end Go.Proofs.YtiknejbcehpmoaaGreatDoor
