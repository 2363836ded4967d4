import Derived.Test.YtmcgnnmffeojpabGreatDoorPk30
import Derived.Test.YtmcgnnmffeojpabGreatDoorPk31
import Derived.Deep.DeepCutAuto
import Derived.Deep.CutBlock
set_option maxRecDepth 100000
set_option maxHeartbeats 8000000
namespace Go.Proofs.YtmcgnnmffeojpabGreatDoor
open Go.RowKit Go.Plan
theorem zp9 {u : World} {L E : Nat} {Bs : Nat -> Prop} {lo hi md : Int} {st : JSt} {V : List Out} {f0 f1 : Int} (hL : LdIs u L (some ⟨E,0,none⟩) false) (hE : EAt u E Bs lo hi md st V V f0 f1) (hn : ¬ Bs L) (n : List Int) (a : Option Addr) (cap : Nat) (hnum : zaq u L a n) (hV : V.length < 900000) (x : Out) (hx : outE n = some x) :
 Calls Tryz.prog 83 #[.pointer (some ⟨L,0,none⟩),.slice a n.length cap] u fun e u' => e = .returned (.tuple #[]) /\ LUp u u' L E Bs lo hi md st (x :: V) f0 f1 := by
 have hcase : (∃ h r,n = h :: zdr [r] /\ (h = 1 \/ h = 2) /\ za0 r) \/ (∃ r s,n = 3 :: zdr [r,s] /\ za0 r /\ za0 s /\ r.k = s.k) := by
  unfold outE at hx;split at hx
  . rename_i h a b c;split at hx
    . rename_i hh;exact .inl ⟨h,⟨a,b,c⟩,rfl,hh.1,hh.2⟩
    . cases hx
  . rename_i h a b c d e f;split at hx
    . rename_i hh;obtain ⟨rfl,h1,h2,h3⟩ := hh;exact .inr ⟨⟨a,b,c⟩,⟨d,e,f⟩,rfl,h1,h2,h3⟩
    . cases hx
  . cases hx
 rcases hcase with ⟨h,r,rfl,hh,hg⟩ | ⟨r,s,rfl,hg1,hg2,hk⟩
 . rcases hh with rfl | rfl
   . refine (out1_c hL hE hn [r] rfl (by intro q hq;rw [List.mem_singleton.1 hq];exact hg) a cap hnum hV).mono ?_;rintro e u' ⟨y,he,hy,hu⟩;rw [hx] at hy;cases hy;exact ⟨he,hu⟩
   . refine (zpt hL hE hn [r] rfl (by intro q hq;rw [List.mem_singleton.1 hq];exact hg) a cap hnum hV).mono ?_;rintro e u' ⟨y,he,hy,hu⟩;rw [hx] at hy;cases hy;exact ⟨he,hu⟩
 . refine (zpb hL hE hn [r,s] rfl (by intro q hq;simp only [List.mem_cons,List.not_mem_nil,or_false] at hq;rcases hq with rfl | rfl <;> assumption) a cap hnum hV (by
    intro p hp q hq;simp only [List.mem_cons,List.not_mem_nil,or_false] at hp hq
    rcases hp with rfl | rfl <;> rcases hq with rfl | rfl <;> simp [hk])).mono ?_
   rintro e u' ⟨y,he,hy,hu⟩;rw [hx] at hy;cases hy;exact ⟨he,hu⟩
def zeB : ByteArray := ⟨#[112,108,97,110]⟩
def sFed : ByteArray := ⟨#[102,101,100]⟩
def zcI : ByteArray := ⟨#[109,97,114,107,115]⟩
def sRow : ByteArray := ⟨#[114,111,119]⟩
def sOut : ByteArray := ⟨#[111,117,116]⟩
theorem zfW : Go.Maps.Keyed Tryz.prog 9 := Go.Maps.string_keyed Tryz.underlying9
theorem zea (x y : ByteArray) (h : Value.string x = Value.string y) : x = y := by simpa using h
theorem keyS (s : ByteArray) (h : s.size <= 1000000000) : ∃ l,keyOf Tryz.prog 9 (.string s) = some l := by
 have hm : s.size <= maxLen := by unfold maxLen;omega
 exact ⟨_,by simp only [keyOf,mapKey,Tryz.underlying9];rw [if_pos hm]⟩
theorem zp5 (w : World) : (zeroValue 3).run Tryz.prog w = .ok (.int .i64 0) w := by kernel_rfl
def zhj : List (ByteArray × Value) := putK (putK (putK (putK [] zeB (.int .i64 3)) sFed (.int .i64 3)) zcI (.int .i64 2)) sRow (.int .i64 5)
theorem zdk (u : World) : ∃ w1 w2 w3 w4,(Instr.mapUpdate 153 (.map (some u.heap.size)) (.string zeB) (.int .i64 3)).run Tryz.prog (u.alloc (.map #[] 0)) = .ok () w1 /\
 (Instr.mapUpdate 153 (.map (some u.heap.size)) (.string sFed) (.int .i64 3)).run Tryz.prog w1 = .ok () w2 /\
 (Instr.mapUpdate 153 (.map (some u.heap.size)) (.string zcI) (.int .i64 2)).run Tryz.prog w2 = .ok () w3 /\
 (Instr.mapUpdate 153 (.map (some u.heap.size)) (.string sRow) (.int .i64 5)).run Tryz.prog w3 = .ok () w4 /\ Ext u w4 /\
 ∀ s,s.size <= 1000000000 -> (Instr.lookup 153 (.map (some u.heap.size)) (.string s) true).run Tryz.prog w4 = .ok (.tuple #[(mlook zhj s).getD (.int .i64 0),.bool (mlook zhj s).isSome]) w4 := by
 have h0 : zav Tryz.prog 9 Value.string (u.alloc (.map #[] 0)) u.heap.size [] := zav.made u;obtain ⟨w1,r1,x1,z1,h1⟩ := h0.run_update zfW zea Tryz.underlying153 zeB (keyS _ (by decide)) (.int .i64 3);obtain ⟨w2,r2,x2,z2,h2⟩ := h1.run_update zfW zea Tryz.underlying153 sFed (keyS _ (by decide)) (.int .i64 3);obtain ⟨w3,r3,x3,z3,h3⟩ := h2.run_update zfW zea Tryz.underlying153 zcI (keyS _ (by decide)) (.int .i64 2);obtain ⟨w4,r4,x4,z4,h4⟩ := h3.run_update zfW zea Tryz.underlying153 sRow (keyS _ (by decide)) (.int .i64 5);refine ⟨w1,w2,w3,w4,r1,r2,r3,r4,?_,fun s hs => ?_⟩
 . have hB : ExtB u.heap.size (u.alloc (.map #[] 0)) w4 := ExtB.trans _ _ _ x1 (ExtB.trans _ _ _ x2 (ExtB.trans _ _ _ x3 x4));exact ⟨hB.os,hB.tape,hB.output,Nat.le_trans (by simp) hB.size,fun k hk _ => (hB.block k (by simp;omega) (fun e => by have e' : k = u.heap.size := e;omega)).trans (heap_alloc_old _ _ hk)⟩
 . exact h4.run_look true zfW zea Tryz.underlying153 zp5 s (keyS _ hs)
theorem zlf : mlook zhj zeB = some (.int .i64 3) := by rfl
theorem zmN : mlook zhj sFed = some (.int .i64 3) := by rfl
theorem zja : mlook zhj zcI = some (.int .i64 2) := by rfl
theorem zmE : mlook zhj sRow = some (.int .i64 5) := by rfl
theorem znb : mlook zhj sOut = none := by rfl
end Go.Proofs.YtmcgnnmffeojpabGreatDoor
namespace Go.Plan
def Ext3 (A B C : Nat) (w w' : World) : Prop := ExtM (fun k => ¬ (k = A \/ k = B \/ k = C)) w w'
theorem Ext3.refl {A B C : Nat} (w : World) : Ext3 A B C w w := ExtM.refl w
theorem Ext3.trans {A B C : Nat} (a b c : World) (h : Ext3 A B C a b) (k : Ext3 A B C b c) : Ext3 A B C a c := ExtM.trans _ _ _ h k
instance {A B C : Nat} : Std.Refl (Ext3 A B C) := ⟨Ext3.refl⟩
instance {A B C : Nat} : Trans (Ext3 A B C) (Ext3 A B C) (Ext3 A B C) := ⟨fun h k => Ext3.trans _ _ _ h k⟩
theorem Ext3.of_M {M : Nat -> Prop} {A B C : Nat} {w w' : World} (hA : ¬ M A) (hB : ¬ M B) (hC : ¬ M C) (h : ExtM M w w') : Ext3 A B C w w' := ExtM.mono h (fun _ _ hk e => by rcases e with e | e | e <;> subst e <;> contradiction)
theorem Ext3.drew {A B C : Nat} {a w : World} (h : Ext3 A B C a w) : Ext3 A B C a w.drew := ExtM.drew h
theorem Ext3.size {A B C : Nat} {w w' : World} (h : Ext3 A B C w w') : w.heap.size <= w'.heap.size := ExtM.size h
theorem Ext3.cells {A B C : Nat} {w w' : World} (h : Ext3 A B C w w') (b o : Nat) (hb : b = A \/ b = B \/ b = C) (hl : b < w.heap.size) : w'.cell? ⟨b,o,none⟩ = w.cell? ⟨b,o,none⟩ /\ w'.frozen? ⟨b,o,none⟩ = w.frozen? ⟨b,o,none⟩ :=
 ⟨ExtM.cell (p := ⟨b,o,none⟩) h hl (fun e => e hb),ExtM.frozen (p := ⟨b,o,none⟩) h hl (fun e => e hb)⟩
theorem Ext3.rules {A B C : Nat} {w w' : World} (_ : Ext3 A B C w w') : True /\ True /\ True := ⟨trivial,trivial,trivial⟩
@[go_sem] theorem cell?_ext3a (A B C : Nat) (w p : World) (o : Nat) (hb : A < w.heap.size) : (Plan.ext (Ext3 A B C) w p).cell? ⟨A,o,none⟩ = w.cell? ⟨A,o,none⟩ := ((zb7 Ext3.refl w p).cells A o (.inl rfl) hb).1
@[go_sem] theorem cell?_ext3b (A B C : Nat) (w p : World) (o : Nat) (hb : B < w.heap.size) : (Plan.ext (Ext3 A B C) w p).cell? ⟨B,o,none⟩ = w.cell? ⟨B,o,none⟩ := ((zb7 Ext3.refl w p).cells B o (.inr (.inl rfl)) hb).1
@[go_sem] theorem cell?_ext3c (A B C : Nat) (w p : World) (o : Nat) (hb : C < w.heap.size) : (Plan.ext (Ext3 A B C) w p).cell? ⟨C,o,none⟩ = w.cell? ⟨C,o,none⟩ := ((zb7 Ext3.refl w p).cells C o (.inr (.inr rfl)) hb).1
@[go_sem] theorem cell?_ext3a_drew (A B C : Nat) (w p : World) (o : Nat) (hb : A < w.heap.size) : (Plan.ext (Ext3 A B C) w.drew p).cell? ⟨A,o,none⟩ = w.cell? ⟨A,o,none⟩ := cell?_ext3a A B C w.drew p o hb
@[go_sem] theorem cell?_ext3b_drew (A B C : Nat) (w p : World) (o : Nat) (hb : B < w.heap.size) : (Plan.ext (Ext3 A B C) w.drew p).cell? ⟨B,o,none⟩ = w.cell? ⟨B,o,none⟩ := cell?_ext3b A B C w.drew p o hb
@[go_sem] theorem cell?_ext3c_drew (A B C : Nat) (w p : World) (o : Nat) (hb : C < w.heap.size) : (Plan.ext (Ext3 A B C) w.drew p).cell? ⟨C,o,none⟩ = w.cell? ⟨C,o,none⟩ := cell?_ext3c A B C w.drew p o hb
end Go.Plan
namespace Go.Proofs.YtmcgnnmffeojpabGreatDoor
open Go.RowKit Go.Plan
theorem zkU {u w : World} {L E : Nat} {Bs : Nat -> Prop} {lo hi md : Int} {st : JSt} {V : List Out} {f0 f1 : Int} (h : EUp u w E Bs lo hi md st V V f0 f1) (hl : LdIs w L (some ⟨E,0,none⟩) false) (hn : ¬ Bs L) (hL : L < u.heap.size) : LUp u (w.setCell ⟨L,1,none⟩ (.bool false)) L E Bs lo hi md st V f0 f1 := by
 obtain ⟨h1,Bs',h3,h4⟩ := h;have hs : ExtM (fun k => k = L) w (w.setCell ⟨L,1,none⟩ (.bool false)) := ExtM.setCell (M := fun k => k = L) (p := ⟨L,1,none⟩) (ExtM.refl _) (.inr rfl) _;refine ⟨(h1.mono (fun _ _ h => .inr h)).fresh' hs (fun _ _ h => .inl h),hl.set false,Bs',h3.keep hs (fun k hk e => ?_),h4⟩;subst e;rcases h4 _ hk with e | e
 . exact hn e
 . omega
theorem zkX {hs : List Hd} {x : Hd} (h : ∀ y ∈ hs,y.r.ok) (he : addE hs x = 0) : ∀ y ∈ addL hs x,y.r.ok := by
 have hx : x.r.ok := by
  unfold addE at he;split at he
  . cases he
  . rename_i hg;have hg1 : za0 x.r := by
     unfold za0;simp only [Bool.and_eq_false_imp,Classical.not_imp,Bool.not_eq_false] at hg;exact hg.1
    have := hg1.i64
    refine ⟨?_,?_,?_⟩ <;> unfold I64 <;> omega
 intro y hy;unfold addL at hy;rw [if_pos he] at hy;unfold addH insH at hy;simp only [List.mem_append,List.mem_cons] at hy;rcases hy with hy | rfl | hy
 . exact h y (List.mem_of_mem_take hy)
 . exact hx
 . exact h y (List.mem_of_mem_drop hy)
theorem zo7 {u : World} {E : Nat} {Bs : Nat -> Prop} {lo hi md : Int} {st : JSt} {V W : List Out} {f0 f1 : Int} (h : EAt u E Bs lo hi md st V W f0 f1) (s k t q m : Int) (hp : zcF s ⟨⟨k,t,q⟩,m⟩ st = 0) :
 ∃ P,u.cell? ⟨E,3,none⟩ = some (.pointer (some ⟨P,0,none⟩)) /\ ∀ U,Ext u U -> Calls Tryz.prog 82 #[.pointer (some ⟨P,0,none⟩),.int .i64 s,.agg #[.int .i64 k,.int .i64 t,.int .i64 q],.int .i64 m] U fun e U' => e = .returned .nilIface /\ ExtM (fun k => Bs k /\ k ≠ E) U U' /\ EUp U U' E Bs lo hi md (putJ s.toNat ⟨⟨k,t,q⟩,m⟩ st) V W f0 f1 := by
 obtain ⟨P,M,v0,v1,D,DG,ents,hI,rfl⟩ := h;refine ⟨P,hI.c3,fun U hU => ?_⟩;have hIU := hI.ext hU;have hnE : ¬ zaE P M v0 v1 E := fun e => (hI.sJ E e).1 (.inl rfl);unfold zcF at hp;split at hp
 . rename_i h0;subst h0;refine (zot hIU.join k t q m).mono ?_;rintro e U' ⟨rfl,hj⟩;rw [hp];exact ⟨rfl,hj.1.mono (fun k _ hk => ⟨.inl hk,fun e => hnE (e ▸ hk)⟩),hIU.upJ hj (zkX hI.okA hp) hI.okB⟩
 . split at hp
   . rename_i h1;subst h1;refine (zob hIU.join k t q m).mono ?_;rintro e U' ⟨rfl,hj⟩;rw [hp];exact ⟨rfl,hj.1.mono (fun k _ hk => ⟨.inl hk,fun e => hnE (e ▸ hk)⟩),hIU.upJ hj hI.okA (zkX hI.okB hp)⟩
   . cases hp
theorem zlu {u : World} {L E : Nat} {Bs : Nat -> Prop} {lo hi md : Int} {st : JSt} {V : List Out} {f0 f1 : Int} (hL : LdIs u L (some ⟨E,0,none⟩) false) (hE : EAt u E Bs lo hi md st V V f0 f1) (hnB : ¬ Bs L) (i : Int) (hi3 : 3 <= i) (s k t q m : Int) (a : Option Addr) (cap : Nat) (hnum : zaq u L a [s,k,t,q,m]) (hgB : ∀ g,a = some ⟨g,0,none⟩ -> ¬ Bs g) (hp : zcF s ⟨⟨k,t,q⟩,m⟩ st = 0) :
 Calls Tryz.prog 40 #[.pointer (some ⟨L,0,none⟩),.int .i64 i,.string ⟨#[114,111,119]⟩,.slice a 5 cap] u fun e u' => e = .returned (.tuple #[]) /\ LUp u u' L E Bs lo hi md (putJ s.toNat ⟨⟨k,t,q⟩,m⟩ st) V f0 f1 := by
 obtain ⟨g,rfl,hgL,hgu,hgc⟩ := hnum.cells (by simp);have hgB := hgB g rfl;have g0 := hgc 0 s rfl;have g1 := hgc 1 k rfl;have g2 := hgc 2 t rfl;have g3 := hgc 3 q rfl;have g4 := hgc 4 m rfl;clear hgc hnum;obtain ⟨w1,w2,w3,w4,r1,r2,r3,r4,hx4,hlk⟩ := zdk u;have hl := hlk sRow (by decide);rw [zmE] at hl;simp only [Option.getD_some,Option.isSome_some] at hl;unfold sRow at hl r4;unfold zeB at r1;unfold sFed at r2;unfold zcI at r3;have hmm := @run_makeMap Tryz.prog;have i0 : (i == 0) = false := by simp;omega
 have i1 : (i == 1) = false := by simp;omega
 have i2 : (i == 2) = false := by simp;omega
 have HI := Lib.hid hi3;have HLK := Lib.hid hlk;have HX := Lib.hid hx4;have HL := Lib.hid hL;have HE := Lib.hid hE;have HP := Lib.hid hp;clear hi3 hlk hx4 hL hE hp;go_enter Tryz.func40,Tryz.ntmps40;go_upto_region 20 with fail;have hl4 := HL.out.keep HX.out id;have hat := HE.out.ext HX.out;obtain ⟨P,c3,hput⟩ := zo7 hat s k t q m HP.out;have c0 := hl4.c0;have lE := hat.lt _ hat.mine;have lL := hl4.lt;have hs4 := HX.out.size;have k4 := fun o => HX.out.cell (p := ⟨g,o,none⟩) hgu id;have y0 := (k4 _).trans g0;have y1 := (k4 _).trans g1;have y2 := (k4 _).trans g2;have y3 := (k4 _).trans g3;have y4 := (k4 _).trans g4;have lg : g < w4.heap.size := by omega
 clear k4 g0 g1 g2 g3 g4 r1 r2 r3 r4 hl hmm;have hnL3 : ¬ (Bs L /\ L ≠ E) := fun e => hnB e.1;have hnE3 : ¬ (Bs E /\ E ≠ E) := fun e => e.2 rfl;have hnG3 : ¬ (Bs g /\ g ≠ E) := fun e => hgB e.1;refine Plan.b0 (Plan.Ext3 L E g) 25 ?_;refine Plan.qs 12 [0,1,2,3,4,5,6,7,8,9,10,11] ?_;iterate 12 go_big_quiet_step (fail)
 refine Plan.qs 11 [12,13,14,15,16,17,18,19,20,21,22] ?_;iterate 11 go_big_quiet_step (fail)
 refine Plan.o1 23 fun K hK => ?_;go_wp2_with (fail);refine (hput _ (ExtM.refl _).drew).mono ?_;rintro e w5 ⟨rfl,h5,hup⟩;have H5 := Ext3.trans _ _ _ (Ext3.refl _).drew (Ext3.of_M hnL3 hnE3 hnG3 h5);obtain ⟨hc5,hf5,-⟩ := Ext3.rules H5;have hs5_0 : L < w5.heap.size := by have := H5.size;(try simp at this);omega
 have hs5_1 : E < w5.heap.size := by have := H5.size;(try simp at this);omega
 have hs5_2 : g < w5.heap.size := by have := H5.size;(try simp at this);omega
 go_wp2_with (fail);refine hK _ _ (Ext3.of_M hnL3 hnE3 hnG3 h5) ?_;clear hK K;refine Plan.qs 1 [24] ?_;go_big_quiet_step (fail);refine Plan.dn ?_;have hlu := HL.out.lt;have hup1 := EUp.before (ExtM.trans _ _ _ HX.out ((ExtM.refl w4).drew)) hup;have hl5 := hl4.keep H5 (fun e => e (.inl rfl));have c1 := hl5.c1;have cf := hl5.f 1;have lL5 := hl5.lt;have hfin := zkU hup1 hl5 hnB hlu;clear hup hup1 hl5 h5 H5 hl4 hat hput c3 c0 lE lL hs4 y0 y1 y2 y3 y4 lg hnL3 hnE3 hnG3;go_wp2_with fail;go_end0;exact ⟨rfl,hfin⟩
theorem zaq.ext {w w' : World} {b : Nat} {a : Option Addr} {ns : List Int} (h : zaq w b a ns) (hx : Ext w w') : zaq w' b a ns := by
 rcases h with h | ⟨g,c,t,fz,h1,h2,h3,h4,h5⟩
 . exact .inl h
 . exact .inr ⟨g,c,t,fz,h1,h2,h3,(hx.block g (Array.getElem?_eq_some_iff.1 h4).1 id).trans h4,h5⟩
theorem zdI {u w0 w : World} {L E : Nat} {Bs : Nat -> Prop} {lo hi md : Int} {st : JSt} {V : List Out} {f0 f1 : Int} (hx : Ext u w0) (h : LUp w0 w L E Bs lo hi md st V f0 f1) (hn : ¬ Bs L) (hL : L < u.heap.size) : LUp u (w.setCell ⟨L,1,none⟩ (.bool false)) L E Bs lo hi md st V f0 f1 := by
 obtain ⟨h1,h2,Bs',h3,h4⟩ := h;have hz := hx.size;have hs : ExtM (fun k => k = L) w (w.setCell ⟨L,1,none⟩ (.bool false)) := ExtM.setCell (M := fun k => k = L) (p := ⟨L,1,none⟩) (ExtM.refl _) (.inr rfl) _;refine ⟨((hx.mono (fun _ _ h => h.elim)).fresh' h1 (fun _ _ h => h)).fresh' hs (fun _ _ h => .inl h),h2.set false,Bs',h3.keep hs (fun k hk e => ?_),fun k hk => (h4 k hk).imp id (fun q => Nat.le_trans hz q)⟩;subst e;rcases h4 _ hk with e | e
 . exact hn e
 . omega
theorem zkZ {u : World} {L E : Nat} {Bs : Nat -> Prop} {lo hi md : Int} {st : JSt} {V : List Out} {f0 f1 : Int} (hL : LdIs u L (some ⟨E,0,none⟩) false) (hE : EAt u E Bs lo hi md st V V f0 f1) (hnB : ¬ Bs L) (i : Int) (hi3 : 3 <= i) (n : List Int) (a : Option Addr) (cap : Nat) (hnum : zaq u L a n) (hV : V.length < 900000) (x : Out) (hx : outE n = some x) :
 Calls Tryz.prog 40 #[.pointer (some ⟨L,0,none⟩),.int .i64 i,.string ⟨#[111,117,116]⟩,.slice a n.length cap] u fun e u' => e = .returned (.tuple #[]) /\ LUp u u' L E Bs lo hi md st (x :: V) f0 f1 := by
 obtain ⟨w1,w2,w3,w4,r1,r2,r3,r4,hx4,hlk⟩ := zdk u;have hl := hlk sOut (by decide);rw [znb] at hl;simp only [Option.getD_none,Option.isSome_none] at hl;unfold sOut at hl;unfold sRow at r4;unfold zeB at r1;unfold sFed at r2;unfold zcI at r3;have hmm := @run_makeMap Tryz.prog;have i0 : (i == 0) = false := by simp;omega
 have i1 : (i == 1) = false := by simp;omega
 have i2 : (i == 2) = false := by simp;omega
 have hout := zp9 (hL.keep hx4 id) (hE.ext hx4) hnB n a cap (hnum.ext hx4) hV x hx;have hlu := hL.lt;have HLU := Lib.hid hlu;have HX := Lib.hid hx4;clear hi3 hlk hx4 hL hE hnum hx hlu;go_enter Tryz.func40,Tryz.ntmps40;go_wp2_with (go_at_call 83;refine hout.mono ?_;rintro e w5 ⟨rfl,hup⟩;refine Hid.out ?_);refine Lib.hid ?_;have hl5 := hup.2.1;have c1 := hl5.c1;have cf := hl5.f 1;have lL5 := hl5.lt;have hfin := zdI HX.out hup hnB HLU.out;clear hup hl5 r1 r2 r3 r4 hl hmm hout;go_wp2_with fail;go_end0;exact ⟨rfl,hfin⟩
theorem setB (L o : Nat) (v : Value) (w : World) : Plan.ExtB L w (w.setCell ⟨L,o,none⟩ v) := ExtM.setCell (M := fun k => k = L) (p := ⟨L,o,none⟩) (ExtM.refl _) (.inr rfl) _
theorem LdIs.rules {u w : World} {L : Nat} {p : Option Addr} {b : Bool} (h : LdIs u L p b) (hx : Ext u w) : w.cell? ⟨L,0,none⟩ = some (.pointer p) /\ w.frozen? ⟨L,0,none⟩ = false /\ True := ⟨(h.keep hx id).c0,(h.keep hx id).f 0,trivial⟩
theorem LdIs.setE {u : World} {L : Nat} {p : Option Addr} {b : Bool} (h : LdIs u L p b) (q : Option Addr) : LdIs (u.setCell ⟨L,0,none⟩ (.pointer q)) L q b := by
 have h0 := h.c0;have h1 := h.c1;refine ⟨?_,?_,fun o => ?_⟩
 . go_simp
 . go_simp
 . have := h.f o
   go_simp
theorem zjn {u : World} {L : Nat} (hL : LdIs u L none false) (b c d : Int) (a : Option Addr) (cap : Nat) (hnum : zaq u L a [b,c,d]) (hc : checkI b c d = 0) :
 Calls Tryz.prog 40 #[.pointer (some ⟨L,0,none⟩),.int .i64 0,.string ⟨#[112,108,97,110]⟩,.slice a 3 cap] u fun e u' => e = .returned (.tuple #[]) /\ ∃ E Bs,ExtM (fun k => k = L) u u' /\ LdIs u' L (some ⟨E,0,none⟩) false /\ EAt u' E Bs b c d ⟨[],[],-1099511627777,-1099511627777,0⟩ [] [] 0 0 /\ ∀ k,Bs k -> u.heap.size <= k := by
 obtain ⟨g,rfl,hgL,hgu,hgc⟩ := hnum.cells (by simp);have g0 := hgc 0 b rfl;have g1 := hgc 1 c rfl;have g2 := hgc 2 d rfl;clear hgc hnum;obtain ⟨w1,w2,w3,w4,r1,r2,r3,r4,hx4,hlk⟩ := zdk u;have hl := hlk zeB (by decide);rw [zlf] at hl;simp only [Option.getD_some,Option.isSome_some] at hl;unfold sRow at r4;unfold zeB at r1 hl;unfold sFed at r2;unfold zcI at r3;have hmm := @run_makeMap Tryz.prog;have HLK := Lib.hid hlk;have HX := Lib.hid hx4;have HL := Lib.hid hL;have HC := Lib.hid hc;clear hlk hx4 hL hc;go_enter Tryz.func40,Tryz.ntmps40;go_upto_region 7 with fail;have hl4 := HL.out.keep HX.out id;have k4 := fun o => HX.out.cell (p := ⟨g,o,none⟩) hgu id;have y0 := (k4 _).trans g0;have y1 := (k4 _).trans g1;have y2 := (k4 _).trans g2;have lL := hl4.lt;have lg : g < w4.heap.size := Nat.lt_of_lt_of_le hgu HX.out.size;clear k4 g0 g1 g2 r1 r2 r3 r4 hl hmm;have hrul : ∀ {W : World},Ext w4.drew W -> Plan.ExtB L w4 W -> W.cell? ⟨L,0,none⟩ = some (.pointer none) /\ W.frozen? ⟨L,0,none⟩ = false /\ True := fun h _ => hl4.rules (ExtM.trans _ _ _ (ExtM.refl _).drew h);refine Plan.b0 (Plan.ExtB L) 19 ?_;refine Plan.qs 11 [0,1,2,3,4,5,6,7,8,9,10] ?_;iterate 11 go_big_quiet_step (fail)
 refine Plan.o1 11 fun K hK => ?_;go_wp2_with (fail);refine (znc b c d _ HC.out).mono ?_;rintro e w5 ⟨E,Bs,rfl,h5,hnew,hat⟩;have H5 := (ExtB.trans (B := L)) _ _ _ (ExtB.of_ext (ExtM.refl _).drew) (ExtB.of_ext h5);obtain ⟨hc5,hf5,-⟩ := hrul h5 H5;have hs5_0 : L < w5.heap.size := by have := H5.size;(try simp at this);omega
 have hs5_1 : g < w5.heap.size := by have := H5.size;(try simp at this);omega
 go_wp2_with (fail);refine hK _ _ (ExtB.of_ext h5) ?_;clear hK K;refine Plan.qs 5 [12,13,14,15,16] ?_;iterate 5 go_big_quiet_step (fail)
 refine Plan.o1 17 fun K hK => ?_;go_wp2_with (fail);refine hK _ _ (setB L 0 _ _) ?_;clear hK K;refine Plan.qs 1 [18] ?_;go_big_quiet_step (fail);refine Plan.dn ?_;have hx5 : Ext w4 w5 := ExtM.trans _ _ _ (ExtM.refl w4).drew h5;have hl5 := (hl4.keep hx5 id).setE (some ⟨E,0,none⟩);have hnL : ∀ k,Bs k -> u.heap.size <= k := fun k hk => Nat.le_trans HX.out.size (hnew k hk);have hLu := HL.out.lt;have hnB : ¬ Bs L := fun e => by have := hnL L e;omega
 have hS1 : ExtM (fun k => k = L) w5 (w5.setCell ⟨L,0,none⟩ (.pointer (some ⟨E,0,none⟩))) := setB L 0 _ _;have hup : LUp w5 (w5.setCell ⟨L,0,none⟩ (.pointer (some ⟨E,0,none⟩))) L E Bs b c d ⟨[],[],-1099511627777,-1099511627777,0⟩ [] 0 0 :=
  ⟨hS1.mono (fun _ _ h => .inl h),hl5,Bs,hat.keep hS1 (fun k hk e => hnB (e ▸ hk)),fun k hk => .inl hk⟩
 have hfin := zdI (u := u) (ExtM.trans _ _ _ HX.out hx5) hup hnB hLu;have c1 := hl5.c1;have cf := hl5.f 1;have lL5 := hl5.lt;have HF := Lib.hid hfin;have HNL := Lib.hid hnL;clear hfin hnL hup hl5 hl4 hat hnew hrul hx5 hS1 h5 H5 hc5 hf5 hs5_0 hs5_1 y0 y1 y2 lL lg;go_wp2_with fail;go_end0;obtain ⟨f1,f2,Bs',f3,f4⟩ := HF.out;exact ⟨rfl,E,Bs',f1.mono (fun k hk h => h.elim id (fun e => absurd (HNL.out k e) (by omega))),f2,f3,fun k hk => (f4 k hk).elim (HNL.out k) id⟩
theorem zn8 {u : World} {E : Nat} {Bs : Nat -> Prop} {lo hi md : Int} {st : JSt} {V W : List Out} {f0 f1 : Int} (h : EAt u E Bs lo hi md st V W f0 f1) (n : Int) (hn : 0 <= n) :
 ∃ P,u.cell? ⟨E,3,none⟩ = some (.pointer (some ⟨P,0,none⟩)) /\ ∀ U,Ext u U -> Calls Tryz.prog 81 #[.pointer (some ⟨P,0,none⟩),.int .i64 n] U fun e U' => e = .returned (.tuple #[]) /\ ExtM (fun k => Bs k /\ k ≠ E) U U' /\ EUp U U' E Bs lo hi md { st with late := n } V W f0 f1 := by
 obtain ⟨P,M,v0,v1,D,DG,ents,hI,rfl⟩ := h;refine ⟨P,hI.c3,fun U hU => ?_⟩;have hIU := hI.ext hU;have hnE : ¬ zaE P M v0 v1 E := fun e => (hI.sJ E e).1 (.inl rfl);refine (zh5 hIU.join n).mono ?_;rintro e U' ⟨rfl,hj,hx⟩;rw [show max n 0 = n by omega] at hj;have hjx : ExtM (zaE P M v0 v1) U U' := hx.mono (fun k _ e => .inl e);have hju : JUp U U' P M (zaE P M v0 v1) lo hi md { st with late := n } := ⟨hjx,_,⟨v0,v1,hj,rfl⟩,fun k hk => .inl hk⟩
 exact ⟨rfl,hjx.mono (fun k _ hk => ⟨.inl hk,fun e => hnE (e ▸ hk)⟩),hIU.upJ hju hI.okA hI.okB⟩
theorem zli {u : World} {L E : Nat} {Bs : Nat -> Prop} {lo hi md : Int} {st : JSt} {V : List Out} {f0 f1 : Int} (hL : LdIs u L (some ⟨E,0,none⟩) false) (hE : EAt u E Bs lo hi md st V V f0 f1) (hnB : ¬ Bs L) (b c d : Int) (a : Option Addr) (cap : Nat) (hnum : zaq u L a [b,c,d]) (hgB : ∀ g,a = some ⟨g,0,none⟩ -> ¬ Bs g) (hb : 0 <= b) (hc : 0 <= c) (hd : 0 <= d) :
 Calls Tryz.prog 40 #[.pointer (some ⟨L,0,none⟩),.int .i64 1,.string ⟨#[102,101,100]⟩,.slice a 3 cap] u fun e u' => e = .returned (.tuple #[]) /\ LUp u u' L E Bs lo hi md { st with late := d } V b c := by
 obtain ⟨g,rfl,hgL,hgu,hgc⟩ := hnum.cells (by simp);have hgB := hgB g rfl;have g0 := hgc 0 b rfl;have g1 := hgc 1 c rfl;have g2 := hgc 2 d rfl;clear hgc hnum;obtain ⟨w1,w2,w3,w4,r1,r2,r3,r4,hx4,hlk⟩ := zdk u;have hl := hlk sFed (by decide);rw [zmN] at hl;simp only [Option.getD_some,Option.isSome_some] at hl;unfold sRow at r4;unfold zeB at r1;unfold sFed at r2 hl;unfold zcI at r3;have hmm := @run_makeMap Tryz.prog;have HLK := Lib.hid hlk;have HX := Lib.hid hx4;have HL := Lib.hid hL;have HE := Lib.hid hE;have HD := Lib.hid hd;clear hlk hx4 hL hE hd;go_enter Tryz.func40,Tryz.ntmps40;go_upto_region 9 with fail;have hl4 := HL.out.keep HX.out id;have hat := HE.out.ext HX.out;have hcell : w4.frozen? ⟨E,7,none⟩ = false /\ w4.frozen? ⟨E,8,none⟩ = false /\ w4.cell? ⟨E,7,none⟩ = some (.int .i64 f0) /\ w4.cell? ⟨E,8,none⟩ = some (.int .i64 f1) := by
  obtain ⟨P,M,v0,v1,D,DG,ents,hI,-⟩ := hat;exact ⟨hI.fz 7,hI.fz 8,hI.c7,hI.c8⟩
 obtain ⟨e7,e8,c7,c8⟩ := hcell;have c0 := hl4.c0;have lE := hat.lt _ hat.mine;have lL := hl4.lt;have k4 := fun o => HX.out.cell (p := ⟨g,o,none⟩) hgu id;have y0 := (k4 _).trans g0;have y1 := (k4 _).trans g1;have y2 := (k4 _).trans g2;have lg : g < w4.heap.size := Nat.lt_of_lt_of_le hgu HX.out.size;clear k4 g0 g1 g2 r1 r2 r3 r4 hl hmm;go_cut [] (fun wx => EUp w4 wx E Bs lo hi md st V V b c)
 case first =>
  refine Plan.bT Plan.Ext [13] 14 ?_;refine Plan.qs 11 [0,1,2,3,4,5,6,7,8,9,10] ?_;iterate 11 go_big_quiet_step (fail)
  refine Plan.o1 11 fun K hK => ?_;go_wp2_with (fail);refine hK _ _ (ExtM.refl _) ?_;clear hK K;refine Plan.qs 1 [12] ?_;go_big_quiet_step (fail);refine Plan.ol 13 fun K hK => ?_;go_wp2_with (fail);refine Plan.dn ?_;go_wp2_with fail;go_meet
  case rel => exact EUp.fed hat.mine (EUp.fed hat.mine (EUp.same hat ((ExtM.refl _).drew)) 7 b (.inl ⟨rfl,rfl,rfl⟩)) 8 c (.inr ⟨rfl,rfl,rfl⟩)
 case rest =>
  have HC4 := Lib.hid hcut;obtain ⟨hx9,Bs1,hat9,hB1⟩ := hcut;have hlw := hl4.lt;have n1 : ∀ k,k < w4.heap.size -> ¬ Bs k -> ¬ Bs1 k := fun k hk hn e => (hB1 k e).elim hn (fun q => by omega);have hl9 := hl4.keep hx9 hnB;have hnL3 : ¬ (Bs1 L /\ L ≠ E) := fun e => n1 L hlw hnB e.1;have hnE3 : ¬ (Bs1 E /\ E ≠ E) := fun e => e.2 rfl;have hnG3 : ¬ (Bs1 g /\ g ≠ E) := fun e => n1 g lg hgB e.1;obtain ⟨P,c3,hlate⟩ := zn8 hat9 d HD.out;have z0 := (hx9.cell (p := ⟨g,0,none⟩) lg hgB).trans y0;have z1 := (hx9.cell (p := ⟨g,1,none⟩) lg hgB).trans y1;have z2 := (hx9.cell (p := ⟨g,2,none⟩) lg hgB).trans y2;have lE9 := hat9.lt _ hat9.mine;have lL9 := hl9.lt;have lg9 := Nat.lt_of_lt_of_le lg hx9.size;have HX9 := Lib.hid hx9;have HB1 := Lib.hid hB1;have HL4 := Lib.hid hl4;clear c0 y0 y1 y2 e7 e8 c7 c8 lE lL lg hl4 hat n1 hx9 hB1;have c0 := hl9.c0;go_upto_region 10 with fail;refine Plan.b0 (Plan.Ext3 L E g) 11 ?_;refine Plan.qs 10 [0,1,2,3,4,5,6,7,8,9] ?_;iterate 10 go_big_quiet_step (fail)
  refine Plan.o1 10 fun K hK => ?_;go_wp2_with (fail);refine (hlate _ (ExtM.refl _).drew).mono ?_;rintro e w6 ⟨rfl,h6,hup⟩;have H6 := Ext3.trans _ _ _ (Ext3.refl _).drew (Ext3.of_M hnL3 hnE3 hnG3 h6);obtain ⟨hc6,hf6,-⟩ := Ext3.rules H6;have hs6_0 : L < w6.heap.size := by have := H6.size;(try simp at this);omega
  have hs6_1 : E < w6.heap.size := by have := H6.size;(try simp at this);omega
  have hs6_2 : g < w6.heap.size := by have := H6.size;(try simp at this);omega
  go_wp2_with (fail);refine hK _ _ (Ext3.of_M hnL3 hnE3 hnG3 h6) ?_;clear hK K;refine Plan.dn ?_;have hl6 := hl9.keep H6 (fun e => e (.inl rfl));have x0 := (H6.cells g 0 (.inr (.inr rfl)) lg9).1.trans z0;have x1 := (H6.cells g 1 (.inr (.inr rfl)) lg9).1.trans z1;have x2 := (H6.cells g 2 (.inr (.inr rfl)) lg9).1.trans z2;have c1 := hl6.c1;have cf := hl6.f 1;have lL6 := hl6.lt;have hupA := EUp.trans HX9.out HB1.out (EUp.before ((ExtM.refl _).drew) hup);have hfin := zdI HX.out (zkU hupA hl6 hnB hlw) hnB HL.out.lt;have hd := HD.out;have b0 : decide (b < 0) = false := by simp;omega
  have b1 : decide (c < 0) = false := by simp;omega
  have b2 : decide (d < 0) = false := by simp;omega
  have HF := Lib.hid hfin;clear hfin hupA hup h6 H6 hl6 hl9 hat9 hlate c3 z0 z1 z2 c0 lE9 lL9 hnL3 hnE3 hnG3 hb hc hd;go_wp2_with fail;go_end0;exact ⟨rfl,HF.out⟩
theorem zi2 {lo hi : Int} {s : Nat} {t : Int} {st : JSt} (hA : ∀ h ∈ st.a,h.r.ok) (hB : ∀ h ∈ st.b,h.r.ok) : (∀ h ∈ (zbr lo hi s t st).a,h.r.ok) /\ ∀ h ∈ (zbr lo hi s t st).b,h.r.ok := by
 unfold zbr;split
 . exact ⟨hA,fun h hh => hB h (List.mem_filter.1 hh).1⟩
 . exact ⟨fun h hh => hA h (List.mem_filter.1 hh).1,hB⟩
theorem ziC {u : World} {E : Nat} {Bs : Nat -> Prop} {lo hi md : Int} {st : JSt} {V W : List Out} {f0 f1 : Int} (h : EAt u E Bs lo hi md st V W f0 f1) (hp : zay lo hi) (t : Int) (hl : st.b.length < 1000000) :
 ∃ P,u.cell? ⟨E,3,none⟩ = some (.pointer (some ⟨P,0,none⟩)) /\ ∀ U,Ext u U -> Calls Tryz.prog 49 #[.pointer (some ⟨P,0,none⟩),.int .i64 0,.int .i64 t] U fun e U' => e = .returned (errV (moveI 0 t st.x st.y)) /\ ExtM (fun k => Bs k /\ k ≠ E) U U' /\ EUp U U' E Bs lo hi md (if moveI 0 t st.x st.y = 0 then zbr lo hi 0 t st else st) V W f0 f1 := by
 obtain ⟨P,M,v0,v1,D,DG,ents,hI,rfl⟩ := h;refine ⟨P,hI.c3,fun U hU => ?_⟩;have hIU := hI.ext hU;have hnE : ¬ zaE P M v0 v1 E := fun e => (hI.sJ E e).1 (.inl rfl);refine (zmG hIU.join hp t hl).mono ?_;rintro e U' ⟨rfl,hj⟩;have hok := zi2 (lo := lo) (hi := hi) (s := 0) (t := t) hI.okA hI.okB;refine ⟨rfl,hj.1.mono (fun k _ hk => ⟨.inl hk,fun e => hnE (e ▸ hk)⟩),hIU.upJ hj ?_ ?_⟩
 . split
   . exact hok.1
   . exact hI.okA
 . split
   . exact hok.2
   . exact hI.okB
theorem ziB {u : World} {E : Nat} {Bs : Nat -> Prop} {lo hi md : Int} {st : JSt} {V W : List Out} {f0 f1 : Int} (h : EAt u E Bs lo hi md st V W f0 f1) (hp : zay lo hi) (t : Int) (hl : st.a.length < 1000000) :
 ∃ P,u.cell? ⟨E,3,none⟩ = some (.pointer (some ⟨P,0,none⟩)) /\ ∀ U,Ext u U -> Calls Tryz.prog 49 #[.pointer (some ⟨P,0,none⟩),.int .i64 1,.int .i64 t] U fun e U' => e = .returned (errV (moveI 1 t st.x st.y)) /\ ExtM (fun k => Bs k /\ k ≠ E) U U' /\ EUp U U' E Bs lo hi md (if moveI 1 t st.x st.y = 0 then zbr lo hi 1 t st else st) V W f0 f1 := by
 obtain ⟨P,M,v0,v1,D,DG,ents,hI,rfl⟩ := h;refine ⟨P,hI.c3,fun U hU => ?_⟩;have hIU := hI.ext hU;have hnE : ¬ zaE P M v0 v1 E := fun e => (hI.sJ E e).1 (.inl rfl);refine (zlW hIU.join hp t hl).mono ?_;rintro e U' ⟨rfl,hj⟩;have hok := zi2 (lo := lo) (hi := hi) (s := 1) (t := t) hI.okA hI.okB;refine ⟨rfl,hj.1.mono (fun k _ hk => ⟨.inl hk,fun e => hnE (e ▸ hk)⟩),hIU.upJ hj ?_ ?_⟩
 . split
   . exact hok.1
   . exact hI.okA
 . split
   . exact hok.2
   . exact hI.okB
theorem zcO {lo hi : Int} {s : Nat} {t : Int} {st st1 : JSt} (h : zcY lo hi s t st = some st1) : (t = -1099511627777 /\ st1 = st) \/ (t ≠ -1099511627777 /\ moveI s t st.x st.y = 0 /\ st1 = zbr lo hi s t st) := by
 unfold zcY at h;split at h
 . rename_i ht;cases h;exact .inl ⟨ht,rfl⟩
 . rename_i ht;split at h
   . rename_i hm;cases h;exact .inr ⟨ht,hm,rfl⟩
   . cases h
theorem zbX {lo hi : Int} {s : Nat} {t : Int} {st st1 : JSt} (h : zcY lo hi s t st = some st1) : st1.a.length <= st.a.length /\ st1.b.length <= st.b.length := by
 rcases zcO h with ⟨-,rfl⟩ | ⟨-,-,rfl⟩
 . exact ⟨Nat.le_refl _,Nat.le_refl _⟩
 . unfold zbr;split
   . exact ⟨Nat.le_refl _,List.length_filter_le _ _⟩
   . exact ⟨List.length_filter_le _ _,Nat.le_refl _⟩
theorem zlR {u w : World} {L E : Nat} {Bs : Nat -> Prop} {lo hi md : Int} {st : JSt} {V : List Out} {f0 f1 : Int} (h : EUp u w E Bs lo hi md st V V f0 f1) (hl : LdIs w L (some ⟨E,0,none⟩) false) : LUp u w L E Bs lo hi md st V f0 f1 := by
 obtain ⟨h1,h2⟩ := h;exact ⟨h1.mono (fun _ _ h => .inr h),hl,h2⟩
theorem zh8 {u : World} {L E : Nat} {Bs : Nat -> Prop} {lo hi md : Int} {st st1 st2 : JSt} {V : List Out} {f0 f1 : Int} (hL : LdIs u L (some ⟨E,0,none⟩) false) (hE : EAt u E Bs lo hi md st V V f0 f1) (hnB : ¬ Bs L) (x y : Int) (a : Option Addr) (cap : Nat) (hnum : zaq u L a [x,y]) (hgB : ∀ g,a = some ⟨g,0,none⟩ -> ¬ Bs g) (hp : zay lo hi) (hla : st.a.length < 1000000) (hlb : st.b.length < 1000000) (h1 : zcY lo hi 0 x st = some st1) (h2 : zcY lo hi 1 y st1 = some st2) :
 Calls Tryz.prog 40 #[.pointer (some ⟨L,0,none⟩),.int .i64 2,.string ⟨#[109,97,114,107,115]⟩,.slice a 2 cap] u fun e u' => e = .returned (.tuple #[]) /\ LUp u u' L E Bs lo hi md st2 V f0 f1 := by
 obtain ⟨g,rfl,hgL,hgu,hgc⟩ := hnum.cells (by simp);have hgB := hgB g rfl;have g0 := hgc 0 x rfl;have g1 := hgc 1 y rfl;clear hgc hnum;obtain ⟨w1,w2,w3,w4,r1,r2,r3,r4,hx4,hlk⟩ := zdk u;have hl := hlk zcI (by decide);rw [zja] at hl;simp only [Option.getD_some,Option.isSome_some] at hl;unfold sRow at r4;unfold zeB at r1;unfold sFed at r2;unfold zcI at r3 hl;have hmm := @run_makeMap Tryz.prog;have HLK := Lib.hid hlk;have HX := Lib.hid hx4;have HL := Lib.hid hL;have HE := Lib.hid hE;have H1 := Lib.hid h1;have H2 := Lib.hid h2;clear hlk hx4 hL hE h1 h2;go_enter Tryz.func40,Tryz.ntmps40;go_upto_region 13 with fail;have hl4 := HL.out.keep HX.out id;have hat := HE.out.ext HX.out;have k4 := fun o => HX.out.cell (p := ⟨g,o,none⟩) hgu id;have y0 := (k4 _).trans g0;have y1 := (k4 _).trans g1;have lg : g < w4.heap.size := Nat.lt_of_lt_of_le hgu HX.out.size;have hlw := hl4.lt;clear k4 g0 g1 r1 r2 r3 r4 hl hmm;go_wp2_with fail;go_loopg [124,11] 3 (fun kx s124 s11 wr => ∃ j : Nat,s124 = .int .i64 j /\ j <= 2 /\ 2 - j <= kx /\ s11 = .nilIface /\ EUp w4 wr E Bs lo hi md (if j = 0 then st else if j = 1 then st1 else st2) V V f0 f1)
 case atStart => exact ⟨0,rfl,by omega,by omega,rfl,EUp.same hat (ExtM.refl _)⟩
 case round =>
  obtain ⟨j,rfl,hj,hgk,rfl,hup⟩ := hrel;have hj3 : j = 0 \/ j = 1 \/ j = 2 := by omega
  clear hj;rcases hj3 with rfl | rfl | rfl
  . skip;have hup' : EUp w4 wr E Bs lo hi md st V V f0 f1 := hup;have HUP := Lib.hid hup';obtain ⟨hx9,Bs1,hat9,hB1⟩ := hup';have hl9 := hl4.keep hx9 hnB;have z0 := (hx9.cell (p := ⟨g,0,none⟩) lg hgB).trans y0;have lg9 := Nat.lt_of_lt_of_le lg hx9.size;have lE9 := hat9.lt _ hat9.mine;have lL9 := hl9.lt;have c0 := hl9.c0;have n1 : ∀ k,k < w4.heap.size -> ¬ Bs k -> ¬ Bs1 k := fun k hk hn e => (hB1 k e).elim hn (fun q => by omega);have hnL3 : ¬ (Bs1 L /\ L ≠ E) := fun e => n1 L hlw hnB e.1;have hnE3 : ¬ (Bs1 E /\ E ≠ E) := fun e => e.2 rfl;have hnG3 : ¬ (Bs1 g /\ g ≠ E) := fun e => n1 g lg hgB e.1;have hlen := zbX H1.out;have HLN := Lib.hid hlen;rcases zcO H1.out with ⟨ht,hs⟩ | ⟨ht,hm,hs⟩
    . have hq : (x != -1099511627777) = false := by simp [ht]
      have HS := Lib.hid hs;clear hs ht hat9 hup hlen hx9 hB1 n1 hl9;go_wp2_with fail;go_roundg (2 - (0 + 1))
      case measure => omega
      case rel => exact ⟨0 + 1,by go_num,by omega,Nat.le_refl _,rfl,by have := HUP.out;rw [<- HS.out] at this;exact this⟩
    . have hq : (x != -1099511627777) = true := by simp [ht]
      obtain ⟨P,c3,hmv⟩ := ziC hat9 hp x (by omega);have hm2 : moveI 0 x st.x st.y = 0 := by simpa using hm
      rw [hm2,if_pos rfl,<- hs] at hmv;have hmv2 : ∀ U,Ext wr U -> Calls Tryz.prog 49 #[.pointer (some ⟨P,0,none⟩),.int .i64 0,.int .i64 x] U fun e U' => e = .returned .nilIface /\ ExtM (fun k => Bs1 k /\ k ≠ E) U U' /\ EUp U U' E Bs1 lo hi md st1 V V f0 f1 := hmv;have HX9 := Lib.hid hx9;have HB1 := Lib.hid hB1;clear hs ht hm hm2 hmv hat9 hup hlen hx9 hB1 n1 hl9;go_upto_region 17 with fail;refine Plan.b0 (Plan.Ext3 L E g) 14 ?_;refine Plan.qs 12 [0,1,2,3,4,5,6,7,8,9,10,11] ?_;iterate 12 go_big_quiet_step (fail)
      refine Plan.o1 12 fun K hK => ?_;go_wp2_with (fail);refine (hmv2 _ (ExtM.refl _).drew).mono ?_;rintro e w6 ⟨rfl,h6,hup⟩;have H6 := Ext3.trans _ _ _ (Ext3.refl _).drew (Ext3.of_M hnL3 hnE3 hnG3 h6);obtain ⟨hc6,hf6,-⟩ := Ext3.rules H6;have hs6_0 : L < w6.heap.size := by have := H6.size;(try simp at this);omega
      have hs6_1 : E < w6.heap.size := by have := H6.size;(try simp at this);omega
      have hs6_2 : g < w6.heap.size := by have := H6.size;(try simp at this);omega
      go_wp2_with (fail);refine hK _ _ (Ext3.of_M hnL3 hnE3 hnG3 h6) ?_;clear hK K;refine Plan.qs 1 [13] ?_;go_big_quiet_step (fail);refine Plan.dn ?_;have hupA := EUp.trans HX9.out HB1.out (EUp.before ((ExtM.refl _).drew) hup);have HA := Lib.hid hupA;clear hupA hup h6 H6 hmv2;go_wp2_with fail;go_roundg (2 - (0 + 1))
      case measure => omega
      case rel => exact ⟨0 + 1,by go_num,by omega,Nat.le_refl _,rfl,HA.out⟩
  . skip;have hup' : EUp w4 wr E Bs lo hi md st1 V V f0 f1 := hup;have HUP := Lib.hid hup';obtain ⟨hx9,Bs1,hat9,hB1⟩ := hup';have hl9 := hl4.keep hx9 hnB;have z1 := (hx9.cell (p := ⟨g,1,none⟩) lg hgB).trans y1;have lg9 := Nat.lt_of_lt_of_le lg hx9.size;have lE9 := hat9.lt _ hat9.mine;have lL9 := hl9.lt;have c0 := hl9.c0;have n1 : ∀ k,k < w4.heap.size -> ¬ Bs k -> ¬ Bs1 k := fun k hk hn e => (hB1 k e).elim hn (fun q => by omega);have hnL3 : ¬ (Bs1 L /\ L ≠ E) := fun e => n1 L hlw hnB e.1;have hnE3 : ¬ (Bs1 E /\ E ≠ E) := fun e => e.2 rfl;have hnG3 : ¬ (Bs1 g /\ g ≠ E) := fun e => n1 g lg hgB e.1;have hlen := zbX H1.out;have HLN := Lib.hid hlen;rcases zcO H2.out with ⟨ht,hs⟩ | ⟨ht,hm,hs⟩
    . have hq : (y != -1099511627777) = false := by simp [ht]
      have HS := Lib.hid hs;clear hs ht hat9 hup hlen hx9 hB1 n1 hl9;go_wp2_with fail;go_roundg (2 - (1 + 1))
      case measure => omega
      case rel => exact ⟨1 + 1,by go_num,by omega,Nat.le_refl _,rfl,by have := HUP.out;rw [<- HS.out] at this;exact this⟩
    . have hq : (y != -1099511627777) = true := by simp [ht]
      obtain ⟨P,c3,hmv⟩ := ziB hat9 hp y (by omega);have hm2 : moveI 1 y st1.x st1.y = 0 := by simpa using hm
      rw [hm2,if_pos rfl,<- hs] at hmv;have hmv2 : ∀ U,Ext wr U -> Calls Tryz.prog 49 #[.pointer (some ⟨P,0,none⟩),.int .i64 1,.int .i64 y] U fun e U' => e = .returned .nilIface /\ ExtM (fun k => Bs1 k /\ k ≠ E) U U' /\ EUp U U' E Bs1 lo hi md st2 V V f0 f1 := hmv;have HX9 := Lib.hid hx9;have HB1 := Lib.hid hB1;clear hs ht hm hm2 hmv hat9 hup hlen hx9 hB1 n1 hl9;go_upto_region 17 with fail;refine Plan.b0 (Plan.Ext3 L E g) 14 ?_;refine Plan.qs 12 [0,1,2,3,4,5,6,7,8,9,10,11] ?_;iterate 12 go_big_quiet_step (fail)
      refine Plan.o1 12 fun K hK => ?_;go_wp2_with (fail);refine (hmv2 _ (ExtM.refl _).drew).mono ?_;rintro e w6 ⟨rfl,h6,hup⟩;have H6 := Ext3.trans _ _ _ (Ext3.refl _).drew (Ext3.of_M hnL3 hnE3 hnG3 h6);obtain ⟨hc6,hf6,-⟩ := Ext3.rules H6;have hs6_0 : L < w6.heap.size := by have := H6.size;(try simp at this);omega
      have hs6_1 : E < w6.heap.size := by have := H6.size;(try simp at this);omega
      have hs6_2 : g < w6.heap.size := by have := H6.size;(try simp at this);omega
      go_wp2_with (fail);refine hK _ _ (Ext3.of_M hnL3 hnE3 hnG3 h6) ?_;clear hK K;refine Plan.qs 1 [13] ?_;go_big_quiet_step (fail);refine Plan.dn ?_;have hupA := EUp.trans HX9.out HB1.out (EUp.before ((ExtM.refl _).drew) hup);have HA := Lib.hid hupA;clear hupA hup h6 H6 hmv2;go_wp2_with fail;go_roundg (2 - (1 + 1))
      case measure => omega
      case rel => exact ⟨1 + 1,by go_num,by omega,Nat.le_refl _,rfl,HA.out⟩
  . have hl9 := hl4.keep hup.1 hnB;have hfin := zdI HX.out (zlR hup hl9) hnB HL.out.lt;have c1 := hl9.c1;have cf := hl9.f 1;have lL9 := hl9.lt;have HF := Lib.hid hfin;clear hfin hl9 hup hat y0 y1;go_wp2_with fail;go_end0;exact ⟨rfl,HF.out⟩
def LdC (u : World) (B C L : Nat) : Option ESt -> Prop
 | none => LdIs u L none false /\ B <= L /\ L < C
 | some e => ∃ E Bs,LdIs u L (some ⟨E,0,none⟩) false /\ EAt u E Bs e.lo e.hi e.md e.st e.V e.V e.f0 e.f1 /\ ¬ Bs L /\ (B <= L /\ L < C) /\ ∀ k,Bs k -> B <= k /\ k < C
def LdAt (u : World) (B L : Nat) (e : Option ESt) : Prop := LdC u B u.heap.size L e
theorem LdC.inn {u : World} {B C L : Nat} {e : Option ESt} (h : LdC u B C L e) : (B <= L /\ L < C) /\ L < u.heap.size := by
 cases e with
 | none => exact ⟨h.2,h.1.lt⟩
 | some e => obtain ⟨E,Bs,h1,-,-,h2,-⟩ := h;exact ⟨h2,h1.lt⟩
theorem LdC.keep {M : Nat -> Prop} {u u' : World} {B C L : Nat} {e : Option ESt} (h : LdC u B C L e) (hx : ExtM M u u') (hM : ∀ k,k < C -> ¬ M k) : LdC u' B C L e := by
 cases e with
 | none => exact ⟨h.1.keep hx (hM L h.2.2),h.2⟩
 | some e =>
   obtain ⟨E,Bs,h1,h2,h3,h4,h5⟩ := h;exact ⟨E,Bs,h1.keep hx (hM L h4.2),h2.keep hx (fun k hk => hM k (h5 k hk).2),h3,h4,h5⟩
theorem LdC.set {u : World} {B C L : Nat} {e : Option ESt} (h : LdC u B C L e) : LdC (u.setCell ⟨L,1,none⟩ (.bool false)) B C L e := by
 have hs : ExtM (fun k => k = L) u (u.setCell ⟨L,1,none⟩ (.bool false)) := ExtM.setCell (M := fun k => k = L) (p := ⟨L,1,none⟩) (ExtM.refl _) (.inr rfl) _;cases e with
 | none => exact ⟨h.1.set false,h.2⟩
 | some e =>
   obtain ⟨E,Bs,h1,h2,h3,h4,h5⟩ := h;exact ⟨E,Bs,h1.set false,h2.keep hs (fun k hk e => h3 (e ▸ hk)),h3,h4,h5⟩
theorem LdAt.of_up {u u' : World} {B C L E : Nat} {Bs : Nat -> Prop} {e : ESt} (h : LUp u u' L E Bs e.lo e.hi e.md e.st e.V e.f0 e.f1) (hn : ¬ Bs L) (hL : B <= L) (hl : L < u.heap.size) (hB : ∀ k,Bs k -> B <= k /\ k < C) : LdAt u' B L (some e) /\ Plan.ExtF B u u' := by
 obtain ⟨h1,h2,Bs',h3,h4⟩ := h;refine ⟨⟨E,Bs',h2,h3,fun e => (h4 L e).elim hn (fun q => by omega),⟨hL,h2.lt⟩,fun k hk => ⟨(h4 k hk).elim (fun q => (hB k q).1) (fun q => by omega),h3.lt k hk⟩⟩,h1.mono (fun k _ hk => ?_)⟩;rcases hk with rfl | hk
 . exact hL
 . exact (hB k hk).1
theorem zo4 {u : World} {B C L : Nat} (h : LdC u B C L none) (b c d : Int) (a : Option Addr) (cap : Nat) (hnum : zaq u L a [b,c,d]) (hc : checkI b c d = 0) :
 Calls Tryz.prog 40 #[.pointer (some ⟨L,0,none⟩),.int .i64 0,.string ⟨#[112,108,97,110]⟩,.slice a 3 cap] u fun e u' => e = .returned (.tuple #[]) /\ LdAt u' B L (some ⟨b,c,d,⟨[],[],-1099511627777,-1099511627777,0⟩,[],0,0⟩) /\ Plan.ExtF B u u' := by
 obtain ⟨hL,hB,hC⟩ := h;refine (zjn hL b c d a cap hnum hc).mono ?_;rintro e u' ⟨rfl,E,Bs,h1,h2,h3,h4⟩;have hl := hL.lt;exact ⟨rfl,⟨E,Bs,h2,h3,fun e => by have := h4 L e;omega,⟨hB,h2.lt⟩,fun k hk => ⟨by have := h4 k hk;omega,h3.lt k hk⟩⟩,h1.mono (fun k _ e => by have e' : k = L := e;show B <= k;omega)⟩
theorem zpy {u : World} {B C L : Nat} {e : ESt} (h : LdC u B C L (some e)) (i : Int) (hi : 3 <= i) (s k t q m : Int) (a : Option Addr) (cap : Nat) (hnum : zaq u L a [s,k,t,q,m]) (ha : ∀ g,a = some ⟨g,0,none⟩ -> C <= g) (hp : zcF s ⟨⟨k,t,q⟩,m⟩ e.st = 0) :
 Calls Tryz.prog 40 #[.pointer (some ⟨L,0,none⟩),.int .i64 i,.string ⟨#[114,111,119]⟩,.slice a 5 cap] u fun r u' => r = .returned (.tuple #[]) /\ LdAt u' B L (some { e with st := putJ s.toNat ⟨⟨k,t,q⟩,m⟩ e.st }) /\ Plan.ExtF B u u' := by
 obtain ⟨E,Bs,hL,hE,hn,hB,hBs⟩ := h;have hgB : ∀ g,a = some ⟨g,0,none⟩ -> ¬ Bs g := fun g hg hb => by have := ha g hg;have := hBs g hb;omega
 refine (zlu hL hE hn i hi s k t q m a cap hnum hgB hp).mono ?_;rintro r u' ⟨rfl,hup⟩;exact ⟨rfl,LdAt.of_up (e := { e with st := putJ s.toNat ⟨⟨k,t,q⟩,m⟩ e.st }) hup hn hB.1 hL.lt hBs⟩
theorem zpA {u : World} {B C L : Nat} {e : ESt} (h : LdC u B C L (some e)) (i : Int) (hi : 3 <= i) (n : List Int) (a : Option Addr) (cap : Nat) (hnum : zaq u L a n) (ha : ∀ g,a = some ⟨g,0,none⟩ -> C <= g) (hV : e.V.length < 900000) (x : Out) (hxo : outE n = some x) :
 Calls Tryz.prog 40 #[.pointer (some ⟨L,0,none⟩),.int .i64 i,.string ⟨#[111,117,116]⟩,.slice a n.length cap] u fun r u' => r = .returned (.tuple #[]) /\ LdAt u' B L (some { e with V := x :: e.V }) /\ Plan.ExtF B u u' := by
 obtain ⟨E,Bs,hL,hE,hn,hB,hBs⟩ := h;have hgB : ∀ g,a = some ⟨g,0,none⟩ -> ¬ Bs g := fun g hg hb => by have := ha g hg;have := hBs g hb;omega
 refine (zkZ hL hE hn i hi n a cap hnum hV x hxo).mono ?_;rintro r u' ⟨rfl,hup⟩;exact ⟨rfl,LdAt.of_up (e := { e with V := x :: e.V }) hup hn hB.1 hL.lt hBs⟩
theorem zp6 {u : World} {B C L : Nat} {e : ESt} (h : LdC u B C L (some e)) (b c d : Int) (a : Option Addr) (cap : Nat) (hnum : zaq u L a [b,c,d]) (ha : ∀ g,a = some ⟨g,0,none⟩ -> C <= g) (hb : 0 <= b) (hc : 0 <= c) (hd : 0 <= d) :
 Calls Tryz.prog 40 #[.pointer (some ⟨L,0,none⟩),.int .i64 1,.string ⟨#[102,101,100]⟩,.slice a 3 cap] u fun r u' => r = .returned (.tuple #[]) /\ LdAt u' B L (some { e with f0 := b,f1 := c,st := { e.st with late := d } }) /\ Plan.ExtF B u u' := by
 obtain ⟨E,Bs,hL,hE,hn,hB,hBs⟩ := h;have hgB : ∀ g,a = some ⟨g,0,none⟩ -> ¬ Bs g := fun g hg hb => by have := ha g hg;have := hBs g hb;omega
 refine (zli hL hE hn b c d a cap hnum hgB hb hc hd).mono ?_;rintro r u' ⟨rfl,hup⟩;exact ⟨rfl,LdAt.of_up (e := { e with f0 := b,f1 := c,st := { e.st with late := d } }) hup hn hB.1 hL.lt hBs⟩
theorem zn2 {u : World} {B C L : Nat} {e : ESt} (h : LdC u B C L (some e)) (x y : Int) (a : Option Addr) (cap : Nat) (hnum : zaq u L a [x,y]) (ha : ∀ g,a = some ⟨g,0,none⟩ -> C <= g) (hp : zay e.lo e.hi) (hla : e.st.a.length < 1000000) (hlb : e.st.b.length < 1000000) {st1 st2 : JSt} (h1 : zcY e.lo e.hi 0 x e.st = some st1) (h2 : zcY e.lo e.hi 1 y st1 = some st2) :
 Calls Tryz.prog 40 #[.pointer (some ⟨L,0,none⟩),.int .i64 2,.string ⟨#[109,97,114,107,115]⟩,.slice a 2 cap] u fun r u' => r = .returned (.tuple #[]) /\ LdAt u' B L (some { e with st := st2 }) /\ Plan.ExtF B u u' := by
 obtain ⟨E,Bs,hL,hE,hn,hB,hBs⟩ := h;have hgB : ∀ g,a = some ⟨g,0,none⟩ -> ¬ Bs g := fun g hg hb => by have := ha g hg;have := hBs g hb;omega
 refine (zh8 hL hE hn x y a cap hnum hgB hp hla hlb h1 h2).mono ?_;rintro r u' ⟨rfl,hup⟩;exact ⟨rfl,LdAt.of_up (e := { e with st := st2 }) hup hn hB.1 hL.lt hBs⟩
def LnOk (i : Nat) (e : ESt) : Prop := zay e.lo e.hi /\ e.st.a.length <= 300 /\ e.st.b.length <= 300 /\ e.V.length <= i
theorem zhV {hs : List Hd} {x : Hd} (he : addE hs x = 0) (h : hs.length <= 300) : (addL hs x).length <= 300 := by
 have hl : hs.length < 300 := by
  unfold addE at he;split at he
  . cases he
  . split at he
    . cases he
    . omega
 unfold addL;rw [if_pos he];unfold addH insH;simp;omega
theorem zdS {s : Int} {x : Hd} {st : JSt} (hp : zcF s x st = 0) (ha : st.a.length <= 300) (hb : st.b.length <= 300) : (putJ s.toNat x st).a.length <= 300 /\ (putJ s.toNat x st).b.length <= 300 := by
 unfold zcF at hp;split at hp
 . rename_i h0;subst h0;exact ⟨zhV hp ha,hb⟩
 . split at hp
   . rename_i h1;subst h1;exact ⟨ha,zhV hp hb⟩
   . cases hp
inductive zfb : Nat -> List UInt8 -> List Int -> Option ESt -> ESt -> Prop
 | plan (a b c : Int) (e : Option ESt) (h : checkI a b c = 0) : zfb 0 zc2 [a,b,c] e ⟨a,b,c,⟨[],[],-1099511627777,-1099511627777,0⟩,[],0,0⟩
 | fed (a b c : Int) (e : ESt) (h0 : 0 <= a) (h1 : 0 <= b) (h2 : 0 <= c) : zfb 1 wFed [a,b,c] (some e) { e with f0 := a,f1 := b,st := { e.st with late := c } }
 | marks (x y : Int) (e : ESt) (st1 st2 : JSt) (h1 : zcY e.lo e.hi 0 x e.st = some st1) (h2 : zcY e.lo e.hi 1 y st1 = some st2) : zfb 2 zbW [x,y] (some e) { e with st := st2 }
 | row (i : Nat) (hi : 3 <= i) (s k t v m : Int) (e : ESt) (h : zcF s ⟨⟨k,t,v⟩,m⟩ e.st = 0) : zfb i wRow [s,k,t,v,m] (some e) { e with st := putJ s.toNat ⟨⟨k,t,v⟩,m⟩ e.st }
 | out (i : Nat) (hi : 3 <= i) (n : List Int) (e : ESt) (x : Out) (h : outE n = some x) : zfb i wOut n (some e) { e with V := x :: e.V }
theorem zfF {i : Nat} {nm : List UInt8} {n : List Int} {e : Option ESt} {e' : ESt} (h : zb3 i nm n e = some e') : zfb i nm n e e' := by
 unfold zb3 at h;split at h
 . rename_i hw;subst hw;split at h
   . split at h
     . rename_i hc;cases h;obtain ⟨rfl,hc⟩ := hc;exact .plan _ _ _ _ hc
     . cases h
   . cases h
 . split at h
   . cases h
   . rename_i e0;split at h
     . cases h
     . rename_i hi0;split at h
       . rename_i hw;subst hw;split at h
         . split at h
           . rename_i hc;cases h;obtain ⟨rfl,h0,h1,h2⟩ := hc;exact .fed _ _ _ _ h0 h1 h2
           . cases h
         . cases h
       . split at h
         . cases h
         . rename_i hi1;split at h
           . rename_i hw;subst hw;split at h
             . split at h
               . rename_i hi2;subst hi2;obtain ⟨st2,h1,rfl⟩ := Option.map_eq_some_iff.1 h;obtain ⟨st1,h2,h3⟩ := Option.bind_eq_some_iff.1 h1;exact .marks _ _ _ _ _ h2 h3
               . cases h
             . cases h
           . split at h
             . cases h
             . rename_i hi2;split at h
               . rename_i hw;subst hw;split at h
                 . split at h
                   . rename_i hp;cases h;exact .row _ (by omega) _ _ _ _ _ _ hp
                   . cases h
                 . cases h
               . split at h
                 . rename_i hw;subst hw;obtain ⟨x,h1,rfl⟩ := Option.map_eq_some_iff.1 h;exact .out _ (by omega) _ _ _ h1
                 . cases h
theorem ziA {i : Nat} {nm : List UInt8} {n : List Int} {e : Option ESt} {e' : ESt} (h : zb3 i nm n e = some e') (ho : ∀ x,e = some x -> LnOk i x) : LnOk (i + 1) e' := by
 cases zfF h with
 | plan a b c e hc => exact ⟨zgW hc,Nat.zero_le _,Nat.zero_le _,Nat.zero_le _⟩
 | fed a b c e => obtain ⟨h1,h2,h3,h4⟩ := ho _ rfl;exact ⟨h1,h2,h3,by show e.V.length <= _;omega⟩
 | marks x y e st1 st2 m1 m2 =>
   obtain ⟨h1,h2,h3,h4⟩ := ho _ rfl;have k1 := zbX m1;have k2 := zbX m2;exact ⟨h1,by show st2.a.length <= _;omega,by show st2.b.length <= _;omega,by show e.V.length <= _;omega⟩
 | row i hi s k t v m e hp =>
   obtain ⟨h1,h2,h3,h4⟩ := ho _ rfl;exact ⟨h1,(zdS hp h2 h3).1,(zdS hp h2 h3).2,by show e.V.length <= _;omega⟩
 | out i hi n e x =>
   obtain ⟨h1,h2,h3,h4⟩ := ho _ rfl;exact ⟨h1,h2,h3,by show (x :: e.V).length <= _;rw [List.length_cons];omega⟩
theorem zpl {u : World} {B C L : Nat} {e : Option ESt} {e' : ESt} (h : LdC u B C L e) (i : Nat) (hi : i < 800000) (s : ByteArray) (n : List Int) (a : Option Addr) (cap : Nat) (hnum : zaq u L a n) (ha : ∀ g,a = some ⟨g,0,none⟩ -> C <= g)
 (ho : ∀ x,e = some x -> LnOk i x) (h0 : i = 0 -> e = none) (hl : zb3 i s.data.toList n e = some e') :
 Calls Tryz.prog 40 #[.pointer (some ⟨L,0,none⟩),.int .i64 i,.string s,.slice a n.length cap] u fun r u' => r = .returned (.tuple #[]) /\ LdAt u' B L (some e') /\ Plan.ExtF B u u' := by
 obtain ⟨⟨l⟩⟩ := s;have hl : zb3 i l n e = some e' := hl;cases zfF hl with
 | plan b c d e hc => obtain rfl := h0 rfl;exact zo4 h b c d a cap hnum hc
 | fed b c d e q0 q1 q2 => exact zp6 h b c d a cap hnum ha q0 q1 q2
 | marks x y e st1 st2 m1 m2 =>
   obtain ⟨h1,h2,h3,h4⟩ := ho _ rfl;exact zn2 h x y a cap hnum ha h1 (by omega) (by omega) m1 m2
 | row i hi3 s k t v m e hp => exact zpy h i (by omega) s k t v m a cap hnum ha hp
 | out i hi3 n e x hx =>
   obtain ⟨h1,h2,h3,h4⟩ := ho _ rfl;exact zpA h i (by omega) n a cap hnum ha (by omega) x hx
theorem zir {x : Out} (h : zhl x) : (x.hl = true \/ x.hr = true) /\ x.ok := by
 rcases h with ⟨s,r,hs,hg,rfl⟩ | ⟨l,r,hl,hr,hk,rfl⟩
 . have := hg.i64
   have hs' : s = 0 \/ s = 1 := by omega
   rcases hs' with rfl | rfl
   . exact ⟨.inl rfl,zjP hg⟩
   . exact ⟨.inr rfl,zkW hg⟩
 . exact ⟨.inl rfl,zkj hl hr⟩
theorem znR {n : List Int} {x : Out} (h : outE n = some x) : zhl x := by
 unfold outE at h;split at h
 . split at h
   . rename_i hh;cases h;have hg : za0 ⟨_,_,_⟩ := hh.2;refine .inl ⟨_,_,?_,hg,rfl⟩;split <;> omega
   . cases h
 . split at h
   . rename_i hh;cases h;have h1 : za0 ⟨_,_,_⟩ := hh.2.1;have h2 : za0 ⟨_,_,_⟩ := hh.2.2.1;exact .inr ⟨_,_,h1,h2,hh.2.2.2,rfl⟩
   . cases h
 . cases h
def I64s (n : List Int) : Prop := ∀ k ∈ n,-9223372036854775808 <= k /\ k <= 9223372036854775807
theorem zew : ∀ (ws : List (List UInt8)) {n : List Int},zbz ws = some n -> I64s n
 | [],n,h => by cases h;exact fun _ h => nomatch h
 | w :: ws,n,h => by
   rw [zbz] at h;split at h
   . rename_i k hk;obtain ⟨m,hm,rfl⟩ := Option.map_eq_some_iff.1 h;intro q hq;rcases List.mem_cons.1 hq with rfl | hq
     . exact Lib.atoiAll_bounds hk
     . exact zew ws hm q hq
   . cases h
theorem zl5 {s : Int} {x : Hd} {st : JSt} (hp : zcF s x st = 0) (hm : x.m <= 9223372036854775807) (ha : ∀ h ∈ st.a,za0 h.r /\ 0 <= h.m /\ h.m <= 9223372036854775807) (hb : ∀ h ∈ st.b,za0 h.r /\ 0 <= h.m /\ h.m <= 9223372036854775807) :
 (∀ h ∈ (putJ s.toNat x st).a,za0 h.r /\ 0 <= h.m /\ h.m <= 9223372036854775807) /\ (∀ h ∈ (putJ s.toNat x st).b,za0 h.r /\ 0 <= h.m /\ h.m <= 9223372036854775807) /\ (putJ s.toNat x st).x = st.x /\ (putJ s.toNat x st).y = st.y /\ (putJ s.toNat x st).late = st.late := by
 have hgo : ∀ hs : List Hd,addE hs x = 0 -> (∀ h ∈ hs,za0 h.r /\ 0 <= h.m /\ h.m <= 9223372036854775807) -> ∀ h ∈ addL hs x,za0 h.r /\ 0 <= h.m /\ h.m <= 9223372036854775807 := by
  intro hs he hh y hy;have hx : za0 x.r /\ 0 <= x.m /\ x.m <= 9223372036854775807 := by
   unfold addE at he;split at he
   . cases he
   . rename_i hg;simp only [Bool.and_eq_false_imp,Classical.not_imp,Bool.not_eq_false,decide_eq_true_eq] at hg;exact ⟨hg.1,hg.2,hm⟩
  unfold addL at hy;rw [if_pos he] at hy;unfold addH insH at hy;simp only [List.mem_append,List.mem_cons] at hy;rcases hy with hy | rfl | hy
  . exact hh y (List.mem_of_mem_take hy)
  . exact hx
  . exact hh y (List.mem_of_mem_drop hy)
 unfold zcF at hp;split at hp
 . rename_i h0;subst h0;exact ⟨hgo _ hp ha,hb,rfl,rfl,rfl⟩
 . split at hp
   . rename_i h1;subst h1;exact ⟨ha,hgo _ hp hb,rfl,rfl,rfl⟩
   . cases hp
theorem zgG {lo hi t : Int} {s : Nat} {st st' : JSt} (h : zcY lo hi s t st = some st') : (∀ g ∈ st'.a,g ∈ st.a) /\ (∀ g ∈ st'.b,g ∈ st.b) /\ (st'.x = st.x \/ st'.x = t) /\ (st'.y = st.y \/ st'.y = t) /\ st'.late = st.late := by
 unfold zcY at h;split at h
 . cases h;exact ⟨fun _ h => h,fun _ h => h,.inl rfl,.inl rfl,rfl⟩
 . split at h
   . cases h;unfold zbr;split
     . exact ⟨fun _ h => h,fun g hg => (List.mem_filter.1 hg).1,.inr rfl,.inl rfl,rfl⟩
     . exact ⟨fun g hg => (List.mem_filter.1 hg).1,fun _ h => h,.inl rfl,.inr rfl,rfl⟩
   . cases h
theorem zlc {i : Nat} {nm : List UInt8} {n : List Int} {e : Option ESt} {e' : ESt} (h : zb3 i nm n e = some e') (hn : I64s n) (ho : ∀ x,e = some x -> SOk x /\ LnOk i x) (hi : i < 800000) : SOk e' := by
 have hlen := ziA h (fun x hx => (ho x hx).2);cases zfF h with
 | plan a b c e h =>
   have := hn a (by simp);have := hn b (by simp);have := hn c (by simp)
   refine ⟨?_,(fun _ h => nomatch h),(fun _ h => nomatch h),Nat.zero_le _,Nat.zero_le _,(fun _ h => nomatch h),Nat.zero_le _⟩;intro k hk;simp only [List.mem_cons,List.not_mem_nil,or_false] at hk;omega
 | fed a b c e =>
   obtain ⟨hs,-⟩ := ho _ rfl
   have := hn a (by simp);have := hn b (by simp);have := hn c (by simp)
   have h0 := hs.l0;refine ⟨?_,hs.ga,hs.gb,hs.la,hs.lb,hs.v,hs.lv⟩;simp only [List.mem_cons,List.not_mem_nil,or_false,forall_eq_or_imp,forall_eq] at h0 ⊢;omega
 | marks x y e st1 st2 m1 m2 =>
   obtain ⟨hs,-⟩ := ho _ rfl
   have := hn x (by simp);have := hn y (by simp)
   have h0 := hs.l0;obtain ⟨a1,b1,x1,y1,l1⟩ := zgG m1;obtain ⟨a2,b2,x2,y2,l2⟩ := zgG m2;have k1 := zbX m1;have k2 := zbX m2;have q1 := hs.la;have q2 := hs.lb;refine ⟨?_,fun g hg => hs.ga g (a1 g (a2 g hg)),fun g hg => hs.gb g (b1 g (b2 g hg)),by show st2.a.length <= _;omega,by show st2.b.length <= _;omega,hs.v,hs.lv⟩;simp only [List.mem_cons,List.not_mem_nil,or_false,forall_eq_or_imp,forall_eq] at h0 ⊢;omega
 | row i hi s k t v m e hp =>
   obtain ⟨hs,hl⟩ := ho _ rfl
   have := hn m (by simp)
   have h0 := hs.l0;obtain ⟨a1,b1,x1,y1,l1⟩ := zl5 hp (by show m <= _;omega) hs.ga hs.gb;obtain ⟨q1,q2⟩ := zdS hp hs.la hs.lb;refine ⟨?_,a1,b1,q1,q2,hs.v,hs.lv⟩;simp only [List.mem_cons,List.not_mem_nil,or_false,forall_eq_or_imp,forall_eq] at h0 ⊢;simp only [x1,y1,l1];omega
 | out i hi n e x hx =>
   obtain ⟨hs,hl⟩ := ho _ rfl;refine ⟨hs.l0,hs.ga,hs.gb,hs.la,hs.lb,fun y hy => ?_,?_⟩
   . rcases List.mem_cons.1 hy with rfl | hy
     . exact zir (znR hx)
     . exact hs.v y hy
   . have h9 : (x :: e.V).length <= i + 1 := hlen.2.2.2;show (x :: e.V).length <= _;omega
def zg7 (i : Nat) (xs : List (List UInt8)) : Option (Option ESt) -> Option (Option ESt)
 | none => none
 | some e => zbt i xs e
def zc5 (i : Nat) (x : List UInt8) : Option (Option ESt) -> Option (Option ESt)
 | none => none
 | some e => match zbz (cut1 32 x).tail with | none => none | some n => (zb3 i ((cut1 32 x).headD []) n e).map some
theorem zjs (i : Nat) (x : List UInt8) (xs : List (List UInt8)) (r : Option (Option ESt)) : zg7 i (x :: xs) r = zg7 (i + 1) xs (zc5 i x r) := by
 cases r with
 | none => rfl
 | some e =>
   show zbt i (x :: xs) e = zg7 (i + 1) xs (zc5 i x (some e));rw [zbt];unfold zc5;cases h : zbz (cut1 32 x).tail with
   | none => rfl
   | some n =>
     simp only;cases h2 : zb3 i ((cut1 32 x).headD []) n e with
     | none => rfl
     | some e' => rfl
def ROk (i : Nat) (r : Option (Option ESt)) : Prop := ∀ e,r = some (some e) -> SOk e /\ LnOk i e
theorem zkr {i : Nat} {x : List UInt8} {r : Option (Option ESt)} (h : ROk i r) (hi : i < 800000) : ROk (i + 1) (zc5 i x r) := by
 intro e he;cases r with
 | none => cases he
 | some e0 =>
   unfold zc5 at he;simp only at he;split at he
   . cases he
   . rename_i n hn;obtain ⟨e1,h1,h2⟩ := Option.map_eq_some_iff.1 he;cases h2;exact ⟨zlc h1 (zew _ hn) (fun x hx => h x (by rw [hx])) hi,ziA h1 (fun x hx => (h x (by rw [hx])).2)⟩
def zpo (i : Nat) (r : Option (Option ESt)) : Prop := (i = 0 -> r = some none) /\ (0 < i -> r ≠ some none)
theorem zet {i : Nat} {x : List UInt8} {r : Option (Option ESt)} : zpo (i + 1) (zc5 i x r) := by
 refine ⟨fun h => by omega,fun _ h => ?_⟩;cases r with
 | none => cases h
 | some e0 =>
   unfold zc5 at h;simp only at h;split at h
   . cases h
   . obtain ⟨e1,h1,h2⟩ := Option.map_eq_some_iff.1 h;cases h2
theorem zd1 (w : List UInt8) : ∀ ws : List (List UInt8),zbz (ws ++ [w]) = match zbz ws with | none => none | some n => match Lib.atoiAll w with | .ok k => some (n ++ [k]) | _ => none
 | [] => by
   show zbz [w] = match some [] with | none => none | some n => match Lib.atoiAll w with | .ok k => some (n ++ [k]) | _ => none
   rw [zbz,zbz];cases Lib.atoiAll w with
   | ok k => rfl
   | _ => rfl
 | v :: ws => by
   rw [List.cons_append,zbz,zbz,zd1 w ws];cases Lib.atoiAll v with
   | ok k =>
     simp only;cases zbz ws with
     | none => rfl
     | some n =>
       simp only [Option.map_some];cases Lib.atoiAll w with
       | ok k => rfl
       | _ => rfl
   | _ => rfl
theorem zmI (s : List UInt8) (ls : List (List UInt8)) (h : ls = cut1 10 s) :
 zfM s = if 60000 < s.length \/ ls.length < 5 \/ ls[ls.length - 2]? ≠ some wEnd \/ ls[ls.length - 1]? ≠ some [] then none else match zg7 0 (ls.take (ls.length - 2)) (some none) with | some (some e) => if savedT e = s then some e else none | _ => none := by
 subst h;rfl
def ErrP (w : World) : Prop := (∃ t p,w.cell? ⟨3,0,none⟩ = some (.iface t p)) /\ ∃ t p,w.cell? ⟨4,0,none⟩ = some (.iface t p)
theorem ErrP.lt {w : World} (h : ErrP w) : 3 < w.heap.size /\ 4 < w.heap.size := by
 obtain ⟨⟨_,_,h1⟩,_,_,h2⟩ := h;exact ⟨zac h1,zac h2⟩
theorem ErrP.keep {M : Nat -> Prop} {w w' : World} (h : ErrP w) (hx : ExtM M w w') (h1 : ¬ M 3) (h2 : ¬ M 4) : ErrP w' := by
 have hl := h.lt;obtain ⟨⟨t,p,q1⟩,t',p',q2⟩ := h;exact ⟨⟨t,p,(hx.cell (p := ⟨3,0,none⟩) hl.1 h1).trans q1⟩,t',p',(hx.cell (p := ⟨4,0,none⟩) hl.2 h2).trans q2⟩
theorem zjT (s : ByteArray) (w : World) (hs : s.size <= 1000000000) (hE : ErrP w) :
 Calls Tryz.prog 39 #[.string s] w fun e w' => ∃ k ev,e = .returned (.tuple #[.int .i64 k,ev]) /\ Ext w w' /\ ((Lib.atoiAll s.data.toList = .ok k /\ ev = .nilIface) \/ ((∀ n,Lib.atoiAll s.data.toList ≠ .ok n) /\ ∃ t p,ev = .iface t p)) := by
 obtain ⟨⟨t1,p1,h1⟩,t2,p2,h2⟩ := hE;cases hh : Lib.atoiAll s.data.toList with
 | ok n =>
   refine (zoD s n w hs hh).mono ?_;rintro e w' ⟨rfl,hx⟩;exact ⟨n,_,rfl,hx,.inl ⟨rfl,rfl⟩⟩
 | range =>
   refine (Any.strconv_Atoi_range Tryz.shAtoi s (by omega) hh _ w h2 (.inr ⟨t2,p2,rfl⟩)).mono ?_;rintro e w' ⟨N,rfl,-,-,hx⟩;exact ⟨_,_,rfl,zdf hx,.inr ⟨(fun n h => nomatch h),_,_,rfl⟩⟩
 | _ =>
   refine (Any.strconv_Atoi_syntax Tryz.shAtoi s (by omega) hh _ w h1 (.inr ⟨t1,p1,rfl⟩)).mono ?_;rintro e w' ⟨N,rfl,-,-,hx⟩;exact ⟨_,_,rfl,zdf hx,.inr ⟨(fun n h => nomatch h),_,_,rfl⟩⟩
def zhE (u : World) (B C L : Nat) : Prop := u.cell? ⟨L,1,none⟩ = some (.bool true) /\ u.frozen? ⟨L,1,none⟩ = false /\ B <= L /\ L < C
theorem zhE.keep {M : Nat -> Prop} {u u' : World} {B C L : Nat} (h : zhE u B C L) (hx : ExtM M u u') (hM : ¬ M L) : zhE u' B C L :=
 ⟨(hx.cell (p := ⟨L,1,none⟩) (zac h.1) hM).trans h.1,(hx.frozen (p := ⟨L,1,none⟩) (zac h.1) hM).trans h.2.1,h.2.2⟩
theorem zlv {u : World} {B C L : Nat} {b : Bool} (h1 : u.cell? ⟨L,1,none⟩ = some (.bool b)) (h2 : u.frozen? ⟨L,1,none⟩ = false) (h3 : B <= L /\ L < C) : zhE (u.setCell ⟨L,1,none⟩ (.bool true)) B C L :=
 ⟨World.cell?_setCell_same _ _ _ h1,(World.frozen?_setCell _ _ _ _).trans h2,h3⟩
def LdS (u : World) (B C L : Nat) : Option (Option ESt) -> Prop
 | none => zhE u B C L
 | some e => LdC u B C L e
theorem LdS.inn {u : World} {B C L : Nat} {r : Option (Option ESt)} (h : LdS u B C L r) : (B <= L /\ L < C) /\ L < u.heap.size := by
 cases r with
 | none => exact ⟨h.2.2,zac h.1⟩
 | some e => exact LdC.inn h
theorem LdS.keep {M : Nat -> Prop} {u u' : World} {B C L : Nat} {r : Option (Option ESt)} (h : LdS u B C L r) (hx : ExtM M u u') (hM : ∀ k,k < C -> ¬ M k) : LdS u' B C L r := by
 cases r with
 | none => exact zhE.keep h hx (hM L h.2.2.2)
 | some e => exact LdC.keep h hx hM
theorem LdC.bad {u : World} {B C L : Nat} {e : Option ESt} (h : LdC u B C L e) : u.cell? ⟨L,1,none⟩ = some (.bool false) /\ u.frozen? ⟨L,1,none⟩ = false := by
 cases e with
 | none => exact ⟨h.1.c1,h.1.f 1⟩
 | some e => obtain ⟨E,Bs,h1,-⟩ := h;exact ⟨h1.c1,h1.f 1⟩
theorem LdS.bad {u : World} {B C L : Nat} {r : Option (Option ESt)} (h : LdS u B C L r) : u.cell? ⟨L,1,none⟩ = some (.bool r.isNone) /\ u.frozen? ⟨L,1,none⟩ = false := by
 cases r with
 | none => exact ⟨h.1,h.2.1⟩
 | some e => exact LdC.bad h
def midR (r : Option (Option ESt)) (ws : List (List UInt8)) : Option (Option ESt) := match zbz ws with | none => none | some _ => r
theorem zgD (r : Option (Option ESt)) (w : List UInt8) (ws : List (List UInt8)) :
 (∃ k,Lib.atoiAll w = .ok k /\ midR r (ws ++ [w]) = midR r ws) \/ (∀ k,Lib.atoiAll w ≠ .ok k) /\ midR r (ws ++ [w]) = none := by
 unfold midR;rw [zd1];cases h : Lib.atoiAll w with
 | ok k =>
   refine .inl ⟨k,rfl,?_⟩;cases zbz ws <;> rfl
 | _ =>
   refine .inr ⟨(fun k h => nomatch h),?_⟩;cases zbz ws <;> rfl
theorem LdS.put {u : World} {B C L : Nat} {r : Option (Option ESt)} {ws : List (List UInt8)} {w : List UInt8} (h : LdS u B C L (midR r ws)) :
 (∀ k,Lib.atoiAll w = .ok k -> LdS (u.setCell ⟨L,1,none⟩ (.bool (midR r ws).isNone)) B C L (midR r (ws ++ [w]))) /\ ((∀ k,Lib.atoiAll w ≠ .ok k) -> LdS (u.setCell ⟨L,1,none⟩ (.bool true)) B C L (midR r (ws ++ [w]))) := by
 obtain ⟨h1,h2⟩ := h.bad;obtain ⟨h3,-⟩ := h.inn;constructor
 . intro k hk;rcases zgD r w ws with ⟨k',-,e⟩ | ⟨hn,-⟩
   . rw [e];cases hm : midR r ws with
     | none => rw [hm] at h1;exact zlv h1 h2 h3
     | some e => rw [hm] at h;exact LdC.set h
   . exact absurd hk (hn k)
 . intro hn;rcases zgD r w ws with ⟨k',hk,-⟩ | ⟨-,e⟩
   . exact absurd hk (hn k')
   . rw [e];exact zlv h1 h2 h3
def BadC : Prop := ∀ (u : World) (B C L : Nat) (e : Option ESt) (i : Nat) (s : ByteArray) (n : List Int) (a : Option Addr) (cap : Nat),LdC u B C L e -> i < 800000 -> zaq u L a n -> (∀ g,a = some ⟨g,0,none⟩ -> C <= g) -> (∀ x,e = some x -> SOk x /\ LnOk i x) -> I64s n ->
    (i = 0 -> e = none) -> (0 < i -> e ≠ none) -> zb3 i s.data.toList n e = none -> Laid u ->
    Calls Tryz.prog 40 #[.pointer (some ⟨L,0,none⟩),.int .i64 i,.string s,.slice a n.length cap] u fun r u' => r = .returned (.tuple #[]) /\ zhE u' B u'.heap.size L /\ Plan.ExtF B u u'
def LoadV (u : World) (s : List UInt8) (r : Ending) (u' : World) : Prop :=
 Ext u u' /\ match zfM s with
  | none => r = .returned (.tuple #[.pointer none,errV 3])
  | some e => ∃ E Bs,r = .returned (.tuple #[.pointer (some ⟨E,0,none⟩),.nilIface]) /\ EAt u' E Bs e.lo e.hi e.md e.st e.V e.V e.f0 e.f1 /\ ∀ k,Bs k -> u.heap.size <= k
theorem zn1 (x : ByteArray) (w : World) (hs : x.size < 4294967281) (hm : MaxP w) :
 Calls Tryz.prog 38 #[.string x,.string ⟨#[32]⟩] w fun e w' => ∃ (nm : ByteArray) (ws : List ByteArray),nm.data.toList = (cut1 32 x.data.toList).headD [] /\ ws.map (·.data.toList) = (cut1 32 x.data.toList).tail /\ e = .returned (.slice (some ⟨w.heap.size,0,none⟩) (ws.length + 1) (ws.length + 1)) /\ w' = w.alloc (.cells (Value.string nm :: ws.map Value.string).toArray 9) := by
 refine (zkB 32 x w hs hm).mono ?_;rintro e w' ⟨l,hl,rfl,rfl⟩;cases l with
 | nil => exact absurd hl.symm (znF _ _)
 | cons nm ws =>
   rw [<- hl];exact ⟨nm,ws,rfl,rfl,rfl,rfl⟩
theorem LdC.up {u : World} {B C C' L : Nat} {e : Option ESt} (h : LdC u B C L e) (hC : C <= C') : LdC u B C' L e := by
 cases e with
 | none => exact ⟨h.1,h.2.1,by have := h.2.2;omega⟩
 | some e =>
   obtain ⟨E,Bs,h1,h2,h3,h4,h5⟩ := h;exact ⟨E,Bs,h1,h2,h3,⟨h4.1,by omega⟩,fun k hk => ⟨(h5 k hk).1,by have := (h5 k hk).2;omega⟩⟩
theorem LdS.up {u : World} {B C C' L : Nat} {r : Option (Option ESt)} (h : LdS u B C L r) (hC : C <= C') : LdS u B C' L r := by
 cases r with
 | none => exact ⟨h.1,h.2.1,h.2.2.1,by have := h.2.2.2;omega⟩
 | some e => exact LdC.up h hC
theorem zh1 (c : UInt8) : ∀ s : List UInt8,∀ p ∈ cut1 c s,p.length <= s.length
 | [],p,hp => by simp [cut1] at hp;subst hp;simp
 | b :: r,p,hp => by
   have ih := zh1 c r;unfold cut1 at hp;split at hp
   . rcases List.mem_cons.1 hp with rfl | hp
     . simp
     . have := ih p hp;simp only [List.length_cons];omega
   . split at hp
     . rename_i h t e;rw [e] at ih;rcases List.mem_cons.1 hp with rfl | hp
       . have := ih h List.mem_cons_self;simp only [List.length_cons];omega
       . have := ih p (List.mem_cons_of_mem _ hp);simp only [List.length_cons];omega
     . rw [List.mem_singleton] at hp;subst hp;simp
theorem zjx {i : Nat} {x nm : List UInt8} {ws : List (List UInt8)} {r : Option (Option ESt)} (h1 : nm = (cut1 32 x).headD []) (h2 : ws = (cut1 32 x).tail) :
 (midR r ws = none /\ zc5 i x r = none) \/ ∃ e n,r = some e /\ midR r ws = some e /\ zbz ws = some n /\ zc5 i x r = (zb3 i nm n e).map some := by
 subst h1;subst h2;unfold midR zc5;cases r with
 | none => refine .inl ⟨?_,rfl⟩;split <;> rfl
 | some e =>
   cases h : zbz (cut1 32 x).tail with
   | none => exact .inl ⟨rfl,rfl⟩
   | some n => exact .inr ⟨e,n,rfl,rfl,rfl,rfl⟩
theorem zbA (s : ByteArray) : s.data.toList.length = s.size := by rw [Array.length_toList];rfl
theorem zib (w : World) (l : List ByteArray) (i : Nat) (h : i < l.length) : (w.alloc (.cells (l.map Value.string).toArray 9)).cell? ⟨w.heap.size,i,none⟩ = some (.string l[i]) :=
 (World.cell?_alloc_at _ _ _ i rfl).trans (by simp [h])
end Go.Proofs.YtmcgnnmffeojpabGreatDoor
