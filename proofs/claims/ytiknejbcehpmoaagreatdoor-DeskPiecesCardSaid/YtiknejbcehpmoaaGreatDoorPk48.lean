import Derived.Test.YtiknejbcehpmoaaGreatDoorPk46
import Derived.Test.YtiknejbcehpmoaaGreatDoorPk47
import Derived.Defers
import Derived.Recover
import Derived.RangeFuncNested
import Derived.RangeFuncCalls
import Derived.RangeFuncLeaves
import Derived.Shelf.RegionOpen
import Derived.OwnWalkIn
import Derived.TacticsInMore
import Derived.LoopNIn
import Derived.LoopIn
import Derived.Sort.LoopGhostIn
set_option maxRecDepth 100000
set_option maxHeartbeats 8000000
namespace Go.Proofs.YtiknejbcehpmoaaGreatDoor
open Go.RowKit Go.Plan
theorem AnsV.split (u:World) (D:Nat) (Fs:Nat -> Prop) (x:LSt) (nm:List UInt8) (k:Nat) (ws:List ByteArray) :
 (∃ t:ByteArray,∀ e u',AnsV u D Fs x nm k ws e u' -> e = .returned (.string t)) \/ ∃ c,∀ e u',AnsV u D Fs x nm k ws e u' -> e = zsi c:=by
 unfold AnsV;cases h:argsO k (zsf ws) with
 | none=>exact .inr ⟨3,fun e u' hh=>hh.1⟩
 | some n =>
   by_cases h0:(doX x nm n).1 = 0
   . exact .inl ⟨_,fun e u' hh=>by have:=hh.1;rw [if_pos h0] at this;exact this⟩
   . exact .inr ⟨_,fun e u' hh=>by have:=hh.1;rw [if_neg h0] at this;exact this⟩
theorem zu6 (u:World) (D:Nat) (Fs:Nat -> Prop) (x:LSt) (n:Nat) (a:Option Addr) (ws:List ByteArray) (cap:Nat) (h:DkIn u D Fs x n a ws) :
 Calls Tryz.prog 56 #[.pointer (some ⟨D,0,none⟩),.slice a ws.length cap] u (AnsV u D Fs x zsr 3 ws):=by
 have hf:=ztW 0 (by decide) zsr u D Fs x n a ws cap (fun ns=>by unfold doX;rw [if_neg (by decide),if_pos rfl]) h;clear h;rcases AnsV.split u D Fs x zsr 3 ws with ⟨t,ht⟩ | ⟨c,hc⟩
 . have hf:=Calls.mono hf (fun e w' hh=>(⟨ht e w' hh,hh⟩:e = .returned (.string t) /\ AnsV u D Fs x zsr 3 ws e w'));clear ht;go_enter Tryz.func56,Tryz.ntmps56;go_wp2_with (go_at_call 91;refine Calls.mono hf ?_;rintro e w1 ⟨rfl,hh⟩);go_ret;exact hh
 . have hf:=Calls.mono hf (fun e w' hh=>(⟨hc e w' hh,hh⟩:e = zsi c /\ AnsV u D Fs x zsr 3 ws e w'));clear hc;go_enter Tryz.func56,Tryz.ntmps56;go_wp2_with (go_at_call 91;refine Calls.mono hf ?_;rintro e w1 ⟨rfl,hh⟩);exact ⟨rfl,hh⟩
theorem rightX_c (u:World) (D:Nat) (Fs:Nat -> Prop) (x:LSt) (n:Nat) (a:Option Addr) (ws:List ByteArray) (cap:Nat) (h:DkIn u D Fs x n a ws) :
 Calls Tryz.prog 60 #[.pointer (some ⟨D,0,none⟩),.slice a ws.length cap] u (AnsV u D Fs x zsn 3 ws):=by
 have hf:=ztW 1 (by decide) zsn u D Fs x n a ws cap (fun ns=>by unfold doX;rw [if_neg (by decide),if_neg (by decide),if_pos rfl]) h;clear h;rcases AnsV.split u D Fs x zsn 3 ws with ⟨t,ht⟩ | ⟨c,hc⟩
 . have hf:=Calls.mono hf (fun e w' hh=>(⟨ht e w' hh,hh⟩:e = .returned (.string t) /\ AnsV u D Fs x zsn 3 ws e w'));clear ht;go_enter Tryz.func60,Tryz.ntmps60;go_wp2_with (go_at_call 91;refine Calls.mono hf ?_;rintro e w1 ⟨rfl,hh⟩);go_ret;exact hh
 . have hf:=Calls.mono hf (fun e w' hh=>(⟨hc e w' hh,hh⟩:e = zsi c /\ AnsV u D Fs x zsn 3 ws e w'));clear hc;go_enter Tryz.func60,Tryz.ntmps60;go_wp2_with (go_at_call 91;refine Calls.mono hf ?_;rintro e w1 ⟨rfl,hh⟩);exact ⟨rfl,hh⟩
def cmdL:List (List UInt8 × Nat):=[(wFed,51),(zso,52),(zsC,53),(zsW,54),(zsG,55),(zsr,56),(zsw,57),(zbW,58),(zc2,7),(zsh,59),(zsn,60),(zsx,61),(zsH,62)]
def cmdF (nm:List UInt8):Option Nat:=(cmdL.find? fun p=>decide (p.1 = nm)).map (·.2)
def fnV (D K:Nat):Value:=.func (.func K) #[.pointer (some ⟨D,0,none⟩)] #[]
def zuJ (D:Nat):List (ByteArray × Value):=cmdL.map fun p=>(⟨p.1.toArray⟩,fnV D p.2)
theorem ztC (D:Nat) (s:ByteArray):mlook (zuJ D) s = (cmdF s.data.toList).map (fnV D):=by
 have h:∀ l:List (List UInt8 × Nat),mlook (l.map fun p=>((⟨p.1.toArray⟩:ByteArray),fnV D p.2)) s = ((l.find? fun p=>decide (p.1 = s.data.toList)).map (·.2)).map (fnV D):=by
  intro l;induction l with
  | nil=>rfl
  | cons p l ih =>
    have e:decide ((⟨p.1.toArray⟩:ByteArray) = s) = decide (p.1 = s.data.toList):=by
     obtain ⟨⟨q⟩⟩:=s;by_cases h:p.1 = q
     . subst h;simp
     . have:¬ (⟨p.1.toArray⟩:ByteArray) = ⟨⟨q⟩⟩:=fun e=>h (by simpa using congrArg (fun x:ByteArray=>x.data.toList) e);simp [h,this]
    unfold mlook at ih ⊢;rw [List.map_cons,List.find?_cons,List.find?_cons,e];cases decide (p.1 = s.data.toList) with
    | true=>rfl
    | false=>exact ih
 exact h cmdL
theorem zuI (w:World):(zeroValue 29).run Tryz.prog w = .ok .nilFunc w:=by kernel_rfl
theorem zdd {m:List (ByteArray × Value)} {x:ByteArray} {v:Value} (h:mlook m x = none):putK m x v = m ++ [(x,v)]:=by
 unfold putK;rw [h];rfl
theorem zuh (u:World) (D:Nat):∃ w1 w2 w3 w4 w5 w6 w7 w8 w9 w10 w11 w12 w13,(Instr.mapUpdate 130 (.map (some u.heap.size)) (.string ⟨wFed.toArray⟩) (fnV D 51)).run Tryz.prog (u.alloc (.map #[] 0)) = .ok () w1 /\
 (Instr.mapUpdate 130 (.map (some u.heap.size)) (.string ⟨zso.toArray⟩) (fnV D 52)).run Tryz.prog w1 = .ok () w2 /\
 (Instr.mapUpdate 130 (.map (some u.heap.size)) (.string ⟨zsC.toArray⟩) (fnV D 53)).run Tryz.prog w2 = .ok () w3 /\
 (Instr.mapUpdate 130 (.map (some u.heap.size)) (.string ⟨zsW.toArray⟩) (fnV D 54)).run Tryz.prog w3 = .ok () w4 /\
 (Instr.mapUpdate 130 (.map (some u.heap.size)) (.string ⟨zsG.toArray⟩) (fnV D 55)).run Tryz.prog w4 = .ok () w5 /\
 (Instr.mapUpdate 130 (.map (some u.heap.size)) (.string ⟨zsr.toArray⟩) (fnV D 56)).run Tryz.prog w5 = .ok () w6 /\
 (Instr.mapUpdate 130 (.map (some u.heap.size)) (.string ⟨zsw.toArray⟩) (fnV D 57)).run Tryz.prog w6 = .ok () w7 /\
 (Instr.mapUpdate 130 (.map (some u.heap.size)) (.string ⟨zbW.toArray⟩) (fnV D 58)).run Tryz.prog w7 = .ok () w8 /\
 (Instr.mapUpdate 130 (.map (some u.heap.size)) (.string ⟨zc2.toArray⟩) (fnV D 7)).run Tryz.prog w8 = .ok () w9 /\
 (Instr.mapUpdate 130 (.map (some u.heap.size)) (.string ⟨zsh.toArray⟩) (fnV D 59)).run Tryz.prog w9 = .ok () w10 /\
 (Instr.mapUpdate 130 (.map (some u.heap.size)) (.string ⟨zsn.toArray⟩) (fnV D 60)).run Tryz.prog w10 = .ok () w11 /\
 (Instr.mapUpdate 130 (.map (some u.heap.size)) (.string ⟨zsx.toArray⟩) (fnV D 61)).run Tryz.prog w11 = .ok () w12 /\
 (Instr.mapUpdate 130 (.map (some u.heap.size)) (.string ⟨zsH.toArray⟩) (fnV D 62)).run Tryz.prog w12 = .ok () w13 /\
 Ext u w13 /\ ∀ s,s.size <= 1000000000 -> (Instr.lookup 130 (.map (some u.heap.size)) (.string s) false).run Tryz.prog w13 = .ok (((cmdF s.data.toList).map (fnV D)).getD .nilFunc) w13:=by
 have h0:zav Tryz.prog 9 Value.string (u.alloc (.map #[] 0)) u.heap.size []:=zav.made u;obtain ⟨w1,r1,x1,z1,h1⟩:=h0.run_update zfW zea Tryz.underlying130 ⟨wFed.toArray⟩ (keyS _ (by decide)) (fnV D 51);rw [zdd (by rfl)] at h1;simp only [List.nil_append] at h1;obtain ⟨w2,r2,x2,z2,h2⟩:=h1.run_update zfW zea Tryz.underlying130 ⟨zso.toArray⟩ (keyS _ (by decide)) (fnV D 52);rw [zdd (by rfl)] at h2;simp only [List.nil_append,List.cons_append] at h2;obtain ⟨w3,r3,x3,z3,h3⟩:=h2.run_update zfW zea Tryz.underlying130 ⟨zsC.toArray⟩ (keyS _ (by decide)) (fnV D 53);rw [zdd (by rfl)] at h3;simp only [List.nil_append,List.cons_append] at h3;obtain ⟨w4,r4,x4,z4,h4⟩:=h3.run_update zfW zea Tryz.underlying130 ⟨zsW.toArray⟩ (keyS _ (by decide)) (fnV D 54);rw [zdd (by rfl)] at h4;simp only [List.nil_append,List.cons_append] at h4;obtain ⟨w5,r5,x5,z5,h5⟩:=h4.run_update zfW zea Tryz.underlying130 ⟨zsG.toArray⟩ (keyS _ (by decide)) (fnV D 55);rw [zdd (by rfl)] at h5;simp only [List.nil_append,List.cons_append] at h5;obtain ⟨w6,r6,x6,z6,h6⟩:=h5.run_update zfW zea Tryz.underlying130 ⟨zsr.toArray⟩ (keyS _ (by decide)) (fnV D 56);rw [zdd (by rfl)] at h6;simp only [List.nil_append,List.cons_append] at h6;obtain ⟨w7,r7,x7,z7,h7⟩:=h6.run_update zfW zea Tryz.underlying130 ⟨zsw.toArray⟩ (keyS _ (by decide)) (fnV D 57);rw [zdd (by rfl)] at h7;simp only [List.nil_append,List.cons_append] at h7;obtain ⟨w8,r8,x8,z8,h8⟩:=h7.run_update zfW zea Tryz.underlying130 ⟨zbW.toArray⟩ (keyS _ (by decide)) (fnV D 58);rw [zdd (by rfl)] at h8;simp only [List.nil_append,List.cons_append] at h8;obtain ⟨w9,r9,x9,z9,h9⟩:=h8.run_update zfW zea Tryz.underlying130 ⟨zc2.toArray⟩ (keyS _ (by decide)) (fnV D 7);rw [zdd (by rfl)] at h9;simp only [List.nil_append,List.cons_append] at h9;obtain ⟨w10,r10,x10,z10,h10⟩:=h9.run_update zfW zea Tryz.underlying130 ⟨zsh.toArray⟩ (keyS _ (by decide)) (fnV D 59);rw [zdd (by rfl)] at h10;simp only [List.nil_append,List.cons_append] at h10;obtain ⟨w11,r11,x11,z11,h11⟩:=h10.run_update zfW zea Tryz.underlying130 ⟨zsn.toArray⟩ (keyS _ (by decide)) (fnV D 60);rw [zdd (by rfl)] at h11;simp only [List.nil_append,List.cons_append] at h11;obtain ⟨w12,r12,x12,z12,h12⟩:=h11.run_update zfW zea Tryz.underlying130 ⟨zsx.toArray⟩ (keyS _ (by decide)) (fnV D 61);rw [zdd (by rfl)] at h12;simp only [List.nil_append,List.cons_append] at h12;obtain ⟨w13,r13,x13,z13,h13⟩:=h12.run_update zfW zea Tryz.underlying130 ⟨zsH.toArray⟩ (keyS _ (by decide)) (fnV D 62);rw [zdd (by rfl)] at h13;simp only [List.nil_append,List.cons_append] at h13;refine ⟨w1,w2,w3,w4,w5,w6,w7,w8,w9,w10,w11,w12,w13,r1,r2,r3,r4,r5,r6,r7,r8,r9,r10,r11,r12,r13,?_,fun s hs=>?_⟩
 . have hB:ExtB u.heap.size (u.alloc (.map #[] 0)) w13:=ExtB.trans _ _ _ x1 (ExtB.trans _ _ _ x2 (ExtB.trans _ _ _ x3 (ExtB.trans _ _ _ x4 (ExtB.trans _ _ _ x5 (ExtB.trans _ _ _ x6 (ExtB.trans _ _ _ x7 (ExtB.trans _ _ _ x8 (ExtB.trans _ _ _ x9 (ExtB.trans _ _ _ x10 (ExtB.trans _ _ _ x11 (ExtB.trans _ _ _ x12 (x13))))))))))));exact ⟨hB.os,hB.tape,hB.output,Nat.le_trans (by simp) hB.size,fun k hk _=>(hB.block k (by simp;omega) (fun e=>by have e':k = u.heap.size:=e;omega)).trans (heap_alloc_old _ _ hk)⟩
 . have hl:=h13.run_look false zfW zea Tryz.underlying130 zuI s (keyS _ hs);rw [<- ztC D s];exact hl
def zuH (K:Nat) (nm:List UInt8) (k:Nat):Prop:=(∀ (u:World) (D:Nat) (Fs:Nat -> Prop) (x:LSt) (n:Nat) (a:Option Addr) (ws:List ByteArray) (cap:Nat),DkIn u D Fs x n a ws ->
 Calls Tryz.prog K #[.pointer (some ⟨D,0,none⟩),.slice a ws.length cap] u (AnsV u D Fs x nm k ws)) /\ ∀ args w,(callFunc K args).run Tryz.prog w = .ok (.enter K args) w
theorem zsg {p:List UInt8 × Nat} {l:List (List UInt8 × Nat)} {nm:List UInt8} {K:Nat} (h:((p :: l).find? fun p=>decide (p.1 = nm)).map (·.2) = some K):(p.1 = nm /\ p.2 = K) \/ (l.find? fun p=>decide (p.1 = nm)).map (·.2) = some K:=by
 rw [List.find?_cons] at h;by_cases e:p.1 = nm
 . rw [decide_eq_true e] at h;exact .inl ⟨e,by simpa using h⟩
 . rw [decide_eq_false e] at h;exact .inr h
theorem zu7 {nm:List UInt8} {K:Nat} (h:cmdF nm = some K):∃ k,cmdN nm = some k /\ zuH K nm k:=by
 unfold cmdF cmdL at h;rcases zsg h with ⟨rfl,rfl⟩ | h
 . exact ⟨0,by decide,fun u D Fs x n a ws cap hd=>zuC u D Fs x n a ws cap hd,enters_of Tryz.func51 (by kernel_rfl) rfl⟩
 rcases zsg h with ⟨rfl,rfl⟩ | h
 . exact ⟨0,by decide,fun u D Fs x n a ws cap hd=>ztV u D Fs x n a ws cap hd,enters_of Tryz.func52 (by kernel_rfl) rfl⟩
 rcases zsg h with ⟨rfl,rfl⟩ | h
 . exact ⟨0,by decide,fun u D Fs x n a ws cap hd=>zuz u D Fs x n a ws cap hd,enters_of Tryz.func53 (by kernel_rfl) rfl⟩
 rcases zsg h with ⟨rfl,rfl⟩ | h
 . exact ⟨0,by decide,fun u D Fs x n a ws cap hd=>zuD u D Fs x n a ws cap hd,enters_of Tryz.func54 (by kernel_rfl) rfl⟩
 rcases zsg h with ⟨rfl,rfl⟩ | h
 . exact ⟨0,by decide,fun u D Fs x n a ws cap hd=>zux u D Fs x n a ws cap hd,enters_of Tryz.func55 (by kernel_rfl) rfl⟩
 rcases zsg h with ⟨rfl,rfl⟩ | h
 . exact ⟨3,by decide,fun u D Fs x n a ws cap hd=>zu6 u D Fs x n a ws cap hd,enters_of Tryz.func56 (by kernel_rfl) rfl⟩
 rcases zsg h with ⟨rfl,rfl⟩ | h
 . exact ⟨2,by decide,fun u D Fs x n a ws cap hd=>zu4 u D Fs x n a ws cap hd,enters_of Tryz.func57 (by kernel_rfl) rfl⟩
 rcases zsg h with ⟨rfl,rfl⟩ | h
 . exact ⟨0,by decide,fun u D Fs x n a ws cap hd=>zui u D Fs x n a ws cap hd,enters_of Tryz.func58 (by kernel_rfl) rfl⟩
 rcases zsg h with ⟨rfl,rfl⟩ | h
 . exact ⟨3,by decide,fun u D Fs x n a ws cap hd=>zu2 u D Fs x n a ws cap hd,enters_of Tryz.func7 (by kernel_rfl) rfl⟩
 rcases zsg h with ⟨rfl,rfl⟩ | h
 . exact ⟨0,by decide,fun u D Fs x n a ws cap hd=>ztP u D Fs x n a ws cap hd,enters_of Tryz.func59 (by kernel_rfl) rfl⟩
 rcases zsg h with ⟨rfl,rfl⟩ | h
 . exact ⟨3,by decide,fun u D Fs x n a ws cap hd=>rightX_c u D Fs x n a ws cap hd,enters_of Tryz.func60 (by kernel_rfl) rfl⟩
 rcases zsg h with ⟨rfl,rfl⟩ | h
 . exact ⟨0,by decide,fun u D Fs x n a ws cap hd=>zun u D Fs x n a ws cap hd,enters_of Tryz.func61 (by kernel_rfl) rfl⟩
 rcases zsg h with ⟨rfl,rfl⟩ | h
 . exact ⟨0,by decide,fun u D Fs x n a ws cap hd=>zus u D Fs x n a ws cap hd,enters_of Tryz.func62 (by kernel_rfl) rfl⟩
 cases h
theorem zub {nm:List UInt8} (h:cmdF nm = none):cmdN nm = none:=by
 unfold cmdF at h;rw [Option.map_eq_none_iff,List.find?_eq_none] at h;have h':∀ p ∈ cmdL,p.1 ≠ nm:=fun p hp=>by have:=h p hp;simpa using this
 unfold cmdN;rw [if_neg,if_neg,if_neg]
 . intro e;rcases e with e | e | e | e | e | e | e | e | e
   . exact h' (zbW,58) (by unfold cmdL;simp) e.symm
   . exact h' (zsC,53) (by unfold cmdL;simp) e.symm
   . exact h' (wFed,51) (by unfold cmdL;simp) e.symm
   . exact h' (zsG,55) (by unfold cmdL;simp) e.symm
   . exact h' (zsH,62) (by unfold cmdL;simp) e.symm
   . exact h' (zso,52) (by unfold cmdL;simp) e.symm
   . exact h' (zsx,61) (by unfold cmdL;simp) e.symm
   . exact h' (zsh,59) (by unfold cmdL;simp) e.symm
   . exact h' (zsW,54) (by unfold cmdL;simp) e.symm
 . intro e;exact h' (zsw,57) (by unfold cmdL;simp) e.symm
 . intro e;rcases e with e | e | e
   . exact h' (zc2,7) (by unfold cmdL;simp) e.symm
   . exact h' (zsr,56) (by unfold cmdL;simp) e.symm
   . exact h' (zsn,60) (by unfold cmdL;simp) e.symm
theorem zuA (D:Nat) (s:ByteArray) (u:World) (hs:s.size <= 100000) :
 Calls Tryz.prog 28 #[.pointer (some ⟨D,0,none⟩),.string s] u fun e u'=>e = .returned (((cmdF s.data.toList).map (fnV D)).getD .nilFunc) /\ Ext u u':=by
 have hmf:∀ (fn:Fn) (first cap:Array Value) (w:World),(Instr.makeFunc fn first cap).run Tryz.prog w = .ok (.func fn first cap) w:=fun _ _ _ _=>rfl;obtain ⟨w1,w2,w3,w4,w5,w6,w7,w8,w9,w10,w11,w12,w13,r1,r2,r3,r4,r5,r6,r7,r8,r9,r10,r11,r12,r13,hx,hlk⟩:=zuh u D;have hl:=hlk s (by omega);unfold fnV wFed at r1;unfold fnV zso at r2;unfold fnV zsC at r3;unfold fnV zsW at r4;unfold fnV zsG at r5;unfold fnV zsr at r6;unfold fnV zsw at r7;unfold fnV zbW at r8;unfold fnV zc2 at r9;unfold fnV zsh at r10;unfold fnV zsn at r11;unfold fnV zsx at r12;unfold fnV zsH at r13;have hmm:=@run_makeMap Tryz.prog;generalize ((cmdF s.data.toList).map (fnV D)).getD .nilFunc = v at *;clear hlk;go_enter Tryz.func28,Tryz.ntmps28;go_wp2_with fail;go_ret;exact ⟨rfl,hx⟩
theorem ztI (x:LSt) (nm:List UInt8) (ns:List Int):0 <= (doX x nm ns).1 /\ (doX x nm ns).1 <= 12:=by
 have h1:∀ a b c:Int,0 <= checkI a b c /\ checkI a b c <= 12:=fun a b c=>by
  unfold checkI;repeat' split
  all_goals omega
 have h2:∀ s t x y:Int,0 <= moveI s t x y /\ moveI s t x y <= 12:=fun a b c d=>by
  unfold moveI;repeat' split
  all_goals omega
 have h3:∀ (lo hi:Int) (s:Nat) (r:Row) (a b:Int) (n:Nat),0 <= feedE lo hi s r a b n /\ feedE lo hi s r a b n <= 12:=fun lo hi s r a b n=>by
  unfold feedE;split
  . omega
  . split
    . omega
    . split <;> omega
 have h4:∀ (s:Int) (r:Row),0 <= zdO x.e.lo x.e.hi s r x.e.st /\ zdO x.e.lo x.e.hi s r x.e.st <= 12:=fun s r=>by
  unfold zdO;by_cases e0:s = 0
  . rw [if_pos e0];exact h3 _ _ _ _ _ _ _
  . rw [if_neg e0];by_cases e1:s = 1
    . rw [if_pos e1];exact h3 _ _ _ _ _ _ _
    . rw [if_neg e1];decide
 have h0:∀ (t:List UInt8) (y:LSt),0 <= ((0:Int),t,y).1 /\ ((0:Int),t,y).1 <= 12:=fun _ _=>⟨by show (0:Int) <= 0;decide,by show (0:Int) <= 12;decide⟩
 have h5:∀ (t:List UInt8) (y:LSt),0 <= ((4:Int),t,y).1 /\ ((4:Int),t,y).1 <= 12:=fun _ _=>⟨by show (0:Int) <= 4;decide,by show (4:Int) <= 12;decide⟩
 unfold doX ztd;by_cases q:nm = zc2
 . rw [if_pos q];by_cases q':checkI (nAt ns 0) (nAt ns 1) (nAt ns 2) = 0
   . rw [if_pos q'];exact h0 _ _
   . rw [if_neg q'];exact h1 _ _ _
 rw [if_neg q];clear q;by_cases q:nm = zsr
 . rw [if_pos q];exact h4 0 ⟨nAt ns 0,nAt ns 1,nAt ns 2⟩
 rw [if_neg q];clear q;by_cases q:nm = zsn
 . rw [if_pos q];exact h4 1 ⟨nAt ns 0,nAt ns 1,nAt ns 2⟩
 rw [if_neg q];clear q;by_cases q:nm = zsw
 . rw [if_pos q];exact h2 _ _ _ _
 rw [if_neg q];clear q;by_cases q:nm = zbW
 . rw [if_pos q];exact h0 _ _
 rw [if_neg q];clear q;by_cases q:nm = zsC
 . rw [if_pos q];exact h0 _ _
 rw [if_neg q];clear q;by_cases q:nm = wFed
 . rw [if_pos q];exact h0 _ _
 rw [if_neg q];clear q;by_cases q:nm = zsG
 . rw [if_pos q];exact h0 _ _
 rw [if_neg q];clear q;by_cases q:nm = zsH
 . rw [if_pos q];exact h0 _ _
 rw [if_neg q];clear q;by_cases q:nm = zso
 . rw [if_pos q];exact h0 _ _
 rw [if_neg q];clear q;by_cases q:nm = zsx
 . rw [if_pos q];by_cases q':60000 < (savedT x.e).length
   . rw [if_pos q'];exact h5 _ _
   . rw [if_neg q'];exact h0 _ _
 rw [if_neg q];clear q;by_cases q:nm = zsh
 . rw [if_pos q];by_cases q':60000 < (savedT x.e).length
   . rw [if_pos q'];exact h5 _ _
   . rw [if_neg q'];exact h0 _ _
 rw [if_neg q];clear q;exact h0 _ _
theorem zuk {u u':World} {D:Nat} {Fs:Nat -> Prop} {x:LSt} {nm:List UInt8} {k:Nat} {ws:List ByteArray} {e:Ending} (h:AnsV u D Fs x nm k ws e u') (hk:cmdN nm = some k) :
 ∃ (T:List UInt8) (y:LSt),zsp x (nm :: zsf ws) = (T,y) /\ DkUp u u' D Fs y /\ ((e = .returned (.string ⟨T.toArray⟩)) \/ ∃ c,0 <= c /\ c <= 12 /\ e = zsi c /\ T = errT c):=by
 unfold AnsV argsO at h
 have hl:zsp x (nm :: zsf ws) = if (zsf ws).length = k then (match zs0 (zsf ws) with
  | some n=>ansT (doX x nm n)
  | none=>(errT 3,x)) else (errT 3,x):=by
  unfold zsp;simp only [hk];rfl
 rw [hl];by_cases h1:(zsf ws).length = k
 . rw [if_pos h1] at h ⊢;cases h2:zs0 (zsf ws) with
   | none =>
     rw [h2] at h;exact ⟨_,_,rfl,h.2,.inr ⟨3,by decide,by decide,h.1,rfl⟩⟩
   | some n =>
     rw [h2] at h;obtain ⟨h3,h4⟩:=h;refine ⟨_,_,rfl,h4,?_⟩;by_cases h5:(doX x nm n).1 = 0
     . rw [if_pos h5] at h3;rw [show (if (doX x nm n).1 = 0 then (doX x nm n).2.1 else errT (doX x nm n).1) = (doX x nm n).2.1 from if_pos h5];exact .inl h3
     . rw [if_neg h5] at h3;rw [show (if (doX x nm n).1 = 0 then (doX x nm n).2.1 else errT (doX x nm n).1) = errT (doX x nm n).1 from if_neg h5]
       have:=ztI x nm n
       exact .inr ⟨_,this.1,this.2,h3,rfl⟩
 . rw [if_neg h1] at h ⊢;exact ⟨_,_,rfl,h.2,.inr ⟨3,by decide,by decide,h.1,rfl⟩⟩
theorem DkUp.cell {u w u1 u2:World} {B D:Nat} {Fs:Nat -> Prop} {y:LSt} (hd:∀ k,Fs k -> k < u.heap.size) (hx:Ext u w) (hB:u.heap.size <= B) (hw:B < w.heap.size) (h:DkUp w u1 D Fs y) (hs:ExtM (fun k=>k = B) u1 u2):DkUp u u2 D Fs y:=by
 obtain ⟨h1,Fs',h2,h3⟩:=h;have hX:ExtM Fs u u1:=ExtM.trans _ _ _ (hx.mono (fun _ _ h=>h.elim)) h1;refine ⟨hX.fresh' hs (fun k hk e=>by omega),Fs',h2.keep hs (fun k hk e=>?_),fun k hk=>(h3 k hk).imp id (fun e=>Nat.le_trans hx.size e)⟩;subst e;rcases h3 k hk with e | e
 . have:=hd k e;omega
 . omega
abbrev ztO (c:Int) (r:Bool):FrameMode:=.panicking [{ v:=.iface 67 (.agg #[.int .i64 c]),recovered:=r }]
theorem zta (B:Nat) (c:Int) (v0:Value) (w:World) (hc:w.cell? ⟨B,0,none⟩ = some v0) (hz:w.frozen? ⟨B,0,none⟩ = false) (h0:0 <= c) (h1:c <= 12) (ht:TabP w) :
 CallsD Tryz.prog 24 #[.pointer (some ⟨B,0,none⟩)] (ztO c false) w fun e u' w' =>
  e = .returned (.tuple #[]) /\ u' = ztO c true /\ ∃ w1,Ext w w1 /\ w' = w1.setCell ⟨B,0,none⟩ (.string ⟨(errT c).toArray⟩):=by
 have hit:∀ w1,Ext w w1 -> Calls Tryz.prog 25 #[.int .i64 c] w1 fun e w'=>e = .returned (.string ⟨(Lib.itoa c).toArray⟩) /\ Ext w1 w':=fun w1 hx=>zno c w1 (by omega) (by omega) (TabP.ext ht hx);have hta:∀ w,(Instr.typeAssert (.iface 67 (.agg #[.int .i64 c])) 20 67 true).run Tryz.prog w = .ok (.tuple #[.agg #[.int .i64 c],.bool true]) w:=fun _=>by kernel_rfl
 have lB:=zac hc;refine callsD_of_wpS Tryz.func24 rfl fun c₀ cs hu=>?_;simp only [Tryz.ntmps24,List.size_toArray,List.length_cons,List.length_nil,Nat.reduceAdd,Nat.reduceSub,Array.replicate_succ,Array.replicate_zero,List.push_toArray,List.append_toArray,List.nil_append,List.cons_append];apply wpS_seq;apply wpS_region;simp [wpOpsS,go_sem,recoverD,hu,Exit.thenS];refine wpS_of_wp ?_;clear hu;go_wp2_with (go_at_call 25;refine (hit _ ((ExtM.refl _).alloc _)).mono ?_;rintro e w3 ⟨rfl,hx3⟩;refine Hid.out ?_);refine Lib.hid ?_;have H3:=ExtM.trans _ _ _ ((ExtM.refl w).alloc (.cells #[.int .i64 c] 67)) hx3;have hc3:=(H3.cell (p:=⟨B,0,none⟩) lB id).trans hc;have hz3:=(H3.frozen (p:=⟨B,0,none⟩) lB id).trans hz;have hT:(ByteArray.mk #[101,114,114,111,114,32]) ++ ByteArray.mk (Lib.itoa c).toArray = ByteArray.mk (errT c).toArray:=by
  unfold errT ztR;apply ByteArray.ext;simp
 have hlen:=zsq c (by omega);go_wp2_with fail;cases c₀;exact ⟨rfl,ztO c true,rfl,_,results_none rfl _ _ _,rfl,rfl,_,H3,rfl⟩
theorem zsT (B:Nat) (w:World) :
 CallsD Tryz.prog 24 #[.pointer (some ⟨B,0,none⟩)] .returning w fun e u' w'=>e = .returned (.tuple #[]) /\ u' = .returning /\ w = w':=by
 refine callsD_of_wpS Tryz.func24 rfl fun c₀ cs hu=>?_;simp only [Tryz.ntmps24,List.size_toArray,List.length_cons,List.length_nil,Nat.reduceAdd,Nat.reduceSub,Array.replicate_succ,Array.replicate_zero,List.push_toArray,List.append_toArray,List.nil_append,List.cons_append];apply wpS_seq;apply wpS_region;simp [wpOpsS,go_sem,recoverD,hu,Exit.thenS];refine wpS_of_wp ?_;go_wp2;cases c₀
 simp_all [bodyPostS,results,Tryz.results24]
theorem zs3.tail {w:World} {A:Nat} {s:ByteArray} {ws:List ByteArray} (hA:A < w.heap.size) (h:∀ j (h:j < (s :: ws).length),w.cell? ⟨A,j,none⟩ = some (.string (s :: ws)[j])):zs3 w (some ⟨A,1,none⟩) ws :=
 .inr ⟨A,1,rfl,hA,fun j hj=>by
  have:=h (1 + j) (by rw [List.length_cons];omega)
  rw [this];congr 2;rw [List.getElem_cons]
  simp [show 1 + j - 1 = j by omega]⟩
theorem zu5 (s:ByteArray) (hs:s.size <= 100000) (u:World) (D:Nat) (Fs:Nat -> Prop) (x:LSt) (n:Nat) (hd:DkAt u D Fs x) (hok:DOk x n) (hn:n < 600) (hl:Lib4 u) (hz:NoG Fs) :
 Calls Tryz.prog 11 #[.pointer (some ⟨D,0,none⟩),.string s] u fun e u'=>e = .returned (.string ⟨(zsp x (zse s.data.toList)).1.toArray⟩) /\ DkUp u u' D Fs (zsp x (zse s.data.toList)).2:=by
 have hmf:∀ (fn:Fn) (first cap:Array Value) (w:World),(Instr.makeFunc fn first cap).run Tryz.prog w = .ok (.func fn first cap) w:=fun _ _ _ _=>rfl;have hw0:=fun w=>zuy s w hs;obtain ⟨wl,hwl⟩:∃ wl,wl = zse s.data.toList:=⟨_,rfl⟩
 have hwz:=ztx s.data.toList;have hwn:=zsY s.data.toList;rw [<- hwl] at hwz hwn hw0 ⊢;clear hwl;go_enter_defers Tryz.func11,Tryz.ntmps11;go_wp2_with (go_at_call 26;refine (hw0 _).mono ?_;rintro e w1 ⟨A,ws,hws,rfl,hA,hc,hx1⟩;refine Hid.out ?_);refine Lib.hid ?_;have HX1:=ExtM.trans _ _ _ ((ExtM.refl u).alloc _) hx1;have cB:w1.cell? ⟨u.heap.size,0,none⟩ = some (.string ⟨#[]⟩):=(hx1.cell (p:=⟨u.heap.size,0,none⟩) (by simp) id).trans (by go_simp);have fB:w1.frozen? ⟨u.heap.size,0,none⟩ = false:=(hx1.frozen (p:=⟨u.heap.size,0,none⟩) (by simp) id).trans (by go_simp);have lB:u.heap.size < w1.heap.size:=zac cB;have hFs:=hd.lt;rw [zbA] at hwz hwn;clear hw0 hx1;cases ws with
 | nil =>
   obtain rfl:[] = wl:=hws;go_wp2_with fail;refine leaves_cons (f:=24) (args:=#[.pointer (some ⟨u.heap.size,0,none⟩)]) (by simp) (by simp [go_sem]) ?_;refine (zsT _ _).mono ?_;rintro e u' w'' ⟨rfl,rfl,rfl⟩;have cR:(w1.setCell ⟨u.heap.size,0,none⟩ (.string ⟨#[111,107]⟩)).cell? ⟨u.heap.size,0,none⟩ = some (.string ⟨#[111,107]⟩):=World.cell?_setCell_same _ _ _ cB;simp [Leaves,settle,results,Tryz.results11,go_sem];simp only [cR];exact ⟨_,rfl,rfl,DkUp.cell hFs HX1 (Nat.le_refl _) lB (DkUp.same (hd.ext HX1) (ExtM.refl _)) (ExtM.setCell (M:=fun k=>k = u.heap.size) (ExtM.refl w1) (p:=⟨u.heap.size,0,none⟩) (.inr rfl) _)⟩
 | cons s0 ws =>
   obtain rfl:s0.data.toList :: zsf ws = wl:=hws;have c0:w1.cell? ⟨A,0,none⟩ = some (.string s0):=hc 0 (by simp);have hs0:s0.size <= 100000:=by
    have:=hwz s0.data.toList (List.mem_cons_self ..)
    rw [zbA] at this;omega
   have hdo:=zuA D s0;cases hF:cmdF s0.data.toList with
   | none =>
     rw [hF] at hdo;have hl1:Lib4 w1:=hl.keepM (HX1.mono (fun _ _ h=>h.elim)) hz;have hmu:=fun w (hx:Ext w1 w)=>zs2 3 w (hl1.l.of hx);have hnf:∀ w,(binOp .eql 29 .nilFunc .nilFunc).run Tryz.prog w = .ok (.bool true) w:=fun _=>by kernel_rfl
     go_wp2_with (first
      | (go_at_call 28;refine (hdo _ hs0).mono ?_;rintro e w2 ⟨rfl,hx2⟩)
      | (go_at_call 20;refine (hmu _ (by assumption)).mono ?_;rintro e w3 ⟨rfl,hx3⟩))
     have HX3:=ExtM.trans _ _ _ HX1 (ExtM.trans _ _ _ hx2 hx3);have cB3:=((ExtM.trans _ _ _ hx2 hx3).cell (p:=⟨u.heap.size,0,none⟩) lB id).trans cB;have fB3:=((ExtM.trans _ _ _ hx2 hx3).frozen (p:=⟨u.heap.size,0,none⟩) lB id).trans fB;refine leaves_cons (f:=24) (args:=#[.pointer (some ⟨u.heap.size,0,none⟩)]) (by simp) (by simp [go_sem]) ?_;refine (zta u.heap.size 3 _ w3 cB3 fB3 (by decide) (by decide) (TabP.ext hl.t HX3)).mono ?_;rintro e u' w'' ⟨rfl,rfl,w4,hx4,rfl⟩;have lB3:=zac cB3;have cB4:=(hx4.cell (p:=⟨u.heap.size,0,none⟩) lB3 id).trans cB3;have cR:(w4.setCell ⟨u.heap.size,0,none⟩ (.string ⟨(errT 3).toArray⟩)).cell? ⟨u.heap.size,0,none⟩ = some (.string ⟨(errT 3).toArray⟩):=World.cell?_setCell_same _ _ _ cB4;have hL:zsp x (s0.data.toList :: zsf ws) = (errT 3,x):=by
      unfold zsp;simp only [zub hF]
     rw [hL];generalize errT 3 = T at *;simp [Leaves,settle,results,Tryz.results11,go_sem];simp only [cR];exact ⟨_,rfl,rfl,DkUp.cell hFs (ExtM.trans _ _ _ HX3 hx4) (Nat.le_refl _) (zac cB4) (DkUp.same (hd.ext (ExtM.trans _ _ _ HX3 hx4)) (ExtM.refl _)) (ExtM.setCell (M:=fun k=>k = u.heap.size) (ExtM.refl w4) (p:=⟨u.heap.size,0,none⟩) (.inr rfl) _)⟩
   | some K =>
     obtain ⟨k,hk,hcalls,hent⟩:=zu7 hF;rw [hF] at hdo;have hl1:Lib4 w1:=hl.keepM (HX1.mono (fun _ _ h=>h.elim)) hz;have hfn:∀ (D:Nat) w,(binOp .eql 29 (fnV D K) .nilFunc).run Tryz.prog w = .ok (.bool false) w:=fun _ _=>by kernel_rfl
     have hin:∀ w,Ext w1 w -> ∀ a,zs3 w1 a ws -> DkIn w D Fs x n a ws:=fun w hx a hst=>⟨hd.ext (ExtM.trans _ _ _ HX1 hx),hok,hn,hl1.keepM (hx.mono (fun _ _ h=>h.elim)) hz,hz,hst.of hx,fun y hy=>by
      have h1:=hwz y.data.toList (List.mem_cons_of_mem _ (List.mem_map.2 ⟨y,hy,rfl⟩));rw [zbA] at h1;omega,by
      have h1:(zsf ws).length = ws.length:=List.length_map ..
      rw [List.length_cons] at hwn;omega⟩
     have hcall:=fun w (hx:Ext w1 w) a (hst:zs3 w1 a ws) cap=>(hcalls w D Fs x n a ws cap (hin w hx a hst)).mono (fun e w' h=>zuk h hk);simp only [Option.map_some,Option.getD_some,fnV] at hdo hfn;have hst:ws ≠ [] -> zs3 w1 (some ⟨A,1,none⟩) ws:=fun _=>zs3.tail hA hc;clear hin hcalls;cases ws with
     | nil =>
       go_wp2_with (first
        | (go_at_call 28;refine (hdo _ hs0).mono ?_;rintro e w2 ⟨rfl,hx2⟩)
        | (go_at_fn K;refine (hcall _ (by assumption) _ (.inl rfl) _).mono ?_;refine Hid.out ?_))
       refine Lib.hid ?_;rintro e w3 ⟨T,y,hL,hu,hcase⟩;have HX2:=ExtM.trans _ _ _ HX1 hx2;have hnB:¬ Fs u.heap.size:=fun e=>by have:=hFs _ e;omega
       have lB2:u.heap.size < w2.heap.size:=Nat.lt_of_lt_of_le lB hx2.size;have cB3:=(hu.1.cell (p:=⟨u.heap.size,0,none⟩) lB2 hnB).trans ((hx2.cell (p:=⟨u.heap.size,0,none⟩) lB id).trans cB);have fB3:=(hu.1.frozen (p:=⟨u.heap.size,0,none⟩) lB2 hnB).trans ((hx2.frozen (p:=⟨u.heap.size,0,none⟩) lB id).trans fB);clear hcall hdo hfn hent;rcases hcase with rfl | ⟨c,h0,h12,rfl,rfl⟩
       . go_wp2_with fail;refine leaves_cons (f:=24) (args:=#[.pointer (some ⟨u.heap.size,0,none⟩)]) (by simp) (by simp [go_sem]) ?_;refine (zsT _ _).mono ?_;rintro e u' w'' ⟨rfl,rfl,rfl⟩;rw [hL];have cR:(w3.setCell ⟨u.heap.size,0,none⟩ (.string ⟨T.toArray⟩)).cell? ⟨u.heap.size,0,none⟩ = some (.string ⟨T.toArray⟩):=World.cell?_setCell_same _ _ _ cB3;simp [Leaves,settle,results,Tryz.results11,go_sem];simp only [cR];exact ⟨_,rfl,rfl,DkUp.cell hFs HX2 (Nat.le_refl _) lB2 hu (ExtM.setCell (M:=fun k=>k = u.heap.size) (ExtM.refl w3) (p:=⟨u.heap.size,0,none⟩) (.inr rfl) _)⟩
       . have ht3:TabP w3:=(hl1.keepM (hx2.mono (fun _ _ h=>h.elim)) hz |>.keepM hu.1 hz).t;refine leaves_cons (f:=24) (args:=#[.pointer (some ⟨u.heap.size,0,none⟩)]) (by simp) (by simp [go_sem]) ?_;refine (zta u.heap.size c _ w3 cB3 fB3 h0 h12 ht3).mono ?_;rintro e u' w'' ⟨rfl,rfl,w4,hx4,rfl⟩;rw [hL];have lB3:=zac cB3;have cB4:=(hx4.cell (p:=⟨u.heap.size,0,none⟩) lB3 id).trans cB3;have cR:(w4.setCell ⟨u.heap.size,0,none⟩ (.string ⟨(errT c).toArray⟩)).cell? ⟨u.heap.size,0,none⟩ = some (.string ⟨(errT c).toArray⟩):=World.cell?_setCell_same _ _ _ cB4;generalize errT c = T at *;simp [Leaves,settle,results,Tryz.results11,go_sem];simp only [cR];exact ⟨_,rfl,rfl,DkUp.cell hFs HX2 (Nat.le_refl _) lB2 (hu.after hx4) (ExtM.setCell (M:=fun k=>k = u.heap.size) (ExtM.refl w4) (p:=⟨u.heap.size,0,none⟩) (.inr rfl) _)⟩
     | cons s1 ws =>
       have hst:=hst (by simp)
       go_wp2_with (first
        | (go_at_call 28;refine (hdo _ hs0).mono ?_;rintro e w2 ⟨rfl,hx2⟩)
        | (go_at_fn K;refine (hcall _ (by assumption) _ hst _).mono ?_;refine Hid.out ?_))
       refine Lib.hid ?_;rintro e w3 ⟨T,y,hL,hu,hcase⟩;have HX2:=ExtM.trans _ _ _ HX1 hx2;have hnB:¬ Fs u.heap.size:=fun e=>by have:=hFs _ e;omega
       have lB2:u.heap.size < w2.heap.size:=Nat.lt_of_lt_of_le lB hx2.size;have cB3:=(hu.1.cell (p:=⟨u.heap.size,0,none⟩) lB2 hnB).trans ((hx2.cell (p:=⟨u.heap.size,0,none⟩) lB id).trans cB);have fB3:=(hu.1.frozen (p:=⟨u.heap.size,0,none⟩) lB2 hnB).trans ((hx2.frozen (p:=⟨u.heap.size,0,none⟩) lB id).trans fB);clear hcall hdo hfn hent;rcases hcase with rfl | ⟨c,h0,h12,rfl,rfl⟩
       . go_wp2_with fail;refine leaves_cons (f:=24) (args:=#[.pointer (some ⟨u.heap.size,0,none⟩)]) (by simp) (by simp [go_sem]) ?_;refine (zsT _ _).mono ?_;rintro e u' w'' ⟨rfl,rfl,rfl⟩;rw [hL];have cR:(w3.setCell ⟨u.heap.size,0,none⟩ (.string ⟨T.toArray⟩)).cell? ⟨u.heap.size,0,none⟩ = some (.string ⟨T.toArray⟩):=World.cell?_setCell_same _ _ _ cB3;simp [Leaves,settle,results,Tryz.results11,go_sem];simp only [cR];exact ⟨_,rfl,rfl,DkUp.cell hFs HX2 (Nat.le_refl _) lB2 hu (ExtM.setCell (M:=fun k=>k = u.heap.size) (ExtM.refl w3) (p:=⟨u.heap.size,0,none⟩) (.inr rfl) _)⟩
       . have ht3:TabP w3:=(hl1.keepM (hx2.mono (fun _ _ h=>h.elim)) hz |>.keepM hu.1 hz).t;refine leaves_cons (f:=24) (args:=#[.pointer (some ⟨u.heap.size,0,none⟩)]) (by simp) (by simp [go_sem]) ?_;refine (zta u.heap.size c _ w3 cB3 fB3 h0 h12 ht3).mono ?_;rintro e u' w'' ⟨rfl,rfl,w4,hx4,rfl⟩;rw [hL];have lB3:=zac cB3;have cB4:=(hx4.cell (p:=⟨u.heap.size,0,none⟩) lB3 id).trans cB3;have cR:(w4.setCell ⟨u.heap.size,0,none⟩ (.string ⟨(errT c).toArray⟩)).cell? ⟨u.heap.size,0,none⟩ = some (.string ⟨(errT c).toArray⟩):=World.cell?_setCell_same _ _ _ cB4;generalize errT c = T at *;simp [Leaves,settle,results,Tryz.results11,go_sem];simp only [cR];exact ⟨_,rfl,rfl,DkUp.cell hFs HX2 (Nat.le_refl _) lB2 (hu.after hx4) (ExtM.setCell (M:=fun k=>k = u.heap.size) (ExtM.refl w4) (p:=⟨u.heap.size,0,none⟩) (.inr rfl) _)⟩
attribute [local go_sem] Oper.semAt_some
theorem ztk {a b:ByteArray} (h:a.data.toList = b.data.toList):a = b:=by
 obtain ⟨⟨a⟩⟩:=a;obtain ⟨⟨b⟩⟩:=b;simp only at h;rw [h]
structure ItAt (w:World) (A S V:Nat) (cur:ByteArray):Prop where
 a:w.cell? ⟨A,0,none⟩ = some (.string ⟨#[10]⟩)
 s:w.cell? ⟨S,0,none⟩ = some (.string cur)
 v:w.cell? ⟨V,0,none⟩ = some (.int .i64 0)
 z:w.frozen? ⟨S,0,none⟩ = false
def ItM (A S V:Nat) (k:Nat):Prop:=k = A \/ k = S \/ k = V
theorem ItAt.keep {w w':World} {A S V:Nat} {cur:ByteArray} (h:ItAt w A S V cur) (hx:ExtM (fun k=>¬ ItM A S V k) w w'):ItAt w' A S V cur :=
 ⟨(hx.cell (p:=⟨A,0,none⟩) (zac h.a) (fun e=>e (.inl rfl))).trans h.a,(hx.cell (p:=⟨S,0,none⟩) (zac h.s) (fun e=>e (.inr (.inl rfl)))).trans h.s,
   (hx.cell (p:=⟨V,0,none⟩) (zac h.v) (fun e=>e (.inr (.inr rfl)))).trans h.v,(hx.frozen (p:=⟨S,0,none⟩) (zac h.s) (fun e=>e (.inr (.inl rfl)))).trans h.z⟩
theorem ItAt.ext {w w':World} {A S V:Nat} {cur:ByteArray} (h:ItAt w A S V cur) (hx:Ext w w'):ItAt w' A S V cur:=h.keep (hx.mono fun _ _ e=>e.elim)
theorem zuE (n l A S V:Nat) (hAS:A ≠ S) (hVS:V ≠ S) (hn:1 <= n) (xs:List ByteArray) (s0:ByteArray) (hs0:s0.size <= 30000) (hxs:xs.map (fun x=>x.data.toList) = cut1 10 s0.data.toList) (J:List ByteArray -> World -> Prop) (W1:World)
 (hG:∀ pre W,J pre W -> MaxP W) (hJ:∀ pre W W',J pre W -> ExtM (ItM A S V) W W' -> J pre W')
 (hY:∀ pre x W,J pre W -> (∃ r,xs = pre ++ x :: r) -> YieldAt Fence.wide (n - 1) Tryz.prog l #[.string x] W fun e W'=>e = .returned (.bool true) /\ J (pre ++ [x]) W' /\ ExtM (fun k=>¬ ItM A S V k) W W')
 (h0:J [] W1) (hI:ItAt W1 A S V s0) :
 CallsIn Fence.wide n Tryz.prog 45 #[.func (.yield l) #[] #[],.pointer (some ⟨A,0,none⟩),.pointer (some ⟨S,0,none⟩),.pointer (some ⟨V,0,none⟩)] W1 fun e W'=>(∃ v,e = .returned v) /\ J xs W':=by
 refine callsIn_of_wp Tryz.func45 rfl trivial ?_ rfl;simp only [Tryz.ntmps45,List.size_toArray,List.length_cons,List.length_nil,Nat.reduceAdd,Nat.reduceSub,Array.replicate_succ,Array.replicate_zero,List.push_toArray,List.append_toArray,List.nil_append,List.cons_append];have ia:=hI.a;have is:=hI.s;have iv:=hI.v
 gi_wp2
 gi_loopg [] (s0.size + 1) (fun kx wr=>∃ (pre rest:List ByteArray) (cur:ByteArray),xs = pre ++ rest /\ rest.map (fun x=>x.data.toList) = cut1 10 cur.data.toList /\ cur.size < kx /\ cur.size <= 30000 /\ ItAt wr A S V cur /\ J pre wr)
 case atStart=>exact ⟨[],xs,s0,rfl,hxs,by omega,hs0,hI,h0⟩
 case round =>
  obtain ⟨pre,rest,cur,hx,hr,hk,hc,hi,hj⟩:=hrel;have ia:=hi.a;have is:=hi.s;have iv:=hi.v;have hix:=zu0 cur wr (by omega) (hG _ _ hj);have hIX:=Lib.index cur.data.toList [10];by_cases hm:(10:UInt8) ∈ cur.data.toList
  . obtain ⟨a,r,hcur,hna⟩:=List.eq_append_cons_of_mem hm;have hsz:cur.size = a.length + 1 + r.length:=by
     rw [<- zbA cur,hcur,List.length_append,List.length_cons];omega
    have hr':=hr;rw [hcur,zcA r hna] at hr';rw [hcur,zeQ r hna] at hix;obtain ⟨x,q,rfl,hxa,hq⟩:∃ x q,rest = x :: q /\ x.data.toList = a /\ q.map (fun x=>x.data.toList) = cut1 10 r:=by
     cases rest with
     | nil=>cases hr'
     | cons x q=>exact ⟨x,q,rfl,by simpa using (List.cons.inj hr').1,(List.cons.inj hr').2⟩
    have hxe:cur.extract 0 a.length = x:=ztk (by rw [hxa,ByteArray.data_extract,Array.toList_extract,hcur];simp);have hxr:(cur.extract (a.length + 1) cur.size).data.toList = r:=by
     rw [ByteArray.data_extract,Array.toList_extract,hcur,hsz];simp
    obtain ⟨fn,tmps,assign,body,hy,hR⟩:=hY pre x wr hj ⟨q,hx⟩
    gi_wp2_with (refine ⟨trivial,?_⟩;gi_at_call 47;refine (callsIn_wide.2 hix).mono ?_;rintro e w2 ⟨rfl,rfl⟩)
    refine hR.mono ?_;rintro e W3 ⟨rfl,hj3,hk3⟩;have i3:=hi.keep hk3;have ia3:=i3.a;have is3:=i3.s;have iv3:=i3.v;have iz3:=i3.z;have hle:a.length + 1 <= cur.size:=by omega
    gi_wp2
    gi_roundg (r.length + 1)
    case measure=>omega
    case rel =>
     refine ⟨pre ++ [x],q,cur.extract (a.length + 1) cur.size,by rw [hx];simp,by rw [hq,hxr],?_,?_,?_,hJ _ _ _ hj3 (ExtM.setCell (ExtM.refl W3) (p:=⟨S,0,none⟩) (.inr (.inr (.inl rfl))) _)⟩
     . rw [<- zbA,hxr];omega
     . rw [<- zbA,hxr];omega
     . have hs:ExtM (fun k=>k = S) W3 (W3.setCell ⟨S,0,none⟩ (.string (cur.extract (a.length + 1) cur.size))):=ExtM.setCell (M:=fun k=>k = S) (ExtM.refl W3) (p:=⟨S,0,none⟩) (.inr rfl) _;rw [hsz] at hs ⊢;exact ⟨(hs.cell (p:=⟨A,0,none⟩) (zac ia3) hAS).trans ia3,World.cell?_setCell_same _ _ _ is3,(hs.cell (p:=⟨V,0,none⟩) (zac iv3) hVS).trans iv3,(World.frozen?_setCell _ _ _ _).trans iz3⟩
  . rw [zel hm] at hix;rw [zc0 hm] at hr;obtain ⟨x,rfl,hxc⟩:∃ x,rest = [x] /\ x.data.toList = cur.data.toList:=by
     cases rest with
     | nil=>cases hr
     | cons x q =>
       cases q with
       | nil=>exact ⟨x,rfl,by simpa using hr⟩
       | cons y q=>simp at hr
    obtain rfl:x = cur:=ztk hxc;obtain ⟨fn,tmps,assign,body,hy,hR⟩:=hY pre x wr hj ⟨[],hx⟩
    gi_wp2_with (refine ⟨trivial,?_⟩;gi_at_call 47;refine (callsIn_wide.2 hix).mono ?_;rintro e w2 ⟨rfl,rfl⟩)
    refine hR.mono ?_;rintro e W3 ⟨rfl,hj3,hk3⟩
    gi_wp2
    go_end0;exact ⟨⟨_,rfl⟩,by rw [hx];exact hj3⟩
theorem zuF (s:ByteArray) (w:World):Calls Tryz.prog 8 #[.string s,.string ⟨#[10]⟩] w fun e w' =>
 ∃ A S V,e = .returned (.func (.func 45) #[] #[.pointer (some ⟨A,0,none⟩),.pointer (some ⟨S,0,none⟩),.pointer (some ⟨V,0,none⟩)]) /\ A ≠ S /\ V ≠ S /\ (w.heap.size <= A /\ w.heap.size <= S /\ w.heap.size <= V) /\ ItAt w' A S V s /\ Ext w w':=by
 have hmf:∀ (fn:Fn) (first cap:Array Value) (w:World),(Instr.makeFunc fn first cap).run Tryz.prog w = .ok (.func fn first cap) w:=fun _ _ _ _=>rfl;have hsp:Calls Tryz.prog 21 #[.string s,.string ⟨#[10]⟩,.int .i64 0] w fun e w'=>∃ A S V,e = .returned (.func (.func 45) #[] #[.pointer (some ⟨A,0,none⟩),.pointer (some ⟨S,0,none⟩),.pointer (some ⟨V,0,none⟩)]) /\ A ≠ S /\ V ≠ S /\ (w.heap.size <= A /\ w.heap.size <= S /\ w.heap.size <= V) /\ ItAt w' A S V s /\ Ext w w':=by
  go_enter Tryz.func21,Tryz.ntmps21;go_wp2;go_ret;exact ⟨w.heap.size + 1,w.heap.size,w.heap.size + 1 + 1,rfl,by omega,by omega,⟨by omega,by omega,by omega⟩,⟨by go_simp,by go_simp,by go_simp,by go_simp⟩,(((ExtM.refl w).alloc _).alloc _).alloc _⟩
 go_enter Tryz.func8,Tryz.ntmps8;go_wp2_with (go_at_call 21;refine hsp.mono ?_;rintro e w1 ⟨A,S,V,rfl,h1,h2,h3,h4,h5⟩);go_ret;exact ⟨A,S,V,rfl,h1,h2,h3,h4,h5⟩
open Go.RowKit Go.Plan Go.Lib
theorem zua {P:Program} {w:World} (base:Nat) (t u ty e:TypeId) (i:TypeInfo) (ht:P.underlying t = some (.slice e)) (hu:P.underlying u = some .string) (hi:P.info? e = some i) (hz:i.zero = some (.int .u8 0)) (hsize:i.size = 1) (hby:i.bytes = 1)
 (v:Value) (n:Nat) (xs:List Value) (hown:w.ownsRowF base e 1 v n xs) (s:ByteArray) (h63:n + s.size <= maxLen) (hbytes:n + s.size <= 140737488355328) (hbase:base <= w.heap.size) :
 ∃ v' w',(Builtin.append_ #[t,u] ty #[v,.string s]).run P w = .ok v' w' /\ w'.ownsRowF base e 1 v' (n + s.size) (xs ++ strCells s) /\ w.grownBy w' v.ownBlock /\ ∀ k,v'.ownBlock = some k -> v.ownBlock = some k \/ w.heap.size <= k:=by
 obtain ⟨v',w',hr,h2,h3,-⟩:=run_append_own_stringF (P:=P) w base t u ty e i ht hu hi hz hsize hby v n xs hown s h63 hbytes hbase;refine ⟨v',w',hr,h2,h3,fun k hk=>?_⟩;rcases hown.2 with ⟨rfl,rfl⟩ | ⟨g,cap,cur,fz,rfl,hbg,hg,hfz,hnc,hcm,hcs,htake⟩
 . obtain rfl:xs = []:=List.eq_nil_of_length_eq_zero (by simpa using hown.1);obtain ⟨v2,w2,hr2,h22,-⟩:=run_append_own_stringF (P:=P) w w.heap.size t u ty e i ht hu hi hz hsize hby (.slice none 0 0) 0 [] (World.ownsRowF_nil w w.heap.size e 1) s h63 hbytes (Nat.le_refl _);rw [hr] at hr2;cases hr2;exact .inr (h22.lt k hk).1
 . by_cases hroom:n + s.size <= cap
   . have hx:=run_append_room_stringF (P:=P) w t u ty e i ht hu hi hsize g n cap cur fz hg (by simpa using hfz) s hroom (by omega);rw [hr] at hx;cases hx;exact .inl (by simpa [Value.ownBlock] using hk)
   . have hxl:xs.length = n:=by simpa using hown.1
     have hx:=run_append_grow_string (P:=P) w t u ty e i (.int .u8 0) ht hu hi hz ⟨g,0,none⟩ n cap xs (by rw [hsize];simpa using hxl) (hown.cells (g:=g) rfl) s (by omega) (by simp only [maxLen] at h63;omega) (by rw [hby];exact growslice_fits (by omega) (by omega));rw [hr] at hx;cases hx
     right
     simp [Value.ownBlock] at hk;omega
theorem zsM {P:Program} {w:World} {ops:Array Oper} {rest:List Oper} {o:Oper} {a:Act} {Q:Exit -> Act -> World -> Prop} (hgd:o.guard = none) (sl x:Operand) (t u:TypeId)
 (ho:o.op = .call { callee:=.builtin .append,args:=#[sl,x],argTypes:=#[t,u] })
 (base:Nat) (e:TypeId) (i:TypeInfo) (ht:P.underlying t = some (.slice e)) (hu:P.underlying u = some .string) (hi:P.info? e = some i) (hz:i.zero = some (.int .u8 0)) (hsize:i.size = 1) (hby:i.bytes = 1)
 (v:Value) (n:Nat) (xs:List Value) (hs:a.eval sl = v) (hown:w.ownsRowF base e 1 v n xs) (s:ByteArray) (hx:a.eval x = .string s) (h63:n + s.size <= maxLen) (hbytes:n + s.size <= 140737488355328) (hbase:base <= w.heap.size)
 (h:∀ v' w',w'.ownsRowF base e 1 v' (n + s.size) (xs ++ strCells s) -> w.grownBy w' v.ownBlock -> (∀ k,v'.ownBlock = some k -> v.ownBlock = some k \/ w.heap.size <= k) -> wpList P ops Q rest (a.put o.dst v') w'):wpList P ops Q (o :: rest) a w:=by
 obtain ⟨v',w',hr,h2,h3,h4⟩:=zua (P:=P) base t u o.type e i ht hu hi hz hsize hby v n xs hown s h63 hbytes hbase;refine wpList_plain hgd fun K hK=>?_;unfold Oper.wp execOp;simp only [ho,resolve,invoke,builtin,Sem.run_bind,Sem.run_pure,Result.andThen_ok,List.map_toArray,List.map_cons,List.map_nil,hs,hx,hr];exact hK _ _ (h v' w' h2 h3 h4)
def SBv (B b:Nat) (v:Value) (l:List UInt8) (w:World):Prop:=B <= b /\ (∃ p,(p = .pointer none \/ p = .pointer (some ⟨b,0,none⟩)) /\ w.heap[b]? = some (.cells #[p,v] 34 (0,0))) /\ w.ownsRowF B 5 1 v (Lib.byteCells l).length (Lib.byteCells l) /\ v.ownBlock ≠ some b
theorem SBv.sb {B b:Nat} {v:Value} {l:List UInt8} {w:World} (h:SBv B b v l w):SB B b l w:=by
 obtain ⟨h1,⟨p,rfl | rfl,h2⟩,h3,h4⟩:=h
 . exact .inl ⟨h1,v,h2,h3,h4⟩
 . exact .inr ⟨h1,v,h2,h3,h4⟩
theorem SBv.lt {B b:Nat} {v:Value} {l:List UInt8} {w:World} (h:SBv B b v l w):b < w.heap.size /\ ∀ k,v.ownBlock = some k -> k < w.heap.size:=by
 obtain ⟨h1,⟨p,hp,h2⟩,h3,h4⟩:=h;exact ⟨(Array.getElem?_eq_some_iff.1 h2).1,fun k hk=>(h3.lt k hk).2⟩
theorem SBv.keep {F:Nat -> Prop} {B b:Nat} {v:Value} {l:List UInt8} {w w':World} (h:SBv B b v l w) (hx:ExtM F w w') (hb:¬ F b) (hv:∀ k,v.ownBlock = some k -> ¬ F k):SBv B b v l w':=by
 have hlt:=h.lt;obtain ⟨h1,⟨p,hp,h2⟩,h3,h4⟩:=h;refine ⟨h1,⟨p,hp,(hx.block b hlt.1 hb).trans h2⟩,⟨h3.1,?_⟩,h4⟩;rcases h3.2 with hn | ⟨g,cap,cur,fz,rfl,r1,r2,r3⟩
 . exact .inl hn
 . exact .inr ⟨g,cap,cur,fz,rfl,r1,(hx.block g (hlt.2 g rfl) (hv g rfl)).trans r2,r3⟩
theorem SBv.new (w:World):SBv w.heap.size w.heap.size (.slice none 0 0) [] (w.alloc (.cells #[.pointer none,.slice none 0 0] 34)) :=
 ⟨Nat.le_refl _,⟨_,.inl rfl,World.alloc_heap_new w _⟩,World.ownsRowF_nil _ _ _ _,by simp [Value.ownBlock]⟩
theorem SBv.base {B B' b:Nat} {w:World} (h:SBv B b (.slice none 0 0) [] w) (hB:B' <= B):SBv B' b (.slice none 0 0) [] w:=by
 obtain ⟨h1,h2,h3,h4⟩:=h;exact ⟨Nat.le_trans hB h1,h2,World.ownsRowF_nil _ _ _ _,h4⟩
theorem zuL (B b:Nat) (v:Value) (l:List UInt8) (s:ByteArray) (w:World) (h:SBv B b v l w) (hl:l.length + s.size <= 100000000000000) :
 Calls Tryz.prog 10 #[.pointer (some ⟨b,0,none⟩),.string s] w fun e w'=>e = .returned (.tuple #[.int .i64 s.size,.nilIface]) /\ ∃ v',SBv B b v' (l ++ s.data.toList) w' /\ ExtM (fun k=>k = b \/ v.ownBlock = some k) w w' /\ ∀ k,v'.ownBlock = some k -> v.ownBlock = some k \/ w.heap.size <= k:=by
 obtain ⟨i0,hi,hz0,hz1,hz2⟩:=info_parts wsX.infoByte;have hlt:=h.lt;obtain ⟨hBb,⟨p,hp,hbk⟩,hown,hne⟩:=h;have hcc:Calls Tryz.prog 23 #[.pointer (some ⟨b,0,none⟩)] w fun e w1=>e = .returned (.tuple #[]) /\ ExtM (fun k=>k = b) w w1 /\ w1.heap[b]? = some (.cells #[.pointer (some ⟨b,0,none⟩),v] 34 (0,0)) /\ w1.heap.size = w.heap.size:=by
  have c0:w.cell? ⟨b,0,none⟩ = some p:=by rw [Lib.cell_of_heap hbk];rfl
  rcases hp with rfl | rfl
  . refine (Any.Builder_copyCheck_fresh { wsL with } wsX.toX72 b w c0 (by simp [World.shape?,hbk];rfl) (Lib.frozen_of_heap hbk 0)).mono ?_;rintro e w1 ⟨rfl,rfl⟩;have h1:BuilderAtF 34 5 B b (.pointer none) (Lib.byteCells l) w:=⟨hBb,v,hbk,hown,hne⟩
    obtain ⟨-,v',h2,-,-⟩:=h1.used (.pointer (some ⟨b,0,none⟩));have c1:(w.setCell ⟨b,0,none⟩ (.pointer (some ⟨b,0,none⟩))).cell? ⟨b,1,none⟩ = some v:=(World.cell?_setCell_other _ _ _ _ (by simp)).trans (by rw [Lib.cell_of_heap hbk];rfl);rw [Lib.cell_of_heap h2] at c1;obtain rfl:v' = v:=by simpa using c1
    exact ⟨rfl,ExtM.setCell (M:=fun k=>k = b) (ExtM.refl w) (p:=⟨b,0,none⟩) (.inr rfl) _,h2,by simp⟩
  . refine (Any.Builder_copyCheck_used { wsL with } wsX.toX72 b w c0).mono ?_;rintro e w1 ⟨rfl,rfl⟩;exact ⟨rfl,ExtM.refl _,hbk,rfl⟩
 go_enter Tryz.func10,Tryz.ntmps10;go_wp2_with (go_at_call 23;refine hcc.mono ?_;rintro e w1 ⟨rfl,hx1,hb1,hs1⟩;refine Hid.out ?_);refine Lib.hid ?_;have c0:w1.cell? ⟨b,0,none⟩ = some (.pointer (some ⟨b,0,none⟩)):=by rw [Lib.cell_of_heap hb1];rfl
 have c1:w1.cell? ⟨b,1,none⟩ = some v:=by rw [Lib.cell_of_heap hb1];rfl
 have hown1:w1.ownsRowF B 5 1 v (Lib.byteCells l).length (Lib.byteCells l):=by
  refine ⟨hown.1,?_⟩;rcases hown.2 with hn | ⟨g,cap,cur,fz,rfl,r1,r2,r3⟩
  . exact .inl hn
  . exact .inr ⟨g,cap,cur,fz,rfl,r1,(hx1.block g (hlt.2 g rfl) (fun e=>hne (by rw [<- e];rfl))).trans r2,r3⟩
 have hlen:(Lib.byteCells l).length = l.length:=Lib.byteCells_length l;go_wp2_with (at_builtin;go_must (refine zsM rfl _ _ 32 9 rfl B 5 i0 Tryz.underlying32 Tryz.underlying9 hi hz0 hz1 hz2 _ _ _ rfl hown1 s rfl ?c3 ?c4 ?c5 ?_))
 case c3=>unfold maxLen;omega
 case c4=>omega
 case c5=>omega
 intro v' w2 hown' hgrow hwh;have hb2:w2.heap[b]? = some (.cells #[.pointer (some ⟨b,0,none⟩),v] 34 (0,0)):=(hgrow.block b (by omega) (fun e=>hne e.symm)).trans hb1;have d0:w2.cell? ⟨b,0,none⟩ = some (.pointer (some ⟨b,0,none⟩)):=by rw [Lib.cell_of_heap hb2];rfl
 have d1:w2.cell? ⟨b,1,none⟩ = some v:=by rw [Lib.cell_of_heap hb2];rfl
 have f1:w2.frozen? ⟨b,1,none⟩ = false:=Lib.frozen_of_heap hb2 1;have hcl:Lib.byteCells l ++ Lib.strCells s = Lib.byteCells (l ++ s.data.toList):=by unfold Lib.byteCells Lib.strCells;rw [List.map_append]
 rw [hcl] at hown';have hn2:l.length + s.size = (Lib.byteCells (l ++ s.data.toList)).length:=by
  rw [Lib.byteCells_length,List.length_append,zbA]
 rw [hn2] at hown';have hg2:ExtM (fun k=>k = b \/ v.ownBlock = some k) w1 w2:=⟨hgrow.os,hgrow.tape,hgrow.output,hgrow.size,fun k hk hf=>hgrow.block k hk (fun e=>hf (.inr e.symm))⟩
 have hput:=Lib.BuilderAtF.put (p:=.pointer (some ⟨b,0,none⟩)) (T:=34) (e:=5) hBb hb2 (bs':=Lib.byteCells (l ++ s.data.toList)) hown' (by decide);obtain ⟨-,v2,hb3,hown3,hne3⟩:=hput;have hv2:v2 = v':=by
  have e1:=World.cell?_setCell_same w2 ⟨b,1,none⟩ v' d1;rw [Lib.cell_of_heap hb3] at e1;simpa using e1
 subst hv2;obtain ⟨ao,n',cap,rfl⟩:∃ ao n' cap,v2 = .slice ao n' cap:=by
  rcases hown'.2 with ⟨hv,_⟩ | ⟨g,cap,cur,fz,hv,_⟩
  . exact ⟨_,_,_,hv⟩
  . exact ⟨_,_,_,hv⟩
 go_wp2;go_ret2;exact ⟨rfl,_,⟨hBb,⟨_,.inr rfl,hb3⟩,hown3,hne3⟩,(ExtM.trans _ _ _ (hx1.mono fun _ _ e=>.inl e) hg2).setCell (p:=⟨b,1,none⟩) (.inr (.inl rfl)) _,fun k hk=>(hwh k hk).imp id (fun e=>by omega)⟩
theorem zut {x:LSt} {n:Nat} (h:DOk x n) (hn:n < 600) (nm:List UInt8) (ns:List Int):(doX x nm ns).2.1.length <= 200000000:=by
 obtain ⟨⟨h1,h2⟩,⟨h3,h4⟩,⟨h5,h6⟩,h7⟩:=h.i64 hn;have hV:x.e.V.length <= 400000:=by
  have h1:=h.g.ok.lV;have:n * n <= 600 * 600:=Nat.mul_le_mul (by omega) (by omega);omega
 have hl:x.l.length <= 400000:=by rw [h.g.p.length_eq];exact hV
 have hf:∀ s,s = 0 \/ s = 1 -> ∀ r:Row,(ztd x s r).2.1.length <= 200000000:=fun s hs r=>by
  obtain ⟨hcs,hcl⟩:=zt3 h s hs r;show (fedT (zcR x.e.lo x.e.hi x.e.md s r x.e.st)).length <= 200000000;rw [zt9]
  have:=zsu [44,32] 114 (wFed :: (zcR x.e.lo x.e.hi x.e.md s r x.e.st).map sgnT) (fun l hl=>by
   rcases List.mem_cons.1 hl with rfl | hl
   . decide
   . obtain ⟨y,hy,rfl⟩:=List.mem_map.1 hl
     exact ztc y (hcs y hy))
  rw [List.length_cons,List.length_map] at this;have h2:((zcR x.e.lo x.e.hi x.e.md s r x.e.st).length + 1) * (([44,32]:List UInt8).length + 114) <= 602 * 116:=Nat.mul_le_mul (by omega) (by decide);omega
 have hv:(ztU x.e.V).length <= 200000000:=by
  unfold ztU
  have:=zsu [44,32] 113 ((sortO x.e.V).map outT) (fun l hl=>by
   obtain ⟨y,hy,rfl⟩:=List.mem_map.1 hl
   exact zsF y (h.g.ok.outs y ((zbf x.e.V).mem_iff.1 hy)).o64)
  rw [List.length_map,(zbf x.e.V).length_eq] at this;have h2:x.e.V.length * (([44,32]:List UInt8).length + 113) <= 400000 * 115:=Nat.mul_le_mul hV (by decide);omega
 have hg:(ztK x.l).length <= 200000000:=by
  unfold ztK;have h64:=ztz (l:=x.l) (fun y hy=>h.g.ok.outs y (h.g.p.mem_iff.1 hy)) (by omega)
  have:=zsu [44,32] 114 ((refGs x.l).map grpT) (fun l hl=>by
   obtain ⟨y,hy,rfl⟩:=List.mem_map.1 hl
   exact ztb y (h64 y hy))
  have h3:=ztg x.l;rw [List.length_map] at this;have h2:(refGs x.l).length * (([44,32]:List UInt8).length + 114) <= 400000 * 116:=Nat.mul_le_mul (by omega) (by decide);omega
 have hi:∀ i:Int,(-9223372036854775808 <= i /\ i <= 9223372036854775807) -> (wordsB [i]).length <= 200000000:=fun i hi=>by
  have e:wordsB [i] = Lib.itoa i:=by rw [zhn];simp
  rw [e]
  have:=zsq i hi
  omega
 have ht:∀ a b:Int,(-9223372036854775808 <= a /\ a <= 9223372036854775807) -> (-9223372036854775808 <= b /\ b <= 9223372036854775807) -> (wordsB [a,b]).length <= 200000000:=fun a b ha hb=>Nat.le_trans (zsk a b ha hb) (by decide);have hw:zc2.length <= 200000000 /\ zsw.length <= 200000000 /\ zsh.length <= 200000000 /\ zuu.length <= 200000000:=by decide
 unfold doX;by_cases q:nm = zc2
 . rw [if_pos q];by_cases q':checkI (nAt ns 0) (nAt ns 1) (nAt ns 2) = 0
   . rw [if_pos q'];exact hw.1
   . rw [if_neg q'];exact Nat.zero_le _
 rw [if_neg q];clear q;by_cases q:nm = zsr
 . rw [if_pos q];exact hf 0 (.inl rfl) _
 rw [if_neg q];clear q;by_cases q:nm = zsn
 . rw [if_pos q];exact hf 1 (.inr rfl) _
 rw [if_neg q];clear q;by_cases q:nm = zsw
 . rw [if_pos q];exact hw.2.1
 rw [if_neg q];clear q;by_cases q:nm = zbW
 . rw [if_pos q];exact ht _ _ h3 h4
 rw [if_neg q];clear q;by_cases q:nm = zsC
 . rw [if_pos q];exact ht _ _ h5 h6
 rw [if_neg q];clear q;by_cases q:nm = wFed
 . rw [if_pos q];exact ht _ _ h1 h2
 rw [if_neg q];clear q;by_cases q:nm = zsG
 . rw [if_pos q];exact hi _ h7
 rw [if_neg q];clear q;by_cases q:nm = zsH
 . rw [if_pos q];exact hv
 rw [if_neg q];clear q;by_cases q:nm = zso
 . rw [if_pos q];exact hg
 rw [if_neg q];clear q;by_cases q:nm = zsx
 . rw [if_pos q];by_cases q':60000 < (savedT x.e).length
   . rw [if_pos q'];exact Nat.zero_le _
   . rw [if_neg q'];exact hi _ (by omega)
 rw [if_neg q];clear q;by_cases q:nm = zsh
 . rw [if_pos q];by_cases q':60000 < (savedT x.e).length
   . rw [if_pos q'];exact Nat.zero_le _
   . rw [if_neg q'];exact hw.2.2.1
 rw [if_neg q];exact hw.2.2.2
theorem zt4 (c:Int) (h:0 <= c /\ c <= 12):(errT c).length <= 200000000:=by
 unfold errT
 have:=zsq c (by omega)
 have:ztR.length <= 1000:=by decide
 rw [List.length_append];omega
theorem zto {x:LSt} {n:Nat} (h:DOk x n) (hn:n < 600) (ws:List (List UInt8)):(zsp x ws).1.length <= 200000000:=by
 have h3:=zt4 3 (by decide);have hk:wOk.length <= 200000000:=by decide
 unfold zsp;cases ws with
 | nil=>exact hk
 | cons nm r =>
   simp only;cases cmdN nm with
   | none=>exact h3
   | some k =>
     simp only;by_cases h1:r.length = k
     . rw [if_pos h1];cases zs0 r with
       | none=>exact h3
       | some ns =>
         show (if (doX x nm ns).1 = 0 then (doX x nm ns).2.1 else errT (doX x nm ns).1).length <= 200000000;by_cases h5:(doX x nm ns).1 = 0
         . rw [if_pos h5];exact zut h hn nm ns
         . rw [if_neg h5];exact zt4 _ (ztI x nm ns)
     . rw [if_neg h1];exact h3
end Go.Proofs.YtiknejbcehpmoaaGreatDoor
