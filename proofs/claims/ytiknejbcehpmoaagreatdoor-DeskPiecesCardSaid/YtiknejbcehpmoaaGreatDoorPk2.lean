import Derived.Test.YtiknejbcehpmoaaGreatDoorPk1
import Derived.Lib.FieldsP
import Derived.Lib.Strings
set_option maxRecDepth 100000
set_option maxHeartbeats 8000000
namespace Go.Proofs.YtiknejbcehpmoaaGreatDoor
open Go.Lib
def zse (s:List UInt8):List (List UInt8):=(cut1 32 s).filter fun w=>!w.isEmpty
theorem zts {a:List UInt8} (h:(32:UInt8) ∉ a) (h0:a ≠ []):zse a = [a]:=by
 unfold zse;rw [zc0 h];cases a with
 | nil=>exact absurd rfl h0
 | cons b r=>rfl
theorem ztH {a:List UInt8} (h:(32:UInt8) ∉ a) (h0:a ≠ []) (r:List UInt8):zse (a ++ 32 :: r) = a :: zse r:=by
 unfold zse;rw [zcA r h];cases a with
 | nil=>exact absurd rfl h0
 | cons b r=>rfl
theorem ztl (r:List UInt8):zse (32 :: r) = zse r:=by
 unfold zse;rw [cut1,if_pos rfl];rfl
theorem ztL (s:ByteArray) (pos:Nat) (h:pos < s.size):1 <= (Utf8.decode s pos).2 /\ pos + (Utf8.decode s pos).2 <= s.size /\
 (((Utf8.decode s pos).1 = 32 /\ (Utf8.decode s pos).2 = 1 /\ (s.get! pos).toNat = 32) \/ ((Utf8.decode s pos).1 ≠ 32 /\ ∀ j,j < (Utf8.decode s pos).2 -> (s.get! (pos + j)).toNat ≠ 32)):=by
 unfold Utf8.decode;simp only [Nat.add_zero,Bool.and_eq_true,decide_eq_true_eq,beq_iff_eq,ge_iff_le];have e0:∀ j,j < 1 -> (s.get! pos).toNat ≠ 32 -> (s.get! (pos + j)).toNat ≠ 32:=fun j hj h=>by
  obtain rfl:j = 0:=by omega
  exact h
 split
 . rename_i h1;refine ⟨Nat.le_refl _,h,?_⟩;by_cases hb:(s.get! pos).toNat = 32
   . exact .inl ⟨hb,rfl,hb⟩
   . exact .inr ⟨hb,fun j hj=>e0 j hj hb⟩
 . rename_i h1;have hne:(s.get! pos).toNat ≠ 32:=by omega
   have bad:1 <= 1 /\ pos + 1 <= s.size /\ ((Utf8.runeError = 32 /\ 1 = 1 /\ (s.get! pos).toNat = 32) \/ (Utf8.runeError ≠ 32 /\ ∀ j,j < 1 -> (s.get! (pos + j)).toNat ≠ 32)) :=
    ⟨Nat.le_refl _,h,.inr ⟨by decide,fun j hj=>e0 j hj hne⟩⟩
   split
   . rename_i h2;split
     . rename_i h3;refine ⟨by omega,by omega,.inr ⟨by omega,fun j hj=>?_⟩⟩;rcases (by omega:j = 0 \/ j = 1) with rfl | rfl
       . exact hne
       . omega
     . exact bad
   . split
     . rename_i h2;split
       . rename_i h3;refine ⟨by omega,by omega,.inr ⟨by omega,fun j hj=>?_⟩⟩;rcases (by omega:j = 0 \/ j = 1 \/ j = 2) with rfl | rfl | rfl
         . exact hne
         . omega
         . omega
       . exact bad
     . split
       . rename_i h2;split
         . rename_i h3;refine ⟨by omega,by omega,.inr ⟨by omega,fun j hj=>?_⟩⟩;rcases (by omega:j = 0 \/ j = 1 \/ j = 2 \/ j = 3) with rfl | rfl | rfl | rfl
           . exact hne
           . omega
           . omega
           . omega
         . exact bad
       . exact bad
theorem zt7 (s:ByteArray) (i:Nat) (h:i < s.size):∃ hl:i < s.data.toList.length,s.data.toList[i] = s.get! i:=by
 obtain ⟨⟨l⟩⟩:=s;have hl:i < l.length:=h;refine ⟨hl,?_⟩;show l[i] = (l.toArray)[i]!;rw [getElem!_pos l.toArray i (by simpa using hl)];rfl
theorem zum (s:ByteArray) (i:Nat) (h:i < s.size):s.data.toList.drop i = s.get! i :: s.data.toList.drop (i + 1):=by
 obtain ⟨hl,e⟩:=zt7 s i h;rw [<- e];exact List.drop_eq_getElem_cons hl
def ztj (s:ByteArray) (a b:Nat):List UInt8:=(s.data.toList.drop a).take (b - a)
theorem zsX {s:ByteArray} {a b:Nat} (hb:b <= s.size) (h:∀ j,a <= j -> j < b -> (s.get! j).toNat ≠ 32):(32:UInt8) ∉ ztj s a b:=by
 intro hm;obtain ⟨j,hj,e⟩:=List.getElem_of_mem hm;unfold ztj at hj e;rw [List.length_take,List.length_drop] at hj;rw [List.getElem_take,List.getElem_drop] at e;obtain ⟨hl,e2⟩:=zt7 s (a + j) (by omega);rw [e2] at e;exact h (a + j) (by omega) (by omega) (by rw [e];rfl)
theorem zsS {s:ByteArray} {a b:Nat} (h:a <= b) (_:b <= s.size):s.data.toList.drop a = ztj s a b ++ s.data.toList.drop b:=by
 unfold ztj
 conv=>lhs;rw [<- List.take_append_drop (b - a) (s.data.toList.drop a)]
 rw [List.drop_drop,show a + (b - a) = b by omega]
theorem zt1 {s:ByteArray} {a b:Nat} (h:a < b) (hb:b <= s.size):ztj s a b ≠ []:=by
 intro e
 have:=congrArg List.length e
 unfold ztj at this;rw [List.length_take,List.length_drop,List.length_nil,Array.length_toList] at this;have:s.data.size = s.size:=rfl;omega
theorem zsv (s:ByteArray):∀ (f pos:Nat) (st:Option Nat) (acc:List (Nat × Nat)),s.size <= pos + f -> pos <= s.size -> (∀ a,st = some a -> a < pos /\ ∀ j,a <= j -> j < pos -> (s.get! j).toNat ≠ 32) ->
 (closeSpans s (spansFromP (fun r=>decide (r = 32)) s f pos st acc)).map (fun x=>ztj s x.1 x.2) = acc.map (fun x=>ztj s x.1 x.2) ++ zse (s.data.toList.drop (st.getD pos))
 | f,pos,st,acc,hf,hp,hst=>by
   have hall:s.data.toList.drop s.size = []:=List.drop_eq_nil_of_le (by rw [Array.length_toList];exact Nat.le_refl _);by_cases hlt:pos < s.size
   . obtain ⟨f,rfl⟩:∃ k,f = k + 1:=⟨f - 1,by omega⟩
     obtain ⟨h1,h2,h3⟩:=ztL s pos hlt;unfold spansFromP;rw [if_pos hlt];generalize (Utf8.decode s pos).1 = R at *;generalize (Utf8.decode s pos).2 = K at *;rcases h3 with ⟨rfl,rfl,h3⟩ | ⟨h3,h4⟩
     . have hd:s.data.toList.drop pos = 32 :: s.data.toList.drop (pos + 1):=by
        rw [zum s pos hlt];congr 1;exact UInt8.toNat_inj.1 h3
       rw [if_pos (by decide)];cases st with
       | none =>
         simp only;rw [zsv s f (pos + 1) none acc (by omega) (by omega) (fun a h=>nomatch h)];simp only [Option.getD_none];rw [hd,ztl]
       | some a =>
         obtain ⟨h5,h6⟩:=hst a rfl;simp only;rw [zsv s f (pos + 1) none _ (by omega) (by omega) (fun a h=>nomatch h),List.map_append,List.append_assoc];simp only [Option.getD_none,Option.getD_some,List.map_cons,List.map_nil];rw [zsS (s:=s) (a:=a) (b:=pos) (by omega) (by omega),hd,ztH (zsX (by omega) h6) (zt1 h5 (by omega))];rfl
     . rw [if_neg (by simpa using h3)];cases st with
       | none =>
         simp only
         rw [zsv s f (pos + K) (some pos) acc (by omega) (by omega) (fun a h=>by
          cases h
          exact ⟨by omega,fun j hj1 hj2=>by have:=h4 (j - pos) (by omega);rwa [show pos + (j - pos) = j by omega] at this⟩)]
         rfl
       | some a =>
         obtain ⟨h5,h6⟩:=hst a rfl;simp only
         rw [zsv s f (pos + K) (some a) acc (by omega) (by omega) (fun b h=>by
          cases h
          exact ⟨by omega,fun j hj1 hj2=>by
           by_cases hj:j < pos
           . exact h6 j hj1 hj
           . have:=h4 (j - pos) (by omega);rwa [show pos + (j - pos) = j by omega] at this⟩)]
         rfl
   . obtain rfl:pos = s.size:=by omega
     rw [spansFromP_end _ s f _ _ _ hlt];cases st with
     | none =>
       simp only [closeSpans,Option.getD_none];rw [hall];exact (List.append_nil _).symm
     | some a =>
       obtain ⟨h5,h6⟩:=hst a rfl;simp only [closeSpans,Option.getD_some,List.map_append,List.map_cons,List.map_nil];rw [zsS (s:=s) (a:=a) (b:=s.size) (by omega) (Nat.le_refl _),hall,List.append_nil,zts (zsX (Nat.le_refl _) h6) (zt1 h5 (Nat.le_refl _))]
theorem zsV (s:ByteArray):(goFieldsP (fun r=>decide (r = 32)) s).map (·.data.toList) = zse s.data.toList:=by
 have h:=zsv s s.size 0 none [] (by omega) (by omega) (fun a h=>nomatch h);unfold goFieldsP;rw [List.map_map];refine Eq.trans ?_ (h.trans (by simp));refine List.map_congr_left fun x _=>?_;exact extract_data s x.1 x.2
def sumL (ls:List (List UInt8)):Nat:=(ls.map fun l=>l.length + 1).sum
theorem zsB (l:List UInt8) (ls:List (List UInt8)):sumL (l :: ls) = l.length + 1 + sumL ls:=by simp [sumL]
theorem zsO (c:UInt8) (n:Nat):∀ s:List UInt8,s.length <= n -> sumL (cut1 c s) = s.length + 1:=by
 induction n with
 | zero=>intro s hs;obtain rfl:s = []:=List.eq_nil_of_length_eq_zero (by omega);rfl
 | succ n ih =>
   intro s hs;rcases zc8 c s with h | ⟨a,r,h,rfl⟩
   . rw [zc0 h];simp [sumL]
   . rw [List.length_append,List.length_cons] at hs;rw [zcA r h,zsB,ih r (by omega),List.length_append,List.length_cons];omega
theorem zsZ:∀ ls:List (List UInt8),2 * (ls.filter fun w=>!w.isEmpty).length <= sumL ls
 | []=>Nat.zero_le _
 | l :: ls=>by
   have:=zsZ ls
   rw [zsB];cases l with
   | nil=>simp only [List.filter_cons];simp;omega
   | cons b r=>simp only [List.filter_cons];simp only [List.isEmpty_cons,Bool.not_false,if_true,List.length_cons];omega
theorem zsY (s:List UInt8):2 * (zse s).length <= s.length + 1:=by
 have:=zsZ (cut1 32 s)
 rw [zsO 32 s.length s (Nat.le_refl _)] at this;exact this
theorem ztx (s:List UInt8):∀ w ∈ zse s,w.length <= s.length:=by
 intro w hw;have hm:=(List.mem_filter.1 hw).1;have hs:=zsO 32 s.length s (Nat.le_refl _);have:∀ ls:List (List UInt8),w ∈ ls -> w.length + 1 <= sumL ls:=fun ls=>by
  induction ls with
  | nil=>exact fun h=>nomatch h
  | cons l ls ih =>
    intro h;rw [zsB];rcases List.mem_cons.1 h with rfl | h
    . omega
    . have:=ih h;omega
 have:=this _ hm
 omega
def ztt (ws:List (List UInt8)):Nat:=if 3 <= ws.length then 1 else 0
theorem zug (s:List UInt8):6 * ztt (zse s) <= s.length + 1:=by
 have:=zsY s
 unfold ztt;split <;> omega
def zs5 (ls:List (List UInt8)):Nat:=(ls.map fun s=>ztt (zse s)).sum
theorem ztG (l:List UInt8) (ls:List (List UInt8)):zs5 (l :: ls) = ztt (zse l) + zs5 ls:=by simp [zs5]
theorem ztq:∀ ls:List (List UInt8),6 * zs5 ls <= sumL ls
 | []=>Nat.zero_le _
 | l :: ls=>by
   have:=ztq ls;have:=zug l
   rw [ztG,zsB];omega
def zsI (t:List UInt8):List UInt8:=if t.getLast? = some 10 then t.dropLast else t
def textL (t:List UInt8):List (List UInt8):=cut1 10 (zsI t)
theorem zsR (t:List UInt8):(zsI t).length <= t.length:=by
 unfold zsI;split
 . rw [List.length_dropLast];omega
 . exact Nat.le_refl _
theorem ztY (t:List UInt8):6 * zs5 (textL t) <= t.length + 1:=by
 have h1:=ztq (textL t);have h2:=zsO 10 _ (zsI t) (Nat.le_refl _);have h3:=zsR t;unfold textL at *;omega
theorem ztJ (c:UInt8) (n:Nat):∀ (s t:List UInt8),s.length <= n -> cut1 c (s ++ c :: t) = cut1 c s ++ cut1 c t:=by
 induction n with
 | zero=>intro s t hs;obtain rfl:s = []:=List.eq_nil_of_length_eq_zero (by omega);show cut1 c (c :: t) = [] :: cut1 c t;rw [cut1,if_pos rfl]
 | succ n ih =>
   intro s t hs;rcases zc8 c s with h | ⟨a,r,h,rfl⟩
   . rw [zcA t h,zc0 h];rfl
   . rw [List.length_append,List.length_cons] at hs;rw [List.append_assoc,List.cons_append,zcA _ h,zcA _ h,ih r t (by omega)];rfl
theorem ztD (a b:List UInt8):∃ r,textL (a ++ [10] ++ b) = textL (a ++ [10]) ++ r:=by
 have ha:zsI (a ++ [10]) = a:=by unfold zsI;simp
 unfold textL;rw [ha];cases b with
 | nil=>exact ⟨[],by rw [List.append_nil,List.append_nil,ha]⟩
 | cons x b =>
   have hb:∃ b',zsI (a ++ [10] ++ x :: b) = a ++ 10 :: b':=by
    unfold zsI;split
    . exact ⟨(x :: b).dropLast,by rw [List.dropLast_append_of_ne_nil (by simp),List.append_assoc];rfl⟩
    . exact ⟨x :: b,by rw [List.append_assoc];rfl⟩
   obtain ⟨b',hb⟩:=hb;rw [hb,ztJ 10 _ a b' (Nat.le_refl _)];exact ⟨_,rfl⟩
end Go.Proofs.YtiknejbcehpmoaaGreatDoor
