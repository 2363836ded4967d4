import Derived.Test.YtmcgnnmffeojpabGreatDoorPk45
import Derived.Test.YtmcgnnmffeojpabGreatDoorPk48
import Derived.Test.YtmcgnnmffeojpabGreatDoorPk49
import Derived.Lib.ParseIntBTie
set_option maxRecDepth 100000
set_option maxHeartbeats 8000000
namespace Go.Proofs.YtmcgnnmffeojpabGreatDoor
open Go.RowKit Go.Plan
theorem zsd (n:Int) (w:World) (h0:-9223372036854775808 <= n) (h1:n <= 9223372036854775807) (ht:TabP w) :
 Calls Tryz.prog 77 #[.int .i64 n,.int .i64 10] w fun e w'=>e = .returned (.string ⟨(Lib.itoa n).toArray⟩) /\ Ext w w':=by
 refine (Any.strconv_FormatInt_10 Tryz.shFmt n h0 h1 w ht).mono ?_;rintro e w' ⟨rfl,k,os,rfl⟩;refine ⟨rfl,rfl,rfl,rfl,by simp [Sort.grow,World.drewN],fun k hk _=>?_⟩;simp only [Sort.grow,World.drewN] at hk ⊢;exact Array.getElem?_append_left hk
theorem zqV (l:List UInt8):-9223372036854775808 <= Lib.intSat 64 l /\ Lib.intSat 64 l <= 9223372036854775807:=by
 unfold Lib.intSat;split <;> decide
theorem zrF (s:ByteArray) (w:World) (hs:s.size <= 281474976710656) (hE:ErrP w) :
 Calls Tryz.prog 76 #[.string s,.int .i64 10,.int .i64 64] w fun e w'=>∃ n ev,e = .returned (.tuple #[.int .i64 n,ev]) /\ Ext w w' /\ -9223372036854775808 <= n /\ n <= 9223372036854775807 /\
  ((Lib.atoiAll s.data.toList = .ok n /\ ev = .nilIface) \/ ((∀ m,Lib.atoiAll s.data.toList ≠ .ok m) /\ ∃ t p,ev = .iface t p)):=by
 obtain ⟨⟨t1,p1,h1⟩,t2,p2,h2⟩:=hE;have hq:=Lib.parseIntB_64 s.data.toList;cases hh:Lib.atoiAll s.data.toList with
 | ok n =>
   rw [hh] at hq;refine (Any.strconv_ParseInt_10_at64_ok Tryz.shParse s (by omega) n hq w).mono ?_;rintro e w' ⟨rfl,hw⟩;have hb:=Lib.atoiAll_bounds hh;refine ⟨n,_,rfl,?_,hb.1,hb.2,.inl ⟨rfl,rfl⟩⟩;rcases hw with rfl | ⟨t,rfl⟩
   . exact ExtM.refl _
   . exact zdf (Lib.bytesWorld_below _ _ _)
 | range =>
   rw [hh] at hq;refine (Any.strconv_ParseInt_10_at64_range Tryz.shParse s hs hq _ w h2 (.inr ⟨t2,p2,rfl⟩)).mono ?_;rintro e w' ⟨N,rfl,-,-,hb⟩;exact ⟨_,_,rfl,zdf hb,(zqV _).1,(zqV _).2,.inr ⟨(fun m h=>nomatch h),_,_,rfl⟩⟩
 | _ =>
   rw [hh] at hq;refine (Any.strconv_ParseInt_10_at64_syntax Tryz.shParse s hs hq _ w h1 (.inr ⟨t1,p1,rfl⟩)).mono ?_;rintro e w' ⟨N,rfl,-,-,hb⟩;exact ⟨0,_,rfl,zdf hb,by decide,by decide,.inr ⟨(fun m h=>nomatch h),_,_,rfl⟩⟩
theorem zqq {w w':World} (h:TabP w) (hx:Ext w w'):TabP w':=h.keep (hx.block _ h.lt id)
theorem zrn (s:ByteArray) (w:World) (hs:s.size <= 281474976710656) (hE:ErrP w) (ht:TabP w) :
 Calls Tryz.prog 32 #[.string s] w fun e w'=>e = .returned (.tuple #[.int .i64 (numW s.data.toList),.bool (numO s.data.toList).isSome]) /\ Ext w w':=by
 go_enter Tryz.func32,Tryz.ntmps32;go_wp2_with (go_at_call 76;refine (zrF s _ hs hE).mono ?_;rintro e w1 ⟨n,ev,rfl,hx1,h0,h1,hc⟩;refine Hid.out ?_);refine Lib.hid ?_;rcases hc with ⟨ha,rfl⟩ | ⟨ha,t,p,rfl⟩
 . have ht1:=zqq ht hx1;go_wp2_with (go_at_call 77;refine (zsd n _ h0 h1 ht1).mono ?_;rintro e w2 ⟨rfl,hx2⟩;refine Hid.out ?_);refine Lib.hid ?_;by_cases hq:(⟨(Lib.itoa n).toArray⟩:ByteArray) = s
   . have hv:numW s.data.toList = n:=by
      unfold numW;rw [ha];exact if_pos (by rw [<- hq])
     have hb:(numO s.data.toList).isSome = true:=by
      unfold numO;rw [ha];simp only;rw [if_pos (by rw [<- hq])];rfl
     rw [hq];go_wp2_with fail;go_ret2;exact ⟨by rw [hv,hb];rfl,ExtM.trans _ _ _ hx1 hx2⟩
   . have hv:numW s.data.toList = 0:=by
      unfold numW;rw [ha];exact if_neg (fun h=>hq (by rw [h]))
     have d1:(!Lib.itoa n == s.toList) = true:=by
      rw [ByteArray.toList_eq,Bool.not_eq_true',beq_eq_false_iff_ne];exact fun h=>hq (by rw [h])
     have hb:(numO s.data.toList).isSome = false:=by
      unfold numO;rw [ha];simp only;rw [if_neg (fun h=>hq (by rw [h]))];rfl
     go_wp2_with fail;go_ret2;exact ⟨by rw [hv,hb];rfl,ExtM.trans _ _ _ hx1 hx2⟩
 . have hv:numW s.data.toList = 0:=by
    unfold numW;split
    . rename_i n hn;exact absurd hn (ha n)
    . rfl
   have hb:(numO s.data.toList).isSome = false:=by
    unfold numO;split
    . rename_i n hn;exact absurd hn (ha n)
    . rfl
   go_wp2_with fail;go_ret2;exact ⟨by rw [hv,hb];rfl,hx1⟩
theorem zr9 (s:ByteArray) (w:World) (hs:s.size <= 281474976710656) (hE:ErrP w) (ht:TabP w) :
 Calls Tryz.prog 32 #[.string s] w fun e w'=>∃ b,e = .returned (.tuple #[.int .i64 (numW s.data.toList),.bool b]) /\ Ext w w' :=
 (zrn s w hs hE ht).mono fun _ _ h=>⟨_,h⟩
open Go.RowKit Go.Plan Go.Shelf
def AscP (w : World) : Prop := Lib.TabIs Tryz.prog w "strings.asciiSpace" .u8 Lib.asciiSpaceTab
theorem ascG : Tryz.prog.globalNamed "strings.asciiSpace" = some 0 := by kernel_rfl
theorem AscP.keep {w w':World} (h:AscP w) (hb:w'.heap[0]? = w.heap[0]?):AscP w':=by
 unfold AscP Lib.TabIs World.var? at *;rw [ascG] at *;simp only [Option.bind_some] at *;rw [hb];exact h
def WhP (w:World):Prop:=Lib.WhiteTab 1 w
theorem zrk {w w':World} (h:Ext w w'):Below w.heap.size w w':=⟨h.os,h.tape,h.output,h.size,fun k hk=>h.block k hk id⟩
theorem WhP.ext {w w':World} (h:WhP w) (hx:Ext w w'):WhP w':=WhiteTab_below h (zrk hx)
theorem zrE (s:ByteArray) (w:World) (hs:s.size < 4294967281) (hm:MaxP w) :
 Calls Tryz.prog 30 #[.string s,.string ⟨#[10]⟩] w fun e w'=>∃ l:List ByteArray,l.map (·.data.toList) = cutA s.data.toList /\ e = .returned (.slice (some ⟨w.heap.size,0,none⟩) l.length l.length) /\ w' = w.alloc (.cells (l.map Value.string).toArray 9):=by
 obtain ⟨m,hm⟩:=hm;have hl:=Lib.splitB_all ⟨#[10]⟩ (Nat.le_refl 1) 1 _ s rfl;have hle:=Lib.countB_le ⟨#[10]⟩ (Nat.le_refl 1) s.size s (Nat.le_refl _);have c:=Any.strings_genSplit Tryz.shGen zp2 s ⟨#[10]⟩ 1 (-1) (Lib.countB s ⟨#[10]⟩ + 1) m w hs hm (Nat.le_refl 1) (Nat.le_refl 1) (by decide) (by decide) (by rw [if_pos (by decide)];omega);rw [Nat.add_sub_cancel,hl] at c;have e2:Lib.cellsOf (Lib.splitB ⟨#[10]⟩ 1 (Lib.countB s ⟨#[10]⟩) s) (Lib.countB s ⟨#[10]⟩ + 1) = ((Lib.splitB ⟨#[10]⟩ 1 (Lib.countB s ⟨#[10]⟩) s).map Value.string).toArray:=by rw [<- hl];exact Lib.cellsOf_full _
 rw [e2] at c;go_enter Tryz.func30,Tryz.ntmps30;go_wp2_with (go_at_call 73;refine c.mono ?_;rintro e w' ⟨rfl,hw⟩;rw [hw]);go_ret;refine ⟨_,?_,by rw [hl];rfl,rfl⟩;rw [Lib.splitB_data];rfl
theorem zrs (s:ByteArray) (w:World) (hs:s.size < 4294967281) (ha:AscP w) (hw:WhP w) :
 Calls Tryz.prog 31 #[.string s] w fun e w'=>∃ A,e = .returned (.slice (some ⟨A,0,none⟩) (Lib.fieldsD s.data.toList).length (Lib.fieldsD s.data.toList).length) /\ w.heap.size <= A /\
  w'.ownsRow w.heap.size 9 1 (.slice (some ⟨A,0,none⟩) (Lib.fieldsD s.data.toList).length (Lib.fieldsD s.data.toList).length) (Lib.fieldsD s.data.toList).length ((Lib.fieldsD s.data.toList).map fun x=>Value.string ⟨x.toArray⟩) /\ Ext w w':=by
 refine (Any.strings_Fields_any Tryz.shFields zp2 (by kernel_rfl) ascG s w hs ha hw).mono ?_;rintro e w' ⟨A,h1,h2,h3,h4⟩;exact ⟨A,h1,h2,h3,zdf h4⟩
theorem zrj (s:ByteArray) (w:World) (hs:s.size < 4294967281) (ha:AscP w) (hw:WhP w) :
 Calls Tryz.prog 31 #[.string s] w fun e w'=>∃ (A:Nat) (ws:List ByteArray),ws.map (·.data.toList) = Lib.fieldsD s.data.toList /\ e = .returned (.slice (some ⟨A,0,none⟩) ws.length ws.length) /\ w.heap.size <= A /\ A < w'.heap.size /\
  (∀ (j:Nat) (h:j < ws.length),w'.cell? ⟨A,j,none⟩ = some (.string ws[j])) /\ Ext w w':=by
 refine (zrs s w hs ha hw).mono ?_;rintro e w' ⟨A,h1,h2,h3,h4⟩;refine ⟨A,(Lib.fieldsD s.data.toList).map (fun x=>⟨x.toArray⟩),by rw [List.map_map];exact List.map_id' _,by rw [List.length_map];exact h1,h2,(zaf h3 A rfl).2,fun j h=>?_,h4⟩;rw [List.length_map] at h;rw [World.ownsRow.cellAt h3 j (by omega),List.getElem?_map,List.getElem?_eq_getElem h];simp
def RLAt (w:World) (B:Nat) (v:Value) (x:Option LSt):Prop:=match x with
 | none=>v = .pointer none
 | some x=>∃ R Cs,v = .pointer (some ⟨R,0,none⟩) /\ REAt w R Cs x.e.lo x.e.hi x.e.md x.rs x.l x.e.f0 x.e.f1 /\ ∀ k,Cs k -> B <= k
theorem RLAt.keep {F:Nat -> Prop} {w w':World} {B:Nat} {v:Value} {x:Option LSt} (h:RLAt w B v x) (hx:ExtM F w w') (hF:∀ k,F k -> w.heap.size <= k):RLAt w' B v x:=by
 cases x with
 | none=>exact h
 | some x =>
   obtain ⟨R,Cs,rfl,h1,h2⟩:=h;exact ⟨R,Cs,rfl,h1.keep hx (fun k hk hf=>by have:=h1.lt k hk;have:=hF k hf;omega),h2⟩
def zrY (w:World) (B C:Nat) (v:Value) (x:Option LSt):Prop:=match x with
 | none=>v = .pointer none
 | some x=>∃ R Cs,v = .pointer (some ⟨R,0,none⟩) /\ REAt w R Cs x.e.lo x.e.hi x.e.md x.rs x.l x.e.f0 x.e.f1 /\ ∀ k,Cs k -> B <= k /\ k < C
theorem RLAt.upto {F:Nat -> Prop} {w w':World} {B C:Nat} {v:Value} {x:Option LSt} (h:RLAt w B v x) (hC:w.heap.size <= C) (hx:ExtM F w w') (hF:∀ k,F k -> w.heap.size <= k):zrY w' B C v x:=by
 cases x with
 | none=>exact h
 | some x =>
   obtain ⟨R,Cs,rfl,h1,h2⟩:=h;exact ⟨R,Cs,rfl,h1.keep hx (fun k hk hf=>by have:=h1.lt k hk;have:=hF k hf;omega),fun k hk=>⟨h2 k hk,by have:=h1.lt k hk;omega⟩⟩
theorem RLAt.up {w w' w1:World} {B C R:Nat} {Cs:Nat -> Prop} (y:LSt) (h:RNUp w w' R Cs y.e.lo y.e.hi y.e.md y.rs y.l y.e.f0 y.e.f1) (hB:∀ k,Cs k -> B <= k /\ k < C) (hw:B <= w.heap.size) (hx:Ext w1 w) (h1:w1.heap.size = B):RLAt w' B (.pointer (some ⟨R,0,none⟩)) (some y) /\ Ext w1 w':=by
 obtain ⟨h2,Cs',h3,h4⟩:=h;refine ⟨⟨R,Cs',rfl,h3,fun k hk=>(h4 k hk).elim (fun e=>(hB k e).1) (fun e=>by omega)⟩,⟨h2.os.trans hx.os,h2.tape.trans hx.tape,h2.output.trans hx.output,Nat.le_trans hx.size h2.size,fun k hk _=>?_⟩⟩;exact (h2.block k (Nat.lt_of_lt_of_le hk hx.size) (fun e=>by have:=(hB k e).1;omega)).trans (hx.block k hk id)
def TwoR (w wx:World) (v v':Value) (r s:Row):Prop:=∃ A D,v = .pointer (some ⟨A,0,none⟩) /\ v' = .pointer (some ⟨D,0,none⟩) /\ w.heap.size <= A /\ w.heap.size <= D /\ A ≠ D /\ Ext w wx /\
 wx.cell? ⟨A,0,none⟩ = some (.int .i64 r.k) /\ wx.cell? ⟨A,1,none⟩ = some (.int .i64 r.t) /\ wx.cell? ⟨A,2,none⟩ = some (.int .i64 r.v) /\
 wx.cell? ⟨D,0,none⟩ = some (.int .i64 s.k) /\ wx.cell? ⟨D,1,none⟩ = some (.int .i64 s.t) /\ wx.cell? ⟨D,2,none⟩ = some (.int .i64 s.v)
def zpT (u:World) (s:List UInt8) (r:Ending) (u':World):Prop:=match zpN s with
 | some x=>∃ R Cs,r = .returned (.tuple #[.pointer (some ⟨R,0,none⟩),.int .i64 0]) /\ REAt u' R Cs x.e.lo x.e.hi x.e.md x.rs x.l x.e.f0 x.e.f1 /\ (∀ k,Cs k -> u.heap.size <= k) /\ Ext u u' /\ LOk x 6010
 | none=>r = .returned (.tuple #[.pointer none,.int .i64 3]) /\ Ext u u'
theorem AscP.lt {w:World} (h:AscP w):0 < w.heap.size:=by
 have:=h.cell ascG 0 (by decide)
 unfold World.cell? at this;split at this
 . rename_i hb;exact (Array.getElem?_eq_some_iff.1 hb).1
 . cases this
def RL4 (w:World):Prop:=ErrP w /\ TabP w /\ AscP w /\ WhP w
theorem RL4.ext {w w':World} (h:RL4 w) (hx:Ext w w'):RL4 w':=⟨h.1.keep hx id id,zqq h.2.1 hx,h.2.2.1.keep (hx.block _ h.2.2.1.lt id),h.2.2.2.ext hx⟩
theorem zqE {F:Nat -> Prop} {w w1 w2:World} (h:Ext w w1) (hx:ExtM F w1 w2) (hF:∀ k,F k -> w.heap.size <= k):Ext w w2 :=
 ⟨hx.os.trans h.os,hx.tape.trans h.tape,hx.output.trans h.output,Nat.le_trans h.size hx.size,fun k hk _=>(hx.block k (Nat.lt_of_lt_of_le hk h.size) (fun hf=>by have:=hF k hf;omega)).trans (h.block k hk id)⟩
theorem IR.at {w:World} {C:Nat} {v:Value} {m:List Int} (h:IR w C v m) (h7:7 <= m.length):∃ g cap,v = .slice (some ⟨g,0,none⟩) m.length cap /\ C <= g /\ g < w.heap.size /\ ∀ q,q < m.length -> w.cell? ⟨g,q,none⟩ = some (.int .i64 (nAt m q)):=by
 have hl:=zaf h;obtain ⟨p,cap,rfl,hc⟩:=zaa h;cases p with
 | none =>
   rcases h.2 with ⟨he,h0⟩ | ⟨g,cap',cur,he,-⟩
   . omega
   . cases he
 | some a =>
   have ha:a = ⟨a.block,0,none⟩:=by
    rcases h.2 with ⟨he,h0⟩ | ⟨g,cap',cur,he,-⟩
    . cases he
    . simp only [Value.slice.injEq,Option.some.injEq] at he;rw [he.1]
   rw [ha] at h hl ⊢;obtain ⟨h1,h2⟩:=hl a.block rfl;refine ⟨a.block,cap,rfl,h1,h2,fun q hq=>?_⟩;rw [World.ownsRow.cellAt h q (by omega),List.getElem?_map,List.getElem?_eq_getElem hq];unfold nAt;rw [List.getD_eq_getElem?_getD,List.getElem?_eq_getElem hq];rfl
theorem zrG (m:List Int) (q:Nat):nAt (m ++ [0]) q = nAt m q:=by
 unfold nAt;rw [List.getD_eq_getElem?_getD,List.getD_eq_getElem?_getD];by_cases h:q < m.length
 . rw [List.getElem?_append_left h]
 . rw [List.getElem?_append_right (by omega),show m[q]? = none from List.getElem?_eq_none (by omega)];cases hq:q - m.length with
   | zero=>rfl
   | succ k=>rfl
theorem zpM:∀ (f:Nat) (cur l:List UInt8),(Lib.fieldsGoD f cur l).length <= f + 1 /\ ∀ p ∈ Lib.fieldsGoD f cur l,p.length <= cur.length + l.length
 | 0,cur,l=>by
   unfold Lib.fieldsGoD;split
   . exact ⟨by simp,fun p hp=>nomatch hp⟩
   . exact ⟨by simp,fun p hp=>by rw [List.mem_singleton] at hp;subst hp;omega⟩
 | f + 1,cur,l=>by
   unfold Lib.fieldsGoD;split
   . split
     . exact ⟨by simp,fun p hp=>nomatch hp⟩
     . exact ⟨by simp,fun p hp=>by rw [List.mem_singleton] at hp;subst hp;omega⟩
   . split
     . obtain ⟨h1,h2⟩:=zpM f [] (l.drop (Lib.decodeL l).2);split
       . refine ⟨by rw [List.nil_append];omega,fun p hp=>?_⟩
         have:=h2 p hp
         rw [List.length_drop,List.length_nil] at this;omega
       . refine ⟨by simp only [List.length_append,List.length_singleton];omega,fun p hp=>?_⟩;rcases List.mem_append.1 hp with hp | hp
         . rw [List.mem_singleton] at hp;subst hp;omega
         . have:=h2 p hp
           rw [List.length_drop,List.length_nil] at this;omega
     . obtain ⟨h1,h2⟩:=zpM f (cur ++ l.take (Lib.decodeL l).2) (l.drop (Lib.decodeL l).2);refine ⟨by omega,fun p hp=>?_⟩
       have:=h2 p hp
       rw [List.length_append,List.length_take,List.length_drop] at this;omega
theorem zqz (l:List UInt8):(Lib.fieldsD l).length <= l.length + 2 /\ ∀ p ∈ Lib.fieldsD l,p.length <= l.length:=by
 obtain ⟨h1,h2⟩:=zpM (l.length + 1) [] l;exact ⟨h1,fun p hp=>by have:=h2 p hp;simpa using this⟩
theorem zr2 {LS:List (List (List UInt8))} {i:Nat} {l:List (List UInt8)} (h:LS[i]? = some l):LS.drop i = l :: LS.drop (i + 1):=by
 obtain ⟨hi,rfl⟩:=List.getElem?_eq_some_iff.1 h;exact List.drop_eq_getElem_cons hi
theorem zrb {J:Act -> World -> Prop} {a:Act} {w:World} (R:World -> Prop) (h:R w) (k:∀ w',R w' -> Met J a w'):Met J a w:=k w h
theorem SOk.permR {lo hi md:Int} {st:JSt} {V l:List Out} {f0 f1:Int} (h:SOk ⟨lo,hi,md,st,V,f0,f1⟩) (hp:l.Perm V):SOk ⟨lo,hi,md,st,l,f0,f1⟩ :=
 ⟨h.l0,h.ga,h.gb,h.la,h.lb,fun x hx=>h.v x (hp.mem_iff.1 hx),by show l.length <= _;rw [hp.length_eq];exact h.lv⟩
theorem zqF (w:World) (a b c d:Obj):Plan.ExtF w.heap.size ((w.alloc a).alloc b).drew ((w.alloc c).alloc d).drew:=by
 refine ⟨rfl,rfl,rfl,by simp [World.drew],fun k hk hn=>?_⟩;have hk':k < w.heap.size:=Nat.lt_of_not_le hn;have h1:k < (w.alloc a).heap.size:=by rw [World.size_alloc];omega
 have h2:k < (w.alloc c).heap.size:=by rw [World.size_alloc];omega
 exact ((heap_alloc_old (w.alloc c) d h2).trans (heap_alloc_old w c hk')).trans ((heap_alloc_old (w.alloc a) b h1).trans (heap_alloc_old w a hk')).symm
theorem zrW (w:World) (r s:Row) (t:TypeId):TwoR w ((w.alloc (.cells #[.int .i64 r.k,.int .i64 r.t,.int .i64 r.v] t)).alloc (.cells #[.int .i64 s.k,.int .i64 s.t,.int .i64 s.v] t)).drew (.pointer (some ⟨w.heap.size,0,none⟩)) (.pointer (some ⟨w.heap.size + 1,0,none⟩)) r s :=
 ⟨_,_,rfl,rfl,Nat.le_refl _,Nat.le_succ _,by omega,(((ExtM.refl w).alloc _).alloc _).drew,by go_simp,by go_simp,by go_simp,by go_simp,by go_simp,by go_simp⟩
theorem zsc (w:World) (r s:Row) (t:TypeId):TwoR w ((w.alloc (.cells #[.int .i64 s.k,.int .i64 s.t,.int .i64 s.v] t)).alloc (.cells #[.int .i64 r.k,.int .i64 r.t,.int .i64 r.v] t)).drew (.pointer (some ⟨w.heap.size + 1,0,none⟩)) (.pointer (some ⟨w.heap.size,0,none⟩)) r s :=
 ⟨_,_,rfl,rfl,Nat.le_succ _,Nat.le_refl _,by omega,(((ExtM.refl w).alloc _).alloc _).drew,by go_simp,by go_simp,by go_simp,by go_simp,by go_simp,by go_simp⟩
theorem zr1 (q k t v:Int) (w:World) (hq:-9223372036854775808 <= q /\ q <= 9223372036854775807):Calls Tryz.prog 34 #[.int .i64 (IntKind.i64.wrap (q - 1)),.agg #[.int .i64 k,.int .i64 t,.int .i64 v]] w fun e w' =>
 e = .returned (.agg #[.int .i64 (zpQ (q - 1) ⟨k,t,v⟩).key,.int .i64 (zpQ (q - 1) ⟨k,t,v⟩).l.k,.int .i64 (zpQ (q - 1) ⟨k,t,v⟩).l.t,.int .i64 (zpQ (q - 1) ⟨k,t,v⟩).l.v,.int .i64 (zpQ (q - 1) ⟨k,t,v⟩).r.k,.int .i64 (zpQ (q - 1) ⟨k,t,v⟩).r.t,.int .i64 (zpQ (q - 1) ⟨k,t,v⟩).r.v,.bool (zpQ (q - 1) ⟨k,t,v⟩).hl,.bool (zpQ (q - 1) ⟨k,t,v⟩).hr]) /\ Ext w w':=by
 have h:=zkl (IntKind.i64.wrap (q - 1)) k t v w;unfold zpQ;by_cases h1:q = 1
 . subst h1;exact h
 . have e1:¬ IntKind.i64.wrap (q - 1) = 0:=by rw [IntKind.wrap_i64];omega
   rw [if_neg e1] at h;rw [if_neg (show ¬ q - 1 = 0 by omega)];exact h
theorem zrM {u:World} (s:ByteArray) (hs:s.size <= 3000) (hm:MaxP u) (hL:RL4 u) :
 Calls Tryz.prog 5 #[.string s] u fun e u'=>zpT u s.data.toList e u':=by
 have hsz:s.data.toList.length = s.size:=by rw [Array.length_toList];rfl
 have haf:=zrE s u (by omega) hm;go_enter Tryz.func5,Tryz.ntmps5;go_wp2_with (go_at_call 30;refine haf.mono ?_;rintro e w1 ⟨ls,hls,rfl,rfl⟩;refine Hid.out ?_);refine Lib.hid ?_;have hcell:=zib u ls;have hx1:Ext u (u.alloc (.cells (ls.map Value.string).toArray 9)):=(ExtM.refl _).alloc _;have hbl:u.heap.size < (u.alloc (.cells (ls.map Value.string).toArray 9)).heap.size:=by rw [World.size_alloc];omega
 have hln:ls.length <= 3002 /\ ∀ x ∈ ls,x.size <= 3000:=by
  have h9:=zqi [10] 1 (Lib.count s.data.toList [10]) s.data.toList;have h8:Lib.splitK [10] 1 (Lib.count s.data.toList [10]) s.data.toList = cutA s.data.toList:=rfl;have h7:=Lib.count_le s.data.toList [10];rw [h8,<- hls] at h9;rw [List.length_map] at h9;refine ⟨by omega,fun x hx=>?_⟩
  have:=h9.2 _ (List.mem_map.2 ⟨x,hx,rfl⟩)
  rw [zbA] at this;omega
 have HLS:=Lib.hid hls;clear hls haf;generalize u.alloc (.cells (ls.map Value.string).toArray 9) = w1 at *;have hL1:=hL.ext hx1;go_upto_block 0 with fail;generalize hB:w1.heap.size = B at *;have HB:=Lib.hid hB;clear hB;obtain ⟨LS,hLS⟩:∃ LS:List (List (List UInt8)),LS = ls.map (fun x=>Lib.fieldsD x.data.toList):=⟨_,rfl⟩
 go_cut [5] (fun s5 wx=>∃ x:Option LSt,Ext w1 wx /\ RLAt wx B s5 x /\ goR LS none = some x /\ ∀ z,x = some z -> LOk z 6010)
 case first =>
  go_wp2_with fail;go_loopg [5,23] (ls.length + 1) (fun kx s5 s23 wr=>∃ (i:Nat) (x:Option LSt),s23 = .int .i64 i /\ i <= ls.length /\ ls.length - i <= kx /\ Ext w1 wr /\ RLAt wr B s5 x /\ goR (LS.drop i) x = goR LS none /\ ∀ z,x = some z -> LOk z (2 * i))
  case atStart=>exact ⟨0,none,rfl,by omega,by omega,ExtM.refl _,rfl,rfl,(fun z h=>nomatch h)⟩
  case round =>
   obtain ⟨i,x,rfl,hi,hgo,hX,hR,hG,hok⟩:=hrel;by_cases him:i < ls.length
   . have hcr:=(hX.cell (p:=⟨u.heap.size,i,none⟩) (by have:=HB.out;show u.heap.size < _;omega) id).trans (hcell i him);have hxs:=hln.2 _ (List.getElem_mem him);have hLi:LS[i]? = some (Lib.fieldsD ls[i].data.toList):=by rw [hLS];simp [him]
     rw [zr2 hLi] at hG;have hLr:=hL1.ext hX;go_upto_block 1 with fail;go_cut [5] (fun s5 wx=>∃ y:Option LSt,goR (LS.drop (i + 1)) y = goR LS none /\ RLAt wx B s5 y /\ Ext w1 wx /\ ∀ z,y = some z -> LOk z (2 * (i + 1)))
     case rest =>
      obtain ⟨y',hy,hR',hX',hok'⟩:=hcut;go_wp2_with fail;go_roundg (ls.length - (i + 1))
      case measure=>omega
      case rel=>exact ⟨i + 1,y',by go_num,by omega,Nat.le_refl _,hX',hR',hy,hok'⟩
     generalize ls[i] = y at *;have hfw:=zrj y wr (by omega) hLr.2.2.1 hLr.2.2.2;go_wp2_with (go_at_call 31;refine hfw.mono ?_;rintro e w3 ⟨A,ws,hws,rfl,hA,hA3,hwc,hx3⟩;refine Hid.out ?_);refine Lib.hid ?_;rw [<- hws] at hG;have HWS:=Lib.hid hws;clear hws hfw hcr hLi;have hX3:Ext w1 w3:=ExtM.trans _ _ _ hX hx3;have hR3:=hR.keep hx3 (fun k h=>h.elim);cases ws with
     | nil =>
       rw [List.map_nil,zrq] at hG;simp only [List.length_nil];go_wp2_with fail;go_meet
       case rel=>exact ⟨x,hX3,hR3,hG.symm,fun z hz=>(hok z hz).mono (by omega)⟩
     | cons nm ws =>
       rw [List.map_cons] at hG;simp only [List.length_cons];have hwl:ws.length <= 3002 /\ ∀ z ∈ ws,z.size <= 3000:=by
        obtain ⟨f1,f2⟩:=zqz y.data.toList;rw [<- HWS.out] at f1 f2;rw [zbA] at f1 f2;simp only [List.map_cons,List.length_cons,List.length_map] at f1;refine ⟨by omega,fun z hz=>?_⟩
        have:=f2 _ (List.mem_map.2 ⟨z,List.mem_cons_of_mem _ hz,rfl⟩)
        rw [zbA] at this;omega
       have hw0:w3.cell? ⟨A,0,none⟩ = some (.string nm):=hwc 0 (by simp);have hwj:∀ (j:Nat) (h:j < ws.length),w3.cell? ⟨A,1 + j,none⟩ = some (.string ws[j]):=fun j h=>by
        have:=hwc (j + 1) (by simpa using h)
        rw [show 1 + j = j + 1 by omega];exact this
       have hL3:=hLr.ext hx3;clear hwc HWS hLr;go_upto_region 9 with fail;go_cut [33,34,35] (fun s33 s34 s35 wx=>∃ o,s33 = .slice (some ⟨A,o,none⟩) ws.length ws.length /\ s34 = .int .i64 ws.length /\ s35 = .int .i64 0 /\ (0 < ws.length -> o = 1) /\ wx = w3)
       case first =>
        as_aux_lemma =>
        by_cases h0:ws.length = 0
        . obtain rfl:ws = []:=List.eq_nil_of_length_eq_zero h0;simp only [List.length_nil];go_wp2_with fail;go_meet
          case rel=>exact ⟨0,rfl,rfl,rfl,fun h=>absurd h (by decide),rfl⟩
        . have h0':¬ 1 = ws.length + 1:=by omega
          go_wp2_with fail;go_meet
          case rel=>exact ⟨1,rfl,rfl,rfl,fun _=>rfl,rfl⟩
       case rest =>
        obtain ⟨o,rfl,rfl,rfl,ho,rfl⟩:=hcut;rename World=>w3;generalize hC:w3.heap.size = C at *;have HC:=Lib.hid hC;clear hC;have HWR:=Lib.hid (show wr.heap.size <= C by have:=hx3.size;have:=HC.out;omega);go_upto_block 2 with fail;go_cut [9] (fun s9 wx=>IR wx C s9 (ws.map (fun z=>numW z.data.toList)) /\ Ext w3 wx)
        case first =>
         as_aux_lemma =>
         go_wp2_with fail;go_loopg [9,35] (ws.length + 1) (fun kx s9 s35 w4=>∃ (j:Nat) (n:List Int),s35 = .int .i64 j /\ j <= ws.length /\ ws.length - j <= kx /\ n = (ws.take j).map (fun z=>numW z.data.toList) /\ n.length = j /\ IR w4 C s9 n /\ Ext w3 w4)
         case atStart=>exact ⟨0,[],rfl,by omega,by omega,rfl,rfl,⟨rfl,.inl ⟨rfl,rfl⟩⟩,ExtM.refl _⟩
         case round =>
          obtain ⟨j,n,rfl,hj,hgk,hn,hnj,hir,hX4⟩:=hrel;by_cases hjl:j < ws.length
          . have hyc:=(hX4.cell (p:=⟨A,1 + j,none⟩) (by have:=HC.out;show A < _;omega) id).trans (hwj j hjl);have ho1:o = 1:=ho (by omega);have hys:=hwl.2 _ (List.getElem_mem hjl)
            have HTK:Hid ((ws.take (j + 1)).map (fun z=>numW z.data.toList) = n ++ [numW ws[j].data.toList]):=Lib.hid (by
             rw [List.take_succ_eq_append_getElem hjl,List.map_append,hn];rfl)
            have hL4:=hL3.ext hX4;generalize ws[j] = z at *;have hnc:=zr9 z wr (by omega) hL4.1 hL4.2.1;have HNJ:=Lib.hid hnj;clear hn hnj;subst ho1;go_wp2_with (go_at_call 32;refine hnc.mono ?_;rintro e w5 ⟨b,rfl,hx5⟩;refine Hid.out ?_);refine Lib.hid ?_;clear hnc hyc hL4;have hir5:IR w5 C u9 n:=zag hir hx5 (fun _ _ h=>h);have hX5:Ext w3 w5:=ExtM.trans _ _ _ hX4 hx5;have hC5:C <= w5.heap.size:=by have:=hX5.size;have:=HC.out;omega
            generalize numW z.data.toList = k at *;obtain ⟨v',w',happ,hir',hxr,hloc⟩:=zbe (w5.alloc (.cells #[.int .i64 k] 3)) C w5.heap.size 1 u9 n [k] 81 (zag hir5 ((ExtM.refl _).alloc _:Ext w5 _) (fun _ _ h=>h))
             (fun q v hq=>(World.cell?_alloc_at _ _ _ q rfl).trans (by simpa using hq)) (by have:=HNJ.out;simp only [List.length_cons,List.length_nil];omega) (by rw [World.size_alloc];omega)
            have hxc:ExtM (fun k=>C <= k) w5 w':=(((ExtM.refl _).alloc _:Ext w5 _).mono (fun _ _ h=>h.elim)).fresh' hxr (fun k hk e=>(zaf hir5 k e).1);have hX':Ext w3 w':=zqE hX5 hxc (fun k hk=>by rw [HC.out];exact hk);obtain ⟨pv,cv,hpv,-⟩:=zaa hir5;have HALL:=Lib.hid (⟨hir',hX'⟩:_ /\ _);subst hpv;clear hir' hX' hxr hloc hxc hir5 hX5 hx5 hir hX4;go_wp2_with (at_builtin;refine wpList_append_run happ rfl rfl _ _ rfl rfl rfl ?_;clear happ);go_roundg (ws.length - (j + 1))
            case measure=>omega
            case rel =>
             obtain ⟨q1,q2⟩:=HALL.out;exact ⟨j + 1,n ++ [k],by go_num,by omega,Nat.le_refl _,HTK.out.symm,by simp [HNJ.out],q1,q2⟩
          . obtain rfl:j = ws.length:=by omega
            have hz:decide (ws.length < ws.length) = false:=by simp
            have hz2:decide ((ws.length:Int) < ws.length) = false:=by simp
            rw [List.take_length] at hn;subst hn;go_wp2_with fail;go_meet
            case rel=>exact ⟨hir,hX4⟩
        case rest =>
         obtain ⟨hir,hX4⟩:=hcut;obtain ⟨ns,hns⟩:∃ ns:List Int,ns = ws.map (fun z=>numW z.data.toList):=⟨_,rfl⟩
         have hnl:ns.length <= 3002:=by rw [hns,List.length_map];exact hwl.1
         have hn64:I64s ns:=fun q hq=>by
          rw [hns] at hq;obtain ⟨z,-,rfl⟩:=List.mem_map.1 hq;exact zq9 _
         have hnm:(ws.map (fun x=>x.data.toList)).map numW = ns:=by rw [hns,List.map_map];rfl
         rw [<- hns] at hir;have HNM:=Lib.hid hnm;clear hns hnm hwl hwj ho;have hX14:Ext w1 wc:=ExtM.trans _ _ _ hX3 hX4;have hXr:ExtM (fun k=>C <= k) wr wc:=(ExtM.trans _ _ _ hx3 hX4:Ext wr wc).mono (fun _ _ h=>h.elim);have hwc0:=(hX4.cell (p:=⟨A,0,none⟩) (by have:=HC.out;show A < _;omega) id).trans hw0;have hCc:C <= wc.heap.size:=by have:=hX4.size;have:=HC.out;omega
         have hBC:B <= C:=by have:=HB.out;have:=HC.out;have:=hX3.size;omega
         clear hw0 hX3 hR3 hL3 hX;rename World=>w4;clear hX4;go_upto_block 4 with fail;go_cut [9] (fun s9 wx=>∃ m:List Int,IR wx C s9 m /\ 7 <= m.length /\ m.length <= 3010 /\ (∀ q,nAt m q = nAt ns q) /\ I64s m /\ ExtM (fun k=>C <= k) w4 wx)
         case first =>
          as_aux_lemma =>
          go_wp2_with fail;go_loopg [9] 8 (fun kx s9 w5=>∃ m:List Int,7 - m.length <= kx /\ m.length <= 3010 /\ IR w5 C s9 m /\ (∀ q,nAt m q = nAt ns q) /\ I64s m /\ ExtM (fun k=>C <= k) w4 w5)
          case atStart=>exact ⟨ns,by omega,by omega,hir,fun _=>rfl,hn64,ExtM.refl _⟩
          case round =>
           obtain ⟨m,hk,hm10,hir5,hmq,hm64,hX5⟩:=hrel;obtain ⟨p5,cv5,hpv,-⟩:=zaa hir5;subst hpv;by_cases hm7:m.length < 7
           . have z1:decide (m.length < 7) = true:=by simp;omega
             have z2:decide ((m.length:Int) < 7) = true:=by simp;omega
             have hC5:C <= wr.heap.size:=by have:=hX5.size;omega
             obtain ⟨v',w',happ,hir',hxr,hloc⟩:=zbe (wr.alloc (.cells #[.int .i64 0] 3)) C wr.heap.size 1 _ m [0] 81 (zag hir5 ((ExtM.refl _).alloc _:Ext wr _) (fun _ _ h=>h))
              (fun q v hq=>(World.cell?_alloc_at _ _ _ q rfl).trans (by simpa using hq)) (by simp only [List.length_cons,List.length_nil];omega) (by rw [World.size_alloc];omega)
             have hxc:ExtM (fun k=>C <= k) wr w':=(((ExtM.refl _).alloc _:Ext wr _).mono (fun _ _ h=>h.elim)).fresh' hxr (fun k hk e=>(zaf hir5 k e).1);have hX':ExtM (fun k=>C <= k) w4 w':=ExtM.trans _ _ _ hX5 hxc;have HALL:=Lib.hid (⟨hir',hX'⟩:_ /\ _);clear hir' hX' hxr hloc hxc hir5 hX5;go_wp2_with (at_builtin;refine wpList_append_run happ rfl rfl _ _ rfl rfl rfl ?_;clear happ);go_roundg (7 - (m.length + 1))
             case measure=>omega
             case rel =>
              obtain ⟨q1,q2⟩:=HALL.out;refine ⟨m ++ [0],by simp,by simp;omega,q1,fun q=>(zrG m q).trans (hmq q),fun z hz=>?_,q2⟩;rcases List.mem_append.1 hz with hz | hz
              . exact hm64 z hz
              . rw [List.mem_singleton] at hz;subst hz;decide
           . have z1:decide (m.length < 7) = false:=by simp;omega
             have z2:decide ((m.length:Int) < 7) = false:=by simp;omega
             go_wp2_with fail;go_meet
             case rel=>exact ⟨m,hir5,by omega,hm10,hmq,hm64,hX5⟩
         case rest =>
          obtain ⟨m,hir5,hm7,hm10,hmq,hm64,hX5⟩:=hcut;obtain ⟨g,cap,rfl,hCg,hgw,hgc⟩:=hir5.at hm7;have hn:∀ q,q < 7 -> wc.cell? ⟨g,q,none⟩ = some (.int .i64 (nAt ns q)):=fun q hq=>by
           rw [<- hmq q];exact hgc q (by omega)
          have c0:=hn 0 (by decide);have c1:=hn 1 (by decide);have c2:=hn 2 (by decide);have c3:=hn 3 (by decide);have c4:=hn 4 (by decide);have c5:=hn 5 (by decide);have c6:=hn 6 (by decide);have b0:0 < m.length:=by omega
          have b1:1 < m.length:=by omega
          have b2:2 < m.length:=by omega
          have b3:3 < m.length:=by omega
          have b4:4 < m.length:=by omega
          have b5:5 < m.length:=by omega
          have b6:6 < m.length:=by omega
          have hnmc:=(hX5.cell (p:=⟨A,0,none⟩) (by show A < _;omega) (show ¬ C <= A by omega)).trans hwc0;have hRc5:zrY wc B C u5 x:=hR.upto (by have:=HWR.out;omega) (ExtM.trans _ _ _ hXr hX5) (fun k hk=>by have:C <= k:=hk;have:=HWR.out;omega);have hgC:=Lib.hid hCg;have hXc:Ext w1 wc:=zqE hX14 hX5 (fun k hk=>by have:=HB.out;omega);have hbad:zpL nm.data.toList ns x = none -> ∀ w',Ext u w' -> zpT u s.data.toList (.returned (.tuple #[.pointer none,.int .i64 3])) w':=fun h w' hw'=>by
           have hg:goR LS none = none:=by rw [<- hG];exact zrJ (by rw [HNM.out];exact h) _
           unfold zpT zpN;rw [show (cutA s.data.toList).map Lib.fieldsD = LS by rw [<- HLS.out,hLS,List.map_map];rfl,hg];exact ⟨rfl,hw'⟩
          have hXu:Ext u wc:=ExtM.trans _ _ _ hx1 hXc;have HGc:=Lib.hid (⟨hgc,hn⟩:_ /\ _);clear hgc hn hXr hX5 hX14 hwc0 hir hR hir5;go_upto_region 17 with fail;go_cut [62] (fun s62 wx=>∃ b:Bool,s62 = .bool b /\ wx = wc /\ (b = true -> zpL nm.data.toList ns x = none) /\ (b = false -> x = none -> nm.data.toList = zc2))
          case first =>
           as_aux_lemma =>
           by_cases hp:nm.toList = [112,108,97,110]
           . cases x with
             | none =>
               obtain rfl:u5 = .pointer none:=hRc5;go_wp2_with fail;go_meet
               case rel=>exact ⟨false,rfl,rfl,(fun h=>nomatch h),fun _ _=>by rw [<- ByteArray.toList_eq];exact hp⟩
             | some x =>
               obtain ⟨R,Cs,rfl,hR1,hR2⟩:=hRc5;go_wp2_with fail;go_meet
               case rel=>exact ⟨false,rfl,rfl,(fun h=>nomatch h),fun _ h=>nomatch h⟩
           . have hp':(nm.toList == [112,108,97,110]) = false:=by rw [beq_eq_false_iff_ne];exact hp
             cases x with
             | none =>
               obtain rfl:u5 = .pointer none:=hRc5;go_wp2_with fail;go_meet
               case rel=>exact ⟨true,rfl,rfl,fun _=>by unfold zpL;rw [if_neg (by rw [<- ByteArray.toList_eq];exact hp)],fun h=>nomatch h⟩
             | some x =>
               obtain ⟨R,Cs,rfl,hR1,hR2⟩:=hRc5;go_wp2_with fail;go_meet
               case rel=>exact ⟨false,rfl,rfl,(fun h=>nomatch h),fun _ h=>nomatch h⟩
          case rest =>
           obtain ⟨b,rfl,rfl,hb1,hb2⟩:=hcut;cases b with
           | true =>
             have hfin:=hbad (hb1 rfl) _ hXu;go_wp2_with fail;go_ret2;exact hfin
           | false =>
             have hpl:=hb2 rfl;clear hb1 hb2;go_upto_block 6 with fail;have hstep:∀ y,zpL nm.data.toList ns x = some y -> goR (LS.drop (i + 1)) y = goR LS none /\ ∀ z,y = some z -> LOk z (2 * (i + 1)):=fun y hy =>
              ⟨by rw [<- hG];exact (zqR (by rw [HNM.out];exact hy) _).symm,fun z hz=>zq1 hok hn64 hy z hz⟩
             have hBw:B <= wc.heap.size:=by have:=hXc.size;have:=HB.out;omega
             have HI:=Lib.hid hn64;have HSTEP:=Lib.hid hstep;have HBAD:=Lib.hid hbad;have HOK:=Lib.hid hok;have HXC:=Lib.hid hXc;have HXU:=Lib.hid hXu;have tl:nm.toList = nm.data.toList:=ByteArray.toList_eq nm;have HTL:=Lib.hid tl;clear hstep hbad hok hXc hXu hG hn64 tl;by_cases q0:nm.data.toList = zc2
             . as_aux_lemma =>
               have e0:nm.toList = [112,108,97,110]:=HTL.out.trans q0;have HQ:=Lib.hid q0;clear q0 hpl;by_cases hck:checkI (nAt ns 0) (nAt ns 1) (nAt ns 2) = 0
               . have HS:=Lib.hid (HSTEP.out (some (LSt.new (nAt ns 0) (nAt ns 1) (nAt ns 2))) (by unfold zpL;rw [if_pos HQ.out,if_pos hck]));have hnew:=fun u=>zph (nAt ns 0) (nAt ns 1) (nAt ns 2) u hck;have HK:=Lib.hid hck;clear hck;go_upto_region 21 with fail;refine Plan.b0 Plan.Ext 15 ?_;refine Plan.qs 10 [0,1,2,3,4,5,6,7,8,9] ?_;iterate 10 go_big_quiet_step (fail)
                 refine Plan.o1 10 fun K hK=>?_;go_wp2_with (fail);refine (hnew _).mono ?_;rintro e w7 ⟨R,Cs,rfl,h7,hat,hcs⟩;have H7:=ExtM.trans _ _ _ (ExtM.refl _).drew h7;obtain ⟨hc7,hf7,-⟩:=Ext.rules H7;have hs7_0:g < w7.heap.size:=by have:=H7.size;(try simp at this);omega
                 go_wp2_with (fail);refine hK _ _ h7 ?_;clear hK K;refine Plan.qs 4 [11,12,13,14] ?_;iterate 4 go_big_quiet_step (fail)
                 refine Plan.dn ?_;have hx7:Ext wc w7:=ExtM.trans _ _ _ (ExtM.refl _).drew h7;have HF:=Lib.hid (⟨hat,hcs⟩:_ /\ _);clear hnew hat hcs h7 H7 hc7 hf7;go_wp2_with fail;go_meet
                 case rel =>
                  obtain ⟨hat,hcs⟩:=HF.out;exact ⟨_,HS.out.1,⟨R,Cs,rfl,hat,fun k hk=>Nat.le_trans hBw (hcs k hk)⟩,ExtM.trans _ _ _ HXC.out hx7,HS.out.2⟩
               . have hnew:=fun u=>zjC (nAt ns 0) (nAt ns 1) (nAt ns 2) u hck;have HL:=Lib.hid (show zpL nm.data.toList ns x = none by unfold zpL;rw [if_pos HQ.out,if_neg hck]);clear hck;go_upto_region 21 with fail;refine Plan.b0 Plan.Ext 15 ?_;refine Plan.qs 10 [0,1,2,3,4,5,6,7,8,9] ?_;iterate 10 go_big_quiet_step (fail)
                 refine Plan.o1 10 fun K hK=>?_;go_wp2_with (fail);refine (hnew _).mono ?_;rintro e w7 ⟨rfl,h7⟩;have H7:=ExtM.trans _ _ _ (ExtM.refl _).drew h7;obtain ⟨hc7,hf7,-⟩:=Ext.rules H7;have hs7_0:g < w7.heap.size:=by have:=H7.size;(try simp at this);omega
                 go_wp2_with (fail);refine hK _ _ h7 ?_;clear hK K;refine Plan.qs 4 [11,12,13,14] ?_;iterate 4 go_big_quiet_step (fail)
                 refine Plan.dn ?_;have hfin:=HBAD.out HL.out _ (ExtM.trans _ _ _ HXU.out (ExtM.trans _ _ _ (ExtM.refl _).drew h7));clear hnew h7 H7 hc7 hf7;go_wp2_with fail;go_ret2;exact hfin
             have n0:(nm.toList == [112,108,97,110]) = false:=by rw [HTL.out];exact beq_false_of_ne q0
             obtain ⟨z,rfl⟩:∃ z,x = some z:=by
              cases x with
              | none=>exact absurd (hpl rfl) q0
              | some z=>exact ⟨z,rfl⟩
             obtain ⟨R,Cs,rfl,hR1,hR2⟩:=hRc5;have hgR:g ≠ R:=fun e=>by
              have h1:Cs R:=by obtain ⟨J,r0,r1,rv,-,rfl⟩:=hR1;exact .inl rfl
              have:=(hR2 R h1).2;have:=hgC.out;omega
             have hgn:¬ Cs g:=fun e=>by have:=(hR2 g e).2;have:=hgC.out;omega
             have hlr:∀ y,zpH nm.data.toList ns z = some y -> zpL nm.data.toList ns (some z) = some (some y):=fun y hy=>by rw [zpJ q0,hy];rfl
             have HLR:=Lib.hid hlr;have HQ0:=Lib.hid q0;clear hlr q0 hpl;have hfinU:∀ (y:LSt) (wx:World),zpH nm.data.toList ns z = some y -> RNUp wc wx R Cs y.e.lo y.e.hi y.e.md y.rs y.l y.e.f0 y.e.f1 -> ∃ y',goR (LS.drop (i + 1)) y' = goR LS none /\ RLAt wx B (.pointer (some ⟨R,0,none⟩)) y' /\ Ext w1 wx /\ ∀ z,y' = some z -> LOk z (2 * (i + 1)):=fun y wx hy hu=>by
              obtain ⟨s1,s2⟩:=HSTEP.out _ (HLR.out y hy);obtain ⟨a1,a2⟩:=RLAt.up y hu hR2 hBw HXC.out HB.out;exact ⟨some y,s1,a1,a2,s2⟩
             have HFU:=Lib.hid hfinU;have hRC:Cs R:=by obtain ⟨J,r0,r1,rv,-,rfl⟩:=hR1;exact .inl rfl
             have lR:=hR1.lt R hRC;clear hfinU;have HR1:=Lib.hid hR1;have HR2:=Lib.hid hR2;by_cases q1:nm.data.toList = wFed
             . skip;have e1:nm.toList = [102,101,100]:=HTL.out.trans q1;have HST:=Lib.hid ((congrArg (fun n=>zpH n ns z) q1).trans (zqA ns z));clear q1;go_upto_region 25 with fail;rename World=>wS;have f2:wS.frozen? ⟨R,2,none⟩ = false /\ wS.frozen? ⟨R,3,none⟩ = false /\ (∃ v,wS.cell? ⟨R,2,none⟩ = some v) /\ ∃ v,wS.cell? ⟨R,3,none⟩ = some v:=by
                obtain ⟨J,r0,r1,rv,hI,-⟩:=hR1;exact ⟨hI.fz 2,hI.fz 3,⟨_,hI.c2⟩,_,hI.c3⟩
               obtain ⟨f2,f3,⟨v2,d2⟩,v3,d3⟩:=f2;go_cut [] from 86 to 86 (fun wx=>RNUp wS wx R Cs z.e.lo z.e.hi z.e.md z.rs z.l (max 0 (nAt ns 0)) (max 0 (nAt ns 1)))
               case first =>
                as_aux_lemma =>
                refine Plan.bT Plan.Ext [12] 13 ?_;refine Plan.qs 10 [0,1,2,3,4,5,6,7,8,9] ?_;iterate 10 go_big_quiet_step (fail)
                refine Plan.o1 10 fun K hK=>?_;go_wp2_with (fail);refine hK _ _ (ExtM.refl _) ?_;clear hK K;refine Plan.qs 1 [11] ?_;go_big_quiet_step (fail);refine Plan.ol 12 fun K hK=>?_;go_wp2_with (fail);refine Plan.dn ?_;go_wp2_with fail;go_meet
                case rel=>exact RNUp.ahead ((ExtM.refl _).drew) (zrV (HR1.out.ext (ExtM.refl _).drew) _ _)
               case rest =>
                as_aux_lemma =>
                obtain ⟨hx9,Cs9,hat9,hf9⟩:=id hcut;obtain ⟨J,cJ,⟨xl,cl⟩,fl,hCJ,hlate⟩:=zrH hat9;have z2:=(hx9.cell (p:=⟨g,2,none⟩) hgw hgn).trans c2;have lg9:g < wc.heap.size:=Nat.lt_of_lt_of_le hgw hx9.size;have lR9:R < wc.heap.size:=Nat.lt_of_lt_of_le lR hx9.size;have lJ9:J < wc.heap.size:=hat9.lt J hCJ;have HLT:=Lib.hid hlate;have HX9:=Lib.hid (⟨hx9,hf9⟩:_ /\ _);clear hcut hlate hx9 hat9 hf9 c0 c1 c2 c3 c4 c5 c6 d2 d3 f2 f3;go_upto_region 26 with fail;refine Plan.bT Plan.Ext [10] 11 ?_;refine Plan.qs 8 [0,1,2,3,4,5,6,7] ?_;iterate 8 go_big_quiet_step (fail)
                refine Plan.o1 8 fun K hK=>?_;go_wp2_with (fail);refine hK _ _ (ExtM.refl _) ?_;clear hK K;refine Plan.qs 1 [9] ?_;go_big_quiet_step (fail);refine Plan.ol 10 fun K hK=>?_;go_wp2_with (fail);refine Plan.dn ?_;go_wp2_with fail;go_meet
                case rel =>
                 exact HFU.out _ _ HST.out (RNUp.then HX9.out.1 HX9.out.2 (HLT.out _ _ ((ExtM.refl _).drew)))
             have n1:(nm.toList == [102,101,100]) = false:=by rw [HTL.out];exact beq_false_of_ne q1
             have HQ1:=Lib.hid q1;clear q1;by_cases q2:nm.data.toList = zbW
             . skip;have e2:nm.toList = [109,97,114,107,115]:=HTL.out.trans q2;have HST:=Lib.hid ((congrArg (fun n=>zpH n ns z) q2).trans (zqh ns z));clear q2;have hz:=HOK.out z rfl;have hpk:=zgW hz.ok.plan;go_upto_region 28 with fail;rename World=>wS;obtain ⟨J,cJ,hmv⟩:=zrl hR1 hpk hz.g.la hz.g.lb hz.g.ta hz.g.tb 0 (nAt ns 0);go_cut [] from 110 to 110 (fun wx=>RNUp wS wx R Cs z.e.lo z.e.hi z.e.md (mvR z.e.lo z.e.hi 0 (nAt ns 0) z.rs) z.l z.e.f0 z.e.f1)
               case first =>
                as_aux_lemma =>
                refine Plan.bT Plan.Ext [7] 8 ?_;refine Plan.zaU 0 (by rfl) (by kernel_rfl) ?_;go_big_quiet_step (fail);refine wpQuiet_nil ?_;refine Plan.zaU 1 (by rfl) (by kernel_rfl) ?_;go_big_quiet_step (fail);refine wpQuiet_nil ?_;refine Plan.zaU 2 (by rfl) (by kernel_rfl) ?_;go_big_quiet_step (fail);refine wpQuiet_nil ?_;refine Plan.qs 1 [3] ?_;go_big_quiet_step (fail);refine Plan.zaU 4 (by rfl) (by kernel_rfl) ?_;go_big_quiet_step (fail);refine wpQuiet_nil ?_;refine Plan.zaU 5 (by rfl) (by kernel_rfl) ?_;go_big_quiet_step (fail);refine wpQuiet_nil ?_;refine Plan.qs 1 [6] ?_;go_big_quiet_step (fail);refine Plan.ol 7 fun K hK=>?_;go_wp2_with (fail);refine (hmv _ (ExtM.refl _).drew).mono ?_;rintro e w9 ⟨c,rfl,-,hu9⟩;go_wp2_with (fail);refine Plan.dn ?_;have hq:=RNUp.ahead ((ExtM.refl _).drew) hu9;clear hu9;go_wp2_with fail;go_meet
                case rel=>exact hq
               case rest =>
                as_aux_lemma =>
                obtain ⟨hx9,Cs9,hat9,hf9⟩:=hcut;have hg2:=hz.g.move z.e.lo z.e.hi 0 (nAt ns 0);obtain ⟨J',cJ',hmv'⟩:=zrl hat9 hpk hg2.la hg2.lb hg2.ta hg2.tb 1 (nAt ns 1);have z1:=(hx9.cell (p:=⟨g,1,none⟩) hgw hgn).trans c1;have lg9:g < wc.heap.size:=Nat.lt_of_lt_of_le hgw hx9.size;have lR9:R < wc.heap.size:=Nat.lt_of_lt_of_le lR hx9.size;have HMV:=Lib.hid hmv';have HX9:=Lib.hid (⟨hx9,hf9⟩:_ /\ _);clear hmv hmv' hx9 hat9 hf9 c0 c1 c2 c3 c4 c5 c6 cJ hg2 hz hpk;go_upto_region 29 with fail;refine Plan.bT Plan.Ext [7] 8 ?_;refine Plan.zaU 0 (by rfl) (by kernel_rfl) ?_;go_big_quiet_step (fail);refine wpQuiet_nil ?_;refine Plan.zaU 1 (by rfl) (by kernel_rfl) ?_;go_big_quiet_step (fail);refine wpQuiet_nil ?_;refine Plan.zaU 2 (by rfl) (by kernel_rfl) ?_;go_big_quiet_step (fail);refine wpQuiet_nil ?_;refine Plan.qs 1 [3] ?_;go_big_quiet_step (fail);refine Plan.zaU 4 (by rfl) (by kernel_rfl) ?_;go_big_quiet_step (fail);refine wpQuiet_nil ?_;refine Plan.zaU 5 (by rfl) (by kernel_rfl) ?_;go_big_quiet_step (fail);refine wpQuiet_nil ?_;refine Plan.qs 1 [6] ?_;go_big_quiet_step (fail);refine Plan.ol 7 fun K hK=>?_;go_wp2_with (fail);refine (HMV.out _ (ExtM.refl _).drew).mono ?_;rintro e w9 ⟨c,rfl,-,hu9⟩;go_wp2_with (fail);refine Plan.dn ?_;have hq:=HFU.out _ _ HST.out (RNUp.then HX9.out.1 HX9.out.2 (RNUp.ahead ((ExtM.refl _).drew) hu9));clear hu9;go_wp2_with fail;go_meet
                case rel=>exact hq
             have n2:(nm.toList == [109,97,114,107,115]) = false:=by rw [HTL.out];exact beq_false_of_ne q2
             have HQ2:=Lib.hid q2;clear q2;by_cases q3:nm.data.toList = wRow
             . as_aux_lemma =>
               have e3:nm.toList = [114,111,119]:=HTL.out.trans q3;have HST:=Lib.hid ((congrArg (fun n=>zpH n ns z) q3).trans (zq2 ns z));clear q3;have hz:=HOK.out z rfl;obtain ⟨J,cJ,hput⟩:=zrZ hR1 ⟨hz.g.c0,by have:=hz.g.c1;have:=hln.1;omega⟩ (nAt ns 0) (nAt ns 1) (nAt ns 2) (nAt ns 3) (nAt ns 4);clear hz;go_upto_region 31 with fail;have hnR:¬ (Cs R /\ R ≠ R):=fun e=>e.2 rfl;have hnG:¬ (Cs g /\ g ≠ R):=fun e=>hgn e.1;refine Plan.b0 (Plan.ExtL R g) 21 ?_;refine Plan.qs 12 [0,1,2,3,4,5,6,7,8,9,10,11] ?_;iterate 12 go_big_quiet_step (fail)
               refine Plan.qs 8 [12,13,14,15,16,17,18,19] ?_;iterate 8 go_big_quiet_step (fail)
               refine Plan.o1 20 fun K hK=>?_;go_wp2_with (fail);refine (hput _ (ExtM.refl _).drew).mono ?_;rintro e w7 ⟨c,rfl,h7,hu9⟩;have H7:=ExtL.trans _ _ _ (ExtL.refl _).drew (ExtL.of_M hnR hnG h7);obtain ⟨hc7,hf7,-⟩:=ExtL.rules H7;have hs7_0:R < w7.heap.size:=by have:=H7.size;(try simp at this);omega
               have hs7_1:g < w7.heap.size:=by have:=H7.size;(try simp at this);omega
               go_wp2_with (fail);refine hK _ _ (ExtL.of_M hnR hnG h7) ?_;clear hK K;refine Plan.dn ?_;have hq:=HFU.out _ _ HST.out (RNUp.ahead ((ExtM.refl _).drew) hu9);clear hu9 h7 H7 hc7 hf7;go_wp2_with fail;go_meet
               case rel=>exact hq
             have n3:(nm.toList == [114,111,119]) = false:=by rw [HTL.out];exact beq_false_of_ne q3
             have HQ3:=Lib.hid q3;clear q3;by_cases q4:nm.data.toList = wOut
             . skip;have e4:nm.toList = [111,117,116]:=HTL.out.trans q4;have HST:=Lib.hid ((congrArg (fun n=>zpH n ns z) q4).trans (zqC ns z));have HBZ:=Lib.hid (show zpK ns = true -> zpL nm.data.toList ns (some z) = none from fun h=>by rw [zpJ HQ0.out,HST.out,if_pos h];rfl);have HZ:=Lib.hid (HOK.out z rfl);have h64:=zqa HI.out 0;clear q4;obtain ⟨q,hv0⟩:∃ q,q = nAt ns 0:=⟨_,rfl⟩
               obtain ⟨rk,hv1⟩:∃ q,q = nAt ns 1:=⟨_,rfl⟩
               obtain ⟨rt,hv2⟩:∃ q,q = nAt ns 2:=⟨_,rfl⟩
               obtain ⟨rv,hv3⟩:∃ q,q = nAt ns 3:=⟨_,rfl⟩
               obtain ⟨sk,hv4⟩:∃ q,q = nAt ns 4:=⟨_,rfl⟩
               obtain ⟨s2,hv5⟩:∃ q,q = nAt ns 5:=⟨_,rfl⟩
               obtain ⟨sv,hv6⟩:∃ q,q = nAt ns 6:=⟨_,rfl⟩
               have HOB:=Lib.hid (show zpK ns = ((decide (q = 3) && (decide (rk ≠ sk) || !za3 sk s2 sv)) || !za3 rk rt rv) by rw [hv0,hv1,hv2,hv3,hv4,hv5,hv6];rfl);have HOO:=Lib.hid (show outO ns = if q = 3 then zbs ⟨rk,rt,rv⟩ ⟨sk,s2,sv⟩ else zpQ (q - 1) ⟨rk,rt,rv⟩ by rw [hv0,hv1,hv2,hv3,hv4,hv5,hv6];rfl);rw [<- hv0] at c0;rw [<- hv1] at c1;rw [<- hv2] at c2;rw [<- hv3] at c3;rw [<- hv4] at c4;rw [<- hv5] at c5;rw [<- hv6] at c6;rw [<- hv0] at h64;clear hv0 hv1 hv2 hv3 hv4 hv5 hv6;go_upto_region 33 with fail;rename World=>wS;go_cut [14,15] from 151 to 151 (fun s14 s15 wx=>TwoR wS wx s14 s15 ⟨rk,rt,rv⟩ ⟨sk,s2,sv⟩)
               case first =>
                as_aux_lemma =>
                refine Plan.bT (Plan.ExtF wS.heap.size) [23] 24 ?_;refine Plan.qs 12 [0,1,2,3,4,5,6,7,8,9,10,11] ?_;iterate 12 go_big_quiet_step (fail)
                refine Plan.qs 8 [12,13,14,15,16,17,18,19] ?_;iterate 8 go_big_quiet_step (fail)
                refine Plan.o2 20 21 (fun K hK=>?_) fun K hK=>?_
                focus
                 go_wp2_with (fail);refine hK _ _ ((ExtF.refl _).alloc _) ?_;clear hK K;refine Plan.o1 21 fun K hK=>?_;go_wp2_with (fail);refine hK _ _ ((ExtF.refl _).alloc _) ?_;clear hK K
                rotate_left
                focus
                 go_wp2_with (fail);refine hK _ _ ((ExtF.refl _).alloc _) ?_;clear hK K;refine Plan.o1 20 fun K hK=>?_;go_wp2_with (fail);refine hK _ _ ((ExtF.refl _).alloc _) ?_;clear hK K
                . refine Plan.o1 22 fun K hK=>?_;go_wp2_with (fail);refine hK _ _ (zqF _ _ _ _ _) ?_;clear hK K;refine Plan.ol 23 fun K hK=>?_;go_wp2_with (fail);refine Plan.dn ?_;go_wp2_with fail;go_meet
                  case rel=>exact zsc _ ⟨rk,rt,rv⟩ ⟨sk,s2,sv⟩ _
                . refine Plan.o1 22 fun K hK=>?_;go_wp2_with (fail);refine hK _ _ (zqF _ _ _ _ _) ?_;clear hK K;refine Plan.ol 23 fun K hK=>?_;go_wp2_with (fail);refine Plan.dn ?_;go_wp2_with fail;go_meet
                  case rel=>exact zrW _ ⟨rk,rt,rv⟩ ⟨sk,s2,sv⟩ _
               case rest =>
                obtain ⟨P1,P2,rfl,rfl,hP1,hP2,hPP,hxT,a0,a1,a2,d0,d1,d2⟩:=hcut;simp only at a0 a1 a2 d0 d1 d2;obtain ⟨gr,hgr⟩:∃ x,x = za3 rk rt rv:=⟨_,rfl⟩
                obtain ⟨gs,hgs⟩:∃ x,x = za3 sk s2 sv:=⟨_,rfl⟩
                have hgrd:∀ w,Calls Tryz.prog 36 #[.agg #[.int .i64 rk,.int .i64 rt,.int .i64 rv]] w fun e w'=>e = .returned (.bool gr) /\ Ext w w':=fun w=>by rw [hgr];exact zlk rk rt rv w
                have hgsd:∀ w,Calls Tryz.prog 36 #[.agg #[.int .i64 sk,.int .i64 s2,.int .i64 sv]] w fun e w'=>e = .returned (.bool gs) /\ Ext w w':=fun w=>by rw [hgs];exact zlk sk s2 sv w
                have HOB:=Lib.hid (show zpK ns = ((decide (q = 3) && (decide (rk ≠ sk) || !gs)) || !gr) by rw [HOB.out,hgr,hgs]);clear hgr hgs;have HBf:=Lib.hid (show gr = false -> zpK ns = true from fun h=>by rw [HOB.out,h];simp);obtain ⟨qs,hqs⟩:∃ x,x = IntKind.i64.wrap (q - 1):=⟨_,rfl⟩
                obtain ⟨o1,ho1⟩:∃ x,x = zpQ (q - 1) ⟨rk,rt,rv⟩:=⟨_,rfl⟩
                have hlone:∀ w,Calls Tryz.prog 34 #[.int .i64 qs,.agg #[.int .i64 rk,.int .i64 rt,.int .i64 rv]] w fun e w'=>e = .returned (.agg #[.int .i64 o1.key,.int .i64 o1.l.k,.int .i64 o1.l.t,.int .i64 o1.l.v,.int .i64 o1.r.k,.int .i64 o1.r.t,.int .i64 o1.r.v,.bool o1.hl,.bool o1.hr]) /\ Ext w w':=fun w=>by rw [hqs,ho1];exact zr1 q rk rt rv w h64
                have HOO:=Lib.hid (show outO ns = if q = 3 then zbs ⟨rk,rt,rv⟩ ⟨sk,s2,sv⟩ else o1 by rw [HOO.out,ho1]);have hsb:IntKind.i64.wrap (q - 1) = qs:=hqs.symm;clear hqs ho1 h64;have z0:=(hxT.cell (p:=⟨g,0,none⟩) hgw id).trans c0;have lgT:=Nat.lt_of_lt_of_le hgw hxT.size;have lP1:P1 < wc.heap.size:=zac a0;have lP2:P2 < wc.heap.size:=zac d0;have HXT:=Lib.hid hxT;clear hxT c0 c1 c2 c3 c4 c5 c6;go_upto_region 34 with fail;rename World=>wT;go_cut [16] from 171 to 171 (fun s16 wx=>zhA wT wx s16 (outL o1))
                case first =>
                 skip;refine Plan.bT Plan.Ext [7] 8 ?_;refine Plan.qs 5 [0,1,2,3,4] ?_;iterate 5 go_big_quiet_step (fail)
                 refine Plan.o2 5 6 (fun K hK=>?_) fun K hK=>?_
                 focus
                  go_wp2_with (fail);refine (hlone _).mono ?_;rintro e w7 ⟨rfl,h7⟩;have H7:=ExtM.trans _ _ _ (ExtM.refl _).drew h7;obtain ⟨hc7,hf7,-⟩:=Ext.rules H7;have hs7_0:g < w7.heap.size:=by have:=H7.size;(try simp at this);omega
                  have hs7_1:P1 < w7.heap.size:=by have:=H7.size;(try simp at this);omega
                  go_wp2_with (fail);refine hK _ _ h7 ?_;clear hK K;refine Plan.o1 6 fun K hK=>?_;go_wp2_with (fail);refine hK _ _ ((ExtM.refl _).alloc _) ?_;clear hK K
                 rotate_left
                 focus
                  go_wp2_with (fail);refine hK _ _ ((ExtM.refl _).alloc _) ?_;clear hK K;refine Plan.o1 5 fun K hK=>?_;go_wp2_with (fail);refine (hlone _).mono ?_;rintro e w7 ⟨rfl,h7⟩;have H7:=ExtM.trans _ _ _ ((ExtM.refl _).drew.alloc _) h7;obtain ⟨hc7,hf7,-⟩:=Ext.rules H7;have hs7_0:g < w7.heap.size:=by have:=H7.size;(try simp at this);omega
                  have hs7_1:P1 < w7.heap.size:=by have:=H7.size;(try simp at this);omega
                  go_wp2_with (fail);refine hK _ _ h7 ?_;clear hK K
                 . obtain ⟨hbx,hfz,hlt⟩:=zbm h7;have n0:=hbx 0 _ rfl;have n1:=hbx 1 _ rfl;have n2:=hbx 2 _ rfl;have n3:=hbx 3 _ rfl;have n4:=hbx 4 _ rfl;have n5:=hbx 5 _ rfl;have n6:=hbx 6 _ rfl;have n7:=hbx 7 _ rfl;have n8:=hbx 8 _ rfl;refine Plan.ol 7 fun K hK=>?_;go_wp2_with (fail);refine Plan.dn ?_;go_wp2_with fail;refine zrb (fun w=>zhA wT w _ (outL o1)) (outA o1 H7 hbx hfz hlt) fun wz hq=>?_;go_meet
                   case rel=>exact hq
                 . refine Plan.ol 7 fun K hK=>?_;go_wp2_with (fail);refine Plan.dn ?_;go_wp2_with fail;refine zrb (fun w=>zhA wT w _ (outL o1)) (outB o1 H7) fun wz hq=>?_;go_meet
                   case rel=>exact hq
                case rest =>
                 obtain ⟨Bo,rfl,hBo,hBl,hx9,hno,hfo⟩:=hcut;have y0:=(hx9.cell (p:=⟨g,0,none⟩) lgT id).trans z0;have a0:=(hx9.cell (p:=⟨P1,0,none⟩) lP1 id).trans a0;have a1:=(hx9.cell (p:=⟨P1,1,none⟩) lP1 id).trans a1;have a2:=(hx9.cell (p:=⟨P1,2,none⟩) lP1 id).trans a2;have d0:=(hx9.cell (p:=⟨P2,0,none⟩) lP2 id).trans d0;have d1:=(hx9.cell (p:=⟨P2,1,none⟩) lP2 id).trans d1;have d2:=(hx9.cell (p:=⟨P2,2,none⟩) lP2 id).trans d2;have n1B:P1 ≠ Bo:=by omega
                 have n2B:P2 ≠ Bo:=by omega
                 have l1:P1 < wc.heap.size:=zac a0;have l2:P2 < wc.heap.size:=zac d0;have lg9:=Nat.lt_of_lt_of_le lgT hx9.size;have HX9:=Lib.hid (ExtM.trans _ _ _ HXT.out hx9:Ext wS wc);have hBoS:wS.heap.size <= Bo:=by have:=HXT.out.size;omega
                 have lRc:R < wc.heap.size:=Nat.lt_of_lt_of_le lR HX9.out.size;clear hx9 z0 hlone hsb;by_cases q3:q = 3
                 . skip;have HQ3':=Lib.hid q3;have HBs:=Lib.hid (show gs = false -> zpK ns = true from fun h=>by rw [HOB.out,q3,h];simp);have HBk:=Lib.hid (show rk ≠ sk -> zpK ns = true from fun h=>by rw [HOB.out,q3];simp [h]);have HBg:=Lib.hid (show rk = sk -> gs = true -> gr = true -> zpK ns = false from fun h h1 h2=>by rw [HOB.out,h1,h2,h];simp);have y3:=y0;rw [q3] at y3;clear y0;have HNO:=Lib.hid hno;have HFO:=Lib.hid hfo;clear hno hfo q3;go_upto_region 36 with fail;rename World=>wV;go_cut [] from 181 to 181 (fun wx=>znl wV wx Bo (outL (zbs ⟨rk,rt,rv⟩ ⟨sk,s2,sv⟩)))
                   case first =>
                    skip;go_wp2_with (go_at_call 35;refine (zes rk rt rv sk s2 sv _).mono ?_;rintro e w8 ⟨rfl,hx8⟩;refine Hid.out ?_);refine Lib.hid ?_;have k8:=fun o=>hx8.cell (p:=⟨Bo,o,none⟩) hBl id;have n0:=(k8 _).trans (HNO.out 0 _ rfl);have n1:=(k8 _).trans (HNO.out 1 _ rfl);have n2:=(k8 _).trans (HNO.out 2 _ rfl);have n3:=(k8 _).trans (HNO.out 3 _ rfl);have n4:=(k8 _).trans (HNO.out 4 _ rfl);have n5:=(k8 _).trans (HNO.out 5 _ rfl);have n6:=(k8 _).trans (HNO.out 6 _ rfl);have n7:=(k8 _).trans (HNO.out 7 _ rfl);have n8:=(k8 _).trans (HNO.out 8 _ rfl);have hfo:=fun o=>(hx8.frozen (p:=⟨Bo,o,none⟩) hBl id).trans (HFO.out o);have hB8:=Nat.lt_of_lt_of_le hBl hx8.size;clear k8;go_wp2_with fail;go_meet
                    case rel=>exact zpB (zbs ⟨rk,rt,rv⟩ ⟨sk,s2,sv⟩) hx8 hBl HNO.out
                   case rest =>
                    obtain ⟨hxB,hnoB⟩:=hcut;have a0:=(hxB.cell (p:=⟨P1,0,none⟩) l1 n1B).trans a0;have a1:=(hxB.cell (p:=⟨P1,1,none⟩) l1 n1B).trans a1;have a2:=(hxB.cell (p:=⟨P1,2,none⟩) l1 n1B).trans a2;have d0:=(hxB.cell (p:=⟨P2,0,none⟩) l2 n2B).trans d0;have d1:=(hxB.cell (p:=⟨P2,1,none⟩) l2 n2B).trans d1;have d2:=(hxB.cell (p:=⟨P2,2,none⟩) l2 n2B).trans d2;have l1:P1 < wc.heap.size:=zac a0;have l2:P2 < wc.heap.size:=zac d0;have HXB:=Lib.hid (HX9.out.fresh' hxB (fun k hk e=>by omega):Ext wS wc);have lRB:R < wc.heap.size:=Nat.lt_of_lt_of_le lR HXB.out.size;have lBB:Bo < wc.heap.size:=Nat.lt_of_lt_of_le hBl hxB.size;have HNB:=Lib.hid hnoB;clear hxB hnoB y3;by_cases hk:rk = sk
                    . have hne:(rk != sk) = false:=by simp [hk]
                      have HK:=Lib.hid hk;clear hk;cases gs with
                      | false =>
                        go_wp2_with (go_at_call 36;refine (hgsd _).mono ?_;rintro e w8 ⟨rfl,hx8⟩);have hfin:=HBAD.out (HBZ.out (HBs.out (by simp))) _ (ExtM.trans _ _ _ HXU.out (ExtM.trans _ _ _ HXB.out hx8));go_ret2;exact hfin
                      | true =>
                        go_upto_region 39 with (go_at_call 36;(with_reducible refine (hgsd _).mono ?_);rintro e w8 ⟨rfl,hx8⟩)
                        have k8:=fun o=>hx8.cell (p:=⟨P1,o,none⟩) l1 id;have a0:=(k8 _).trans a0;have a1:=(k8 _).trans a1;have a2:=(k8 _).trans a2;have l1:P1 < w8.heap.size:=zac a0;clear k8;skip;cases gr with
                        | false =>
                          go_wp2_with (go_at_call 36;(with_reducible refine (hgrd _).mono ?_);rintro e w9 ⟨rfl,hx9⟩);have hfin:=HBAD.out (HBZ.out (HBf.out (by simp))) _ (ExtM.trans _ _ _ HXU.out (ExtM.trans _ _ _ HXB.out (ExtM.trans _ _ _ hx8 hx9)));go_ret2;exact hfin
                        | true =>
                          go_upto_region 41 with (go_at_call 36;(with_reducible refine (hgrd _).mono ?_);rintro e w9 ⟨rfl,hx9⟩)
                          have hxe:Ext wc w9:=ExtM.trans _ _ _ hx8 hx9;have hn9:=fun j v hj=>(hxe.cell (p:=⟨Bo,j,none⟩) lBB id).trans (HNB.out j v hj);have m0:=hn9 0 _ rfl;have m1:=hn9 1 _ rfl;have m2:=hn9 2 _ rfl;have m3:=hn9 3 _ rfl;have m4:=hn9 4 _ rfl;have m5:=hn9 5 _ rfl;have m6:=hn9 6 _ rfl;have m7:=hn9 7 _ rfl;have m8:=hn9 8 _ rfl;have HX:=Lib.hid (ExtM.trans _ _ _ HXB.out hxe:Ext wS w9);have lB9:Bo < w9.heap.size:=zac m0;have lR9:R < w9.heap.size:=Nat.lt_of_lt_of_le lR HX.out.size;have hadd:=zrC (HR1.out.ext HX.out) (by have:=HZ.out.p.length_eq;have:=HZ.out.lv;omega) (zbs ⟨rk,rt,rv⟩ ⟨sk,s2,sv⟩);clear hxe hn9 hgrd hgsd a0 a1 a2 d0 d1 d2;refine Plan.bT Plan.Ext [5] 6 ?_;refine Plan.zaU 0 (by rfl) (by kernel_rfl) ?_;go_big_quiet_step (fail);refine wpQuiet_nil ?_;refine Plan.zaU 1 (by rfl) (by kernel_rfl) ?_;go_big_quiet_step (fail);refine wpQuiet_nil ?_;refine Plan.qs 1 [2] ?_;go_big_quiet_step (fail);refine Plan.o1 3 fun K hK=>?_;go_wp2_with (fail);refine hK _ _ (ExtM.refl _) ?_;clear hK K;refine Plan.qs 1 [4] ?_;go_big_quiet_step (fail);refine Plan.ol 5 fun K hK=>?_;go_wp2_with (fail);refine (hadd _ (ExtM.refl _).drew).mono ?_;rintro e w12 ⟨rfl,hu⟩;go_wp2_with (fail);refine Plan.dn ?_;rw [<- show outO ns = (zbs ⟨rk,rt,rv⟩ ⟨sk,s2,sv⟩) from (HOO.out.trans (if_pos HQ3'.out))] at hu;have hq9:=HFU.out _ _ (HST.out.trans (if_neg (by rw [show zpK ns = false from (HBg.out HK.out (by simp) (by simp))];decide))) (RNUp.ahead (ExtM.trans _ _ _ HX.out ((ExtM.refl _).drew)) hu);clear hu;go_wp2_with fail;go_meet
                          case rel=>exact hq9
                    . have hne:(rk != sk) = true:=by simp [hk]
                      have HK:=Lib.hid hk;clear hk;go_wp2_with fail;have hfin:=HBAD.out (HBZ.out (HBk.out HK.out)) _ (ExtM.trans _ _ _ HXU.out HXB.out);go_ret2;exact hfin
                 . skip;have hq:(q == 3) = false:=by simpa using q3
                   have HQ3':=Lib.hid q3;have HBg:=Lib.hid (show gr = true -> zpK ns = false from fun h=>by rw [HOB.out,h];simp [q3]);have HNO:=Lib.hid hno;clear hno q3 hfo;skip;cases gr with
                   | false =>
                     go_wp2_with (go_at_call 36;(with_reducible refine (hgrd _).mono ?_);rintro e w9 ⟨rfl,hx9⟩);have hfin:=HBAD.out (HBZ.out (HBf.out (by simp))) _ (ExtM.trans _ _ _ HXU.out (ExtM.trans _ _ _ HX9.out (hx9)));go_ret2;exact hfin
                   | true =>
                     go_upto_region 41 with (go_at_call 36;(with_reducible refine (hgrd _).mono ?_);rintro e w9 ⟨rfl,hx9⟩)
                     have hxe:Ext wc w9:=hx9;have hn9:=fun j v hj=>(hxe.cell (p:=⟨Bo,j,none⟩) hBl id).trans (HNO.out j v hj);have m0:=hn9 0 _ rfl;have m1:=hn9 1 _ rfl;have m2:=hn9 2 _ rfl;have m3:=hn9 3 _ rfl;have m4:=hn9 4 _ rfl;have m5:=hn9 5 _ rfl;have m6:=hn9 6 _ rfl;have m7:=hn9 7 _ rfl;have m8:=hn9 8 _ rfl;have HX:=Lib.hid (ExtM.trans _ _ _ HX9.out hxe:Ext wS w9);have lB9:Bo < w9.heap.size:=zac m0;have lR9:R < w9.heap.size:=Nat.lt_of_lt_of_le lR HX.out.size;have hadd:=zrC (HR1.out.ext HX.out) (by have:=HZ.out.p.length_eq;have:=HZ.out.lv;omega) o1;clear hxe hn9 hgrd hgsd a0 a1 a2 d0 d1 d2;refine Plan.bT Plan.Ext [5] 6 ?_;refine Plan.zaU 0 (by rfl) (by kernel_rfl) ?_;go_big_quiet_step (fail);refine wpQuiet_nil ?_;refine Plan.zaU 1 (by rfl) (by kernel_rfl) ?_;go_big_quiet_step (fail);refine wpQuiet_nil ?_;refine Plan.qs 1 [2] ?_;go_big_quiet_step (fail);refine Plan.o1 3 fun K hK=>?_;go_wp2_with (fail);refine hK _ _ (ExtM.refl _) ?_;clear hK K;refine Plan.qs 1 [4] ?_;go_big_quiet_step (fail);refine Plan.ol 5 fun K hK=>?_;go_wp2_with (fail);refine (hadd _ (ExtM.refl _).drew).mono ?_;rintro e w12 ⟨rfl,hu⟩;go_wp2_with (fail);refine Plan.dn ?_;rw [<- show outO ns = o1 from (HOO.out.trans (if_neg HQ3'.out))] at hu;have hq9:=HFU.out _ _ (HST.out.trans (if_neg (by rw [show zpK ns = false from (HBg.out (by simp))];decide))) (RNUp.ahead (ExtM.trans _ _ _ HX.out ((ExtM.refl _).drew)) hu);clear hu;go_wp2_with fail;go_meet
                     case rel=>exact hq9
             . have n4:(nm.toList == [111,117,116]) = false:=by rw [HTL.out];exact beq_false_of_ne q4
               have hq:=HFU.out _ wc (zqu HQ1.out HQ2.out HQ3.out q4 ns z) (RNUp.same hR1 (ExtM.refl _));clear q4;go_wp2_with fail;go_meet
               case rel=>exact hq
   . obtain rfl:i = ls.length:=by omega
     have hz:decide (ls.length < ls.length) = false:=by simp
     have hz2:decide ((ls.length:Int) < ls.length) = false:=by simp
     rw [List.drop_eq_nil_of_le (by rw [hLS,List.length_map];exact Nat.le_refl _)] at hG;go_wp2_with fail;go_meet
     case rel=>exact ⟨x,hX,hR,hG.symm,fun z hz=>(hok z hz).mono (by omega)⟩
 case rest =>
  obtain ⟨x,hX,hR,hG,hok⟩:=hcut;have hLr:=hL1.ext hX;have hgo:goR ((cutA s.data.toList).map Lib.fieldsD) none = some x:=by
   rw [show (cutA s.data.toList).map Lib.fieldsD = LS by rw [<- HLS.out,hLS,List.map_map];rfl];exact hG
  have HXU:=Lib.hid (ExtM.trans _ _ _ hx1 hX:Ext u wc);have hbad:zpN s.data.toList = none -> ∀ w',Ext u w' -> zpT u s.data.toList (.returned (.tuple #[.pointer none,.int .i64 3])) w':=fun h w' hw'=>by
   unfold zpT;rw [h];exact ⟨rfl,hw'⟩
  have hrl:zpN s.data.toList = x.bind fun x=>if savedT x.e = s.data.toList then some x else none:=by
   unfold zpN;cases x <;> simp only [hgo] <;> rfl
  clear hG hgo hLS hcell hln hX;cases x with
  | none =>
    as_aux_lemma =>
    obtain rfl:u5 = .pointer none:=hR;have hfin:=hbad hrl _ HXU.out;clear hbad hrl;go_wp2_with fail;go_ret2;exact hfin
  | some x =>
    obtain ⟨R,Cs,rfl,hR1,hR2⟩:=hR;have hz:=hok x rfl;have hsok:=hz.ok.sok (by have:=hz.lv;omega);have hrs:=zmK hR1 ⟨x.e.lo,x.e.hi,x.e.md,x.e.st,x.l,x.e.f0,x.e.f1⟩ rfl (SOk.permR hsok hz.p) hz.g hLr.2.1;have hpe:savedT ⟨x.e.lo,x.e.hi,x.e.md,x.e.st,x.l,x.e.f0,x.e.f1⟩ = savedT x.e:=zhy (e:=x.e) hz.p;rw [hpe] at hrs;have hrl:zpN s.data.toList = if savedT x.e = s.data.toList then some x else none:=hrl;have HOK:=Lib.hid hz;clear hpe hsok hz hok;have HR:=Lib.hid (⟨hR1,hR2⟩:_ /\ _);clear hR1 hR2;by_cases hbig:60000 < (savedT x.e).length
    . as_aux_lemma =>
      have hne:savedT x.e ≠ s.data.toList:=fun h=>by rw [h] at hbig;omega
      rw [if_neg hne] at hrl;rw [show zf9 (savedT x.e) = .returned (.tuple #[.string ByteArray.empty,.int .i64 4]) from if_pos hbig] at hrs;clear hbig hne;have HBB:=Lib.hid (hbad hrl);clear hrl hbad;go_wp2_with (go_at_call 15;refine hrs.mono ?_;rintro e w9 ⟨rfl,hx9⟩;refine Hid.out ?_);refine Lib.hid ?_;have hfin:=HBB.out _ (ExtM.trans _ _ _ HXU.out hx9);clear hrs hx9;go_wp2_with fail;go_ret2;exact hfin
    . rw [show zf9 (savedT x.e) = .returned (.tuple #[.string ⟨(savedT x.e).toArray⟩,.int .i64 0]) from if_neg hbig] at hrs;have hT1:(ByteArray.mk (savedT x.e).toArray).toList = savedT x.e:=by rw [Lib.toList_data]
      have hT2:=Lib.toList_data s;by_cases hTs:savedT x.e = s.data.toList
      . as_aux_lemma =>
        have hbs:ByteArray.mk (savedT x.e).toArray = s:=by
         obtain ⟨⟨l⟩⟩:=s;simp only at hTs;rw [hTs]
        rw [hbs] at hrs;rw [if_pos hTs] at hrl;have hfin:∀ w9,Ext wc w9 -> zpT u s.data.toList (.returned (.tuple #[.pointer (some ⟨R,0,none⟩),.int .i64 0])) w9:=fun w9 hx9=>by
         obtain ⟨hat,hCs⟩:=HR.out;unfold zpT;rw [hrl];exact ⟨R,Cs,rfl,hat.ext hx9,fun k hk=>by have:=hCs k hk;have:=HB.out;have:=hx1.size;omega,ExtM.trans _ _ _ HXU.out hx9,HOK.out⟩
        have HFF:=Lib.hid hfin;clear hfin hrl hTs hT1 hT2 hbs hbad hbig;go_wp2_with (go_at_call 15;refine hrs.mono ?_;rintro e w9 ⟨rfl,hx9⟩;refine Hid.out ?_);refine Lib.hid ?_;have hfin:=HFF.out _ hx9;clear hrs hx9;go_wp2_with fail;go_ret2;exact hfin
      . as_aux_lemma =>
        rw [if_neg hTs] at hrl;have hne1:(savedT x.e == s.toList) = false:=by rw [hT2];exact beq_false_of_ne hTs
        have HBB:=Lib.hid (hbad hrl);clear hrl hbad hTs hT1 hT2 HR HOK hbig;generalize savedT x.e = T at *;go_wp2_with (go_at_call 15;refine hrs.mono ?_;rintro e w9 ⟨rfl,hx9⟩;refine Hid.out ?_);refine Lib.hid ?_;have hfin:=HBB.out _ (ExtM.trans _ _ _ HXU.out hx9);clear hrs hx9;go_wp2_with fail;go_ret2;exact hfin
end Go.Proofs.YtmcgnnmffeojpabGreatDoor
